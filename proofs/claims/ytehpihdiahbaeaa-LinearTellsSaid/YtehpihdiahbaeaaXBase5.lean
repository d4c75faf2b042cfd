/- What the rows of this seat rest on, part 5: an abstract machine for the model, proved sound, and the functions that the statements reach. No conditions. -/
import Derived.Test.YtehpihdiahbaeaaXBase4
set_option linter.unusedVariables false
set_option linter.unusedSimpArgs false
set_option linter.unnecessarySimpa false
set_option linter.unusedSectionVars false
section
/- What arith.Parse answers. -/
namespace Go.Abs
open Go.Proofs Go.Dig
theorem bytes_len (s : ByteArray) : (bytesOf s).length = s.size := by
  unfold bytesOf
  rw [List.length_map]
  rfl
theorem bt_nat (s : ByteArray) (i : Nat) : bt s (i : Int) = (bytesOf s).getD i 0 := by
  unfold bt bytesOf
  rw [Int.toNat_natCast, List.getD_eq_getElem?_getD, List.getD_eq_getElem?_getD, List.getElem?_map]
  cases s.data.toList[i]? <;> rfl
theorem bytes_extract (s : ByteArray) (a b : Nat) : bytesOf (s.extract a b) = ((bytesOf s).take b).drop a := by
  unfold bytesOf
  rw [ByteArray.data_extract, Array.toList_extract, ← List.map_take, ← List.map_drop]
  congr 1
  simp [List.extract, List.drop_take]
theorem dval_app (l m : List Int) : dval (l ++ m) = dval l * 10 ^ m.length + dval m := by
  unfold dval
  rw [List.reverse_append, List.map_append, val_append, List.length_map, List.length_reverse, Int.mul_comm]
  omega
theorem dval_one (c : Int) : dval [c] = c - 48 := by simp [dval, val]
theorem dig_iff {c : Int} : isDig c = true ↔ 48 ≤ c ∧ c ≤ 57 := by unfold isDig; simp
theorem dval_bound : ∀ (l : List Int), l.all isDig = true → 0 ≤ dval l ∧ dval l < 10 ^ l.length := by
  intro l h
  have ok : okB 10 (l.reverse.map (· - 48)) = true := by
    refine okB_iff.2 (fun d hd => ?_)
    obtain ⟨c, hc, rfl⟩ := List.mem_map.1 hd
    have := dig_iff.1 (List.all_eq_true.1 h c (List.mem_reverse.1 hc))
    omega
  have h1 := val_lt (by decide) ok
  rw [List.length_map, List.length_reverse] at h1
  exact ⟨val_nonneg (by decide) ok, h1⟩
theorem all_take {l : List Int} (h : l.all isDig = true) (n : Nat) : (l.take n).all isDig = true := List.all_eq_true.2 fun x hx => List.all_eq_true.1 h x (List.mem_of_mem_take hx)
theorem all_drop {l : List Int} (h : l.all isDig = true) (n : Nat) : (l.drop n).all isDig = true := List.all_eq_true.2 fun x hx => List.all_eq_true.1 h x (List.mem_of_mem_drop hx)
theorem pow10_le {k : Nat} (h : k ≤ 9) : (1 : Int) ≤ 10 ^ k ∧ (10 : Int) ^ k ≤ 1000000000 := by
  have h1 : (10 : Int) ^ k * 10 ^ (9 - k) = 1000000000 := by rw [← Int.pow_add, show k + (9 - k) = 9 by omega]; rfl
  have h2 : (0 : Int) < 10 ^ k := Int.pow_pos (by decide)
  have h3 : (0 : Int) < 10 ^ (9 - k) := Int.pow_pos (by decide)
  refine ⟨by omega, ?_⟩
  have : (10 : Int) ^ k * 1 ≤ 10 ^ k * 10 ^ (9 - k) := Int.mul_le_mul_of_nonneg_left (by omega) (by omega)
  omega
theorem scaleL_ok (l : List Int) (m a : Int) : okB 4294967296 (scaleL l m a) = true := by
  unfold scaleL
  cases decide (val 4294967296 l * m + a < 4294967296 ^ l.length) <;> exact digN_ok W_pos _ _
theorem scaleL_len (l : List Int) (m a : Int) : (scaleL l m a).length ≤ l.length + 1 := by
  unfold scaleL
  cases decide (val 4294967296 l * m + a < 4294967296 ^ l.length) <;> simp only [cond_true, cond_false] <;> rw [digN_length] <;> omega
theorem scaleL_val {l : List Int} {m a : Int} (ol : okB 4294967296 l = true) (hm : 0 ≤ m ∧ m < 4294967296) (ha : 0 ≤ a ∧ a < 4294967296) : val 4294967296 (scaleL l m a) = val 4294967296 l * m + a := by
  have v0 := val_nonneg W_pos ol
  have v1 := val_lt W_pos ol
  have h0 : 0 ≤ val 4294967296 l * m := Int.mul_nonneg v0 hm.1
  have hP : (0 : Int) < 4294967296 ^ l.length := Int.pow_pos (by decide)
  unfold scaleL
  by_cases h : val 4294967296 l * m + a < 4294967296 ^ l.length
  · rw [decide_eq_true h]
    exact val_digN W_pos _ _ (by omega) h
  · rw [decide_eq_false h]
    refine val_digN W_pos _ _ (by omega) ?_
    rw [Int.pow_succ]
    have h1 : val 4294967296 l * m ≤ (4294967296 ^ l.length - 1) * 4294967295 := Int.mul_le_mul (by omega) (by omega) hm.1 (by omega)
    rw [Int.sub_mul] at h1
    omega
theorem min_eq (n i : Nat) (hn : n ≤ 100000) (hi : i ≤ n) : (bif false then if (n : Int) > IntKind.i64.wrap ((i : Int) + 9) then (n : Int) else IntKind.i64.wrap ((i : Int) + 9) else if (n : Int) < IntKind.i64.wrap ((i : Int) + 9) then (n : Int) else IntKind.i64.wrap ((i : Int) + 9)) = ((min (i + 9) n : Nat) : Int) := by
  rw [w64 (by omega) (by omega)]
  simp only [cond_false]
  split <;> omega
namespace Parse
theorem validA (s : ByteArray) (hD : s.size ≤ 10000) (b6 b7 b8 : Bool) :
    ∃ e S1, Ends T orc L0a D0a (st0a s b6 b7 b8 0) e S1 ∧ ((e = .exit 0 ∧ (bytesOf s).all isDig = true ∧ ∃ x, S1 = st0a s b6 b7 b8 x) ∨ (e = .ret ∧ (bytesOf s).all isDig = false ∧ ∃ x, S1 = st0ax0 s 10 b6 b7 b8 x)) := by
  refine loop_inv1 (fun (i : Nat) => st0a s b6 b7 b8 i) (fun i => i ≤ s.size ∧ ((bytesOf s).take i).all isDig = true) (fun i => s.size - i)
    (fun e S1 => (e = .exit 0 ∧ (bytesOf s).all isDig = true ∧ ∃ x, S1 = st0a s b6 b7 b8 x) ∨ (e = .ret ∧ (bytesOf s).all isDig = false ∧ ∃ x, S1 = st0ax0 s 10 b6 b7 b8 x)) isL0a ?_ 0 ⟨by omega, rfl⟩
  intro i ⟨h1, h2⟩
  refine ⟨noTab, noTab_all, lands_of (round0a ..) ?_⟩
  have hlen := bytes_len s
  by_cases hi : i < s.size
  · have hmem : (bytesOf s).getD i 0 ∈ bytesOf s := by rw [getD_at (by omega)]; exact List.getElem_mem _
    have bad : isDig ((bytesOf s).getD i 0) = false → (bytesOf s).all isDig = false := by
      intro hb
      rw [Bool.eq_false_iff]
      intro hall
      rw [List.all_eq_true.1 hall _ hmem] at hb
      cases hb
    simp only [lands_bif, lands_some, lands_none, Turns1, Turns2, Turns3, Turns4, Turns5, Turns6, Turns7, Turns8, eq_bif, Option.some.injEq, reduceCtorEq, cond_true, cond_false, Bool.eq_false_iff, ne_eq, inB_iff, decide_eq_true_eq, Bool.and_eq_true, Bool.or_eq_true, Bool.not_eq_true', beq_iff_eq, bne_iff_ne, true_and, and_true, true_implies, implies_true, not_true_eq_false, not_false_eq_true, false_implies, few_iff, bt_nat, wi_succ (show i < 4611686018427387904 by omega)]
    repeat' (first | apply And.intro | intro _)
    all_goals try omega
    · refine .inr ⟨Bool.eq_false_iff.1 (bad ?_), _, rfl⟩
      rw [Bool.eq_false_iff, ne_eq, dig_iff]; omega
    · refine .inr ⟨Bool.eq_false_iff.1 (bad ?_), _, rfl⟩
      rw [Bool.eq_false_iff, ne_eq, dig_iff]; omega
    · refine ⟨i + 1, rfl, ⟨by omega, ?_⟩, by omega⟩
      rw [take_succ_getD _ (by omega), List.all_append, h2, Bool.true_and]
      simp only [List.all_cons, List.all_nil, Bool.and_true]
      rw [dig_iff]; omega
  · obtain rfl : i = s.size := by omega
    rw [decide_eq_false (by omega)]
    simp only [cond_false, lands_some, Turns1]
    rw [List.take_of_length_le (by omega)] at h2
    exact .inl ⟨trivial, h2, _, rfl⟩
theorem pieceA (s : ByteArray) (i : Nat) (l0 : List Int) (b12 b13 b14 : Bool) (x8 : Int) (hD : s.size ≤ 10000) (hi : i ≤ s.size) (hall : (bytesOf s).all isDig = true) (a : List Int) (ha : a = ((bytesOf s).drop i).take 9) :
    ∃ e S1, Ends T orc L2 D2 (st2 s b12 i 0 1 b13 b14 x8 0 l0) e S1 ∧ (e = .exit 4 ∧ S1 = (st2 s b12 i (dval a) (10 ^ a.length) b13 b14 x8 (a.length : Nat) l0)) := by
  have hlen := bytes_len s
  have hm := min_eq s.size i (by omega) hi
  have hex : bytesOf (s.extract i (min (i + 9) s.size)) = a := by
    rw [bytes_extract, ha, List.take_drop]
    by_cases h9 : i + 9 ≤ s.size
    · rw [Nat.min_eq_left h9]
    · rw [Nat.min_eq_right (by omega), List.take_of_length_le (by omega), List.take_of_length_le (by omega)]
  have hsz : (s.extract i (min (i + 9) s.size)).size = a.length := by rw [← bytes_len, hex]
  have hal : a.length ≤ 9 := by rw [ha, List.length_take]; omega
  have haall : a.all isDig = true := by rw [ha]; exact all_take (all_drop hall i) 9
  refine loop_inv1 (fun (k : Nat) => (st2 s b12 i (dval (a.take k)) (10 ^ k) b13 b14 x8 k l0)) (fun k => k ≤ a.length) (fun k => a.length - k)
    (fun e S1 => e = .exit 4 ∧ S1 = (st2 s b12 i (dval a) (10 ^ a.length) b13 b14 x8 (a.length : Nat) l0)) isL2 ?_ 0 (by omega)
  intro k hk
  refine ⟨noTab, noTab_all, lands_of (round2 ..) ?_⟩
  rw [hm, Int.toNat_natCast, Int.toNat_natCast, hsz]
  by_cases hk2 : k < a.length
  · have hc := dig_iff.1 (List.all_eq_true.1 haall (a.getD k 0) (by rw [getD_at hk2]; exact List.getElem_mem _))
    obtain ⟨d0, d1⟩ := dval_bound _ (all_take haall k)
    rw [List.length_take, Nat.min_eq_left hk] at d1
    obtain ⟨p1, p2⟩ := pow10_le (show k ≤ 9 by omega)
    obtain ⟨q1, q2⟩ := pow10_le (show k + 1 ≤ 9 by omega)
    have hb : bt (s.extract i (min (i + 9) s.size)) (k : Int) = a.getD k 0 := by rw [bt_nat, hex]
    have e1 : IntKind.u8.wrap (a.getD k 0 - 48) = a.getD k 0 - 48 := IntWalk.u8_in _ ⟨by omega, by omega⟩
    have e2 : dval (a.take (k + 1)) = dval (a.take k) * 10 + (a.getD k 0 - 48) := by
      rw [take_succ_getD a hk2, dval_app, dval_one]; rfl
    have hk8 : k ≤ 8 := by omega
    obtain ⟨_, p3⟩ := pow10_le (show k + 1 ≤ 9 by omega)
    rw [Int.pow_succ] at q2 p3
    rw [hb, e1, wu32 (n := a.getD k 0 - 48) (by omega) (by omega), wu32 (n := dval (a.take k) * 10) (by omega) (by omega), wu32 (n := dval (a.take k) * 10 + (a.getD k 0 - 48)) (by omega) (by omega), wu32 (n := (10 : Int) ^ k * 10) (by omega) (by omega), ← e2, ← Int.pow_succ, wi_succ (show k < 4611686018427387904 by omega), decide_eq_true (show (k : Int) < (a.length : Int) by omega), bT (inB_iff.2 (by omega))]
    simp only [cond_true, lands_some, Turns1]
    exact ⟨k + 1, rfl, by omega, by omega⟩
  · obtain rfl : k = a.length := by omega
    rw [decide_eq_false (by omega), List.take_length]
    simp only [cond_false, lands_some, Turns1]
    exact ⟨trivial, trivial⟩
theorem mainA (s : ByteArray) (b12 b13 b14 : Bool) (x8 : Int) (hD : s.size ≤ 10000) (hall : (bytesOf s).all isDig = true) :
    ∃ e S1, Ends T orc L1 D1 (st1 s b12 0 b13 b14 x8 []) e S1 ∧ (e = .exit 2 ∧ ∃ x l, S1 = (st1 s b12 x b13 b14 x8 l) ∧ okB 4294967296 l = true ∧ l.length ≤ 20000 ∧ val 4294967296 l = dval (bytesOf s)) := by
  have hlen := bytes_len s
  refine loop_inv2 (fun (i : Nat) l0 => (st1 s b12 i b13 b14 x8 l0)) (fun i l0 => okB 4294967296 l0 = true ∧ l0.length ≤ i ∧ i ≤ s.size + 9 ∧ val 4294967296 l0 = dval ((bytesOf s).take i)) (fun i l0 => s.size + 9 - i)
    (fun e S1 => e = .exit 2 ∧ ∃ x l, S1 = (st1 s b12 x b13 b14 x8 l) ∧ okB 4294967296 l = true ∧ l.length ≤ 20000 ∧ val 4294967296 l = dval (bytesOf s)) isL1 ?_ 0 [] ⟨rfl, by simp, by omega, rfl⟩
  intro i l0 ⟨h1, h2, h3, h4⟩
  by_cases hi : i < s.size
  · obtain ⟨a, ha⟩ : ∃ a, a = ((bytesOf s).drop i).take 9 := ⟨_, rfl⟩
    obtain ⟨e1, S1, hE1, rfl, rfl⟩ := pieceA s i l0 b12 b13 b14 x8 hD (by omega) hall a ha
    obtain ⟨m, hm9⟩ : ∃ m, a.length = m := ⟨_, rfl⟩
    rw [hm9] at hE1
    refine ⟨_, tabOf_all _, lands_of (round1 s b12 i b13 b14 x8 l0 (10 ^ m) (dval a) m) ?_⟩
    have hm := min_eq s.size i (by omega) (by omega)
    have hal : a.length ≤ 9 := by rw [ha, List.length_take]; omega
    have haall : a.all isDig = true := by rw [ha]; exact all_take (all_drop hall i) 9
    obtain ⟨d0, d1⟩ := dval_bound _ haall
    obtain ⟨p1, p2⟩ := pow10_le hal
    rw [hm9] at d1 p1 p2
    have ew : IntKind.i64.wrap ((i : Int) + 9) = ((i + 9 : Nat) : Int) := by rw [w64 (by omega) (by omega)]; omega
    rw [hm, cdec_true hE1, decide_eq_true (show (i : Int) < (s.size : Int) by omega), decide_eq_true (show (0 : Int) ≤ (i : Int) by omega), decide_eq_true (show (i : Int) ≤ ((min (i + 9) s.size : Nat) : Int) by omega), decide_eq_true (show ((min (i + 9) s.size : Nat) : Int) ≤ (s.size : Int) by omega), h1, few_iff.2 (show l0.length ≤ 100000 by omega), decide_eq_true (show (0 : Int) ≤ 10 ^ m by omega), decide_eq_true (show (10 : Int) ^ m < 4294967296 by omega), decide_eq_true d0, decide_eq_true (show dval a < 4294967296 by omega), ew]
    simp only [Bool.and_self, cond_true, lands_some, Turns2]
    have hsl := scaleL_len l0 (10 ^ m) (dval a)
    refine ⟨i + 9, _, rfl, ⟨scaleL_ok _ _ _, by omega, by omega, ?_⟩, by omega⟩
    rw [scaleL_val h1 ⟨by omega, by omega⟩ ⟨d0, by omega⟩, h4, List.take_add, ← ha, dval_app, hm9]
  · refine ⟨_, tabOf_all _, lands_of (round1 s b12 i b13 b14 x8 l0 1 0 0) ?_⟩
    rw [decide_eq_false (by omega)]
    simp only [cond_false, lands_some, Turns2]
    rw [List.take_of_length_le (by omega)] at h4
    exact ⟨trivial, _, _, rfl, h1, by omega, h4⟩
theorem validB (s : ByteArray) (hD : (s.extract 1 s.size).size ≤ 10000) (b0 : Bool) :
    ∃ e S1, Ends T orc L0 D0 (st0 s b0 0) e S1 ∧ ((e = .exit 0 ∧ (bytesOf (s.extract 1 s.size)).all isDig = true ∧ ∃ x, S1 = st0 s b0 x) ∨ (e = .ret ∧ (bytesOf (s.extract 1 s.size)).all isDig = false ∧ ∃ x, S1 = st0x0 s 10 b0 x)) := by
  refine loop_inv1 (fun (i : Nat) => st0 s b0 i) (fun i => i ≤ (s.extract 1 s.size).size ∧ ((bytesOf (s.extract 1 s.size)).take i).all isDig = true) (fun i => (s.extract 1 s.size).size - i)
    (fun e S1 => (e = .exit 0 ∧ (bytesOf (s.extract 1 s.size)).all isDig = true ∧ ∃ x, S1 = st0 s b0 x) ∨ (e = .ret ∧ (bytesOf (s.extract 1 s.size)).all isDig = false ∧ ∃ x, S1 = st0x0 s 10 b0 x)) isL0 ?_ 0 ⟨by omega, rfl⟩
  intro i ⟨h1, h2⟩
  refine ⟨noTab, noTab_all, lands_of (round0 ..) ?_⟩
  have hlen := bytes_len (s.extract 1 s.size)
  by_cases hi : i < (s.extract 1 s.size).size
  · have hmem : (bytesOf (s.extract 1 s.size)).getD i 0 ∈ bytesOf (s.extract 1 s.size) := by rw [getD_at (by omega)]; exact List.getElem_mem _
    have bad : isDig ((bytesOf (s.extract 1 s.size)).getD i 0) = false → (bytesOf (s.extract 1 s.size)).all isDig = false := by
      intro hb
      rw [Bool.eq_false_iff]
      intro hall
      rw [List.all_eq_true.1 hall _ hmem] at hb
      cases hb
    simp only [lands_bif, lands_some, lands_none, Turns1, Turns2, Turns3, Turns4, Turns5, Turns6, Turns7, Turns8, eq_bif, Option.some.injEq, reduceCtorEq, cond_true, cond_false, Bool.eq_false_iff, ne_eq, inB_iff, decide_eq_true_eq, Bool.and_eq_true, Bool.or_eq_true, Bool.not_eq_true', beq_iff_eq, bne_iff_ne, true_and, and_true, true_implies, implies_true, not_true_eq_false, not_false_eq_true, false_implies, few_iff, bt_nat, wi_succ (show i < 4611686018427387904 by omega)]
    repeat' (first | apply And.intro | intro _)
    all_goals try omega
    · refine .inr ⟨Bool.eq_false_iff.1 (bad ?_), _, rfl⟩
      rw [Bool.eq_false_iff, ne_eq, dig_iff]; omega
    · refine .inr ⟨Bool.eq_false_iff.1 (bad ?_), _, rfl⟩
      rw [Bool.eq_false_iff, ne_eq, dig_iff]; omega
    · refine ⟨i + 1, rfl, ⟨by omega, ?_⟩, by omega⟩
      rw [take_succ_getD _ (by omega), List.all_append, h2, Bool.true_and]
      simp only [List.all_cons, List.all_nil, Bool.and_true]
      rw [dig_iff]; omega
  · obtain rfl : i = (s.extract 1 s.size).size := by omega
    rw [decide_eq_false (by omega)]
    simp only [cond_false, lands_some, Turns1]
    rw [List.take_of_length_le (by omega)] at h2
    exact .inl ⟨trivial, h2, _, rfl⟩
theorem pieceB (s : ByteArray) (i : Nat) (l0 : List Int) (b15 : Bool) (x23 : Int) (hD : (s.extract 1 s.size).size ≤ 10000) (hi : i ≤ (s.extract 1 s.size).size) (hall : (bytesOf (s.extract 1 s.size)).all isDig = true) (a : List Int) (ha : a = ((bytesOf (s.extract 1 s.size)).drop i).take 9) :
    ∃ e S1, Ends T orc L2a D2a (st2a s i 0 1 b15 x23 0 l0) e S1 ∧ (e = .exit 4 ∧ S1 = (st2a s i (dval a) (10 ^ a.length) b15 x23 (a.length : Nat) l0)) := by
  have hlen := bytes_len (s.extract 1 s.size)
  have hm := min_eq (s.extract 1 s.size).size i (by omega) hi
  have hex : bytesOf ((s.extract 1 s.size).extract i (min (i + 9) (s.extract 1 s.size).size)) = a := by
    rw [bytes_extract, ha, List.take_drop]
    by_cases h9 : i + 9 ≤ (s.extract 1 s.size).size
    · rw [Nat.min_eq_left h9]
    · rw [Nat.min_eq_right (by omega), List.take_of_length_le (by omega), List.take_of_length_le (by omega)]
  have hsz : ((s.extract 1 s.size).extract i (min (i + 9) (s.extract 1 s.size).size)).size = a.length := by rw [← bytes_len, hex]
  have hal : a.length ≤ 9 := by rw [ha, List.length_take]; omega
  have haall : a.all isDig = true := by rw [ha]; exact all_take (all_drop hall i) 9
  refine loop_inv1 (fun (k : Nat) => (st2a s i (dval (a.take k)) (10 ^ k) b15 x23 k l0)) (fun k => k ≤ a.length) (fun k => a.length - k)
    (fun e S1 => e = .exit 4 ∧ S1 = (st2a s i (dval a) (10 ^ a.length) b15 x23 (a.length : Nat) l0)) isL2a ?_ 0 (by omega)
  intro k hk
  refine ⟨noTab, noTab_all, lands_of (round2a ..) ?_⟩
  rw [hm, Int.toNat_natCast, Int.toNat_natCast, hsz]
  by_cases hk2 : k < a.length
  · have hc := dig_iff.1 (List.all_eq_true.1 haall (a.getD k 0) (by rw [getD_at hk2]; exact List.getElem_mem _))
    obtain ⟨d0, d1⟩ := dval_bound _ (all_take haall k)
    rw [List.length_take, Nat.min_eq_left hk] at d1
    obtain ⟨p1, p2⟩ := pow10_le (show k ≤ 9 by omega)
    obtain ⟨q1, q2⟩ := pow10_le (show k + 1 ≤ 9 by omega)
    have hb : bt ((s.extract 1 s.size).extract i (min (i + 9) (s.extract 1 s.size).size)) (k : Int) = a.getD k 0 := by rw [bt_nat, hex]
    have e1 : IntKind.u8.wrap (a.getD k 0 - 48) = a.getD k 0 - 48 := IntWalk.u8_in _ ⟨by omega, by omega⟩
    have e2 : dval (a.take (k + 1)) = dval (a.take k) * 10 + (a.getD k 0 - 48) := by
      rw [take_succ_getD a hk2, dval_app, dval_one]; rfl
    have hk8 : k ≤ 8 := by omega
    obtain ⟨_, p3⟩ := pow10_le (show k + 1 ≤ 9 by omega)
    rw [Int.pow_succ] at q2 p3
    rw [hb, e1, wu32 (n := a.getD k 0 - 48) (by omega) (by omega), wu32 (n := dval (a.take k) * 10) (by omega) (by omega), wu32 (n := dval (a.take k) * 10 + (a.getD k 0 - 48)) (by omega) (by omega), wu32 (n := (10 : Int) ^ k * 10) (by omega) (by omega), ← e2, ← Int.pow_succ, wi_succ (show k < 4611686018427387904 by omega), decide_eq_true (show (k : Int) < (a.length : Int) by omega), bT (inB_iff.2 (by omega))]
    simp only [cond_true, lands_some, Turns1]
    exact ⟨k + 1, rfl, by omega, by omega⟩
  · obtain rfl : k = a.length := by omega
    rw [decide_eq_false (by omega), List.take_length]
    simp only [cond_false, lands_some, Turns1]
    exact ⟨trivial, trivial⟩
theorem mainB (s : ByteArray) (b15 : Bool) (x23 : Int) (hD : (s.extract 1 s.size).size ≤ 10000) (hall : (bytesOf (s.extract 1 s.size)).all isDig = true) :
    ∃ e S1, Ends T orc L1a D1a (st1a s 0 b15 x23 []) e S1 ∧ (e = .exit 2 ∧ ∃ x l, S1 = (st1a s x b15 x23 l) ∧ okB 4294967296 l = true ∧ l.length ≤ 20000 ∧ val 4294967296 l = dval (bytesOf (s.extract 1 s.size))) := by
  have hlen := bytes_len (s.extract 1 s.size)
  refine loop_inv2 (fun (i : Nat) l0 => (st1a s i b15 x23 l0)) (fun i l0 => okB 4294967296 l0 = true ∧ l0.length ≤ i ∧ i ≤ (s.extract 1 s.size).size + 9 ∧ val 4294967296 l0 = dval ((bytesOf (s.extract 1 s.size)).take i)) (fun i l0 => (s.extract 1 s.size).size + 9 - i)
    (fun e S1 => e = .exit 2 ∧ ∃ x l, S1 = (st1a s x b15 x23 l) ∧ okB 4294967296 l = true ∧ l.length ≤ 20000 ∧ val 4294967296 l = dval (bytesOf (s.extract 1 s.size))) isL1a ?_ 0 [] ⟨rfl, by simp, by omega, rfl⟩
  intro i l0 ⟨h1, h2, h3, h4⟩
  by_cases hi : i < (s.extract 1 s.size).size
  · obtain ⟨a, ha⟩ : ∃ a, a = ((bytesOf (s.extract 1 s.size)).drop i).take 9 := ⟨_, rfl⟩
    obtain ⟨e1, S1, hE1, rfl, rfl⟩ := pieceB s i l0 b15 x23 hD (by omega) hall a ha
    obtain ⟨m, hm9⟩ : ∃ m, a.length = m := ⟨_, rfl⟩
    rw [hm9] at hE1
    refine ⟨_, tabOf_all _, lands_of (round1a s i b15 x23 l0 (10 ^ m) (dval a) m) ?_⟩
    have hm := min_eq (s.extract 1 s.size).size i (by omega) (by omega)
    have hal : a.length ≤ 9 := by rw [ha, List.length_take]; omega
    have haall : a.all isDig = true := by rw [ha]; exact all_take (all_drop hall i) 9
    obtain ⟨d0, d1⟩ := dval_bound _ haall
    obtain ⟨p1, p2⟩ := pow10_le hal
    rw [hm9] at d1 p1 p2
    have ew : IntKind.i64.wrap ((i : Int) + 9) = ((i + 9 : Nat) : Int) := by rw [w64 (by omega) (by omega)]; omega
    rw [hm, cdec_true hE1, decide_eq_true (show (i : Int) < ((s.extract 1 s.size).size : Int) by omega), decide_eq_true (show (0 : Int) ≤ (i : Int) by omega), decide_eq_true (show (i : Int) ≤ ((min (i + 9) (s.extract 1 s.size).size : Nat) : Int) by omega), decide_eq_true (show ((min (i + 9) (s.extract 1 s.size).size : Nat) : Int) ≤ ((s.extract 1 s.size).size : Int) by omega), h1, few_iff.2 (show l0.length ≤ 100000 by omega), decide_eq_true (show (0 : Int) ≤ 10 ^ m by omega), decide_eq_true (show (10 : Int) ^ m < 4294967296 by omega), decide_eq_true d0, decide_eq_true (show dval a < 4294967296 by omega), ew]
    simp only [Bool.and_self, cond_true, lands_some, Turns2]
    have hsl := scaleL_len l0 (10 ^ m) (dval a)
    refine ⟨i + 9, _, rfl, ⟨scaleL_ok _ _ _, by omega, by omega, ?_⟩, by omega⟩
    rw [scaleL_val h1 ⟨by omega, by omega⟩ ⟨d0, by omega⟩, h4, List.take_add, ← ha, dval_app, hm9]
  · refine ⟨_, tabOf_all _, lands_of (round1a s i b15 x23 l0 1 0 0) ?_⟩
    rw [decide_eq_false (by omega)]
    simp only [cond_false, lands_some, Turns2]
    rw [List.take_of_length_le (by omega)] at h4
    exact ⟨trivial, _, _, rfl, h1, by omega, h4⟩
end Parse
theorem dval_cons (c : Int) (l : List Int) : dval (c :: l) = (c - 48) * 10 ^ l.length + dval l := by
  have := dval_app [c] l
  rw [dval_one] at this
  exact this
theorem ten_343 : (2 : Nat) ^ 1024 ≤ 10 ^ 343 := Nat.le_of_ble_eq_true (by kernel_rfl)
set_option exponentiation.threshold 20000 in
theorem ten_Lim : (10 : Nat) ^ 343 < Lim := Nat.lt_of_not_le (fun h => by
  have h2 : Nat.ble Lim (10 ^ 343) = true := Nat.ble_eq_true_of_le h
  have h3 : Nat.ble Lim (10 ^ 343) = false := by kernel_rfl
  rw [h3] at h2; cases h2)
set_option exponentiation.threshold 20000 in
theorem big_fits {z : Int} (h : (10 : Int) ^ 343 ≤ az z) : fits z = false := by
  unfold fits
  rw [decide_eq_false_iff_not]
  intro h2
  have h3 := ten_343
  unfold az at h
  have h4 : ((10 ^ 343 : Nat) : Int) ≤ ((z.natAbs : Nat) : Int) := by rw [Int.natCast_pow]; exact h
  have h5 : (10 ^ 343 : Nat) ≤ z.natAbs := Int.ofNat_le.1 h4
  exact Nat.lt_irrefl _ (Nat.lt_of_lt_of_le h2 (Nat.le_trans h3 h5))
theorem dval_big {l : List Int} (hall : l.all isDig = true) (h0 : l.getD 0 0 ≠ 48) (hl : l.length > 343) : (10 : Int) ^ 343 ≤ dval l := by
  cases l with
  | nil => simp at hl
  | cons c l =>
    rw [List.all_cons, Bool.and_eq_true] at hall
    have hc := dig_iff.1 hall.1
    have h0 : c ≠ 48 := h0
    have hb := dval_bound l hall.2
    rw [List.length_cons] at hl
    have hp := pow_mono (B := 10) (by decide) (show 343 ≤ l.length by omega)
    rw [dval_cons]
    have : 1 * (10 : Int) ^ l.length ≤ (c - 48) * 10 ^ l.length := Int.mul_le_mul_of_nonneg_right (by omega) (by have := hb.1; omega)
    omega
set_option exponentiation.threshold 20000 in
theorem dval_lim {l : List Int} (hall : l.all isDig = true) (hl : l.length ≤ 343) : (dval l).natAbs < Lim := by
  have hb := dval_bound l hall
  have hp := pow_mono (B := 10) (by decide) hl
  have h1 : dval l < ((10 ^ 343 : Nat) : Int) := by rw [Int.natCast_pow]; exact Int.lt_of_lt_of_le hb.2 hp
  exact Nat.lt_trans (by omega) ten_Lim
def formD (d : List Int) (n : Bool) : Bool := !d.isEmpty && !(d.getD 0 0 == 48 && (decide (d.length > 1) || n)) && d.all isDig
theorem rv_bad {s : ByteArray} {d : List Int} {n : Bool} (hd : digs (bytesOf s) = d) (hn : hasNeg (bytesOf s) = n) (h : formD d n = false) : some (Res.val (.tup [.agg [.bool false, .ints .u32 []], .int .i64 10])) = some (.val (.tup [R (rv s), .int .i64 (re s)])) := by
  unfold rv re form
  rw [hd, hn, show (!d.isEmpty && !(d.getD 0 0 == 48 && (decide (d.length > 1) || n)) && d.all isDig) = false from h]
  rfl
theorem rv_good {s : ByteArray} {d : List Int} {n : Bool} (hd : digs (bytesOf s) = d) (hn : hasNeg (bytesOf s) = n) (h : formD d n = true) : rv s = hz (bif n then - dval d else dval d) ∧ re s = he (bif n then - dval d else dval d) := by
  unfold rv re form tval
  rw [hd, hn, show (!d.isEmpty && !(d.getD 0 0 == 48 && (decide (d.length > 1) || n)) && d.all isDig) = true from h, cond_true, cond_true]
  exact ⟨rfl, rfl⟩
theorem rv_long {s : ByteArray} {d : List Int} {n : Bool} (hd : digs (bytesOf s) = d) (hn : hasNeg (bytesOf s) = n) (h : formD d n = true) (hl : d.length > 343) : some (Res.val (.tup [.agg [.bool false, .ints .u32 []], .int .i64 11])) = some (.val (.tup [R (rv s), .int .i64 (re s)])) := by
  obtain ⟨h1, h2⟩ := rv_good hd hn h
  have h0 : d.getD 0 0 ≠ 48 := by
    intro h0
    unfold formD at h
    rw [h0, decide_eq_true (show d.length > 1 by omega)] at h
    simp at h
  have hall : d.all isDig = true := by unfold formD at h; rw [Bool.and_eq_true] at h; exact h.2
  have hb := dval_big hall h0 hl
  have hf : fits (bif n then - dval d else dval d) = false := big_fits (by cases n <;> simp only [cond_true, cond_false, az] <;> omega)
  rw [h1, h2]
  unfold hz he
  rw [hf]
  rfl
theorem rv_read {s : ByteArray} {d : List Int} {n : Bool} (hd : digs (bytesOf s) = d) (hn : hasNeg (bytesOf s) = n) (h : formD d n = true) (hl : d.length ≤ 343) {l : List Int} (ok : okB 4294967296 l = true) (hll : l.length ≤ 20000) (hv : val 4294967296 l = dval d) :
    (bif few l && okB (4294967296) l then (bif cn (4294967296) (sg (num (4294967296) n l)) (lb (4294967296) (num (4294967296) n l)) then some (Res.val (.tup [R (hz (N (4294967296) (num (4294967296) n l))), .int .i64 (he (N (4294967296) (num (4294967296) n l)))])) else none) else none) = some (.val (.tup [R (rv s), .int .i64 (re s)])) := by
  obtain ⟨h1, h2⟩ := rv_good hd hn h
  have hall : d.all isDig = true := by unfold formD at h; rw [Bool.and_eq_true] at h; exact h.2
  have hlim := dval_lim hall hl
  have hs : (bif n then - dval d else dval d).natAbs < Lim := by cases n <;> simp only [cond_true, cond_false, Int.natAbs_neg] <;> exact hlim
  rw [few_iff.2 (show l.length ≤ 100000 by omega), ok, num_of hv, cnW, decide_eq_true hs, N_eq, h1, h2]
  rfl
theorem neg_of (s : ByteArray) (h : bt s 0 = 45) : 0 < s.size ∧ hasNeg (bytesOf s) = true ∧ digs (bytesOf s) = bytesOf (s.extract 1 s.size) := by
  have h1 := bt_nat s 0
  rw [show ((0 : Nat) : Int) = 0 from rfl, h] at h1
  have h2 := bytes_len s
  rw [bytes_extract]
  unfold digs hasNeg
  cases hl : bytesOf s with
  | nil => rw [hl] at h1; simp at h1
  | cons c l =>
    rw [hl] at h1 h2
    have h1 : (45 : Int) = c := h1
    rw [← h1, ← h2]
    refine ⟨by simp, by simp, by simp⟩
theorem pos_of (s : ByteArray) (h : bt s 0 ≠ 45) : hasNeg (bytesOf s) = false ∧ digs (bytesOf s) = bytesOf s := by
  have h1 := bt_nat s 0
  rw [show ((0 : Nat) : Int) = 0 from rfl] at h1
  unfold digs hasNeg
  cases hl : bytesOf s with
  | nil => exact ⟨rfl, rfl⟩
  | cons c l =>
    rw [hl] at h1
    have h1 : bt s 0 = c := h1
    have : (c == 45) = false := by rw [beq_eq_false_iff_ne]; omega
    simp [this]
theorem formD_eq (d : List Int) (n : Bool) : formD d n = true ↔ (d ≠ [] ∧ ¬ (d.getD 0 0 = 48 ∧ (d.length > 1 ∨ n = true)) ∧ d.all isDig = true) := by
  unfold formD
  rw [Bool.and_eq_true, Bool.and_eq_true, and_assoc]
  refine and_congr ?_ (and_congr ?_ Iff.rfl)
  · cases d <;> simp
  · rw [Bool.not_eq_true', ← Bool.not_eq_true, Bool.and_eq_true, Bool.or_eq_true, beq_iff_eq, decide_eq_true_eq]
theorem meets_parse : Meets Try.prog 58 ansParse := by
  refine meets_fn (orc_ok (l := Parse.ans) ⟨meets_norm, meets_held, meets_scale, trivial⟩) Try.f58 Try.func58 (by kernel_rfl) (fun args r h => ?_)
  unfold ansParse at h
  split at h
  · rename_i s
    simp only [Option.some.injEq, Prod.mk.injEq] at h
    obtain ⟨h, rfl⟩ := h
    have hsz := of_decide_eq_true h
    refine ⟨rfl, ?_⟩
    by_cases h45 : bt s 0 = 45
    · obtain ⟨h0, hn, hd⟩ := neg_of s h45
      obtain ⟨D, hD⟩ : ∃ D, D = s.extract 1 s.size := ⟨_, rfl⟩
      have hDs : D.size ≤ 10000 := by rw [hD, ByteArray.size_extract]; omega
      have hlen := bytes_len D
      have hb0 := bt_nat D 0
      rw [show ((0 : Nat) : Int) = 0 from rfl] at hb0
      rw [← hD] at hd
      have e0 : (bt s 0 == 45) = true := by rw [h45]; rfl
      by_cases hz0 : D.size = 0
      · refine ⟨_, tabOf_all _, (Parse.rest_0 s 0 true true true 0 0 true 0).trans ?_⟩
        rw [← hD, e0, decide_eq_true (show (s.size : Int) > 0 by omega), bT (inB_iff.2 (by omega : (0 : Int) ≤ 0 ∧ (0 : Int) < s.size)), decide_eq_true (show 1 ≤ (s.size : Int) by omega), show ((D.size : Int) == 0) = true by rw [beq_iff_eq]; omega]
        simp only [Bool.and_self, cond_true]
        exact rv_bad hd hn (by rw [← Bool.not_eq_true, formD_eq]; intro hh; exact hh.1 (List.eq_nil_of_length_eq_zero (by omega)))
      · by_cases h48 : bt D 0 = 48
        · refine ⟨_, tabOf_all _, (Parse.rest_0 s 0 true true true 0 0 true 0).trans ?_⟩
          rw [← hD, e0, decide_eq_true (show (s.size : Int) > 0 by omega), bT (inB_iff.2 (by omega : (0 : Int) ≤ 0 ∧ (0 : Int) < s.size)), decide_eq_true (show 1 ≤ (s.size : Int) by omega), show ((D.size : Int) == 0) = false by rw [beq_eq_false_iff_ne]; omega, bT (inB_iff.2 (by omega : (0 : Int) ≤ 0 ∧ (0 : Int) < D.size)), h48]
          have hbad : formD (bytesOf D) true = false := by rw [← Bool.not_eq_true, formD_eq]; intro hh; exact hh.2.1 ⟨by omega, .inr rfl⟩
          by_cases hg : (D.size : Int) > 1
          · rw [decide_eq_true hg]
            exact rv_bad hd hn hbad
          · rw [decide_eq_false hg]
            exact rv_bad hd hn hbad
        · have e48 : (bt D 0 == 48) = false := by rw [beq_eq_false_iff_ne]; exact h48
          obtain ⟨e1, S1, hE1, ⟨rfl, hall, x, rfl⟩ | ⟨rfl, hall, x, rfl⟩⟩ := Parse.validB s (by rw [← hD]; exact hDs) false
          · rw [← hD] at hall
            have hform : formD (bytesOf D) true = true := (formD_eq _ _).2 ⟨fun hh => by rw [hh] at hlen; exact hz0 hlen.symm, fun hh => h48 (by omega), hall⟩
            by_cases hbig : D.size > 343
            · refine ⟨_, tabOf_all _, (Parse.rest_2 s 0 true true true 0 [] false x 0).trans ?_⟩
              rw [cdec_true hE1, ← hD, e0, decide_eq_true (show (s.size : Int) > 0 by omega), bT (inB_iff.2 (by omega : (0 : Int) ≤ 0 ∧ (0 : Int) < s.size)), decide_eq_true (show 1 ≤ (s.size : Int) by omega), show ((D.size : Int) == 0) = false by rw [beq_eq_false_iff_ne]; omega, bT (inB_iff.2 (by omega : (0 : Int) ≤ 0 ∧ (0 : Int) < D.size)), e48, decide_eq_true (show (D.size : Int) > 343 by omega)]
              exact rv_long hd hn hform (by omega)
            · obtain ⟨e2, S2, hE2, rfl, y, l, rfl, ok, hll, hv⟩ := Parse.mainB s false x (by rw [← hD]; exact hDs) (by rw [← hD]; exact hall)
              rw [← hD] at hv
              refine ⟨_, tabOf_all _, (Parse.rest_2 s 0 true true true 0 l false x y).trans ?_⟩
              rw [cdec_true hE1, cdec_true hE2, ← hD, e0, decide_eq_true (show (s.size : Int) > 0 by omega), bT (inB_iff.2 (by omega : (0 : Int) ≤ 0 ∧ (0 : Int) < s.size)), decide_eq_true (show 1 ≤ (s.size : Int) by omega), show ((D.size : Int) == 0) = false by rw [beq_eq_false_iff_ne]; omega, bT (inB_iff.2 (by omega : (0 : Int) ≤ 0 ∧ (0 : Int) < D.size)), e48, decide_eq_false (show ¬ (D.size : Int) > 343 by omega)]
              exact rv_read hd hn hform (by omega) ok hll hv
          · rw [← hD] at hall
            refine ⟨_, tabOf_all _, (Parse.rest_0 s 0 true true true 0 10 false x).trans ?_⟩
            rw [cdec_true hE1, ← hD, e0, decide_eq_true (show (s.size : Int) > 0 by omega), bT (inB_iff.2 (by omega : (0 : Int) ≤ 0 ∧ (0 : Int) < s.size)), decide_eq_true (show 1 ≤ (s.size : Int) by omega), show ((D.size : Int) == 0) = false by rw [beq_eq_false_iff_ne]; omega, bT (inB_iff.2 (by omega : (0 : Int) ≤ 0 ∧ (0 : Int) < D.size)), e48]
            exact rv_bad hd hn (by rw [← Bool.not_eq_true, formD_eq]; intro hh; rw [hall] at hh; cases hh.2.2)
    · obtain ⟨hn, hd⟩ := pos_of s h45
      have hlen := bytes_len s
      have hb0 := bt_nat s 0
      rw [show ((0 : Nat) : Int) = 0 from rfl] at hb0
      have e0 : (bt s 0 == 45) = false := by rw [beq_eq_false_iff_ne]; exact h45
      by_cases hz0 : s.size = 0
      · refine ⟨_, tabOf_all _, (Parse.rest_0 s 0 true true true 0 0 true 0).trans ?_⟩
        rw [decide_eq_false (show ¬ (s.size : Int) > 0 by omega), show ((s.size : Int) == 0) = true by rw [beq_iff_eq]; omega]
        exact rv_bad hd hn (by rw [← Bool.not_eq_true, formD_eq]; intro hh; exact hh.1 (List.eq_nil_of_length_eq_zero (by omega)))
      · have hin : inB 0 s.size = true := inB_iff.2 (by omega)
        have key : (bt s 0 == 48 && decide ((s.size : Int) > 1)) = true ∨ (bt s 0 == 48 && decide ((s.size : Int) > 1)) = false := by cases (bt s 0 == 48 && decide ((s.size : Int) > 1)) <;> simp
        rcases key with key | key
        · rw [Bool.and_eq_true] at key
          have h48 : bt s 0 = 48 := by simpa using key.1
          have hg := of_decide_eq_true key.2
          refine ⟨_, tabOf_all _, (Parse.rest_0 s 0 true true true 0 0 true 0).trans ?_⟩
          rw [e0, decide_eq_true (show (s.size : Int) > 0 by omega), hin, show ((s.size : Int) == 0) = false by rw [beq_eq_false_iff_ne]; omega, key.1, key.2]
          simp only [hin, cond_true, cond_false]
          exact rv_bad hd hn (by rw [← Bool.not_eq_true, formD_eq]; intro hh; exact hh.2.1 ⟨by omega, .inl (by omega)⟩)
        · have join : ∀ (b c : Bool) (X Y : Option Res), (b && c) = false → (bif b then (bif c then X else Y) else Y) = Y := by intro b c X Y h; cases b <;> cases c <;> first | rfl | cases h
          have hno : ¬ ((bytesOf s).getD 0 0 = 48 ∧ ((bytesOf s).length > 1 ∨ false = true)) := by
            intro ⟨q1, q2⟩
            rw [← hb0] at q1
            rcases q2 with q2 | q2
            · rw [q1, decide_eq_true (show (s.size : Int) > 1 by omega)] at key; cases key
            · cases q2
          obtain ⟨e1, S1, hE1, ⟨rfl, hall, x, rfl⟩ | ⟨rfl, hall, x, rfl⟩⟩ := Parse.validA s hsz false true false
          · have hform : formD (bytesOf s) false = true := (formD_eq _ _).2 ⟨fun hh => by rw [hh] at hlen; exact hz0 hlen.symm, hno, hall⟩
            by_cases hbig : s.size > 343
            · refine ⟨_, tabOf_all _, (Parse.rest_1 s false [] true false x 0 0 true 0).trans ?_⟩
              rw [e0, decide_eq_true (show (s.size : Int) > 0 by omega), hin, show ((s.size : Int) == 0) = false by rw [beq_eq_false_iff_ne]; omega, cdec_true hE1, decide_eq_true (show (s.size : Int) > 343 by omega)]
              simp only [hin, cond_true, cond_false]
              exact (join _ _ _ _ key).trans (rv_long hd hn hform (by omega))
            · obtain ⟨e2, S2, hE2, rfl, y, l, rfl, ok, hll, hv⟩ := Parse.mainA s false true false x hsz hall
              refine ⟨_, tabOf_all _, (Parse.rest_1 s false l true false x y 0 true 0).trans ?_⟩
              rw [e0, decide_eq_true (show (s.size : Int) > 0 by omega), hin, show ((s.size : Int) == 0) = false by rw [beq_eq_false_iff_ne]; omega, cdec_true hE1, cdec_true hE2, decide_eq_false (show ¬ (s.size : Int) > 343 by omega)]
              simp only [hin, cond_true, cond_false]
              exact (join _ _ _ _ key).trans (rv_read hd hn hform (by omega) ok hll hv)
          · refine ⟨_, tabOf_all _, (Parse.rest_0 s 10 false true false x 0 true 0).trans ?_⟩
            rw [e0, decide_eq_true (show (s.size : Int) > 0 by omega), hin, show ((s.size : Int) == 0) = false by rw [beq_eq_false_iff_ne]; omega, cdec_true hE1]
            simp only [hin, cond_true, cond_false]
            exact (join _ _ _ _ key).trans (rv_bad hd hn (by rw [← Bool.not_eq_true, formD_eq]; intro hh; rw [hall] at hh; cases hh.2.2))
  · cases h
end Go.Abs
end
section
/- What the reference's functions of layer 1 answer: texts. -/
namespace Go.Abs
open Go.Proofs Go.Dig
namespace RShow
theorem loop (s : Bool) (l : List Int) (s0 : ByteArray) (ol : okB 10 l = true) (hl : l.length ≤ 10000) (h0 : (bytesOf s0).length ≤ 1) :
    ∃ e S1, Ends T noOrc L0 D0 (st0 s l s0 ((l.length : Int) - 1) (bytesOf s0)) e S1 ∧ (e = .exit 0 ∧ ∃ x, S1 = st0 s l s0 x (bytesOf s0 ++ dig l)) := by
  refine loop_inv2 (fun (i : Nat) l1 => st0 s l s0 ((i : Int) - 1) l1) (fun i l1 => i ≤ l.length ∧ l1 = bytesOf s0 ++ dig (l.drop i)) (fun i l1 => i)
    (fun e S1 => e = .exit 0 ∧ ∃ x, S1 = st0 s l s0 x (bytesOf s0 ++ dig l)) isL0 ?_ l.length (bytesOf s0) ⟨Nat.le_refl _, by rw [List.drop_length]; simp [dig]⟩
  intro i l1 ⟨h1, h2⟩
  refine ⟨noTab, noTab_all, lands_of (round0 ..) ?_⟩
  cases i with
  | zero =>
    rw [decide_eq_false (by omega)]
    rw [h2]
    exact lands_some.2 ⟨rfl, _, rfl⟩
  | succ i =>
    have ei : (((i + 1 : Nat) : Int) - 1) = (i : Int) := by omega
    rw [ei]
    have hd := getD_ok T_pos ol i
    have ew : IntKind.u8.wrap (IntKind.i64.wrap (48 + rd l (i : Int))) = l.getD i 0 + 48 := by
      rw [rd_toNat, Int.toNat_natCast, w64 (by omega) (by omega), IntWalk.u8_in _ ⟨by omega, by omega⟩]; omega
    rw [ew]
    have hlen : (l1 ++ [l.getD i 0 + 48]).length * 1 ≤ 140737488355328 := by
      rw [List.length_append, h2, List.length_append]; unfold dig; rw [List.length_map, List.length_reverse, List.length_drop, List.length_singleton]; omega
    refine (lands_of (bT (decide_eq_true (by omega))) ?_)
    refine (lands_of (bT (inB_iff.2 (by omega))) ?_)
    refine (lands_of (bT (by rw [Bool.true_and]; exact decide_eq_true hlen)) ?_)
    refine lands_some.2 ⟨i, _, by rw [w64 (by omega) (by omega)], ⟨by omega, ?_⟩, by show i < i + 1; omega⟩
    rw [h2, List.append_assoc]
    congr 1
    unfold dig
    rw [List.drop_eq_getElem_cons (by omega : i < l.length), List.reverse_cons, List.map_append, getD_at (by omega)]
    rfl
end RShow
theorem meets_rshow : Meets Try.prog 34 anrShow := by
  refine meets_fn noOrc_ok Try.f34 Try.func34 (by kernel_rfl) (fun args r h => ?_)
  unfold anrShow at h
  split at h
  · rename_i s l
    simp only [Option.some.injEq, Prod.mk.injEq] at h
    obtain ⟨h1, rfl⟩ := h
    obtain ⟨z, hs, hl, hz⟩ := (cn_iff T_two).1 h1
    have nz : num 10 s l = z := by rw [hs, hl]; exact num_lb10 z
    rw [nz]
    have ol : okB 10 l = true := by rw [hl]; exact ok10_lb z
    have ll : l.length ≤ 10000 := by rw [hl]; exact lb10_length hz
    refine ⟨rfl, ?_⟩
    by_cases h0 : z = 0
    · subst h0
      have hl0 : l = [] := by rw [hl]; rfl
      subst hl0
      exact ⟨_, tabOf_all _, RShow.rest s [] [] ⟨#[]⟩ 0⟩
    · have hne : l.length ≠ 0 := fun h => h0 ((lb_nil T_two).1 (by rw [← hl]; exact List.eq_nil_of_length_eq_zero h))
      have e0 : ((l.length : Int) == 0) = false := by rw [beq_eq_false_iff_ne]; omega
      have ew : IntKind.i64.wrap ((l.length : Int) - 1) = (l.length : Int) - 1 := w64 (by omega) (by omega)
      have hd : dig l = dig (limbs 10 z.natAbs) := by rw [hl]; rfl
      cases hsb : s with
      | true =>
        have hneg : z < 0 := by rw [hsb] at hs; exact sg_neg.1 hs.symm
        obtain ⟨e1, S1, hE1, rfl, x, rfl⟩ := RShow.loop true l ⟨#[45]⟩ ol ll (by decide)
        refine ⟨_, tabOf_all _, (RShow.rest true l (bytesOf ⟨#[45]⟩ ++ dig l) ⟨#[45]⟩ x).trans ?_⟩
        rw [ew]
        refine (bF e0).trans ((bT rfl).trans ((bT (cdec_true hE1)).trans ?_))
        unfold txt txtL
        rw [if_neg h0, if_pos hneg, hd]
        rfl
      | false =>
        have hneg : ¬ z < 0 := by rw [hsb] at hs; intro hh; rw [sg_neg.2 hh] at hs; cases hs
        obtain ⟨e1, S1, hE1, rfl, x, rfl⟩ := RShow.loop false l ⟨#[]⟩ ol ll (by decide)
        refine ⟨_, tabOf_all _, (RShow.rest false l (bytesOf ⟨#[]⟩ ++ dig l) ⟨#[]⟩ x).trans ?_⟩
        rw [ew]
        refine (bF e0).trans ((bF rfl).trans ((bT (cdec_true hE1)).trans ?_))
        unfold txt txtL
        rw [if_neg h0, if_neg hneg, hd]
        rfl
  · cases h
namespace RFrom
def Inv (U x : Int) (l : List Int) : Prop := okB 10 l = true ∧ 0 ≤ x ∧ l.length ≤ 20 ∧ val 10 l + 10 ^ l.length * x = U
theorem ten20 {k : Nat} {U : Int} (hU : U < 18446744073709551616) (h : (10 : Int) ^ k ≤ U) : k < 20 := by
  refine Nat.lt_of_not_le (fun hk => ?_)
  have := pow_mono (B := 10) (by decide) hk
  have e : (10 : Int) ^ 20 = 100000000000000000000 := rfl
  omega
theorem Inv.next {U x : Int} {l : List Int} (hU : U < 18446744073709551616) (h : Inv U x l) (hx : x > 0) : Inv U (x / 10) (l ++ [x % 10]) := by
  obtain ⟨h1, h2, h3, h4⟩ := h
  have h5 := val_nonneg T_pos h1
  have h6 : (10 : Int) ^ l.length * 1 ≤ 10 ^ l.length * x := Int.mul_le_mul_of_nonneg_left (by omega) (Int.pow_nonneg (by decide))
  have h7 := ten20 hU (k := l.length) (by omega)
  refine ⟨okB_snoc h1 (by omega), by omega, by rw [List.length_append, List.length_singleton]; omega, ?_⟩
  rw [val_snoc, List.length_append, List.length_singleton, Int.pow_succ]
  have := carry_step 10 (10 ^ l.length) (val 10 l) U x (x % 10) (x / 10) 0 h4 (by omega)
  omega
theorem loop (n : Int) (U : Int) (h0 : 0 ≤ U) (hU : U < 18446744073709551616) :
    ∃ e S1, Ends T orc L0 D0 (st0 n U []) e S1 ∧ (e = .exit 0 ∧ ∃ x l, S1 = st0 n x l ∧ okB 10 l = true ∧ l.length ≤ 20 ∧ val 10 l = U) := by
  refine loop_inv2 (fun (x : Int) l => st0 n x l) (fun x l => Inv U x l) (fun x l => x.toNat)
    (fun e S1 => e = .exit 0 ∧ ∃ x l, S1 = st0 n x l ∧ okB 10 l = true ∧ l.length ≤ 20 ∧ val 10 l = U) isL0 ?_ U [] ⟨rfl, h0, by simp, by simp [val]⟩
  intro x l h
  obtain ⟨h1, h2, h3, h4⟩ := id h
  refine ⟨noTab, noTab_all, lands_of (round0 ..) ?_⟩
  have h5 := val_nonneg T_pos h1
  by_cases hx : x > 0
  · have h6 : (1 : Int) * x ≤ 10 ^ l.length * x := Int.mul_le_mul_of_nonneg_right (by have : (0 : Int) < 10 ^ l.length := Int.pow_pos (by decide); omega) h2
    rw [tm10 h2, td10 h2, w64 (n := x % 10) (by omega) (by omega), wu64 (n := x / 10) (by omega) (by omega)]
    refine (lands_of (bT (decide_eq_true hx)) ?_)
    refine (lands_of (bT (by rw [Bool.true_and]; exact decide_eq_true (by rw [List.length_append, List.length_singleton]; omega))) ?_)
    exact lands_some.2 ⟨_, _, rfl, h.next hU hx, by show (x / 10).toNat < x.toNat; omega⟩
  · obtain rfl : x = 0 := by omega
    rw [Int.mul_zero, Int.add_zero] at h4
    exact lands_some.2 ⟨rfl, _, _, rfl, h1, h3, h4⟩
theorem loopa (n : Int) (U : Int) (h0 : 0 ≤ U) (hU : U < 18446744073709551616) :
    ∃ e S1, Ends T orc L0a D0a (st0a n U []) e S1 ∧ (e = .exit 0 ∧ ∃ x l, S1 = st0a n x l ∧ okB 10 l = true ∧ l.length ≤ 20 ∧ val 10 l = U) := by
  refine loop_inv2 (fun (x : Int) l => st0a n x l) (fun x l => Inv U x l) (fun x l => x.toNat)
    (fun e S1 => e = .exit 0 ∧ ∃ x l, S1 = st0a n x l ∧ okB 10 l = true ∧ l.length ≤ 20 ∧ val 10 l = U) isL0a ?_ U [] ⟨rfl, h0, by simp, by simp [val]⟩
  intro x l h
  obtain ⟨h1, h2, h3, h4⟩ := id h
  refine ⟨noTab, noTab_all, lands_of (round0a ..) ?_⟩
  have h5 := val_nonneg T_pos h1
  by_cases hx : x > 0
  · have h6 : (1 : Int) * x ≤ 10 ^ l.length * x := Int.mul_le_mul_of_nonneg_right (by have : (0 : Int) < 10 ^ l.length := Int.pow_pos (by decide); omega) h2
    rw [tm10 h2, td10 h2, w64 (n := x % 10) (by omega) (by omega), wu64 (n := x / 10) (by omega) (by omega)]
    refine (lands_of (bT (decide_eq_true hx)) ?_)
    refine (lands_of (bT (by rw [Bool.true_and]; exact decide_eq_true (by rw [List.length_append, List.length_singleton]; omega))) ?_)
    exact lands_some.2 ⟨_, _, rfl, h.next hU hx, by show (x / 10).toNat < x.toNat; omega⟩
  · obtain rfl : x = 0 := by omega
    rw [Int.mul_zero, Int.add_zero] at h4
    exact lands_some.2 ⟨rfl, _, _, rfl, h1, h3, h4⟩
end RFrom
theorem meets_rfrom : Meets Try.prog 64 anrFrom := by
  refine meets_fn (orc_ok (l := RFrom.ans) ⟨meets_rtrim, trivial⟩) Try.f64 Try.func64 (by kernel_rfl) (fun args r h => ?_)
  unfold anrFrom at h
  split at h
  · rename_i n
    simp only [Option.some.injEq, Prod.mk.injEq, i64B, Bool.and_eq_true, decide_eq_true_eq] at h
    obtain ⟨⟨h1, h2⟩, rfl⟩ := h
    refine ⟨rfl, ?_⟩
    by_cases hn : n < 0
    · obtain ⟨e1, S1, hE1, rfl, x, l, rfl, k1, k2, k3⟩ := RFrom.loop n (-n) (by omega) (by omega)
      have ew : IntKind.u64.wrap (0 - IntKind.u64.wrap n) = -n := by rw [wu64_mod, wu64_mod]; omega
      refine ⟨_, tabOf_all _, (RFrom.rest n [] 0 l x).trans ?_⟩
      rw [ew]
      refine (bT (decide_eq_true hn)).trans ((bT (cdec_true hE1)).trans ((bT ?_).trans ?_))
      · rw [k1, few_iff.2 (show l.length ≤ 100000 by omega)]; rfl
      · rw [num_of k3, decide_eq_true hn, cond_true, Int.neg_neg]
    · obtain ⟨e1, S1, hE1, rfl, x, l, rfl, k1, k2, k3⟩ := RFrom.loopa n n (by omega) (by omega)
      have ew : IntKind.u64.wrap n = n := wu64 (by omega) (by omega)
      refine ⟨_, tabOf_all _, (RFrom.rest n l x [] 0).trans ?_⟩
      rw [ew]
      refine (bF (decide_eq_false hn)).trans ((bT (cdec_true hE1)).trans ((bT ?_).trans ?_))
      · rw [k1, few_iff.2 (show l.length ≤ 100000 by omega)]; rfl
      · rw [num_of k3, decide_eq_false hn, cond_false]
  · cases h
end Go.Abs
end
section
/- What the reference's functions of layer 1 answer: division, powers of two, bounds. -/
namespace Go.Abs
open Go.Proofs Go.Dig
theorem splitD_vals {x y : Int} (hx : x.natAbs < Lim) (hy : y.natAbs < Lim) (h0 : y ≠ 0) :
    okB 10 (splitD (lb 10 x) (lb 10 y)) = true ∧ few (splitD (lb 10 x) (lb 10 y)) = true ∧ val 10 (splitD (lb 10 x) (lb 10 y)) = az x / az y ∧
    okB 10 (limbs 10 (az x % az y)) = true ∧ few (limbs 10 (az x % az y)) = true ∧ val 10 (limbs 10 (az x % az y)) = az x % az y := by
  have lx := lb10_length hx
  have ax := az_nonneg x
  have ay : 0 < az y := by unfold az; omega
  have m0 := Int.emod_nonneg (az x) (show az y ≠ 0 by omega)
  have hle : az x % az y ≤ az x := by
    have h3 := Int.mul_ediv_add_emod (az x) (az y)
    have h4 : 0 ≤ az y * (az x / az y) := Int.mul_nonneg (by omega) (Int.ediv_nonneg ax (by omega))
    omega
  have v1 := val_lt T_pos (ok10_lb x)
  rw [val_lb10] at v1
  have d0 : 0 ≤ az x / az y := Int.ediv_nonneg (az_nonneg x) (by omega)
  have d1 : az x / az y ≤ az x := Int.ediv_le_self _ (az_nonneg x)
  refine ⟨digN_ok T_pos _ _, few_iff.2 (by unfold splitD; rw [digN_length]; omega), ?_, limbs_ok T_pos _, few_iff.2 (by have := limbs_length T_two (n := (lb 10 x).length) m0 (by omega); omega), limbs_val T_two m0⟩
  unfold splitD
  rw [val_lb10, val_lb10]
  exact val_digN T_pos _ _ d0 (by omega)
namespace RGcd
theorem loop (s : Bool) (l : List Int) (t : Bool) (m : List Int) (x y : Nat) (hx : x < Lim) (hy : y < Lim) :
    ∃ e S1, Ends T orc L0 D0 (st0 s l t m false (lb 10 x) false (lb 10 y)) e S1 ∧ (e = .exit 0 ∧ ∃ b k, S1 = st0 s l t m (sg (Nat.gcd x y : Nat)) (lb 10 (Nat.gcd x y : Nat)) b k) := by
  have sgn : ∀ n : Nat, sg (n : Int) = false := fun n => by unfold sg; rw [decide_eq_false_iff_not]; omega
  refine loop_inv2 (fun (a b : Nat) => st0 s l t m false (lb 10 a) false (lb 10 b)) (fun a b => a < Lim ∧ b < Lim ∧ Nat.gcd a b = Nat.gcd x y) (fun a b => b)
    (fun e S1 => e = .exit 0 ∧ ∃ b k, S1 = st0 s l t m (sg (Nat.gcd x y : Nat)) (lb 10 (Nat.gcd x y : Nat)) b k) isL0 ?_ x y ⟨hx, hy, rfl⟩
  intro a b ⟨ha, hb, hg⟩
  refine ⟨noTab, noTab_all, lands_of (round0 ..) ?_⟩
  have sa : ((a : Int)).natAbs < Lim := by rw [Int.natAbs_natCast]; exact ha
  have sb : ((b : Int)).natAbs < Lim := by rw [Int.natAbs_natCast]; exact hb
  by_cases h0 : b = 0
  · subst h0
    rw [← hg, Nat.gcd_zero_right, sgn]
    exact lands_some.2 ⟨rfl, _, _, rfl⟩
  · have hlb : ((lb 10 (b : Int)).length : Int) > 0 := by
      have := List.length_pos_iff.2 (fun hh => h0 (by have := (lb_nil T_two (z := (b : Int))).1 hh; omega))
      omega
    obtain ⟨q1, q2, q3, r1, r2, r3⟩ := splitD_vals sa sb (by omega)
    have lx := lb10_length sa
    have eb : az (b : Int) = (b : Int) := rfl
    have ea : az (a : Int) = (a : Int) := rfl
    have hR := num_of (s := false) r3
    rw [ea, eb] at hR r1 r2
    have e3 : ((a : Int) % (b : Int)) = ((a % b : Nat) : Int) := by rw [Int.natCast_emod]
    have hR : num 10 false (limbs 10 ((a : Int) % (b : Int))) = ((a % b : Nat) : Int) := by rw [hR, e3]; rfl
    rw [decide_eq_true hlb, cl_lb10 sa, cl_lb10 sb, val_lb10, val_lb10, eb, ea, decide_eq_true (show (0 : Int) < (b : Int) by omega), decide_eq_true (show (lb 10 (a : Int)).length ≤ 50000 by omega), r1, r2, hR, sgn]
    refine lands_some.2 ⟨b, a % b, rfl, ⟨hb, Nat.lt_of_le_of_lt (Nat.mod_le a b) ha, ?_⟩, Nat.mod_lt _ (by omega)⟩
    rw [← hg, Nat.gcd_comm b, ← Nat.gcd_rec, Nat.gcd_comm]
end RGcd
theorem meets_rgcd : Meets Try.prog 77 anrGcd := by
  refine meets_fn (orc_ok (l := RGcd.ans) ⟨meets_rabs, meets_rsplit, meets_rtrim, trivial⟩) Try.f77 Try.func77 (by kernel_rfl) (fun args r h => ?_)
  unfold anrGcd at h
  split at h
  · rename_i s l t m
    simp only [Option.some.injEq, Prod.mk.injEq, Bool.and_eq_true] at h
    obtain ⟨⟨h1, h2⟩, rfl⟩ := h
    obtain ⟨x, hs, hl, hx⟩ := (cn_iff T_two).1 h1
    obtain ⟨y, ht, hm, hy⟩ := (cn_iff T_two).1 h2
    have nx : num 10 s l = x := by rw [hs, hl]; exact num_lb10 x
    have ny : num 10 t m = y := by rw [ht, hm]; exact num_lb10 y
    rw [nx, ny]
    obtain ⟨e1, S1, hE1, rfl, b, k, rfl⟩ := RGcd.loop s l t m x.natAbs y.natAbs hx hy
    refine ⟨rfl, _, tabOf_all _, (RGcd.rest s l t m (sg ((Nat.gcd x.natAbs y.natAbs : Nat) : Int)) (lb 10 ((Nat.gcd x.natAbs y.natAbs : Nat) : Int)) b k).trans ?_⟩
    have hE1 : Ends T RGcd.orc RGcd.L0 RGcd.D0 (RGcd.st0 s l t m false (lb 10 (az x)) false (lb 10 (az y))) (.exit 0) _ := hE1
    rw [nx, ny]
    exact (bT h1).trans ((bT h2).trans (bT (cdec_true hE1)))
  · cases h
theorem digN_last {v : Int} {k : Nat} (h0 : (10 : Int) ^ k ≤ v) (h1 : v < 10 ^ (k + 1)) : (digN 10 (k + 1) v).getLast? ≠ some 0 := by
  have hp : (0 : Int) < 10 ^ k := Int.pow_pos (by decide)
  rw [digN_succ T_pos, List.getLast?_append]
  have a1 : 1 ≤ v / 10 ^ k := (Int.le_ediv_iff_mul_le hp).2 (by omega)
  have a2 : v / 10 ^ k < 10 := Int.ediv_lt_of_lt_mul hp (by rw [Int.mul_comm, ← Int.pow_succ]; exact h1)
  have : v / 10 ^ k % 10 ≠ 0 := by omega
  simpa using this
theorem plusD_double {v : Int} (hv : 0 < v) : plusD (limbs 10 v) (limbs 10 v) = limbs 10 (v + v) := by
  have ol := limbs_ok T_pos v
  have vl : val 10 (limbs 10 v) = v := limbs_val T_two (by omega)
  have hne : limbs 10 v ≠ [] := fun h => by have := (limbs_nil T_two (by omega)).1 h; omega
  have hpos := List.length_pos_iff.2 hne
  have hge := last_ge T_two ol (limbs_last _ _) hne
  have hlt := val_lt T_pos ol
  rw [vl] at hge hlt
  have hval := plusD_val ol ol
  rw [vl] at hval
  have key := limbs_self T_two (plusD_ok (limbs 10 v) (limbs 10 v)) (by
    unfold plusD
    rw [vl, Nat.max_self]
    obtain ⟨n, hn⟩ : ∃ n, (limbs 10 v).length = n + 1 := ⟨_, (Nat.sub_add_cancel hpos).symm⟩
    rw [hn] at hge hlt ⊢
    rw [Nat.add_sub_cancel] at hge
    by_cases h : v + v < 10 ^ (n + 1)
    · rw [decide_eq_true h]
      exact digN_last (by omega) h
    · rw [decide_eq_false h]
      exact digN_last (by omega) (by rw [Int.pow_succ]; omega))
  rw [hval] at key
  exact key.symm
theorem two_le_ten (n : Nat) : (2 : Int) ^ n ≤ 10 ^ n := by
  induction n with
  | zero => simp
  | succ n ih =>
    rw [Int.pow_succ, Int.pow_succ]
    have : (0 : Int) < 10 ^ n := Int.pow_pos (by decide)
    omega
theorem limbs_one : limbs 10 1 = [1] := by decide
namespace RPower
theorem loop (n : Nat) (hn : n ≤ 2000) :
    ∃ e S1, Ends T orc L0 D0 (st0 n 0 [1]) e S1 ∧ (e = .exit 0 ∧ ∃ x, S1 = st0 n x (limbs 10 (2 ^ n))) := by
  have key := loop_inv1 (T := T) (orc := orc) (L := L0) (D := D0) (fun (i : Nat) => st0 n i (limbs 10 (2 ^ i))) (fun i => i ≤ n) (fun i => n - i)
    (fun e S1 => e = .exit 0 ∧ ∃ x, S1 = st0 n x (limbs 10 (2 ^ n))) isL0 ?_ 0 (by omega)
  · rw [Int.pow_zero, limbs_one] at key
    exact key
  · intro i h1
    refine ⟨noTab, noTab_all, lands_of (round0 ..) ?_⟩
    have hp : (0 : Int) < 2 ^ i := Int.pow_pos (by decide)
    have hp10 : (0 : Int) < 10 ^ i := Int.pow_pos (by decide)
    by_cases hi : i < n
    · have hlen := limbs_length T_two (v := 2 ^ i) (n := i + 1) (by omega) (by have := two_le_ten i; rw [Int.pow_succ]; omega)
      rw [decide_eq_true (show (i : Int) < (n : Int) by omega), few_iff.2 (show (limbs 10 (2 ^ i)).length ≤ 100000 by omega), limbs_ok T_pos, plusD_double hp, wi_succ (show i < 4611686018427387904 by omega)]
      refine lands_some.2 ⟨i + 1, ?_, by show i + 1 ≤ n; omega, by show n - (i + 1) < n - i; omega⟩
      show _ = st0 n ((i + 1 : Nat) : Int) (limbs 10 (2 ^ (i + 1)))
      rw [Int.pow_succ, show (2 : Int) ^ i + 2 ^ i = 2 ^ i * 2 by omega]
    · obtain rfl : i = n := by omega
      rw [decide_eq_false (by omega)]
      exact lands_some.2 ⟨rfl, _, rfl⟩
end RPower
theorem meets_rpower : Meets Try.prog 89 anrPower := by
  refine meets_fn (orc_ok (l := RPower.ans) ⟨meets_rplus, trivial⟩) Try.f89 Try.func89 (by kernel_rfl) (fun args r h => ?_)
  unfold anrPower at h
  split at h
  · rename_i n
    simp only [Option.some.injEq, Prod.mk.injEq, Bool.and_eq_true, decide_eq_true_eq] at h
    obtain ⟨⟨h1, h2⟩, rfl⟩ := h
    obtain ⟨n, rfl⟩ := Int.eq_ofNat_of_zero_le h1
    obtain ⟨e1, S1, hE1, rfl, x, rfl⟩ := RPower.loop n (by omega)
    rw [Int.toNat_natCast]
    exact ⟨rfl, _, tabOf_all _, (RPower.rest n (limbs 10 (2 ^ n)) x).trans (bT (cdec_true hE1))⟩
  · cases h
set_option exponentiation.threshold 20000 in
theorem top_facts : ∃ W : Nat, (∀ z : Int, fits z = decide (z.natAbs < W)) ∧ (2 : Int) ^ 1024 = (W : Int) ∧ (10 : Int) ^ 308 ≤ (W : Int) ∧ (W : Int) < 10 ^ 309 := by
  refine ⟨2 ^ 1024, fun z => by unfold fits; with_reducible rfl, (Int.natCast_pow 2 1024).symm, ?_, ?_⟩
  · have : (10 : Nat) ^ 308 ≤ 2 ^ 1024 := Nat.le_of_ble_eq_true (by kernel_rfl)
    have h := Int.ofNat_le.2 this
    rw [Int.natCast_pow 10 308] at h
    exact h
  · have : (2 : Nat) ^ 1024 < 10 ^ 309 := Nat.lt_of_not_le (fun h => by
      have h2 : Nat.ble (10 ^ 309) (2 ^ 1024) = true := Nat.ble_eq_true_of_le h
      have h3 : Nat.ble (10 ^ 309) (2 ^ 1024) = false := by kernel_rfl
      rw [h3] at h2; cases h2)
    have h := Int.ofNat_lt.2 this
    rw [Int.natCast_pow 10 309] at h
    exact h
theorem meets_rtoobig : Meets Try.prog 65 anrTooBig := by
  refine meets_fn (orc_ok (l := RTooBig.ans) ⟨meets_rcmpMag, meets_rpower, trivial⟩) Try.f65 Try.func65 (by kernel_rfl) (fun args r h => ?_)
  unfold anrTooBig at h
  split at h
  · rename_i s l
    simp only [Option.some.injEq, Prod.mk.injEq] at h
    obtain ⟨h1, rfl⟩ := h
    obtain ⟨z, hs, hl, hz⟩ := (cn_iff T_two).1 h1
    have nz : num 10 s l = z := by rw [hs, hl]; exact num_lb10 z
    have vz : val 10 l = az z := by rw [hl]; exact val_lb10 z
    have ol : okB 10 l = true := by rw [hl]; exact ok10_lb z
    have hlast : l.getLast? ≠ some 0 := by rw [hl]; exact lb_last _ _
    have hlt := val_lt T_pos ol
    rw [vz] at hlt
    obtain ⟨W, w1, w2, w3, w4⟩ := top_facts
    refine ⟨rfl, _, noTab_all, (RTooBig.rest s l).trans ?_⟩
    rw [nz, w1]
    have haz : az z = (z.natAbs : Int) := rfl
    by_cases hA : l.length > 309
    · refine (bT (decide_eq_true (by omega))).trans ?_
      have hge := last_ge T_two ol hlast (fun h => by rw [h] at hA; simp at hA)
      rw [vz] at hge
      have := pow_mono (B := 10) (by decide) (show 309 ≤ l.length - 1 by omega)
      rw [decide_eq_false (show ¬ z.natAbs < W by omega)]
      rfl
    · refine (bF (decide_eq_false (by omega))).trans ?_
      by_cases hB : l.length = 309
      · refine (bT (by rw [beq_iff_eq]; omega)).trans ((bT (by rw [cl_of_num hl hz]; rfl)).trans ?_)
        have hv : val 10 (limbs 10 (2 ^ 1024)) = (W : Int) := by rw [w2]; exact limbs_val T_two (by omega)
        rw [hv, vz]
        by_cases hlt : z.natAbs < W
        · rw [decide_eq_true hlt, decide_eq_false (show ¬ cmpZ (az z) W ≥ 0 by unfold cmpZ; (repeat' split) <;> omega)]
          rfl
        · rw [decide_eq_false hlt, decide_eq_true (show cmpZ (az z) W ≥ 0 by unfold cmpZ; (repeat' split) <;> omega)]
          rfl
      · refine (bF (by rw [beq_eq_false_iff_ne]; omega)).trans ?_
        have := pow_mono (B := 10) (by decide) (show l.length ≤ 308 by omega)
        rw [decide_eq_true (show z.natAbs < W by omega)]
        rfl
  · cases h
end Go.Abs
end
section
/- What the reference's functions of layer 1 answer: texts read. -/
namespace Go.Abs
open Go.Proofs Go.Dig
theorem drop_all {l : List Int} {i : Nat} (hi : i < l.length) : (l.drop i).all isDig = (isDig (l.getD i 0) && (l.drop (i + 1)).all isDig) := by
  rw [List.drop_eq_getElem_cons hi, List.all_cons, getD_at hi]
namespace RForm
theorem loop (s : ByteArray) (i0 : Nat) (b9 b10 : Bool) (x3 : Int) (b11 b12 : Bool) (hs : s.size ≤ 10000) (h0 : i0 ≤ s.size) :
    ∃ e S1, Ends T noOrc L0 D0 (st0 s i0 b9 b10 x3 b11 b12) e S1 ∧ ((e = .exit 0 ∧ ((bytesOf s).drop i0).all isDig = true ∧ ∃ x, S1 = st0 s x b9 b10 x3 b11 b12) ∨ (e = .ret ∧ ((bytesOf s).drop i0).all isDig = false ∧ ∃ x, S1 = st0 s x b9 b10 x3 b11 b12)) := by
  refine loop_inv1 (fun (i : Nat) => st0 s i b9 b10 x3 b11 b12) (fun i => i ≤ s.size ∧ ((bytesOf s).drop i0).all isDig = ((bytesOf s).drop i).all isDig) (fun i => s.size - i)
    (fun e S1 => (e = .exit 0 ∧ ((bytesOf s).drop i0).all isDig = true ∧ ∃ x, S1 = st0 s x b9 b10 x3 b11 b12) ∨ (e = .ret ∧ ((bytesOf s).drop i0).all isDig = false ∧ ∃ x, S1 = st0 s x b9 b10 x3 b11 b12)) isL0 ?_ i0 ⟨h0, rfl⟩
  intro i ⟨h1, h2⟩
  have hlen := bytes_len s
  refine ⟨noTab, noTab_all, lands_of (round0 ..) ?_⟩
  by_cases hi : i < s.size
  · have hd := drop_all (l := bytesOf s) (i := i) (by omega)
    rw [bt_nat]
    refine (lands_of (bT (decide_eq_true (by omega))) ?_)
    refine (lands_of (bT (inB_iff.2 (by omega))) ?_)
    by_cases ha : (bytesOf s).getD i 0 < 48
    · refine (lands_of (bT (decide_eq_true ha)) ?_)
      refine lands_some.2 (.inr ⟨rfl, ?_, _, rfl⟩)
      rw [h2, hd, show isDig ((bytesOf s).getD i 0) = false by rw [Bool.eq_false_iff, ne_eq, dig_iff]; omega]
      rfl
    · refine (lands_of (bF (decide_eq_false ha)) ?_)
      refine (lands_of (bT (inB_iff.2 (by omega))) ?_)
      by_cases hb : (bytesOf s).getD i 0 > 57
      · refine (lands_of (bT (decide_eq_true hb)) ?_)
        refine lands_some.2 (.inr ⟨rfl, ?_, _, rfl⟩)
        rw [h2, hd, show isDig ((bytesOf s).getD i 0) = false by rw [Bool.eq_false_iff, ne_eq, dig_iff]; omega]
        rfl
      · refine (lands_of (bF (decide_eq_false hb)) ?_)
        rw [wi_succ (show i < 4611686018427387904 by omega)]
        refine lands_some.2 ⟨i + 1, rfl, ⟨by omega, ?_⟩, by show s.size - (i + 1) < s.size - i; omega⟩
        rw [h2, hd, show isDig ((bytesOf s).getD i 0) = true by rw [dig_iff]; omega]
        rfl
  · refine (lands_of (bF (decide_eq_false (by omega))) ?_)
    refine lands_some.2 (.inl ⟨rfl, ?_, _, rfl⟩)
    rw [h2, List.drop_of_length_le (by omega)]
    rfl
end RForm
theorem form_D {s : ByteArray} {d : List Int} {n : Bool} (hd : digs (bytesOf s) = d) (hn : hasNeg (bytesOf s) = n) : form (bytesOf s) = formD d n := by
  unfold form formD
  rw [hd, hn]
theorem neg_drop (s : ByteArray) (h : bt s 0 = 45) : digs (bytesOf s) = (bytesOf s).drop 1 := by
  obtain ⟨h0, hn, hd⟩ := neg_of s h
  unfold digs
  rw [hn]; rfl
theorem meets_rform : Meets Try.prog 83 anrForm := by
  refine meets_fn noOrc_ok Try.f83 Try.func83 (by kernel_rfl) (fun args r h => ?_)
  unfold anrForm at h
  split at h
  · rename_i s
    simp only [Option.some.injEq, Prod.mk.injEq] at h
    obtain ⟨h, rfl⟩ := h
    have hsz := of_decide_eq_true h
    have hlen := bytes_len s
    refine ⟨rfl, ?_⟩
    by_cases h45 : bt s 0 = 45
    · obtain ⟨h0, hn, _⟩ := neg_of s h45
      have hd := neg_drop s h45
      have e45 : (bt s 0 == 45) = true := by rw [h45]; rfl
      have hb1 : bt s 1 = ((bytesOf s).drop 1).getD 0 0 := by
        have := bt_nat s 1
        rw [show ((1 : Nat) : Int) = 1 from rfl] at this
        rw [this, List.getD_eq_getElem?_getD, List.getD_eq_getElem?_getD, List.getElem?_drop]
      have hl1 : ((bytesOf s).drop 1).length = s.size - 1 := by rw [List.length_drop, hlen]
      rw [form_D hd hn]
      by_cases h1 : s.size = 1
      · refine ⟨_, tabOf_all _, (RForm.rest_0 s 0 true true 0 true true).trans ?_⟩
        refine (bT (decide_eq_true (by omega))).trans ((bT (inB_iff.2 (by omega))).trans ((bT e45).trans ((bT (by rw [beq_iff_eq]; omega)).trans ?_)))
        rw [show formD ((bytesOf s).drop 1) true = false by rw [← Bool.not_eq_true, formD_eq]; intro hh; exact hh.1 (List.eq_nil_of_length_eq_zero (by omega))]
      · have e1 : (1 == (s.size : Int)) = false := by rw [beq_eq_false_iff_ne]; omega
        by_cases h48 : bt s 1 = 48
        · refine ⟨_, tabOf_all _, (RForm.rest_0 s 0 true true 0 true true).trans ?_⟩
          refine (bT (decide_eq_true (by omega))).trans ((bT (inB_iff.2 (by omega))).trans ((bT e45).trans ((bF e1).trans ((bT (inB_iff.2 (by omega))).trans ((bT (by rw [beq_iff_eq]; exact h48)).trans ((bT (decide_eq_true (by omega))).trans ?_))))))
          rw [show formD ((bytesOf s).drop 1) true = false by rw [← Bool.not_eq_true, formD_eq]; intro hh; exact hh.2.1 ⟨by omega, .inr rfl⟩]
        · have e48 : (bt s 1 == 48) = false := by rw [beq_eq_false_iff_ne]; exact h48
          obtain ⟨e2, S1, hE1, ⟨rfl, hall, x, rfl⟩ | ⟨rfl, hall, x, rfl⟩⟩ := RForm.loop s 1 true (bt s 0 == 45) 1 (1 == (s.size : Int)) false hsz (by omega)
          · refine ⟨_, tabOf_all _, (RForm.rest_1 s x true (bt s 0 == 45) 1 (1 == (s.size : Int)) false).trans ?_⟩
            refine (bT (decide_eq_true (by omega))).trans ((bT (inB_iff.2 (by omega))).trans ((bT e45).trans ((bF e1).trans ((bT (inB_iff.2 (by omega))).trans ((bF e48).trans ((bT (cdec_true hE1)).trans ?_))))))
            rw [show formD ((bytesOf s).drop 1) true = true from (formD_eq _ _).2 ⟨fun hh => by rw [hh] at hl1; simp at hl1; omega, fun hh => h48 (by rw [hb1]; exact hh.1), hall⟩]
          · refine ⟨_, tabOf_all _, (RForm.rest_0 s x true (bt s 0 == 45) 1 (1 == (s.size : Int)) false).trans ?_⟩
            refine (bT (decide_eq_true (by omega))).trans ((bT (inB_iff.2 (by omega))).trans ((bT e45).trans ((bF e1).trans ((bT (inB_iff.2 (by omega))).trans ((bF e48).trans ((bT (cdec_true hE1)).trans ?_))))))
            rw [show formD ((bytesOf s).drop 1) true = false by rw [← Bool.not_eq_true, formD_eq]; intro hh; rw [hall] at hh; cases hh.2.2]
    · obtain ⟨hn, hd⟩ := pos_of s h45
      have e45 : (bt s 0 == 45) = false := by rw [beq_eq_false_iff_ne]; exact h45
      have hb0 : bt s 0 = (bytesOf s).getD 0 0 := bt_nat s 0
      rw [form_D hd hn]
      by_cases h0 : s.size = 0
      · refine ⟨_, tabOf_all _, (RForm.rest_0 s 0 true true 0 true true).trans ?_⟩
        refine (bF (decide_eq_false (by omega))).trans ((bT (by rw [beq_iff_eq]; omega)).trans ?_)
        rw [show formD (bytesOf s) false = false by rw [← Bool.not_eq_true, formD_eq]; intro hh; exact hh.1 (List.eq_nil_of_length_eq_zero (by omega))]
      · have e1 : (0 == (s.size : Int)) = false := by rw [beq_eq_false_iff_ne]; omega
        by_cases hbad : bt s 0 = 48 ∧ s.size > 1
        · refine ⟨_, tabOf_all _, (RForm.rest_0 s 0 true true 0 true true).trans ?_⟩
          refine (bT (decide_eq_true (by omega))).trans ((bT (inB_iff.2 (by omega))).trans ((bF e45).trans ((bF e1).trans ((bT (inB_iff.2 (by omega))).trans ((bT (by rw [beq_iff_eq]; exact hbad.1)).trans ((bT (decide_eq_true (by omega))).trans ?_))))))
          rw [show formD (bytesOf s) false = false by rw [← Bool.not_eq_true, formD_eq]; intro hh; exact hh.2.1 ⟨by omega, .inl (by omega)⟩]
        · have join : ∀ (X Y Z : Option Res), (s.size ≤ 1 → X = Z) → (¬ bt s 0 = 48 → Y = Z) → (bif bt s 0 == 48 then (bif decide ((s.size : Int) > 1) then some (.val (.bool false)) else X) else Y) = Z := by
            intro X Y Z hX hY
            by_cases h48 : bt s 0 = 48
            · rw [bT (by rw [beq_iff_eq]; exact h48), bF (decide_eq_false (by omega))]
              exact hX (by omega)
            · rw [bF (by rw [beq_eq_false_iff_ne]; exact h48)]
              exact hY h48
          obtain ⟨e2, S1, hE1, ⟨rfl, hall, x, rfl⟩ | ⟨rfl, hall, x, rfl⟩⟩ := RForm.loop s 0 true (bt s 0 == 45) 0 (0 == (s.size : Int)) false hsz (by omega)
          · refine ⟨_, tabOf_all _, (RForm.rest_1 s x true (bt s 0 == 45) 0 (0 == (s.size : Int)) false).trans ?_⟩
            refine (bT (decide_eq_true (by omega))).trans ((bT (inB_iff.2 (by omega))).trans ((bF e45).trans ((bF e1).trans ((bT (inB_iff.2 (by omega))).trans ?_))))
            rw [List.drop_zero] at hall
            rw [show formD (bytesOf s) false = true from (formD_eq _ _).2 ⟨fun hh => by rw [hh] at hlen; exact h0 hlen.symm, fun hh => hbad ⟨by omega, by rcases hh.2 with h | h; omega; cases h⟩, hall⟩]
            refine join _ _ _ (fun hle => ?_) (fun _ => bT (cdec_true hE1))
            rw [decide_eq_false (show ¬ (s.size : Int) > 1 by omega)]
            exact bT (cdec_true hE1)
          · refine ⟨_, tabOf_all _, (RForm.rest_0 s x true (bt s 0 == 45) 0 (0 == (s.size : Int)) false).trans ?_⟩
            refine (bT (decide_eq_true (by omega))).trans ((bT (inB_iff.2 (by omega))).trans ((bF e45).trans ((bF e1).trans ((bT (inB_iff.2 (by omega))).trans ?_))))
            rw [List.drop_zero] at hall
            rw [show formD (bytesOf s) false = false by rw [← Bool.not_eq_true, formD_eq]; intro hh; rw [hall] at hh; cases hh.2.2]
            refine join _ _ _ (fun hle => ?_) (fun _ => bT (cdec_true hE1))
            rw [decide_eq_false (show ¬ (s.size : Int) > 1 by omega)]
            exact bT (cdec_true hE1)
  · cases h
namespace RExact
theorem loop (s : ByteArray) (hs : s.size ≤ 10000) (i0 : Nat) (h0 : i0 ≤ s.size) (hall : ((bytesOf s).drop i0).all isDig = true) (hi0 : i0 = 0 ∨ (i0 = 1 ∧ bt s 0 = 45)) :
    ∃ e S1, Ends T orc L0 D0 (st0 s ((s.size : Int) - 1) []) e S1 ∧ (e = .exit 0 ∧ ∃ x, S1 = st0 s x (((bytesOf s).drop i0).reverse.map (· - 48))) := by
  have hlen := bytes_len s
  refine loop_inv2 (fun (i : Nat) l0 => st0 s ((i : Int) - 1) l0) (fun i l0 => i0 ≤ i ∧ i ≤ s.size ∧ l0 = ((bytesOf s).drop i).reverse.map (· - 48)) (fun i l0 => i)
    (fun e S1 => e = .exit 0 ∧ ∃ x, S1 = st0 s x (((bytesOf s).drop i0).reverse.map (· - 48))) isL0 ?_ s.size [] ⟨h0, Nat.le_refl _, by rw [List.drop_of_length_le (by omega)]; rfl⟩
  intro i l0 ⟨h1, h2, h3⟩
  refine ⟨noTab, noTab_all, lands_of (round0 ..) ?_⟩
  by_cases hi : i = i0
  · subst hi
    rcases hi0 with hi0 | ⟨hi0, hb⟩
    · refine (lands_of (bF (decide_eq_false (by omega))) ?_)
      rw [h3]
      exact lands_some.2 ⟨rfl, _, rfl⟩
    · have e0 : ((i : Int) - 1) = 0 := by omega
      rw [e0]
      refine (lands_of (bT (decide_eq_true (by omega))) ?_)
      refine (lands_of (bT (inB_iff.2 (by omega))) ?_)
      refine (lands_of (bF (by rw [hb]; rfl)) ?_)
      rw [h3]
      exact lands_some.2 ⟨rfl, _, rfl⟩
  · obtain ⟨j, rfl⟩ : ∃ j, i = j + 1 := ⟨i - 1, by omega⟩
    have ej : (((j + 1 : Nat) : Int) - 1) = (j : Int) := by omega
    rw [ej, bt_nat]
    have hc : isDig ((bytesOf s).getD j 0) = true := by
      refine List.all_eq_true.1 hall _ ?_
      rw [getD_at (by omega)]
      refine List.mem_iff_getElem.2 ⟨j - i0, by rw [List.length_drop]; omega, ?_⟩
      rw [List.getElem_drop]
      congr 1
      omega
    have hc := dig_iff.1 hc
    have ew : IntKind.i64.wrap (IntKind.u8.wrap ((bytesOf s).getD j 0 - 48)) = (bytesOf s).getD j 0 - 48 := by
      rw [IntWalk.u8_in _ ⟨by omega, by omega⟩, w64 (by omega) (by omega)]
    rw [ew]
    refine (lands_of (bT (decide_eq_true (by omega))) ?_)
    refine (lands_of (bT (inB_iff.2 (by omega))) ?_)
    refine (lands_of (bT (by rw [bne_iff_ne]; omega)) ?_)
    refine (lands_of (bT (inB_iff.2 (by omega))) ?_)
    refine (lands_of (bT (by rw [Bool.true_and]; exact decide_eq_true (by rw [List.length_append, h3, List.length_map, List.length_reverse, List.length_drop, List.length_singleton]; omega))) ?_)
    refine lands_some.2 ⟨j, _, by rw [w64 (by omega) (by omega)], ⟨by omega, by omega, ?_⟩, by show j < j + 1; omega⟩
    rw [h3, List.drop_eq_getElem_cons (by omega : j < (bytesOf s).length), List.reverse_cons, List.map_append, getD_at (by omega)]
    rfl
end RExact
theorem meets_rexact : Meets Try.prog 84 anrExact := by
  refine meets_fn (orc_ok (l := RExact.ans) ⟨meets_rtrim, trivial⟩) Try.f84 Try.func84 (by kernel_rfl) (fun args r h => ?_)
  unfold anrExact at h
  split at h
  · rename_i s
    simp only [Option.some.injEq, Prod.mk.injEq, Bool.and_eq_true, decide_eq_true_eq] at h
    obtain ⟨⟨hsz, hf⟩, rfl⟩ := h
    have hlen := bytes_len s
    have hall : (digs (bytesOf s)).all isDig = true := by unfold form at hf; rw [Bool.and_eq_true] at hf; exact hf.2
    have hne : digs (bytesOf s) ≠ [] := by
      intro h0
      unfold form at hf
      rw [h0] at hf
      cases hf
    have hok : okB 10 ((digs (bytesOf s)).reverse.map (· - 48)) = true := by
      refine okB_iff.2 (fun d hd => ?_)
      obtain ⟨c, hc, rfl⟩ := List.mem_map.1 hd
      have := dig_iff.1 (List.all_eq_true.1 hall c (List.mem_reverse.1 hc))
      omega
    have hdl : (digs (bytesOf s)).length ≤ s.size := by
      unfold digs
      cases hasNeg (bytesOf s) <;> simp only [cond_true, cond_false, List.length_drop] <;> omega
    have h0 : 0 < s.size := by
      have := List.length_pos_iff.2 hne
      omega
    have ew : IntKind.i64.wrap ((s.size : Int) - 1) = (s.size : Int) - 1 := w64 (by omega) (by omega)
    have fin : ∀ (b : Bool) (x : Int), hasNeg (bytesOf s) = b → (bt s 0 == 45) = b → Ends T RExact.orc RExact.L0 RExact.D0 (RExact.st0 s ((s.size : Int) - 1) []) (.exit 0) (RExact.st0 s x ((digs (bytesOf s)).reverse.map (· - 48))) →
        ∃ tab, (∀ C, TabOk T RExact.orc tab C) ∧ runT T RExact.orc tab Try.f84 [.str s] = some (.val (M (tval (bytesOf s)))) := by
      intro b x hb hbt hE
      refine ⟨_, tabOf_all _, (RExact.rest s ((digs (bytesOf s)).reverse.map (· - 48)) x).trans ?_⟩
      rw [ew]
      refine (bT (cdec_true hE)).trans ((bT (inB_iff.2 (by omega))).trans ((bT ?_).trans ?_))
      · rw [hok, few_iff.2 (by rw [List.length_map, List.length_reverse]; omega)]; rfl
      · rw [hbt]
        unfold tval
        rw [hb]
        rfl
    refine ⟨rfl, ?_⟩
    by_cases h45 : bt s 0 = 45
    · obtain ⟨_, hn, _⟩ := neg_of s h45
      have hd := neg_drop s h45
      obtain ⟨e1, S1, hE1, rfl, x, rfl⟩ := RExact.loop s hsz 1 (by omega) (by rw [← hd]; exact hall) (.inr ⟨rfl, h45⟩)
      rw [← hd] at hE1
      exact fin true x hn (by rw [h45]; rfl) hE1
    · obtain ⟨hn, hd⟩ := pos_of s h45
      obtain ⟨e1, S1, hE1, rfl, x, rfl⟩ := RExact.loop s hsz 0 (by omega) (by rw [List.drop_zero, ← hd]; exact hall) (.inl rfl)
      rw [List.drop_zero, ← hd] at hE1
      exact fin false x hn (by rw [beq_eq_false_iff_ne]; exact h45) (by rw [hd]; rw [hd] at hE1; exact hE1)
  · cases h
set_option exponentiation.threshold 20000 in
theorem ten400_Lim : (10 : Nat) ^ 400 < Lim := Nat.lt_of_not_le (fun h => by
  have h2 : Nat.ble Lim (10 ^ 400) = true := Nat.ble_eq_true_of_le h
  have h3 : Nat.ble Lim (10 ^ 400) = false := by kernel_rfl
  rw [h3] at h2; cases h2)
set_option exponentiation.threshold 20000 in
theorem tval_lim {l : List Int} (hf : form l = true) (hl : l.length ≤ 400) : (tval l).natAbs < Lim := by
  have hall : (digs l).all isDig = true := by unfold form at hf; rw [Bool.and_eq_true] at hf; exact hf.2
  have hdl : (digs l).length ≤ 400 := by
    unfold digs
    cases hasNeg l <;> simp only [cond_true, cond_false, List.length_drop] <;> omega
  have hb := dval_bound _ hall
  have hp := pow_mono (B := 10) (by decide) hdl
  have h1 : dval (digs l) < ((10 ^ 400 : Nat) : Int) := by rw [Int.natCast_pow]; exact Int.lt_of_lt_of_le hb.2 hp
  have h2 : (dval (digs l)).natAbs < Lim := Nat.lt_trans (by omega) ten400_Lim
  unfold tval
  cases hasNeg l <;> simp only [cond_true, cond_false, Int.natAbs_neg] <;> exact h2
theorem meets_rparse : Meets Try.prog 59 anrParse := by
  refine meets_fn (orc_ok (l := RParse.ans) ⟨meets_rform, meets_rexact, meets_rtoobig, trivial⟩) Try.f59 Try.func59 (by kernel_rfl) (fun args r h => ?_)
  unfold anrParse at h
  split at h
  · rename_i s
    simp only [Option.some.injEq, Prod.mk.injEq] at h
    obtain ⟨h, rfl⟩ := h
    have hsz := of_decide_eq_true h
    have hlen := bytes_len s
    refine ⟨rfl, _, noTab_all, (RParse.rest s).trans ((bT h).trans ?_)⟩
    cases hf : form (bytesOf s) with
    | false =>
      unfold rv re
      rw [hf]; rfl
    | true =>
      refine (bF rfl).trans ?_
      by_cases hbig : s.size > 400
      · refine (bT (decide_eq_true (by omega))).trans ?_
        have hdl : (digs (bytesOf s)).length > 343 := by
          unfold digs
          cases hasNeg (bytesOf s) <;> simp only [cond_true, cond_false, List.length_drop] <;> omega
        have hD : formD (digs (bytesOf s)) (hasNeg (bytesOf s)) = true := by rw [← form_D rfl rfl]; exact hf
        have hall : (digs (bytesOf s)).all isDig = true := ((formD_eq _ _).1 hD).2.2
        have h0 : (digs (bytesOf s)).getD 0 0 ≠ 48 := fun h0 => ((formD_eq _ _).1 hD).2.1 ⟨h0, .inl (by omega)⟩
        have hb := dval_big hall h0 hdl
        have hfz : fits (tval (bytesOf s)) = false := by
          refine big_fits ?_
          unfold tval
          cases hasNeg (bytesOf s) <;> simp only [cond_true, cond_false, az] <;> omega
        unfold rv re
        rw [hf]
        simp only [cond_true]
        unfold hz he
        rw [hfz]; rfl
      · refine (bF (decide_eq_false (by omega))).trans ((bT (by rw [h]; rfl)).trans ((bT ?_).trans ?_))
        · rw [cn10]; exact decide_eq_true (tval_lim hf (by omega))
        · rw [N10_eq]
          unfold rv re
          rw [hf]
          simp only [cond_true]
          unfold hz he
          cases fits (tval (bytesOf s)) <;> rfl
  · cases h
end Go.Abs
end
section
/- The statements of layer 1: their helpers. -/
namespace Go.Abs
open Go.Proofs Go.Dig
theorem txtL_byte (z : Int) : ∀ c ∈ txtL z, 0 ≤ c ∧ c < 256 := by
  intro c hc
  unfold txtL at hc
  by_cases h : z = 0
  · rw [if_pos h] at hc
    have := List.mem_singleton.1 hc
    omega
  · rw [if_neg h] at hc
    rcases List.mem_append.1 hc with hc | hc
    · split at hc
      · have := List.mem_singleton.1 hc; omega
      · cases hc
    · unfold dig at hc
      obtain ⟨d, hd, rfl⟩ := List.mem_map.1 hc
      have := okB_iff.1 (limbs_ok T_pos (z.natAbs : Int)) d (List.mem_reverse.1 hd)
      omega
theorem bytesOf_strOf {l : List Int} (h : ∀ c ∈ l, 0 ≤ c ∧ c < 256) : bytesOf (strOf l) = l := by
  unfold bytesOf strOf
  simp only [List.map_map]
  refine (List.map_congr_left (g := id) (fun c hc => ?_)).trans (List.map_id l)
  have := h c hc
  show ((UInt8.ofNat c.toNat).toNat : Int) = c
  rw [UInt8.toNat_ofNat']
  omega
theorem toList_inj {a b : ByteArray} (h : a.toList = b.toList) : a = b := by
  rw [ByteArray.toList_eq, ByteArray.toList_eq] at h
  exact ByteArray.ext (Array.toList_inj.1 h)
theorem bytesOf_txt (z : Int) : bytesOf (txt z) = txtL z := bytesOf_strOf (txtL_byte z)
/-- What num gives is held. -/
theorem fits_rv (s : ByteArray) : fits (rv s) = true := by
  have f0 : fits 0 = true := by kernel_rfl
  unfold rv
  cases form (bytesOf s) with
  | false => exact f0
  | true =>
    rw [cond_true]
    unfold hz
    cases hf : fits (tval (bytesOf s)) with
    | false => exact f0
    | true => exact hf
end Go.Abs
end
section
/- The statements of layer 1: texts read, numbers reckoned. -/
namespace Go.Abs
open Go.Proofs Go.Dig
theorem bytesOf_inj {a b : ByteArray} (h : bytesOf a = bytesOf b) : a = b := by
  have hs : a.size = b.size := by rw [← bytes_len, ← bytes_len, h]
  unfold bytesOf at h
  have : a.data.toList = b.data.toList := by
    refine (List.map_inj_right (fun x y hxy => ?_)).1 h
    have hxy : (x.toNat : Int) = y.toNat := hxy
    exact UInt8.toNat_inj.1 (by omega)
  exact ByteArray.ext (Array.toList_inj.1 this)
end Go.Abs
end
section
/- The statements of layer 1: rings, moves. -/
namespace Go.Abs
open Go.Proofs Go.Dig
theorem ne_b {x y : Int} (h : x ≠ y) : (x != y) = true := by rw [bne_iff_ne]; exact h
theorem eq_b {x y : Int} (h : x = y) : (x != y) = false := by subst h; exact bne_self_eq_false x
end Go.Abs
end
section
/- The statements of layer 1: quotients and rests, divisors. -/
namespace Go.Abs
open Go.Proofs Go.Dig
theorem fits_le {x y : Int} (h : fits y = true) (hle : x.natAbs ≤ y.natAbs) : fits x = true := fits_iff.2 (Nat.lt_of_le_of_lt hle (fits_iff.1 h))
theorem fits_gz {x y : Int} (hx : fits x = true) (hy : fits y = true) : fits (gz x y) = true := by
  unfold gz
  by_cases h : x = 0
  · subst h
    rw [Int.gcd_zero_left]
    exact fits_le hy (by omega)
  · have : Int.gcd x y ≤ x.natAbs := Nat.le_of_dvd (by omega) (Nat.gcd_dvd_left _ _)
    exact fits_le hx (by omega)
end Go.Abs
end
section
/- The statements of layer 1: sums of lists. -/
namespace Go.Abs
open Go.Proofs Go.Dig
def isS : List AV → Bool
  | [.str _] => true
  | _ => false
end Go.Abs
end
section
/- Sums of variables as lists: plain mathematics. -/
namespace Go.Abs
open Go.Dig
theorem fits0 : fits 0 = true := by kernel_rfl
abbrev Asc (l : List (Int × Int)) : Prop := l.Pairwise (fun p q => p.1 < q.1)
def Nz (l : List (Int × Int)) : Prop := ∀ p ∈ l, p.2 ≠ 0
def In (l : List (Int × Int)) : Prop := ∀ p ∈ l, 0 ≤ p.1 ∧ p.1 < 4096
theorem mem_ofF {f : Int → Int} {p : Int × Int} : p ∈ ofF f ↔ (0 ≤ p.1 ∧ p.1 < 4096) ∧ p.2 = f p.1 ∧ p.2 ≠ 0 := by
  rw [ofF_eq]
  rw [List.mem_filter, List.mem_map, bne_iff_ne]
  constructor
  · rintro ⟨⟨v, hv, rfl⟩, h⟩
    rw [List.mem_range] at hv
    exact ⟨⟨by omega, by show (v : Int) < 4096; omega⟩, rfl, h⟩
  · rintro ⟨⟨h1, h2⟩, h3, h4⟩
    refine ⟨⟨p.1.toNat, List.mem_range.2 (by omega), ?_⟩, h4⟩
    rw [Int.toNat_of_nonneg h1, ← h3]
theorem nz_ofF (f : Int → Int) : Nz (ofF f) := fun p hp => (mem_ofF.1 hp).2.2
theorem in_ofF (f : Int → Int) : In (ofF f) := fun p hp => (mem_ofF.1 hp).1
theorem asc_ofF (f : Int → Int) : Asc (ofF f) := by
  rw [ofF_eq]
  refine List.Pairwise.filter _ (List.pairwise_map.2 ?_)
  refine List.pairwise_lt_range.imp (fun h => ?_)
  exact Int.ofNat_lt.2 h
theorem cf_cons (p : Int × Int) (l : List (Int × Int)) (v : Int) : cf (p :: l) v = if p.1 = v then p.2 else cf l v := by
  show (bif decide (p.1 = v) then p.2 else cf l v) = _
  by_cases h : p.1 = v
  · rw [decide_eq_true h, if_pos h]; rfl
  · rw [decide_eq_false h, if_neg h]; rfl
theorem cf_nil (v : Int) : cf [] v = 0 := rfl
theorem cf_none {l : List (Int × Int)} {v : Int} (h : ∀ p ∈ l, p.1 ≠ v) : cf l v = 0 := by
  induction l with
  | nil => rfl
  | cons p l ih =>
    rw [cf_cons, if_neg (h p List.mem_cons_self)]
    exact ih (fun q hq => h q (List.mem_cons_of_mem _ hq))
theorem cf_mem {l : List (Int × Int)} (ha : Asc l) {p : Int × Int} (hp : p ∈ l) : cf l p.1 = p.2 := by
  induction l with
  | nil => cases hp
  | cons q l ih =>
    have ha := List.pairwise_cons.1 ha
    rw [cf_cons]
    rcases List.mem_cons.1 hp with rfl | h
    · rw [if_pos rfl]
    · rw [if_neg (by have := ha.1 p h; omega)]
      exact ih ha.2 h
theorem cf_ofF (f : Int → Int) (v : Int) : cf (ofF f) v = if 0 ≤ v ∧ v < 4096 then f v else 0 := by
  by_cases hv : 0 ≤ v ∧ v < 4096
  · rw [if_pos hv]
    by_cases h0 : f v = 0
    · rw [h0]
      refine cf_none (fun p hp hpv => ?_)
      obtain ⟨_, h1, h2⟩ := mem_ofF.1 hp
      rw [hpv] at h1
      omega
    · have hm : ((v, f v) : Int × Int) ∈ ofF f := mem_ofF.2 ⟨hv, rfl, h0⟩
      exact cf_mem (p := (v, f v)) (asc_ofF f) hm
  · rw [if_neg hv]
    exact cf_none (fun p hp hpv => hv (hpv ▸ in_ofF f p hp))
theorem cf_ext : ∀ {l m : List (Int × Int)}, Asc l → Nz l → Asc m → Nz m → (∀ v, cf l v = cf m v) → l = m
  | [], [], _, _, _, _, _ => rfl
  | [], q :: m, _, _, _, hn, h => by
    have := h q.1
    rw [cf_nil, cf_cons, if_pos rfl] at this
    exact absurd this.symm (hn q List.mem_cons_self)
  | p :: l, [], _, hn, _, _, h => by
    have := h p.1
    rw [cf_nil, cf_cons, if_pos rfl] at this
    exact absurd this (hn p List.mem_cons_self)
  | p :: l, q :: m, ha, hn, ha', hn', h => by
    have ha := List.pairwise_cons.1 ha
    have ha' := List.pairwise_cons.1 ha'
    have h1 := h p.1
    have h2 := h q.1
    rw [cf_cons, if_pos rfl, cf_cons] at h1
    rw [cf_cons q m, if_pos rfl, cf_cons] at h2
    have e1 : p.1 = q.1 := by
      false_or_by_contra
      rename_i hne
      rw [if_neg (fun hh => hne hh.symm)] at h1
      rw [if_neg hne] at h2
      rcases Int.lt_or_gt_of_ne hne with hl | hl
      · exact hn p List.mem_cons_self (h1.trans (cf_none (fun r hr hv => by have := ha'.1 r hr; omega)))
      · exact hn' q List.mem_cons_self (h2.symm.trans (cf_none (fun r hr hv => by have := ha.1 r hr; omega)))
    rw [if_pos e1.symm] at h1
    have e2 : p = q := Prod.ext e1 h1
    subst e2
    have e3 : l = m := by
      refine cf_ext ha.2 (fun r hr => hn r (List.mem_cons_of_mem _ hr)) ha'.2 (fun r hr => hn' r (List.mem_cons_of_mem _ hr)) (fun v => ?_)
      by_cases hv : p.1 = v
      · rw [cf_none (fun r hr hrv => by have := ha.1 r hr; omega), cf_none (fun r hr hrv => by have := ha'.1 r hr; omega)]
      · have := h v
        rw [cf_cons, if_neg hv, cf_cons, if_neg hv] at this
        exact this
    rw [e3]
/-- A list of that kind is its coefficients' list. -/
theorem canon {l : List (Int × Int)} (ha : Asc l) (hn : Nz l) (hi : In l) : l = ofF (cf l) := by
  refine cf_ext ha hn (asc_ofF _) (nz_ofF _) (fun v => ?_)
  rw [cf_ofF]
  by_cases hv : 0 ≤ v ∧ v < 4096
  · rw [if_pos hv]
  · rw [if_neg hv]
    exact cf_none (fun p hp hpv => hv (hpv ▸ hi p hp))
theorem ofF_congr {f g : Int → Int} (h : ∀ v, 0 ≤ v → v < 4096 → f v = g v) : ofF f = ofF g := by
  refine cf_ext (asc_ofF _) (nz_ofF _) (asc_ofF _) (nz_ofF _) (fun v => ?_)
  rw [cf_ofF, cf_ofF]
  by_cases hv : 0 ≤ v ∧ v < 4096
  · rw [if_pos hv, if_pos hv, h v hv.1 hv.2]
  · rw [if_neg hv, if_neg hv]
theorem ofF_zero : ofF (fun _ => 0) = [] := by
  refine List.eq_nil_iff_forall_not_mem.2 (fun p hp => ?_)
  obtain ⟨_, h1, h2⟩ := mem_ofF.1 hp
  exact h2 h1
theorem ofF_len (f : Int → Int) : (ofF f).length ≤ 4096 := by
  rw [ofF_eq]
  refine Nat.le_trans (List.length_filter_le _ _) ?_
  rw [List.length_map, List.length_range]
  exact Nat.le_refl _
theorem okL_asc {l : List (Int × Int)} (h : okL l) : Asc l := by obtain ⟨f, _, rfl⟩ := h; exact asc_ofF f
theorem okL_nz {l : List (Int × Int)} (h : okL l) : Nz l := by obtain ⟨f, _, rfl⟩ := h; exact nz_ofF f
theorem okL_in {l : List (Int × Int)} (h : okL l) : In l := by obtain ⟨f, _, rfl⟩ := h; exact in_ofF f
theorem okL_len {l : List (Int × Int)} (h : okL l) : l.length ≤ 4096 := by obtain ⟨f, _, rfl⟩ := h; exact ofF_len f
theorem okL_canon {l : List (Int × Int)} (h : okL l) : l = ofF (cf l) := canon (okL_asc h) (okL_nz h) (okL_in h)
theorem okL_cf {l : List (Int × Int)} (h : okL l) (v : Int) : fits (cf l v) = true := by
  obtain ⟨f, hf, rfl⟩ := h
  rw [cf_ofF]
  split
  · exact hf v
  · exact fits0
theorem okL_mem {l : List (Int × Int)} (h : okL l) {p : Int × Int} (hp : p ∈ l) : fits p.2 = true := by
  rw [← cf_mem (okL_asc h) hp]; exact okL_cf h _
theorem okL_ofF {f : Int → Int} (h : ∀ v, 0 ≤ v → v < 4096 → fits (f v) = true) : okL (ofF f) := by
  refine ⟨fun v => if 0 ≤ v ∧ v < 4096 then f v else 0, fun v => ?_, ofF_congr (fun v h1 h2 => by rw [if_pos ⟨h1, h2⟩])⟩
  by_cases hv : 0 ≤ v ∧ v < 4096
  · show fits (if 0 ≤ v ∧ v < 4096 then f v else 0) = true
    rw [if_pos hv]; exact h v hv.1 hv.2
  · show fits (if 0 ≤ v ∧ v < 4096 then f v else 0) = true
    rw [if_neg hv]; exact fits0
theorem okL_nil : okL [] := ⟨fun _ => 0, fun _ => fits0, ofF_zero.symm⟩
theorem cf_out {l : List (Int × Int)} (h : In l) {v : Int} (hv : ¬ (0 ≤ v ∧ v < 4096)) : cf l v = 0 := cf_none (fun p hp hpv => hv (hpv ▸ h p hp))
theorem okL_eq {l m : List (Int × Int)} (h : okL l) (k : okL m) (e : ∀ v, cf l v = cf m v) : l = m := cf_ext (okL_asc h) (okL_nz h) (okL_asc k) (okL_nz k) e
/-- What is of a kind on both sides. -/
theorem eq_ofF {l : List (Int × Int)} {f : Int → Int} (ha : Asc l) (hn : Nz l) (e : ∀ v, cf l v = if 0 ≤ v ∧ v < 4096 then f v else 0) : l = ofF f :=
  cf_ext ha hn (asc_ofF _) (nz_ofF _) (fun v => by rw [e, cf_ofF])
theorem cf_snoc {l : List (Int × Int)} {p : Int × Int} (h : ∀ q ∈ l, q.1 < p.1) (v : Int) : cf (l ++ [p]) v = if v = p.1 then p.2 else cf l v := by
  induction l with
  | nil =>
    rw [List.nil_append, cf_cons, cf_nil]
    by_cases hv : p.1 = v
    · rw [if_pos hv, if_pos hv.symm]
    · rw [if_neg hv, if_neg (fun hh => hv hh.symm)]
  | cons q l ih =>
    rw [List.cons_append, cf_cons, cf_cons, ih (fun r hr => h r (List.mem_cons_of_mem _ hr))]
    have := h q List.mem_cons_self
    by_cases hv : q.1 = v
    · rw [if_pos hv, if_neg (by omega), if_pos hv]
    · rw [if_neg hv, if_neg hv]
/-- One more behind, none with nought. -/
def putL (z : Int) (l : List (Int × Int)) (v : Int) : List (Int × Int) := bif z == 0 then l else l ++ [(v, z)]
theorem putL_snoc {f g : Int → Int} {v z : Int} (hv : 0 ≤ v ∧ v < 4096) (h0 : ∀ w, v ≤ w → w < 4096 → f w = 0) (hg : ∀ w, 0 ≤ w → w < 4096 → g w = if w = v then z else f w) : putL z (ofF f) v = ofF g := by
  have hlt : ∀ q ∈ ofF f, q.1 < v := fun q hq => by
    obtain ⟨h1, h2, h3⟩ := mem_ofF.1 hq
    false_or_by_contra
    rename_i hn
    exact h3 (h2.trans (h0 q.1 (by omega) h1.2))
  unfold putL
  by_cases hz : z = 0
  · rw [show (z == 0) = true from beq_iff_eq.2 hz, cond_true]
    refine ofF_congr (fun w h1 h2 => ?_)
    rw [hg w h1 h2]
    split
    · rename_i hw; rw [hz, hw]; exact h0 v (Int.le_refl _) hv.2
    · rfl
  · rw [show (z == 0) = false from beq_eq_false_iff_ne.2 hz, cond_false]
    refine eq_ofF ?_ ?_ (fun w => ?_)
    · refine List.pairwise_append.2 ⟨asc_ofF f, List.pairwise_singleton .., fun q hq p hp => ?_⟩
      rw [List.mem_singleton.1 hp]
      exact hlt q hq
    · intro q hq
      rcases List.mem_append.1 hq with hq | hq
      · exact nz_ofF f q hq
      · rw [List.mem_singleton.1 hq]; exact hz
    · rw [cf_snoc hlt, cf_ofF]
      by_cases hw : 0 ≤ w ∧ w < 4096
      · rw [if_pos hw, if_pos hw, hg w hw.1 hw.2]
      · rw [if_neg hw, if_neg hw, if_neg (by rintro rfl; exact hw hv)]
theorem putV_map (z : Int) (l : List (Int × Int)) (v : Int) : putV z (l.map (fun p => p.1)) v = (putL z l v).map (fun p => p.1) := by
  unfold putV putL
  cases z == 0 with
  | true => rfl
  | false => rw [cond_false, cond_false, List.map_append]; rfl
theorem putR_map (z : Int) (l : List (Int × Int)) (v : Int) : putR z (l.map cL) [.bool (sg z), .ints .u32 (lb 4294967296 z)] = (putL z l v).map cL := by
  unfold putR putL
  cases z == 0 with
  | true => rfl
  | false => rw [cond_false, cond_false, List.map_append]; rfl
theorem putM_map (z : Int) (l : List (Int × Int)) (v : Int) : putR z (l.map cE) [.int .i64 v, .bool (sg z), .ints .i64 (lb 10 z)] = (putL z l v).map cE := by
  unfold putR putL
  cases z == 0 with
  | true => rfl
  | false => rw [cond_false, cond_false, List.map_append]; rfl
/-- A list's first parts: their coefficients. -/
theorem take_lt {l : List (Int × Int)} (ha : Asc l) {i : Nat} (hi : i < l.length) : ∀ q ∈ l.take i, q.1 < l[i].1 := fun q hq => by
  obtain ⟨j, hj, rfl⟩ := List.mem_take_iff_getElem.1 hq
  exact List.pairwise_iff_getElem.1 ha j i (by omega) hi (by omega)
theorem cf_take_succ {l : List (Int × Int)} (ha : Asc l) {i : Nat} (hi : i < l.length) (v : Int) : cf (l.take (i + 1)) v = if v = l[i].1 then l[i].2 else cf (l.take i) v := by
  rw [List.take_add_one, List.getElem?_eq_getElem hi]
  exact cf_snoc (take_lt ha hi) v
theorem cf_take_ge {l : List (Int × Int)} (ha : Asc l) {i : Nat} (hi : i < l.length) {v : Int} (hv : l[i].1 ≤ v) : cf (l.take i) v = 0 :=
  cf_none (fun p hp hpv => by have := take_lt ha hi p hp; omega)
/-- One part more, each coefficient by a law of its own. -/
theorem map_step {l : List (Int × Int)} (ha : Asc l) (hn : In l) {g : Int → Int → Int} (g0 : ∀ v, g v 0 = 0) {i : Nat} (hi : i < l.length) :
    putL (g l[i].1 l[i].2) (ofF (fun v => g v (cf (l.take i) v))) l[i].1 = ofF (fun v => g v (cf (l.take (i + 1)) v)) := by
  refine putL_snoc (hn _ (List.getElem_mem hi)) (fun w h1 h2 => ?_) (fun w h1 h2 => ?_)
  · rw [cf_take_ge ha hi h1, g0]
  · rw [cf_take_succ ha hi]
    by_cases hw : w = l[i].1
    · rw [if_pos hw, if_pos hw, hw]
    · rw [if_neg hw, if_neg hw]
theorem map_step0 {g : Int → Int → Int} (g0 : ∀ v, g v 0 = 0) (l : List (Int × Int)) : ofF (fun v => g v (cf (l.take 0) v)) = [] := by
  rw [List.take_zero]
  exact (ofF_congr (fun v _ _ => g0 v)).trans ofF_zero
theorem lvs_nil : lvs [] = [] := lvs_eq []
theorem lrs_nil : lrs [] = [] := lrs_eq []
theorem mrs_nil : mrs [] = [] := mrs_eq []
/-- What stands for a list. -/
theorem map_rowN_cL (l : List (Int × Int)) : (l.map cL).map (rowN 4294967296) = l.map (fun p => p.2) := by
  rw [List.map_map]
  exact List.map_congr_left (fun p _ => num_lb (by decide) p.2)
theorem dl_map (l : List (Int × Int)) : dl (l.map (fun p => p.1)) (l.map cL) = l := by
  rw [dl_eq, map_rowN_cL]
  induction l with
  | nil => rfl
  | cons p l ih => rw [List.map_cons, List.map_cons, List.zip_cons_cons, ih]
theorem dm_map (l : List (Int × Int)) : dm (l.map cE) = l := by
  rw [dm_eq, List.map_map]
  exact (List.map_congr_left (fun p _ => show (p.1, num 10 (sg p.2) (lb 10 p.2)) = p by rw [num_lb (by decide)])).trans (List.map_id l)
theorem dp_map (l : List (Int × ByteArray)) : dp (l.map cP) = l := by
  rw [dp_eq, List.map_map]
  exact (List.map_congr_left (fun p _ => rfl)).trans (List.map_id l)
theorem isl_iff {vs : List Int} {r : List (List AV)} : isl vs r = true ↔ ∃ l, okL l ∧ vs = l.map (fun p => p.1) ∧ r = l.map cL := by
  rw [isl_eq]; exact ⟨cdec_iff, cdec_true⟩
theorem ism_iff {r : List (List AV)} : ism r = true ↔ ∃ l, okL l ∧ r = l.map cE := by
  rw [ism_eq]; exact ⟨cdec_iff, cdec_true⟩
theorem iss_iff {r : List (List AV)} : iss r = true ↔ ∃ l, okS l ∧ r = l.map cE := by
  rw [iss_eq]; exact ⟨cdec_iff, cdec_true⟩
theorem isp_iff {r : List (List AV)} : isp r = true ↔ ∃ l : List (Int × ByteArray), (∀ p ∈ l, i64B p.1 = true ∧ p.2.size ≤ 10000) ∧ r = l.map cP := by
  rw [isp_eq]; exact ⟨cdec_iff, cdec_true⟩
theorem isq_iff {r : List (List AV)} : isq r = true ↔ ∃ l : List (Int × ByteArray), (∀ p ∈ l, i64B p.1 = true) ∧ r = l.map cP := by
  rw [isq_eq]; exact ⟨cdec_iff, cdec_true⟩
theorem isg_iff {r : List (List AV)} : isg r = true ↔ ∃ l : List (Int × ByteArray), (∀ p ∈ l, i64B p.1 = true ∧ p.1 < 4096 ∧ p.2.size ≤ 10000) ∧ l.length ≤ 100000 ∧ r = l.map cP := by
  rw [isg_eq]; exact ⟨cdec_iff, cdec_true⟩
theorem dl_lvs (l : List (Int × Int)) : dl (lvs l) (lrs l) = l := by rw [lvs_eq, lrs_eq, dl_map]
theorem dm_mrs (l : List (Int × Int)) : dm (mrs l) = l := by rw [mrs_eq, dm_map]
theorem dp_prs (l : List (Int × ByteArray)) : dp (prs l) = l := by rw [prs_eq, dp_map]
theorem isl_lvs {l : List (Int × Int)} (h : okL l) : isl (lvs l) (lrs l) = true := isl_iff.2 ⟨l, h, lvs_eq l, lrs_eq l⟩
theorem ism_mrs {l : List (Int × Int)} (h : okL l) : ism (mrs l) = true := ism_iff.2 ⟨l, h, mrs_eq l⟩
theorem lvs_len (l : List (Int × Int)) : (lvs l).length = l.length := by rw [lvs_eq, List.length_map]
theorem mrs_len (l : List (Int × Int)) : (mrs l).length = l.length := by rw [mrs_eq, List.length_map]
theorem cnW_fits {z : Int} (h : fits z = true) : cn 4294967296 (sg z) (lb 4294967296 z) = true := by
  rw [cn_lb (by decide), decide_eq_true (small_of_fits h)]
theorem cnT_fits {z : Int} (h : fits z = true) : cn 10 (sg z) (lb 10 z) = true := by
  rw [cn_lb (by decide), decide_eq_true (small_of_fits h)]
/-- A term's four parts, as they are handed on. -/
theorem isT_iff {vs : List Int} {r : List (List AV)} {b : Bool} {m : List Int} : isT vs r b m = true ↔ ∃ l c, okL l ∧ fits c = true ∧ vs = l.map (fun p => p.1) ∧ r = l.map cL ∧ b = sg c ∧ m = lb 4294967296 c := by
  unfold isT
  rw [Bool.and_eq_true, Bool.and_eq_true, isl_iff, cn_iff (by decide)]
  constructor
  · rintro ⟨⟨l, h1, h2, h3⟩, ⟨z, h4, h5, _⟩, h6⟩
    rw [h4, h5, num_lb (by decide)] at h6
    exact ⟨l, z, h1, h6, h2, h3, h4, h5⟩
  · rintro ⟨l, c, h1, h2, h3, h4, h5, h6⟩
    refine ⟨⟨l, h1, h3, h4⟩, ⟨c, h5, h6, small_of_fits h2⟩, ?_⟩
    rw [h5, h6, num_lb (by decide)]; exact h2
theorem isE_iff {r : List (List AV)} {b : Bool} {m : List Int} : isE r b m = true ↔ ∃ l c, okL l ∧ fits c = true ∧ r = l.map cE ∧ b = sg c ∧ m = lb 10 c := by
  unfold isE
  rw [Bool.and_eq_true, Bool.and_eq_true, ism_iff, cn_iff (by decide)]
  constructor
  · rintro ⟨⟨l, h1, h3⟩, ⟨z, h4, h5, _⟩, h6⟩
    rw [h4, h5, num_lb (by decide)] at h6
    exact ⟨l, z, h1, h6, h3, h4, h5⟩
  · rintro ⟨l, c, h1, h2, h4, h5, h6⟩
    refine ⟨⟨l, h1, h4⟩, ⟨c, h5, h6, small_of_fits h2⟩, ?_⟩
    rw [h5, h6, num_lb (by decide)]; exact h2
theorem isT_of {l : List (Int × Int)} {c : Int} (h : okL l) (k : fits c = true) : isT (lvs l) (lrs l) (sg c) (lb 4294967296 c) = true := isT_iff.2 ⟨l, c, h, k, lvs_eq l, lrs_eq l, rfl, rfl⟩
theorem isT_of0 {l : List (Int × Int)} (h : okL l) : isT (lvs l) (lrs l) false [] = true := isT_iff.2 ⟨l, 0, h, fits0, lvs_eq l, lrs_eq l, sg_zero.symm, (lb_zero _).symm⟩
theorem isE_of {l : List (Int × Int)} {c : Int} (h : okL l) (k : fits c = true) : isE (mrs l) (sg c) (lb 10 c) = true := isE_iff.2 ⟨l, c, h, k, mrs_eq l, rfl, rfl⟩
theorem fits_neg {z : Int} (h : fits z = true) : fits (-z) = true := by
  unfold fits at h ⊢
  rw [Int.natAbs_neg]; exact h
/-- The kinds of the results. -/
theorem okL_neg {l : List (Int × Int)} (h : okL l) : okL (negL l) := by
  rw [negL_eq]; exact okL_ofF (fun v _ _ => fits_neg (okL_cf h v))
theorem addE_cases (l m : List (Int × Int)) (c d : Int) : (addE l m c d = 0 ∧ addL l m c d = ofF (fun v => cf l v + cf m v) ∧ addC l m c d = c + d ∧ fits (c + d) = true ∧ ∀ v, fits (cf l v + cf m v) = true) ∨ (addE l m c d = 11 ∧ addL l m c d = [] ∧ addC l m c d = 0 ∧ ¬ (fits (c + d) = true ∧ ∀ v, fits (cf l v + cf m v) = true)) := by
  have h1 := addE_eq l m c d
  have h2 := addL_eq l m c d
  have h3 := addC_eq l m c d
  cases hb : (fits (c + d) && cdec (∀ v, fits (cf l v + cf m v) = true)) with
  | true =>
    rw [hb] at h1
    have h1 : addE l m c d = 0 := h1
    rw [h1] at h2 h3
    rw [Bool.and_eq_true] at hb
    exact .inl ⟨h1, h2, h3, hb.1, cdec_iff hb.2⟩
  | false =>
    rw [hb] at h1
    have h1 : addE l m c d = 11 := h1
    rw [h1] at h2 h3
    refine .inr ⟨h1, h2, h3, fun ⟨k1, k2⟩ => ?_⟩
    rw [k1, cdec_true k2] at hb
    cases hb
theorem okL_add (l m : List (Int × Int)) (c d : Int) : okL (addL l m c d) := by
  rcases addE_cases l m c d with ⟨_, h, _, _, k⟩ | ⟨_, h, _⟩
  · rw [h]; exact okL_ofF (fun v _ _ => k v)
  · rw [h]; exact okL_nil
theorem fits_addC (l m : List (Int × Int)) (c d : Int) : fits (addC l m c d) = true := by
  rcases addE_cases l m c d with ⟨_, _, h, k, _⟩ | ⟨_, _, h, _⟩
  · rw [h]; exact k
  · rw [h]; exact fits0
theorem scE_cases (l : List (Int × Int)) (c k : Int) : (scE l c k = 0 ∧ scL l c k = ofF (fun v => cf l v * k) ∧ scC l c k = c * k ∧ fits (c * k) = true ∧ ∀ v, fits (cf l v * k) = true) ∨ (scE l c k = 11 ∧ scL l c k = [] ∧ scC l c k = 0 ∧ ¬ (fits (c * k) = true ∧ ∀ v, fits (cf l v * k) = true)) := by
  have h1 := scE_eq l c k
  have h2 := scL_eq l c k
  have h3 := scC_eq l c k
  cases hb : (fits (c * k) && cdec (∀ v, fits (cf l v * k) = true)) with
  | true =>
    rw [hb] at h1
    have h1 : scE l c k = 0 := h1
    rw [h1] at h2 h3
    rw [Bool.and_eq_true] at hb
    exact .inl ⟨h1, h2, h3, hb.1, cdec_iff hb.2⟩
  | false =>
    rw [hb] at h1
    have h1 : scE l c k = 11 := h1
    rw [h1] at h2 h3
    refine .inr ⟨h1, h2, h3, fun ⟨k1, k2⟩ => ?_⟩
    rw [k1, cdec_true k2] at hb
    cases hb
theorem vok_iff {v : Int} : vok v = true ↔ 0 ≤ v ∧ v < 4096 := by
  unfold vok; rw [Bool.and_eq_true, decide_eq_true_eq, decide_eq_true_eq]
theorem cf_lone (v c w : Int) : cf (lone v c) w = if (0 ≤ v ∧ v < 4096) ∧ w = v then c else 0 := by
  rw [lone_eq, cf_ofF]
  by_cases hw : w = v
  · subst hw
    rw [decide_eq_true rfl]
    by_cases h : 0 ≤ w ∧ w < 4096
    · rw [if_pos h, if_pos ⟨h, rfl⟩]; rfl
    · rw [if_neg h, if_neg (fun hh => h hh.1)]
  · rw [decide_eq_false hw, cond_false, ite_self, if_neg (fun hh : (0 ≤ v ∧ v < 4096) ∧ w = v => hw hh.2)]
theorem okL_lone (v : Int) {c : Int} (h : fits c = true) : okL (lone v c) := by
  rw [lone_eq]
  refine okL_ofF (fun w _ _ => ?_)
  cases decide (w = v) with
  | true => exact h
  | false => exact fits0
theorem lone_put {v : Int} (hv : 0 ≤ v ∧ v < 4096) (c : Int) : lone v c = putL c [] v := by
  rw [lone_eq]
  have h := putL_snoc (f := fun _ => 0) (g := fun w => bif decide (w = v) then c else 0) (z := c) hv (fun _ _ _ => rfl) (fun w _ _ => by
    by_cases hw : w = v
    · rw [decide_eq_true hw, if_pos hw]; rfl
    · rw [decide_eq_false hw, if_neg hw]; rfl)
  rw [ofF_zero] at h
  exact h.symm
theorem lone_one {v : Int} (hv : 0 ≤ v ∧ v < 4096) : lone v 1 = [(v, 1)] := lone_put hv 1
end Go.Abs
end
section
/- Parts put behind the others: in linear and in its reference. -/
namespace Go.Abs
open Go.Proofs Go.Dig
theorem cmpZ_zero (z : Int) : (cmpZ z 0 != 0) = !(z == 0) := by
  rw [Bool.eq_iff_iff, bne_iff_ne, Bool.not_eq_true', beq_eq_false_iff_ne]
  unfold cmpZ; (repeat' split) <;> omega
theorem room8 {l : List Int} {v : Int} (h : l.length ≤ 100000) : (true && decide ((l ++ [v]).length * 8 ≤ 140737488355328)) = true := by
  rw [Bool.true_and, decide_eq_true_eq, List.length_append]; simp only [List.length_cons, List.length_nil]; omega
theorem room32 {l : List (List AV)} {v : List AV} (h : l.length ≤ 100000) : (true && decide ((l ++ [v]).length * 32 ≤ 140737488355328)) = true := by
  rw [Bool.true_and, decide_eq_true_eq, List.length_append]; simp only [List.length_cons, List.length_nil]; omega
theorem room40 {l : List (List AV)} {v : List AV} (h : l.length ≤ 100000) : (true && decide ((l ++ [v]).length * 40 ≤ 140737488355328)) = true := by
  rw [Bool.true_and, decide_eq_true_eq, List.length_append]; simp only [List.length_cons, List.length_nil]; omega
theorem meets_lput : Meets Try.prog 68 ansLPut := by
  refine meets_runU T_ok (orc_ok (l := LPut.ans) ⟨meets_sign, trivial⟩) mixed (fn := Try.f68) Try.func68 (by kernel_rfl) (fun args r h => ?_)
  unfold ansLPut at h
  split at h
  · simp at h
  · rename_i vs rr b m v s l
    simp only [Option.some.injEq, Prod.mk.injEq, Bool.and_eq_true, decide_eq_true_eq] at h
    obtain ⟨⟨⟨h1, h2⟩, h3⟩, rfl⟩ := h
    refine ⟨_, _, rfl, runU_tab (noTab_all _) ((LPut.rest vs rr b m v s l).trans ((bT h1).trans ?_))⟩
    rw [cmpZ_zero]
    unfold putV putR
    cases hb : num 4294967296 s l == 0 with
    | true => rfl
    | false => exact (bT rfl).trans ((bT (room8 h2)).trans (bT (room32 h3)))
  · rename_i vs rr b m b2 m2 v s l
    simp only [Option.some.injEq, Prod.mk.injEq, Bool.and_eq_true, decide_eq_true_eq] at h
    obtain ⟨⟨⟨h1, h2⟩, h3⟩, rfl⟩ := h
    refine ⟨_, _, rfl, runU_tab (noTab_all _) ((LPut6.rest vs rr b m b2 m2 v s l).trans ((bT h1).trans ?_))⟩
    rw [cmpZ_zero]
    unfold putV putR
    cases hb : num 4294967296 s l == 0 with
    | true => rfl
    | false => exact (bT rfl).trans ((bT (room8 h2)).trans (bT (room32 h3)))
  · cases h
theorem lb10_len0 (z : Int) : (((lb 10 z).length : Int) == 0) = (z == 0) := by
  rw [Bool.eq_iff_iff, beq_iff_eq, beq_iff_eq]
  constructor
  · intro h
    have h0 : lb 10 z = [] := List.eq_nil_of_length_eq_zero (by omega)
    exact (lb_nil (by decide)).1 h0
  · rintro rfl; rfl
theorem meets_mput : Meets Try.prog 74 ansMPut := by
  refine meets_runK T_ok (orc_ok (l := MPut.ans) trivial) mixed (fn := Try.f74) Try.func74 (by kernel_rfl) (fun args r h => ?_)
  unfold ansMPut at h
  split at h
  · simp at h
  · rename_i rr v s l
    simp only [Option.some.injEq, Prod.mk.injEq, Bool.and_eq_true, decide_eq_true_eq] at h
    obtain ⟨⟨h1, h2⟩, rfl⟩ := h
    refine ⟨_, rfl, runK_tab (noTab_all _) ((MPut.rest rr v s l).trans ?_)⟩
    obtain ⟨z, rfl, rfl, hz⟩ := (cn_iff (by decide : (2 : Int) ≤ 10)).1 h1
    have hn : num 10 (sg z) (lb 10 z) = z := num_lb (by decide) z
    rw [hn, lb10_len0]
    unfold putR
    cases hb : z == 0 with
    | true => rfl
    | false =>
      rw [cond_false, cond_false]
      exact bT (room40 h2)
  · cases h
theorem getL {l : List (Int × Int)} {i : Nat} (h : i < l.length) : (l.map cL).getD ((i : Int).toNat) [] = cL l[i] := by
  rw [Int.toNat_natCast, getD_at (by rw [List.length_map]; exact h), List.getElem_map]
theorem getE {l : List (Int × Int)} {i : Nat} (h : i < l.length) : (l.map cE).getD ((i : Int).toNat) [] = cE l[i] := by
  rw [Int.toNat_natCast, getD_at (by rw [List.length_map]; exact h), List.getElem_map]
theorem getP {l : List (Int × ByteArray)} {i : Nat} (h : i < l.length) : (l.map cP).getD ((i : Int).toNat) [] = cP l[i] := by
  rw [Int.toNat_natCast, getD_at (by rw [List.length_map]; exact h), List.getElem_map]
theorem rdV {l : List (Int × Int)} {i : Nat} (h : i < l.length) : rd (l.map (fun p => p.1)) (i : Int) = l[i].1 := by
  rw [rd_nat, getD_at (by rw [List.length_map]; exact h), List.getElem_map]
theorem cL0 (p : Int × Int) : gBool ((cL p).getD 0 .top) = sg p.2 := rfl
theorem cL1 (p : Int × Int) : gInts ((cL p).getD 1 .top) = lb 4294967296 p.2 := rfl
theorem cLeta (p : Int × Int) : etasOk [.bool false, .ints .u32 []] (cL p) = true := rfl
theorem cE0 (p : Int × Int) : gInt ((cE p).getD 0 .top) = p.1 := rfl
theorem cE1 (p : Int × Int) : gBool ((cE p).getD 1 .top) = sg p.2 := rfl
theorem cE2 (p : Int × Int) : gInts ((cE p).getD 2 .top) = lb 10 p.2 := rfl
theorem inN {i n : Nat} (h : i < n) : inB (i : Int) n = true := by rw [inB_nat]; exact decide_eq_true h
theorem ltN {i n : Nat} (h : i < n) : decide ((i : Int) < (n : Int)) = true := decide_eq_true (Int.ofNat_lt.2 h)
theorem ltN' {i n : Nat} (h : ¬ i < n) : decide ((i : Int) < (n : Int)) = false := decide_eq_false (fun hh => h (Int.ofNat_lt.1 hh))
theorem he_big {z : Int} (h : fits z = false) : he z = 11 := by unfold he; rw [h]; rfl
theorem hz_fit {z : Int} (h : fits z = true) : hz z = z := by unfold hz; rw [h]; rfl
theorem he_fit {z : Int} (h : fits z = true) : he z = 0 := by unfold he; rw [h]; rfl
end Go.Abs
end
section
/- What the small functions of linear answer. -/
namespace Go.Abs
open Go.Proofs Go.Dig
theorem meets_nnum : Meets Try.prog 73 ansLNum := by
  refine meets_fn (orc_ok (l := NNum.ans) trivial) Try.f73 Try.func73 (by kernel_rfl) (fun args r h => ?_)
  unfold ansLNum at h
  split at h
  · rename_i s l
    simp only [Option.some.injEq, Prod.mk.injEq] at h
    obtain ⟨_, rfl⟩ := h
    exact ⟨rfl, _, noTab_all, NNum.rest s l⟩
  · cases h
theorem meets_nvar : Meets Try.prog 35 ansLVar := by
  refine meets_fn (orc_ok (l := NVar.ans) ⟨meets_from, trivial⟩) Try.f35 Try.func35 (by kernel_rfl) (fun args r h => ?_)
  unfold ansLVar at h
  split at h
  · rename_i v
    simp only [Option.some.injEq, Prod.mk.injEq] at h
    obtain ⟨_, rfl⟩ := h
    refine ⟨rfl, _, noTab_all, (NVar.rest v).trans ?_⟩
    unfold vE
    by_cases h1 : v < 0
    · have hv : vok v = false := by rw [Bool.eq_false_iff, ne_eq, vok_iff]; omega
      rw [hv, cond_false, cond_false, lvs_nil, lrs_nil]
      exact bT (decide_eq_true h1)
    by_cases h2 : v ≥ 4096
    · have hv : vok v = false := by rw [Bool.eq_false_iff, ne_eq, vok_iff]; omega
      rw [hv, cond_false, cond_false, lvs_nil, lrs_nil]
      exact (bF (decide_eq_false h1)).trans (bT (decide_eq_true h2))
    · have hv : vok v = true := vok_iff.2 (by omega)
      rw [hv, cond_true, cond_true, lone_one (by omega), lvs_eq, lrs_eq]
      exact (bF (decide_eq_false h1)).trans (bF (decide_eq_false h2))
  · cases h
theorem meets_nrest : Meets Try.prog 37 ansLRest := by
  refine meets_fn (orc_ok (l := NRest.ans) trivial) Try.f37 Try.func37 (by kernel_rfl) (fun args r h => ?_)
  unfold ansLRest at h
  split at h
  · rename_i vs r b m
    simp only [Option.some.injEq, Prod.mk.injEq] at h
    obtain ⟨_, rfl⟩ := h
    exact ⟨rfl, _, noTab_all, NRest.rest vs r b m⟩
  · cases h
theorem meets_nvars : Meets Try.prog 36 ansLVars := by
  refine meets_fn (orc_ok (l := NVars.ans) trivial) Try.f36 Try.func36 (by kernel_rfl) (fun args r h => ?_)
  unfold ansLVars at h
  split at h
  · rename_i vs r b m
    simp only [Option.some.injEq, Prod.mk.injEq] at h
    obtain ⟨h1, rfl⟩ := h
    refine ⟨rfl, _, noTab_all, (NVars.rest vs r b m).trans (bT ?_)⟩
    obtain ⟨l, h2, rfl, _⟩ := isl_iff.1 h1
    have := okL_len h2
    rw [Bool.true_and, decide_eq_true_eq, List.length_map]
    omega
  · cases h
namespace NCoef
theorem loop (l : List (Int × Int)) (b : Bool) (m : List Int) (v : Int) (hl : okL l) : ∃ e S1, Ends T orc L0 D0 (st0 (l.map (fun p => p.1)) (l.map cL) b m v 0 l.length) e S1 ∧ e = .exit 0 ∧ ∃ n : Nat, S1 = st0 (l.map (fun p => p.1)) (l.map cL) b m v n n ∧ n ≤ l.length ∧ (∀ i (h : i < l.length), i < n → l[i].1 < v) ∧ ∀ i (h : i < l.length), n ≤ i → v ≤ l[i].1 := by
  refine loop_inv2 (fun (x y : Nat) => st0 (l.map (fun p => p.1)) (l.map cL) b m v x y) (fun x y => x ≤ y ∧ y ≤ l.length ∧ (∀ i (h : i < l.length), i < x → l[i].1 < v) ∧ ∀ i (h : i < l.length), y ≤ i → v ≤ l[i].1) (fun x y => y - x)
    (fun e S1 => e = .exit 0 ∧ ∃ n : Nat, S1 = st0 (l.map (fun p => p.1)) (l.map cL) b m v n n ∧ n ≤ l.length ∧ (∀ i (h : i < l.length), i < n → l[i].1 < v) ∧ ∀ i (h : i < l.length), n ≤ i → v ≤ l[i].1) isL0 ?_ 0 l.length ?_
  · intro x y ⟨h1, h2, h3, h4⟩
    have hlen := okL_len hl
    have hasc := okL_asc hl
    refine ⟨noTab, noTab_all, lands_of (round0 ..) ?_⟩
    by_cases hxy : x < y
    · have e1 : IntKind.i64.wrap ((IntKind.i64.wrap ((x : Int) + (y : Int))).tdiv 2) = (((x + y) / 2 : Nat) : Int) := by
        rw [w64 (n := (x : Int) + y) (by omega) (by omega), Int.tdiv_eq_ediv_of_nonneg (by omega), w64 (by omega) (by omega)]
        omega
      have hm : (x + y) / 2 < l.length := by omega
      rw [e1, List.length_map, ltN hxy, inN hm, rdV hm]
      by_cases hlt : l[(x + y) / 2].1 < v
      · rw [decide_eq_true hlt]
        simp only [cond_true, wi_succ (show (x + y) / 2 < 4611686018427387904 by omega), lands_some, Turns2]
        refine ⟨(x + y) / 2 + 1, y, rfl, ⟨by omega, h2, fun i hi hlt2 => ?_, h4⟩, by omega⟩
        by_cases he : i = (x + y) / 2
        · subst he; exact hlt
        · have := List.pairwise_iff_getElem.1 hasc i ((x + y) / 2) hi hm (by omega)
          omega
      · rw [decide_eq_false hlt]
        simp only [cond_true, cond_false, lands_some, Turns2]
        refine ⟨x, (x + y) / 2, rfl, ⟨by omega, by omega, h3, fun i hi hle => ?_⟩, by omega⟩
        by_cases he : i = (x + y) / 2
        · subst he; omega
        · have := List.pairwise_iff_getElem.1 hasc ((x + y) / 2) i hm hi (by omega)
          omega
    · have hxy' : x = y := by omega
      subst hxy'
      rw [ltN' hxy]
      simp only [cond_false, lands_some, Turns2]
      exact ⟨trivial, x, rfl, h2, h3, h4⟩
  · exact ⟨Nat.zero_le _, Nat.le_refl _, fun i h h2 => absurd h2 (Nat.not_lt_zero i), fun i h h2 => absurd h (by omega)⟩
end NCoef
theorem meets_ncoef : Meets Try.prog 38 ansLCoef := by
  refine meets_fn (orc_ok (l := NCoef.ans) trivial) Try.f38 Try.func38 (by kernel_rfl) (fun args r h => ?_)
  unfold ansLCoef at h
  split at h
  · rename_i vs r b m v
    simp only [Option.some.injEq, Prod.mk.injEq] at h
    obtain ⟨h1, rfl⟩ := h
    obtain ⟨l, h2, rfl, rfl⟩ := isl_iff.1 h1
    obtain ⟨e1, S1, hE1, rfl, n, rfl, h3, h4, h5⟩ := NCoef.loop l b m v h2
    refine ⟨rfl, _, tabOf_all _, (NCoef.rest _ _ b m v (n : Int) (n : Int)).trans ?_⟩
    rw [List.length_map, List.length_map, dl_map]
    refine (bT (cdec_true hE1)).trans ?_
    clear hE1
    by_cases hn : n < l.length
    · rw [ltN hn, inN hn, rdV hn, getL hn]
      simp only [cond_true, cLeta, cL0, cL1]
      by_cases hv : l[n].1 = v
      · have hc : cf l v = l[n].2 := by rw [← hv]; exact cf_mem (okL_asc h2) (List.getElem_mem hn)
        rw [hc]
        exact bT (beq_iff_eq.2 hv)
      · have h0 : cf l v = 0 := cf_none (fun p hp hpv => by
          obtain ⟨i, hi, rfl⟩ := List.mem_iff_getElem.1 hp
          by_cases hin : i < n
          · have := h4 i hi hin; omega
          · have h6 := h5 n hn (Nat.le_refl _)
            by_cases he : i = n
            · subst he; exact hv hpv
            · have := List.pairwise_iff_getElem.1 (okL_asc h2) n i hn hi (by omega)
              omega)
        rw [h0]
        exact bF (beq_eq_false_iff_ne.2 hv)
    · have h0 : cf l v = 0 := cf_none (fun p hp hpv => by
        obtain ⟨i, hi, rfl⟩ := List.mem_iff_getElem.1 hp
        have := h4 i hi (by omega)
        omega)
      rw [h0]
      exact bF (ltN' hn)
  · cases h
theorem meets_nisnum : Meets Try.prog 27 ansLIsNum := by
  refine meets_fn (orc_ok (l := NIsNum.ans) trivial) Try.f27 Try.func27 (by kernel_rfl) (fun args r h => ?_)
  unfold ansLIsNum at h
  split at h
  · rename_i vs r b m
    simp only [Option.some.injEq, Prod.mk.injEq] at h
    obtain ⟨_, rfl⟩ := h
    exact ⟨rfl, _, noTab_all, NIsNum.rest vs r b m⟩
  · cases h
namespace NNeg
theorem loop (l : List (Int × Int)) (b : Bool) (m : List Int) (hl : okL l) : ∃ e S1, Ends T orc L0 D0 (st0 (l.map (fun p => p.1)) (l.map cL) b m 0 [] []) e S1 ∧ e = .exit 0 ∧ ∃ x, S1 = st0 (l.map (fun p => p.1)) (l.map cL) b m x ((negL l).map (fun p => p.1)) ((negL l).map cL) := by
  have hz := map_step0 (g := fun _ z => -z) (fun _ => rfl) l
  have key : ∃ e S1, Ends T orc L0 D0 (st0 (l.map (fun p => p.1)) (l.map cL) b m ((0 : Nat) : Int) ((ofF (fun v => - cf (l.take 0) v)).map (fun p => p.1)) ((ofF (fun v => - cf (l.take 0) v)).map cL)) e S1 ∧ e = .exit 0 ∧ ∃ x, S1 = st0 (l.map (fun p => p.1)) (l.map cL) b m x ((negL l).map (fun p => p.1)) ((negL l).map cL) := by
    refine loop_inv1 (fun (i : Nat) => st0 (l.map (fun p => p.1)) (l.map cL) b m i ((ofF (fun v => - cf (l.take i) v)).map (fun p => p.1)) ((ofF (fun v => - cf (l.take i) v)).map cL)) (fun i => i ≤ l.length) (fun i => l.length - i)
      (fun e S1 => e = .exit 0 ∧ ∃ x, S1 = st0 (l.map (fun p => p.1)) (l.map cL) b m x ((negL l).map (fun p => p.1)) ((negL l).map cL)) isL0 ?_ 0 (Nat.zero_le _)
    intro i h1
    have hlen := okL_len hl
    refine ⟨noTab, noTab_all, lands_of (round0 ..) ?_⟩
    by_cases hi : i < l.length
    · have hf := okL_mem hl (List.getElem_mem hi)
      have hs := map_step (okL_asc hl) (okL_in hl) (g := fun _ z => -z) (fun _ => rfl) hi
      have ho := ofF_len (fun v => - cf (l.take i) v)
      rw [List.length_map, List.length_map, ltN hi, inN hi, getL hi, rdV hi]
      simp only [cL0, cL1, cLeta, cnW_fits hf, num_lbW, cnW_fits (fits_neg hf), N_eq, cond_true, Bool.true_and, Bool.and_true, List.length_map]
      rw [decide_eq_true (show (ofF (fun v => - cf (l.take i) v)).length ≤ 100000 by omega), putV_map, putR_map, hs]
      simp only [cond_true, Bool.and_self, wi_succ (show i < 4611686018427387904 by omega), lands_some, Turns1]
      exact ⟨i + 1, rfl, by omega, by omega⟩
    · rw [List.length_map, ltN' hi]
      simp only [cond_false, lands_some, Turns1]
      have hil : l.take i = l := List.take_of_length_le (by omega)
      rw [hil, negL_eq]
      exact ⟨trivial, i, rfl⟩
  rw [hz] at key
  exact key
end NNeg
theorem meets_nneg : Meets Try.prog 51 ansLNeg := by
  refine meets_fn (orc_ok (l := NNeg.ans) ⟨meets_neg, meets_lput, trivial⟩) Try.f51 Try.func51 (by kernel_rfl) (fun args r h => ?_)
  unfold ansLNeg at h
  split at h
  · rename_i vs r b m
    simp only [Option.some.injEq, Prod.mk.injEq] at h
    obtain ⟨h1, rfl⟩ := h
    obtain ⟨l, c, h2, h3, rfl, rfl, rfl, rfl⟩ := isT_iff.1 h1
    obtain ⟨e1, S1, hE1, rfl, x, rfl⟩ := NNeg.loop l (sg c) (lb 4294967296 c) h2
    refine ⟨rfl, _, tabOf_all _, (NNeg.rest _ _ _ _ ((negL l).map (fun p => p.1)) ((negL l).map cL) x).trans ((bT (cnW_fits h3)).trans ((bT (cdec_true hE1)).trans ?_))⟩
    rw [dl_map, lvs_eq, lrs_eq]
  · cases h
theorem bytes_beq (x y : ByteArray) : (x.toList == y.toList) = decide (x = y) := by
  rw [Bool.eq_iff_iff, beq_iff_eq, decide_eq_true_eq]
  constructor
  · intro h
    rw [ByteArray.toList_eq, ByteArray.toList_eq] at h
    obtain ⟨⟨a⟩⟩ := x
    obtain ⟨⟨b⟩⟩ := y
    have h : a = b := h
    rw [h]
  · rintro rfl; rfl
end Go.Abs
end
section
/- What linear's functions answer: values, common divisors, a row turned about, a term in a variable's place. -/
namespace Go.Abs
open Go.Proofs Go.Dig
abbrev cV (z : Int) : List AV := [.bool (sg z), .ints .u32 (lb 4294967296 z)]
theorem ne0_of_big {z : Int} (h : fits z = false) : (he z != 0) = true := by rw [he_big h]; rfl
theorem eq0_of_fit {z : Int} (h : fits z = true) : (he z != 0) = false := by rw [he_fit h]; rfl
theorem gcdF_nonneg (l : List (Int × Int)) : ∀ g : Int, 0 ≤ g → 0 ≤ l.foldl (fun g p => gz g p.2) g := by
  induction l with
  | nil => exact fun g h => h
  | cons p l ih => exact fun g h => ih _ (Int.natCast_nonneg (Int.gcd g p.2))
theorem gcdF_fits (l : List (Int × Int)) : ∀ g : Int, fits g = true → (∀ p ∈ l, fits p.2 = true) → fits (l.foldl (fun g p => gz g p.2) g) = true := by
  induction l with
  | nil => exact fun g h _ => h
  | cons p l ih => exact fun g h hl => ih _ (fits_gz h (hl p List.mem_cons_self)) (fun q hq => hl q (List.mem_cons_of_mem _ hq))
theorem gcdL_nonneg (l : List (Int × Int)) : 0 ≤ gcdL l := by rw [gcdL_eq]; exact gcdF_nonneg l 0 (Int.le_refl _)
theorem gcdL_fits {l : List (Int × Int)} (h : okL l) : fits (gcdL l) = true := by rw [gcdL_eq]; exact gcdF_fits l 0 fits0 (fun p hp => okL_mem h hp)
theorem sg_nonneg {z : Int} (h : 0 ≤ z) : sg z = false := decide_eq_false (by omega)
theorem gcdF_succ {l : List (Int × Int)} {i : Nat} (hi : i < l.length) (g : Int) : (l.take (i + 1)).foldl (fun g p => gz g p.2) g = gz ((l.take i).foldl (fun g p => gz g p.2) g) l[i].2 := by
  rw [List.take_add_one, List.getElem?_eq_getElem hi, List.foldl_append]; rfl
theorem mem_take {α : Type} {l : List α} {i : Nat} {p : α} (h : p ∈ l.take i) : p ∈ l := List.mem_of_mem_take h
namespace NCommon
theorem loop (vs : List Int) (l : List (Int × Int)) (b : Bool) (m : List Int) (hl : okL l) (b0 : Bool) : ∃ e S1, Ends T orc L0 D0 (st0 vs (l.map cL) b m 0 b0 []) e S1 ∧ e = .exit 0 ∧ ∃ x b1, S1 = st0 vs (l.map cL) b m x b1 (lb 4294967296 (gcdL l)) := by
  have key : ∃ e S1, Ends T orc L0 D0 (st0 vs (l.map cL) b m ((0 : Nat) : Int) b0 (lb 4294967296 ((l.take 0).foldl (fun g p => gz g p.2) 0))) e S1 ∧ e = .exit 0 ∧ ∃ x b1, S1 = st0 vs (l.map cL) b m x b1 (lb 4294967296 (gcdL l)) := by
    refine loop_inv2 (fun (i : Nat) (b1 : Bool) => st0 vs (l.map cL) b m i b1 (lb 4294967296 ((l.take i).foldl (fun g p => gz g p.2) 0))) (fun i _ => i ≤ l.length) (fun i _ => l.length - i)
      (fun e S1 => e = .exit 0 ∧ ∃ x b1, S1 = st0 vs (l.map cL) b m x b1 (lb 4294967296 (gcdL l))) isL0 ?_ 0 b0 (Nat.zero_le _)
    intro i b1 h1
    have hlen := okL_len hl
    refine ⟨noTab, noTab_all, lands_of (round0 ..) ?_⟩
    by_cases hi : i < l.length
    · have hf := okL_mem hl (List.getElem_mem hi)
      have hg := gcdF_fits (l.take i) 0 fits0 (fun p hp => okL_mem hl (mem_take hp))
      have hn := gcdF_nonneg (l.take i) 0 (Int.le_refl _)
      have hc := cnW_fits hg
      have hnum := num_lbW ((l.take i).foldl (fun g p => gz g p.2) 0)
      rw [sg_nonneg hn] at hc hnum
      rw [List.length_map, ltN hi, inN hi, getL hi]
      simp only [cL0, cL1, cLeta, cnW_fits hf, num_lbW, hc, hnum, cond_true, Bool.and_self]
      rw [← gcdF_succ hi]
      simp only [wi_succ (show i < 4611686018427387904 by omega), lands_some, Turns2]
      exact ⟨i + 1, false, rfl, by omega, by omega⟩
    · rw [List.length_map, ltN' hi]
      simp only [cond_false, lands_some, Turns2]
      have hil : l.take i = l := List.take_of_length_le (by omega)
      rw [hil, gcdL_eq]
      exact ⟨trivial, i, b1, rfl⟩
  exact key
end NCommon
theorem meets_ncommon : Meets Try.prog 25 ansLCommon := by
  refine meets_fn (orc_ok (l := NCommon.ans) ⟨meets_gcd, trivial⟩) Try.f25 Try.func25 (by kernel_rfl) (fun args r h => ?_)
  unfold ansLCommon at h
  split at h
  · rename_i vs r b m
    simp only [Option.some.injEq, Prod.mk.injEq] at h
    obtain ⟨h1, rfl⟩ := h
    obtain ⟨l, k1, rfl, rfl⟩ := isl_iff.1 h1
    obtain ⟨e1, S1, hE1, rfl, x, b1, rfl⟩ := NCommon.loop (l.map (fun p => p.1)) l b m k1 true
    refine ⟨rfl, _, tabOf_all _, (NCommon.rest _ _ _ _ (lb 4294967296 (gcdL l)) x b1).trans ((bT (cdec_true hE1)).trans ?_)⟩
    rw [dl_map]
    show _ = some (Res.val (.agg [.bool (sg (gcdL l)), .ints .u32 (lb 4294967296 (gcdL l))]))
    rw [sg_nonneg (gcdL_nonneg l)]
  · cases h
theorem isT_row {vs : List Int} {r : List (List AV)} (h : isl vs r = true) : isT vs r false [] = true := by
  obtain ⟨l, k1, rfl, rfl⟩ := isl_iff.1 h
  exact isT_iff.2 ⟨l, 0, k1, fits0, rfl, rfl, sg_zero.symm, (lb_zero _).symm⟩
theorem num_zero : num 4294967296 false [] = 0 := rfl
theorem cmp_le (x y : Int) : decide (cmpZ x y ≤ 0) = decide (x ≤ y) := by
  rw [decide_eq_decide]; unfold cmpZ; split
  · omega
  · split <;> omega
theorem isEmpty_nil {m : List Int} (h : m.isEmpty = true) : m = [] := List.isEmpty_iff.1 h
theorem meets_nnot : Meets Try.prog 20 ansLNot := by
  refine meets_fn (orc_ok (l := NNot.ans) ⟨meets_add, meets_from, meets_nneg, meets_neg, trivial⟩) Try.f20 Try.func20 (by kernel_rfl) (fun args r h => ?_)
  unfold ansLNot at h
  split at h
  · rename_i vs r b m s l
    simp only [Option.some.injEq, Prod.mk.injEq, Bool.and_eq_true, Bool.not_eq_true'] at h
    obtain ⟨⟨⟨⟨⟨h1, rfl⟩, h3⟩, h4⟩, h5⟩, rfl⟩ := h
    obtain rfl := isEmpty_nil h3
    obtain ⟨c, rfl, rfl, _⟩ := (cn_iff W_two).1 h4
    rw [num_lbW] at h5
    have h1n : num 4294967296 false (lb 4294967296 1) = 1 := num_lbW 1
    refine ⟨rfl, _, noTab_all, (NNot.rest _ _ _ _ _ _).trans ?_⟩
    rw [h4, num_lbW, h1n, h5, isT_row h1, num_zero, noL_eq, noM_eq, N_eq]
    cases hb : fits (c + 1) with
    | false =>
      rw [he_big hb, show ((11 : Int) == 0) = false from rfl, cond_false, cond_false, lvs_nil, lrs_nil]
      rfl
    | true =>
      rw [he_fit hb, show ((0 : Int) == 0) = true from rfl, cond_true, cond_true, hz_fit hb, cnW_fits hb]
      rfl
  · cases h
namespace LScale
def Post (l : List (Int × Int)) (b : Bool) (m : List Int) (k : Int) (e : Ex) (S1 : St) : Prop :=
  (e = .exit 0 ∧ (∀ v, fits (cf l v * k) = true) ∧ ∃ x, S1 = st0 (l.map (fun p => p.1)) (l.map cL) b m (sg k) (lb 4294967296 k) x ((ofF (fun v => cf l v * k)).map (fun p => p.1)) ((ofF (fun v => cf l v * k)).map cL)) ∨
  (e = .ret ∧ (¬ ∀ v, fits (cf l v * k) = true) ∧ ∃ x l' r', S1 = st0x0 (l.map (fun p => p.1)) (l.map cL) b m (sg k) (lb 4294967296 k) 11 x l' r')
theorem loop (l : List (Int × Int)) (b : Bool) (m : List Int) (k : Int) (hl : okL l) (hk : fits k = true) : ∃ e S1, Ends T orc L0 D0 (st0 (l.map (fun p => p.1)) (l.map cL) b m (sg k) (lb 4294967296 k) 0 [] []) e S1 ∧ Post l b m k e S1 := by
  have hz := map_step0 (g := fun _ z => z * k) (fun _ => Int.zero_mul k) l
  have key : ∃ e S1, Ends T orc L0 D0 (st0 (l.map (fun p => p.1)) (l.map cL) b m (sg k) (lb 4294967296 k) ((0 : Nat) : Int) ((ofF (fun v => cf (l.take 0) v * k)).map (fun p => p.1)) ((ofF (fun v => cf (l.take 0) v * k)).map cL)) e S1 ∧ Post l b m k e S1 := by
    refine loop_inv1 (fun (i : Nat) => st0 (l.map (fun p => p.1)) (l.map cL) b m (sg k) (lb 4294967296 k) i ((ofF (fun v => cf (l.take i) v * k)).map (fun p => p.1)) ((ofF (fun v => cf (l.take i) v * k)).map cL)) (fun i => i ≤ l.length ∧ ∀ v, fits (cf (l.take i) v * k) = true) (fun i => l.length - i) (Post l b m k) isL0 ?_ 0 ⟨Nat.zero_le _, fun v => by rw [List.take_zero, cf_nil, Int.zero_mul]; exact fits0⟩
    intro i ⟨h1, h2⟩
    have hlen := okL_len hl
    refine ⟨noTab, noTab_all, lands_of (round0 ..) ?_⟩
    by_cases hi : i < l.length
    · have hf := okL_mem hl (List.getElem_mem hi)
      have hs : putL (l[i].2 * k) (ofF (fun v => cf (l.take i) v * k)) l[i].1 = ofF (fun v => cf (l.take (i + 1)) v * k) := map_step (okL_asc hl) (okL_in hl) (g := fun _ z => z * k) (fun _ => Int.zero_mul k) hi
      have ho := ofF_len (fun v => cf (l.take i) v * k)
      rw [List.length_map, List.length_map, ltN hi, inN hi, getL hi, rdV hi]
      simp only [cL0, cL1, cLeta, cnW_fits hf, cnW_fits hk, num_lbW, hf, hk, N_eq, cond_true, Bool.true_and, Bool.and_true, Bool.and_self, List.length_map]
      cases hp : fits (l[i].2 * k) with
      | false =>
        rw [ne0_of_big hp, he_big hp]
        simp only [cond_true, lands_some, Turns1]
        refine .inr ⟨rfl, fun hall => ?_, i, _, _, rfl⟩
        have := hall l[i].1
        rw [cf_mem (okL_asc hl) (List.getElem_mem hi), hp] at this
        cases this
      | true =>
        rw [eq0_of_fit hp, hz_fit hp, cnW_fits hp, decide_eq_true (show (ofF (fun v => cf (l.take i) v * k)).length ≤ 100000 by omega), putV_map, putR_map, hs]
        simp only [cond_true, cond_false, Bool.and_self, wi_succ (show i < 4611686018427387904 by omega), lands_some, Turns1]
        refine ⟨i + 1, rfl, ⟨by omega, fun v => ?_⟩, by omega⟩
        rw [cf_take_succ (okL_asc hl) hi]
        split
        · exact hp
        · exact h2 v
    · rw [List.length_map, ltN' hi]
      simp only [cond_false, lands_some, Turns1]
      have hil : l.take i = l := List.take_of_length_le (by omega)
      rw [hil] at h2 ⊢
      exact .inl ⟨rfl, h2, i, rfl⟩
  rw [show ofF (fun v => cf (l.take 0) v * k) = [] from hz] at key
  exact key
end LScale
theorem meets_nscale : Meets Try.prog 52 ansLScale := by
  refine meets_fn (orc_ok (l := LScale.ans) ⟨meets_mul, meets_lput, trivial⟩) Try.f52 Try.func52 (by kernel_rfl) (fun args r h => ?_)
  unfold ansLScale at h
  split at h
  · rename_i vs r b m s kl
    simp only [Option.some.injEq, Prod.mk.injEq, Bool.and_eq_true] at h
    obtain ⟨⟨h1, h2, h3⟩, rfl⟩ := h
    obtain ⟨l, c, k1, k2, rfl, rfl, rfl, rfl⟩ := isT_iff.1 h1
    obtain ⟨k, rfl, rfl, _⟩ := (cn_iff W_two).1 h2
    rw [num_lbW] at h3
    rw [dl_map, num_lbW, num_lbW]
    obtain ⟨e1, S1, hE1, hP⟩ := LScale.loop l (sg c) (lb 4294967296 c) k k1 h3
    rcases hP with ⟨rfl, hall, x, rfl⟩ | ⟨rfl, hall, x, l', r', rfl⟩
    · refine ⟨rfl, _, tabOf_all _, (LScale.rest_1 _ _ _ _ _ _ ((ofF (fun v => cf l v * k)).map (fun p => p.1)) ((ofF (fun v => cf l v * k)).map cL) x).trans ?_⟩
      rw [num_lbW, num_lbW, cnW_fits k2, cnW_fits h3, k2, h3]
      rcases scE_cases l c k with ⟨e1, e2, e3, e4, _⟩ | ⟨e1, e2, e3, e4⟩
      · rw [e1, e2, e3, eq0_of_fit e4, hz_fit e4, cdec_true hE1, lvs_eq, lrs_eq]
        rfl
      · have hcb : fits (c * k) = false := by rw [Bool.eq_false_iff]; exact fun hh => e4 ⟨hh, hall⟩
        rw [e1, e2, e3, ne0_of_big hcb, he_big hcb, lvs_nil, lrs_nil]
        rfl
    · refine ⟨rfl, _, tabOf_all _, (LScale.rest_0 _ _ _ _ _ _ 11 x l' r').trans ?_⟩
      rw [num_lbW, num_lbW, cnW_fits k2, cnW_fits h3, k2, h3]
      rcases scE_cases l c k with ⟨e1, e2, e3, e4, e5⟩ | ⟨e1, e2, e3, e4⟩
      · exact absurd e5 hall
      · rw [e1, e2, e3, lvs_nil, lrs_nil, cdec_true hE1]
        cases hcb : fits (c * k) with
        | false => rw [ne0_of_big hcb, he_big hcb]; rfl
        | true => rw [eq0_of_fit hcb]; rfl
  · cases h
end Go.Abs
end
section
/- What the reference of linear answers: sums, multiples, coefficients. -/
namespace Go.Abs
open Go.Proofs Go.Dig
theorem cEeta (p : Int × Int) : etasOk [.int .i64 0, .bool false, .ints .i64 []] (cE p) = true := rfl
theorem okS_asc {l : List (Int × Int)} (h : okS l) : Asc l := by obtain ⟨f, _, rfl⟩ := h; exact asc_ofF f
theorem okS_in {l : List (Int × Int)} (h : okS l) : In l := by obtain ⟨f, _, rfl⟩ := h; exact in_ofF f
theorem okS_len {l : List (Int × Int)} (h : okS l) : l.length ≤ 4096 := by obtain ⟨f, _, rfl⟩ := h; exact ofF_len f
set_option exponentiation.threshold 20000 in
theorem okS_cf {l : List (Int × Int)} (h : okS l) (v : Int) : (cf l v).natAbs < 2 ^ 1025 := by
  obtain ⟨f, hf, rfl⟩ := h
  rw [cf_ofF]
  split
  · exact hf v
  · exact Nat.pow_pos (by decide)
theorem okS_mem {l : List (Int × Int)} (h : okS l) {p : Int × Int} (hp : p ∈ l) : p.2.natAbs < 2 ^ 1025 := by
  rw [← cf_mem (okS_asc h) hp]; exact okS_cf h _
theorem iss_of {l : List (Int × Int)} (h : okS l) : iss (l.map cE) = true := iss_iff.2 ⟨l, h, rfl⟩
set_option exponentiation.threshold 20000 in
theorem S_Lim {z : Int} (h : z.natAbs < 2 ^ 1025) : z.natAbs < Lim := by
  have h1 := big_1024
  have h2 : (2 : Nat) ^ 1025 ≤ 2 ^ 1024 * 2 ^ 1024 := by
    rw [← Nat.pow_add]
    exact Nat.pow_le_pow_right (by decide) (by decide)
  omega
theorem cnT_S {z : Int} (h : z.natAbs < 2 ^ 1025) : cn 10 (sg z) (lb 10 z) = true := by rw [cn_lb (by decide), decide_eq_true (S_Lim h)]
set_option exponentiation.threshold 20000 in
theorem add_S {x y : Int} (hx : fits x = true) (hy : fits y = true) : (x + y).natAbs < 2 ^ 1025 := by
  have h1 := fits_iff.1 hx
  have h2 := fits_iff.1 hy
  rw [Nat.pow_succ]
  omega
theorem fitS_iff {z : Int} : fitS z = true ↔ z.natAbs < 2 ^ 1025 := decide_eq_true_iff
namespace EWith
/-- What stands there behind the first i parts. -/
noncomputable abbrev sofar (l : List (Int × Int)) (v c : Int) (d : Bool) (i : Nat) : List (Int × Int) := ofF (fun w => bif d && decide (w = v) then cf (l.take i) w + c else cf (l.take i) w)
theorem step {l : List (Int × Int)} (ha : Asc l) (hn : In l) (v c : Int) {i : Nat} (hi : i < l.length) {d : Bool} (hd : d = true → l[i].1 ≠ v ∧ v < l[i].1) (hd' : d = false → l[i].1 < v) : putL l[i].2 (sofar l v c d i) l[i].1 = sofar l v c d (i + 1) := by
  refine putL_snoc (hn _ (List.getElem_mem hi)) (fun w h1 h2 => ?_) (fun w h1 h2 => ?_)
  · rw [cf_take_ge ha hi h1]
    cases d with
    | false => rfl
    | true =>
      have := hd rfl
      rw [decide_eq_false (show ¬ w = v by omega)]; rfl
  · rw [cf_take_succ ha hi]
    by_cases hw : w = l[i].1
    · rw [if_pos hw, if_pos hw]
      cases d with
      | false => rfl
      | true =>
        have := hd rfl
        rw [decide_eq_false (show ¬ w = v by omega)]; rfl
    · rw [if_neg hw, if_neg hw]
theorem ins {l : List (Int × Int)} (ha : Asc l) {v c : Int} (hv : 0 ≤ v ∧ v < 4096) {i : Nat} (h0 : ∀ w, v ≤ w → cf (l.take i) w = 0) : putL c (sofar l v c false i) v = sofar l v c true i := by
  refine putL_snoc hv (fun w h1 h2 => h0 w h1) (fun w h1 h2 => ?_)
  by_cases hw : w = v
  · rw [decide_eq_true hw, if_pos hw, h0 w (by omega), Int.zero_add]; rfl
  · rw [decide_eq_false hw, if_neg hw]; rfl
theorem both {l : List (Int × Int)} (ha : Asc l) (hn : In l) {v c : Int} {i : Nat} (hi : i < l.length) (hv : l[i].1 = v) : putL (l[i].2 + c) (sofar l v c false i) v = sofar l v c true (i + 1) := by
  have hin := hn _ (List.getElem_mem hi)
  rw [hv] at hin
  refine putL_snoc hin (fun w h1 h2 => ?_) (fun w h1 h2 => ?_)
  · exact cf_take_ge ha hi (by omega)
  · rw [cf_take_succ ha hi, hv]
    by_cases hw : w = v
    · rw [decide_eq_true hw, if_pos hw, if_pos hw]; rfl
    · rw [decide_eq_false hw, if_neg hw, if_neg hw]; rfl
theorem sofar_len (l : List (Int × Int)) (v c : Int) (d : Bool) (i : Nat) : (sofar l v c d i).length ≤ 4096 := ofF_len _
def okAt (l : List (Int × Int)) (v c : Int) (d : Bool) (i : Nat) (ok : Bool) : Prop :=
  (d = false → ok = true ∧ ∀ p ∈ l.take i, p.1 < v) ∧ (d = true → v ≤ (l.map (fun p => p.1)).getD (i - 1) 0 ∧ 0 < i ∧ ok = fits (cf (l.take i) v + c))
theorem loop (l : List (Int × Int)) (v c : Int) (hl : okS l) (hv : 0 ≤ v ∧ v < 4096) (hc : fits c = true) (hs : (cf l v + c).natAbs < 2 ^ 1025) :
    ∃ e S1, Ends T orc L0 D0 (st0 (l.map cE) v (sg c) (lb 10 c) true false 0 []) e S1 ∧ e = .exit 0 ∧ ∃ d ok x, S1 = st0 (l.map cE) v (sg c) (lb 10 c) ok d x ((sofar l v c d l.length).map cE) ∧ ((d = false ∧ ok = true ∧ ∀ p ∈ l, p.1 < v) ∨ (d = true ∧ ok = fits (cf l v + c))) := by
  have hz : sofar l v c false 0 = [] := map_step0 (g := fun _ z => z) (fun _ => rfl) l
  have key : ∃ e S1, Ends T orc L0 D0 (st0 (l.map cE) v (sg c) (lb 10 c) true false ((0 : Nat) : Int) ((sofar l v c false 0).map cE)) e S1 ∧ e = .exit 0 ∧ ∃ d ok x, S1 = st0 (l.map cE) v (sg c) (lb 10 c) ok d x ((sofar l v c d l.length).map cE) ∧ ((d = false ∧ ok = true ∧ ∀ p ∈ l, p.1 < v) ∨ (d = true ∧ ok = fits (cf l v + c))) := by
    refine loop_inv3 (fun (i : Nat) (ok d : Bool) => st0 (l.map cE) v (sg c) (lb 10 c) ok d i ((sofar l v c d i).map cE)) (fun i ok d => i ≤ l.length ∧ (d = false → ok = true ∧ ∀ p ∈ l.take i, p.1 < v) ∧ (d = true → ok = fits (cf (l.take i) v + c) ∧ ∀ (h : i < l.length), v < l[i].1)) (fun i _ _ => l.length - i)
      (fun e S1 => e = .exit 0 ∧ ∃ d ok x, S1 = st0 (l.map cE) v (sg c) (lb 10 c) ok d x ((sofar l v c d l.length).map cE) ∧ ((d = false ∧ ok = true ∧ ∀ p ∈ l, p.1 < v) ∨ (d = true ∧ ok = fits (cf l v + c)))) isL0 ?_ 0 true false ⟨Nat.zero_le _, fun _ => ⟨rfl, fun p hp => by rw [List.take_zero] at hp; cases hp⟩, fun h => by cases h⟩
    intro i ok d ⟨h1, h2, h3⟩
    have hlen := okS_len hl
    have ha := okS_asc hl
    have hin := okS_in hl
    refine ⟨noTab, noTab_all, lands_of (round0 ..) ?_⟩
    by_cases hi : i < l.length
    · have hf := okS_mem hl (List.getElem_mem hi)
      have ho := sofar_len l v c d i
      have hnx : ∀ (h : i + 1 < l.length), l[i].1 < l[i + 1].1 := fun h => List.pairwise_iff_getElem.1 ha i (i + 1) hi h (by omega)
      rw [List.length_map, ltN hi, inN hi, getE hi]
      have hdec : decide ((sofar l v c d i).length ≤ 100000) = true := decide_eq_true (by omega)
      by_cases hgt : l[i].1 > v
      · simp only [cE0, cE1, cE2, cEeta, cond_true, cnT_S hf, cnT_fits hc, num_lb10, Bool.and_self, Bool.true_and, List.length_map, N10_eq, hgt, decide_true]
        rw [show (l[i].1 == v) = false from beq_eq_false_iff_ne.2 (by omega)]
        cases d with
        | true =>
          simp only [hdec, Bool.not_true, cond_true, cond_false]
          rw [putM_map, step ha hin v c hi (fun _ => ⟨by omega, hgt⟩) (fun h => by cases h)]
          simp only [Bool.not_true, cond_true, cond_false, Bool.and_self, wi_succ (show i < 4611686018427387904 by omega), lands_some, Turns3]
          refine ⟨i + 1, ok, true, rfl, ⟨by omega, (fun h => by cases h), fun _ => ⟨?_, fun h => by have := hnx h; omega⟩⟩, by omega⟩
          rw [(h3 rfl).1, cf_take_succ ha hi, if_neg (by omega)]
        | false =>
          obtain ⟨rfl, hb⟩ := h2 rfl
          have h0 : ∀ w, v ≤ w → cf (l.take i) w = 0 := fun w hw => cf_none (fun p hp hpv => by have := hb p hp; omega)
          simp only [hdec, Bool.not_false, cond_true, cond_false]
          rw [putM_map, ins ha hv h0]
          rw [List.length_map, decide_eq_true (show (sofar l v c true i).length ≤ 100000 by have := sofar_len l v c true i; omega), putM_map, step ha hin v c hi (fun _ => ⟨by omega, hgt⟩) (fun h => by cases h)]
          simp only [Bool.not_false, cond_true, cond_false, Bool.and_self, wi_succ (show i < 4611686018427387904 by omega), lands_some, Turns3]
          refine ⟨i + 1, true, true, rfl, ⟨by omega, (fun h => by cases h), fun _ => ⟨?_, fun h => by have := hnx h; omega⟩⟩, by omega⟩
          rw [cf_take_succ ha hi, if_neg (by omega), h0 v (Int.le_refl _), Int.zero_add, hc]
      · simp only [cE0, cE1, cE2, cEeta, cond_true, cnT_S hf, cnT_fits hc, num_lb10, Bool.and_self, Bool.true_and, List.length_map, N10_eq, hgt, decide_false, cond_false]
        have hdf : d = false := by
          cases d with
          | false => rfl
          | true => exact absurd ((h3 rfl).2 hi) hgt
        subst hdf
        obtain ⟨rfl, hb⟩ := h2 rfl
        by_cases hv2 : l[i].1 = v
        · have hci : cf l v = l[i].2 := by rw [← hv2]; exact cf_mem ha (List.getElem_mem hi)
          rw [hci] at hs
          simp only [show (l[i].1 == v) = true from beq_iff_eq.2 hv2, hdec, cnT_S hs, hv2, beq_self_eq_true, cond_true, Bool.and_self]
          rw [putM_map, both ha hin hi hv2]
          simp only [cond_true, Bool.and_self, Bool.not_not, wi_succ (show i < 4611686018427387904 by omega), lands_some, Turns3]
          refine ⟨i + 1, _, true, rfl, ⟨by omega, (fun h => by cases h), fun _ => ⟨?_, fun h => by have := hnx h; omega⟩⟩, by omega⟩
          rw [cf_take_succ ha hi, if_pos hv2.symm]
        · simp only [show (l[i].1 == v) = false from beq_eq_false_iff_ne.2 hv2, hdec, cond_true, cond_false]
          rw [putM_map, step ha hin v c hi (fun h => by cases h) (fun _ => by omega)]
          simp only [cond_true, cond_false, Bool.and_self, wi_succ (show i < 4611686018427387904 by omega), lands_some, Turns3]
          refine ⟨i + 1, true, false, rfl, ⟨by omega, fun _ => ⟨rfl, fun p hp => ?_⟩, fun h => by cases h⟩, by omega⟩
          rw [List.take_add_one, List.getElem?_eq_getElem hi] at hp
          rcases List.mem_append.1 hp with hp | hp
          · exact hb p hp
          · rw [List.mem_singleton.1 hp]; omega
    · rw [List.length_map, ltN' hi]
      simp only [cond_false, lands_some, Turns3]
      have hie : i = l.length := by omega
      subst hie
      rw [List.take_length] at h2 h3
      refine ⟨trivial, d, ok, l.length, rfl, ?_⟩
      cases d with
      | false => exact .inl ⟨rfl, (h2 rfl).1, (h2 rfl).2⟩
      | true => exact .inr ⟨rfl, (h3 rfl).1⟩
  rw [hz] at key
  exact key
end EWith
theorem meets_ewith : Meets Try.prog 60 ansMWith := by
  refine meets_fn (orc_ok (l := EWith.ans) ⟨meets_mput, meets_radd, meets_rtoobig, trivial⟩) Try.f60 Try.func60 (by kernel_rfl) (fun args r h => ?_)
  unfold ansMWith at h
  split at h
  · rename_i r v s cl
    simp only [Option.some.injEq, Prod.mk.injEq, Bool.and_eq_true] at h
    obtain ⟨⟨⟨⟨⟨h1, h2⟩, h3⟩, h4⟩, h5⟩, rfl⟩ := h
    obtain ⟨l, k1, rfl⟩ := iss_iff.1 h1
    obtain ⟨c, rfl, rfl, _⟩ := (cn_iff (by decide : (2 : Int) ≤ 10)).1 h3
    rw [num_lb10] at h4 h5 ⊢
    rw [dm_map] at h5 ⊢
    have hv := vok_iff.1 h2
    obtain ⟨e1, S1, hE1, rfl, d, ok, x, rfl, hP⟩ := EWith.loop l v c k1 hv h4 (fitS_iff.1 h5)
    refine ⟨rfl, _, tabOf_all _, (EWith.rest _ _ _ _ ((EWith.sofar l v c d l.length).map cE) ok d x).trans ((bT (cdec_true hE1)).trans ?_)⟩
    have hW := wiL_eq l v c
    rcases hP with ⟨hd, hok, hb⟩ | ⟨hd, hok⟩
    · subst hd
      subst hok
      have h0 : ∀ w, v ≤ w → cf (l.take l.length) w = 0 := fun w hw => cf_none (fun p hp hpv => by
        rw [List.take_length] at hp
        have := hb p hp; omega)
      have hlen := EWith.sofar_len l v c false l.length
      have hin := EWith.ins (okS_asc k1) (c := c) hv h0
      have hcf := h0 v (Int.le_refl _)
      rw [List.take_length] at hcf
      rw [h3, num_lb10, List.length_map, decide_eq_true (show (EWith.sofar l v c false l.length).length ≤ 100000 by omega), putM_map, hin, hcf, Int.zero_add, h4, mrs_eq, hW]
      show some (Res.val (.tup [.rows 3 ((EWith.sofar l v c true l.length).map cE), .bool true])) = _
      unfold EWith.sofar
      rw [List.take_length]
      rfl
    · subst hd
      rw [mrs_eq, hW, ← hok]
      show some (Res.val (.tup [.rows 3 ((EWith.sofar l v c true l.length).map cE), _])) = _
      unfold EWith.sofar
      rw [List.take_length]
      rfl
  · cases h
theorem place1 (p : Int × Int) : Nat.ble 1 (cE p).length = true := rfl
theorem place3 (p : Int × Int) : Nat.ble 3 (cE p).length = true := rfl
theorem plV (p : Int × Int) : gInt ((List.take 1 (List.drop 0 (cE p))).getD 0 .top) = p.1 := rfl
theorem plVe (p : Int × Int) : etaOk (.int .i64 0) ((List.take 1 (List.drop 0 (cE p))).getD 0 .top) = true := rfl
theorem plC0 (p : Int × Int) : gBool ((List.take 2 (List.drop 1 (cE p))).getD 0 .top) = sg p.2 := rfl
theorem plC1 (p : Int × Int) : gInts ((List.take 2 (List.drop 1 (cE p))).getD 1 .top) = lb 10 p.2 := rfl
theorem plCe (p : Int × Int) : etasOk [.bool false, .ints .i64 []] (List.take 2 (List.drop 1 (cE p))) = true := rfl
namespace EAdd
/-- The sum of a list and another's first parts. -/
noncomputable abbrev sofar (l m : List (Int × Int)) (i : Nat) : List (Int × Int) := ofF (fun v => cf l v + cf (m.take i) v)
theorem sofar0 {l : List (Int × Int)} (hl : okL l) (m : List (Int × Int)) : sofar l m 0 = l := by
  rw [okL_canon hl]
  refine ofF_congr (fun v _ _ => ?_)
  rw [List.take_zero, cf_nil, Int.add_zero, ← okL_canon hl]
theorem wi {l m : List (Int × Int)} (hm : okL m) {i : Nat} (hi : i < m.length) : wiL (sofar l m i) m[i].1 m[i].2 = sofar l m (i + 1) := by
  rw [wiL_eq]
  refine ofF_congr (fun w h1 h2 => ?_)
  rw [cf_ofF, if_pos ⟨h1, h2⟩, cf_take_succ (okL_asc hm) hi]
  by_cases hw : w = m[i].1
  · rw [decide_eq_true hw, if_pos hw, cond_true, cf_take_ge (okL_asc hm) hi (by omega)]
    omega
  · rw [decide_eq_false hw, if_neg hw, cond_false]
theorem okS_sofar {l m : List (Int × Int)} (hl : okL l) (hm : okL m) (i : Nat) : okS (sofar l m i) := by
  refine ⟨fun v => cf l v + cf (m.take i) v, fun v => ?_, rfl⟩
  refine add_S (okL_cf hl v) ?_
  by_cases h : ∃ p ∈ m.take i, p.1 = v
  · obtain ⟨p, hp, rfl⟩ := h
    have ha : Asc (m.take i) := (okL_asc hm).sublist (List.take_sublist ..)
    rw [cf_mem ha hp]
    exact okL_mem hm (mem_take hp)
  · rw [cf_none (fun p hp hpv => h ⟨p, hp, hpv⟩)]
    exact fits0
theorem loop (l m : List (Int × Int)) (b : Bool) (bl : List Int) (bz : Bool) (mz : List Int) (ok0 : Bool) (hl : okL l) (hm : okL m) :
    ∃ e S1, Ends T orc L0 D0 (st0 (l.map cE) b bl (m.map cE) bz mz ok0 0 (l.map cE)) e S1 ∧ e = .exit 0 ∧ ∃ ok x, S1 = st0 (l.map cE) b bl (m.map cE) bz mz ok x ((ofF (fun v => cf l v + cf m v)).map cE) ∧ (ok = true ↔ ok0 = true ∧ ∀ v, fits (cf l v + cf m v) = true) := by
  have key : ∃ e S1, Ends T orc L0 D0 (st0 (l.map cE) b bl (m.map cE) bz mz ok0 ((0 : Nat) : Int) ((sofar l m 0).map cE)) e S1 ∧ e = .exit 0 ∧ ∃ ok x, S1 = st0 (l.map cE) b bl (m.map cE) bz mz ok x ((ofF (fun v => cf l v + cf m v)).map cE) ∧ (ok = true ↔ ok0 = true ∧ ∀ v, fits (cf l v + cf m v) = true) := by
    refine loop_inv2 (fun (i : Nat) (ok : Bool) => st0 (l.map cE) b bl (m.map cE) bz mz ok i ((sofar l m i).map cE)) (fun i ok => i ≤ m.length ∧ (ok = true ↔ ok0 = true ∧ ∀ v, fits (cf l v + cf (m.take i) v) = true)) (fun i _ => m.length - i)
      (fun e S1 => e = .exit 0 ∧ ∃ ok x, S1 = st0 (l.map cE) b bl (m.map cE) bz mz ok x ((ofF (fun v => cf l v + cf m v)).map cE) ∧ (ok = true ↔ ok0 = true ∧ ∀ v, fits (cf l v + cf m v) = true)) isL0 ?_ 0 ok0 ⟨Nat.zero_le _, fun h => ⟨h, fun v => by rw [List.take_zero, cf_nil, Int.add_zero]; exact okL_cf hl v⟩, fun h => h.1⟩
    intro i ok ⟨h1, h2⟩
    have hlen := okL_len hm
    refine ⟨noTab, noTab_all, lands_of (round0 ..) ?_⟩
    by_cases hi : i < m.length
    · have hf := okL_mem hm (List.getElem_mem hi)
      have hv := okL_in hm _ (List.getElem_mem hi)
      have hoS := okS_sofar hl hm i
      have hcf : cf (sofar l m i) m[i].1 = cf l m[i].1 := by
        rw [cf_ofF, if_pos hv, cf_take_ge (okL_asc hm) hi (Int.le_refl _), Int.add_zero]
      have hS := add_S (okL_cf hl m[i].1) hf
      rw [List.length_map, ltN hi, inN hi, getE hi]
      simp only [plV, plVe, plC0, plC1, plCe, place1, place3, cond_true, iss_of hoS, vok_iff.2 hv, cnT_fits hf, num_lb10, hf, dm_map, hcf, fitS_iff.2 hS, Bool.and_self, wi hm hi, mrs_eq]
      have hnext : ∀ v, fits (cf l v + cf (m.take (i + 1)) v) = if v = m[i].1 then fits (cf l m[i].1 + m[i].2) else fits (cf l v + cf (m.take i) v) := fun v => by
        rw [cf_take_succ (okL_asc hm) hi]
        by_cases hw : v = m[i].1
        · rw [if_pos hw, if_pos hw, hw]
        · rw [if_neg hw, if_neg hw]
      have hold : fits (cf l m[i].1 + cf (m.take i) m[i].1) = true := by rw [cf_take_ge (okL_asc hm) hi (Int.le_refl _), Int.add_zero]; exact okL_cf hl _
      have hall : (∀ v, fits (cf l v + cf (m.take (i + 1)) v) = true) ↔ (∀ v, fits (cf l v + cf (m.take i) v) = true) ∧ fits (cf l m[i].1 + m[i].2) = true := by
        constructor
        · intro h
          refine ⟨fun v => ?_, ?_⟩
          · have := h v
            rw [hnext] at this
            by_cases hw : v = m[i].1
            · rw [hw]; exact hold
            · rw [if_neg hw] at this; exact this
          · have := h m[i].1
            rw [hnext, if_pos rfl] at this
            exact this
        · rintro ⟨h3, h4⟩ v
          rw [hnext]
          split
          · exact h4
          · exact h3 v
      cases ok with
      | true =>
        simp only [cond_true, wi_succ (show i < 4611686018427387904 by omega), lands_some, Turns2]
        refine ⟨i + 1, _, rfl, ⟨by omega, ?_⟩, by omega⟩
        rw [hall, ← and_assoc, ← h2]
        simp
      | false =>
        simp only [cond_false, wi_succ (show i < 4611686018427387904 by omega), lands_some, Turns2]
        refine ⟨i + 1, false, rfl, ⟨by omega, ?_⟩, by omega⟩
        rw [hall, ← and_assoc, ← h2]
        simp
    · rw [List.length_map, ltN' hi]
      simp only [cond_false, lands_some, Turns2]
      have hil : m.take i = m := List.take_of_length_le (by omega)
      rw [hil] at h2
      refine ⟨trivial, ok, i, ?_, h2⟩
      unfold sofar
      rw [hil]
  rw [sofar0 hl m] at key
  exact key
end EAdd
theorem meets_eadd : Meets Try.prog 48 ansMAdd := by
  refine meets_fn (orc_ok (l := EAdd.ans) ⟨meets_radd, meets_rtoobig, meets_ewith, trivial⟩) Try.f48 Try.func48 (by kernel_rfl) (fun args r h => ?_)
  unfold ansMAdd at h
  split at h
  · rename_i r b m rz bz mz
    simp only [Option.some.injEq, Prod.mk.injEq, Bool.and_eq_true] at h
    obtain ⟨⟨h1, h2⟩, rfl⟩ := h
    obtain ⟨l, c, k1, k2, rfl, rfl, rfl⟩ := isE_iff.1 h1
    obtain ⟨k, d, k3, k4, rfl, rfl, rfl⟩ := isE_iff.1 h2
    obtain ⟨e1, S1, hE1, rfl, ok, x, rfl, hok⟩ := EAdd.loop l k (sg c) (lb 10 c) (sg d) (lb 10 d) (fits (c + d)) k1 k3
    have hlen := okL_len k1
    refine ⟨rfl, _, tabOf_all _, (EAdd.rest _ _ _ _ _ _ ((ofF (fun v => cf l v + cf k v)).map cE) ok x).trans ((bT ?_).trans ?_)⟩
    · rw [Bool.true_and, decide_eq_true_eq, List.length_map]; omega
    rw [dm_map, dm_map, num_lb10, num_lb10, cnT_fits k2, cnT_fits k4, cnT_S (add_S k2 k4), N10_eq, Bool.not_not, cdec_true hE1]
    rcases addE_cases l k c d with ⟨e1, e2, e3, e4, e5⟩ | ⟨e1, e2, e3, e4⟩
    · rw [e1, e2, e3, hok.2 ⟨e4, e5⟩, mrs_eq]
      rfl
    · have : ok = false := by rw [Bool.eq_false_iff]; exact fun hh => e4 (hok.1 hh)
      rw [e1, e2, e3, this, mrs_nil]
      rfl
  · cases h
namespace ECoef
def Post (l : List (Int × Int)) (b : Bool) (m : List Int) (v : Int) (e : Ex) (S1 : St) : Prop :=
  (e = .exit 0 ∧ cf l v = 0 ∧ ∃ x, S1 = st0 (l.map cE) b m v x) ∨ (e = .ret ∧ ∃ x b', S1 = st0x0 (l.map cE) b m v x (sg (cf l v)) b' (lb 10 (cf l v)))
theorem loop (l : List (Int × Int)) (b : Bool) (m : List Int) (v : Int) (hl : okL l) : ∃ e S1, Ends T orc L0 D0 (st0 (l.map cE) b m v 0) e S1 ∧ Post l b m v e S1 := by
  refine loop_inv1 (fun (i : Nat) => st0 (l.map cE) b m v i) (fun i => i ≤ l.length ∧ ∀ p ∈ l.take i, p.1 ≠ v) (fun i => l.length - i) (Post l b m v) isL0 ?_ 0 ⟨Nat.zero_le _, fun p hp => by rw [List.take_zero] at hp; cases hp⟩
  intro i ⟨h1, h2⟩
  have hlen := okL_len hl
  refine ⟨noTab, noTab_all, lands_of (round0 ..) ?_⟩
  by_cases hi : i < l.length
  · rw [List.length_map, ltN hi, inN hi, getE hi]
    simp only [plV, plVe, plC0, plC1, plCe, place1, place3, cond_true]
    by_cases hv : l[i].1 = v
    · rw [show (l[i].1 == v) = true from beq_iff_eq.2 hv]
      have hc : cf l v = l[i].2 := by rw [← hv]; exact cf_mem (okL_asc hl) (List.getElem_mem hi)
      simp only [cond_true, lands_some, Turns1]
      refine .inr ⟨rfl, i, false, ?_⟩
      rw [hc]
    · rw [show (l[i].1 == v) = false from beq_eq_false_iff_ne.2 hv]
      simp only [cond_false, wi_succ (show i < 4611686018427387904 by omega), lands_some, Turns1]
      refine ⟨i + 1, rfl, ⟨by omega, fun p hp => ?_⟩, by omega⟩
      rw [List.take_add_one, List.getElem?_eq_getElem hi] at hp
      rcases List.mem_append.1 hp with hp | hp
      · exact h2 p hp
      · rw [List.mem_singleton.1 hp]; exact hv
  · rw [List.length_map, ltN' hi]
    simp only [cond_false, lands_some, Turns1]
    have hil : l.take i = l := List.take_of_length_le (by omega)
    rw [hil] at h2
    exact .inl ⟨rfl, cf_none h2, i, rfl⟩
end ECoef
theorem meets_ecoef : Meets Try.prog 39 ansMCoef := by
  refine meets_fn (orc_ok (l := ECoef.ans) trivial) Try.f39 Try.func39 (by kernel_rfl) (fun args r h => ?_)
  unfold ansMCoef at h
  split at h
  · rename_i r b m v
    simp only [Option.some.injEq, Prod.mk.injEq] at h
    obtain ⟨h1, rfl⟩ := h
    obtain ⟨l, k1, rfl⟩ := ism_iff.1 h1
    rw [dm_map]
    obtain ⟨e1, S1, hE1, hP⟩ := ECoef.loop l b m v k1
    rcases hP with ⟨rfl, h0, x, rfl⟩ | ⟨rfl, x, b', rfl⟩
    · rw [h0]
      exact ⟨rfl, _, tabOf_all _, (ECoef.rest_1 _ _ _ _ x).trans (bT (cdec_true hE1))⟩
    · exact ⟨rfl, _, tabOf_all _, (ECoef.rest_0 _ _ _ _ (sg (cf l v)) (lb 10 (cf l v)) x b').trans (bT (cdec_true hE1))⟩
  · cases h
end Go.Abs
end
section
/- States and rounds of the functions of linear and of its reference, as a program of this session printed them. -/
set_option maxRecDepth 10000
namespace Go.Abs
open Go.Proofs Go.Dig
noncomputable section
namespace NText
abbrev ans : Ans := [(26, ansText), (61, ansFrom), (45, ansSign)]
abbrev orc : Orc := orcOf ans
noncomputable def L0 : Code := lp Try.f41 0
theorem isL0 : ∃ a, L0 = .loop a := ⟨_, rfl⟩
abbrev D0 : List Nat := [0, 1, 2, 3, 6, 7, 8, 9, 10]
abbrev st0 (vs : List Int) (r : List (List AV)) (b : Bool) (m : List Int) (x0 : Int) (l0 : List Int) : St := ⟨.agg [.ints .i64 vs, .rows 2 r, .bool b, .ints .u32 m] :: .ptr 1 0 0 :: .str { data := #[] } :: .sl 3 0 0 :: tops 2 (.sl 6 0 0 :: .ptr 1 0 0 :: .ints .i64 vs :: .int .i64 (↑vs.length : Int) :: .int .i64 x0 :: tops 47 ([])), nos 1 (varE [(false, .ints .i64 vs), (false, .rows 2 r), (false, .bool b), (false, .ints .u32 m)] :: nos 1 (rowE (.ints .u8 l0) :: nos 2 ({ g := 0, pg := 0, o := some (AObj.row { g := 0, own := false, v := .top }) } :: nos 51 ([]))))⟩
theorem round0 (vs : List Int) (r : List (List AV)) (b : Bool) (m : List Int) (x0 : Int) (l0 : List Int) : goL T orc (noTab) D0 L0 (st0 vs r b m x0 l0) =
    (bif decide (x0 < (↑vs.length : Int)) then (bif inB x0 vs.length then (bif decide (x0 > 0) then (bif true && decide ((l0 ++ bytesOf { data := #[32, 43, 32] }).length * 1 ≤ 140737488355328) then (bif inB x0 r.length then (bif etasOk [.bool false, .ints .u32 []] (r.getD x0.toNat []) then (bif cn (4294967296) (gBool ((r.getD x0.toNat []).getD 0 .top)) (gInts ((r.getD x0.toNat []).getD 1 .top)) then (bif true && decide ((l0 ++ bytesOf { data := #[32, 43, 32] } ++ bytesOf (txt (num (4294967296) (gBool ((r.getD x0.toNat []).getD 0 .top)) (gInts ((r.getD x0.toNat []).getD 1 .top))))).length * 1 ≤ 140737488355328) then (bif true && decide ((l0 ++ bytesOf { data := #[32, 43, 32] } ++ bytesOf (txt (num (4294967296) (gBool ((r.getD x0.toNat []).getD 0 .top)) (gInts ((r.getD x0.toNat []).getD 1 .top)))) ++ bytesOf { data := #[42, 120] }).length * 1 ≤ 140737488355328) then (bif i64B (rd vs x0) then (bif cn (4294967296) (sg (rd vs x0)) (lb (4294967296) (rd vs x0)) then (bif true && decide ((l0 ++ bytesOf { data := #[32, 43, 32] } ++ bytesOf (txt (num (4294967296) (gBool ((r.getD x0.toNat []).getD 0 .top)) (gInts ((r.getD x0.toNat []).getD 1 .top)))) ++ bytesOf { data := #[42, 120] } ++ bytesOf (txt (N (4294967296) (rd vs x0)))).length * 1 ≤ 140737488355328) then some (.normal, st0 vs r b m (IntKind.i64.wrap (x0 + 1)) (l0 ++ bytesOf { data := #[32, 43, 32] } ++ bytesOf (txt (num (4294967296) (gBool ((r.getD x0.toNat []).getD 0 .top)) (gInts ((r.getD x0.toNat []).getD 1 .top)))) ++ bytesOf { data := #[42, 120] } ++ bytesOf (txt (N (4294967296) (rd vs x0))))) else none) else none) else none) else none) else none) else none) else none) else none) else none) else (bif inB x0 r.length then (bif etasOk [.bool false, .ints .u32 []] (r.getD x0.toNat []) then (bif cn (4294967296) (gBool ((r.getD x0.toNat []).getD 0 .top)) (gInts ((r.getD x0.toNat []).getD 1 .top)) then (bif true && decide ((l0 ++ bytesOf (txt (num (4294967296) (gBool ((r.getD x0.toNat []).getD 0 .top)) (gInts ((r.getD x0.toNat []).getD 1 .top))))).length * 1 ≤ 140737488355328) then (bif true && decide ((l0 ++ bytesOf (txt (num (4294967296) (gBool ((r.getD x0.toNat []).getD 0 .top)) (gInts ((r.getD x0.toNat []).getD 1 .top)))) ++ bytesOf { data := #[42, 120] }).length * 1 ≤ 140737488355328) then (bif i64B (rd vs x0) then (bif cn (4294967296) (sg (rd vs x0)) (lb (4294967296) (rd vs x0)) then (bif true && decide ((l0 ++ bytesOf (txt (num (4294967296) (gBool ((r.getD x0.toNat []).getD 0 .top)) (gInts ((r.getD x0.toNat []).getD 1 .top)))) ++ bytesOf { data := #[42, 120] } ++ bytesOf (txt (N (4294967296) (rd vs x0)))).length * 1 ≤ 140737488355328) then some (.normal, st0 vs r b m (IntKind.i64.wrap (x0 + 1)) (l0 ++ bytesOf (txt (num (4294967296) (gBool ((r.getD x0.toNat []).getD 0 .top)) (gInts ((r.getD x0.toNat []).getD 1 .top)))) ++ bytesOf { data := #[42, 120] } ++ bytesOf (txt (N (4294967296) (rd vs x0))))) else none) else none) else none) else none) else none) else none) else none) else none)) else none) else some (.exit 0, st0 vs r b m x0 l0)) := by kernel_rfl
-- loop 0 ends exit0 st0 vs r b m x0 l0
theorem rest (vs : List Int) (r : List (List AV)) (b : Bool) (m : List Int) (l1 : List Int) (x1 : Int) : runT T orc (tabOf T orc [(3, 3268359839144463919438546331967940434993252599768884404466513599196910, .exit 0, st0 vs r b m x1 l1)]) Try.f41 [.agg [.ints .i64 vs, .rows 2 r, .bool b, .ints .u32 m]] =
    (bif cdec (Ends T orc L0 D0 (st0 vs r b m (0) ([])) (.exit 0) (st0 vs r b m x1 l1)) then (bif (↑vs.length : Int) == 0 then (bif decide ((↑vs.length : Int) > 0) then (bif true && decide ((l1 ++ bytesOf { data := #[32, 43, 32] }).length * 1 ≤ 140737488355328) then (bif cn (4294967296) b m then (bif true && decide ((l1 ++ bytesOf { data := #[32, 43, 32] } ++ bytesOf (txt (num (4294967296) b m))).length * 1 ≤ 140737488355328) then some (.val (.str (strOf (l1 ++ bytesOf { data := #[32, 43, 32] } ++ bytesOf (txt (num (4294967296) b m)))))) else none) else none) else none) else (bif cn (4294967296) b m then (bif true && decide ((l1 ++ bytesOf (txt (num (4294967296) b m))).length * 1 ≤ 140737488355328) then some (.val (.str (strOf (l1 ++ bytesOf (txt (num (4294967296) b m)))))) else none) else none)) else (bif cn (4294967296) b m then (bif cmpZ (num (4294967296) b m) (0) != 0 then (bif decide ((↑vs.length : Int) > 0) then (bif true && decide ((l1 ++ bytesOf { data := #[32, 43, 32] }).length * 1 ≤ 140737488355328) then (bif cn (4294967296) b m then (bif true && decide ((l1 ++ bytesOf { data := #[32, 43, 32] } ++ bytesOf (txt (num (4294967296) b m))).length * 1 ≤ 140737488355328) then some (.val (.str (strOf (l1 ++ bytesOf { data := #[32, 43, 32] } ++ bytesOf (txt (num (4294967296) b m)))))) else none) else none) else none) else (bif cn (4294967296) b m then (bif true && decide ((l1 ++ bytesOf (txt (num (4294967296) b m))).length * 1 ≤ 140737488355328) then some (.val (.str (strOf (l1 ++ bytesOf (txt (num (4294967296) b m)))))) else none) else none)) else some (.val (.str (strOf l1)))) else none)) else none) := by kernel_rfl
end NText
end
end Go.Abs
end
section
/- What linear's functions answer: a term's text, a row as plain data. -/
namespace Go.Abs
open Go.Proofs Go.Dig
theorem txtL_len {z : Int} (h : z.natAbs < Lim) : (txtL z).length ≤ 10002 := by
  have h1 := lb10_length h
  unfold lb at h1
  unfold txtL dig
  split
  · simp
  · rw [List.length_append, List.length_map, List.length_reverse]
    split <;> simp only [List.length_cons, List.length_nil] <;> omega
theorem txt_len {z : Int} (h : z.natAbs < Lim) : (bytesOf (txt z)).length ≤ 10002 := by rw [bytesOf_txt]; exact txtL_len h
theorem txt_small {z : Int} (h : z.natAbs < Lim) : (txt z).size ≤ 10002 := by rw [← bytes_len]; exact txt_len h
theorem bytes_app (a b : ByteArray) : bytesOf (a ++ b) = bytesOf a ++ bytesOf b := by
  unfold bytesOf
  rw [ByteArray.toList_data_append, List.map_append]
theorem bytes_range (s : ByteArray) : ∀ c ∈ bytesOf s, 0 ≤ c ∧ c < 256 := by
  intro c hc
  unfold bytesOf at hc
  obtain ⟨b, _, rfl⟩ := List.mem_map.1 hc
  have := b.toNat_lt
  exact ⟨by omega, by omega⟩
theorem strOf_bytes (s : ByteArray) : strOf (bytesOf s) = s := bytesOf_inj (bytesOf_strOf (bytes_range s))
theorem sumT_snoc (l : List (Int × Int)) (p : Int × Int) : sumT (l ++ [p]) = if l = [] then partT p else sumT l ++ (sep ++ partT p) := by
  induction l with
  | nil => rfl
  | cons q l ih =>
    rw [if_neg (List.cons_ne_nil q l)]
    cases l with
    | nil => rfl
    | cons q' l =>
      rw [if_neg (List.cons_ne_nil q' l)] at ih
      show partT q ++ (sep ++ sumT ((q' :: l) ++ [p])) = partT q ++ (sep ++ sumT (q' :: l)) ++ (sep ++ partT p)
      rw [ih, ByteArray.append_assoc, ByteArray.append_assoc]
theorem sumT_take {l : List (Int × Int)} {i : Nat} (hi : i < l.length) : sumT (l.take (i + 1)) = if i = 0 then partT l[i] else sumT (l.take i) ++ (sep ++ partT l[i]) := by
  have e : l.take (i + 1) = l.take i ++ [l[i]] := by rw [List.take_add_one, List.getElem?_eq_getElem hi]; rfl
  rw [e, sumT_snoc]
  by_cases h0 : i = 0
  · subst h0; rw [if_pos rfl, if_pos (List.take_zero)]
  · rw [if_neg h0, if_neg (fun h => by
      have := congrArg List.length h
      rw [List.length_take] at this
      simp only [List.length_nil] at this
      omega)]
theorem i64B_var {v : Int} (h : 0 ≤ v ∧ v < 4096) : i64B v = true := by
  unfold i64B; rw [Bool.and_eq_true, decide_eq_true_eq, decide_eq_true_eq]; omega
set_option exponentiation.threshold 20000 in
theorem fits_var {v : Int} (h : 0 ≤ v ∧ v < 4096) : fits v = true := by
  rw [fits_iff]
  have h1 : v.natAbs < 2 ^ 12 := by omega
  exact Nat.lt_of_lt_of_le h1 (Nat.pow_le_pow_right (show 0 < 2 by omega) (show 12 ≤ 1024 by omega))
theorem sumT_len {l : List (Int × Int)} (hl : okL l) (i : Nat) (h : i ≤ l.length) : (bytesOf (sumT (l.take i))).length ≤ i * 30000 := by
  induction i with
  | zero => rw [List.take_zero]; exact Nat.le_refl 0
  | succ i ih =>
    have h1 := ih (by omega)
    have h2 := txt_len (small_of_fits (okL_mem hl (List.getElem_mem (show i < l.length by omega))))
    have h3 := txt_len (small_of_fits (fits_var (okL_in hl _ (List.getElem_mem (show i < l.length by omega)))))
    have hp : (bytesOf (partT l[i])).length ≤ 20006 := by
      unfold partT
      rw [bytes_app, bytes_app, List.length_append, List.length_append, show (bytesOf ⟨#[42, 120]⟩).length = 2 from rfl]
      omega
    rw [sumT_take (by omega)]
    split
    · omega
    · rw [bytes_app, bytes_app, List.length_append, List.length_append, show (bytesOf sep).length = 3 from rfl]
      omega
theorem room1 {l : List Int} (h : l.length ≤ 140000000000) : (true && decide (l.length * 1 ≤ 140737488355328)) = true := by
  rw [Bool.true_and, decide_eq_true_eq]; omega
namespace NText
theorem loop (l : List (Int × Int)) (b : Bool) (m : List Int) (hl : okL l) : ∃ e S1, Ends T orc L0 D0 (st0 (l.map (fun p => p.1)) (l.map cL) b m 0 []) e S1 ∧ e = .exit 0 ∧ ∃ x, S1 = st0 (l.map (fun p => p.1)) (l.map cL) b m x (bytesOf (sumT l)) := by
  have key : ∃ e S1, Ends T orc L0 D0 (st0 (l.map (fun p => p.1)) (l.map cL) b m ((0 : Nat) : Int) (bytesOf (sumT (l.take 0)))) e S1 ∧ e = .exit 0 ∧ ∃ x, S1 = st0 (l.map (fun p => p.1)) (l.map cL) b m x (bytesOf (sumT l)) := by
    refine loop_inv1 (fun (i : Nat) => st0 (l.map (fun p => p.1)) (l.map cL) b m i (bytesOf (sumT (l.take i)))) (fun i => i ≤ l.length) (fun i => l.length - i)
      (fun e S1 => e = .exit 0 ∧ ∃ x, S1 = st0 (l.map (fun p => p.1)) (l.map cL) b m x (bytesOf (sumT l))) isL0 ?_ 0 (Nat.zero_le _)
    intro i h1
    have hlen := okL_len hl
    refine ⟨noTab, noTab_all, lands_of (round0 ..) ?_⟩
    by_cases hi : i < l.length
    · have hf := okL_mem hl (List.getElem_mem hi)
      have hv := okL_in hl _ (List.getElem_mem hi)
      have hL := sumT_len hl i (by omega)
      have t1 := txt_len (small_of_fits hf)
      have t2 := txt_len (small_of_fits (fits_var hv))
      have hsep : (bytesOf { data := #[32, 43, 32] }).length = 3 := rfl
      have hx : (bytesOf { data := #[42, 120] }).length = 2 := rfl
      have hnext := sumT_take hi
      rw [List.length_map, List.length_map, ltN hi, inN hi, getL hi, rdV hi]
      simp only [cL0, cL1, cLeta, cnW_fits hf, cnW_fits (fits_var hv), i64B_var hv, num_lbW, N_eq, cond_true]
      by_cases h0 : i = 0
      · rw [if_pos h0] at hnext
        rw [decide_eq_false (show ¬ ((i : Nat) : Int) > 0 by omega), cond_false, room1 (by simp only [List.length_append, hsep, hx]; omega), room1 (by simp only [List.length_append, hsep, hx]; omega), room1 (by simp only [List.length_append, hsep, hx]; omega)]
        simp only [cond_true, wi_succ (show i < 4611686018427387904 by omega), lands_some, Turns1]
        refine ⟨i + 1, ?_, by omega, by omega⟩
        have e : bytesOf (sumT (l.take (i + 1))) = bytesOf (sumT (l.take i)) ++ bytesOf (txt l[i].2) ++ bytesOf { data := #[42, 120] } ++ bytesOf (txt l[i].1) := by
          rw [hnext, show l.take i = [] from by rw [h0, List.take_zero], show bytesOf (sumT []) = [] from rfl]
          unfold partT
          rw [bytes_app, bytes_app, List.nil_append, List.append_assoc]
        rw [e]
      · rw [if_neg h0] at hnext
        rw [decide_eq_true (show ((i : Nat) : Int) > 0 by omega), cond_true, room1 (by simp only [List.length_append, hsep, hx]; omega), room1 (by simp only [List.length_append, hsep, hx]; omega), room1 (by simp only [List.length_append, hsep, hx]; omega), room1 (by simp only [List.length_append, hsep, hx]; omega)]
        simp only [cond_true, wi_succ (show i < 4611686018427387904 by omega), lands_some, Turns1]
        refine ⟨i + 1, ?_, by omega, by omega⟩
        have e : bytesOf (sumT (l.take (i + 1))) = bytesOf (sumT (l.take i)) ++ bytesOf { data := #[32, 43, 32] } ++ bytesOf (txt l[i].2) ++ bytesOf { data := #[42, 120] } ++ bytesOf (txt l[i].1) := by
          rw [hnext]
          unfold partT sep
          rw [bytes_app, bytes_app, bytes_app, bytes_app, List.append_assoc, List.append_assoc, List.append_assoc]
        rw [e]
    · rw [List.length_map, ltN' hi]
      simp only [cond_false, lands_some, Turns1]
      have hil : l.take i = l := List.take_of_length_le (by omega)
      rw [hil]
      exact ⟨trivial, i, rfl⟩
  exact key
end NText
theorem meets_ntext : Meets Try.prog 41 ansLText := by
  refine meets_fn (orc_ok (l := NText.ans) ⟨meets_text, meets_from, meets_sign, trivial⟩) Try.f41 Try.func41 (by kernel_rfl) (fun args r h => ?_)
  unfold ansLText at h
  split at h
  · rename_i vs r b m
    simp only [Option.some.injEq, Prod.mk.injEq] at h
    obtain ⟨h1, rfl⟩ := h
    obtain ⟨l, c, k1, k2, rfl, rfl, rfl, rfl⟩ := isT_iff.1 h1
    obtain ⟨e1, S1, hE1, rfl, x, rfl⟩ := NText.loop l (sg c) (lb 4294967296 c) k1
    have hT := ttxt_eq l c
    have hL := sumT_len k1 l.length (Nat.le_refl _)
    rw [List.take_length] at hL
    have hlen := okL_len k1
    have hsep : (bytesOf { data := #[32, 43, 32] }).length = 3 := rfl
    have t1 := txt_len (small_of_fits k2)
    refine ⟨rfl, _, tabOf_all _, (NText.rest _ _ _ _ (bytesOf (sumT l)) x).trans ((bT (cdec_true hE1)).trans ?_)⟩
    rw [List.length_map, dl_map, num_lbW, cnW_fits k2, cmpZ_zero]
    by_cases h0 : l = []
    · subst h0
      have hT : ttxt [] c = txt c := hT
      rw [hT]
      refine (bT rfl).trans ((bF rfl).trans ((bT rfl).trans ((bT (room1 (by simp only [List.length_append]; omega))).trans ?_)))
      rw [show bytesOf (sumT []) = [] from rfl, List.nil_append, strOf_bytes]
    · have hpos : 0 < l.length := List.length_pos_iff.2 h0
      rw [show l.isEmpty = false from List.isEmpty_eq_false_iff.2 h0, cond_false] at hT
      refine (bF (beq_eq_false_iff_ne.2 (by omega))).trans ((bT rfl).trans ?_)
      cases hc : c == 0 with
      | true =>
        rw [hc, cond_true] at hT
        rw [hT]
        refine (bF rfl).trans ?_
        rw [strOf_bytes]
      | false =>
        rw [hc, cond_false] at hT
        rw [hT]
        refine (bT rfl).trans ((bT (decide_eq_true (by omega))).trans ((bT (room1 (by simp only [List.length_append, hsep]; omega))).trans ((bT rfl).trans ((bT (room1 (by simp only [List.length_append, hsep]; omega))).trans ?_))))
        have e : bytesOf (sumT l ++ (sep ++ txt c)) = bytesOf (sumT l) ++ bytesOf { data := #[32, 43, 32] } ++ bytesOf (txt c) := by
          unfold sep
          rw [bytes_app, bytes_app, List.append_assoc]
        rw [← e, strOf_bytes]
  · cases h
end Go.Abs
end
section
/- States and rounds of the functions of linear and of its reference, as a program of this session printed them. -/
set_option maxRecDepth 10000
namespace Go.Abs
open Go.Proofs Go.Dig
noncomputable section
namespace NRead
abbrev ans : Ans := [(58, ansParse), (35, ansLVar), (52, ansLScale), (46, ansLAdd)]
abbrev orc : Orc := orcOf ans
noncomputable def L0 : Code := lp Try.f15 0
theorem isL0 : ∃ a, L0 = .loop a := ⟨_, rfl⟩
abbrev D0 : List Nat := [0, 1, 2, 3, 4, 5, 6, 12, 13, 14, 15, 17, 18, 19, 20, 21, 22, 23, 24, 27, 28, 29, 30]
abbrev st0 (x : List (List AV)) (s : ByteArray) (x1 : Int) (l0 : List Int) (r0 : List (List AV)) (b0 : Bool) (l1 : List Int) : St := ⟨.agg [.rows 2 x, .str s] :: .ptr 1 0 0 :: .ptr 2 0 0 :: .int .i64 (0) :: .ptr 4 0 0 :: .int .i64 (re s) :: .ptr 6 0 0 :: tops 5 (.ptr 1 0 0 :: .rows 2 x :: .int .i64 (↑x.length : Int) :: .bool (decide ((↑x.length : Int) > 4096)) :: tops 1 (.tup [R (rv s), .int .i64 (re s)] :: .ptr 1 0 1 :: .str s :: .tup [R (rv s), .int .i64 (re s)] :: R (rv s) :: .int .i64 (re s) :: .int .i64 (re s) :: .bool (re s != 0) :: tops 2 (.ptr 1 0 0 :: .rows 2 x :: .int .i64 (↑x.length : Int) :: .int .i64 x1 :: tops 43 ([])))), nos 1 (varE [(false, .rows 2 x), (false, .str s)] :: varE [(true, .ints .i64 []), (true, .rows 2 []), (false, .bool false), (true, .ints .u32 []), (false, .bool false), (true, .ints .u32 [])] :: nos 1 (varE [(false, .bool (sg (rv s))), (false, .ints .u32 (lb (4294967296) (rv s)))] :: nos 1 (varE [(false, .ints .i64 l0), (false, .rows 2 r0), (false, .bool b0), (false, .ints .u32 l1)] :: nos 67 ([]))))⟩
abbrev st0x0 (x : List (List AV)) (s : ByteArray) (x2 : Int) (x1 : Int) (l0 : List Int) (r0 : List (List AV)) (b0 : Bool) (l1 : List Int) : St := ⟨.agg [.rows 2 x, .str s] :: .ptr 1 0 0 :: .ptr 2 0 0 :: .int .i64 x2 :: .ptr 4 0 0 :: .int .i64 (re s) :: .ptr 6 0 0 :: tops 5 (.ptr 1 0 0 :: .rows 2 x :: .int .i64 (↑x.length : Int) :: .bool (decide ((↑x.length : Int) > 4096)) :: tops 1 (.tup [R (rv s), .int .i64 (re s)] :: .ptr 1 0 1 :: .str s :: .tup [R (rv s), .int .i64 (re s)] :: R (rv s) :: .int .i64 (re s) :: .int .i64 (re s) :: .bool (re s != 0) :: tops 2 (.ptr 1 0 0 :: .rows 2 x :: .int .i64 (↑x.length : Int) :: .int .i64 x1 :: tops 43 ([])))), nos 1 (varE [(false, .rows 2 x), (false, .str s)] :: varE [(true, .ints .i64 []), (true, .rows 2 []), (false, .bool false), (true, .ints .u32 []), (false, .bool false), (true, .ints .u32 [])] :: nos 1 (varE [(false, .bool (sg (rv s))), (false, .ints .u32 (lb (4294967296) (rv s)))] :: nos 1 (varE [(false, .ints .i64 l0), (false, .rows 2 r0), (false, .bool b0), (false, .ints .u32 l1)] :: nos 67 ([]))))⟩
abbrev st0x1 (x : List (List AV)) (s : ByteArray) : St := ⟨.agg [.rows 2 x, .str s] :: .ptr 1 0 0 :: .ptr 2 0 0 :: .int .i64 (vE (gInt ((x.getD 0 []).getD 0 .top))) :: .ptr 4 0 0 :: .int .i64 (re s) :: .ptr 6 0 0 :: tops 5 (.ptr 1 0 0 :: .rows 2 x :: .int .i64 (↑x.length : Int) :: .bool (decide ((↑x.length : Int) > 4096)) :: tops 1 (.tup [R (rv s), .int .i64 (re s)] :: .ptr 1 0 1 :: .str s :: .tup [R (rv s), .int .i64 (re s)] :: R (rv s) :: .int .i64 (re s) :: .int .i64 (re s) :: .bool (re s != 0) :: tops 2 (.ptr 1 0 0 :: .rows 2 x :: .int .i64 (↑x.length : Int) :: .int .i64 (0) :: tops 43 ([])))), nos 1 (varE [(false, .rows 2 x), (false, .str s)] :: varE [(true, .ints .i64 []), (true, .rows 2 []), (false, .bool false), (true, .ints .u32 []), (false, .bool false), (true, .ints .u32 [])] :: nos 1 (varE [(false, .bool (sg (rv s))), (false, .ints .u32 (lb (4294967296) (rv s)))] :: nos 1 (varE [(true, .ints .i64 []), (true, .rows 2 []), (false, .bool false), (true, .ints .u32 [])] :: nos 67 ([]))))⟩
abbrev st0x2 (x : List (List AV)) (s : ByteArray) : St := ⟨.agg [.rows 2 x, .str s] :: .ptr 1 0 0 :: .ptr 2 0 0 :: .int .i64 (re (gStr ((x.getD 0 []).getD 1 .top))) :: .ptr 4 0 0 :: .int .i64 (re s) :: .ptr 6 0 0 :: tops 5 (.ptr 1 0 0 :: .rows 2 x :: .int .i64 (↑x.length : Int) :: .bool (decide ((↑x.length : Int) > 4096)) :: tops 1 (.tup [R (rv s), .int .i64 (re s)] :: .ptr 1 0 1 :: .str s :: .tup [R (rv s), .int .i64 (re s)] :: R (rv s) :: .int .i64 (re s) :: .int .i64 (re s) :: .bool (re s != 0) :: tops 2 (.ptr 1 0 0 :: .rows 2 x :: .int .i64 (↑x.length : Int) :: .int .i64 (0) :: tops 43 ([])))), nos 1 (varE [(false, .rows 2 x), (false, .str s)] :: varE [(true, .ints .i64 []), (true, .rows 2 []), (false, .bool false), (true, .ints .u32 []), (false, .bool false), (true, .ints .u32 [])] :: nos 1 (varE [(false, .bool (sg (rv s))), (false, .ints .u32 (lb (4294967296) (rv s)))] :: nos 1 (varE [(true, .ints .i64 []), (true, .rows 2 []), (false, .bool false), (true, .ints .u32 [])] :: nos 67 ([]))))⟩
abbrev st0x3 (x : List (List AV)) (s : ByteArray) : St := ⟨.agg [.rows 2 x, .str s] :: .ptr 1 0 0 :: .ptr 2 0 0 :: .int .i64 (0) :: .ptr 4 0 0 :: .int .i64 (re s) :: .ptr 6 0 0 :: tops 5 (.ptr 1 0 0 :: .rows 2 x :: .int .i64 (↑x.length : Int) :: .bool (decide ((↑x.length : Int) > 4096)) :: tops 1 (.tup [R (rv s), .int .i64 (re s)] :: .ptr 1 0 1 :: .str s :: .tup [R (rv s), .int .i64 (re s)] :: R (rv s) :: .int .i64 (re s) :: .int .i64 (re s) :: .bool (re s != 0) :: tops 2 (.ptr 1 0 0 :: .rows 2 x :: .int .i64 (↑x.length : Int) :: .int .i64 (0) :: tops 43 ([])))), nos 1 (varE [(false, .rows 2 x), (false, .str s)] :: varE [(true, .ints .i64 []), (true, .rows 2 []), (false, .bool false), (true, .ints .u32 []), (false, .bool false), (true, .ints .u32 [])] :: nos 1 (varE [(false, .bool (sg (rv s))), (false, .ints .u32 (lb (4294967296) (rv s)))] :: nos 1 (varE [(true, .ints .i64 []), (true, .rows 2 []), (false, .bool false), (true, .ints .u32 [])] :: nos 67 ([]))))⟩
abbrev st0e (x : List (List AV)) (s : ByteArray) : St := ⟨.agg [.rows 2 x, .str s] :: .ptr 1 0 0 :: .ptr 2 0 0 :: .int .i64 (0) :: .ptr 4 0 0 :: .int .i64 (re s) :: .ptr 6 0 0 :: tops 5 (.ptr 1 0 0 :: .rows 2 x :: .int .i64 (↑x.length : Int) :: .bool (decide ((↑x.length : Int) > 4096)) :: tops 1 (.tup [R (rv s), .int .i64 (re s)] :: .ptr 1 0 1 :: .str s :: .tup [R (rv s), .int .i64 (re s)] :: R (rv s) :: .int .i64 (re s) :: .int .i64 (re s) :: .bool (re s != 0) :: tops 2 (.ptr 1 0 0 :: .rows 2 x :: .int .i64 (↑x.length : Int) :: .int .i64 (0) :: tops 43 ([])))), nos 1 (varE [(false, .rows 2 x), (false, .str s)] :: varE [(true, .ints .i64 []), (true, .rows 2 []), (false, .bool false), (true, .ints .u32 []), (false, .bool false), (true, .ints .u32 [])] :: nos 1 (varE [(false, .bool (sg (rv s))), (false, .ints .u32 (lb (4294967296) (rv s)))] :: nos 1 (varE [(true, .ints .i64 []), (true, .rows 2 []), (false, .bool false), (true, .ints .u32 [])] :: nos 67 ([]))))⟩
theorem round0e (x : List (List AV)) (s : ByteArray) : goL T orc (noTab) D0 L0 (st0e x s) =
    (bif decide (0 < (↑x.length : Int)) then (bif inB (0) x.length then (bif etasOk [.int .i64 (0), .str { data := #[] }] (x.getD 0 []) then (bif vE (gInt ((x.getD 0 []).getD 0 .top)) != 0 then some (.ret, st0x1 x s) else (bif decide ((gStr ((x.getD 0 []).getD 1 .top)).size ≤ 10000) then (bif re (gStr ((x.getD 0 []).getD 1 .top)) != 0 then some (.ret, st0x2 x s) else (bif isT (lvs (Bool.rec [] (lone (gInt ((x.getD 0 []).getD 0 .top)) (1)) (vok (gInt ((x.getD 0 []).getD 0 .top))))) (lrs (Bool.rec [] (lone (gInt ((x.getD 0 []).getD 0 .top)) (1)) (vok (gInt ((x.getD 0 []).getD 0 .top))))) false [] && (cn (4294967296) (sg (rv (gStr ((x.getD 0 []).getD 1 .top)))) (lb (4294967296) (rv (gStr ((x.getD 0 []).getD 1 .top)))) && fits (N (4294967296) (rv (gStr ((x.getD 0 []).getD 1 .top))))) then (bif isT [] [] false [] && isT (lvs (scL (dl (lvs (Bool.rec [] (lone (gInt ((x.getD 0 []).getD 0 .top)) (1)) (vok (gInt ((x.getD 0 []).getD 0 .top))))) (lrs (Bool.rec [] (lone (gInt ((x.getD 0 []).getD 0 .top)) (1)) (vok (gInt ((x.getD 0 []).getD 0 .top)))))) (0) (N (4294967296) (rv (gStr ((x.getD 0 []).getD 1 .top)))))) (lrs (scL (dl (lvs (Bool.rec [] (lone (gInt ((x.getD 0 []).getD 0 .top)) (1)) (vok (gInt ((x.getD 0 []).getD 0 .top))))) (lrs (Bool.rec [] (lone (gInt ((x.getD 0 []).getD 0 .top)) (1)) (vok (gInt ((x.getD 0 []).getD 0 .top)))))) (0) (N (4294967296) (rv (gStr ((x.getD 0 []).getD 1 .top)))))) (sg (scC (dl (lvs (Bool.rec [] (lone (gInt ((x.getD 0 []).getD 0 .top)) (1)) (vok (gInt ((x.getD 0 []).getD 0 .top))))) (lrs (Bool.rec [] (lone (gInt ((x.getD 0 []).getD 0 .top)) (1)) (vok (gInt ((x.getD 0 []).getD 0 .top)))))) (0) (N (4294967296) (rv (gStr ((x.getD 0 []).getD 1 .top)))))) (lb (4294967296) (scC (dl (lvs (Bool.rec [] (lone (gInt ((x.getD 0 []).getD 0 .top)) (1)) (vok (gInt ((x.getD 0 []).getD 0 .top))))) (lrs (Bool.rec [] (lone (gInt ((x.getD 0 []).getD 0 .top)) (1)) (vok (gInt ((x.getD 0 []).getD 0 .top)))))) (0) (N (4294967296) (rv (gStr ((x.getD 0 []).getD 1 .top)))))) then (bif addE (dl [] []) (dl (lvs (scL (dl (lvs (Bool.rec [] (lone (gInt ((x.getD 0 []).getD 0 .top)) (1)) (vok (gInt ((x.getD 0 []).getD 0 .top))))) (lrs (Bool.rec [] (lone (gInt ((x.getD 0 []).getD 0 .top)) (1)) (vok (gInt ((x.getD 0 []).getD 0 .top)))))) (0) (N (4294967296) (rv (gStr ((x.getD 0 []).getD 1 .top)))))) (lrs (scL (dl (lvs (Bool.rec [] (lone (gInt ((x.getD 0 []).getD 0 .top)) (1)) (vok (gInt ((x.getD 0 []).getD 0 .top))))) (lrs (Bool.rec [] (lone (gInt ((x.getD 0 []).getD 0 .top)) (1)) (vok (gInt ((x.getD 0 []).getD 0 .top)))))) (0) (N (4294967296) (rv (gStr ((x.getD 0 []).getD 1 .top))))))) (0) (N (4294967296) (scC (dl (lvs (Bool.rec [] (lone (gInt ((x.getD 0 []).getD 0 .top)) (1)) (vok (gInt ((x.getD 0 []).getD 0 .top))))) (lrs (Bool.rec [] (lone (gInt ((x.getD 0 []).getD 0 .top)) (1)) (vok (gInt ((x.getD 0 []).getD 0 .top)))))) (0) (N (4294967296) (rv (gStr ((x.getD 0 []).getD 1 .top)))))) != 0 then some (.ret, st0x0 x s (addE (dl [] []) (dl (lvs (scL (dl (lvs (Bool.rec [] (lone (gInt ((x.getD 0 []).getD 0 .top)) (1)) (vok (gInt ((x.getD 0 []).getD 0 .top))))) (lrs (Bool.rec [] (lone (gInt ((x.getD 0 []).getD 0 .top)) (1)) (vok (gInt ((x.getD 0 []).getD 0 .top)))))) (0) (N (4294967296) (rv (gStr ((x.getD 0 []).getD 1 .top)))))) (lrs (scL (dl (lvs (Bool.rec [] (lone (gInt ((x.getD 0 []).getD 0 .top)) (1)) (vok (gInt ((x.getD 0 []).getD 0 .top))))) (lrs (Bool.rec [] (lone (gInt ((x.getD 0 []).getD 0 .top)) (1)) (vok (gInt ((x.getD 0 []).getD 0 .top)))))) (0) (N (4294967296) (rv (gStr ((x.getD 0 []).getD 1 .top))))))) (0) (N (4294967296) (scC (dl (lvs (Bool.rec [] (lone (gInt ((x.getD 0 []).getD 0 .top)) (1)) (vok (gInt ((x.getD 0 []).getD 0 .top))))) (lrs (Bool.rec [] (lone (gInt ((x.getD 0 []).getD 0 .top)) (1)) (vok (gInt ((x.getD 0 []).getD 0 .top)))))) (0) (N (4294967296) (rv (gStr ((x.getD 0 []).getD 1 .top))))))) (0) (lvs (addL (dl [] []) (dl (lvs (scL (dl (lvs (Bool.rec [] (lone (gInt ((x.getD 0 []).getD 0 .top)) (1)) (vok (gInt ((x.getD 0 []).getD 0 .top))))) (lrs (Bool.rec [] (lone (gInt ((x.getD 0 []).getD 0 .top)) (1)) (vok (gInt ((x.getD 0 []).getD 0 .top)))))) (0) (N (4294967296) (rv (gStr ((x.getD 0 []).getD 1 .top)))))) (lrs (scL (dl (lvs (Bool.rec [] (lone (gInt ((x.getD 0 []).getD 0 .top)) (1)) (vok (gInt ((x.getD 0 []).getD 0 .top))))) (lrs (Bool.rec [] (lone (gInt ((x.getD 0 []).getD 0 .top)) (1)) (vok (gInt ((x.getD 0 []).getD 0 .top)))))) (0) (N (4294967296) (rv (gStr ((x.getD 0 []).getD 1 .top))))))) (0) (N (4294967296) (scC (dl (lvs (Bool.rec [] (lone (gInt ((x.getD 0 []).getD 0 .top)) (1)) (vok (gInt ((x.getD 0 []).getD 0 .top))))) (lrs (Bool.rec [] (lone (gInt ((x.getD 0 []).getD 0 .top)) (1)) (vok (gInt ((x.getD 0 []).getD 0 .top)))))) (0) (N (4294967296) (rv (gStr ((x.getD 0 []).getD 1 .top)))))))) (lrs (addL (dl [] []) (dl (lvs (scL (dl (lvs (Bool.rec [] (lone (gInt ((x.getD 0 []).getD 0 .top)) (1)) (vok (gInt ((x.getD 0 []).getD 0 .top))))) (lrs (Bool.rec [] (lone (gInt ((x.getD 0 []).getD 0 .top)) (1)) (vok (gInt ((x.getD 0 []).getD 0 .top)))))) (0) (N (4294967296) (rv (gStr ((x.getD 0 []).getD 1 .top)))))) (lrs (scL (dl (lvs (Bool.rec [] (lone (gInt ((x.getD 0 []).getD 0 .top)) (1)) (vok (gInt ((x.getD 0 []).getD 0 .top))))) (lrs (Bool.rec [] (lone (gInt ((x.getD 0 []).getD 0 .top)) (1)) (vok (gInt ((x.getD 0 []).getD 0 .top)))))) (0) (N (4294967296) (rv (gStr ((x.getD 0 []).getD 1 .top))))))) (0) (N (4294967296) (scC (dl (lvs (Bool.rec [] (lone (gInt ((x.getD 0 []).getD 0 .top)) (1)) (vok (gInt ((x.getD 0 []).getD 0 .top))))) (lrs (Bool.rec [] (lone (gInt ((x.getD 0 []).getD 0 .top)) (1)) (vok (gInt ((x.getD 0 []).getD 0 .top)))))) (0) (N (4294967296) (rv (gStr ((x.getD 0 []).getD 1 .top)))))))) (sg (addC (dl [] []) (dl (lvs (scL (dl (lvs (Bool.rec [] (lone (gInt ((x.getD 0 []).getD 0 .top)) (1)) (vok (gInt ((x.getD 0 []).getD 0 .top))))) (lrs (Bool.rec [] (lone (gInt ((x.getD 0 []).getD 0 .top)) (1)) (vok (gInt ((x.getD 0 []).getD 0 .top)))))) (0) (N (4294967296) (rv (gStr ((x.getD 0 []).getD 1 .top)))))) (lrs (scL (dl (lvs (Bool.rec [] (lone (gInt ((x.getD 0 []).getD 0 .top)) (1)) (vok (gInt ((x.getD 0 []).getD 0 .top))))) (lrs (Bool.rec [] (lone (gInt ((x.getD 0 []).getD 0 .top)) (1)) (vok (gInt ((x.getD 0 []).getD 0 .top)))))) (0) (N (4294967296) (rv (gStr ((x.getD 0 []).getD 1 .top))))))) (0) (N (4294967296) (scC (dl (lvs (Bool.rec [] (lone (gInt ((x.getD 0 []).getD 0 .top)) (1)) (vok (gInt ((x.getD 0 []).getD 0 .top))))) (lrs (Bool.rec [] (lone (gInt ((x.getD 0 []).getD 0 .top)) (1)) (vok (gInt ((x.getD 0 []).getD 0 .top)))))) (0) (N (4294967296) (rv (gStr ((x.getD 0 []).getD 1 .top)))))))) (lb (4294967296) (addC (dl [] []) (dl (lvs (scL (dl (lvs (Bool.rec [] (lone (gInt ((x.getD 0 []).getD 0 .top)) (1)) (vok (gInt ((x.getD 0 []).getD 0 .top))))) (lrs (Bool.rec [] (lone (gInt ((x.getD 0 []).getD 0 .top)) (1)) (vok (gInt ((x.getD 0 []).getD 0 .top)))))) (0) (N (4294967296) (rv (gStr ((x.getD 0 []).getD 1 .top)))))) (lrs (scL (dl (lvs (Bool.rec [] (lone (gInt ((x.getD 0 []).getD 0 .top)) (1)) (vok (gInt ((x.getD 0 []).getD 0 .top))))) (lrs (Bool.rec [] (lone (gInt ((x.getD 0 []).getD 0 .top)) (1)) (vok (gInt ((x.getD 0 []).getD 0 .top)))))) (0) (N (4294967296) (rv (gStr ((x.getD 0 []).getD 1 .top))))))) (0) (N (4294967296) (scC (dl (lvs (Bool.rec [] (lone (gInt ((x.getD 0 []).getD 0 .top)) (1)) (vok (gInt ((x.getD 0 []).getD 0 .top))))) (lrs (Bool.rec [] (lone (gInt ((x.getD 0 []).getD 0 .top)) (1)) (vok (gInt ((x.getD 0 []).getD 0 .top)))))) (0) (N (4294967296) (rv (gStr ((x.getD 0 []).getD 1 .top))))))))) else some (.normal, st0 x s (IntKind.i64.wrap (0 + 1)) (lvs (addL (dl [] []) (dl (lvs (scL (dl (lvs (Bool.rec [] (lone (gInt ((x.getD 0 []).getD 0 .top)) (1)) (vok (gInt ((x.getD 0 []).getD 0 .top))))) (lrs (Bool.rec [] (lone (gInt ((x.getD 0 []).getD 0 .top)) (1)) (vok (gInt ((x.getD 0 []).getD 0 .top)))))) (0) (N (4294967296) (rv (gStr ((x.getD 0 []).getD 1 .top)))))) (lrs (scL (dl (lvs (Bool.rec [] (lone (gInt ((x.getD 0 []).getD 0 .top)) (1)) (vok (gInt ((x.getD 0 []).getD 0 .top))))) (lrs (Bool.rec [] (lone (gInt ((x.getD 0 []).getD 0 .top)) (1)) (vok (gInt ((x.getD 0 []).getD 0 .top)))))) (0) (N (4294967296) (rv (gStr ((x.getD 0 []).getD 1 .top))))))) (0) (N (4294967296) (scC (dl (lvs (Bool.rec [] (lone (gInt ((x.getD 0 []).getD 0 .top)) (1)) (vok (gInt ((x.getD 0 []).getD 0 .top))))) (lrs (Bool.rec [] (lone (gInt ((x.getD 0 []).getD 0 .top)) (1)) (vok (gInt ((x.getD 0 []).getD 0 .top)))))) (0) (N (4294967296) (rv (gStr ((x.getD 0 []).getD 1 .top)))))))) (lrs (addL (dl [] []) (dl (lvs (scL (dl (lvs (Bool.rec [] (lone (gInt ((x.getD 0 []).getD 0 .top)) (1)) (vok (gInt ((x.getD 0 []).getD 0 .top))))) (lrs (Bool.rec [] (lone (gInt ((x.getD 0 []).getD 0 .top)) (1)) (vok (gInt ((x.getD 0 []).getD 0 .top)))))) (0) (N (4294967296) (rv (gStr ((x.getD 0 []).getD 1 .top)))))) (lrs (scL (dl (lvs (Bool.rec [] (lone (gInt ((x.getD 0 []).getD 0 .top)) (1)) (vok (gInt ((x.getD 0 []).getD 0 .top))))) (lrs (Bool.rec [] (lone (gInt ((x.getD 0 []).getD 0 .top)) (1)) (vok (gInt ((x.getD 0 []).getD 0 .top)))))) (0) (N (4294967296) (rv (gStr ((x.getD 0 []).getD 1 .top))))))) (0) (N (4294967296) (scC (dl (lvs (Bool.rec [] (lone (gInt ((x.getD 0 []).getD 0 .top)) (1)) (vok (gInt ((x.getD 0 []).getD 0 .top))))) (lrs (Bool.rec [] (lone (gInt ((x.getD 0 []).getD 0 .top)) (1)) (vok (gInt ((x.getD 0 []).getD 0 .top)))))) (0) (N (4294967296) (rv (gStr ((x.getD 0 []).getD 1 .top)))))))) (sg (addC (dl [] []) (dl (lvs (scL (dl (lvs (Bool.rec [] (lone (gInt ((x.getD 0 []).getD 0 .top)) (1)) (vok (gInt ((x.getD 0 []).getD 0 .top))))) (lrs (Bool.rec [] (lone (gInt ((x.getD 0 []).getD 0 .top)) (1)) (vok (gInt ((x.getD 0 []).getD 0 .top)))))) (0) (N (4294967296) (rv (gStr ((x.getD 0 []).getD 1 .top)))))) (lrs (scL (dl (lvs (Bool.rec [] (lone (gInt ((x.getD 0 []).getD 0 .top)) (1)) (vok (gInt ((x.getD 0 []).getD 0 .top))))) (lrs (Bool.rec [] (lone (gInt ((x.getD 0 []).getD 0 .top)) (1)) (vok (gInt ((x.getD 0 []).getD 0 .top)))))) (0) (N (4294967296) (rv (gStr ((x.getD 0 []).getD 1 .top))))))) (0) (N (4294967296) (scC (dl (lvs (Bool.rec [] (lone (gInt ((x.getD 0 []).getD 0 .top)) (1)) (vok (gInt ((x.getD 0 []).getD 0 .top))))) (lrs (Bool.rec [] (lone (gInt ((x.getD 0 []).getD 0 .top)) (1)) (vok (gInt ((x.getD 0 []).getD 0 .top)))))) (0) (N (4294967296) (rv (gStr ((x.getD 0 []).getD 1 .top)))))))) (lb (4294967296) (addC (dl [] []) (dl (lvs (scL (dl (lvs (Bool.rec [] (lone (gInt ((x.getD 0 []).getD 0 .top)) (1)) (vok (gInt ((x.getD 0 []).getD 0 .top))))) (lrs (Bool.rec [] (lone (gInt ((x.getD 0 []).getD 0 .top)) (1)) (vok (gInt ((x.getD 0 []).getD 0 .top)))))) (0) (N (4294967296) (rv (gStr ((x.getD 0 []).getD 1 .top)))))) (lrs (scL (dl (lvs (Bool.rec [] (lone (gInt ((x.getD 0 []).getD 0 .top)) (1)) (vok (gInt ((x.getD 0 []).getD 0 .top))))) (lrs (Bool.rec [] (lone (gInt ((x.getD 0 []).getD 0 .top)) (1)) (vok (gInt ((x.getD 0 []).getD 0 .top)))))) (0) (N (4294967296) (rv (gStr ((x.getD 0 []).getD 1 .top))))))) (0) (N (4294967296) (scC (dl (lvs (Bool.rec [] (lone (gInt ((x.getD 0 []).getD 0 .top)) (1)) (vok (gInt ((x.getD 0 []).getD 0 .top))))) (lrs (Bool.rec [] (lone (gInt ((x.getD 0 []).getD 0 .top)) (1)) (vok (gInt ((x.getD 0 []).getD 0 .top)))))) (0) (N (4294967296) (rv (gStr ((x.getD 0 []).getD 1 .top)))))))))) else none) else none)) else none)) else none) else none) else some (.exit 0, st0e x s)) := by kernel_rfl
theorem round0 (x : List (List AV)) (s : ByteArray) (x1 : Int) (l0 : List Int) (r0 : List (List AV)) (b0 : Bool) (l1 : List Int) : goL T orc (noTab) D0 L0 (st0 x s x1 l0 r0 b0 l1) =
    (bif decide (x1 < (↑x.length : Int)) then (bif inB x1 x.length then (bif etasOk [.int .i64 (0), .str { data := #[] }] (x.getD x1.toNat []) then (bif vE (gInt ((x.getD x1.toNat []).getD 0 .top)) != 0 then some (.ret, st0x0 x s (vE (gInt ((x.getD x1.toNat []).getD 0 .top))) x1 l0 r0 b0 l1) else (bif decide ((gStr ((x.getD x1.toNat []).getD 1 .top)).size ≤ 10000) then (bif re (gStr ((x.getD x1.toNat []).getD 1 .top)) != 0 then some (.ret, st0x0 x s (re (gStr ((x.getD x1.toNat []).getD 1 .top))) x1 l0 r0 b0 l1) else (bif isT (lvs (Bool.rec [] (lone (gInt ((x.getD x1.toNat []).getD 0 .top)) (1)) (vok (gInt ((x.getD x1.toNat []).getD 0 .top))))) (lrs (Bool.rec [] (lone (gInt ((x.getD x1.toNat []).getD 0 .top)) (1)) (vok (gInt ((x.getD x1.toNat []).getD 0 .top))))) false [] && (cn (4294967296) (sg (rv (gStr ((x.getD x1.toNat []).getD 1 .top)))) (lb (4294967296) (rv (gStr ((x.getD x1.toNat []).getD 1 .top)))) && fits (N (4294967296) (rv (gStr ((x.getD x1.toNat []).getD 1 .top))))) then (bif isT l0 r0 b0 l1 && isT (lvs (scL (dl (lvs (Bool.rec [] (lone (gInt ((x.getD x1.toNat []).getD 0 .top)) (1)) (vok (gInt ((x.getD x1.toNat []).getD 0 .top))))) (lrs (Bool.rec [] (lone (gInt ((x.getD x1.toNat []).getD 0 .top)) (1)) (vok (gInt ((x.getD x1.toNat []).getD 0 .top)))))) (0) (N (4294967296) (rv (gStr ((x.getD x1.toNat []).getD 1 .top)))))) (lrs (scL (dl (lvs (Bool.rec [] (lone (gInt ((x.getD x1.toNat []).getD 0 .top)) (1)) (vok (gInt ((x.getD x1.toNat []).getD 0 .top))))) (lrs (Bool.rec [] (lone (gInt ((x.getD x1.toNat []).getD 0 .top)) (1)) (vok (gInt ((x.getD x1.toNat []).getD 0 .top)))))) (0) (N (4294967296) (rv (gStr ((x.getD x1.toNat []).getD 1 .top)))))) (sg (scC (dl (lvs (Bool.rec [] (lone (gInt ((x.getD x1.toNat []).getD 0 .top)) (1)) (vok (gInt ((x.getD x1.toNat []).getD 0 .top))))) (lrs (Bool.rec [] (lone (gInt ((x.getD x1.toNat []).getD 0 .top)) (1)) (vok (gInt ((x.getD x1.toNat []).getD 0 .top)))))) (0) (N (4294967296) (rv (gStr ((x.getD x1.toNat []).getD 1 .top)))))) (lb (4294967296) (scC (dl (lvs (Bool.rec [] (lone (gInt ((x.getD x1.toNat []).getD 0 .top)) (1)) (vok (gInt ((x.getD x1.toNat []).getD 0 .top))))) (lrs (Bool.rec [] (lone (gInt ((x.getD x1.toNat []).getD 0 .top)) (1)) (vok (gInt ((x.getD x1.toNat []).getD 0 .top)))))) (0) (N (4294967296) (rv (gStr ((x.getD x1.toNat []).getD 1 .top)))))) then (bif addE (dl l0 r0) (dl (lvs (scL (dl (lvs (Bool.rec [] (lone (gInt ((x.getD x1.toNat []).getD 0 .top)) (1)) (vok (gInt ((x.getD x1.toNat []).getD 0 .top))))) (lrs (Bool.rec [] (lone (gInt ((x.getD x1.toNat []).getD 0 .top)) (1)) (vok (gInt ((x.getD x1.toNat []).getD 0 .top)))))) (0) (N (4294967296) (rv (gStr ((x.getD x1.toNat []).getD 1 .top)))))) (lrs (scL (dl (lvs (Bool.rec [] (lone (gInt ((x.getD x1.toNat []).getD 0 .top)) (1)) (vok (gInt ((x.getD x1.toNat []).getD 0 .top))))) (lrs (Bool.rec [] (lone (gInt ((x.getD x1.toNat []).getD 0 .top)) (1)) (vok (gInt ((x.getD x1.toNat []).getD 0 .top)))))) (0) (N (4294967296) (rv (gStr ((x.getD x1.toNat []).getD 1 .top))))))) (num (4294967296) b0 l1) (N (4294967296) (scC (dl (lvs (Bool.rec [] (lone (gInt ((x.getD x1.toNat []).getD 0 .top)) (1)) (vok (gInt ((x.getD x1.toNat []).getD 0 .top))))) (lrs (Bool.rec [] (lone (gInt ((x.getD x1.toNat []).getD 0 .top)) (1)) (vok (gInt ((x.getD x1.toNat []).getD 0 .top)))))) (0) (N (4294967296) (rv (gStr ((x.getD x1.toNat []).getD 1 .top)))))) != 0 then some (.ret, st0x0 x s (addE (dl l0 r0) (dl (lvs (scL (dl (lvs (Bool.rec [] (lone (gInt ((x.getD x1.toNat []).getD 0 .top)) (1)) (vok (gInt ((x.getD x1.toNat []).getD 0 .top))))) (lrs (Bool.rec [] (lone (gInt ((x.getD x1.toNat []).getD 0 .top)) (1)) (vok (gInt ((x.getD x1.toNat []).getD 0 .top)))))) (0) (N (4294967296) (rv (gStr ((x.getD x1.toNat []).getD 1 .top)))))) (lrs (scL (dl (lvs (Bool.rec [] (lone (gInt ((x.getD x1.toNat []).getD 0 .top)) (1)) (vok (gInt ((x.getD x1.toNat []).getD 0 .top))))) (lrs (Bool.rec [] (lone (gInt ((x.getD x1.toNat []).getD 0 .top)) (1)) (vok (gInt ((x.getD x1.toNat []).getD 0 .top)))))) (0) (N (4294967296) (rv (gStr ((x.getD x1.toNat []).getD 1 .top))))))) (num (4294967296) b0 l1) (N (4294967296) (scC (dl (lvs (Bool.rec [] (lone (gInt ((x.getD x1.toNat []).getD 0 .top)) (1)) (vok (gInt ((x.getD x1.toNat []).getD 0 .top))))) (lrs (Bool.rec [] (lone (gInt ((x.getD x1.toNat []).getD 0 .top)) (1)) (vok (gInt ((x.getD x1.toNat []).getD 0 .top)))))) (0) (N (4294967296) (rv (gStr ((x.getD x1.toNat []).getD 1 .top))))))) x1 (lvs (addL (dl l0 r0) (dl (lvs (scL (dl (lvs (Bool.rec [] (lone (gInt ((x.getD x1.toNat []).getD 0 .top)) (1)) (vok (gInt ((x.getD x1.toNat []).getD 0 .top))))) (lrs (Bool.rec [] (lone (gInt ((x.getD x1.toNat []).getD 0 .top)) (1)) (vok (gInt ((x.getD x1.toNat []).getD 0 .top)))))) (0) (N (4294967296) (rv (gStr ((x.getD x1.toNat []).getD 1 .top)))))) (lrs (scL (dl (lvs (Bool.rec [] (lone (gInt ((x.getD x1.toNat []).getD 0 .top)) (1)) (vok (gInt ((x.getD x1.toNat []).getD 0 .top))))) (lrs (Bool.rec [] (lone (gInt ((x.getD x1.toNat []).getD 0 .top)) (1)) (vok (gInt ((x.getD x1.toNat []).getD 0 .top)))))) (0) (N (4294967296) (rv (gStr ((x.getD x1.toNat []).getD 1 .top))))))) (num (4294967296) b0 l1) (N (4294967296) (scC (dl (lvs (Bool.rec [] (lone (gInt ((x.getD x1.toNat []).getD 0 .top)) (1)) (vok (gInt ((x.getD x1.toNat []).getD 0 .top))))) (lrs (Bool.rec [] (lone (gInt ((x.getD x1.toNat []).getD 0 .top)) (1)) (vok (gInt ((x.getD x1.toNat []).getD 0 .top)))))) (0) (N (4294967296) (rv (gStr ((x.getD x1.toNat []).getD 1 .top)))))))) (lrs (addL (dl l0 r0) (dl (lvs (scL (dl (lvs (Bool.rec [] (lone (gInt ((x.getD x1.toNat []).getD 0 .top)) (1)) (vok (gInt ((x.getD x1.toNat []).getD 0 .top))))) (lrs (Bool.rec [] (lone (gInt ((x.getD x1.toNat []).getD 0 .top)) (1)) (vok (gInt ((x.getD x1.toNat []).getD 0 .top)))))) (0) (N (4294967296) (rv (gStr ((x.getD x1.toNat []).getD 1 .top)))))) (lrs (scL (dl (lvs (Bool.rec [] (lone (gInt ((x.getD x1.toNat []).getD 0 .top)) (1)) (vok (gInt ((x.getD x1.toNat []).getD 0 .top))))) (lrs (Bool.rec [] (lone (gInt ((x.getD x1.toNat []).getD 0 .top)) (1)) (vok (gInt ((x.getD x1.toNat []).getD 0 .top)))))) (0) (N (4294967296) (rv (gStr ((x.getD x1.toNat []).getD 1 .top))))))) (num (4294967296) b0 l1) (N (4294967296) (scC (dl (lvs (Bool.rec [] (lone (gInt ((x.getD x1.toNat []).getD 0 .top)) (1)) (vok (gInt ((x.getD x1.toNat []).getD 0 .top))))) (lrs (Bool.rec [] (lone (gInt ((x.getD x1.toNat []).getD 0 .top)) (1)) (vok (gInt ((x.getD x1.toNat []).getD 0 .top)))))) (0) (N (4294967296) (rv (gStr ((x.getD x1.toNat []).getD 1 .top)))))))) (sg (addC (dl l0 r0) (dl (lvs (scL (dl (lvs (Bool.rec [] (lone (gInt ((x.getD x1.toNat []).getD 0 .top)) (1)) (vok (gInt ((x.getD x1.toNat []).getD 0 .top))))) (lrs (Bool.rec [] (lone (gInt ((x.getD x1.toNat []).getD 0 .top)) (1)) (vok (gInt ((x.getD x1.toNat []).getD 0 .top)))))) (0) (N (4294967296) (rv (gStr ((x.getD x1.toNat []).getD 1 .top)))))) (lrs (scL (dl (lvs (Bool.rec [] (lone (gInt ((x.getD x1.toNat []).getD 0 .top)) (1)) (vok (gInt ((x.getD x1.toNat []).getD 0 .top))))) (lrs (Bool.rec [] (lone (gInt ((x.getD x1.toNat []).getD 0 .top)) (1)) (vok (gInt ((x.getD x1.toNat []).getD 0 .top)))))) (0) (N (4294967296) (rv (gStr ((x.getD x1.toNat []).getD 1 .top))))))) (num (4294967296) b0 l1) (N (4294967296) (scC (dl (lvs (Bool.rec [] (lone (gInt ((x.getD x1.toNat []).getD 0 .top)) (1)) (vok (gInt ((x.getD x1.toNat []).getD 0 .top))))) (lrs (Bool.rec [] (lone (gInt ((x.getD x1.toNat []).getD 0 .top)) (1)) (vok (gInt ((x.getD x1.toNat []).getD 0 .top)))))) (0) (N (4294967296) (rv (gStr ((x.getD x1.toNat []).getD 1 .top)))))))) (lb (4294967296) (addC (dl l0 r0) (dl (lvs (scL (dl (lvs (Bool.rec [] (lone (gInt ((x.getD x1.toNat []).getD 0 .top)) (1)) (vok (gInt ((x.getD x1.toNat []).getD 0 .top))))) (lrs (Bool.rec [] (lone (gInt ((x.getD x1.toNat []).getD 0 .top)) (1)) (vok (gInt ((x.getD x1.toNat []).getD 0 .top)))))) (0) (N (4294967296) (rv (gStr ((x.getD x1.toNat []).getD 1 .top)))))) (lrs (scL (dl (lvs (Bool.rec [] (lone (gInt ((x.getD x1.toNat []).getD 0 .top)) (1)) (vok (gInt ((x.getD x1.toNat []).getD 0 .top))))) (lrs (Bool.rec [] (lone (gInt ((x.getD x1.toNat []).getD 0 .top)) (1)) (vok (gInt ((x.getD x1.toNat []).getD 0 .top)))))) (0) (N (4294967296) (rv (gStr ((x.getD x1.toNat []).getD 1 .top))))))) (num (4294967296) b0 l1) (N (4294967296) (scC (dl (lvs (Bool.rec [] (lone (gInt ((x.getD x1.toNat []).getD 0 .top)) (1)) (vok (gInt ((x.getD x1.toNat []).getD 0 .top))))) (lrs (Bool.rec [] (lone (gInt ((x.getD x1.toNat []).getD 0 .top)) (1)) (vok (gInt ((x.getD x1.toNat []).getD 0 .top)))))) (0) (N (4294967296) (rv (gStr ((x.getD x1.toNat []).getD 1 .top))))))))) else some (.normal, st0 x s (IntKind.i64.wrap (x1 + 1)) (lvs (addL (dl l0 r0) (dl (lvs (scL (dl (lvs (Bool.rec [] (lone (gInt ((x.getD x1.toNat []).getD 0 .top)) (1)) (vok (gInt ((x.getD x1.toNat []).getD 0 .top))))) (lrs (Bool.rec [] (lone (gInt ((x.getD x1.toNat []).getD 0 .top)) (1)) (vok (gInt ((x.getD x1.toNat []).getD 0 .top)))))) (0) (N (4294967296) (rv (gStr ((x.getD x1.toNat []).getD 1 .top)))))) (lrs (scL (dl (lvs (Bool.rec [] (lone (gInt ((x.getD x1.toNat []).getD 0 .top)) (1)) (vok (gInt ((x.getD x1.toNat []).getD 0 .top))))) (lrs (Bool.rec [] (lone (gInt ((x.getD x1.toNat []).getD 0 .top)) (1)) (vok (gInt ((x.getD x1.toNat []).getD 0 .top)))))) (0) (N (4294967296) (rv (gStr ((x.getD x1.toNat []).getD 1 .top))))))) (num (4294967296) b0 l1) (N (4294967296) (scC (dl (lvs (Bool.rec [] (lone (gInt ((x.getD x1.toNat []).getD 0 .top)) (1)) (vok (gInt ((x.getD x1.toNat []).getD 0 .top))))) (lrs (Bool.rec [] (lone (gInt ((x.getD x1.toNat []).getD 0 .top)) (1)) (vok (gInt ((x.getD x1.toNat []).getD 0 .top)))))) (0) (N (4294967296) (rv (gStr ((x.getD x1.toNat []).getD 1 .top)))))))) (lrs (addL (dl l0 r0) (dl (lvs (scL (dl (lvs (Bool.rec [] (lone (gInt ((x.getD x1.toNat []).getD 0 .top)) (1)) (vok (gInt ((x.getD x1.toNat []).getD 0 .top))))) (lrs (Bool.rec [] (lone (gInt ((x.getD x1.toNat []).getD 0 .top)) (1)) (vok (gInt ((x.getD x1.toNat []).getD 0 .top)))))) (0) (N (4294967296) (rv (gStr ((x.getD x1.toNat []).getD 1 .top)))))) (lrs (scL (dl (lvs (Bool.rec [] (lone (gInt ((x.getD x1.toNat []).getD 0 .top)) (1)) (vok (gInt ((x.getD x1.toNat []).getD 0 .top))))) (lrs (Bool.rec [] (lone (gInt ((x.getD x1.toNat []).getD 0 .top)) (1)) (vok (gInt ((x.getD x1.toNat []).getD 0 .top)))))) (0) (N (4294967296) (rv (gStr ((x.getD x1.toNat []).getD 1 .top))))))) (num (4294967296) b0 l1) (N (4294967296) (scC (dl (lvs (Bool.rec [] (lone (gInt ((x.getD x1.toNat []).getD 0 .top)) (1)) (vok (gInt ((x.getD x1.toNat []).getD 0 .top))))) (lrs (Bool.rec [] (lone (gInt ((x.getD x1.toNat []).getD 0 .top)) (1)) (vok (gInt ((x.getD x1.toNat []).getD 0 .top)))))) (0) (N (4294967296) (rv (gStr ((x.getD x1.toNat []).getD 1 .top)))))))) (sg (addC (dl l0 r0) (dl (lvs (scL (dl (lvs (Bool.rec [] (lone (gInt ((x.getD x1.toNat []).getD 0 .top)) (1)) (vok (gInt ((x.getD x1.toNat []).getD 0 .top))))) (lrs (Bool.rec [] (lone (gInt ((x.getD x1.toNat []).getD 0 .top)) (1)) (vok (gInt ((x.getD x1.toNat []).getD 0 .top)))))) (0) (N (4294967296) (rv (gStr ((x.getD x1.toNat []).getD 1 .top)))))) (lrs (scL (dl (lvs (Bool.rec [] (lone (gInt ((x.getD x1.toNat []).getD 0 .top)) (1)) (vok (gInt ((x.getD x1.toNat []).getD 0 .top))))) (lrs (Bool.rec [] (lone (gInt ((x.getD x1.toNat []).getD 0 .top)) (1)) (vok (gInt ((x.getD x1.toNat []).getD 0 .top)))))) (0) (N (4294967296) (rv (gStr ((x.getD x1.toNat []).getD 1 .top))))))) (num (4294967296) b0 l1) (N (4294967296) (scC (dl (lvs (Bool.rec [] (lone (gInt ((x.getD x1.toNat []).getD 0 .top)) (1)) (vok (gInt ((x.getD x1.toNat []).getD 0 .top))))) (lrs (Bool.rec [] (lone (gInt ((x.getD x1.toNat []).getD 0 .top)) (1)) (vok (gInt ((x.getD x1.toNat []).getD 0 .top)))))) (0) (N (4294967296) (rv (gStr ((x.getD x1.toNat []).getD 1 .top)))))))) (lb (4294967296) (addC (dl l0 r0) (dl (lvs (scL (dl (lvs (Bool.rec [] (lone (gInt ((x.getD x1.toNat []).getD 0 .top)) (1)) (vok (gInt ((x.getD x1.toNat []).getD 0 .top))))) (lrs (Bool.rec [] (lone (gInt ((x.getD x1.toNat []).getD 0 .top)) (1)) (vok (gInt ((x.getD x1.toNat []).getD 0 .top)))))) (0) (N (4294967296) (rv (gStr ((x.getD x1.toNat []).getD 1 .top)))))) (lrs (scL (dl (lvs (Bool.rec [] (lone (gInt ((x.getD x1.toNat []).getD 0 .top)) (1)) (vok (gInt ((x.getD x1.toNat []).getD 0 .top))))) (lrs (Bool.rec [] (lone (gInt ((x.getD x1.toNat []).getD 0 .top)) (1)) (vok (gInt ((x.getD x1.toNat []).getD 0 .top)))))) (0) (N (4294967296) (rv (gStr ((x.getD x1.toNat []).getD 1 .top))))))) (num (4294967296) b0 l1) (N (4294967296) (scC (dl (lvs (Bool.rec [] (lone (gInt ((x.getD x1.toNat []).getD 0 .top)) (1)) (vok (gInt ((x.getD x1.toNat []).getD 0 .top))))) (lrs (Bool.rec [] (lone (gInt ((x.getD x1.toNat []).getD 0 .top)) (1)) (vok (gInt ((x.getD x1.toNat []).getD 0 .top)))))) (0) (N (4294967296) (rv (gStr ((x.getD x1.toNat []).getD 1 .top)))))))))) else none) else none)) else none)) else none) else none) else some (.exit 0, st0 x s x1 l0 r0 b0 l1)) := by kernel_rfl
-- loop 0 ends ret st0x0 x s x2 x1 l0 r0 b0 l1
-- loop 0 ends exit0 st0 x s x1 l0 r0 b0 l1
-- loop 0 ends ret st0x1 x s
-- loop 0 ends ret st0x2 x s
-- loop 0 ends exit0 st0e x s
theorem rest_0 (x : List (List AV)) (s : ByteArray) (x3 : Int) (x4 : Int) (l2 : List Int) (r1 : List (List AV)) (b1 : Bool) (l3 : List Int) : runT T orc (tabOf T orc [(8, 60458903645984008203565024201108047226079202216835569304044148288175646339773922611752686, .ret, st0x0 x s x3 x4 l2 r1 b1 l3)]) Try.f15 [.agg [.rows 2 x, .str s]] =
    (bif decide ((↑x.length : Int) > 4096) then some (.val (.tup [.agg [.ints .i64 [], .rows 2 [], .bool false, .ints .u32 [], .bool false, .ints .u32 []], .int .i64 (2)])) else (bif decide (s.size ≤ 10000) then (bif re s != 0 then some (.val (.tup [.agg [.ints .i64 [], .rows 2 [], .bool false, .ints .u32 [], .bool false, .ints .u32 []], .int .i64 (re s)])) else (bif cdec (Ends T orc L0 D0 (st0e x s) .ret (st0x0 x s x3 x4 l2 r1 b1 l3)) then some (.val (.tup [.agg [.ints .i64 [], .rows 2 [], .bool false, .ints .u32 [], .bool false, .ints .u32 []], .int .i64 x3])) else none)) else none)) := by kernel_rfl
theorem rest_1 (x : List (List AV)) (s : ByteArray) (l4 : List Int) (r2 : List (List AV)) (b2 : Bool) (l5 : List Int) (x5 : Int) : runT T orc (tabOf T orc [(8, 60458903645984008203565024201108047226079202216835569304044148288175646339773922611752686, .exit 0, st0 x s x5 l4 r2 b2 l5)]) Try.f15 [.agg [.rows 2 x, .str s]] =
    (bif decide ((↑x.length : Int) > 4096) then some (.val (.tup [.agg [.ints .i64 [], .rows 2 [], .bool false, .ints .u32 [], .bool false, .ints .u32 []], .int .i64 (2)])) else (bif decide (s.size ≤ 10000) then (bif re s != 0 then some (.val (.tup [.agg [.ints .i64 [], .rows 2 [], .bool false, .ints .u32 [], .bool false, .ints .u32 []], .int .i64 (re s)])) else (bif cdec (Ends T orc L0 D0 (st0e x s) (.exit 0) (st0 x s x5 l4 r2 b2 l5)) then some (.val (.tup [.agg [.ints .i64 l4, .rows 2 r2, .bool b2, .ints .u32 l5, .bool (sg (rv s)), .ints .u32 (lb (4294967296) (rv s))], .int .i64 (0)])) else none)) else none)) := by kernel_rfl
theorem rest_2 (x : List (List AV)) (s : ByteArray) : runT T orc (tabOf T orc [(8, 60458903645984008203565024201108047226079202216835569304044148288175646339773922611752686, .ret, st0x1 x s)]) Try.f15 [.agg [.rows 2 x, .str s]] =
    (bif decide ((↑x.length : Int) > 4096) then some (.val (.tup [.agg [.ints .i64 [], .rows 2 [], .bool false, .ints .u32 [], .bool false, .ints .u32 []], .int .i64 (2)])) else (bif decide (s.size ≤ 10000) then (bif re s != 0 then some (.val (.tup [.agg [.ints .i64 [], .rows 2 [], .bool false, .ints .u32 [], .bool false, .ints .u32 []], .int .i64 (re s)])) else (bif cdec (Ends T orc L0 D0 (st0e x s) .ret (st0x1 x s)) then some (.val (.tup [.agg [.ints .i64 [], .rows 2 [], .bool false, .ints .u32 [], .bool false, .ints .u32 []], .int .i64 (vE (gInt ((x.getD 0 []).getD 0 .top)))])) else none)) else none)) := by kernel_rfl
theorem rest_3 (x : List (List AV)) (s : ByteArray) : runT T orc (tabOf T orc [(8, 60458903645984008203565024201108047226079202216835569304044148288175646339773922611752686, .ret, st0x2 x s)]) Try.f15 [.agg [.rows 2 x, .str s]] =
    (bif decide ((↑x.length : Int) > 4096) then some (.val (.tup [.agg [.ints .i64 [], .rows 2 [], .bool false, .ints .u32 [], .bool false, .ints .u32 []], .int .i64 (2)])) else (bif decide (s.size ≤ 10000) then (bif re s != 0 then some (.val (.tup [.agg [.ints .i64 [], .rows 2 [], .bool false, .ints .u32 [], .bool false, .ints .u32 []], .int .i64 (re s)])) else (bif cdec (Ends T orc L0 D0 (st0e x s) .ret (st0x2 x s)) then some (.val (.tup [.agg [.ints .i64 [], .rows 2 [], .bool false, .ints .u32 [], .bool false, .ints .u32 []], .int .i64 (re (gStr ((x.getD 0 []).getD 1 .top)))])) else none)) else none)) := by kernel_rfl
theorem rest_4 (x : List (List AV)) (s : ByteArray) : runT T orc (tabOf T orc [(8, 60458903645984008203565024201108047226079202216835569304044148288175646339773922611752686, .exit 0, st0e x s)]) Try.f15 [.agg [.rows 2 x, .str s]] =
    (bif decide ((↑x.length : Int) > 4096) then some (.val (.tup [.agg [.ints .i64 [], .rows 2 [], .bool false, .ints .u32 [], .bool false, .ints .u32 []], .int .i64 (2)])) else (bif decide (s.size ≤ 10000) then (bif re s != 0 then some (.val (.tup [.agg [.ints .i64 [], .rows 2 [], .bool false, .ints .u32 [], .bool false, .ints .u32 []], .int .i64 (re s)])) else (bif cdec (Ends T orc L0 D0 (st0e x s) (.exit 0) (st0e x s)) then some (.val (.tup [.agg [.ints .i64 [], .rows 2 [], .bool false, .ints .u32 [], .bool (sg (rv s)), .ints .u32 (lb (4294967296) (rv s))], .int .i64 (0)])) else none)) else none)) := by kernel_rfl
end NRead
namespace NTight
abbrev ans : Ans := [(25, ansLCommon), (57, ansCmp), (61, ansFrom), (67, ansDiv), (68, ansLPut)]
abbrev orc : Orc := orcOf ans
noncomputable def L0 : Code := lp Try.f22 0
theorem isL0 : ∃ a, L0 = .loop a := ⟨_, rfl⟩
abbrev D0 : List Nat := [0, 1, 2, 3, 4, 10, 11, 12, 13, 14, 15, 16, 18, 19, 20, 21, 22]
abbrev st0 (vs : List Int) (r : List (List AV)) (b : Bool) (m : List Int) (s : Bool) (l : List Int) (x0 : Int) (l0 : List Int) (r0 : List (List AV)) : St := ⟨.agg [.ints .i64 vs, .rows 2 r, .bool b, .ints .u32 m, .bool s, .ints .u32 l] :: .ptr 1 0 0 :: .ptr 2 0 0 :: .ptr 3 0 0 :: .ptr 4 0 0 :: tops 5 (.ptr 1 0 0 :: .agg [.ints .i64 vs, .rows 2 r, .bool b, .ints .u32 m] :: R (gcdL (dl vs r)) :: R (gcdL (dl vs r)) :: .agg [.bool false, .ints .u32 (lb (4294967296) (1))] :: .int .i64 (cmpZ (N (4294967296) (gcdL (dl vs r))) (num (4294967296) false (lb (4294967296) (1)))) :: .bool (decide (cmpZ (N (4294967296) (gcdL (dl vs r))) (num (4294967296) false (lb (4294967296) (1))) ≤ 0)) :: tops 1 (.ptr 1 0 0 :: .ptr 1 0 0 :: .ints .i64 vs :: .int .i64 (↑vs.length : Int) :: .int .i64 x0 :: tops 31 ([]))), nos 1 (varE [(false, .ints .i64 vs), (false, .rows 2 r), (false, .bool b), (false, .ints .u32 m), (false, .bool s), (false, .ints .u32 l)] :: varE [(true, .ints .i64 []), (true, .rows 2 []), (false, .bool false), (true, .ints .u32 []), (false, .bool false), (true, .ints .u32 [])] :: varE [(false, .bool (sg (gcdL (dl vs r)))), (false, .ints .u32 (lb (4294967296) (gcdL (dl vs r))))] :: varE [(true, .ints .i64 l0), (true, .rows 2 r0), (false, .bool false), (true, .ints .u32 []), (false, .bool false), (true, .ints .u32 [])] :: nos 49 ([]))⟩
theorem round0 (vs : List Int) (r : List (List AV)) (b : Bool) (m : List Int) (s : Bool) (l : List Int) (x0 : Int) (l0 : List Int) (r0 : List (List AV)) : goL T orc (noTab) D0 L0 (st0 vs r b m s l x0 l0 r0) =
    (bif decide (x0 < (↑vs.length : Int)) then (bif inB x0 vs.length then (bif inB x0 r.length then (bif etasOk [.bool false, .ints .u32 []] (r.getD x0.toNat []) then (bif cn (4294967296) (gBool ((r.getD x0.toNat []).getD 0 .top)) (gInts ((r.getD x0.toNat []).getD 1 .top)) && cn (4294967296) (sg (gcdL (dl vs r))) (lb (4294967296) (gcdL (dl vs r))) then (bif cn (4294967296) (sg (dq (num (4294967296) (gBool ((r.getD x0.toNat []).getD 0 .top)) (gInts ((r.getD x0.toNat []).getD 1 .top))) (N (4294967296) (gcdL (dl vs r))))) (lb (4294967296) (dq (num (4294967296) (gBool ((r.getD x0.toNat []).getD 0 .top)) (gInts ((r.getD x0.toNat []).getD 1 .top))) (N (4294967296) (gcdL (dl vs r))))) && decide (l0.length ≤ 100000) && decide (r0.length ≤ 100000) && true && true then some (.normal, st0 vs r b m s l (IntKind.i64.wrap (x0 + 1)) (putV (N (4294967296) (dq (num (4294967296) (gBool ((r.getD x0.toNat []).getD 0 .top)) (gInts ((r.getD x0.toNat []).getD 1 .top))) (N (4294967296) (gcdL (dl vs r))))) l0 (rd vs x0)) (putR (N (4294967296) (dq (num (4294967296) (gBool ((r.getD x0.toNat []).getD 0 .top)) (gInts ((r.getD x0.toNat []).getD 1 .top))) (N (4294967296) (gcdL (dl vs r))))) r0 [.bool (sg (dq (num (4294967296) (gBool ((r.getD x0.toNat []).getD 0 .top)) (gInts ((r.getD x0.toNat []).getD 1 .top))) (N (4294967296) (gcdL (dl vs r))))), .ints .u32 (lb (4294967296) (dq (num (4294967296) (gBool ((r.getD x0.toNat []).getD 0 .top)) (gInts ((r.getD x0.toNat []).getD 1 .top))) (N (4294967296) (gcdL (dl vs r)))))])) else none) else none) else none) else none) else none) else some (.exit 0, st0 vs r b m s l x0 l0 r0)) := by kernel_rfl
-- loop 0 ends exit0 st0 vs r b m s l x0 l0 r0
theorem rest (vs : List Int) (r : List (List AV)) (b : Bool) (m : List Int) (s : Bool) (l : List Int) (l1 : List Int) (r1 : List (List AV)) (x1 : Int) : runT T orc (tabOf T orc [(6, 50023372020407860542733940905981293513040552842377359224063586030, .exit 0, st0 vs r b m s l x1 l1 r1)]) Try.f22 [.agg [.ints .i64 vs, .rows 2 r, .bool b, .ints .u32 m, .bool s, .ints .u32 l]] =
    (bif isl vs r then (bif cn (4294967296) (sg (gcdL (dl vs r))) (lb (4294967296) (gcdL (dl vs r))) && true then (bif decide (cmpZ (N (4294967296) (gcdL (dl vs r))) (num (4294967296) false (lb (4294967296) (1))) ≤ 0) then some (.val (.agg [.ints .i64 vs, .rows 2 r, .bool b, .ints .u32 m, .bool s, .ints .u32 l])) else (bif cdec (Ends T orc L0 D0 (st0 vs r b m s l (0) ([]) ([])) (.exit 0) (st0 vs r b m s l x1 l1 r1)) then (bif cn (4294967296) s l && cn (4294967296) (sg (gcdL (dl vs r))) (lb (4294967296) (gcdL (dl vs r))) then some (.val (.agg [.ints .i64 l1, .rows 2 r1, .bool false, .ints .u32 [], .bool (sg (dq (num (4294967296) s l) (N (4294967296) (gcdL (dl vs r))))), .ints .u32 (lb (4294967296) (dq (num (4294967296) s l) (N (4294967296) (gcdL (dl vs r)))))])) else none) else none)) else none) else none) := by kernel_rfl
end NTight
end
end Go.Abs
end
section
/- What linear's functions answer: a row that is read, a row made tight. -/
namespace Go.Abs
open Go.Proofs Go.Dig
/-- A loop's first round, and what follows. -/
theorem loop_first {T : Tbl} {orc : Orc} {L : Code} {D : List Nat} {S : St} {y : Option (Ex × St)} {tab : Tab} (Q : Ex → St → Prop) (hL : ∃ a, L = .loop a) (ht : ∀ C, TabOk T orc tab C) (h : goL T orc tab D L S = y)
    (hy : Lands y (fun e S' => match e with | .normal => ∃ e S1, Ends T orc L D S' e S1 ∧ Q e S1 | e => Q e S')) : ∃ e S1, Ends T orc L D S e S1 ∧ Q e S1 := by
  obtain ⟨a, rfl⟩ := hL
  obtain ⟨e, S', rfl, h2⟩ := hy
  cases e with
  | normal =>
    obtain ⟨e, S1, h3, h4⟩ := h2
    exact ⟨e, S1, ends_next (ht _) h h3, h4⟩
  | exit i => exact ⟨_, S', ends_exit (ht _) h, h2⟩
  | ret => exact ⟨_, S', ends_ret (ht _) h, h2⟩
theorem cP0 (p : Int × ByteArray) : gInt ((cP p).getD 0 .top) = p.1 := rfl
theorem cP1 (p : Int × ByteArray) : gStr ((cP p).getD 1 .top) = p.2 := rfl
theorem cPeta (p : Int × ByteArray) : etasOk [.int .i64 0, .str { data := #[] }] (cP p) = true := rfl
theorem dl_nil : dl [] [] = [] := dl_map []
theorem isT_nil : isT [] [] false [] = true := isT_row (isl_iff.2 ⟨[], okL_nil, rfl, rfl⟩)
theorem scale_lone (v : Int) {k : Int} (hk : fits k = true) : scE (lone v 1) 0 k = 0 ∧ scL (lone v 1) 0 k = lone v k ∧ scC (lone v 1) 0 k = 0 := by
  have hz : ∀ w, cf (lone v 1) w * k = if (0 ≤ v ∧ v < 4096) ∧ w = v then k else 0 := fun w => by
    rw [cf_lone]; split
    · exact Int.one_mul k
    · exact Int.zero_mul k
  rcases scE_cases (lone v 1) 0 k with ⟨e1, e2, e3, _⟩ | ⟨_, _, _, e4⟩
  · refine ⟨e1, ?_, by rw [e3, Int.zero_mul]⟩
    rw [e2]
    have h1 : okL (lone v k) := okL_lone v hk
    refine (ofF_congr (fun w h1 h2 => ?_)).trans (okL_canon h1).symm
    rw [hz, cf_lone]
  · refine absurd ⟨by rw [Int.zero_mul]; exact fits0, fun w => ?_⟩ e4
    rw [hz]; split
    · exact hk
    · exact fits0
theorem addC_zero (l m : List (Int × Int)) : addC l m 0 0 = 0 := by
  rcases addE_cases l m 0 0 with ⟨_, _, h, _⟩ | ⟨_, _, h, _⟩ <;> rw [h]
  rfl
theorem rdF_drop {ms : List (Int × ByteArray)} {i : Nat} (hi : i < ms.length) (q : List (Int × Int)) : rdF q (ms.drop i) = bif !(vE ms[i].1 == 0) then (vE ms[i].1, []) else bif !(re ms[i].2 == 0) then (re ms[i].2, []) else bif addE q (lone ms[i].1 (rv ms[i].2)) 0 0 == 0 then rdF (addL q (lone ms[i].1 (rv ms[i].2)) 0 0) (ms.drop (i + 1)) else (addE q (lone ms[i].1 (rv ms[i].2)) 0 0, []) := by
  rw [List.drop_eq_getElem_cons hi]; rfl
theorem vE_cases (v : Int) : (vok v = true ∧ vE v = 0) ∨ (vok v = false ∧ vE v = 30) := by
  unfold vE
  cases vok v with
  | true => exact .inl ⟨rfl, rfl⟩
  | false => exact .inr ⟨rfl, rfl⟩
namespace NRead
def Post (ms : List (Int × ByteArray)) (s : ByteArray) (e : Ex) (S1 : St) : Prop :=
  (e = .exit 0 ∧ ∃ q, okL q ∧ rdF [] ms = (0, q) ∧ ((∃ x, S1 = st0 (ms.map cP) s x (lvs q) (lrs q) false []) ∨ (q = [] ∧ S1 = st0e (ms.map cP) s))) ∨
  (e = .ret ∧ ∃ n, n ≠ 0 ∧ rdF [] ms = (n, []) ∧ ((∃ x l r b l', S1 = st0x0 (ms.map cP) s n x l r b l') ∨ (n = vE (gInt (((ms.map cP).getD 0 []).getD 0 .top)) ∧ S1 = st0x1 (ms.map cP) s) ∨ (n = re (gStr (((ms.map cP).getD 0 []).getD 1 .top)) ∧ S1 = st0x2 (ms.map cP) s)))
theorem loop (ms : List (Int × ByteArray)) (s : ByteArray) (hm : ∀ p ∈ ms, p.2.size ≤ 10000) (hlen : ms.length ≤ 4096) (i0 : Nat) (q0 : List (Int × Int)) (h0 : i0 ≤ ms.length) (hq0 : okL q0) (hr0 : rdF q0 (ms.drop i0) = rdF [] ms) : ∃ e S1, Ends T orc L0 D0 (st0 (ms.map cP) s i0 (lvs q0) (lrs q0) false []) e S1 ∧ Post ms s e S1 := by
  refine loop_inv2 (fun (i : Nat) (q : List (Int × Int)) => st0 (ms.map cP) s i (lvs q) (lrs q) false []) (fun i q => i ≤ ms.length ∧ okL q ∧ rdF q (ms.drop i) = rdF [] ms) (fun i q => ms.length - i)
    (Post ms s) isL0 ?_ i0 q0 ⟨h0, hq0, hr0⟩
  intro i q ⟨h1, h2, h3⟩
  refine ⟨noTab, noTab_all, lands_of (round0 ..) ?_⟩
  by_cases hi : i < ms.length
  · have hsz := hm _ (List.getElem_mem hi)
    rw [rdF_drop hi] at h3
    rw [List.length_map, ltN hi, inN hi, getP hi]
    simp only [cP0, cP1, cPeta, cond_true, hsz, decide_true]
    rcases vE_cases ms[i].1 with ⟨v1, v2⟩ | ⟨v1, v2⟩
    · rw [v2] at h3
      rw [v2, v1]
      by_cases he : re ms[i].2 = 0
      · rw [he] at h3
        have hfr := fits_rv ms[i].2
        obtain ⟨s1, s2, s3⟩ := scale_lone ms[i].1 hfr
        rw [he]
        simp only [bne_self_eq_false, cond_true, cond_false, isT_of0 (okL_lone ms[i].1 (show fits 1 = true from by kernel_rfl)), cnW_fits hfr, N_eq, hfr, Bool.and_self, dl_lvs, s1, s2, s3, isT_of0 h2, isT_of (okL_lone ms[i].1 hfr) fits0, num_zero]
        have h3 : (bif addE q (lone ms[i].1 (rv ms[i].2)) 0 0 == 0 then rdF (addL q (lone ms[i].1 (rv ms[i].2)) 0 0) (ms.drop (i + 1)) else (addE q (lone ms[i].1 (rv ms[i].2)) 0 0, [])) = rdF [] ms := h3
        rcases addE_cases q (lone ms[i].1 (rv ms[i].2)) 0 0 with ⟨a1, _⟩ | ⟨a1, _⟩
        · rw [a1] at h3
          rw [a1, addC_zero]
          simp only [bne_self_eq_false, cond_false, wi_succ (show i < 4611686018427387904 by omega), lands_some, Turns2]
          exact ⟨i + 1, addL q (lone ms[i].1 (rv ms[i].2)) 0 0, rfl, ⟨by omega, okL_add _ _ _ _, h3⟩, by omega⟩
        · rw [a1] at h3
          rw [a1]
          simp only [show ((11 : Int) != 0) = true from rfl, cond_true, lands_some, Turns2]
          exact .inr ⟨rfl, 11, by decide, h3.symm, .inl ⟨i, _, _, _, _, rfl⟩⟩
      · rw [show (re ms[i].2 == 0) = false from beq_eq_false_iff_ne.2 he] at h3
        rw [ne_b he]
        simp only [bne_self_eq_false, cond_true, cond_false, lands_some, Turns2]
        exact .inr ⟨rfl, re ms[i].2, he, h3.symm, .inl ⟨i, _, _, _, _, rfl⟩⟩
    · rw [v2] at h3
      rw [v2]
      simp only [show ((30 : Int) != 0) = true from rfl, cond_true, lands_some, Turns2]
      exact .inr ⟨rfl, 30, by decide, h3.symm, .inl ⟨i, _, _, _, _, rfl⟩⟩
  · have hd : ms.drop i = [] := List.drop_of_length_le (by omega)
    rw [hd] at h3
    rw [List.length_map, ltN' hi]
    simp only [cond_false, lands_some, Turns2]
    exact .inl ⟨rfl, q, h2, h3.symm, .inl ⟨i, rfl⟩⟩
theorem first (ms : List (Int × ByteArray)) (s : ByteArray) (hm : ∀ p ∈ ms, p.2.size ≤ 10000) (hlen : ms.length ≤ 4096) : ∃ e S1, Ends T orc L0 D0 (st0e (ms.map cP) s) e S1 ∧ Post ms s e S1 := by
  refine loop_first (Post ms s) isL0 noTab_all (round0e ..) ?_
  by_cases hi : 0 < ms.length
  · have hsz := hm _ (List.getElem_mem hi)
    have h3 : rdF [] ms = _ := rdF_drop hi []
    have hget : (ms.map cP).getD 0 [] = cP ms[0] := getP hi
    rw [List.length_map, show decide ((0 : Int) < (ms.length : Int)) = true from decide_eq_true (by omega), show inB 0 ms.length = true from inN hi, hget]
    simp only [cP0, cP1, cPeta, cond_true, hsz, decide_true]
    rcases vE_cases ms[0].1 with ⟨v1, v2⟩ | ⟨v1, v2⟩
    · rw [v2] at h3
      rw [v2, v1]
      by_cases he : re ms[0].2 = 0
      · rw [he] at h3
        have hfr := fits_rv ms[0].2
        obtain ⟨s1, s2, s3⟩ := scale_lone ms[0].1 hfr
        rw [he]
        simp only [bne_self_eq_false, cond_true, cond_false, isT_of0 (okL_lone ms[0].1 (show fits 1 = true from by kernel_rfl)), cnW_fits hfr, N_eq, hfr, Bool.and_self, dl_lvs, s1, s2, s3, dl_nil, isT_nil, isT_of (okL_lone ms[0].1 hfr) fits0, num_zero]
        have h3 : rdF [] ms = (bif addE [] (lone ms[0].1 (rv ms[0].2)) 0 0 == 0 then rdF (addL [] (lone ms[0].1 (rv ms[0].2)) 0 0) (ms.drop (0 + 1)) else (addE [] (lone ms[0].1 (rv ms[0].2)) 0 0, [])) := h3
        rcases addE_cases [] (lone ms[0].1 (rv ms[0].2)) 0 0 with ⟨a1, _⟩ | ⟨a1, _⟩
        · rw [a1] at h3
          rw [a1, addC_zero]
          simp only [bne_self_eq_false, cond_false, lands_some]
          exact loop ms s hm hlen 1 (addL [] (lone ms[0].1 (rv ms[0].2)) 0 0) hi (okL_add _ _ _ _) h3.symm
        · rw [a1] at h3
          rw [a1]
          simp only [show ((11 : Int) != 0) = true from rfl, cond_true, lands_some]
          exact .inr ⟨rfl, 11, by decide, h3, .inl ⟨0, _, _, _, _, rfl⟩⟩
      · rw [show (re ms[0].2 == 0) = false from beq_eq_false_iff_ne.2 he] at h3
        rw [ne_b he]
        simp only [bne_self_eq_false, cond_true, cond_false, lands_some]
        refine .inr ⟨rfl, re ms[0].2, he, h3, .inr (.inr ⟨?_, rfl⟩)⟩
        rw [hget]
        rfl
    · rw [v2] at h3
      rw [v2]
      simp only [show ((30 : Int) != 0) = true from rfl, cond_true, lands_some]
      refine .inr ⟨rfl, 30, by decide, h3, .inr (.inl ⟨?_, rfl⟩)⟩
      rw [hget]
      exact v2.symm
  · have hd : ms = [] := List.eq_nil_of_length_eq_zero (by omega)
    subst hd
    rw [show decide ((0 : Int) < (([] : List (Int × ByteArray)).map cP).length) = false from rfl]
    simp only [cond_false, lands_some]
    exact .inl ⟨rfl, [], okL_nil, rfl, .inr ⟨rfl, rfl⟩⟩
end NRead
theorem okL_rdF : ∀ (ms : List (Int × ByteArray)) (q : List (Int × Int)), okL q → okL (rdF q ms).2
  | [], q, h => h
  | (v, s) :: r, q, h => by
    show okL (bif !(vE v == 0) then (vE v, []) else bif !(re s == 0) then (re s, []) else bif addE q (lone v (rv s)) 0 0 == 0 then rdF (addL q (lone v (rv s)) 0 0) r else (addE q (lone v (rv s)) 0 0, [])).2
    cases !(vE v == 0) with
    | true => exact okL_nil
    | false =>
      cases !(re s == 0) with
      | true => exact okL_nil
      | false =>
        cases addE q (lone v (rv s)) 0 0 == 0 with
        | true => exact okL_rdF r _ (okL_add _ _ _ _)
        | false => exact okL_nil
theorem okL_rd (ms : List (Int × ByteArray)) (s : ByteArray) : okL (rdL ms s) := by
  rw [rdL_eq]
  cases rdE ms s == 0 with
  | true => exact okL_rdF ms [] okL_nil
  | false => exact okL_nil
/-- What is read, case by case. -/
theorem rd_cases (ms : List (Int × ByteArray)) (s : ByteArray) : (ms.length > 4096 ∧ rdE ms s = 2 ∧ rdL ms s = [] ∧ rdM ms s = 0) ∨ (ms.length ≤ 4096 ∧ re s ≠ 0 ∧ rdE ms s = re s ∧ rdL ms s = [] ∧ rdM ms s = 0) ∨
    (ms.length ≤ 4096 ∧ re s = 0 ∧ rdE ms s = (rdF [] ms).1 ∧ (((rdF [] ms).1 = 0 ∧ rdL ms s = (rdF [] ms).2 ∧ rdM ms s = rv s) ∨ ((rdF [] ms).1 ≠ 0 ∧ rdL ms s = [] ∧ rdM ms s = 0))) := by
  have hE := rdE_eq ms s
  have hL := rdL_eq ms s
  have hM := rdM_eq ms s
  by_cases h1 : ms.length > 4096
  · rw [decide_eq_true h1] at hE
    have hE : rdE ms s = 2 := hE
    rw [hE] at hL hM
    exact .inl ⟨h1, hE, hL, hM⟩
  · rw [decide_eq_false h1, cond_false] at hE
    by_cases h2 : re s = 0
    · rw [h2] at hE
      have hE : rdE ms s = (rdF [] ms).1 := hE
      refine .inr (.inr ⟨by omega, h2, hE, ?_⟩)
      rw [hE] at hL hM
      by_cases h3 : (rdF [] ms).1 = 0
      · rw [h3] at hL hM
        exact .inl ⟨h3, hL, hM⟩
      · rw [show ((rdF [] ms).1 == 0) = false from beq_eq_false_iff_ne.2 h3] at hL hM
        exact .inr ⟨h3, hL, hM⟩
    · have hb : (re s == 0) = false := beq_eq_false_iff_ne.2 h2
      rw [hb] at hE
      have hE : rdE ms s = re s := hE
      rw [hE, hb] at hL hM
      exact .inr (.inl ⟨by omega, h2, hE, hL, hM⟩)
theorem meets_nread (hadd : Meets Try.prog 46 ansLAdd) : Meets Try.prog 15 ansLRead := by
  refine meets_fn (orc_ok (l := NRead.ans) ⟨meets_parse, meets_nvar, meets_nscale, hadd, trivial⟩) Try.f15 Try.func15 (by kernel_rfl) (fun args r h => ?_)
  unfold ansLRead at h
  split at h
  · rename_i x s
    simp only [Option.some.injEq, Prod.mk.injEq, Bool.and_eq_true, Bool.or_eq_true, decide_eq_true_eq] at h
    obtain ⟨⟨⟨h1, h2⟩, h3⟩, rfl⟩ := h
    obtain ⟨ms, _, rfl⟩ := isq_iff.1 h2
    rw [dp_map]
    rw [List.length_map] at h3
    rcases rd_cases ms s with ⟨c1, c2, c3, c4⟩ | ⟨c1, c0, c2, c3, c4⟩ | ⟨c1, c0, c2, c3⟩
    · rw [c2, c3, c4, lvs_nil, lrs_nil]
      refine ⟨rfl, _, tabOf_all _, (NRead.rest_4 (ms.map cP) s).trans (bT ?_)⟩
      rw [List.length_map, decide_eq_true_eq]; omega
    · rw [c2, c3, c4, lvs_nil, lrs_nil]
      refine ⟨rfl, _, tabOf_all _, (NRead.rest_4 (ms.map cP) s).trans ((bF ?_).trans ((bT (decide_eq_true h1)).trans (bT (ne_b c0))))⟩
      rw [List.length_map, decide_eq_false_iff_not]; omega
    · have hg : decide (((ms.map cP).length : Int) > 4096) = false := by rw [List.length_map, decide_eq_false_iff_not]; omega
      have hm : ∀ p ∈ ms, p.2.size ≤ 10000 := by
        rcases h3 with h3 | h3
        · omega
        · obtain ⟨ms', k1, k2⟩ := isp_iff.1 h3
          have : ms = ms' := by rw [← dp_map ms, ← dp_map ms', k2]
          subst this
          exact fun p hp => (k1 p hp).2
      obtain ⟨e1, S1, hE1, hP⟩ := NRead.first ms s hm c1
      rcases hP with ⟨rfl, q, k1, k2, ⟨x, rfl⟩ | ⟨rfl, rfl⟩⟩ | ⟨rfl, n, k1, k2, ⟨x, l, r, b, l', rfl⟩ | ⟨k3, rfl⟩ | ⟨k3, rfl⟩⟩
      · rw [k2] at c2 c3
        rcases c3 with ⟨_, c3, c4⟩ | ⟨c3, _⟩
        · rw [c2, c3, c4]
          exact ⟨rfl, _, tabOf_all _, (NRead.rest_1 (ms.map cP) s (lvs q) (lrs q) false [] x).trans ((bF hg).trans ((bT (decide_eq_true h1)).trans ((bF (eq_b c0)).trans (bT (cdec_true hE1)))))⟩
        · exact absurd rfl c3
      · rw [k2] at c2 c3
        rcases c3 with ⟨_, c3, c4⟩ | ⟨c3, _⟩
        · rw [c2, c3, c4, lvs_nil, lrs_nil]
          exact ⟨rfl, _, tabOf_all _, (NRead.rest_4 (ms.map cP) s).trans ((bF hg).trans ((bT (decide_eq_true h1)).trans ((bF (eq_b c0)).trans (bT (cdec_true hE1)))))⟩
        · exact absurd rfl c3
      · rw [k2] at c2 c3
        rcases c3 with ⟨c3, _⟩ | ⟨_, c3, c4⟩
        · exact absurd c3 k1
        · rw [c2, c3, c4, lvs_nil, lrs_nil]
          exact ⟨rfl, _, tabOf_all _, (NRead.rest_0 (ms.map cP) s n x l r b l').trans ((bF hg).trans ((bT (decide_eq_true h1)).trans ((bF (eq_b c0)).trans (bT (cdec_true hE1)))))⟩
      · rw [k2] at c2 c3
        rcases c3 with ⟨c3, _⟩ | ⟨_, c3, c4⟩
        · exact absurd c3 k1
        · rw [c2, c3, c4, lvs_nil, lrs_nil]
          exact ⟨rfl, _, tabOf_all _, (NRead.rest_2 (ms.map cP) s).trans ((bF hg).trans ((bT (decide_eq_true h1)).trans ((bF (eq_b c0)).trans ((bT (cdec_true hE1)).trans (by rw [k3]; rfl)))))⟩
      · rw [k2] at c2 c3
        rcases c3 with ⟨c3, _⟩ | ⟨_, c3, c4⟩
        · exact absurd c3 k1
        · rw [c2, c3, c4, lvs_nil, lrs_nil]
          exact ⟨rfl, _, tabOf_all _, (NRead.rest_3 (ms.map cP) s).trans ((bF hg).trans ((bT (decide_eq_true h1)).trans ((bF (eq_b c0)).trans ((bT (cdec_true hE1)).trans (by rw [k3]; rfl)))))⟩
  · cases h
theorem dq_zero (g : Int) : dq 0 g = 0 := by unfold dq; split <;> simp
theorem fits_dqz {x y : Int} (h : fits x = true) : fits (dq x y) = true := by
  unfold dq
  split
  · exact fits0
  · rename_i h0
    refine fits_le h ?_
    rcases Int.lt_trichotomy y 0 with hy | hy | hy
    · rw [show x.fdiv y = (-x).fdiv (-y) from (Int.neg_fdiv_neg x y).symm, Int.fdiv_eq_ediv_of_nonneg _ (by omega)]
      have := Int.natAbs_ediv_le_natAbs (-x) (-y)
      omega
    · exact absurd hy h0
    · rw [Int.fdiv_eq_ediv_of_nonneg _ (by omega)]
      exact Int.natAbs_ediv_le_natAbs x y
theorem okL_ti {l : List (Int × Int)} (h : okL l) : okL (tiL l) := by
  rw [tiL_eq]
  cases decide (gcdL l ≤ 1) with
  | true => exact h
  | false =>
    rw [cond_false]
    exact okL_ofF (fun v _ _ => fits_dqz (okL_cf h v))
namespace NTight
theorem loop (l : List (Int × Int)) (b : Bool) (m : List Int) (s : Bool) (ll : List Int) (hl : okL l) : ∃ e S1, Ends T orc L0 D0 (st0 (l.map (fun p => p.1)) (l.map cL) b m s ll 0 [] []) e S1 ∧ e = .exit 0 ∧ ∃ x, S1 = st0 (l.map (fun p => p.1)) (l.map cL) b m s ll x ((ofF (fun v => dq (cf l v) (gcdL l))).map (fun p => p.1)) ((ofF (fun v => dq (cf l v) (gcdL l))).map cL) := by
  have g0 : ∀ w : Int, dq 0 (gcdL l) = 0 := fun w => dq_zero _
  have hz := map_step0 (g := fun _ z => dq z (gcdL l)) g0 l
  have key : ∃ e S1, Ends T orc L0 D0 (st0 (l.map (fun p => p.1)) (l.map cL) b m s ll ((0 : Nat) : Int) ((ofF (fun v => dq (cf (l.take 0) v) (gcdL l))).map (fun p => p.1)) ((ofF (fun v => dq (cf (l.take 0) v) (gcdL l))).map cL)) e S1 ∧ e = .exit 0 ∧ ∃ x, S1 = st0 (l.map (fun p => p.1)) (l.map cL) b m s ll x ((ofF (fun v => dq (cf l v) (gcdL l))).map (fun p => p.1)) ((ofF (fun v => dq (cf l v) (gcdL l))).map cL) := by
    refine loop_inv1 (fun (i : Nat) => st0 (l.map (fun p => p.1)) (l.map cL) b m s ll i ((ofF (fun v => dq (cf (l.take i) v) (gcdL l))).map (fun p => p.1)) ((ofF (fun v => dq (cf (l.take i) v) (gcdL l))).map cL)) (fun i => i ≤ l.length) (fun i => l.length - i)
      (fun e S1 => e = .exit 0 ∧ ∃ x, S1 = st0 (l.map (fun p => p.1)) (l.map cL) b m s ll x ((ofF (fun v => dq (cf l v) (gcdL l))).map (fun p => p.1)) ((ofF (fun v => dq (cf l v) (gcdL l))).map cL)) isL0 ?_ 0 (Nat.zero_le _)
    intro i h1
    have hlen := okL_len hl
    refine ⟨noTab, noTab_all, lands_of (round0 ..) ?_⟩
    by_cases hi : i < l.length
    · have hf := okL_mem hl (List.getElem_mem hi)
      have hs := map_step (okL_asc hl) (okL_in hl) (g := fun _ z => dq z (gcdL l)) g0 hi
      have ho := ofF_len (fun v => dq (cf (l.take i) v) (gcdL l))
      have hd := fits_dqz (y := gcdL l) hf
      rw [List.length_map, List.length_map, ltN hi, inN hi, getL hi, rdV hi, dl_map]
      simp only [cL0, cL1, cLeta, cnW_fits hf, num_lbW, N_eq, cnW_fits (gcdL_fits hl), cnW_fits hd, cond_true, Bool.true_and, Bool.and_true, List.length_map]
      rw [decide_eq_true (show (ofF (fun v => dq (cf (l.take i) v) (gcdL l))).length ≤ 100000 by omega), putV_map, putR_map, hs]
      simp only [cond_true, Bool.and_self, wi_succ (show i < 4611686018427387904 by omega), lands_some, Turns1]
      exact ⟨i + 1, rfl, by omega, by omega⟩
    · rw [List.length_map, ltN' hi]
      simp only [cond_false, lands_some, Turns1]
      have hil : l.take i = l := List.take_of_length_le (by omega)
      rw [hil]
      exact ⟨trivial, i, rfl⟩
  rw [hz] at key
  exact key
end NTight
theorem meets_ntight : Meets Try.prog 22 ansLTight := by
  refine meets_fn (orc_ok (l := NTight.ans) ⟨meets_ncommon, meets_cmp, meets_from, meets_div, meets_lput, trivial⟩) Try.f22 Try.func22 (by kernel_rfl) (fun args r h => ?_)
  unfold ansLTight at h
  split at h
  · rename_i vs r b m s ll
    simp only [Option.some.injEq, Prod.mk.injEq, Bool.and_eq_true, Bool.not_eq_true'] at h
    obtain ⟨⟨⟨⟨⟨h1, rfl⟩, h3⟩, h4⟩, h5⟩, rfl⟩ := h
    obtain rfl := isEmpty_nil h3
    obtain ⟨c, rfl, rfl, _⟩ := (cn_iff W_two).1 h4
    rw [num_lbW] at h5
    obtain ⟨l, k1, rfl, rfl⟩ := isl_iff.1 h1
    obtain ⟨e1, S1, hE1, rfl, x, rfl⟩ := NTight.loop l false [] (sg c) (lb 4294967296 c) k1
    refine ⟨rfl, _, tabOf_all _, (NTight.rest _ _ _ _ _ _ ((ofF (fun v => dq (cf l v) (gcdL l))).map (fun p => p.1)) ((ofF (fun v => dq (cf l v) (gcdL l))).map cL) x).trans ?_⟩
    have hL := tiL_eq l
    have hM := tiM_eq l c
    rw [h1, dl_map, cnW_fits (gcdL_fits k1), N_eq, num_lbW, cmp_le, show num 4294967296 false (lb 4294967296 1) = 1 from num_lbW 1, h4, cdec_true hE1]
    cases hb : decide (gcdL l ≤ 1) with
    | true =>
      rw [hb, cond_true] at hL hM
      rw [hL, hM, lvs_eq l, lrs_eq l]
      rfl
    | false =>
      rw [hb, cond_false] at hL hM
      rw [hL, hM, lvs_eq, lrs_eq]
      rfl
  · cases h
end Go.Abs
end
section
/- What the reference of linear answers: multiples, values, texts. -/
namespace Go.Abs
open Go.Proofs Go.Dig
theorem sumT_size {l : List (Int × Int)} (hl : okL l) (i : Nat) (h : i ≤ l.length) : (sumT (l.take i)).size ≤ i * 30000 := by
  rw [← bytes_len]; exact sumT_len hl i h
namespace EShow
theorem loop (l : List (Int × Int)) (b : Bool) (m : List Int) (hl : okL l) : ∃ e S1, Ends T orc L0 D0 (st0 (l.map cE) b m { data := #[] } 0) e S1 ∧ e = .exit 0 ∧ ∃ x, S1 = st0 (l.map cE) b m (sumT l) x := by
  have key : ∃ e S1, Ends T orc L0 D0 (st0 (l.map cE) b m (sumT (l.take 0)) ((0 : Nat) : Int)) e S1 ∧ e = .exit 0 ∧ ∃ x, S1 = st0 (l.map cE) b m (sumT l) x := by
    refine loop_inv1 (fun (i : Nat) => st0 (l.map cE) b m (sumT (l.take i)) i) (fun i => i ≤ l.length) (fun i => l.length - i)
      (fun e S1 => e = .exit 0 ∧ ∃ x, S1 = st0 (l.map cE) b m (sumT l) x) isL0 ?_ 0 (Nat.zero_le _)
    intro i h1
    have hlen := okL_len hl
    refine ⟨noTab, noTab_all, lands_of (round0 ..) ?_⟩
    by_cases hi : i < l.length
    · have hf := okL_mem hl (List.getElem_mem hi)
      have hv := okL_in hl _ (List.getElem_mem hi)
      have hL := sumT_size hl i (by omega)
      have t1 := txt_small (small_of_fits hf)
      have t2 := txt_small (small_of_fits (fits_var hv))
      have hnext := sumT_take hi
      rw [List.length_map, ltN hi, inN hi, getE hi]
      by_cases h0 : i = 0
      · rw [if_pos h0] at hnext
        have g1 : (sumT (l.take i)).size + (txt l[i].2).size ≤ 9223372036854775807 := by omega
        have g2 : (sumT (l.take i) ++ txt l[i].2).size + 2 ≤ 9223372036854775807 := by rw [ByteArray.size_append]; omega
        have g3 : (sumT (l.take i) ++ txt l[i].2 ++ { data := #[42, 120] }).size + (txt l[i].1).size ≤ 9223372036854775807 := by
          rw [ByteArray.size_append, ByteArray.size_append, show ({ data := #[42, 120] } : ByteArray).size = 2 from rfl]; omega
        rw [decide_eq_false (show ¬ ((i : Nat) : Int) > 0 by omega)]
        simp only [plV, plVe, plC0, plC1, plCe, place1, place3, cnT_fits hf, cnT_fits (fits_var hv), i64B_var hv, num_lb10, N10_eq, cond_true, cond_false, g1, g2, g3, decide_true, wi_succ (show i < 4611686018427387904 by omega), lands_some, Turns1]
        refine ⟨i + 1, ?_, by omega, by omega⟩
        have e : sumT (l.take (i + 1)) = sumT (l.take i) ++ txt l[i].2 ++ { data := #[42, 120] } ++ txt l[i].1 := by
          rw [hnext, show l.take i = [] from by rw [h0, List.take_zero], show sumT [] = ByteArray.empty from rfl, ByteArray.empty_append]
          unfold partT
          rw [ByteArray.append_assoc]
        rw [e]
      · rw [if_neg h0] at hnext
        have g0 : (sumT (l.take i)).size + 3 ≤ 9223372036854775807 := by omega
        have g1 : (sumT (l.take i) ++ { data := #[32, 43, 32] }).size + (txt l[i].2).size ≤ 9223372036854775807 := by
          rw [ByteArray.size_append, show ({ data := #[32, 43, 32] } : ByteArray).size = 3 from rfl]; omega
        have g2 : (sumT (l.take i) ++ { data := #[32, 43, 32] } ++ txt l[i].2).size + 2 ≤ 9223372036854775807 := by
          rw [ByteArray.size_append, ByteArray.size_append, show ({ data := #[32, 43, 32] } : ByteArray).size = 3 from rfl]; omega
        have g3 : (sumT (l.take i) ++ { data := #[32, 43, 32] } ++ txt l[i].2 ++ { data := #[42, 120] }).size + (txt l[i].1).size ≤ 9223372036854775807 := by
          rw [ByteArray.size_append, ByteArray.size_append, ByteArray.size_append, show ({ data := #[32, 43, 32] } : ByteArray).size = 3 from rfl, show ({ data := #[42, 120] } : ByteArray).size = 2 from rfl]; omega
        rw [decide_eq_true (show ((i : Nat) : Int) > 0 by omega)]
        simp only [plV, plVe, plC0, plC1, plCe, place1, place3, cnT_fits hf, cnT_fits (fits_var hv), i64B_var hv, num_lb10, N10_eq, cond_true, cond_false, g0, g1, g2, g3, decide_true, wi_succ (show i < 4611686018427387904 by omega), lands_some, Turns1]
        refine ⟨i + 1, ?_, by omega, by omega⟩
        have e : sumT (l.take (i + 1)) = sumT (l.take i) ++ { data := #[32, 43, 32] } ++ txt l[i].2 ++ { data := #[42, 120] } ++ txt l[i].1 := by
          rw [hnext]
          unfold partT sep
          rw [ByteArray.append_assoc, ByteArray.append_assoc, ByteArray.append_assoc]
        rw [e]
    · rw [List.length_map, ltN' hi]
      simp only [cond_false, lands_some, Turns1]
      have hil : l.take i = l := List.take_of_length_le (by omega)
      rw [hil]
      exact ⟨trivial, i, rfl⟩
  exact key
end EShow
theorem lb10_pos (c : Int) : decide (((lb 10 c).length : Int) > 0) = !(c == 0) := by
  rw [← lb10_len0, Bool.eq_iff_iff, decide_eq_true_eq, Bool.not_eq_true', beq_eq_false_iff_ne]
  omega
theorem meets_eshow : Meets Try.prog 42 ansMShow := by
  refine meets_fn (orc_ok (l := EShow.ans) ⟨meets_rshow, meets_rfrom, trivial⟩) Try.f42 Try.func42 (by kernel_rfl) (fun args r h => ?_)
  unfold ansMShow at h
  split at h
  · rename_i r b m
    simp only [Option.some.injEq, Prod.mk.injEq] at h
    obtain ⟨h1, rfl⟩ := h
    obtain ⟨l, c, k1, k2, rfl, rfl, rfl⟩ := isE_iff.1 h1
    obtain ⟨e1, S1, hE1, rfl, x, rfl⟩ := EShow.loop l (sg c) (lb 10 c) k1
    have hT := ttxt_eq l c
    have hL := sumT_size k1 l.length (Nat.le_refl _)
    rw [List.take_length] at hL
    have hlen := okL_len k1
    have t1 := txt_small (small_of_fits k2)
    refine ⟨rfl, _, tabOf_all _, (EShow.rest _ _ _ (sumT l) x).trans ((bT (cdec_true hE1)).trans ?_)⟩
    rw [List.length_map, dm_map, num_lb10, cnT_fits k2, lb10_pos]
    by_cases h0 : l = []
    · subst h0
      have hT : ttxt [] c = txt c := hT
      rw [hT]
      rfl
    · have hpos : 0 < l.length := List.length_pos_iff.2 h0
      rw [show l.isEmpty = false from List.isEmpty_eq_false_iff.2 h0, cond_false] at hT
      refine (bF (beq_eq_false_iff_ne.2 (by omega))).trans ?_
      cases hc : c == 0 with
      | true =>
        rw [hc, cond_true] at hT
        rw [hT]
        rfl
      | false =>
        rw [hc, cond_false] at hT
        rw [hT]
        refine (bT rfl).trans ((bT (decide_eq_true (by omega))).trans ((bT rfl).trans ((bT (decide_eq_true ?_)).trans ?_)))
        · rw [ByteArray.size_append, show ({ data := #[32, 43, 32] } : ByteArray).size = 3 from rfl]; omega
        · unfold sep
          rw [ByteArray.append_assoc]
  · cases h
namespace ECommon
theorem loop (l : List (Int × Int)) (hl : okL l) (i0 : Nat) (h0 : i0 ≤ l.length) : ∃ e S1, Ends T orc L0 D0 (st0 (l.map cE) i0 (lb 10 ((l.take i0).foldl (fun g p => gz g p.2) 0))) e S1 ∧ e = .exit 0 ∧ ∃ x, S1 = st0 (l.map cE) x (lb 10 (gcdL l)) := by
  refine loop_inv1 (fun (i : Nat) => st0 (l.map cE) i (lb 10 ((l.take i).foldl (fun g p => gz g p.2) 0))) (fun i => i ≤ l.length) (fun i => l.length - i)
    (fun e S1 => e = .exit 0 ∧ ∃ x, S1 = st0 (l.map cE) x (lb 10 (gcdL l))) isL0 ?_ i0 h0
  intro i h1
  have hlen := okL_len hl
  refine ⟨noTab, noTab_all, lands_of (round0 ..) ?_⟩
  by_cases hi : i < l.length
  · have hf := okL_mem hl (List.getElem_mem hi)
    have hg := gcdF_fits (l.take i) 0 fits0 (fun p hp => okL_mem hl (mem_take hp))
    have hn := gcdF_nonneg (l.take i) 0 (Int.le_refl _)
    have hc := cnT_fits hg
    have hnum := num_lb10 ((l.take i).foldl (fun g p => gz g p.2) 0)
    rw [sg_nonneg hn] at hc hnum
    rw [List.length_map, ltN hi, inN hi, getE hi]
    simp only [plC0, plC1, plCe, place3, cnT_fits hf, num_lb10, hc, hnum, cond_true, Bool.and_self]
    rw [← gcdF_succ hi]
    simp only [wi_succ (show i < 4611686018427387904 by omega), lands_some, Turns1]
    exact ⟨i + 1, rfl, by omega, by omega⟩
  · rw [List.length_map, ltN' hi]
    simp only [cond_false, lands_some, Turns1]
    have hil : l.take i = l := List.take_of_length_le (by omega)
    rw [hil, gcdL_eq]
    exact ⟨trivial, i, rfl⟩
def Post (l : List (Int × Int)) (e : Ex) (S1 : St) : Prop := e = .exit 0 ∧ ((∃ x, S1 = st0 (l.map cE) x (lb 10 (gcdL l))) ∨ (l = [] ∧ S1 = st0e (l.map cE)))
theorem first (l : List (Int × Int)) (hl : okL l) : ∃ e S1, Ends T orc L0 D0 (st0e (l.map cE)) e S1 ∧ Post l e S1 := by
  refine loop_first (Post l) isL0 noTab_all (round0e ..) ?_
  by_cases hi : 0 < l.length
  · have hf := okL_mem hl (List.getElem_mem hi)
    have hget : (l.map cE).getD 0 [] = cE l[0] := getE hi
    rw [List.length_map, show decide ((0 : Int) < (l.length : Int)) = true from decide_eq_true (by omega), show inB 0 l.length = true from inN hi, hget]
    simp only [plC0, plC1, plCe, place3, cnT_fits hf, num_lb10, cond_true, Bool.and_self, Bool.true_and, lands_some]
    have hg := gcdF_succ hi 0
    rw [List.take_zero, List.foldl_nil] at hg
    rw [← hg]
    obtain ⟨e, S1, h1, h2, h3⟩ := loop l hl 1 hi
    exact ⟨e, S1, h1, h2, .inl h3⟩
  · have hd : l = [] := List.eq_nil_of_length_eq_zero (by omega)
    subst hd
    rw [show decide ((0 : Int) < (([] : List (Int × Int)).map cE).length) = false from rfl]
    simp only [cond_false, lands_some]
    exact ⟨rfl, .inr ⟨rfl, rfl⟩⟩
end ECommon
theorem meets_ecommon : Meets Try.prog 40 ansMCommon := by
  refine meets_fn (orc_ok (l := ECommon.ans) ⟨meets_rgcd, trivial⟩) Try.f40 Try.func40 (by kernel_rfl) (fun args r h => ?_)
  unfold ansMCommon at h
  split at h
  · rename_i r
    simp only [Option.some.injEq, Prod.mk.injEq] at h
    obtain ⟨h1, rfl⟩ := h
    obtain ⟨l, k1, rfl⟩ := ism_iff.1 h1
    rw [dm_map]
    obtain ⟨e1, S1, hE1, rfl, ⟨x, rfl⟩ | ⟨rfl, rfl⟩⟩ := ECommon.first l k1
    · refine ⟨rfl, _, tabOf_all _, (ECommon.rest_0 _ (lb 10 (gcdL l)) x).trans ((bT (cdec_true hE1)).trans ?_)⟩
      show _ = some (Res.val (.agg [.bool (sg (gcdL l)), .ints .i64 (lb 10 (gcdL l))]))
      rw [sg_nonneg (gcdL_nonneg l)]
    · refine ⟨rfl, _, tabOf_all _, (ECommon.rest_1 _).trans ((bT (cdec_true hE1)).trans ?_)⟩
      rw [show gcdL [] = 0 from gcdL_eq []]
      rfl
  · cases h
end Go.Abs
end
section
/- What the reference of linear answers: rows that are read, compared, made tight, turned about; the term of a list of parts. -/
namespace Go.Abs
open Go.Proofs Go.Dig
theorem dm_nil : dm [] = [] := dm_map []
theorem isE_nil {c : Int} (h : fits c = true) : isE [] (sg c) (lb 10 c) = true := isE_iff.2 ⟨[], c, okL_nil, h, rfl, rfl, rfl⟩
theorem isE_row {r : List (List AV)} (h : ism r = true) : isE r false [] = true := by
  obtain ⟨l, k, rfl⟩ := ism_iff.1 h
  exact isE_iff.2 ⟨l, 0, k, fits0, rfl, sg_zero.symm, (lb_zero _).symm⟩
theorem plP0 (p : Int × ByteArray) : gInt ((List.take 1 (List.drop 0 (cP p))).getD 0 .top) = p.1 := rfl
theorem plP0e (p : Int × ByteArray) : etaOk (.int .i64 0) ((List.take 1 (List.drop 0 (cP p))).getD 0 .top) = true := rfl
theorem plP1 (p : Int × ByteArray) : gStr ((List.take 1 (List.drop 1 (cP p))).getD 0 .top) = p.2 := rfl
theorem plP1e (p : Int × ByteArray) : etaOk (.str { data := #[] }) ((List.take 1 (List.drop 1 (cP p))).getD 0 .top) = true := rfl
theorem placeP1 (p : Int × ByteArray) : Nat.ble 1 (cP p).length = true := rfl
theorem placeP2 (p : Int × ByteArray) : Nat.ble 2 (cP p).length = true := rfl
theorem add_lone {q : List (Int × Int)} (hq : okL q) {v c : Int} (hv : 0 ≤ v ∧ v < 4096) (hc : fits c = true) : (fits (cf q v + c) = true → addE q (lone v c) 0 0 = 0 ∧ addL q (lone v c) 0 0 = wiL q v c) ∧ (fits (cf q v + c) = false → addE q (lone v c) 0 0 = 11) := by
  have hz : ∀ w, cf q w + cf (lone v c) w = if w = v then cf q v + c else cf q w := fun w => by
    rw [cf_lone]
    by_cases hw : w = v
    · rw [if_pos ⟨hv, hw⟩, if_pos hw, hw]
    · rw [if_neg (fun hh => hw hh.2), if_neg hw, Int.add_zero]
  constructor
  · intro hf
    rcases addE_cases q (lone v c) 0 0 with ⟨e1, e2, _⟩ | ⟨_, _, _, e4⟩
    · refine ⟨e1, ?_⟩
      rw [e2, wiL_eq]
      refine ofF_congr (fun w _ _ => ?_)
      rw [hz]
      by_cases hw : w = v
      · rw [decide_eq_true hw, if_pos hw, hw]; rfl
      · rw [decide_eq_false hw, if_neg hw]; rfl
    · refine absurd ⟨fits0, fun w => ?_⟩ e4
      rw [hz]; split
      · exact hf
      · exact okL_cf hq w
  · intro hf
    rcases addE_cases q (lone v c) 0 0 with ⟨_, _, _, _, e5⟩ | ⟨e1, _⟩
    · have := e5 v
      rw [hz, if_pos rfl, hf] at this
      cases this
    · exact e1
/-- The term of a list of parts, part by part. -/
theorem suF_drop {ms : List (Int × ByteArray)} {i : Nat} (hi : i < ms.length) (q : List (Int × Int)) (c : Int) : suF q c (ms.drop i) = bif !(re ms[i].2 == 0) then (re ms[i].2, q, c) else
      bif decide (0 ≤ ms[i].1) then (bif addE q (lone ms[i].1 (rv ms[i].2)) c 0 == 0 then suF (addL q (lone ms[i].1 (rv ms[i].2)) c 0) (addC q (lone ms[i].1 (rv ms[i].2)) c 0) (ms.drop (i + 1)) else (addE q (lone ms[i].1 (rv ms[i].2)) c 0, [], 0))
      else (bif addE q [] c (rv ms[i].2) == 0 then suF (addL q [] c (rv ms[i].2)) (addC q [] c (rv ms[i].2)) (ms.drop (i + 1)) else (addE q [] c (rv ms[i].2), [], 0)) := by
  rw [List.drop_eq_getElem_cons hi]; rfl
theorem suF_cons (v : Int) (s : ByteArray) (r : List (Int × ByteArray)) (q : List (Int × Int)) (c : Int) : suF q c ((v, s) :: r) = bif !(re s == 0) then (re s, q, c) else
      bif decide (0 ≤ v) then (bif addE q (lone v (rv s)) c 0 == 0 then suF (addL q (lone v (rv s)) c 0) (addC q (lone v (rv s)) c 0) r else (addE q (lone v (rv s)) c 0, [], 0))
      else (bif addE q [] c (rv s) == 0 then suF (addL q [] c (rv s)) (addC q [] c (rv s)) r else (addE q [] c (rv s), [], 0)) := rfl
def okP (x : Int × List (Int × Int) × Int) : Prop := okL x.2.1 ∧ fits x.2.2 = true
theorem okP_bif {b : Bool} {x y : Int × List (Int × Int) × Int} (hx : okP x) (hy : okP y) : okP (bif b then x else y) := by
  cases b
  · exact hy
  · exact hx
theorem okP_nil (n : Int) : okP (n, [], 0) := ⟨okL_nil, fits0⟩
theorem okP_suF (ms : List (Int × ByteArray)) : ∀ (q : List (Int × Int)) (c : Int), okL q → fits c = true → okP (suF q c ms) := by
  induction ms with
  | nil => exact fun q c h k => show okP (0, q, c) from And.intro h k
  | cons p r ih =>
    obtain ⟨v, s⟩ := p
    intro q c h k
    rw [suF_cons]
    exact okP_bif (And.intro h k) (okP_bif (okP_bif (ih _ _ (okL_add _ _ _ _) (fits_addC _ _ _ _)) (okP_nil _)) (okP_bif (ih _ _ (okL_add _ _ _ _) (fits_addC _ _ _ _)) (okP_nil _)))
theorem okL_suF (ms : List (Int × ByteArray)) (q : List (Int × Int)) (c : Int) (h : okL q) (k : fits c = true) : okL (suF q c ms).2.1 ∧ fits (suF q c ms).2.2 = true := okP_suF ms q c h k
theorem okL_te (ms : List (Int × ByteArray)) : okL (teL ms) := by rw [teL_eq]; exact (okL_suF ms [] 0 okL_nil fits0).1
theorem fits_te (ms : List (Int × ByteArray)) : fits (teC ms) = true := by rw [teC_eq]; exact (okL_suF ms [] 0 okL_nil fits0).2
namespace ESum
def Post (ms : List (Int × ByteArray)) (e : Ex) (S1 : St) : Prop :=
  (e = .exit 0 ∧ ∃ q c x b, suF [] 0 ms = (0, q, c) ∧ S1 = st0 (ms.map cP) x b (mrs q) (sg c) (lb 10 c)) ∨
  (e = .ret ∧ ∃ n q c x b r b' l', n ≠ 0 ∧ suF [] 0 ms = (n, q, c) ∧ S1 = st0x0 (ms.map cP) n x b r b' l')
theorem loop (ms : List (Int × ByteArray)) (hm : ∀ p ∈ ms, i64B p.1 = true ∧ p.1 < 4096 ∧ p.2.size ≤ 10000) (hlen : ms.length ≤ 100000) : ∃ e S1, Ends T orc L0 D0 (st0 (ms.map cP) 0 true [] false []) e S1 ∧ Post ms e S1 := by
  have key : ∃ e S1, Ends T orc L0 D0 (st0 (ms.map cP) ((0 : Nat) : Int) true (mrs []) (sg 0) (lb 10 0)) e S1 ∧ Post ms e S1 := by
    refine loop_inv4 (fun (i : Nat) (b : Bool) (q : List (Int × Int)) (c : Int) => st0 (ms.map cP) i b (mrs q) (sg c) (lb 10 c)) (fun i b q c => i ≤ ms.length ∧ okL q ∧ fits c = true ∧ suF q c (ms.drop i) = suF [] 0 ms) (fun i b q c => ms.length - i)
      (Post ms) isL0 ?_ 0 true [] 0 ⟨Nat.zero_le _, okL_nil, fits0, rfl⟩
    intro i b q c ⟨h1, h2, h4, h3⟩
    refine ⟨noTab, noTab_all, lands_of (round0 ..) ?_⟩
    by_cases hi : i < ms.length
    · obtain ⟨_, hv4, hsz⟩ := hm _ (List.getElem_mem hi)
      rw [suF_drop hi] at h3
      rw [List.length_map, ltN hi, inN hi, getP hi]
      have hfr := fits_rv ms[i].2
      by_cases he : re ms[i].2 = 0
      · rw [he] at h3
        by_cases hv : ms[i].1 ≥ 0
        · have h3 : (bif decide (0 ≤ ms[i].1) then (bif addE q (lone ms[i].1 (rv ms[i].2)) c 0 == 0 then suF (addL q (lone ms[i].1 (rv ms[i].2)) c 0) (addC q (lone ms[i].1 (rv ms[i].2)) c 0) (ms.drop (i + 1)) else (addE q (lone ms[i].1 (rv ms[i].2)) c 0, [], 0)) else _) = suF [] 0 ms := h3
          rw [decide_eq_true (show 0 ≤ ms[i].1 from hv), cond_true] at h3
          have hput : putR (rv ms[i].2) [] [.int .i64 ms[i].1, .bool (sg (rv ms[i].2)), .ints .i64 (lb 10 (rv ms[i].2))] = (lone ms[i].1 (rv ms[i].2)).map cE := by
            rw [lone_put ⟨hv, hv4⟩]; exact putM_map (rv ms[i].2) [] ms[i].1
          have hisE : isE ((lone ms[i].1 (rv ms[i].2)).map cE) false [] = true := isE_row (ism_iff.2 ⟨_, okL_lone _ hfr, rfl⟩)
          simp only [plP0, plP0e, plP1, plP1e, placeP1, placeP2, cond_true, hsz, hv, decide_true, he, bne_self_eq_false, cond_false, cnT_fits hfr, N10_eq, hput, hisE, isE_of h2 h4, Bool.and_self, dm_mrs, dm_map, num_lb10]
          rcases addE_cases q (lone ms[i].1 (rv ms[i].2)) c 0 with ⟨a1, _⟩ | ⟨a1, _⟩
          · rw [a1] at h3 ⊢
            simp only [bne_self_eq_false, cond_false, wi_succ (show i < 4611686018427387904 by omega), lands_some, Turns4]
            exact ⟨i + 1, false, addL q (lone ms[i].1 (rv ms[i].2)) c 0, addC q (lone ms[i].1 (rv ms[i].2)) c 0, rfl, ⟨by omega, okL_add _ _ _ _, fits_addC _ _ _ _, h3⟩, by omega⟩
          · rw [a1] at h3 ⊢
            simp only [show ((11 : Int) != 0) = true from rfl, cond_true, lands_some, Turns4]
            exact .inr ⟨rfl, 11, _, _, i, _, _, _, _, by decide, h3.symm, rfl⟩
        · have h3 : (bif decide (0 ≤ ms[i].1) then _ else (bif addE q [] c (rv ms[i].2) == 0 then suF (addL q [] c (rv ms[i].2)) (addC q [] c (rv ms[i].2)) (ms.drop (i + 1)) else (addE q [] c (rv ms[i].2), [], 0))) = suF [] 0 ms := h3
          rw [decide_eq_false (show ¬ 0 ≤ ms[i].1 from hv), cond_false] at h3
          simp only [plP0, plP0e, plP1, plP1e, placeP1, placeP2, cond_true, hsz, hv, decide_true, decide_false, he, bne_self_eq_false, cond_false, N10_eq, isE_nil hfr, isE_of h2 h4, Bool.and_self, dm_mrs, dm_nil, num_lb10]
          rcases addE_cases q [] c (rv ms[i].2) with ⟨a1, _⟩ | ⟨a1, _⟩
          · rw [a1] at h3 ⊢
            simp only [bne_self_eq_false, cond_false, wi_succ (show i < 4611686018427387904 by omega), lands_some, Turns4]
            exact ⟨i + 1, false, addL q [] c (rv ms[i].2), addC q [] c (rv ms[i].2), rfl, ⟨by omega, okL_add _ _ _ _, fits_addC _ _ _ _, h3⟩, by omega⟩
          · rw [a1] at h3 ⊢
            simp only [show ((11 : Int) != 0) = true from rfl, cond_true, lands_some, Turns4]
            exact .inr ⟨rfl, 11, _, _, i, _, _, _, _, by decide, h3.symm, rfl⟩
      · rw [show (re ms[i].2 == 0) = false from beq_eq_false_iff_ne.2 he] at h3
        simp only [plP0, plP0e, plP1, plP1e, placeP1, placeP2, cond_true, hsz, decide_true, ne_b he, lands_some, Turns4]
        exact .inr ⟨rfl, re ms[i].2, q, c, i, _, _, _, _, he, h3.symm, rfl⟩
    · have hd : ms.drop i = [] := List.drop_of_length_le (by omega)
      rw [hd] at h3
      rw [List.length_map, ltN' hi]
      simp only [cond_false, lands_some, Turns4]
      exact .inl ⟨rfl, q, c, i, b, h3.symm, rfl⟩
  rw [mrs_nil] at key
  exact key
end ESum
theorem meets_esum : Meets Try.prog 30 ansMSum := by
  refine meets_fn (orc_ok (l := ESum.ans) ⟨meets_rparse, meets_mput, meets_eadd, trivial⟩) Try.f30 Try.func30 (by kernel_rfl) (fun args r h => ?_)
  unfold ansMSum at h
  split at h
  · rename_i x
    simp only [Option.some.injEq, Prod.mk.injEq] at h
    obtain ⟨h1, rfl⟩ := h
    obtain ⟨ms, k1, k2, rfl⟩ := isg_iff.1 h1
    rw [dp_map]
    have hE := suE_eq ms
    have hL := suL_eq ms
    have hC := suC_eq ms
    have hl := teL_eq ms
    have hc := teC_eq ms
    obtain ⟨e1, S1, hE1, hP⟩ := ESum.loop ms k1 k2
    rcases hP with ⟨rfl, q, c, x, b, h3, rfl⟩ | ⟨rfl, n, q, c, x, b, r, b', l', h4, h3, rfl⟩
    · rw [h3] at hE hl hc
      have hE : suE ms = 0 := hE
      have hl : teL ms = q := hl
      have hc : teC ms = c := hc
      rw [hE, hl] at hL
      rw [hE, hc] at hC
      have hL : suL ms = q := hL
      have hC : suC ms = c := hC
      rw [hE, hL, hC]
      exact ⟨rfl, _, tabOf_all _, (ESum.rest_1 _ (mrs q) (sg c) (lb 10 c) x b).trans (bT (cdec_true hE1))⟩
    · rw [h3] at hE
      have hE : suE ms = n := hE
      rw [hE, show (n == 0) = false from beq_eq_false_iff_ne.2 h4] at hL hC
      have hL : suL ms = [] := hL
      have hC : suC ms = 0 := hC
      rw [hE, hL, hC, mrs_nil]
      exact ⟨rfl, _, tabOf_all _, (ESum.rest_0 _ n x b r b' l').trans (bT (cdec_true hE1))⟩
  · cases h
end Go.Abs
end
section
/- States and rounds of the functions of linear and of its reference, as a program of this session printed them. -/
set_option maxRecDepth 10000
namespace Go.Abs
open Go.Proofs Go.Dig
noncomputable section
namespace NAdd
abbrev ans : Ans := [(56, ansAdd), (68, ansLPut)]
abbrev orc : Orc := orcOf ans
noncomputable def L0 : Code := lp Try.f46 0
theorem isL0 : ∃ a, L0 = .loop a := ⟨_, rfl⟩
abbrev D0 : List Nat := [0, 1, 2, 3, 4, 5, 6, 7, 8, 9, 10, 13, 14, 15, 16, 17, 18, 19, 20, 21, 22, 25, 26]
abbrev st0 (vs : List Int) (r : List (List AV)) (b : Bool) (m : List Int) (vsz : List Int) (rz : List (List AV)) (bz : Bool) (mz : List Int) (x0 : Int) (x1 : Int) (l0 : List Int) (r0 : List (List AV)) : St := ⟨.agg [.ints .i64 vs, .rows 2 r, .bool b, .ints .u32 m] :: .agg [.ints .i64 vsz, .rows 2 rz, .bool bz, .ints .u32 mz] :: .ptr 2 0 0 :: .ptr 3 0 0 :: .ptr 4 0 0 :: .int .i64 (0) :: .ptr 6 0 0 :: .int .i64 (he (num (4294967296) b m + num (4294967296) bz mz)) :: .ptr 8 0 0 :: .int .i64 x0 :: .int .i64 x1 :: tops 2 (.tup [R (hz (num (4294967296) b m + num (4294967296) bz mz)), .int .i64 (he (num (4294967296) b m + num (4294967296) bz mz))] :: .ptr 2 0 2 :: .agg [.bool b, .ints .u32 m] :: .ptr 3 0 2 :: .agg [.bool bz, .ints .u32 mz] :: .tup [R (hz (num (4294967296) b m + num (4294967296) bz mz)), .int .i64 (he (num (4294967296) b m + num (4294967296) bz mz))] :: R (hz (num (4294967296) b m + num (4294967296) bz mz)) :: .int .i64 (he (num (4294967296) b m + num (4294967296) bz mz)) :: .int .i64 (he (num (4294967296) b m + num (4294967296) bz mz)) :: .bool (he (num (4294967296) b m + num (4294967296) bz mz) != 0) :: tops 2 (R (hz (num (4294967296) b m + num (4294967296) bz mz)) :: .agg [.nil, .nil, .bool (sg (hz (num (4294967296) b m + num (4294967296) bz mz))), .ints .u32 (lb (4294967296) (hz (num (4294967296) b m + num (4294967296) bz mz)))] :: tops 113 ([]))), nos 2 (varE [(false, .ints .i64 vs), (false, .rows 2 r), (false, .bool b), (false, .ints .u32 m)] :: varE [(false, .ints .i64 vsz), (false, .rows 2 rz), (false, .bool bz), (false, .ints .u32 mz)] :: varE [(true, .ints .i64 []), (true, .rows 2 []), (false, .bool false), (true, .ints .u32 [])] :: nos 1 (varE [(false, .bool (sg (hz (num (4294967296) b m + num (4294967296) bz mz)))), (false, .ints .u32 (lb (4294967296) (hz (num (4294967296) b m + num (4294967296) bz mz))))] :: nos 1 (varE [(true, .ints .i64 l0), (true, .rows 2 r0), (false, .bool (sg (hz (num (4294967296) b m + num (4294967296) bz mz)))), (false, .ints .u32 (lb (4294967296) (hz (num (4294967296) b m + num (4294967296) bz mz))))] :: nos 131 ([]))))⟩
abbrev st0x0 (vs : List Int) (r : List (List AV)) (b : Bool) (m : List Int) (vsz : List Int) (rz : List (List AV)) (bz : Bool) (mz : List Int) (x2 : Int) (x0 : Int) (x1 : Int) (l0 : List Int) (r0 : List (List AV)) : St := ⟨.agg [.ints .i64 vs, .rows 2 r, .bool b, .ints .u32 m] :: .agg [.ints .i64 vsz, .rows 2 rz, .bool bz, .ints .u32 mz] :: .ptr 2 0 0 :: .ptr 3 0 0 :: .ptr 4 0 0 :: .int .i64 x2 :: .ptr 6 0 0 :: .int .i64 (he (num (4294967296) b m + num (4294967296) bz mz)) :: .ptr 8 0 0 :: .int .i64 x0 :: .int .i64 x1 :: tops 2 (.tup [R (hz (num (4294967296) b m + num (4294967296) bz mz)), .int .i64 (he (num (4294967296) b m + num (4294967296) bz mz))] :: .ptr 2 0 2 :: .agg [.bool b, .ints .u32 m] :: .ptr 3 0 2 :: .agg [.bool bz, .ints .u32 mz] :: .tup [R (hz (num (4294967296) b m + num (4294967296) bz mz)), .int .i64 (he (num (4294967296) b m + num (4294967296) bz mz))] :: R (hz (num (4294967296) b m + num (4294967296) bz mz)) :: .int .i64 (he (num (4294967296) b m + num (4294967296) bz mz)) :: .int .i64 (he (num (4294967296) b m + num (4294967296) bz mz)) :: .bool (he (num (4294967296) b m + num (4294967296) bz mz) != 0) :: tops 2 (R (hz (num (4294967296) b m + num (4294967296) bz mz)) :: .agg [.nil, .nil, .bool (sg (hz (num (4294967296) b m + num (4294967296) bz mz))), .ints .u32 (lb (4294967296) (hz (num (4294967296) b m + num (4294967296) bz mz)))] :: tops 113 ([]))), nos 2 (varE [(false, .ints .i64 vs), (false, .rows 2 r), (false, .bool b), (false, .ints .u32 m)] :: varE [(false, .ints .i64 vsz), (false, .rows 2 rz), (false, .bool bz), (false, .ints .u32 mz)] :: varE [(true, .ints .i64 []), (true, .rows 2 []), (false, .bool false), (true, .ints .u32 [])] :: nos 1 (varE [(false, .bool (sg (hz (num (4294967296) b m + num (4294967296) bz mz)))), (false, .ints .u32 (lb (4294967296) (hz (num (4294967296) b m + num (4294967296) bz mz))))] :: nos 1 (varE [(true, .ints .i64 l0), (true, .rows 2 r0), (false, .bool (sg (hz (num (4294967296) b m + num (4294967296) bz mz)))), (false, .ints .u32 (lb (4294967296) (hz (num (4294967296) b m + num (4294967296) bz mz))))] :: nos 131 ([]))))⟩
theorem round0 (vs : List Int) (r : List (List AV)) (b : Bool) (m : List Int) (vsz : List Int) (rz : List (List AV)) (bz : Bool) (mz : List Int) (x0 : Int) (x1 : Int) (l0 : List Int) (r0 : List (List AV)) : goL T orc (noTab) D0 L0 (st0 vs r b m vsz rz bz mz x0 x1 l0 r0) =
    (bif decide (x0 < (↑vs.length : Int)) then (bif x1 == (↑vsz.length : Int) then (bif inB x0 vs.length then (bif inB x0 r.length then (bif etasOk [.bool false, .ints .u32 []] (r.getD x0.toNat []) then (bif cn (4294967296) (gBool ((r.getD x0.toNat []).getD 0 .top)) (gInts ((r.getD x0.toNat []).getD 1 .top)) && decide (l0.length ≤ 100000) && decide (r0.length ≤ 100000) && true && true then some (.normal, st0 vs r b m vsz rz bz mz (IntKind.i64.wrap (x0 + 1)) x1 (putV (num (4294967296) (gBool ((r.getD x0.toNat []).getD 0 .top)) (gInts ((r.getD x0.toNat []).getD 1 .top))) l0 (rd vs x0)) (putR (num (4294967296) (gBool ((r.getD x0.toNat []).getD 0 .top)) (gInts ((r.getD x0.toNat []).getD 1 .top))) r0 [.bool (gBool ((r.getD x0.toNat []).getD 0 .top)), .ints .u32 (gInts ((r.getD x0.toNat []).getD 1 .top))])) else none) else none) else none) else none) else (bif decide (x0 < (↑vs.length : Int)) then (bif inB x0 vs.length then (bif inB x1 vsz.length then (bif decide (rd vs x0 < rd vsz x1) then (bif inB x0 vs.length then (bif inB x0 r.length then (bif etasOk [.bool false, .ints .u32 []] (r.getD x0.toNat []) then (bif cn (4294967296) (gBool ((r.getD x0.toNat []).getD 0 .top)) (gInts ((r.getD x0.toNat []).getD 1 .top)) && decide (l0.length ≤ 100000) && decide (r0.length ≤ 100000) && true && true then some (.normal, st0 vs r b m vsz rz bz mz (IntKind.i64.wrap (x0 + 1)) x1 (putV (num (4294967296) (gBool ((r.getD x0.toNat []).getD 0 .top)) (gInts ((r.getD x0.toNat []).getD 1 .top))) l0 (rd vs x0)) (putR (num (4294967296) (gBool ((r.getD x0.toNat []).getD 0 .top)) (gInts ((r.getD x0.toNat []).getD 1 .top))) r0 [.bool (gBool ((r.getD x0.toNat []).getD 0 .top)), .ints .u32 (gInts ((r.getD x0.toNat []).getD 1 .top))])) else none) else none) else none) else none) else (bif x0 == (↑vs.length : Int) then (bif inB x1 vsz.length then (bif inB x1 rz.length then (bif etasOk [.bool false, .ints .u32 []] (rz.getD x1.toNat []) then (bif cn (4294967296) (gBool ((rz.getD x1.toNat []).getD 0 .top)) (gInts ((rz.getD x1.toNat []).getD 1 .top)) && decide (l0.length ≤ 100000) && decide (r0.length ≤ 100000) && true && true then some (.normal, st0 vs r b m vsz rz bz mz x0 (IntKind.i64.wrap (x1 + 1)) (putV (num (4294967296) (gBool ((rz.getD x1.toNat []).getD 0 .top)) (gInts ((rz.getD x1.toNat []).getD 1 .top))) l0 (rd vsz x1)) (putR (num (4294967296) (gBool ((rz.getD x1.toNat []).getD 0 .top)) (gInts ((rz.getD x1.toNat []).getD 1 .top))) r0 [.bool (gBool ((rz.getD x1.toNat []).getD 0 .top)), .ints .u32 (gInts ((rz.getD x1.toNat []).getD 1 .top))])) else none) else none) else none) else none) else (bif inB x1 vsz.length then (bif inB x0 vs.length then (bif decide (rd vsz x1 < rd vs x0) then (bif inB x1 vsz.length then (bif inB x1 rz.length then (bif etasOk [.bool false, .ints .u32 []] (rz.getD x1.toNat []) then (bif cn (4294967296) (gBool ((rz.getD x1.toNat []).getD 0 .top)) (gInts ((rz.getD x1.toNat []).getD 1 .top)) && decide (l0.length ≤ 100000) && decide (r0.length ≤ 100000) && true && true then some (.normal, st0 vs r b m vsz rz bz mz x0 (IntKind.i64.wrap (x1 + 1)) (putV (num (4294967296) (gBool ((rz.getD x1.toNat []).getD 0 .top)) (gInts ((rz.getD x1.toNat []).getD 1 .top))) l0 (rd vsz x1)) (putR (num (4294967296) (gBool ((rz.getD x1.toNat []).getD 0 .top)) (gInts ((rz.getD x1.toNat []).getD 1 .top))) r0 [.bool (gBool ((rz.getD x1.toNat []).getD 0 .top)), .ints .u32 (gInts ((rz.getD x1.toNat []).getD 1 .top))])) else none) else none) else none) else none) else (bif inB x0 r.length then (bif etasOk [.bool false, .ints .u32 []] (r.getD x0.toNat []) then (bif inB x1 rz.length then (bif etasOk [.bool false, .ints .u32 []] (rz.getD x1.toNat []) then (bif cn (4294967296) (gBool ((r.getD x0.toNat []).getD 0 .top)) (gInts ((r.getD x0.toNat []).getD 1 .top)) && cn (4294967296) (gBool ((rz.getD x1.toNat []).getD 0 .top)) (gInts ((rz.getD x1.toNat []).getD 1 .top)) && fits (num (4294967296) (gBool ((r.getD x0.toNat []).getD 0 .top)) (gInts ((r.getD x0.toNat []).getD 1 .top))) && fits (num (4294967296) (gBool ((rz.getD x1.toNat []).getD 0 .top)) (gInts ((rz.getD x1.toNat []).getD 1 .top))) then (bif he (num (4294967296) (gBool ((r.getD x0.toNat []).getD 0 .top)) (gInts ((r.getD x0.toNat []).getD 1 .top)) + num (4294967296) (gBool ((rz.getD x1.toNat []).getD 0 .top)) (gInts ((rz.getD x1.toNat []).getD 1 .top))) != 0 then some (.ret, st0x0 vs r b m vsz rz bz mz (he (num (4294967296) (gBool ((r.getD x0.toNat []).getD 0 .top)) (gInts ((r.getD x0.toNat []).getD 1 .top)) + num (4294967296) (gBool ((rz.getD x1.toNat []).getD 0 .top)) (gInts ((rz.getD x1.toNat []).getD 1 .top)))) x0 x1 l0 r0) else (bif inB x0 vs.length then (bif cn (4294967296) (sg (hz (num (4294967296) (gBool ((r.getD x0.toNat []).getD 0 .top)) (gInts ((r.getD x0.toNat []).getD 1 .top)) + num (4294967296) (gBool ((rz.getD x1.toNat []).getD 0 .top)) (gInts ((rz.getD x1.toNat []).getD 1 .top))))) (lb (4294967296) (hz (num (4294967296) (gBool ((r.getD x0.toNat []).getD 0 .top)) (gInts ((r.getD x0.toNat []).getD 1 .top)) + num (4294967296) (gBool ((rz.getD x1.toNat []).getD 0 .top)) (gInts ((rz.getD x1.toNat []).getD 1 .top))))) && decide (l0.length ≤ 100000) && decide (r0.length ≤ 100000) && true && true then some (.normal, st0 vs r b m vsz rz bz mz (IntKind.i64.wrap (x0 + 1)) (IntKind.i64.wrap (x1 + 1)) (putV (N (4294967296) (hz (num (4294967296) (gBool ((r.getD x0.toNat []).getD 0 .top)) (gInts ((r.getD x0.toNat []).getD 1 .top)) + num (4294967296) (gBool ((rz.getD x1.toNat []).getD 0 .top)) (gInts ((rz.getD x1.toNat []).getD 1 .top))))) l0 (rd vs x0)) (putR (N (4294967296) (hz (num (4294967296) (gBool ((r.getD x0.toNat []).getD 0 .top)) (gInts ((r.getD x0.toNat []).getD 1 .top)) + num (4294967296) (gBool ((rz.getD x1.toNat []).getD 0 .top)) (gInts ((rz.getD x1.toNat []).getD 1 .top))))) r0 [.bool (sg (hz (num (4294967296) (gBool ((r.getD x0.toNat []).getD 0 .top)) (gInts ((r.getD x0.toNat []).getD 1 .top)) + num (4294967296) (gBool ((rz.getD x1.toNat []).getD 0 .top)) (gInts ((rz.getD x1.toNat []).getD 1 .top))))), .ints .u32 (lb (4294967296) (hz (num (4294967296) (gBool ((r.getD x0.toNat []).getD 0 .top)) (gInts ((r.getD x0.toNat []).getD 1 .top)) + num (4294967296) (gBool ((rz.getD x1.toNat []).getD 0 .top)) (gInts ((rz.getD x1.toNat []).getD 1 .top)))))])) else none) else none)) else none) else none) else none) else none) else none)) else none) else none))) else none) else none) else (bif x0 == (↑vs.length : Int) then (bif inB x1 vsz.length then (bif inB x1 rz.length then (bif etasOk [.bool false, .ints .u32 []] (rz.getD x1.toNat []) then (bif cn (4294967296) (gBool ((rz.getD x1.toNat []).getD 0 .top)) (gInts ((rz.getD x1.toNat []).getD 1 .top)) && decide (l0.length ≤ 100000) && decide (r0.length ≤ 100000) && true && true then some (.normal, st0 vs r b m vsz rz bz mz x0 (IntKind.i64.wrap (x1 + 1)) (putV (num (4294967296) (gBool ((rz.getD x1.toNat []).getD 0 .top)) (gInts ((rz.getD x1.toNat []).getD 1 .top))) l0 (rd vsz x1)) (putR (num (4294967296) (gBool ((rz.getD x1.toNat []).getD 0 .top)) (gInts ((rz.getD x1.toNat []).getD 1 .top))) r0 [.bool (gBool ((rz.getD x1.toNat []).getD 0 .top)), .ints .u32 (gInts ((rz.getD x1.toNat []).getD 1 .top))])) else none) else none) else none) else none) else (bif inB x1 vsz.length then (bif inB x0 vs.length then (bif decide (rd vsz x1 < rd vs x0) then (bif inB x1 vsz.length then (bif inB x1 rz.length then (bif etasOk [.bool false, .ints .u32 []] (rz.getD x1.toNat []) then (bif cn (4294967296) (gBool ((rz.getD x1.toNat []).getD 0 .top)) (gInts ((rz.getD x1.toNat []).getD 1 .top)) && decide (l0.length ≤ 100000) && decide (r0.length ≤ 100000) && true && true then some (.normal, st0 vs r b m vsz rz bz mz x0 (IntKind.i64.wrap (x1 + 1)) (putV (num (4294967296) (gBool ((rz.getD x1.toNat []).getD 0 .top)) (gInts ((rz.getD x1.toNat []).getD 1 .top))) l0 (rd vsz x1)) (putR (num (4294967296) (gBool ((rz.getD x1.toNat []).getD 0 .top)) (gInts ((rz.getD x1.toNat []).getD 1 .top))) r0 [.bool (gBool ((rz.getD x1.toNat []).getD 0 .top)), .ints .u32 (gInts ((rz.getD x1.toNat []).getD 1 .top))])) else none) else none) else none) else none) else (bif inB x0 r.length then (bif etasOk [.bool false, .ints .u32 []] (r.getD x0.toNat []) then (bif inB x1 rz.length then (bif etasOk [.bool false, .ints .u32 []] (rz.getD x1.toNat []) then (bif cn (4294967296) (gBool ((r.getD x0.toNat []).getD 0 .top)) (gInts ((r.getD x0.toNat []).getD 1 .top)) && cn (4294967296) (gBool ((rz.getD x1.toNat []).getD 0 .top)) (gInts ((rz.getD x1.toNat []).getD 1 .top)) && fits (num (4294967296) (gBool ((r.getD x0.toNat []).getD 0 .top)) (gInts ((r.getD x0.toNat []).getD 1 .top))) && fits (num (4294967296) (gBool ((rz.getD x1.toNat []).getD 0 .top)) (gInts ((rz.getD x1.toNat []).getD 1 .top))) then (bif he (num (4294967296) (gBool ((r.getD x0.toNat []).getD 0 .top)) (gInts ((r.getD x0.toNat []).getD 1 .top)) + num (4294967296) (gBool ((rz.getD x1.toNat []).getD 0 .top)) (gInts ((rz.getD x1.toNat []).getD 1 .top))) != 0 then some (.ret, st0x0 vs r b m vsz rz bz mz (he (num (4294967296) (gBool ((r.getD x0.toNat []).getD 0 .top)) (gInts ((r.getD x0.toNat []).getD 1 .top)) + num (4294967296) (gBool ((rz.getD x1.toNat []).getD 0 .top)) (gInts ((rz.getD x1.toNat []).getD 1 .top)))) x0 x1 l0 r0) else (bif inB x0 vs.length then (bif cn (4294967296) (sg (hz (num (4294967296) (gBool ((r.getD x0.toNat []).getD 0 .top)) (gInts ((r.getD x0.toNat []).getD 1 .top)) + num (4294967296) (gBool ((rz.getD x1.toNat []).getD 0 .top)) (gInts ((rz.getD x1.toNat []).getD 1 .top))))) (lb (4294967296) (hz (num (4294967296) (gBool ((r.getD x0.toNat []).getD 0 .top)) (gInts ((r.getD x0.toNat []).getD 1 .top)) + num (4294967296) (gBool ((rz.getD x1.toNat []).getD 0 .top)) (gInts ((rz.getD x1.toNat []).getD 1 .top))))) && decide (l0.length ≤ 100000) && decide (r0.length ≤ 100000) && true && true then some (.normal, st0 vs r b m vsz rz bz mz (IntKind.i64.wrap (x0 + 1)) (IntKind.i64.wrap (x1 + 1)) (putV (N (4294967296) (hz (num (4294967296) (gBool ((r.getD x0.toNat []).getD 0 .top)) (gInts ((r.getD x0.toNat []).getD 1 .top)) + num (4294967296) (gBool ((rz.getD x1.toNat []).getD 0 .top)) (gInts ((rz.getD x1.toNat []).getD 1 .top))))) l0 (rd vs x0)) (putR (N (4294967296) (hz (num (4294967296) (gBool ((r.getD x0.toNat []).getD 0 .top)) (gInts ((r.getD x0.toNat []).getD 1 .top)) + num (4294967296) (gBool ((rz.getD x1.toNat []).getD 0 .top)) (gInts ((rz.getD x1.toNat []).getD 1 .top))))) r0 [.bool (sg (hz (num (4294967296) (gBool ((r.getD x0.toNat []).getD 0 .top)) (gInts ((r.getD x0.toNat []).getD 1 .top)) + num (4294967296) (gBool ((rz.getD x1.toNat []).getD 0 .top)) (gInts ((rz.getD x1.toNat []).getD 1 .top))))), .ints .u32 (lb (4294967296) (hz (num (4294967296) (gBool ((r.getD x0.toNat []).getD 0 .top)) (gInts ((r.getD x0.toNat []).getD 1 .top)) + num (4294967296) (gBool ((rz.getD x1.toNat []).getD 0 .top)) (gInts ((rz.getD x1.toNat []).getD 1 .top)))))])) else none) else none)) else none) else none) else none) else none) else none)) else none) else none)))) else (bif decide (x1 < (↑vsz.length : Int)) then (bif x1 == (↑vsz.length : Int) then (bif inB x0 vs.length then (bif inB x0 r.length then (bif etasOk [.bool false, .ints .u32 []] (r.getD x0.toNat []) then (bif cn (4294967296) (gBool ((r.getD x0.toNat []).getD 0 .top)) (gInts ((r.getD x0.toNat []).getD 1 .top)) && decide (l0.length ≤ 100000) && decide (r0.length ≤ 100000) && true && true then some (.normal, st0 vs r b m vsz rz bz mz (IntKind.i64.wrap (x0 + 1)) x1 (putV (num (4294967296) (gBool ((r.getD x0.toNat []).getD 0 .top)) (gInts ((r.getD x0.toNat []).getD 1 .top))) l0 (rd vs x0)) (putR (num (4294967296) (gBool ((r.getD x0.toNat []).getD 0 .top)) (gInts ((r.getD x0.toNat []).getD 1 .top))) r0 [.bool (gBool ((r.getD x0.toNat []).getD 0 .top)), .ints .u32 (gInts ((r.getD x0.toNat []).getD 1 .top))])) else none) else none) else none) else none) else (bif decide (x0 < (↑vs.length : Int)) then (bif inB x0 vs.length then (bif inB x1 vsz.length then (bif decide (rd vs x0 < rd vsz x1) then (bif inB x0 vs.length then (bif inB x0 r.length then (bif etasOk [.bool false, .ints .u32 []] (r.getD x0.toNat []) then (bif cn (4294967296) (gBool ((r.getD x0.toNat []).getD 0 .top)) (gInts ((r.getD x0.toNat []).getD 1 .top)) && decide (l0.length ≤ 100000) && decide (r0.length ≤ 100000) && true && true then some (.normal, st0 vs r b m vsz rz bz mz (IntKind.i64.wrap (x0 + 1)) x1 (putV (num (4294967296) (gBool ((r.getD x0.toNat []).getD 0 .top)) (gInts ((r.getD x0.toNat []).getD 1 .top))) l0 (rd vs x0)) (putR (num (4294967296) (gBool ((r.getD x0.toNat []).getD 0 .top)) (gInts ((r.getD x0.toNat []).getD 1 .top))) r0 [.bool (gBool ((r.getD x0.toNat []).getD 0 .top)), .ints .u32 (gInts ((r.getD x0.toNat []).getD 1 .top))])) else none) else none) else none) else none) else (bif x0 == (↑vs.length : Int) then (bif inB x1 vsz.length then (bif inB x1 rz.length then (bif etasOk [.bool false, .ints .u32 []] (rz.getD x1.toNat []) then (bif cn (4294967296) (gBool ((rz.getD x1.toNat []).getD 0 .top)) (gInts ((rz.getD x1.toNat []).getD 1 .top)) && decide (l0.length ≤ 100000) && decide (r0.length ≤ 100000) && true && true then some (.normal, st0 vs r b m vsz rz bz mz x0 (IntKind.i64.wrap (x1 + 1)) (putV (num (4294967296) (gBool ((rz.getD x1.toNat []).getD 0 .top)) (gInts ((rz.getD x1.toNat []).getD 1 .top))) l0 (rd vsz x1)) (putR (num (4294967296) (gBool ((rz.getD x1.toNat []).getD 0 .top)) (gInts ((rz.getD x1.toNat []).getD 1 .top))) r0 [.bool (gBool ((rz.getD x1.toNat []).getD 0 .top)), .ints .u32 (gInts ((rz.getD x1.toNat []).getD 1 .top))])) else none) else none) else none) else none) else (bif inB x1 vsz.length then (bif inB x0 vs.length then (bif decide (rd vsz x1 < rd vs x0) then (bif inB x1 vsz.length then (bif inB x1 rz.length then (bif etasOk [.bool false, .ints .u32 []] (rz.getD x1.toNat []) then (bif cn (4294967296) (gBool ((rz.getD x1.toNat []).getD 0 .top)) (gInts ((rz.getD x1.toNat []).getD 1 .top)) && decide (l0.length ≤ 100000) && decide (r0.length ≤ 100000) && true && true then some (.normal, st0 vs r b m vsz rz bz mz x0 (IntKind.i64.wrap (x1 + 1)) (putV (num (4294967296) (gBool ((rz.getD x1.toNat []).getD 0 .top)) (gInts ((rz.getD x1.toNat []).getD 1 .top))) l0 (rd vsz x1)) (putR (num (4294967296) (gBool ((rz.getD x1.toNat []).getD 0 .top)) (gInts ((rz.getD x1.toNat []).getD 1 .top))) r0 [.bool (gBool ((rz.getD x1.toNat []).getD 0 .top)), .ints .u32 (gInts ((rz.getD x1.toNat []).getD 1 .top))])) else none) else none) else none) else none) else (bif inB x0 r.length then (bif etasOk [.bool false, .ints .u32 []] (r.getD x0.toNat []) then (bif inB x1 rz.length then (bif etasOk [.bool false, .ints .u32 []] (rz.getD x1.toNat []) then (bif cn (4294967296) (gBool ((r.getD x0.toNat []).getD 0 .top)) (gInts ((r.getD x0.toNat []).getD 1 .top)) && cn (4294967296) (gBool ((rz.getD x1.toNat []).getD 0 .top)) (gInts ((rz.getD x1.toNat []).getD 1 .top)) && fits (num (4294967296) (gBool ((r.getD x0.toNat []).getD 0 .top)) (gInts ((r.getD x0.toNat []).getD 1 .top))) && fits (num (4294967296) (gBool ((rz.getD x1.toNat []).getD 0 .top)) (gInts ((rz.getD x1.toNat []).getD 1 .top))) then (bif he (num (4294967296) (gBool ((r.getD x0.toNat []).getD 0 .top)) (gInts ((r.getD x0.toNat []).getD 1 .top)) + num (4294967296) (gBool ((rz.getD x1.toNat []).getD 0 .top)) (gInts ((rz.getD x1.toNat []).getD 1 .top))) != 0 then some (.ret, st0x0 vs r b m vsz rz bz mz (he (num (4294967296) (gBool ((r.getD x0.toNat []).getD 0 .top)) (gInts ((r.getD x0.toNat []).getD 1 .top)) + num (4294967296) (gBool ((rz.getD x1.toNat []).getD 0 .top)) (gInts ((rz.getD x1.toNat []).getD 1 .top)))) x0 x1 l0 r0) else (bif inB x0 vs.length then (bif cn (4294967296) (sg (hz (num (4294967296) (gBool ((r.getD x0.toNat []).getD 0 .top)) (gInts ((r.getD x0.toNat []).getD 1 .top)) + num (4294967296) (gBool ((rz.getD x1.toNat []).getD 0 .top)) (gInts ((rz.getD x1.toNat []).getD 1 .top))))) (lb (4294967296) (hz (num (4294967296) (gBool ((r.getD x0.toNat []).getD 0 .top)) (gInts ((r.getD x0.toNat []).getD 1 .top)) + num (4294967296) (gBool ((rz.getD x1.toNat []).getD 0 .top)) (gInts ((rz.getD x1.toNat []).getD 1 .top))))) && decide (l0.length ≤ 100000) && decide (r0.length ≤ 100000) && true && true then some (.normal, st0 vs r b m vsz rz bz mz (IntKind.i64.wrap (x0 + 1)) (IntKind.i64.wrap (x1 + 1)) (putV (N (4294967296) (hz (num (4294967296) (gBool ((r.getD x0.toNat []).getD 0 .top)) (gInts ((r.getD x0.toNat []).getD 1 .top)) + num (4294967296) (gBool ((rz.getD x1.toNat []).getD 0 .top)) (gInts ((rz.getD x1.toNat []).getD 1 .top))))) l0 (rd vs x0)) (putR (N (4294967296) (hz (num (4294967296) (gBool ((r.getD x0.toNat []).getD 0 .top)) (gInts ((r.getD x0.toNat []).getD 1 .top)) + num (4294967296) (gBool ((rz.getD x1.toNat []).getD 0 .top)) (gInts ((rz.getD x1.toNat []).getD 1 .top))))) r0 [.bool (sg (hz (num (4294967296) (gBool ((r.getD x0.toNat []).getD 0 .top)) (gInts ((r.getD x0.toNat []).getD 1 .top)) + num (4294967296) (gBool ((rz.getD x1.toNat []).getD 0 .top)) (gInts ((rz.getD x1.toNat []).getD 1 .top))))), .ints .u32 (lb (4294967296) (hz (num (4294967296) (gBool ((r.getD x0.toNat []).getD 0 .top)) (gInts ((r.getD x0.toNat []).getD 1 .top)) + num (4294967296) (gBool ((rz.getD x1.toNat []).getD 0 .top)) (gInts ((rz.getD x1.toNat []).getD 1 .top)))))])) else none) else none)) else none) else none) else none) else none) else none)) else none) else none))) else none) else none) else (bif x0 == (↑vs.length : Int) then (bif inB x1 vsz.length then (bif inB x1 rz.length then (bif etasOk [.bool false, .ints .u32 []] (rz.getD x1.toNat []) then (bif cn (4294967296) (gBool ((rz.getD x1.toNat []).getD 0 .top)) (gInts ((rz.getD x1.toNat []).getD 1 .top)) && decide (l0.length ≤ 100000) && decide (r0.length ≤ 100000) && true && true then some (.normal, st0 vs r b m vsz rz bz mz x0 (IntKind.i64.wrap (x1 + 1)) (putV (num (4294967296) (gBool ((rz.getD x1.toNat []).getD 0 .top)) (gInts ((rz.getD x1.toNat []).getD 1 .top))) l0 (rd vsz x1)) (putR (num (4294967296) (gBool ((rz.getD x1.toNat []).getD 0 .top)) (gInts ((rz.getD x1.toNat []).getD 1 .top))) r0 [.bool (gBool ((rz.getD x1.toNat []).getD 0 .top)), .ints .u32 (gInts ((rz.getD x1.toNat []).getD 1 .top))])) else none) else none) else none) else none) else (bif inB x1 vsz.length then (bif inB x0 vs.length then (bif decide (rd vsz x1 < rd vs x0) then (bif inB x1 vsz.length then (bif inB x1 rz.length then (bif etasOk [.bool false, .ints .u32 []] (rz.getD x1.toNat []) then (bif cn (4294967296) (gBool ((rz.getD x1.toNat []).getD 0 .top)) (gInts ((rz.getD x1.toNat []).getD 1 .top)) && decide (l0.length ≤ 100000) && decide (r0.length ≤ 100000) && true && true then some (.normal, st0 vs r b m vsz rz bz mz x0 (IntKind.i64.wrap (x1 + 1)) (putV (num (4294967296) (gBool ((rz.getD x1.toNat []).getD 0 .top)) (gInts ((rz.getD x1.toNat []).getD 1 .top))) l0 (rd vsz x1)) (putR (num (4294967296) (gBool ((rz.getD x1.toNat []).getD 0 .top)) (gInts ((rz.getD x1.toNat []).getD 1 .top))) r0 [.bool (gBool ((rz.getD x1.toNat []).getD 0 .top)), .ints .u32 (gInts ((rz.getD x1.toNat []).getD 1 .top))])) else none) else none) else none) else none) else (bif inB x0 r.length then (bif etasOk [.bool false, .ints .u32 []] (r.getD x0.toNat []) then (bif inB x1 rz.length then (bif etasOk [.bool false, .ints .u32 []] (rz.getD x1.toNat []) then (bif cn (4294967296) (gBool ((r.getD x0.toNat []).getD 0 .top)) (gInts ((r.getD x0.toNat []).getD 1 .top)) && cn (4294967296) (gBool ((rz.getD x1.toNat []).getD 0 .top)) (gInts ((rz.getD x1.toNat []).getD 1 .top)) && fits (num (4294967296) (gBool ((r.getD x0.toNat []).getD 0 .top)) (gInts ((r.getD x0.toNat []).getD 1 .top))) && fits (num (4294967296) (gBool ((rz.getD x1.toNat []).getD 0 .top)) (gInts ((rz.getD x1.toNat []).getD 1 .top))) then (bif he (num (4294967296) (gBool ((r.getD x0.toNat []).getD 0 .top)) (gInts ((r.getD x0.toNat []).getD 1 .top)) + num (4294967296) (gBool ((rz.getD x1.toNat []).getD 0 .top)) (gInts ((rz.getD x1.toNat []).getD 1 .top))) != 0 then some (.ret, st0x0 vs r b m vsz rz bz mz (he (num (4294967296) (gBool ((r.getD x0.toNat []).getD 0 .top)) (gInts ((r.getD x0.toNat []).getD 1 .top)) + num (4294967296) (gBool ((rz.getD x1.toNat []).getD 0 .top)) (gInts ((rz.getD x1.toNat []).getD 1 .top)))) x0 x1 l0 r0) else (bif inB x0 vs.length then (bif cn (4294967296) (sg (hz (num (4294967296) (gBool ((r.getD x0.toNat []).getD 0 .top)) (gInts ((r.getD x0.toNat []).getD 1 .top)) + num (4294967296) (gBool ((rz.getD x1.toNat []).getD 0 .top)) (gInts ((rz.getD x1.toNat []).getD 1 .top))))) (lb (4294967296) (hz (num (4294967296) (gBool ((r.getD x0.toNat []).getD 0 .top)) (gInts ((r.getD x0.toNat []).getD 1 .top)) + num (4294967296) (gBool ((rz.getD x1.toNat []).getD 0 .top)) (gInts ((rz.getD x1.toNat []).getD 1 .top))))) && decide (l0.length ≤ 100000) && decide (r0.length ≤ 100000) && true && true then some (.normal, st0 vs r b m vsz rz bz mz (IntKind.i64.wrap (x0 + 1)) (IntKind.i64.wrap (x1 + 1)) (putV (N (4294967296) (hz (num (4294967296) (gBool ((r.getD x0.toNat []).getD 0 .top)) (gInts ((r.getD x0.toNat []).getD 1 .top)) + num (4294967296) (gBool ((rz.getD x1.toNat []).getD 0 .top)) (gInts ((rz.getD x1.toNat []).getD 1 .top))))) l0 (rd vs x0)) (putR (N (4294967296) (hz (num (4294967296) (gBool ((r.getD x0.toNat []).getD 0 .top)) (gInts ((r.getD x0.toNat []).getD 1 .top)) + num (4294967296) (gBool ((rz.getD x1.toNat []).getD 0 .top)) (gInts ((rz.getD x1.toNat []).getD 1 .top))))) r0 [.bool (sg (hz (num (4294967296) (gBool ((r.getD x0.toNat []).getD 0 .top)) (gInts ((r.getD x0.toNat []).getD 1 .top)) + num (4294967296) (gBool ((rz.getD x1.toNat []).getD 0 .top)) (gInts ((rz.getD x1.toNat []).getD 1 .top))))), .ints .u32 (lb (4294967296) (hz (num (4294967296) (gBool ((r.getD x0.toNat []).getD 0 .top)) (gInts ((r.getD x0.toNat []).getD 1 .top)) + num (4294967296) (gBool ((rz.getD x1.toNat []).getD 0 .top)) (gInts ((rz.getD x1.toNat []).getD 1 .top)))))])) else none) else none)) else none) else none) else none) else none) else none)) else none) else none)))) else some (.exit 0, st0 vs r b m vsz rz bz mz x0 x1 l0 r0))) := by kernel_rfl
-- loop 0 ends ret st0x0 vs r b m vsz rz bz mz x2 x0 x1 l0 r0
-- loop 0 ends exit0 st0 vs r b m vsz rz bz mz x0 x1 l0 r0
theorem rest_0 (vs : List Int) (r : List (List AV)) (b : Bool) (m : List Int) (vsz : List Int) (rz : List (List AV)) (bz : Bool) (mz : List Int) (x3 : Int) (x4 : Int) (x5 : Int) (l1 : List Int) (r1 : List (List AV)) : runT T orc (tabOf T orc [(6, 1763146263722139015387046794638778454507682840383767806305557027341505186273382073010780345587440650389762056797356181821709806360394890272848033735547697980202627821294, .ret, st0x0 vs r b m vsz rz bz mz x3 x4 x5 l1 r1)]) Try.f46 [.agg [.ints .i64 vs, .rows 2 r, .bool b, .ints .u32 m], .agg [.ints .i64 vsz, .rows 2 rz, .bool bz, .ints .u32 mz]] =
    (bif cn (4294967296) b m && cn (4294967296) bz mz && fits (num (4294967296) b m) && fits (num (4294967296) bz mz) then (bif he (num (4294967296) b m + num (4294967296) bz mz) != 0 then some (.val (.tup [.agg [.ints .i64 [], .rows 2 [], .bool false, .ints .u32 []], .int .i64 (he (num (4294967296) b m + num (4294967296) bz mz))])) else (bif cdec (Ends T orc L0 D0 (st0 vs r b m vsz rz bz mz (0) (0) ([]) ([])) .ret (st0x0 vs r b m vsz rz bz mz x3 x4 x5 l1 r1)) then some (.val (.tup [.agg [.ints .i64 [], .rows 2 [], .bool false, .ints .u32 []], .int .i64 x3])) else none)) else none) := by kernel_rfl
theorem rest_1 (vs : List Int) (r : List (List AV)) (b : Bool) (m : List Int) (vsz : List Int) (rz : List (List AV)) (bz : Bool) (mz : List Int) (l2 : List Int) (r2 : List (List AV)) (x6 : Int) (x7 : Int) : runT T orc (tabOf T orc [(6, 1763146263722139015387046794638778454507682840383767806305557027341505186273382073010780345587440650389762056797356181821709806360394890272848033735547697980202627821294, .exit 0, st0 vs r b m vsz rz bz mz x6 x7 l2 r2)]) Try.f46 [.agg [.ints .i64 vs, .rows 2 r, .bool b, .ints .u32 m], .agg [.ints .i64 vsz, .rows 2 rz, .bool bz, .ints .u32 mz]] =
    (bif cn (4294967296) b m && cn (4294967296) bz mz && fits (num (4294967296) b m) && fits (num (4294967296) bz mz) then (bif he (num (4294967296) b m + num (4294967296) bz mz) != 0 then some (.val (.tup [.agg [.ints .i64 [], .rows 2 [], .bool false, .ints .u32 []], .int .i64 (he (num (4294967296) b m + num (4294967296) bz mz))])) else (bif cdec (Ends T orc L0 D0 (st0 vs r b m vsz rz bz mz (0) (0) ([]) ([])) (.exit 0) (st0 vs r b m vsz rz bz mz x6 x7 l2 r2)) then some (.val (.tup [.agg [.ints .i64 l2, .rows 2 r2, .bool (sg (hz (num (4294967296) b m + num (4294967296) bz mz))), .ints .u32 (lb (4294967296) (hz (num (4294967296) b m + num (4294967296) bz mz)))], .int .i64 (0)])) else none)) else none) := by kernel_rfl
end NAdd
end
end Go.Abs
end
