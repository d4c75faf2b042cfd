/- What the rows of this seat rest on, part 5: an abstract machine for the model, proved sound, and the functions that the statements reach. No conditions. -/
import Derived.Test.YthakloheglgfcaaXBase4
set_option linter.unusedVariables false
set_option linter.unusedSimpArgs false
set_option linter.unnecessarySimpa false
set_option linter.unusedSectionVars false
section
/- What the reference's functions of layer 1 answer: texts read. -/
namespace Go.Abs
open Go.Proofs Go.Dig
theorem drop_all {l : List Int} {i : Nat} (hi : i < l.length) : (l.drop i).all isDig = (isDig (l.getD i 0) && (l.drop (i + 1)).all isDig) := by
  rw [List.drop_eq_getElem_cons hi, List.all_cons, getD_at hi]
namespace RForm
theorem loop (s : ByteArray) (i0 : Nat) (b9 b10 : Bool) (x3 : Int) (b11 b12 : Bool) (hs : s.size ≤ 10000) (h0 : i0 ≤ s.size) :
    ∃ e S1, Ends T noOrc L0 D0 (st0 s i0 b9 b10 x3 b11 b12) e S1 ∧ ((e = .exit 0 ∧ ((bytesOf s).drop i0).all isDig = true ∧ ∃ x, S1 = st0 s x b9 b10 x3 b11 b12) ∨ (e = .ret ∧ ((bytesOf s).drop i0).all isDig = false ∧ ∃ x, S1 = st0 s x b9 b10 x3 b11 b12)) := by
  refine loop_inv1 (fun (i : Nat) => st0 s i b9 b10 x3 b11 b12) (fun i => i ≤ s.size ∧ ((bytesOf s).drop i0).all isDig = ((bytesOf s).drop i).all isDig) (fun i => s.size - i)
    (fun e S1 => (e = .exit 0 ∧ ((bytesOf s).drop i0).all isDig = true ∧ ∃ x, S1 = st0 s x b9 b10 x3 b11 b12) ∨ (e = .ret ∧ ((bytesOf s).drop i0).all isDig = false ∧ ∃ x, S1 = st0 s x b9 b10 x3 b11 b12)) isL0 ?_ i0 ⟨h0, rfl⟩
  intro i ⟨h1, h2⟩
  have hlen := bytes_len s
  refine ⟨noTab, noTab_all, lands_of (round0 ..) ?_⟩
  by_cases hi : i < s.size
  · have hd := drop_all (l := bytesOf s) (i := i) (by omega)
    rw [bt_nat]
    refine (lands_of (bT (decide_eq_true (by omega))) ?_)
    refine (lands_of (bT (inB_iff.2 (by omega))) ?_)
    by_cases ha : (bytesOf s).getD i 0 < 48
    · refine (lands_of (bT (decide_eq_true ha)) ?_)
      refine lands_some.2 (.inr ⟨rfl, ?_, _, rfl⟩)
      rw [h2, hd, show isDig ((bytesOf s).getD i 0) = false by rw [Bool.eq_false_iff, ne_eq, dig_iff]; omega]
      rfl
    · refine (lands_of (bF (decide_eq_false ha)) ?_)
      refine (lands_of (bT (inB_iff.2 (by omega))) ?_)
      by_cases hb : (bytesOf s).getD i 0 > 57
      · refine (lands_of (bT (decide_eq_true hb)) ?_)
        refine lands_some.2 (.inr ⟨rfl, ?_, _, rfl⟩)
        rw [h2, hd, show isDig ((bytesOf s).getD i 0) = false by rw [Bool.eq_false_iff, ne_eq, dig_iff]; omega]
        rfl
      · refine (lands_of (bF (decide_eq_false hb)) ?_)
        rw [wi_succ (show i < 4611686018427387904 by omega)]
        refine lands_some.2 ⟨i + 1, rfl, ⟨by omega, ?_⟩, by show s.size - (i + 1) < s.size - i; omega⟩
        rw [h2, hd, show isDig ((bytesOf s).getD i 0) = true by rw [dig_iff]; omega]
        rfl
  · refine (lands_of (bF (decide_eq_false (by omega))) ?_)
    refine lands_some.2 (.inl ⟨rfl, ?_, _, rfl⟩)
    rw [h2, List.drop_of_length_le (by omega)]
    rfl
end RForm
theorem form_D {s : ByteArray} {d : List Int} {n : Bool} (hd : digs (bytesOf s) = d) (hn : hasNeg (bytesOf s) = n) : form (bytesOf s) = formD d n := by
  unfold form formD
  rw [hd, hn]
theorem neg_drop (s : ByteArray) (h : bt s 0 = 45) : digs (bytesOf s) = (bytesOf s).drop 1 := by
  obtain ⟨h0, hn, hd⟩ := neg_of s h
  unfold digs
  rw [hn]; rfl
theorem meets_rform : Meets Try.prog 53 anrForm := by
  refine meets_fn noOrc_ok Try.f53 rfl (by kernel_rfl) (fun args r h => ?_)
  unfold anrForm at h
  split at h
  · rename_i s
    simp only [Option.some.injEq, Prod.mk.injEq] at h
    obtain ⟨h, rfl⟩ := h
    have hsz := of_decide_eq_true h
    have hlen := bytes_len s
    refine ⟨rfl, ?_⟩
    by_cases h45 : bt s 0 = 45
    · obtain ⟨h0, hn, _⟩ := neg_of s h45
      have hd := neg_drop s h45
      have e45 : (bt s 0 == 45) = true := by rw [h45]; rfl
      have hb1 : bt s 1 = ((bytesOf s).drop 1).getD 0 0 := by
        have := bt_nat s 1
        rw [show ((1 : Nat) : Int) = 1 from rfl] at this
        rw [this, List.getD_eq_getElem?_getD, List.getD_eq_getElem?_getD, List.getElem?_drop]
      have hl1 : ((bytesOf s).drop 1).length = s.size - 1 := by rw [List.length_drop, hlen]
      rw [form_D hd hn]
      by_cases h1 : s.size = 1
      · refine ⟨_, tabOf_all _, (RForm.rest_0 s 0 true true 0 true true).trans ?_⟩
        refine (bT (decide_eq_true (by omega))).trans ((bT (inB_iff.2 (by omega))).trans ((bT e45).trans ((bT (by rw [beq_iff_eq]; omega)).trans ?_)))
        rw [show formD ((bytesOf s).drop 1) true = false by rw [← Bool.not_eq_true, formD_eq]; intro hh; exact hh.1 (List.eq_nil_of_length_eq_zero (by omega))]
      · have e1 : (1 == (s.size : Int)) = false := by rw [beq_eq_false_iff_ne]; omega
        by_cases h48 : bt s 1 = 48
        · refine ⟨_, tabOf_all _, (RForm.rest_0 s 0 true true 0 true true).trans ?_⟩
          refine (bT (decide_eq_true (by omega))).trans ((bT (inB_iff.2 (by omega))).trans ((bT e45).trans ((bF e1).trans ((bT (inB_iff.2 (by omega))).trans ((bT (by rw [beq_iff_eq]; exact h48)).trans ((bT (decide_eq_true (by omega))).trans ?_))))))
          rw [show formD ((bytesOf s).drop 1) true = false by rw [← Bool.not_eq_true, formD_eq]; intro hh; exact hh.2.1 ⟨by omega, .inr rfl⟩]
        · have e48 : (bt s 1 == 48) = false := by rw [beq_eq_false_iff_ne]; exact h48
          obtain ⟨e2, S1, hE1, ⟨rfl, hall, x, rfl⟩ | ⟨rfl, hall, x, rfl⟩⟩ := RForm.loop s 1 true (bt s 0 == 45) 1 (1 == (s.size : Int)) false hsz (by omega)
          · refine ⟨_, tabOf_all _, (RForm.rest_1 s x true (bt s 0 == 45) 1 (1 == (s.size : Int)) false).trans ?_⟩
            refine (bT (decide_eq_true (by omega))).trans ((bT (inB_iff.2 (by omega))).trans ((bT e45).trans ((bF e1).trans ((bT (inB_iff.2 (by omega))).trans ((bF e48).trans ((bT (cdec_true hE1)).trans ?_))))))
            rw [show formD ((bytesOf s).drop 1) true = true from (formD_eq _ _).2 ⟨fun hh => by rw [hh] at hl1; simp at hl1; omega, fun hh => h48 (by rw [hb1]; exact hh.1), hall⟩]
          · refine ⟨_, tabOf_all _, (RForm.rest_0 s x true (bt s 0 == 45) 1 (1 == (s.size : Int)) false).trans ?_⟩
            refine (bT (decide_eq_true (by omega))).trans ((bT (inB_iff.2 (by omega))).trans ((bT e45).trans ((bF e1).trans ((bT (inB_iff.2 (by omega))).trans ((bF e48).trans ((bT (cdec_true hE1)).trans ?_))))))
            rw [show formD ((bytesOf s).drop 1) true = false by rw [← Bool.not_eq_true, formD_eq]; intro hh; rw [hall] at hh; cases hh.2.2]
    · obtain ⟨hn, hd⟩ := pos_of s h45
      have e45 : (bt s 0 == 45) = false := by rw [beq_eq_false_iff_ne]; exact h45
      have hb0 : bt s 0 = (bytesOf s).getD 0 0 := bt_nat s 0
      rw [form_D hd hn]
      by_cases h0 : s.size = 0
      · refine ⟨_, tabOf_all _, (RForm.rest_0 s 0 true true 0 true true).trans ?_⟩
        refine (bF (decide_eq_false (by omega))).trans ((bT (by rw [beq_iff_eq]; omega)).trans ?_)
        rw [show formD (bytesOf s) false = false by rw [← Bool.not_eq_true, formD_eq]; intro hh; exact hh.1 (List.eq_nil_of_length_eq_zero (by omega))]
      · have e1 : (0 == (s.size : Int)) = false := by rw [beq_eq_false_iff_ne]; omega
        by_cases hbad : bt s 0 = 48 ∧ s.size > 1
        · refine ⟨_, tabOf_all _, (RForm.rest_0 s 0 true true 0 true true).trans ?_⟩
          refine (bT (decide_eq_true (by omega))).trans ((bT (inB_iff.2 (by omega))).trans ((bF e45).trans ((bF e1).trans ((bT (inB_iff.2 (by omega))).trans ((bT (by rw [beq_iff_eq]; exact hbad.1)).trans ((bT (decide_eq_true (by omega))).trans ?_))))))
          rw [show formD (bytesOf s) false = false by rw [← Bool.not_eq_true, formD_eq]; intro hh; exact hh.2.1 ⟨by omega, .inl (by omega)⟩]
        · have join : ∀ (X Y Z : Option Res), (s.size ≤ 1 → X = Z) → (¬ bt s 0 = 48 → Y = Z) → (bif bt s 0 == 48 then (bif decide ((s.size : Int) > 1) then some (.val (.bool false)) else X) else Y) = Z := by
            intro X Y Z hX hY
            by_cases h48 : bt s 0 = 48
            · rw [bT (by rw [beq_iff_eq]; exact h48), bF (decide_eq_false (by omega))]
              exact hX (by omega)
            · rw [bF (by rw [beq_eq_false_iff_ne]; exact h48)]
              exact hY h48
          obtain ⟨e2, S1, hE1, ⟨rfl, hall, x, rfl⟩ | ⟨rfl, hall, x, rfl⟩⟩ := RForm.loop s 0 true (bt s 0 == 45) 0 (0 == (s.size : Int)) false hsz (by omega)
          · refine ⟨_, tabOf_all _, (RForm.rest_1 s x true (bt s 0 == 45) 0 (0 == (s.size : Int)) false).trans ?_⟩
            refine (bT (decide_eq_true (by omega))).trans ((bT (inB_iff.2 (by omega))).trans ((bF e45).trans ((bF e1).trans ((bT (inB_iff.2 (by omega))).trans ?_))))
            rw [List.drop_zero] at hall
            rw [show formD (bytesOf s) false = true from (formD_eq _ _).2 ⟨fun hh => by rw [hh] at hlen; exact h0 hlen.symm, fun hh => hbad ⟨by omega, by rcases hh.2 with h | h; omega; cases h⟩, hall⟩]
            refine join _ _ _ (fun hle => ?_) (fun _ => bT (cdec_true hE1))
            rw [decide_eq_false (show ¬ (s.size : Int) > 1 by omega)]
            exact bT (cdec_true hE1)
          · refine ⟨_, tabOf_all _, (RForm.rest_0 s x true (bt s 0 == 45) 0 (0 == (s.size : Int)) false).trans ?_⟩
            refine (bT (decide_eq_true (by omega))).trans ((bT (inB_iff.2 (by omega))).trans ((bF e45).trans ((bF e1).trans ((bT (inB_iff.2 (by omega))).trans ?_))))
            rw [List.drop_zero] at hall
            rw [show formD (bytesOf s) false = false by rw [← Bool.not_eq_true, formD_eq]; intro hh; rw [hall] at hh; cases hh.2.2]
            refine join _ _ _ (fun hle => ?_) (fun _ => bT (cdec_true hE1))
            rw [decide_eq_false (show ¬ (s.size : Int) > 1 by omega)]
            exact bT (cdec_true hE1)
  · cases h
namespace RExact
theorem loop (s : ByteArray) (hs : s.size ≤ 10000) (i0 : Nat) (h0 : i0 ≤ s.size) (hall : ((bytesOf s).drop i0).all isDig = true) (hi0 : i0 = 0 ∨ (i0 = 1 ∧ bt s 0 = 45)) :
    ∃ e S1, Ends T orc L0 D0 (st0 s ((s.size : Int) - 1) []) e S1 ∧ (e = .exit 0 ∧ ∃ x, S1 = st0 s x (((bytesOf s).drop i0).reverse.map (· - 48))) := by
  have hlen := bytes_len s
  refine loop_inv2 (fun (i : Nat) l0 => st0 s ((i : Int) - 1) l0) (fun i l0 => i0 ≤ i ∧ i ≤ s.size ∧ l0 = ((bytesOf s).drop i).reverse.map (· - 48)) (fun i l0 => i)
    (fun e S1 => e = .exit 0 ∧ ∃ x, S1 = st0 s x (((bytesOf s).drop i0).reverse.map (· - 48))) isL0 ?_ s.size [] ⟨h0, Nat.le_refl _, by rw [List.drop_of_length_le (by omega)]; rfl⟩
  intro i l0 ⟨h1, h2, h3⟩
  refine ⟨noTab, noTab_all, lands_of (round0 ..) ?_⟩
  by_cases hi : i = i0
  · subst hi
    rcases hi0 with hi0 | ⟨hi0, hb⟩
    · refine (lands_of (bF (decide_eq_false (by omega))) ?_)
      rw [h3]
      exact lands_some.2 ⟨rfl, _, rfl⟩
    · have e0 : ((i : Int) - 1) = 0 := by omega
      rw [e0]
      refine (lands_of (bT (decide_eq_true (by omega))) ?_)
      refine (lands_of (bT (inB_iff.2 (by omega))) ?_)
      refine (lands_of (bF (by rw [hb]; rfl)) ?_)
      rw [h3]
      exact lands_some.2 ⟨rfl, _, rfl⟩
  · obtain ⟨j, rfl⟩ : ∃ j, i = j + 1 := ⟨i - 1, by omega⟩
    have ej : (((j + 1 : Nat) : Int) - 1) = (j : Int) := by omega
    rw [ej, bt_nat]
    have hc : isDig ((bytesOf s).getD j 0) = true := by
      refine List.all_eq_true.1 hall _ ?_
      rw [getD_at (by omega)]
      refine List.mem_iff_getElem.2 ⟨j - i0, by rw [List.length_drop]; omega, ?_⟩
      rw [List.getElem_drop]
      congr 1
      omega
    have hc := dig_iff.1 hc
    have ew : IntKind.i64.wrap (IntKind.u8.wrap ((bytesOf s).getD j 0 - 48)) = (bytesOf s).getD j 0 - 48 := by
      rw [IntWalk.u8_in _ ⟨by omega, by omega⟩, w64 (by omega) (by omega)]
    rw [ew]
    refine (lands_of (bT (decide_eq_true (by omega))) ?_)
    refine (lands_of (bT (inB_iff.2 (by omega))) ?_)
    refine (lands_of (bT (by rw [bne_iff_ne]; omega)) ?_)
    refine (lands_of (bT (inB_iff.2 (by omega))) ?_)
    refine (lands_of (bT (by rw [Bool.true_and]; exact decide_eq_true (by rw [List.length_append, h3, List.length_map, List.length_reverse, List.length_drop, List.length_singleton]; omega))) ?_)
    refine lands_some.2 ⟨j, _, by rw [w64 (by omega) (by omega)], ⟨by omega, by omega, ?_⟩, by show j < j + 1; omega⟩
    rw [h3, List.drop_eq_getElem_cons (by omega : j < (bytesOf s).length), List.reverse_cons, List.map_append, getD_at (by omega)]
    rfl
end RExact
theorem meets_rexact : Meets Try.prog 54 anrExact := by
  refine meets_fn (orc_ok (l := RExact.ans) ⟨meets_rtrim, trivial⟩) Try.f54 rfl (by kernel_rfl) (fun args r h => ?_)
  unfold anrExact at h
  split at h
  · rename_i s
    simp only [Option.some.injEq, Prod.mk.injEq, Bool.and_eq_true, decide_eq_true_eq] at h
    obtain ⟨⟨hsz, hf⟩, rfl⟩ := h
    have hlen := bytes_len s
    have hall : (digs (bytesOf s)).all isDig = true := by unfold form at hf; rw [Bool.and_eq_true] at hf; exact hf.2
    have hne : digs (bytesOf s) ≠ [] := by
      intro h0
      unfold form at hf
      rw [h0] at hf
      cases hf
    have hok : okB 10 ((digs (bytesOf s)).reverse.map (· - 48)) = true := by
      refine okB_iff.2 (fun d hd => ?_)
      obtain ⟨c, hc, rfl⟩ := List.mem_map.1 hd
      have := dig_iff.1 (List.all_eq_true.1 hall c (List.mem_reverse.1 hc))
      omega
    have hdl : (digs (bytesOf s)).length ≤ s.size := by
      unfold digs
      cases hasNeg (bytesOf s) <;> simp only [cond_true, cond_false, List.length_drop] <;> omega
    have h0 : 0 < s.size := by
      have := List.length_pos_iff.2 hne
      omega
    have ew : IntKind.i64.wrap ((s.size : Int) - 1) = (s.size : Int) - 1 := w64 (by omega) (by omega)
    have fin : ∀ (b : Bool) (x : Int), hasNeg (bytesOf s) = b → (bt s 0 == 45) = b → Ends T RExact.orc RExact.L0 RExact.D0 (RExact.st0 s ((s.size : Int) - 1) []) (.exit 0) (RExact.st0 s x ((digs (bytesOf s)).reverse.map (· - 48))) →
        ∃ tab, (∀ C, TabOk T RExact.orc tab C) ∧ runT T RExact.orc tab Try.f54 [.str s] = some (.val (M (tval (bytesOf s)))) := by
      intro b x hb hbt hE
      refine ⟨_, tabOf_all _, (RExact.rest s ((digs (bytesOf s)).reverse.map (· - 48)) x).trans ?_⟩
      rw [ew]
      refine (bT (cdec_true hE)).trans ((bT (inB_iff.2 (by omega))).trans ((bT ?_).trans ?_))
      · rw [hok, few_iff.2 (by rw [List.length_map, List.length_reverse]; omega)]; rfl
      · rw [hbt]
        unfold tval
        rw [hb]
        rfl
    refine ⟨rfl, ?_⟩
    by_cases h45 : bt s 0 = 45
    · obtain ⟨_, hn, _⟩ := neg_of s h45
      have hd := neg_drop s h45
      obtain ⟨e1, S1, hE1, rfl, x, rfl⟩ := RExact.loop s hsz 1 (by omega) (by rw [← hd]; exact hall) (.inr ⟨rfl, h45⟩)
      rw [← hd] at hE1
      exact fin true x hn (by rw [h45]; rfl) hE1
    · obtain ⟨hn, hd⟩ := pos_of s h45
      obtain ⟨e1, S1, hE1, rfl, x, rfl⟩ := RExact.loop s hsz 0 (by omega) (by rw [List.drop_zero, ← hd]; exact hall) (.inl rfl)
      rw [List.drop_zero, ← hd] at hE1
      exact fin false x hn (by rw [beq_eq_false_iff_ne]; exact h45) (by rw [hd]; rw [hd] at hE1; exact hE1)
  · cases h
set_option exponentiation.threshold 20000 in
theorem ten400_Lim : (10 : Nat) ^ 400 < Lim := Nat.lt_of_not_le (fun h => by
  have h2 : Nat.ble Lim (10 ^ 400) = true := Nat.ble_eq_true_of_le h
  have h3 : Nat.ble Lim (10 ^ 400) = false := by kernel_rfl
  rw [h3] at h2; cases h2)
set_option exponentiation.threshold 20000 in
theorem tval_lim {l : List Int} (hf : form l = true) (hl : l.length ≤ 400) : (tval l).natAbs < Lim := by
  have hall : (digs l).all isDig = true := by unfold form at hf; rw [Bool.and_eq_true] at hf; exact hf.2
  have hdl : (digs l).length ≤ 400 := by
    unfold digs
    cases hasNeg l <;> simp only [cond_true, cond_false, List.length_drop] <;> omega
  have hb := dval_bound _ hall
  have hp := pow_mono (B := 10) (by decide) hdl
  have h1 : dval (digs l) < ((10 ^ 400 : Nat) : Int) := by rw [Int.natCast_pow]; exact Int.lt_of_lt_of_le hb.2 hp
  have h2 : (dval (digs l)).natAbs < Lim := Nat.lt_trans (by omega) ten400_Lim
  unfold tval
  cases hasNeg l <;> simp only [cond_true, cond_false, Int.natAbs_neg] <;> exact h2
theorem meets_rparse : Meets Try.prog 17 anrParse := by
  refine meets_fn (orc_ok (l := RParse.ans) ⟨meets_rform, meets_rexact, meets_rtoobig, trivial⟩) Try.f17 rfl (by kernel_rfl) (fun args r h => ?_)
  unfold anrParse at h
  split at h
  · rename_i s
    simp only [Option.some.injEq, Prod.mk.injEq] at h
    obtain ⟨h, rfl⟩ := h
    have hsz := of_decide_eq_true h
    have hlen := bytes_len s
    refine ⟨rfl, _, noTab_all, (RParse.rest s).trans ((bT h).trans ?_)⟩
    cases hf : form (bytesOf s) with
    | false =>
      unfold rv re
      rw [hf]; rfl
    | true =>
      refine (bF rfl).trans ?_
      by_cases hbig : s.size > 400
      · refine (bT (decide_eq_true (by omega))).trans ?_
        have hdl : (digs (bytesOf s)).length > 343 := by
          unfold digs
          cases hasNeg (bytesOf s) <;> simp only [cond_true, cond_false, List.length_drop] <;> omega
        have hD : formD (digs (bytesOf s)) (hasNeg (bytesOf s)) = true := by rw [← form_D rfl rfl]; exact hf
        have hall : (digs (bytesOf s)).all isDig = true := ((formD_eq _ _).1 hD).2.2
        have h0 : (digs (bytesOf s)).getD 0 0 ≠ 48 := fun h0 => ((formD_eq _ _).1 hD).2.1 ⟨h0, .inl (by omega)⟩
        have hb := dval_big hall h0 hdl
        have hfz : fits (tval (bytesOf s)) = false := by
          refine big_fits ?_
          unfold tval
          cases hasNeg (bytesOf s) <;> simp only [cond_true, cond_false, az] <;> omega
        unfold rv re
        rw [hf]
        simp only [cond_true]
        unfold hz he
        rw [hfz]; rfl
      · refine (bF (decide_eq_false (by omega))).trans ((bT (by rw [h]; rfl)).trans ((bT ?_).trans ?_))
        · rw [cn10]; exact decide_eq_true (tval_lim hf (by omega))
        · rw [N10_eq]
          unfold rv re
          rw [hf]
          simp only [cond_true]
          unfold hz he
          cases fits (tval (bytesOf s)) <;> rfl
  · cases h
end Go.Abs
end
section
/- The statements of layer 1: their helpers. -/
namespace Go.Abs
open Go.Proofs Go.Dig
theorem cut_size (s : ByteArray) : (s.extract 0 400).size ≤ 400 := by rw [ByteArray.size_extract]; omega
theorem meets_num : Meets Try.prog 20 anlNum := by
  refine meets_fn (orc_ok (l := LNum.ans) ⟨meets_parse, meets_rparse, trivial⟩) Try.f20 rfl (by kernel_rfl) (fun args r h => ?_)
  unfold anlNum at h
  split at h
  · rename_i s
    simp only [Option.some.injEq, Prod.mk.injEq] at h
    obtain ⟨_, rfl⟩ := h
    refine ⟨rfl, _, noTab_all, (LNum.rest s).trans ?_⟩
    unfold nv cut
    have hc := cut_size s
    by_cases h4 : s.size > 400
    · rw [decide_eq_true h4, decide_eq_true (show (s.size : Int) > 400 by omega), decide_eq_true (show (400 : Int) ≤ (s.size : Int) by omega), decide_eq_true (show (s.extract 0 400).size ≤ 10000 by omega)]
      rfl
    · rw [decide_eq_false h4, decide_eq_false (show ¬ (s.size : Int) > 400 by omega), decide_eq_true (show s.size ≤ 10000 by omega)]
      rfl
  · cases h
theorem meets_awake : Meets Try.prog 15 anlAwake := by
  refine meets_fn (orc_ok (l := LAwake.ans) ⟨meets_from, meets_div, meets_parse, meets_mul, meets_text, meets_gcd, trivial⟩) Try.f15 rfl (by kernel_rfl) (fun args r h => ?_)
  unfold anlAwake at h
  split at h
  · simp only [Option.some.injEq, Prod.mk.injEq] at h
    obtain ⟨_, rfl⟩ := h
    exact ⟨rfl, _, noTab_all, LAwake.rest⟩
  · cases h
/-- A number's text tells the number. -/
theorem txt_digits {z : Int} (h : z ≠ 0) : form (txtL z) = true ∧ tval (txtL z) = z := by
  have hne : limbs 10 (z.natAbs : Int) ≠ [] := fun hh => by have := (limbs_nil T_two (by omega)).1 hh; omega
  have ok := limbs_ok T_pos (z.natAbs : Int)
  have hlast := limbs_last 10 (z.natAbs : Int)
  have hall : (dig (limbs 10 (z.natAbs : Int))).all isDig = true := by
    refine List.all_eq_true.2 (fun c hc => ?_)
    unfold dig at hc
    obtain ⟨d, hd, rfl⟩ := List.mem_map.1 hc
    have := okB_iff.1 ok d (List.mem_reverse.1 hd)
    exact dig_iff.2 (by omega)
  have hv : dval (dig (limbs 10 (z.natAbs : Int))) = z.natAbs := by
    unfold dval dig
    simp only [List.map_reverse, List.reverse_reverse, List.map_map]
    have : ((fun x : Int => x - 48) ∘ fun x => x + 48) = id := by funext x; simp
    rw [this, List.map_id]
    exact limbs_val T_two (by omega)
  have hdn : dig (limbs 10 (z.natAbs : Int)) ≠ [] := by
    unfold dig
    simpa using hne
  have h48 : (dig (limbs 10 (z.natAbs : Int))).getD 0 0 ≠ 48 := by
    intro h48
    have e : (dig (limbs 10 (z.natAbs : Int))).getD 0 0 = (limbs 10 (z.natAbs : Int)).getLast hne + 48 := by
      unfold dig
      rw [List.getD_eq_getElem?_getD, ← List.head?_eq_getElem?, List.head?_map, List.head?_reverse, List.getLast?_eq_some_getLast hne]
      rfl
    rw [e] at h48
    exact hlast (by rw [List.getLast?_eq_some_getLast hne]; congr 1; omega)
  have h45 : hasNeg (dig (limbs 10 (z.natAbs : Int))) = false := by
    cases hd : dig (limbs 10 (z.natAbs : Int)) with
    | nil => rfl
    | cons c l =>
      rw [hd, List.all_cons, Bool.and_eq_true] at hall
      have := dig_iff.1 hall.1
      show (c == 45) = false
      rw [beq_eq_false_iff_ne]; omega
  have key : ∀ n, formD (dig (limbs 10 (z.natAbs : Int))) n = true := fun n => (formD_eq _ _).2 ⟨hdn, fun hh => h48 hh.1, hall⟩
  unfold txtL
  rw [if_neg h]
  by_cases hneg : z < 0
  · rw [if_pos hneg]
    have e1 : digs ([45] ++ dig (limbs 10 (z.natAbs : Int))) = dig (limbs 10 (z.natAbs : Int)) := rfl
    have e2 : hasNeg ([45] ++ dig (limbs 10 (z.natAbs : Int))) = true := rfl
    unfold form tval
    rw [e1, e2]
    refine ⟨key true, ?_⟩
    rw [cond_true, hv]; omega
  · rw [if_neg hneg, List.nil_append]
    have e1 : digs (dig (limbs 10 (z.natAbs : Int))) = dig (limbs 10 (z.natAbs : Int)) := by unfold digs; rw [h45]; rfl
    unfold form tval
    rw [e1, h45]
    refine ⟨key false, ?_⟩
    rw [cond_false, hv]; omega
theorem txtL_inj {x y : Int} (h : txtL x = txtL y) : x = y := by
  by_cases hx : x = 0
  · by_cases hy : y = 0
    · rw [hx, hy]
    · have := (txt_digits hy).2
      rw [← h, hx, show tval (txtL 0) = 0 from by decide] at this
      omega
  · by_cases hy : y = 0
    · have := (txt_digits hx).2
      rw [h, hy, show tval (txtL 0) = 0 from by decide] at this
      omega
    · rw [← (txt_digits hx).2, h, (txt_digits hy).2]
theorem txtL_byte (z : Int) : ∀ c ∈ txtL z, 0 ≤ c ∧ c < 256 := by
  intro c hc
  unfold txtL at hc
  by_cases h : z = 0
  · rw [if_pos h] at hc
    have := List.mem_singleton.1 hc
    omega
  · rw [if_neg h] at hc
    rcases List.mem_append.1 hc with hc | hc
    · split at hc
      · have := List.mem_singleton.1 hc; omega
      · cases hc
    · unfold dig at hc
      obtain ⟨d, hd, rfl⟩ := List.mem_map.1 hc
      have := okB_iff.1 (limbs_ok T_pos (z.natAbs : Int)) d (List.mem_reverse.1 hd)
      omega
theorem bytesOf_strOf {l : List Int} (h : ∀ c ∈ l, 0 ≤ c ∧ c < 256) : bytesOf (strOf l) = l := by
  unfold bytesOf strOf
  simp only [List.map_map]
  refine (List.map_congr_left (g := id) (fun c hc => ?_)).trans (List.map_id l)
  have := h c hc
  show ((UInt8.ofNat c.toNat).toNat : Int) = c
  rw [UInt8.toNat_ofNat']
  omega
theorem toList_inj {a b : ByteArray} (h : a.toList = b.toList) : a = b := by
  rw [ByteArray.toList_eq, ByteArray.toList_eq] at h
  exact ByteArray.ext (Array.toList_inj.1 h)
theorem bytesOf_txt (z : Int) : bytesOf (txt z) = txtL z := bytesOf_strOf (txtL_byte z)
theorem txt_inj {x y : Int} (h : txt x = txt y) : x = y := txtL_inj (by rw [← bytesOf_txt, ← bytesOf_txt, h])
theorem txt_beq (x y : Int) : ((txt x).toList == (txt y).toList) = decide (x = y) := by
  by_cases h : x = y
  · rw [h, decide_eq_true rfl]; exact beq_self_eq_true _
  · rw [decide_eq_false h, beq_eq_false_iff_ne]
    exact fun hh => h (txt_inj (toList_inj hh))
theorem meets_same : Meets Try.prog 18 anlSame := by
  refine meets_fn (orc_ok (l := LSame.ans) ⟨meets_text, meets_rshow, trivial⟩) Try.f18 rfl (by kernel_rfl) (fun args r h => ?_)
  unfold anlSame at h
  split at h
  · rename_i s l e t m c
    simp only [Option.some.injEq, Prod.mk.injEq, Bool.and_eq_true] at h
    obtain ⟨⟨h1, h2⟩, rfl⟩ := h
    refine ⟨rfl, _, noTab_all, (LSame.rest s l e t m c).trans ?_⟩
    rw [h1, h2, txt_beq]
    by_cases hec : e = c
    · rw [bT (by rw [beq_iff_eq]; exact hec), decide_eq_true hec]; rfl
    · rw [bF (by rw [beq_eq_false_iff_ne]; exact hec), decide_eq_false hec]; rfl
  · cases h
/-- What num gives is held. -/
theorem fits_rv (s : ByteArray) : fits (rv s) = true := by
  have f0 : fits 0 = true := by kernel_rfl
  unfold rv
  cases form (bytesOf s) with
  | false => exact f0
  | true =>
    rw [cond_true]
    unfold hz
    cases hf : fits (tval (bytesOf s)) with
    | false => exact f0
    | true => exact hf
theorem fits_nv (s : ByteArray) : fits (nv s) = true := fits_rv _
end Go.Abs
end
section
/- The statements of layer 1: texts read, numbers reckoned. -/
namespace Go.Abs
open Go.Proofs Go.Dig
/-- A text of the right form is its number's text. -/
theorem txtL_tval {l : List Int} (h : form l = true) : txtL (tval l) = l := by
  have hD : formD (digs l) (hasNeg l) = true := h
  obtain ⟨hne, h48, hall⟩ := (formD_eq _ _).1 hD
  have hok : okB 10 ((digs l).reverse.map (· - 48)) = true := by
    refine okB_iff.2 (fun d hd => ?_)
    obtain ⟨c, hc, rfl⟩ := List.mem_map.1 hd
    have := dig_iff.1 (List.all_eq_true.1 hall c (List.mem_reverse.1 hc))
    omega
  have hback : dig ((digs l).reverse.map (· - 48)) = digs l := by
    unfold dig
    simp only [List.map_reverse, List.reverse_reverse, List.map_map]
    have : ((fun x : Int => x + 48) ∘ fun x => x - 48) = id := by funext x; simp
    rw [this, List.map_id]
  have hl : l = (if hasNeg l = true then [45] else []) ++ digs l := by
    unfold digs hasNeg
    cases l with
    | nil => rfl
    | cons c l =>
      by_cases hc : c = 45
      · subst hc; rfl
      · have : (c == 45) = false := by rw [beq_eq_false_iff_ne]; exact hc
        simp [this]
  cases hd : digs l with
  | nil => exact absurd hd hne
  | cons c r =>
    rw [hd] at hall
    rw [List.all_cons, Bool.and_eq_true] at hall
    have hc := dig_iff.1 hall.1
    have hr := dval_bound r hall.2
    have hdv := dval_cons c r
    by_cases h0 : c = 48
    · have hh : r = [] ∧ hasNeg l = false := by
        rw [hd] at h48
        have h48' : ¬ (r.length + 1 > 1 ∨ hasNeg l = true) := fun hh => h48 ⟨h0, hh⟩
        refine ⟨List.eq_nil_of_length_eq_zero (by omega), ?_⟩
        cases hn : hasNeg l with
        | false => rfl
        | true => exact absurd (.inr hn) h48'
      have ht : tval l = 0 := by
        unfold tval
        rw [hh.2, hd, hh.1, h0]; decide
      rw [ht, hl, hh.2, hd, hh.1, h0]; rfl
    · have hlast : ((digs l).reverse.map (· - 48)).getLast? ≠ some 0 := by
        rw [hd, List.reverse_cons, List.map_append, List.getLast?_append]
        simp
        omega
      have hself := limbs_self T_two hok hlast
      have hv : val 10 ((digs l).reverse.map (· - 48)) = dval (digs l) := rfl
      rw [hv] at hself
      have hpos : 0 < dval (digs l) := by
        rw [hd, hdv]
        have hp : (0 : Int) < 10 ^ r.length := Int.pow_pos (by decide)
        have : 1 * (10 : Int) ^ r.length ≤ (c - 48) * 10 ^ r.length := Int.mul_le_mul_of_nonneg_right (by omega) (by omega)
        omega
      unfold txtL tval
      cases hn : hasNeg l with
      | true =>
        rw [hn] at hl
        rw [cond_true, if_neg (by omega), if_pos (by omega), show ((- dval (digs l)).natAbs : Int) = dval (digs l) by omega, hself, hback]
        rw [if_pos rfl] at hl
        exact hl.symm
      | false =>
        rw [hn] at hl
        rw [cond_false, if_neg (by omega), if_neg (by omega), show ((dval (digs l)).natAbs : Int) = dval (digs l) by omega, hself, hback]
        rw [if_neg (by decide)] at hl
        exact hl.symm
theorem bytesOf_inj {a b : ByteArray} (h : bytesOf a = bytesOf b) : a = b := by
  have hs : a.size = b.size := by rw [← bytes_len, ← bytes_len, h]
  unfold bytesOf at h
  have : a.data.toList = b.data.toList := by
    refine (List.map_inj_right (fun x y hxy => ?_)).1 h
    have hxy : (x.toNat : Int) = y.toNat := hxy
    exact UInt8.toNat_inj.1 (by omega)
  exact ByteArray.ext (Array.toList_inj.1 this)
theorem small_rv (s : ByteArray) : (rv s).natAbs < Lim := small_of_fits (fits_rv s)
theorem law_reads : Meets Try.prog 3 (fun a => match a with | [.str _] => some (true, .val (.bool true)) | _ => none) := by
  refine meets_fn (orc_ok (l := LReads.ans) ⟨meets_awake, meets_same, meets_parse, meets_text, meets_rparse, trivial⟩) Try.f3 rfl (by kernel_rfl) (fun args r h => ?_)
  split at h
  · rename_i s
    simp only [Option.some.injEq, Prod.mk.injEq] at h
    obtain ⟨_, rfl⟩ := h
    refine ⟨rfl, _, noTab_all, (LReads.rest s).trans ?_⟩
    by_cases h5 : s.size > 5000
    · exact bT (decide_eq_true (by omega))
    · refine (bF (decide_eq_false (by omega))).trans ?_
      rw [N_eq, N10_eq, cnW, cn10, decide_eq_true (small_rv s), decide_eq_true (show s.size ≤ 10000 by omega), decide_eq_true (rfl : re s = re s), decide_eq_true (rfl : rv s = rv s)]
      simp only [Bool.and_self, Bool.not_true, cond_true, cond_false]
      by_cases he0 : re s = 0
      · refine (bF (by rw [he0]; rfl)).trans ?_
        have hform : form (bytesOf s) = true := by
          cases hf : form (bytesOf s) with
          | true => rfl
          | false => unfold re at he0; rw [hf] at he0; cases he0
        have hrv : rv s = tval (bytesOf s) := by
          have h1 : re s = he (tval (bytesOf s)) := by unfold re; rw [hform, cond_true]
          have h2 : rv s = hz (tval (bytesOf s)) := by unfold rv; rw [hform, cond_true]
          rw [h2]
          exact hz_of (he_zero.1 (by rw [← h1]; exact he0))
        have : txt (rv s) = s := bytesOf_inj (by rw [bytesOf_txt, hrv, txtL_tval hform])
        rw [this, beq_self_eq_true]
      · exact bT (by rw [bne_iff_ne]; exact he0)
  · cases h
end Go.Abs
end
section
/- The statements of layer 1: powers multiplied. -/
namespace Go.Abs
open Go.Proofs Go.Dig
theorem small_hz (z : Int) : (hz z).natAbs < Lim := small_of_fits (fits_hz z)
theorem small_nv (s : ByteArray) : (nv s).natAbs < Lim := small_of_fits (fits_nv s)
theorem cmpZ_self (z : Int) : cmpZ z z = 0 := by unfold cmpZ; rw [if_neg (by omega), if_neg (by omega)]
theorem pz_of {a n : Int} (h : 0 ≤ n) : pz a n = hz (a ^ n.toNat) ∧ pc a n = he (a ^ n.toNat) := by
  unfold pz pc
  rw [if_neg (by omega), if_neg (by omega)]
  exact ⟨rfl, rfl⟩
theorem law_factors : Meets Try.prog 14 (fun a => match a with | [.str _, .int .i64 _, .int .i64 _] => some (true, .val (.bool true)) | _ => none) := by
  refine meets_fn (orc_ok (l := LFactors.ans) ⟨meets_awake, meets_num, meets_pow, meets_mul, meets_cmp, trivial⟩) Try.f14 rfl (by kernel_rfl) (fun args r h => ?_)
  split at h
  · rename_i s n m
    simp only [Option.some.injEq, Prod.mk.injEq] at h
    obtain ⟨_, rfl⟩ := h
    refine ⟨rfl, _, noTab_all, (LFactors.rest s n m).trans ?_⟩
    have ha := fits_nv s
    have hsm := small_nv s
    by_cases h1 : n < 0
    · exact bT (decide_eq_true h1)
    refine (bF (decide_eq_false h1)).trans ?_
    by_cases h2 : m < 0
    · exact bT (decide_eq_true h2)
    refine (bF (decide_eq_false h2)).trans ?_
    by_cases h3 : n > 1100
    · exact bT (decide_eq_true h3)
    refine (bF (decide_eq_false h3)).trans ?_
    by_cases h4 : m > 1100
    · exact bT (decide_eq_true h4)
    refine (bF (decide_eq_false h4)).trans ?_
    have ew : IntKind.i64.wrap (n + m) = n + m := w64 (by omega) (by omega)
    have i1 : i64B n = true := by unfold i64B; rw [decide_eq_true (show -9223372036854775808 ≤ n by omega), decide_eq_true (show n ≤ 9223372036854775807 by omega)]; rfl
    have i2 : i64B m = true := by unfold i64B; rw [decide_eq_true (show -9223372036854775808 ≤ m by omega), decide_eq_true (show m ≤ 9223372036854775807 by omega)]; rfl
    have i3 : i64B (n + m) = true := by unfold i64B; rw [decide_eq_true (show -9223372036854775808 ≤ n + m by omega), decide_eq_true (show n + m ≤ 9223372036854775807 by omega)]; rfl
    simp only [ew, N_eq, cnW, (pz_of (a := nv s) (show 0 ≤ n by omega)).1, (pz_of (a := nv s) (show 0 ≤ n by omega)).2, (pz_of (a := nv s) (show 0 ≤ m by omega)).1, (pz_of (a := nv s) (show 0 ≤ m by omega)).2, (pz_of (a := nv s) (show 0 ≤ n + m by omega)).1, (pz_of (a := nv s) (show 0 ≤ n + m by omega)).2]
    rw [show (n + m).toNat = n.toNat + m.toNat by omega, Int.pow_add]
    generalize nv s ^ n.toNat = x
    generalize nv s ^ m.toNat = y
    rw [decide_eq_true hsm, ha, i1, i2, i3, decide_eq_true (small_hz x), decide_eq_true (small_hz y), fits_hz, fits_hz, decide_eq_true (small_hz (x * y)), decide_eq_true (small_hz (hz x * hz y))]
    simp only [Bool.and_self, cond_true]
    by_cases hx : he x = 0
    · by_cases hy : he y = 0
      · rw [hz_of (he_zero.1 hx), hz_of (he_zero.1 hy), hx, hy, cmpZ_self]
        generalize he (x * y) = w
        rw [show (w == w) = true from beq_self_eq_true w]
        cases (w != 0) <;> rfl
      · rw [hx]
        exact (bF rfl).trans (bT (by rw [bne_iff_ne]; exact hy))
    · exact bT (by rw [bne_iff_ne]; exact hx)
  · cases h
end Go.Abs
end
section
/- The statements of layer 1: order, small numbers, powers. -/
namespace Go.Abs
open Go.Proofs Go.Dig
theorem sg_az (z : Int) : sg (az z) = false := by unfold sg; rw [decide_eq_false_iff_not]; have := az_nonneg z; omega
theorem cnW_az (z : Int) : cn 4294967296 false (lb 4294967296 (az z)) = decide (z.natAbs < Lim) := by
  have := cnW (az z)
  rw [sg_az] at this
  rw [this]; rfl
theorem cn10_az (z : Int) : cn 10 false (lb 10 (az z)) = decide (z.natAbs < Lim) := by
  have := cn10 (az z)
  rw [sg_az] at this
  rw [this]; rfl
theorem numW_az (z : Int) : num 4294967296 false (lb 4294967296 (az z)) = az z := by
  have := num_lbW (az z)
  rw [sg_az] at this; exact this
theorem num10_az (z : Int) : num 10 false (lb 10 (az z)) = az z := by
  have := num_lb10 (az z)
  rw [sg_az] at this; exact this
theorem small_pz (a n : Int) : (pz a n).natAbs < Lim := by
  unfold pz
  split
  · exact Nat.lt_of_le_of_lt (Nat.zero_le _) (small_of_fits (z := 0) (by kernel_rfl))
  · exact small_hz _
theorem law_powers : Meets Try.prog 12 (fun a => match a with | [.str _, .int .i64 n] => some (i64B n, .val (.bool true)) | _ => none) := by
  refine meets_fn (orc_ok (l := LPowers.ans) ⟨meets_awake, meets_num, meets_same, meets_pow, meets_rpow, trivial⟩) Try.f12 rfl (by kernel_rfl) (fun args r h => ?_)
  split at h
  · rename_i s n
    simp only [Option.some.injEq, Prod.mk.injEq] at h
    obtain ⟨hn, rfl⟩ := h
    refine ⟨rfl, _, noTab_all, (LPowers.rest s n).trans ?_⟩
    simp only [N_eq, N10_eq, cnW, cn10, hn, fits_nv, decide_eq_true (small_nv s), decide_eq_true (small_pz (nv s) n), Bool.and_self, cond_true, decide_true]
  · cases h
theorem law_small : Meets Try.prog 9 (fun a => match a with | [.int .i64 n, .str _] => some (i64B n, .val (.bool true)) | _ => none) := by
  refine meets_fn (orc_ok (l := LSmall.ans) ⟨meets_awake, meets_num, meets_from, meets_small, meets_text, meets_rfrom, meets_rsmall, meets_rshow, trivial⟩) Try.f9 rfl (by kernel_rfl) (fun args r h => ?_)
  split at h
  · rename_i n s
    simp only [Option.some.injEq, Prod.mk.injEq] at h
    obtain ⟨hn, rfl⟩ := h
    have hb : -9223372036854775808 ≤ n ∧ n ≤ 9223372036854775807 := by
      unfold i64B at hn; rw [Bool.and_eq_true, decide_eq_true_eq, decide_eq_true_eq] at hn; exact hn
    have hsm : n.natAbs < Lim := Nat.lt_of_le_of_lt (m := 10 ^ 343) (by omega) ten_Lim
    refine ⟨rfl, _, noTab_all, (LSmall.rest n s).trans ?_⟩
    have hz : sz n = n := by unfold sz; rw [hn]; rfl
    simp only [N_eq, N10_eq, cnW, cn10, hn, hz, decide_eq_true (small_nv s), decide_eq_true hsm, beq_self_eq_true, bne_self_eq_false, Bool.and_self, Bool.not_true, cond_true, cond_false]
  · cases h
theorem cmpZ_swap (x y : Int) : cmpZ y x = 0 - cmpZ x y := by unfold cmpZ; (repeat' split) <;> omega
theorem cmpZ_bound (x y : Int) : -1 ≤ cmpZ x y ∧ cmpZ x y ≤ 1 := by unfold cmpZ; (repeat' split) <;> omega
theorem law_orders : Meets Try.prog 10 (fun a => match a with | [.str _, .str _] => some (true, .val (.bool true)) | _ => none) := by
  refine meets_fn (orc_ok (l := LOrders.ans) ⟨meets_awake, meets_num, meets_cmp, meets_bits, meets_sign, meets_neg, meets_abs, meets_text, meets_rcmp, meets_rbits, meets_rneg, meets_rabs, meets_rshow, trivial⟩) Try.f10 rfl (by kernel_rfl) (fun args r h => ?_)
  split at h
  · rename_i s t
    simp only [Option.some.injEq, Prod.mk.injEq] at h
    obtain ⟨_, rfl⟩ := h
    refine ⟨rfl, _, noTab_all, (LOrders.rest s t).trans ?_⟩
    have hc := cmpZ_bound (nv s) (nv t)
    have ew : IntKind.i64.wrap (0 - cmpZ (nv s) (nv t)) = cmpZ (nv t) (nv s) := by rw [w64 (by omega) (by omega), ← cmpZ_swap]
    simp only [N_eq, N10_eq, cnW, cn10, cnW_az, cn10_az, numW_az, num10_az, ew, decide_eq_true (small_nv s), decide_eq_true (small_nv t), decide_eq_true (small_neg (small_nv s)), beq_self_eq_true, bne_self_eq_false, Bool.and_self, Bool.not_true, cond_true, cond_false]
  · cases h
end Go.Abs
end
section
/- The statements of layer 1: numbers reckoned. -/
namespace Go.Abs
open Go.Proofs Go.Dig
theorem lim_twice {a b : Nat} (ha : a < 2 ^ 1024) (hb : b < 2 ^ 1024) : a + b + 1 < Lim := by
  have h := big_1024
  have h1 : (4 : Nat) ≤ 2 ^ 1024 := Nat.le_of_ble_eq_true (by kernel_rfl)
  generalize (2 : Nat) ^ 1024 = W at *
  have : 4 * W ≤ W * W := Nat.mul_le_mul_right W h1
  omega
theorem natAbs_ediv (a b : Int) : (a / b).natAbs ≤ a.natAbs := Int.natAbs_ediv_le_natAbs a b
theorem small_dq {x y : Int} (hx : fits x = true) : (dq x y).natAbs < Lim := by
  have h1 := lim_twice (fits_iff.1 hx) (fits_iff.1 hx)
  unfold dq
  split
  · exact Nat.lt_of_le_of_lt (Nat.zero_le _) h1
  · have h2 := natAbs_ediv x y
    rw [Int.fdiv_eq_ediv]
    split <;> omega
theorem small_dr {x y : Int} (hx : fits x = true) (hy : fits y = true) : (dr x y).natAbs < Lim := by
  have h1 := lim_twice (fits_iff.1 hy) (fits_iff.1 hy)
  unfold dr
  split
  · exact Nat.lt_of_le_of_lt (Nat.zero_le _) h1
  · rename_i h0
    have h2 := Int.emod_nonneg x h0
    have h3 := Int.emod_lt x h0
    rw [Int.fmod_eq_emod]
    split <;> omega
theorem gz_nonneg (x y : Int) : 0 ≤ gz x y := by unfold gz; omega
theorem az_gz (x y : Int) : az (gz x y) = gz x y := by unfold az gz; omega
theorem gz_le (x y : Int) : (gz x y).natAbs ≤ x.natAbs + y.natAbs := by
  unfold gz
  rw [Int.natAbs_natCast]
  by_cases h : x = 0
  · subst h
    rw [Int.gcd_zero_left]; omega
  · have : Int.gcd x y ≤ x.natAbs := Nat.le_of_dvd (by omega) (Nat.gcd_dvd_left _ _)
    omega
theorem small_gz {x y : Int} (hx : fits x = true) (hy : fits y = true) : (gz x y).natAbs < Lim := by
  have h1 := lim_twice (fits_iff.1 hx) (fits_iff.1 hy)
  have := gz_le x y
  omega
theorem cnW_gz (x y : Int) : cn 4294967296 false (lb 4294967296 (gz x y)) = decide ((gz x y).natAbs < Lim) := by have := cnW_az (gz x y); rw [az_gz] at this; exact this
theorem cn10_gz (x y : Int) : cn 10 false (lb 10 (gz x y)) = decide ((gz x y).natAbs < Lim) := by have := cn10_az (gz x y); rw [az_gz] at this; exact this
theorem numW_gz (x y : Int) : num 4294967296 false (lb 4294967296 (gz x y)) = gz x y := by have := numW_az (gz x y); rw [az_gz] at this; exact this
theorem num10_gz (x y : Int) : num 10 false (lb 10 (gz x y)) = gz x y := by have := num10_az (gz x y); rw [az_gz] at this; exact this
theorem small_sub {x y : Int} (hx : fits x = true) (hy : fits y = true) : (x - y).natAbs < Lim := by
  have h1 := lim_twice (fits_iff.1 hx) (fits_iff.1 hy)
  omega
theorem law_reckons : Meets Try.prog 5 (fun a => match a with | [.str _, .str _] => some (true, .val (.bool true)) | _ => none) := by
  refine meets_fn (orc_ok (l := LReckons.ans) ⟨meets_awake, meets_num, meets_same, meets_add, meets_sub, meets_mul, meets_div, meets_gcd, meets_text, meets_rheld, meets_radd, meets_rsub, meets_rmul, meets_rdiv, meets_rgcd, meets_rshow, trivial⟩) Try.f5 rfl (by kernel_rfl) (fun args r h => ?_)
  split at h
  · rename_i s t
    simp only [Option.some.injEq, Prod.mk.injEq] at h
    obtain ⟨_, rfl⟩ := h
    refine ⟨rfl, _, noTab_all, (LReckons.rest s t).trans ?_⟩
    have fs := fits_nv s
    have ft := fits_nv t
    simp only [N_eq, N10_eq, cnW, cn10, cnW_gz, cn10_gz, numW_gz, num10_gz, fits_nv, decide_eq_true (small_nv s), decide_eq_true (small_nv t), decide_eq_true (small_add fs ft), decide_eq_true (small_sub fs ft), decide_eq_true (small_mul fs ft), decide_eq_true (small_dq (y := nv t) fs), decide_eq_true (small_dr fs ft), decide_eq_true (small_gz fs ft), decide_eq_true (small_hz _), beq_self_eq_true, bne_self_eq_false, Bool.and_self, Bool.not_true, cond_true, cond_false, decide_true]
  · cases h
end Go.Abs
end
section
/- The statements of layer 1: rings, moves. -/
namespace Go.Abs
open Go.Proofs Go.Dig
theorem hz_he {z : Int} (h : he z = 0) : hz z = z := hz_of (he_zero.1 h)
theorem he_fits {z : Int} (h : fits z = true) : he z = 0 := he_of h
theorem ne_b {x y : Int} (h : x ≠ y) : (x != y) = true := by rw [bne_iff_ne]; exact h
theorem eq_b {x y : Int} (h : x = y) : (x != y) = false := by subst h; exact bne_self_eq_false x
theorem law_ring : Meets Try.prog 11 (fun a => match a with | [.str _, .str _, .str _] => some (true, .val (.bool true)) | _ => none) := by
  refine meets_fn (orc_ok (l := LRing.ans) ⟨meets_awake, meets_num, meets_add, meets_sub, meets_mul, meets_cmp, trivial⟩) Try.f11 rfl (by kernel_rfl) (fun args r h => ?_)
  split at h
  · rename_i s t u
    simp only [Option.some.injEq, Prod.mk.injEq] at h
    obtain ⟨_, rfl⟩ := h
    refine ⟨rfl, _, noTab_all, (LRing.rest s t u).trans ?_⟩
    have fa := fits_nv s
    have fb := fits_nv t
    have fc := fits_nv u
    simp only [N_eq, cnW, fits_nv, fits_hz, decide_eq_true (small_nv s), decide_eq_true (small_nv t), decide_eq_true (small_nv u), decide_eq_true (small_hz _), Bool.and_self, cond_true]
    generalize nv s = a at *
    generalize nv t = b at *
    generalize nv u = c at *
    rw [Int.add_comm b a, Int.mul_comm b a, cmpZ_self, cmpZ_self]
    refine (bF (eq_b rfl)).trans ((bF (eq_b rfl)).trans ((bF rfl).trans ((bF rfl).trans ?_)))
    have h0 := he_cases (a + b)
    have h1 := he_cases (a * b)
    have h2 := he_cases (b + c)
    have h3 := he_cases (a * hz (b + c))
    have h4 := he_cases (a * c)
    have h5 := he_cases (hz (a * b) + hz (a * c))
    have tail : (bif IntKind.i64.wrap (IntKind.i64.wrap (IntKind.i64.wrap (IntKind.i64.wrap (IntKind.i64.wrap (he (a + b) + he (a * b)) + he (b + c)) + he (a * hz (b + c))) + he (a * c)) + he (hz (a * b) + hz (a * c))) != 0 then some (Res.val (.bool true)) else (bif cmpZ (hz (a * hz (b + c))) (hz (hz (a * b) + hz (a * c))) == 0 then (bif he (hz (a * b) * c) != 0 then some (.val (.bool true)) else (bif he (b * c) != 0 then some (.val (.bool true)) else (bif he (a * hz (b * c)) != 0 then some (.val (.bool true)) else some (.val (.bool (cmpZ (hz (hz (a * b) * c)) (hz (a * hz (b * c))) == 0)))))) else some (.val (.bool false)))) = some (.val (.bool true)) := by
      rw [w64 (n := he (a + b) + he (a * b)) (by omega) (by omega), w64 (n := he (a + b) + he (a * b) + he (b + c)) (by omega) (by omega), w64 (n := he (a + b) + he (a * b) + he (b + c) + he (a * hz (b + c))) (by omega) (by omega), w64 (n := he (a + b) + he (a * b) + he (b + c) + he (a * hz (b + c)) + he (a * c)) (by omega) (by omega), w64 (by omega) (by omega)]
      by_cases hs : he (a + b) + he (a * b) + he (b + c) + he (a * hz (b + c)) + he (a * c) + he (hz (a * b) + hz (a * c)) = 0
      · refine (bF (eq_b hs)).trans ?_
        have g1 := hz_he (z := a * b) (by omega)
        have g2 := hz_he (z := b + c) (by omega)
        have g4 := hz_he (z := a * c) (by omega)
        rw [g1, g2, g4, Int.mul_add, cmpZ_self]
        refine (bT rfl).trans ?_
        by_cases k1 : he (a * b * c) = 0
        · refine (bF (eq_b k1)).trans ?_
          by_cases k2 : he (b * c) = 0
          · refine (bF (eq_b k2)).trans ?_
            rw [hz_he k2]
            by_cases k3 : he (a * (b * c)) = 0
            · refine (bF (eq_b k3)).trans ?_
              rw [Int.mul_assoc, cmpZ_self]
              rfl
            · exact bT (ne_b k3)
          · exact bT (ne_b k2)
        · exact bT (ne_b k1)
      · exact bT (ne_b hs)
    by_cases g : he (a + b) = 0
    · refine (bT (by rw [beq_iff_eq]; exact g)).trans ?_
      have e1 : a + b - b = a := by omega
      rw [hz_he g, e1, he_fits fa, hz_of fa, cmpZ_self]
      rw [g] at tail
      refine (bF rfl).trans ((bF rfl).trans ?_)
      rw [g]
      exact tail
    · refine (bF (by rw [beq_eq_false_iff_ne]; exact g)).trans ?_
      exact tail
  · cases h
theorem cmpZ_add (x y z : Int) : cmpZ (x + z) (y + z) = cmpZ x y := by unfold cmpZ; (repeat' split) <;> omega
theorem cmpZ_mul (x y z : Int) : cmpZ (x * z) (y * z) = cmpZ x y * cmpZ z 0 := by
  have key : ∀ {x y : Int}, x < y → cmpZ (x * z) (y * z) = - cmpZ z 0 := by
    intro x y h
    rcases Int.lt_trichotomy z 0 with hz | hz | hz
    · have := Int.mul_lt_mul_of_neg_right h hz
      unfold cmpZ; rw [if_neg (by omega), if_pos (by omega), if_pos hz]
      rfl
    · subst hz; rw [Int.mul_zero, Int.mul_zero]; rfl
    · have := Int.mul_lt_mul_of_pos_right h hz
      unfold cmpZ; rw [if_pos (by omega), if_neg (by omega), if_pos (by omega)]
  rcases Int.lt_trichotomy x y with h | h | h
  · rw [key h, show cmpZ x y = -1 by unfold cmpZ; rw [if_pos h]]; omega
  · subst h; rw [cmpZ_self, cmpZ_self]; omega
  · rw [cmpZ_swap, key h, show cmpZ x y = 1 by unfold cmpZ; rw [if_neg (by omega), if_pos h]]; omega
theorem law_moves : Meets Try.prog 8 (fun a => match a with | [.str _, .str _, .str _] => some (true, .val (.bool true)) | _ => none) := by
  refine meets_fn (orc_ok (l := LMoves.ans) ⟨meets_awake, meets_num, meets_add, meets_mul, meets_cmp, meets_sign, trivial⟩) Try.f8 rfl (by kernel_rfl) (fun args r h => ?_)
  split at h
  · rename_i s t u
    simp only [Option.some.injEq, Prod.mk.injEq] at h
    obtain ⟨_, rfl⟩ := h
    refine ⟨rfl, _, noTab_all, (LMoves.rest s t u).trans ?_⟩
    have fa := fits_nv s
    have fb := fits_nv t
    have fc := fits_nv u
    simp only [N_eq, cnW, fits_nv, decide_eq_true (small_nv s), decide_eq_true (small_nv t), decide_eq_true (small_nv u), decide_eq_true (small_hz _), Bool.and_self, cond_true]
    generalize nv s = a at *
    generalize nv t = b at *
    generalize nv u = c at *
    have tail : (bif he (a * c) != 0 then some (Res.val (.bool true)) else (bif he (b * c) != 0 then some (.val (.bool true)) else some (.val (.bool (cmpZ (hz (a * c)) (hz (b * c)) == IntKind.i64.wrap (cmpZ a b * cmpZ c 0)))))) = some (.val (.bool true)) := by
      by_cases g1 : he (a * c) = 0
      · refine (bF (eq_b g1)).trans ?_
        by_cases g2 : he (b * c) = 0
        · refine (bF (eq_b g2)).trans ?_
          have hb := cmpZ_bound (a * c) (b * c)
          rw [hz_he g1, hz_he g2, ← cmpZ_mul, w64 (by omega) (by omega)]
          rw [show (cmpZ (a * c) (b * c) == cmpZ (a * c) (b * c)) = true from beq_self_eq_true _]
        · exact bT (ne_b g2)
      · exact bT (ne_b g1)
    by_cases g1 : he (a + c) = 0
    · refine (bT (by rw [beq_iff_eq]; exact g1)).trans ?_
      by_cases g2 : he (b + c) = 0
      · refine (bT (by rw [beq_iff_eq]; exact g2)).trans ?_
        rw [hz_he g1, hz_he g2]
        exact (bF (eq_b (cmpZ_add a b c))).trans tail
      · exact (bF (by rw [beq_eq_false_iff_ne]; exact g2)).trans tail
    · exact (bF (by rw [beq_eq_false_iff_ne]; exact g1)).trans tail
  · cases h
end Go.Abs
end
section
/- The statements of layer 1: quotients and rests, divisors. -/
namespace Go.Abs
open Go.Proofs Go.Dig
/-- Quotient and rest, as the page has them. -/
theorem dq_dr (x : Int) {y : Int} (h : y ≠ 0) : dr x y + y * dq x y = x ∧ ((0 < y ∧ 0 ≤ dr x y ∧ dr x y < y) ∨ (y < 0 ∧ y < dr x y ∧ dr x y ≤ 0)) := by
  unfold dq dr
  rw [if_neg h, if_neg h]
  refine ⟨Int.fmod_add_mul_fdiv x y, ?_⟩
  rcases Int.lt_or_gt_of_ne h with hy | hy
  · refine .inr ⟨hy, ?_⟩
    have h2 := Int.emod_nonneg x h
    have h3 := Int.emod_lt x h
    rw [Int.fmod_eq_emod]
    split
    · rename_i h4
      have h5 : x % y = 0 := Int.emod_eq_zero_of_dvd (by rcases h4 with h4 | h4; omega; exact h4)
      omega
    · rename_i h4
      have h5 : x % y ≠ 0 := fun h5 => h4 (.inr (Int.dvd_of_emod_eq_zero h5))
      omega
  · exact .inl ⟨hy, Int.fmod_nonneg_of_pos x hy, Int.fmod_lt_of_pos x hy⟩
theorem dq_le (x : Int) {y : Int} (h : y ≠ 0) : (dq x y).natAbs ≤ x.natAbs := by
  obtain ⟨h1, h2⟩ := dq_dr x h
  generalize dq x y = q at *
  generalize dr x y = r at *
  by_cases hq0 : q = 0
  · subst hq0; simp
  by_cases hq1 : q = -1
  · subst hq1
    rw [Int.mul_neg, Int.mul_one] at h1
    omega
  have hyq : y * q = x - r := by omega
  rcases h2 with ⟨y0, r0, r1⟩ | ⟨y0, r0, r1⟩
  · rcases (by omega : 1 ≤ q ∨ q ≤ -2) with hq | hq
    · have : 1 * q ≤ y * q := Int.mul_le_mul_of_nonneg_right (by omega) (by omega)
      omega
    · have h3 : y * q ≤ y * (q + 1) - y := by rw [Int.mul_add]; omega
      have h4 : y * (q + 1) ≤ 1 * (q + 1) := Int.mul_le_mul_of_nonpos_right (by omega) (by omega)
      omega
  · rcases (by omega : 1 ≤ q ∨ q ≤ -2) with hq | hq
    · have : y * q ≤ (-1) * q := Int.mul_le_mul_of_nonneg_right (by omega) (by omega)
      omega
    · have h4 : (-1) * (q + 1) ≤ y * (q + 1) := Int.mul_le_mul_of_nonpos_right (by omega) (by omega)
      have h5 : y * (q + 1) = y * q + y := by rw [Int.mul_add, Int.mul_one]
      omega
theorem fits_le {x y : Int} (h : fits y = true) (hle : x.natAbs ≤ y.natAbs) : fits x = true := fits_iff.2 (Nat.lt_of_le_of_lt hle (fits_iff.1 h))
theorem fits_dq {x y : Int} (hx : fits x = true) : fits (dq x y) = true := by
  by_cases h : y = 0
  · unfold dq; rw [if_pos h]; kernel_rfl
  · exact fits_le hx (dq_le x h)
theorem fits_dr {x y : Int} (hy : fits y = true) : fits (dr x y) = true := by
  by_cases h : y = 0
  · unfold dr; rw [if_pos h]; kernel_rfl
  · obtain ⟨h1, h2⟩ := dq_dr x h
    exact fits_le hy (by omega)
theorem fits_gz {x y : Int} (hx : fits x = true) (hy : fits y = true) : fits (gz x y) = true := by
  unfold gz
  by_cases h : x = 0
  · subst h
    rw [Int.gcd_zero_left]
    exact fits_le hy (by omega)
  · have : Int.gcd x y ≤ x.natAbs := Nat.le_of_dvd (by omega) (Nat.gcd_dvd_left _ _)
    exact fits_le hx (by omega)
/-- Where the quotient times the divisor is too large, the number is nearly so. -/
theorem big_back {x y : Int} (hx : fits x = true) (hy : fits y = true) (h0 : y ≠ 0) (h : fits (dq x y * y) = false) : blen (az x) ≥ 1024 := by
  obtain ⟨h1, h2⟩ := dq_dr x h0
  refine Int.not_lt.1 (fun hlt => ?_)
  have hb : blen (az x) ≤ ((1023 : Nat) : Int) := by omega
  rw [blen_le (az_nonneg x)] at hb
  have hx2 : az x * 2 < 2 ^ 1024 := by rw [show (1024 : Nat) = 1023 + 1 from rfl, Int.pow_succ]; omega
  rw [Bool.eq_false_iff, ne_eq, fits_iff] at h
  have hyf := fits_iff.1 hy
  have e : ((2 ^ 1024 : Nat) : Int) = (2 : Int) ^ 1024 := Int.natCast_pow 2 1024
  rw [← e] at hx2
  generalize (2 : Nat) ^ 1024 = W at *
  rw [Int.mul_comm] at h
  generalize dq x y = q at *
  generalize dr x y = r at *
  unfold az at hx2
  by_cases hq0 : q = 0
  · subst hq0; simp at h; omega
  by_cases hq1 : q = -1
  · subst hq1; rw [Int.mul_neg, Int.mul_one] at h; omega
  rcases h2 with ⟨y0, r0, r1⟩ | ⟨y0, r0, r1⟩
  · rcases (by omega : 1 ≤ q ∨ q ≤ -2) with hq | hq
    · have : y * 1 ≤ y * q := Int.mul_le_mul_of_nonneg_left (by omega) (by omega)
      omega
    · have : y * q ≤ y * (-2) := Int.mul_le_mul_of_nonneg_left (by omega) (by omega)
      omega
  · rcases (by omega : 1 ≤ q ∨ q ≤ -2) with hq | hq
    · have : y * q ≤ y * 1 := Int.mul_le_mul_of_nonpos_left (by omega) (by omega)
      omega
    · have : y * (-2) ≤ y * q := Int.mul_le_mul_of_nonpos_left (by omega) (by omega)
      omega
theorem law_divides : Meets Try.prog 7 (fun a => match a with | [.str _, .str _] => some (true, .val (.bool true)) | _ => none) := by
  refine meets_fn (orc_ok (l := LDivides.ans) ⟨meets_awake, meets_num, meets_add, meets_div, meets_mul, meets_cmp, meets_sign, meets_abs, meets_bits, trivial⟩) Try.f7 rfl (by kernel_rfl) (fun args r h => ?_)
  split at h
  · rename_i s t
    simp only [Option.some.injEq, Prod.mk.injEq] at h
    obtain ⟨_, rfl⟩ := h
    refine ⟨rfl, _, noTab_all, (LDivides.rest s t).trans ?_⟩
    have fa := fits_nv s
    have fb := fits_nv t
    simp only [N_eq, cnW, cnW_az, numW_az, fits_nv, fits_hz, fits_dq fa, fits_dr (x := nv s) fb, decide_eq_true (small_nv s), decide_eq_true (small_nv t), decide_eq_true (small_of_fits (fits_dq (y := nv t) fa)), decide_eq_true (small_of_fits (fits_dr (x := nv s) fb)), decide_eq_true (small_hz _), Bool.and_self, cond_true]
    generalize nv s = x at *
    generalize nv t = y at *
    by_cases h0 : y = 0
    · subst h0
      rfl
    · have hc : (cmpZ y 0 == 0) = false := by
        rw [beq_eq_false_iff_ne]; unfold cmpZ; (repeat' split) <;> omega
      have hdc : dc y = 0 := by unfold dc; rw [if_neg h0]
      refine (bF hc).trans ?_
      rw [hdc]
      refine (bF rfl).trans ?_
      by_cases hf : he (dq x y * y) = 0
      · refine (bF (eq_b hf)).trans ?_
        obtain ⟨h1, h2⟩ := dq_dr x h0
        have e1 : dq x y * y + dr x y = x := by rw [Int.mul_comm]; omega
        rw [hz_he hf, e1, he_fits fa, hz_of fa, cmpZ_self]
        refine (bT rfl).trans ((bT rfl).trans ?_)
        have hlt : decide (cmpZ (az (dr x y)) (az y) < 0) = true := by
          rw [decide_eq_true_eq]
          unfold cmpZ az
          rw [if_pos (by omega)]; decide
        rw [hlt]
        by_cases hr : dr x y = 0
        · exact bT (by rw [hr]; rfl)
        · refine (bF (by rw [beq_eq_false_iff_ne]; unfold cmpZ; (repeat' split) <;> omega)).trans ?_
          exact bT (by rw [beq_iff_eq]; unfold cmpZ; (repeat' split) <;> omega)
      · have h11 : he (dq x y * y) = 11 := by rcases he_cases (dq x y * y) with h | h; exact absurd h hf; exact h
        have hfz : fits (dq x y * y) = false := by
          cases hh : fits (dq x y * y) with
          | false => rfl
          | true => exact absurd (he_fits hh) hf
        refine (bT (ne_b hf)).trans ((bT rfl).trans ((bT (by rw [h11]; rfl)).trans ?_))
        rw [decide_eq_true (big_back fa fb h0 hfz)]
  · cases h
end Go.Abs
end
section
/- The statements of layer 1: common divisors. -/
namespace Go.Abs
open Go.Proofs Go.Dig
theorem gz_law {x y : Int} (h : x ≠ 0 ∨ y ≠ 0) : 0 < gz x y ∧ dr x (gz x y) = 0 ∧ dr y (gz x y) = 0 ∧ gz (dq x (gz x y)) (dq y (gz x y)) = 1 := by
  have hp : 0 < Int.gcd x y := Nat.pos_of_ne_zero (fun h0 => by rw [Int.gcd_eq_zero_iff] at h0; omega)
  have d1 : (Int.gcd x y : Int) ∣ x := Int.gcd_dvd_left ..
  have d2 : (Int.gcd x y : Int) ∣ y := Int.gcd_dvd_right ..
  have hq := Int.gcd_ediv_gcd_ediv_gcd hp
  unfold gz dr dq
  rw [if_neg (by omega), if_neg (by omega), if_neg (by omega), if_neg (by omega), Int.fdiv_eq_ediv_of_nonneg _ (by omega), Int.fdiv_eq_ediv_of_nonneg _ (by omega), hq]
  exact ⟨by omega, Int.fmod_eq_zero_of_dvd d1, Int.fmod_eq_zero_of_dvd d2, rfl⟩
theorem law_divisors : Meets Try.prog 4 (fun a => match a with | [.str _, .str _] => some (true, .val (.bool true)) | _ => none) := by
  refine meets_fn (orc_ok (l := LDivisors.ans) ⟨meets_awake, meets_num, meets_gcd, meets_div, meets_sign, meets_text, trivial⟩) Try.f4 rfl (by kernel_rfl) (fun args r h => ?_)
  split at h
  · rename_i s t
    simp only [Option.some.injEq, Prod.mk.injEq] at h
    obtain ⟨_, rfl⟩ := h
    refine ⟨rfl, _, noTab_all, (LDivisors.rest s t).trans ?_⟩
    have fa := fits_nv s
    have fb := fits_nv t
    have fg := fits_gz fa fb
    have fx := fits_dq (y := gz (nv s) (nv t)) fa
    have fy := fits_dq (y := gz (nv s) (nv t)) fb
    simp only [N_eq, cnW, cnW_az, numW_az, cnW_gz, numW_gz, decide_eq_true (small_nv s), decide_eq_true (small_nv t), decide_eq_true (small_of_fits fg), decide_eq_true (small_of_fits fx), decide_eq_true (small_of_fits fy), decide_eq_true (small_of_fits (fits_dr (x := nv s) fg)), decide_eq_true (small_of_fits (fits_dr (x := nv t) fg)), decide_eq_true (small_of_fits (fits_gz fx fy)), Bool.and_self, cond_true]
    generalize nv s = x at *
    generalize nv t = y at *
    by_cases hxy : x = 0 ∧ y = 0
    · obtain ⟨rfl, rfl⟩ := hxy
      rfl
    · obtain ⟨g1, g2, g3, g4⟩ := gz_law (by omega : x ≠ 0 ∨ y ≠ 0)
      rw [g2, g3, g4]
      generalize gz x y = d at *
      have t1 : ((txt 1).toList == [49]) = true := by kernel_rfl
      have hd : dc d = 0 := by unfold dc; rw [if_neg (by omega)]
      have hc : cmpZ d 0 = 1 := by unfold cmpZ; (repeat' split) <;> omega
      rw [t1, hd, hc]
      have hx : ∀ z : Int, z ≠ 0 → (cmpZ z 0 == 0) = false := fun z h => by rw [beq_eq_false_iff_ne]; unfold cmpZ; (repeat' split) <;> omega
      by_cases h0 : x = 0
      · subst h0
        refine (bT rfl).trans ((bF (hx y (by omega))).trans ?_)
        rfl
      · refine (bF (hx x h0)).trans ?_
        rfl
  · cases h
end Go.Abs
end
section
/- States and rounds of the statements of layer 1, as a program of this session printed them (7). -/
set_option maxRecDepth 10000
namespace Go.Abs
open Go.Proofs Go.Dig
namespace LSums
abbrev ans : Ans := [(15, anlAwake), (20, anlNum), (18, anlSame), (34, ansSum), (35, anrSum)]
abbrev orc : Orc := orcOf ans
noncomputable def L0 : Code := lp Try.f6 0
theorem isL0 : ∃ a, L0 = .loop a := ⟨_, rfl⟩
abbrev D0 : List Nat := [0, 2, 3, 4, 5, 12, 13]
abbrev st0 (r : List (List AV)) (x0 : Int) (r0 : List (List AV)) (r1 : List (List AV)) : St := ⟨.rows 1 r :: tops 1 (.bool false :: .sl 3 0 0 :: .sl 4 0 0 :: .int .i64 x0 :: tops 6 (.bool true :: .bool false :: tops 41 ([]))), nos 3 (rowE (.rows 2 r0) :: rowE (.rows 2 r1) :: nos 50 ([]))⟩
theorem round0 (r : List (List AV)) (x0 : Int) (r0 : List (List AV)) (r1 : List (List AV)) : goL T orc (noTab) D0 L0 (st0 r x0 r0 r1) =
    (bif decide (x0 < (↑r.length : Int)) then (bif decide (x0 < 40) then (bif inB x0 r.length then (bif etaOk (.str { data := #[] }) ((r.getD x0.toNat []).getD 0 .top) then (bif true && decide ((r0 ++ [[AV.bool (sg (nv (gStr ((r.getD x0.toNat []).getD 0 .top)))), .ints .u32 (lb (4294967296) (nv (gStr ((r.getD x0.toNat []).getD 0 .top))))]]).length * 32 ≤ 140737488355328) then (bif true && decide ((r1 ++ [[AV.bool (sg (nv (gStr ((r.getD x0.toNat []).getD 0 .top)))), .ints .i64 (lb (10) (nv (gStr ((r.getD x0.toNat []).getD 0 .top))))]]).length * 32 ≤ 140737488355328) then some (.normal, st0 r (IntKind.i64.wrap (x0 + 1)) (r0 ++ [[AV.bool (sg (nv (gStr ((r.getD x0.toNat []).getD 0 .top)))), .ints .u32 (lb (4294967296) (nv (gStr ((r.getD x0.toNat []).getD 0 .top))))]]) (r1 ++ [[AV.bool (sg (nv (gStr ((r.getD x0.toNat []).getD 0 .top)))), .ints .i64 (lb (10) (nv (gStr ((r.getD x0.toNat []).getD 0 .top))))]])) else none) else none) else none) else none) else some (.exit 0, st0 r x0 r0 r1)) else some (.exit 0, st0 r x0 r0 r1)) := by kernel_rfl
-- loop 0 ends exit0 st0 r x0 r0 r1
theorem rest (r : List (List AV)) (r2 : List (List AV)) (r3 : List (List AV)) (x1 : Int) : runT T orc (tabOf T orc [(6, 619805839470633680838168744041834937164949313405071485123066523374, .exit 0, st0 r x1 r2 r3)]) Try.f6 [.rows 1 r] =
    (bif cdec (Ends T orc L0 D0 (st0 r (0) ([]) ([])) (.exit 0) (st0 r x1 r2 r3)) then (bif (r2.all (rowOk 4294967296 .u32) && r2.all fun c => fits (rowN 4294967296 c)) && decide (r2.length ≤ 100000) then (bif (r3.all (rowOk 10 .i64) && r3.all fun c => fits (rowN 10 c)) && decide (r3.length ≤ 100000) then (bif cn (4294967296) (sg (sumV (List.map (rowN 4294967296) r2))) (lb (4294967296) (sumV (List.map (rowN 4294967296) r2))) && cn (10) (sg (sumV (List.map (rowN 10) r3))) (lb (10) (sumV (List.map (rowN 10) r3))) then some (.val (.bool (decide (sumE (List.map (rowN 4294967296) r2) = sumE (List.map (rowN 10) r3)) && decide (N (4294967296) (sumV (List.map (rowN 4294967296) r2)) = N (10) (sumV (List.map (rowN 10) r3)))))) else none) else none) else none) else none) := by kernel_rfl
end LSums
end Go.Abs
end
section
/- States and rounds of the statements of layer 1, as a program of this session printed them (8). -/
set_option maxRecDepth 10000
namespace Go.Abs
open Go.Proofs Go.Dig
namespace LSplits
abbrev ans : Ans := [(15, anlAwake), (20, anlNum), (34, ansSum), (24, ansAdd), (37, ansCmp)]
abbrev orc : Orc := orcOf ans
noncomputable def L0 : Code := lp Try.f13 0
theorem isL0 : ∃ a, L0 = .loop a := ⟨_, rfl⟩
abbrev D0 : List Nat := [0, 1, 4, 5, 6, 17, 18, 19, 20, 21, 26, 27, 31]
abbrev st0 (r : List (List AV)) (n : Int) (x0 : Int) (r0 : List (List AV)) : St := ⟨.rows 1 r :: .int .i64 n :: tops 2 (.bool false :: .sl 5 0 0 :: .int .i64 x0 :: tops 10 (.bool true :: .bool false :: .int .i64 n :: .bool (decide (n < 0)) :: .bool false :: tops 4 (.bool (decide (n > (↑r.length : Int))) :: .bool false :: tops 3 (.bool (decide ((↑r.length : Int) > 40)) :: tops 63 ([]))))), nos 5 (rowE (.rows 2 r0) :: nos 89 ([]))⟩
theorem round0 (r : List (List AV)) (n : Int) (x0 : Int) (r0 : List (List AV)) : goL T orc (noTab) D0 L0 (st0 r n x0 r0) =
    (bif decide (x0 < (↑r.length : Int)) then (bif inB x0 r.length then (bif etaOk (.str { data := #[] }) ((r.getD x0.toNat []).getD 0 .top) then (bif true && decide ((r0 ++ [[AV.bool (sg (nv (gStr ((r.getD x0.toNat []).getD 0 .top)))), .ints .u32 (lb (4294967296) (nv (gStr ((r.getD x0.toNat []).getD 0 .top))))]]).length * 32 ≤ 140737488355328) then some (.normal, st0 r n (IntKind.i64.wrap (x0 + 1)) (r0 ++ [[AV.bool (sg (nv (gStr ((r.getD x0.toNat []).getD 0 .top)))), .ints .u32 (lb (4294967296) (nv (gStr ((r.getD x0.toNat []).getD 0 .top))))]])) else none) else none) else none) else some (.exit 0, st0 r n x0 r0)) := by kernel_rfl
-- loop 0 ends exit0 st0 r n x0 r0
theorem rest (r : List (List AV)) (n : Int) (r1 : List (List AV)) (x1 : Int) : runT T orc (tabOf T orc [(7, 788139496758243128243496032778945866121771223587243643569866675551921056851851559791520916677910231788866998562542, .exit 0, st0 r n x1 r1)]) Try.f13 [.rows 1 r, .int .i64 n] =
    (bif decide (n < 0) then some (.val (.bool true)) else (bif decide (n > (↑r.length : Int)) then some (.val (.bool true)) else (bif decide ((↑r.length : Int) > 40) then some (.val (.bool true)) else (bif cdec (Ends T orc L0 D0 (st0 r n (0) ([])) (.exit 0) (st0 r n x1 r1)) then (bif (r1.all (rowOk 4294967296 .u32) && r1.all fun c => fits (rowN 4294967296 c)) && decide (r1.length ≤ 100000) then (bif decide (0 ≤ n) && decide (n ≤ (↑r1.length : Int)) then (bif ((List.take n.toNat r1).all (rowOk 4294967296 .u32) && (List.take n.toNat r1).all fun c => fits (rowN 4294967296 c)) && decide ((List.take n.toNat r1).length ≤ 100000) then (bif decide (0 ≤ n) && decide (n ≤ (↑r1.length : Int)) then (bif ((List.drop n.toNat r1).all (rowOk 4294967296 .u32) && (List.drop n.toNat r1).all fun c => fits (rowN 4294967296 c)) && decide ((List.drop n.toNat r1).length ≤ 100000) then (bif cn (4294967296) (sg (sumV (List.map (rowN 4294967296) (List.take n.toNat r1)))) (lb (4294967296) (sumV (List.map (rowN 4294967296) (List.take n.toNat r1)))) && cn (4294967296) (sg (sumV (List.map (rowN 4294967296) (List.drop n.toNat r1)))) (lb (4294967296) (sumV (List.map (rowN 4294967296) (List.drop n.toNat r1)))) && fits (N (4294967296) (sumV (List.map (rowN 4294967296) (List.take n.toNat r1)))) && fits (N (4294967296) (sumV (List.map (rowN 4294967296) (List.drop n.toNat r1)))) then (bif sumE (List.map (rowN 4294967296) r1) != 0 then some (.val (.bool true)) else (bif sumE (List.map (rowN 4294967296) (List.take n.toNat r1)) != 0 then some (.val (.bool true)) else (bif sumE (List.map (rowN 4294967296) (List.drop n.toNat r1)) != 0 then some (.val (.bool true)) else (bif he (N (4294967296) (sumV (List.map (rowN 4294967296) (List.take n.toNat r1))) + N (4294967296) (sumV (List.map (rowN 4294967296) (List.drop n.toNat r1)))) != 0 then some (.val (.bool true)) else (bif cn (4294967296) (sg (sumV (List.map (rowN 4294967296) r1))) (lb (4294967296) (sumV (List.map (rowN 4294967296) r1))) && cn (4294967296) (sg (hz (N (4294967296) (sumV (List.map (rowN 4294967296) (List.take n.toNat r1))) + N (4294967296) (sumV (List.map (rowN 4294967296) (List.drop n.toNat r1)))))) (lb (4294967296) (hz (N (4294967296) (sumV (List.map (rowN 4294967296) (List.take n.toNat r1))) + N (4294967296) (sumV (List.map (rowN 4294967296) (List.drop n.toNat r1)))))) then some (.val (.bool (cmpZ (N (4294967296) (sumV (List.map (rowN 4294967296) r1))) (N (4294967296) (hz (N (4294967296) (sumV (List.map (rowN 4294967296) (List.take n.toNat r1))) + N (4294967296) (sumV (List.map (rowN 4294967296) (List.drop n.toNat r1)))))) == 0))) else none))))) else none) else none) else none) else none) else none) else none) else none)))) := by kernel_rfl
end LSplits
end Go.Abs
end
section
/- The statements of layer 1: sums of lists. -/
namespace Go.Abs
open Go.Proofs Go.Dig
def isS : List AV → Bool
  | [.str _] => true
  | _ => false
theorem isS_map : ∀ {r : List (List AV)}, r.all isS = true → ∃ ss : List ByteArray, r = ss.map (fun s => [.str s])
  | [], _ => ⟨[], rfl⟩
  | c :: r, h => by
    rw [List.all_cons, Bool.and_eq_true] at h
    obtain ⟨ss, rfl⟩ := isS_map h.2
    have h1 := h.1
    unfold isS at h1
    split at h1
    · rename_i s; exact ⟨s :: ss, rfl⟩
    · cases h1
theorem isS_of (l : List ByteArray) : ((l.map fun s => [AV.str s]).all isS) = true := by
  rw [List.all_eq_true]
  intro c hc
  obtain ⟨s, _, rfl⟩ := List.mem_map.1 hc
  rfl
abbrev cW (z : Int) : List AV := [.bool (sg z), .ints .u32 (lb 4294967296 z)]
abbrev cT (z : Int) : List AV := [.bool (sg z), .ints .i64 (lb 10 z)]
theorem rowNW (z : Int) : rowN 4294967296 (cW z) = z := rowN_row W_two .u32 z
theorem rowNT (z : Int) : rowN 10 (cT z) = z := rowN_row T_two .i64 z
theorem map_rowNW (l : List Int) : (l.map cW).map (rowN 4294967296) = l := by rw [List.map_map]; exact (List.map_congr_left (fun z _ => rowNW z)).trans (List.map_id l)
theorem map_rowNT (l : List Int) : (l.map cT).map (rowN 10) = l := by rw [List.map_map]; exact (List.map_congr_left (fun z _ => rowNT z)).trans (List.map_id l)
theorem all_rowW {l : List Int} (h : ∀ z ∈ l, fits z = true) : ((l.map cW).all (rowOk 4294967296 .u32) && (l.map cW).all fun c => fits (rowN 4294967296 c)) = true := by
  rw [Bool.and_eq_true, List.all_eq_true, List.all_eq_true]
  refine ⟨fun c hc => ?_, fun c hc => ?_⟩ <;> obtain ⟨z, hz, rfl⟩ := List.mem_map.1 hc
  · exact (rowOk_iff W_two).2 ⟨z, rfl, small_of_fits (h z hz)⟩
  · rw [rowNW]; exact h z hz
theorem all_rowT {l : List Int} (h : ∀ z ∈ l, fits z = true) : ((l.map cT).all (rowOk 10 .i64) && (l.map cT).all fun c => fits (rowN 10 c)) = true := by
  rw [Bool.and_eq_true, List.all_eq_true, List.all_eq_true]
  refine ⟨fun c hc => ?_, fun c hc => ?_⟩ <;> obtain ⟨z, hz, rfl⟩ := List.mem_map.1 hc
  · exact (rowOk_iff T_two).2 ⟨z, rfl, small_of_fits (h z hz)⟩
  · rw [rowNT]; exact h z hz
theorem fits_nvs (ss : List ByteArray) (n : Nat) : ∀ z ∈ (ss.map nv).take n, fits z = true := fun z hz => by
  obtain ⟨s, _, rfl⟩ := List.mem_map.1 (List.mem_of_mem_take hz)
  exact fits_nv s
namespace LSums
theorem loop (ss : List ByteArray) : ∃ e S1, Ends T orc L0 D0 (st0 (ss.map (fun s => [AV.str s])) 0 [] []) e S1 ∧ e = .exit 0 ∧ ∃ n x, n ≤ 40 ∧ S1 = st0 (ss.map (fun s => [AV.str s])) x (((ss.map nv).take n).map cW) (((ss.map nv).take n).map cT) := by
  refine loop_inv1 (fun (i : Nat) => st0 (ss.map (fun s => [AV.str s])) i (((ss.map nv).take i).map cW) (((ss.map nv).take i).map cT)) (fun i => i ≤ 40 ∧ i ≤ ss.length) (fun i => 40 - i)
    (fun e S1 => e = .exit 0 ∧ ∃ n x, n ≤ 40 ∧ S1 = st0 (ss.map (fun s => [AV.str s])) x (((ss.map nv).take n).map cW) (((ss.map nv).take n).map cT)) isL0 ?_ 0 ?_
  · intro i ⟨h1, h2⟩
    refine ⟨noTab, noTab_all, lands_of (round0 ..) ?_⟩
    rw [List.length_map]
    by_cases hi : i < ss.length ∧ i < 40
    · obtain ⟨hi, hj⟩ := hi
      have hg : (ss.map (fun s => [AV.str s])).getD (i : Int).toNat [] = [.str ss[i]] := by
        rw [Int.toNat_natCast, getD_at (by rw [List.length_map]; exact hi), List.getElem_map]
      have e1 : gStr ([AV.str ss[i]].getD 0 .top) = ss[i] := rfl
      have e2 : etaOk (.str { data := #[] }) ([AV.str ss[i]].getD 0 .top) = true := rfl
      have e3 : inB (i : Int) ss.length = true := by rw [inB_iff]; omega
      have hz : (ss.map nv).take (i + 1) = (ss.map nv).take i ++ [nv ss[i]] := by
        rw [List.take_add_one, List.getElem?_map, List.getElem?_eq_getElem hi]; rfl
      have hlen : ((ss.map nv).take (i + 1)).length ≤ 40 := by rw [List.length_take]; omega
      have hW : ((ss.map nv).take i).map cW ++ [[AV.bool (sg (nv ss[i])), .ints .u32 (lb (4294967296) (nv ss[i]))]] = ((ss.map nv).take (i + 1)).map cW := by rw [hz, List.map_append]; rfl
      have hT : ((ss.map nv).take i).map cT ++ [[AV.bool (sg (nv ss[i])), .ints .i64 (lb (10) (nv ss[i]))]] = ((ss.map nv).take (i + 1)).map cT := by rw [hz, List.map_append]; rfl
      rw [hg, e1, e2, e3, hW, hT, List.length_map, List.length_map, decide_eq_true (show (i : Int) < ss.length by omega), decide_eq_true (show (i : Int) < 40 by omega), decide_eq_true (show ((ss.map nv).take (i + 1)).length * 32 ≤ 140737488355328 by omega)]
      simp only [Bool.and_self, cond_true, wi_succ (show i < 4611686018427387904 by omega), lands_some, Turns1]
      exact ⟨i + 1, rfl, ⟨by omega, by omega⟩, by omega⟩
    · by_cases hl : i < ss.length
      · rw [decide_eq_true (show (i : Int) < ss.length by omega), decide_eq_false (show ¬ (i : Int) < 40 by omega)]
        simp only [cond_true, cond_false, lands_some, Turns1]
        exact ⟨trivial, i, i, h1, rfl⟩
      · rw [decide_eq_false (show ¬ (i : Int) < ss.length by omega)]
        simp only [cond_true, cond_false, lands_some, Turns1]
        exact ⟨trivial, i, i, h1, rfl⟩
  · exact ⟨by omega, by omega⟩
end LSums
theorem sumZ_fits {l : List Int} : ∀ {a s : Int}, fits a = true → sumZ a l = some s → fits s = true ∧ s = a + l.sum := by
  induction l with
  | nil =>
    intro a s ha h
    rw [sumZ, Option.some.injEq] at h
    subst h
    exact ⟨ha, by simp⟩
  | cons x l ih =>
    intro a s ha h
    rw [sumZ] at h
    cases hf : fits (a + x) with
    | false => rw [hf, cond_false] at h; exact absurd h (by simp)
    | true =>
      rw [hf, cond_true] at h
      obtain ⟨h1, h2⟩ := ih hf h
      exact ⟨h1, by rw [h2, List.sum_cons]; omega⟩
theorem fits_zero : fits 0 = true := by kernel_rfl
theorem fits_sumV (l : List Int) : fits (sumV l) = true := by
  unfold sumV
  cases h : sumZ 0 l with
  | none => exact fits_zero
  | some s => exact (sumZ_fits fits_zero h).1
theorem sumE_zero {l : List Int} (h : sumE l = 0) : sumV l = l.sum := by
  unfold sumE at h
  unfold sumV
  cases hs : sumZ 0 l with
  | none => rw [hs] at h; cases h
  | some s => rw [(sumZ_fits fits_zero hs).2]; simp
theorem law_sums : Meets Try.prog 6 (fun a => match a with | [.rows 1 r] => some (r.all isS, .val (.bool true)) | _ => none) := by
  refine meets_fn (orc_ok (l := LSums.ans) ⟨meets_awake, meets_num, meets_same, meets_sum, meets_rsum, trivial⟩) Try.f6 rfl (by kernel_rfl) (fun args r h => ?_)
  split at h
  · rename_i r
    simp only [Option.some.injEq, Prod.mk.injEq] at h
    obtain ⟨h1, rfl⟩ := h
    obtain ⟨ss, rfl⟩ := isS_map h1
    obtain ⟨e1, S1, hE1, rfl, n, x, hn, rfl⟩ := LSums.loop ss
    refine ⟨rfl, _, tabOf_all _, (LSums.rest _ (((ss.map nv).take n).map cW) (((ss.map nv).take n).map cT) x).trans ((bT (cdec_true hE1)).trans ?_)⟩
    have hf := fits_nvs ss n
    have hl : ((ss.map nv).take n).length ≤ 100000 := by rw [List.length_take]; omega
    generalize (ss.map nv).take n = l at *
    rw [all_rowW hf, all_rowT hf, map_rowNW, map_rowNT, List.length_map, List.length_map, decide_eq_true hl]
    have hs := fits_sumV l
    simp only [N_eq, N10_eq, cnW, cn10, decide_eq_true (small_of_fits hs), Bool.and_self, cond_true, decide_true]
  · cases h
namespace LSplits
theorem loop (ss : List ByteArray) (n : Int) (hl : ss.length ≤ 40) : ∃ e S1, Ends T orc L0 D0 (st0 (ss.map (fun s => [AV.str s])) n 0 []) e S1 ∧ e = .exit 0 ∧ ∃ x, S1 = st0 (ss.map (fun s => [AV.str s])) n x ((ss.map nv).map cW) := by
  refine loop_inv1 (fun (i : Nat) => st0 (ss.map (fun s => [AV.str s])) n i (((ss.map nv).take i).map cW)) (fun i => i ≤ ss.length) (fun i => 40 - i)
    (fun e S1 => e = .exit 0 ∧ ∃ x, S1 = st0 (ss.map (fun s => [AV.str s])) n x ((ss.map nv).map cW)) isL0 ?_ 0 ?_
  · intro i h2
    refine ⟨noTab, noTab_all, lands_of (round0 ..) ?_⟩
    rw [List.length_map]
    by_cases hi : i < ss.length
    · have hg : (ss.map (fun s => [AV.str s])).getD (i : Int).toNat [] = [.str ss[i]] := by
        rw [Int.toNat_natCast, getD_at (by rw [List.length_map]; exact hi), List.getElem_map]
      have e1 : gStr ([AV.str ss[i]].getD 0 .top) = ss[i] := rfl
      have e2 : etaOk (.str { data := #[] }) ([AV.str ss[i]].getD 0 .top) = true := rfl
      have e3 : inB (i : Int) ss.length = true := by rw [inB_iff]; omega
      have hz : (ss.map nv).take (i + 1) = (ss.map nv).take i ++ [nv ss[i]] := by
        rw [List.take_add_one, List.getElem?_map, List.getElem?_eq_getElem hi]; rfl
      have hlen : ((ss.map nv).take (i + 1)).length ≤ 40 := by rw [List.length_take, List.length_map]; omega
      have hW : ((ss.map nv).take i).map cW ++ [[AV.bool (sg (nv ss[i])), .ints .u32 (lb (4294967296) (nv ss[i]))]] = ((ss.map nv).take (i + 1)).map cW := by rw [hz, List.map_append]; rfl
      rw [hg, e1, e2, e3, hW, List.length_map, decide_eq_true (show (i : Int) < ss.length by omega), decide_eq_true (show ((ss.map nv).take (i + 1)).length * 32 ≤ 140737488355328 by omega)]
      simp only [Bool.and_self, cond_true, wi_succ (show i < 4611686018427387904 by omega), lands_some, Turns1]
      exact ⟨i + 1, rfl, by omega, by omega⟩
    · rw [decide_eq_false (show ¬ (i : Int) < ss.length by omega)]
      simp only [cond_true, cond_false, lands_some, Turns1]
      exact ⟨trivial, i, by rw [List.take_of_length_le (by rw [List.length_map]; omega)]⟩
  · show 0 ≤ ss.length
    omega
end LSplits
theorem law_splits : Meets Try.prog 13 (fun a => match a with | [.rows 1 r, .int .i64 n] => some (r.all isS, .val (.bool true)) | _ => none) := by
  refine meets_fn (orc_ok (l := LSplits.ans) ⟨meets_awake, meets_num, meets_sum, meets_add, meets_cmp, trivial⟩) Try.f13 rfl (by kernel_rfl) (fun args r h => ?_)
  split at h
  · rename_i r n
    simp only [Option.some.injEq, Prod.mk.injEq] at h
    obtain ⟨h1, rfl⟩ := h
    obtain ⟨ss, rfl⟩ := isS_map h1
    by_cases hl : ss.length ≤ 40
    · obtain ⟨e1, S1, hE1, rfl, x, rfl⟩ := LSplits.loop ss n hl
      refine ⟨rfl, _, tabOf_all _, (LSplits.rest _ n ((ss.map nv).map cW) x).trans ?_⟩
      have hfa : ∀ z ∈ ss.map nv, fits z = true := fun z hz => by
        obtain ⟨s, _, rfl⟩ := List.mem_map.1 hz
        exact fits_nv s
      have hll : (ss.map nv).length ≤ 40 := by rw [List.length_map]; exact hl
      rw [List.length_map]
      by_cases hn0 : n < 0
      · exact bT (decide_eq_true hn0)
      refine (bF (decide_eq_false hn0)).trans ?_
      by_cases hn1 : n > (ss.length : Int)
      · exact bT (decide_eq_true hn1)
      refine (bF (decide_eq_false hn1)).trans ((bF (decide_eq_false (by omega))).trans ((bT (cdec_true hE1)).trans ?_))
      have hlen : (ss.map nv).length = ss.length := List.length_map ..
      rw [← hlen] at hn1
      generalize ss.map nv = l at *
      rw [← List.map_take, ← List.map_drop, all_rowW hfa, all_rowW (fun z hz => hfa z (List.mem_of_mem_take hz)), all_rowW (fun z hz => hfa z (List.mem_of_mem_drop hz)), map_rowNW, map_rowNW, map_rowNW]
      simp only [List.length_map, List.length_take, List.length_drop]
      rw [decide_eq_true (show l.length ≤ 100000 by omega), decide_eq_true (show min n.toNat l.length ≤ 100000 by omega), decide_eq_true (show l.length - n.toNat ≤ 100000 by omega), decide_eq_true (show 0 ≤ n by omega), decide_eq_true (show n ≤ (l.length : Int) by omega)]
      simp only [N_eq, cnW, fits_sumV, fits_hz, decide_eq_true (small_of_fits (fits_sumV _)), decide_eq_true (small_hz _), Bool.and_self, cond_true]
      by_cases a1 : sumE l = 0
      · refine (bF (eq_b a1)).trans ?_
        by_cases a2 : sumE (l.take n.toNat) = 0
        · refine (bF (eq_b a2)).trans ?_
          by_cases a3 : sumE (l.drop n.toNat) = 0
          · refine (bF (eq_b a3)).trans ?_
            by_cases a4 : he (sumV (l.take n.toNat) + sumV (l.drop n.toNat)) = 0
            · refine (bF (eq_b a4)).trans ?_
              rw [hz_he a4, sumE_zero a1, sumE_zero a2, sumE_zero a3, ← List.sum_append, List.take_append_drop, cmpZ_self]
              rfl
            · exact bT (ne_b a4)
          · exact bT (ne_b a3)
        · exact bT (ne_b a2)
      · exact bT (ne_b a1)
    · refine ⟨rfl, _, tabOf_all _, (LSplits.rest _ n [] 0).trans ?_⟩
      rw [List.length_map]
      by_cases hn0 : n < 0
      · exact bT (decide_eq_true hn0)
      refine (bF (decide_eq_false hn0)).trans ?_
      by_cases hn1 : n > (ss.length : Int)
      · exact bT (decide_eq_true hn1)
      exact (bF (decide_eq_false hn1)).trans (bT (decide_eq_true (by omega)))
  · cases h
end Go.Abs
end
