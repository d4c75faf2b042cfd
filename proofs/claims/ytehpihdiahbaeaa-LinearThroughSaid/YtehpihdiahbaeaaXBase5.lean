/- What the rows of this seat rest on, part 5: an abstract machine for the model, proved sound, and the functions that the statements reach. No conditions. -/
import Derived.Test.YtehpihdiahbaeaaXBase4
set_option linter.unusedVariables false
set_option linter.unusedSimpArgs false
set_option linter.unnecessarySimpa false
set_option linter.unusedSectionVars false
section
/- What the reference's functions of layer 1 answer: texts read. -/
namespace Go.Abs
open Go.Proofs Go.Dig
theorem drop_all {l : List Int} {i : Nat} (hi : i < l.length) : (l.drop i).all isDig = (isDig (l.getD i 0) && (l.drop (i + 1)).all isDig) := by
  rw [List.drop_eq_getElem_cons hi, List.all_cons, getD_at hi]
namespace RForm
theorem loop (s : ByteArray) (i0 : Nat) (b9 b10 : Bool) (x3 : Int) (b11 b12 : Bool) (hs : s.size ≤ 10000) (h0 : i0 ≤ s.size) :
    ∃ e S1, Ends T noOrc L0 D0 (st0 s i0 b9 b10 x3 b11 b12) e S1 ∧ ((e = .exit 0 ∧ ((bytesOf s).drop i0).all isDig = true ∧ ∃ x, S1 = st0 s x b9 b10 x3 b11 b12) ∨ (e = .ret ∧ ((bytesOf s).drop i0).all isDig = false ∧ ∃ x, S1 = st0 s x b9 b10 x3 b11 b12)) := by
  refine loop_inv1 (fun (i : Nat) => st0 s i b9 b10 x3 b11 b12) (fun i => i ≤ s.size ∧ ((bytesOf s).drop i0).all isDig = ((bytesOf s).drop i).all isDig) (fun i => s.size - i)
    (fun e S1 => (e = .exit 0 ∧ ((bytesOf s).drop i0).all isDig = true ∧ ∃ x, S1 = st0 s x b9 b10 x3 b11 b12) ∨ (e = .ret ∧ ((bytesOf s).drop i0).all isDig = false ∧ ∃ x, S1 = st0 s x b9 b10 x3 b11 b12)) isL0 ?_ i0 ⟨h0, rfl⟩
  intro i ⟨h1, h2⟩
  have hlen := bytes_len s
  refine ⟨noTab, noTab_all, lands_of (round0 ..) ?_⟩
  by_cases hi : i < s.size
  · have hd := drop_all (l := bytesOf s) (i := i) (by omega)
    rw [bt_nat]
    refine (lands_of (bT (decide_eq_true (by omega))) ?_)
    refine (lands_of (bT (inB_iff.2 (by omega))) ?_)
    by_cases ha : (bytesOf s).getD i 0 < 48
    · refine (lands_of (bT (decide_eq_true ha)) ?_)
      refine lands_some.2 (.inr ⟨rfl, ?_, _, rfl⟩)
      rw [h2, hd, show isDig ((bytesOf s).getD i 0) = false by rw [Bool.eq_false_iff, ne_eq, dig_iff]; omega]
      rfl
    · refine (lands_of (bF (decide_eq_false ha)) ?_)
      refine (lands_of (bT (inB_iff.2 (by omega))) ?_)
      by_cases hb : (bytesOf s).getD i 0 > 57
      · refine (lands_of (bT (decide_eq_true hb)) ?_)
        refine lands_some.2 (.inr ⟨rfl, ?_, _, rfl⟩)
        rw [h2, hd, show isDig ((bytesOf s).getD i 0) = false by rw [Bool.eq_false_iff, ne_eq, dig_iff]; omega]
        rfl
      · refine (lands_of (bF (decide_eq_false hb)) ?_)
        rw [wi_succ (show i < 4611686018427387904 by omega)]
        refine lands_some.2 ⟨i + 1, rfl, ⟨by omega, ?_⟩, by show s.size - (i + 1) < s.size - i; omega⟩
        rw [h2, hd, show isDig ((bytesOf s).getD i 0) = true by rw [dig_iff]; omega]
        rfl
  · refine (lands_of (bF (decide_eq_false (by omega))) ?_)
    refine lands_some.2 (.inl ⟨rfl, ?_, _, rfl⟩)
    rw [h2, List.drop_of_length_le (by omega)]
    rfl
end RForm
theorem form_D {s : ByteArray} {d : List Int} {n : Bool} (hd : digs (bytesOf s) = d) (hn : hasNeg (bytesOf s) = n) : form (bytesOf s) = formD d n := by
  unfold form formD
  rw [hd, hn]
theorem neg_drop (s : ByteArray) (h : bt s 0 = 45) : digs (bytesOf s) = (bytesOf s).drop 1 := by
  obtain ⟨h0, hn, hd⟩ := neg_of s h
  unfold digs
  rw [hn]; rfl
theorem meets_rform : Meets Try.prog 83 anrForm := by
  refine meets_fn noOrc_ok Try.f83 Try.func83 (by kernel_rfl) (fun args r h => ?_)
  unfold anrForm at h
  split at h
  · rename_i s
    simp only [Option.some.injEq, Prod.mk.injEq] at h
    obtain ⟨h, rfl⟩ := h
    have hsz := of_decide_eq_true h
    have hlen := bytes_len s
    refine ⟨rfl, ?_⟩
    by_cases h45 : bt s 0 = 45
    · obtain ⟨h0, hn, _⟩ := neg_of s h45
      have hd := neg_drop s h45
      have e45 : (bt s 0 == 45) = true := by rw [h45]; rfl
      have hb1 : bt s 1 = ((bytesOf s).drop 1).getD 0 0 := by
        have := bt_nat s 1
        rw [show ((1 : Nat) : Int) = 1 from rfl] at this
        rw [this, List.getD_eq_getElem?_getD, List.getD_eq_getElem?_getD, List.getElem?_drop]
      have hl1 : ((bytesOf s).drop 1).length = s.size - 1 := by rw [List.length_drop, hlen]
      rw [form_D hd hn]
      by_cases h1 : s.size = 1
      · refine ⟨_, tabOf_all _, (RForm.rest_0 s 0 true true 0 true true).trans ?_⟩
        refine (bT (decide_eq_true (by omega))).trans ((bT (inB_iff.2 (by omega))).trans ((bT e45).trans ((bT (by rw [beq_iff_eq]; omega)).trans ?_)))
        rw [show formD ((bytesOf s).drop 1) true = false by rw [← Bool.not_eq_true, formD_eq]; intro hh; exact hh.1 (List.eq_nil_of_length_eq_zero (by omega))]
      · have e1 : (1 == (s.size : Int)) = false := by rw [beq_eq_false_iff_ne]; omega
        by_cases h48 : bt s 1 = 48
        · refine ⟨_, tabOf_all _, (RForm.rest_0 s 0 true true 0 true true).trans ?_⟩
          refine (bT (decide_eq_true (by omega))).trans ((bT (inB_iff.2 (by omega))).trans ((bT e45).trans ((bF e1).trans ((bT (inB_iff.2 (by omega))).trans ((bT (by rw [beq_iff_eq]; exact h48)).trans ((bT (decide_eq_true (by omega))).trans ?_))))))
          rw [show formD ((bytesOf s).drop 1) true = false by rw [← Bool.not_eq_true, formD_eq]; intro hh; exact hh.2.1 ⟨by omega, .inr rfl⟩]
        · have e48 : (bt s 1 == 48) = false := by rw [beq_eq_false_iff_ne]; exact h48
          obtain ⟨e2, S1, hE1, ⟨rfl, hall, x, rfl⟩ | ⟨rfl, hall, x, rfl⟩⟩ := RForm.loop s 1 true (bt s 0 == 45) 1 (1 == (s.size : Int)) false hsz (by omega)
          · refine ⟨_, tabOf_all _, (RForm.rest_1 s x true (bt s 0 == 45) 1 (1 == (s.size : Int)) false).trans ?_⟩
            refine (bT (decide_eq_true (by omega))).trans ((bT (inB_iff.2 (by omega))).trans ((bT e45).trans ((bF e1).trans ((bT (inB_iff.2 (by omega))).trans ((bF e48).trans ((bT (cdec_true hE1)).trans ?_))))))
            rw [show formD ((bytesOf s).drop 1) true = true from (formD_eq _ _).2 ⟨fun hh => by rw [hh] at hl1; simp at hl1; omega, fun hh => h48 (by rw [hb1]; exact hh.1), hall⟩]
          · refine ⟨_, tabOf_all _, (RForm.rest_0 s x true (bt s 0 == 45) 1 (1 == (s.size : Int)) false).trans ?_⟩
            refine (bT (decide_eq_true (by omega))).trans ((bT (inB_iff.2 (by omega))).trans ((bT e45).trans ((bF e1).trans ((bT (inB_iff.2 (by omega))).trans ((bF e48).trans ((bT (cdec_true hE1)).trans ?_))))))
            rw [show formD ((bytesOf s).drop 1) true = false by rw [← Bool.not_eq_true, formD_eq]; intro hh; rw [hall] at hh; cases hh.2.2]
    · obtain ⟨hn, hd⟩ := pos_of s h45
      have e45 : (bt s 0 == 45) = false := by rw [beq_eq_false_iff_ne]; exact h45
      have hb0 : bt s 0 = (bytesOf s).getD 0 0 := bt_nat s 0
      rw [form_D hd hn]
      by_cases h0 : s.size = 0
      · refine ⟨_, tabOf_all _, (RForm.rest_0 s 0 true true 0 true true).trans ?_⟩
        refine (bF (decide_eq_false (by omega))).trans ((bT (by rw [beq_iff_eq]; omega)).trans ?_)
        rw [show formD (bytesOf s) false = false by rw [← Bool.not_eq_true, formD_eq]; intro hh; exact hh.1 (List.eq_nil_of_length_eq_zero (by omega))]
      · have e1 : (0 == (s.size : Int)) = false := by rw [beq_eq_false_iff_ne]; omega
        by_cases hbad : bt s 0 = 48 ∧ s.size > 1
        · refine ⟨_, tabOf_all _, (RForm.rest_0 s 0 true true 0 true true).trans ?_⟩
          refine (bT (decide_eq_true (by omega))).trans ((bT (inB_iff.2 (by omega))).trans ((bF e45).trans ((bF e1).trans ((bT (inB_iff.2 (by omega))).trans ((bT (by rw [beq_iff_eq]; exact hbad.1)).trans ((bT (decide_eq_true (by omega))).trans ?_))))))
          rw [show formD (bytesOf s) false = false by rw [← Bool.not_eq_true, formD_eq]; intro hh; exact hh.2.1 ⟨by omega, .inl (by omega)⟩]
        · have join : ∀ (X Y Z : Option Res), (s.size ≤ 1 → X = Z) → (¬ bt s 0 = 48 → Y = Z) → (bif bt s 0 == 48 then (bif decide ((s.size : Int) > 1) then some (.val (.bool false)) else X) else Y) = Z := by
            intro X Y Z hX hY
            by_cases h48 : bt s 0 = 48
            · rw [bT (by rw [beq_iff_eq]; exact h48), bF (decide_eq_false (by omega))]
              exact hX (by omega)
            · rw [bF (by rw [beq_eq_false_iff_ne]; exact h48)]
              exact hY h48
          obtain ⟨e2, S1, hE1, ⟨rfl, hall, x, rfl⟩ | ⟨rfl, hall, x, rfl⟩⟩ := RForm.loop s 0 true (bt s 0 == 45) 0 (0 == (s.size : Int)) false hsz (by omega)
          · refine ⟨_, tabOf_all _, (RForm.rest_1 s x true (bt s 0 == 45) 0 (0 == (s.size : Int)) false).trans ?_⟩
            refine (bT (decide_eq_true (by omega))).trans ((bT (inB_iff.2 (by omega))).trans ((bF e45).trans ((bF e1).trans ((bT (inB_iff.2 (by omega))).trans ?_))))
            rw [List.drop_zero] at hall
            rw [show formD (bytesOf s) false = true from (formD_eq _ _).2 ⟨fun hh => by rw [hh] at hlen; exact h0 hlen.symm, fun hh => hbad ⟨by omega, by rcases hh.2 with h | h; omega; cases h⟩, hall⟩]
            refine join _ _ _ (fun hle => ?_) (fun _ => bT (cdec_true hE1))
            rw [decide_eq_false (show ¬ (s.size : Int) > 1 by omega)]
            exact bT (cdec_true hE1)
          · refine ⟨_, tabOf_all _, (RForm.rest_0 s x true (bt s 0 == 45) 0 (0 == (s.size : Int)) false).trans ?_⟩
            refine (bT (decide_eq_true (by omega))).trans ((bT (inB_iff.2 (by omega))).trans ((bF e45).trans ((bF e1).trans ((bT (inB_iff.2 (by omega))).trans ?_))))
            rw [List.drop_zero] at hall
            rw [show formD (bytesOf s) false = false by rw [← Bool.not_eq_true, formD_eq]; intro hh; rw [hall] at hh; cases hh.2.2]
            refine join _ _ _ (fun hle => ?_) (fun _ => bT (cdec_true hE1))
            rw [decide_eq_false (show ¬ (s.size : Int) > 1 by omega)]
            exact bT (cdec_true hE1)
  · cases h
namespace RExact
theorem loop (s : ByteArray) (hs : s.size ≤ 10000) (i0 : Nat) (h0 : i0 ≤ s.size) (hall : ((bytesOf s).drop i0).all isDig = true) (hi0 : i0 = 0 ∨ (i0 = 1 ∧ bt s 0 = 45)) :
    ∃ e S1, Ends T orc L0 D0 (st0 s ((s.size : Int) - 1) []) e S1 ∧ (e = .exit 0 ∧ ∃ x, S1 = st0 s x (((bytesOf s).drop i0).reverse.map (· - 48))) := by
  have hlen := bytes_len s
  refine loop_inv2 (fun (i : Nat) l0 => st0 s ((i : Int) - 1) l0) (fun i l0 => i0 ≤ i ∧ i ≤ s.size ∧ l0 = ((bytesOf s).drop i).reverse.map (· - 48)) (fun i l0 => i)
    (fun e S1 => e = .exit 0 ∧ ∃ x, S1 = st0 s x (((bytesOf s).drop i0).reverse.map (· - 48))) isL0 ?_ s.size [] ⟨h0, Nat.le_refl _, by rw [List.drop_of_length_le (by omega)]; rfl⟩
  intro i l0 ⟨h1, h2, h3⟩
  refine ⟨noTab, noTab_all, lands_of (round0 ..) ?_⟩
  by_cases hi : i = i0
  · subst hi
    rcases hi0 with hi0 | ⟨hi0, hb⟩
    · refine (lands_of (bF (decide_eq_false (by omega))) ?_)
      rw [h3]
      exact lands_some.2 ⟨rfl, _, rfl⟩
    · have e0 : ((i : Int) - 1) = 0 := by omega
      rw [e0]
      refine (lands_of (bT (decide_eq_true (by omega))) ?_)
      refine (lands_of (bT (inB_iff.2 (by omega))) ?_)
      refine (lands_of (bF (by rw [hb]; rfl)) ?_)
      rw [h3]
      exact lands_some.2 ⟨rfl, _, rfl⟩
  · obtain ⟨j, rfl⟩ : ∃ j, i = j + 1 := ⟨i - 1, by omega⟩
    have ej : (((j + 1 : Nat) : Int) - 1) = (j : Int) := by omega
    rw [ej, bt_nat]
    have hc : isDig ((bytesOf s).getD j 0) = true := by
      refine List.all_eq_true.1 hall _ ?_
      rw [getD_at (by omega)]
      refine List.mem_iff_getElem.2 ⟨j - i0, by rw [List.length_drop]; omega, ?_⟩
      rw [List.getElem_drop]
      congr 1
      omega
    have hc := dig_iff.1 hc
    have ew : IntKind.i64.wrap (IntKind.u8.wrap ((bytesOf s).getD j 0 - 48)) = (bytesOf s).getD j 0 - 48 := by
      rw [IntWalk.u8_in _ ⟨by omega, by omega⟩, w64 (by omega) (by omega)]
    rw [ew]
    refine (lands_of (bT (decide_eq_true (by omega))) ?_)
    refine (lands_of (bT (inB_iff.2 (by omega))) ?_)
    refine (lands_of (bT (by rw [bne_iff_ne]; omega)) ?_)
    refine (lands_of (bT (inB_iff.2 (by omega))) ?_)
    refine (lands_of (bT (by rw [Bool.true_and]; exact decide_eq_true (by rw [List.length_append, h3, List.length_map, List.length_reverse, List.length_drop, List.length_singleton]; omega))) ?_)
    refine lands_some.2 ⟨j, _, by rw [w64 (by omega) (by omega)], ⟨by omega, by omega, ?_⟩, by show j < j + 1; omega⟩
    rw [h3, List.drop_eq_getElem_cons (by omega : j < (bytesOf s).length), List.reverse_cons, List.map_append, getD_at (by omega)]
    rfl
end RExact
theorem meets_rexact : Meets Try.prog 84 anrExact := by
  refine meets_fn (orc_ok (l := RExact.ans) ⟨meets_rtrim, trivial⟩) Try.f84 Try.func84 (by kernel_rfl) (fun args r h => ?_)
  unfold anrExact at h
  split at h
  · rename_i s
    simp only [Option.some.injEq, Prod.mk.injEq, Bool.and_eq_true, decide_eq_true_eq] at h
    obtain ⟨⟨hsz, hf⟩, rfl⟩ := h
    have hlen := bytes_len s
    have hall : (digs (bytesOf s)).all isDig = true := by unfold form at hf; rw [Bool.and_eq_true] at hf; exact hf.2
    have hne : digs (bytesOf s) ≠ [] := by
      intro h0
      unfold form at hf
      rw [h0] at hf
      cases hf
    have hok : okB 10 ((digs (bytesOf s)).reverse.map (· - 48)) = true := by
      refine okB_iff.2 (fun d hd => ?_)
      obtain ⟨c, hc, rfl⟩ := List.mem_map.1 hd
      have := dig_iff.1 (List.all_eq_true.1 hall c (List.mem_reverse.1 hc))
      omega
    have hdl : (digs (bytesOf s)).length ≤ s.size := by
      unfold digs
      cases hasNeg (bytesOf s) <;> simp only [cond_true, cond_false, List.length_drop] <;> omega
    have h0 : 0 < s.size := by
      have := List.length_pos_iff.2 hne
      omega
    have ew : IntKind.i64.wrap ((s.size : Int) - 1) = (s.size : Int) - 1 := w64 (by omega) (by omega)
    have fin : ∀ (b : Bool) (x : Int), hasNeg (bytesOf s) = b → (bt s 0 == 45) = b → Ends T RExact.orc RExact.L0 RExact.D0 (RExact.st0 s ((s.size : Int) - 1) []) (.exit 0) (RExact.st0 s x ((digs (bytesOf s)).reverse.map (· - 48))) →
        ∃ tab, (∀ C, TabOk T RExact.orc tab C) ∧ runT T RExact.orc tab Try.f84 [.str s] = some (.val (M (tval (bytesOf s)))) := by
      intro b x hb hbt hE
      refine ⟨_, tabOf_all _, (RExact.rest s ((digs (bytesOf s)).reverse.map (· - 48)) x).trans ?_⟩
      rw [ew]
      refine (bT (cdec_true hE)).trans ((bT (inB_iff.2 (by omega))).trans ((bT ?_).trans ?_))
      · rw [hok, few_iff.2 (by rw [List.length_map, List.length_reverse]; omega)]; rfl
      · rw [hbt]
        unfold tval
        rw [hb]
        rfl
    refine ⟨rfl, ?_⟩
    by_cases h45 : bt s 0 = 45
    · obtain ⟨_, hn, _⟩ := neg_of s h45
      have hd := neg_drop s h45
      obtain ⟨e1, S1, hE1, rfl, x, rfl⟩ := RExact.loop s hsz 1 (by omega) (by rw [← hd]; exact hall) (.inr ⟨rfl, h45⟩)
      rw [← hd] at hE1
      exact fin true x hn (by rw [h45]; rfl) hE1
    · obtain ⟨hn, hd⟩ := pos_of s h45
      obtain ⟨e1, S1, hE1, rfl, x, rfl⟩ := RExact.loop s hsz 0 (by omega) (by rw [List.drop_zero, ← hd]; exact hall) (.inl rfl)
      rw [List.drop_zero, ← hd] at hE1
      exact fin false x hn (by rw [beq_eq_false_iff_ne]; exact h45) (by rw [hd]; rw [hd] at hE1; exact hE1)
  · cases h
set_option exponentiation.threshold 20000 in
theorem ten400_Lim : (10 : Nat) ^ 400 < Lim := Nat.lt_of_not_le (fun h => by
  have h2 : Nat.ble Lim (10 ^ 400) = true := Nat.ble_eq_true_of_le h
  have h3 : Nat.ble Lim (10 ^ 400) = false := by kernel_rfl
  rw [h3] at h2; cases h2)
set_option exponentiation.threshold 20000 in
theorem tval_lim {l : List Int} (hf : form l = true) (hl : l.length ≤ 400) : (tval l).natAbs < Lim := by
  have hall : (digs l).all isDig = true := by unfold form at hf; rw [Bool.and_eq_true] at hf; exact hf.2
  have hdl : (digs l).length ≤ 400 := by
    unfold digs
    cases hasNeg l <;> simp only [cond_true, cond_false, List.length_drop] <;> omega
  have hb := dval_bound _ hall
  have hp := pow_mono (B := 10) (by decide) hdl
  have h1 : dval (digs l) < ((10 ^ 400 : Nat) : Int) := by rw [Int.natCast_pow]; exact Int.lt_of_lt_of_le hb.2 hp
  have h2 : (dval (digs l)).natAbs < Lim := Nat.lt_trans (by omega) ten400_Lim
  unfold tval
  cases hasNeg l <;> simp only [cond_true, cond_false, Int.natAbs_neg] <;> exact h2
theorem meets_rparse : Meets Try.prog 59 anrParse := by
  refine meets_fn (orc_ok (l := RParse.ans) ⟨meets_rform, meets_rexact, meets_rtoobig, trivial⟩) Try.f59 Try.func59 (by kernel_rfl) (fun args r h => ?_)
  unfold anrParse at h
  split at h
  · rename_i s
    simp only [Option.some.injEq, Prod.mk.injEq] at h
    obtain ⟨h, rfl⟩ := h
    have hsz := of_decide_eq_true h
    have hlen := bytes_len s
    refine ⟨rfl, _, noTab_all, (RParse.rest s).trans ((bT h).trans ?_)⟩
    cases hf : form (bytesOf s) with
    | false =>
      unfold rv re
      rw [hf]; rfl
    | true =>
      refine (bF rfl).trans ?_
      by_cases hbig : s.size > 400
      · refine (bT (decide_eq_true (by omega))).trans ?_
        have hdl : (digs (bytesOf s)).length > 343 := by
          unfold digs
          cases hasNeg (bytesOf s) <;> simp only [cond_true, cond_false, List.length_drop] <;> omega
        have hD : formD (digs (bytesOf s)) (hasNeg (bytesOf s)) = true := by rw [← form_D rfl rfl]; exact hf
        have hall : (digs (bytesOf s)).all isDig = true := ((formD_eq _ _).1 hD).2.2
        have h0 : (digs (bytesOf s)).getD 0 0 ≠ 48 := fun h0 => ((formD_eq _ _).1 hD).2.1 ⟨h0, .inl (by omega)⟩
        have hb := dval_big hall h0 hdl
        have hfz : fits (tval (bytesOf s)) = false := by
          refine big_fits ?_
          unfold tval
          cases hasNeg (bytesOf s) <;> simp only [cond_true, cond_false, az] <;> omega
        unfold rv re
        rw [hf]
        simp only [cond_true]
        unfold hz he
        rw [hfz]; rfl
      · refine (bF (decide_eq_false (by omega))).trans ((bT (by rw [h]; rfl)).trans ((bT ?_).trans ?_))
        · rw [cn10]; exact decide_eq_true (tval_lim hf (by omega))
        · rw [N10_eq]
          unfold rv re
          rw [hf]
          simp only [cond_true]
          unfold hz he
          cases fits (tval (bytesOf s)) <;> rfl
  · cases h
end Go.Abs
end
section
/- The statements of layer 1: their helpers. -/
namespace Go.Abs
open Go.Proofs Go.Dig
theorem txtL_byte (z : Int) : ∀ c ∈ txtL z, 0 ≤ c ∧ c < 256 := by
  intro c hc
  unfold txtL at hc
  by_cases h : z = 0
  · rw [if_pos h] at hc
    have := List.mem_singleton.1 hc
    omega
  · rw [if_neg h] at hc
    rcases List.mem_append.1 hc with hc | hc
    · split at hc
      · have := List.mem_singleton.1 hc; omega
      · cases hc
    · unfold dig at hc
      obtain ⟨d, hd, rfl⟩ := List.mem_map.1 hc
      have := okB_iff.1 (limbs_ok T_pos (z.natAbs : Int)) d (List.mem_reverse.1 hd)
      omega
theorem bytesOf_strOf {l : List Int} (h : ∀ c ∈ l, 0 ≤ c ∧ c < 256) : bytesOf (strOf l) = l := by
  unfold bytesOf strOf
  simp only [List.map_map]
  refine (List.map_congr_left (g := id) (fun c hc => ?_)).trans (List.map_id l)
  have := h c hc
  show ((UInt8.ofNat c.toNat).toNat : Int) = c
  rw [UInt8.toNat_ofNat']
  omega
theorem toList_inj {a b : ByteArray} (h : a.toList = b.toList) : a = b := by
  rw [ByteArray.toList_eq, ByteArray.toList_eq] at h
  exact ByteArray.ext (Array.toList_inj.1 h)
theorem bytesOf_txt (z : Int) : bytesOf (txt z) = txtL z := bytesOf_strOf (txtL_byte z)
/-- What num gives is held. -/
theorem fits_rv (s : ByteArray) : fits (rv s) = true := by
  have f0 : fits 0 = true := by kernel_rfl
  unfold rv
  cases form (bytesOf s) with
  | false => exact f0
  | true =>
    rw [cond_true]
    unfold hz
    cases hf : fits (tval (bytesOf s)) with
    | false => exact f0
    | true => exact hf
theorem fits_nv (s : ByteArray) : fits (nv s) = true := fits_rv _
end Go.Abs
end
section
/- The statements of layer 1: texts read, numbers reckoned. -/
namespace Go.Abs
open Go.Proofs Go.Dig
theorem bytesOf_inj {a b : ByteArray} (h : bytesOf a = bytesOf b) : a = b := by
  have hs : a.size = b.size := by rw [← bytes_len, ← bytes_len, h]
  unfold bytesOf at h
  have : a.data.toList = b.data.toList := by
    refine (List.map_inj_right (fun x y hxy => ?_)).1 h
    have hxy : (x.toNat : Int) = y.toNat := hxy
    exact UInt8.toNat_inj.1 (by omega)
  exact ByteArray.ext (Array.toList_inj.1 this)
end Go.Abs
end
section
/- The statements of layer 1: rings, moves. -/
namespace Go.Abs
open Go.Proofs Go.Dig
theorem ne_b {x y : Int} (h : x ≠ y) : (x != y) = true := by rw [bne_iff_ne]; exact h
theorem eq_b {x y : Int} (h : x = y) : (x != y) = false := by subst h; exact bne_self_eq_false x
end Go.Abs
end
section
/- The statements of layer 1: quotients and rests, divisors. -/
namespace Go.Abs
open Go.Proofs Go.Dig
theorem fits_le {x y : Int} (h : fits y = true) (hle : x.natAbs ≤ y.natAbs) : fits x = true := fits_iff.2 (Nat.lt_of_le_of_lt hle (fits_iff.1 h))
theorem fits_gz {x y : Int} (hx : fits x = true) (hy : fits y = true) : fits (gz x y) = true := by
  unfold gz
  by_cases h : x = 0
  · subst h
    rw [Int.gcd_zero_left]
    exact fits_le hy (by omega)
  · have : Int.gcd x y ≤ x.natAbs := Nat.le_of_dvd (by omega) (Nat.gcd_dvd_left _ _)
    exact fits_le hx (by omega)
end Go.Abs
end
section
/- The statements of layer 1: sums of lists. -/
namespace Go.Abs
open Go.Proofs Go.Dig
def isS : List AV → Bool
  | [.str _] => true
  | _ => false
end Go.Abs
end
section
/- Sums of variables as lists: plain mathematics. -/
namespace Go.Abs
open Go.Dig
theorem fits0 : fits 0 = true := by kernel_rfl
abbrev Asc (l : List (Int × Int)) : Prop := l.Pairwise (fun p q => p.1 < q.1)
def Nz (l : List (Int × Int)) : Prop := ∀ p ∈ l, p.2 ≠ 0
def In (l : List (Int × Int)) : Prop := ∀ p ∈ l, 0 ≤ p.1 ∧ p.1 < 4096
theorem mem_ofF {f : Int → Int} {p : Int × Int} : p ∈ ofF f ↔ (0 ≤ p.1 ∧ p.1 < 4096) ∧ p.2 = f p.1 ∧ p.2 ≠ 0 := by
  rw [ofF_eq]
  rw [List.mem_filter, List.mem_map, bne_iff_ne]
  constructor
  · rintro ⟨⟨v, hv, rfl⟩, h⟩
    rw [List.mem_range] at hv
    exact ⟨⟨by omega, by show (v : Int) < 4096; omega⟩, rfl, h⟩
  · rintro ⟨⟨h1, h2⟩, h3, h4⟩
    refine ⟨⟨p.1.toNat, List.mem_range.2 (by omega), ?_⟩, h4⟩
    rw [Int.toNat_of_nonneg h1, ← h3]
theorem nz_ofF (f : Int → Int) : Nz (ofF f) := fun p hp => (mem_ofF.1 hp).2.2
theorem in_ofF (f : Int → Int) : In (ofF f) := fun p hp => (mem_ofF.1 hp).1
theorem asc_ofF (f : Int → Int) : Asc (ofF f) := by
  rw [ofF_eq]
  refine List.Pairwise.filter _ (List.pairwise_map.2 ?_)
  refine List.pairwise_lt_range.imp (fun h => ?_)
  exact Int.ofNat_lt.2 h
theorem cf_cons (p : Int × Int) (l : List (Int × Int)) (v : Int) : cf (p :: l) v = if p.1 = v then p.2 else cf l v := by
  show (bif decide (p.1 = v) then p.2 else cf l v) = _
  by_cases h : p.1 = v
  · rw [decide_eq_true h, if_pos h]; rfl
  · rw [decide_eq_false h, if_neg h]; rfl
theorem cf_nil (v : Int) : cf [] v = 0 := rfl
theorem cf_none {l : List (Int × Int)} {v : Int} (h : ∀ p ∈ l, p.1 ≠ v) : cf l v = 0 := by
  induction l with
  | nil => rfl
  | cons p l ih =>
    rw [cf_cons, if_neg (h p List.mem_cons_self)]
    exact ih (fun q hq => h q (List.mem_cons_of_mem _ hq))
theorem cf_mem {l : List (Int × Int)} (ha : Asc l) {p : Int × Int} (hp : p ∈ l) : cf l p.1 = p.2 := by
  induction l with
  | nil => cases hp
  | cons q l ih =>
    have ha := List.pairwise_cons.1 ha
    rw [cf_cons]
    rcases List.mem_cons.1 hp with rfl | h
    · rw [if_pos rfl]
    · rw [if_neg (by have := ha.1 p h; omega)]
      exact ih ha.2 h
theorem cf_ofF (f : Int → Int) (v : Int) : cf (ofF f) v = if 0 ≤ v ∧ v < 4096 then f v else 0 := by
  by_cases hv : 0 ≤ v ∧ v < 4096
  · rw [if_pos hv]
    by_cases h0 : f v = 0
    · rw [h0]
      refine cf_none (fun p hp hpv => ?_)
      obtain ⟨_, h1, h2⟩ := mem_ofF.1 hp
      rw [hpv] at h1
      omega
    · have hm : ((v, f v) : Int × Int) ∈ ofF f := mem_ofF.2 ⟨hv, rfl, h0⟩
      exact cf_mem (p := (v, f v)) (asc_ofF f) hm
  · rw [if_neg hv]
    exact cf_none (fun p hp hpv => hv (hpv ▸ in_ofF f p hp))
theorem cf_ext : ∀ {l m : List (Int × Int)}, Asc l → Nz l → Asc m → Nz m → (∀ v, cf l v = cf m v) → l = m
  | [], [], _, _, _, _, _ => rfl
  | [], q :: m, _, _, _, hn, h => by
    have := h q.1
    rw [cf_nil, cf_cons, if_pos rfl] at this
    exact absurd this.symm (hn q List.mem_cons_self)
  | p :: l, [], _, hn, _, _, h => by
    have := h p.1
    rw [cf_nil, cf_cons, if_pos rfl] at this
    exact absurd this (hn p List.mem_cons_self)
  | p :: l, q :: m, ha, hn, ha', hn', h => by
    have ha := List.pairwise_cons.1 ha
    have ha' := List.pairwise_cons.1 ha'
    have h1 := h p.1
    have h2 := h q.1
    rw [cf_cons, if_pos rfl, cf_cons] at h1
    rw [cf_cons q m, if_pos rfl, cf_cons] at h2
    have e1 : p.1 = q.1 := by
      false_or_by_contra
      rename_i hne
      rw [if_neg (fun hh => hne hh.symm)] at h1
      rw [if_neg hne] at h2
      rcases Int.lt_or_gt_of_ne hne with hl | hl
      · exact hn p List.mem_cons_self (h1.trans (cf_none (fun r hr hv => by have := ha'.1 r hr; omega)))
      · exact hn' q List.mem_cons_self (h2.symm.trans (cf_none (fun r hr hv => by have := ha.1 r hr; omega)))
    rw [if_pos e1.symm] at h1
    have e2 : p = q := Prod.ext e1 h1
    subst e2
    have e3 : l = m := by
      refine cf_ext ha.2 (fun r hr => hn r (List.mem_cons_of_mem _ hr)) ha'.2 (fun r hr => hn' r (List.mem_cons_of_mem _ hr)) (fun v => ?_)
      by_cases hv : p.1 = v
      · rw [cf_none (fun r hr hrv => by have := ha.1 r hr; omega), cf_none (fun r hr hrv => by have := ha'.1 r hr; omega)]
      · have := h v
        rw [cf_cons, if_neg hv, cf_cons, if_neg hv] at this
        exact this
    rw [e3]
/-- A list of that kind is its coefficients' list. -/
theorem canon {l : List (Int × Int)} (ha : Asc l) (hn : Nz l) (hi : In l) : l = ofF (cf l) := by
  refine cf_ext ha hn (asc_ofF _) (nz_ofF _) (fun v => ?_)
  rw [cf_ofF]
  by_cases hv : 0 ≤ v ∧ v < 4096
  · rw [if_pos hv]
  · rw [if_neg hv]
    exact cf_none (fun p hp hpv => hv (hpv ▸ hi p hp))
theorem ofF_congr {f g : Int → Int} (h : ∀ v, 0 ≤ v → v < 4096 → f v = g v) : ofF f = ofF g := by
  refine cf_ext (asc_ofF _) (nz_ofF _) (asc_ofF _) (nz_ofF _) (fun v => ?_)
  rw [cf_ofF, cf_ofF]
  by_cases hv : 0 ≤ v ∧ v < 4096
  · rw [if_pos hv, if_pos hv, h v hv.1 hv.2]
  · rw [if_neg hv, if_neg hv]
theorem ofF_zero : ofF (fun _ => 0) = [] := by
  refine List.eq_nil_iff_forall_not_mem.2 (fun p hp => ?_)
  obtain ⟨_, h1, h2⟩ := mem_ofF.1 hp
  exact h2 h1
theorem ofF_len (f : Int → Int) : (ofF f).length ≤ 4096 := by
  rw [ofF_eq]
  refine Nat.le_trans (List.length_filter_le _ _) ?_
  rw [List.length_map, List.length_range]
  exact Nat.le_refl _
theorem okL_asc {l : List (Int × Int)} (h : okL l) : Asc l := by obtain ⟨f, _, rfl⟩ := h; exact asc_ofF f
theorem okL_nz {l : List (Int × Int)} (h : okL l) : Nz l := by obtain ⟨f, _, rfl⟩ := h; exact nz_ofF f
theorem okL_in {l : List (Int × Int)} (h : okL l) : In l := by obtain ⟨f, _, rfl⟩ := h; exact in_ofF f
theorem okL_len {l : List (Int × Int)} (h : okL l) : l.length ≤ 4096 := by obtain ⟨f, _, rfl⟩ := h; exact ofF_len f
theorem okL_canon {l : List (Int × Int)} (h : okL l) : l = ofF (cf l) := canon (okL_asc h) (okL_nz h) (okL_in h)
theorem okL_cf {l : List (Int × Int)} (h : okL l) (v : Int) : fits (cf l v) = true := by
  obtain ⟨f, hf, rfl⟩ := h
  rw [cf_ofF]
  split
  · exact hf v
  · exact fits0
theorem okL_mem {l : List (Int × Int)} (h : okL l) {p : Int × Int} (hp : p ∈ l) : fits p.2 = true := by
  rw [← cf_mem (okL_asc h) hp]; exact okL_cf h _
theorem okL_ofF {f : Int → Int} (h : ∀ v, 0 ≤ v → v < 4096 → fits (f v) = true) : okL (ofF f) := by
  refine ⟨fun v => if 0 ≤ v ∧ v < 4096 then f v else 0, fun v => ?_, ofF_congr (fun v h1 h2 => by rw [if_pos ⟨h1, h2⟩])⟩
  by_cases hv : 0 ≤ v ∧ v < 4096
  · show fits (if 0 ≤ v ∧ v < 4096 then f v else 0) = true
    rw [if_pos hv]; exact h v hv.1 hv.2
  · show fits (if 0 ≤ v ∧ v < 4096 then f v else 0) = true
    rw [if_neg hv]; exact fits0
theorem okL_nil : okL [] := ⟨fun _ => 0, fun _ => fits0, ofF_zero.symm⟩
/-- What is of a kind on both sides. -/
theorem eq_ofF {l : List (Int × Int)} {f : Int → Int} (ha : Asc l) (hn : Nz l) (e : ∀ v, cf l v = if 0 ≤ v ∧ v < 4096 then f v else 0) : l = ofF f :=
  cf_ext ha hn (asc_ofF _) (nz_ofF _) (fun v => by rw [e, cf_ofF])
theorem cf_snoc {l : List (Int × Int)} {p : Int × Int} (h : ∀ q ∈ l, q.1 < p.1) (v : Int) : cf (l ++ [p]) v = if v = p.1 then p.2 else cf l v := by
  induction l with
  | nil =>
    rw [List.nil_append, cf_cons, cf_nil]
    by_cases hv : p.1 = v
    · rw [if_pos hv, if_pos hv.symm]
    · rw [if_neg hv, if_neg (fun hh => hv hh.symm)]
  | cons q l ih =>
    rw [List.cons_append, cf_cons, cf_cons, ih (fun r hr => h r (List.mem_cons_of_mem _ hr))]
    have := h q List.mem_cons_self
    by_cases hv : q.1 = v
    · rw [if_pos hv, if_neg (by omega), if_pos hv]
    · rw [if_neg hv, if_neg hv]
/-- One more behind, none with nought. -/
def putL (z : Int) (l : List (Int × Int)) (v : Int) : List (Int × Int) := bif z == 0 then l else l ++ [(v, z)]
theorem putL_snoc {f g : Int → Int} {v z : Int} (hv : 0 ≤ v ∧ v < 4096) (h0 : ∀ w, v ≤ w → w < 4096 → f w = 0) (hg : ∀ w, 0 ≤ w → w < 4096 → g w = if w = v then z else f w) : putL z (ofF f) v = ofF g := by
  have hlt : ∀ q ∈ ofF f, q.1 < v := fun q hq => by
    obtain ⟨h1, h2, h3⟩ := mem_ofF.1 hq
    false_or_by_contra
    rename_i hn
    exact h3 (h2.trans (h0 q.1 (by omega) h1.2))
  unfold putL
  by_cases hz : z = 0
  · rw [show (z == 0) = true from beq_iff_eq.2 hz, cond_true]
    refine ofF_congr (fun w h1 h2 => ?_)
    rw [hg w h1 h2]
    split
    · rename_i hw; rw [hz, hw]; exact h0 v (Int.le_refl _) hv.2
    · rfl
  · rw [show (z == 0) = false from beq_eq_false_iff_ne.2 hz, cond_false]
    refine eq_ofF ?_ ?_ (fun w => ?_)
    · refine List.pairwise_append.2 ⟨asc_ofF f, List.pairwise_singleton .., fun q hq p hp => ?_⟩
      rw [List.mem_singleton.1 hp]
      exact hlt q hq
    · intro q hq
      rcases List.mem_append.1 hq with hq | hq
      · exact nz_ofF f q hq
      · rw [List.mem_singleton.1 hq]; exact hz
    · rw [cf_snoc hlt, cf_ofF]
      by_cases hw : 0 ≤ w ∧ w < 4096
      · rw [if_pos hw, if_pos hw, hg w hw.1 hw.2]
      · rw [if_neg hw, if_neg hw, if_neg (by rintro rfl; exact hw hv)]
theorem putV_map (z : Int) (l : List (Int × Int)) (v : Int) : putV z (l.map (fun p => p.1)) v = (putL z l v).map (fun p => p.1) := by
  unfold putV putL
  cases z == 0 with
  | true => rfl
  | false => rw [cond_false, cond_false, List.map_append]; rfl
theorem putR_map (z : Int) (l : List (Int × Int)) (v : Int) : putR z (l.map cL) [.bool (sg z), .ints .u32 (lb 4294967296 z)] = (putL z l v).map cL := by
  unfold putR putL
  cases z == 0 with
  | true => rfl
  | false => rw [cond_false, cond_false, List.map_append]; rfl
/-- A list's first parts: their coefficients. -/
theorem take_lt {l : List (Int × Int)} (ha : Asc l) {i : Nat} (hi : i < l.length) : ∀ q ∈ l.take i, q.1 < l[i].1 := fun q hq => by
  obtain ⟨j, hj, rfl⟩ := List.mem_take_iff_getElem.1 hq
  exact List.pairwise_iff_getElem.1 ha j i (by omega) hi (by omega)
theorem cf_take_succ {l : List (Int × Int)} (ha : Asc l) {i : Nat} (hi : i < l.length) (v : Int) : cf (l.take (i + 1)) v = if v = l[i].1 then l[i].2 else cf (l.take i) v := by
  rw [List.take_add_one, List.getElem?_eq_getElem hi]
  exact cf_snoc (take_lt ha hi) v
theorem cf_take_ge {l : List (Int × Int)} (ha : Asc l) {i : Nat} (hi : i < l.length) {v : Int} (hv : l[i].1 ≤ v) : cf (l.take i) v = 0 :=
  cf_none (fun p hp hpv => by have := take_lt ha hi p hp; omega)
/-- One part more, each coefficient by a law of its own. -/
theorem map_step {l : List (Int × Int)} (ha : Asc l) (hn : In l) {g : Int → Int → Int} (g0 : ∀ v, g v 0 = 0) {i : Nat} (hi : i < l.length) :
    putL (g l[i].1 l[i].2) (ofF (fun v => g v (cf (l.take i) v))) l[i].1 = ofF (fun v => g v (cf (l.take (i + 1)) v)) := by
  refine putL_snoc (hn _ (List.getElem_mem hi)) (fun w h1 h2 => ?_) (fun w h1 h2 => ?_)
  · rw [cf_take_ge ha hi h1, g0]
  · rw [cf_take_succ ha hi]
    by_cases hw : w = l[i].1
    · rw [if_pos hw, if_pos hw, hw]
    · rw [if_neg hw, if_neg hw]
theorem map_step0 {g : Int → Int → Int} (g0 : ∀ v, g v 0 = 0) (l : List (Int × Int)) : ofF (fun v => g v (cf (l.take 0) v)) = [] := by
  rw [List.take_zero]
  exact (ofF_congr (fun v _ _ => g0 v)).trans ofF_zero
theorem lvs_nil : lvs [] = [] := lvs_eq []
theorem lrs_nil : lrs [] = [] := lrs_eq []
/-- What stands for a list. -/
theorem map_rowN_cL (l : List (Int × Int)) : (l.map cL).map (rowN 4294967296) = l.map (fun p => p.2) := by
  rw [List.map_map]
  exact List.map_congr_left (fun p _ => num_lb (by decide) p.2)
theorem dl_map (l : List (Int × Int)) : dl (l.map (fun p => p.1)) (l.map cL) = l := by
  rw [dl_eq, map_rowN_cL]
  induction l with
  | nil => rfl
  | cons p l ih => rw [List.map_cons, List.map_cons, List.zip_cons_cons, ih]
theorem dp_map (l : List (Int × ByteArray)) : dp (l.map cP) = l := by
  rw [dp_eq, List.map_map]
  exact (List.map_congr_left (fun p _ => rfl)).trans (List.map_id l)
theorem isl_iff {vs : List Int} {r : List (List AV)} : isl vs r = true ↔ ∃ l, okL l ∧ vs = l.map (fun p => p.1) ∧ r = l.map cL := by
  rw [isl_eq]; exact ⟨cdec_iff, cdec_true⟩
theorem isp_iff {r : List (List AV)} : isp r = true ↔ ∃ l : List (Int × ByteArray), (∀ p ∈ l, i64B p.1 = true ∧ p.2.size ≤ 10000) ∧ r = l.map cP := by
  rw [isp_eq]; exact ⟨cdec_iff, cdec_true⟩
theorem isq_iff {r : List (List AV)} : isq r = true ↔ ∃ l : List (Int × ByteArray), (∀ p ∈ l, i64B p.1 = true) ∧ r = l.map cP := by
  rw [isq_eq]; exact ⟨cdec_iff, cdec_true⟩
theorem isg_iff {r : List (List AV)} : isg r = true ↔ ∃ l : List (Int × ByteArray), (∀ p ∈ l, i64B p.1 = true ∧ p.1 < 4096 ∧ p.2.size ≤ 10000) ∧ l.length ≤ 100000 ∧ r = l.map cP := by
  rw [isg_eq]; exact ⟨cdec_iff, cdec_true⟩
theorem isvw_iff {r : List (List AV)} : isvw r = true ↔ ∃ l : List Int, (∀ z ∈ l, fits z = true) ∧ l.length ≤ 100000 ∧ r = l.map (fun z => [.bool (sg z), .ints .u32 (lb 4294967296 z)]) := by
  rw [isvw_eq]; exact ⟨cdec_iff, cdec_true⟩
theorem isStrs_iff {r : List (List AV)} : isStrs r = true ↔ ∃ l : List ByteArray, r = l.map (fun s => [AV.str s]) := by
  rw [isStrs_eq]; exact ⟨cdec_iff, cdec_true⟩
theorem strL_map (l : List ByteArray) : strL (l.map (fun s => [AV.str s])) = l := by
  rw [strL_eq, List.map_map]
  exact (List.map_congr_left (fun p _ => rfl)).trans (List.map_id l)
theorem dvw_map (l : List Int) : dvw (l.map (fun z => [.bool (sg z), .ints .u32 (lb 4294967296 z)])) = l := by
  rw [dvw_eq, List.map_map]
  exact (List.map_congr_left (fun p _ => num_lb (by decide) p)).trans (List.map_id l)
theorem dl_lvs (l : List (Int × Int)) : dl (lvs l) (lrs l) = l := by rw [lvs_eq, lrs_eq, dl_map]
theorem dp_prs (l : List (Int × ByteArray)) : dp (prs l) = l := by rw [prs_eq, dp_map]
theorem dvw_vws (l : List Int) : dvw (vws l) = l := by rw [vws_eq, dvw_map]
theorem isl_lvs {l : List (Int × Int)} (h : okL l) : isl (lvs l) (lrs l) = true := isl_iff.2 ⟨l, h, lvs_eq l, lrs_eq l⟩
theorem cnW_fits {z : Int} (h : fits z = true) : cn 4294967296 (sg z) (lb 4294967296 z) = true := by
  rw [cn_lb (by decide), decide_eq_true (small_of_fits h)]
/-- A term's four parts, as they are handed on. -/
theorem isT_iff {vs : List Int} {r : List (List AV)} {b : Bool} {m : List Int} : isT vs r b m = true ↔ ∃ l c, okL l ∧ fits c = true ∧ vs = l.map (fun p => p.1) ∧ r = l.map cL ∧ b = sg c ∧ m = lb 4294967296 c := by
  unfold isT
  rw [Bool.and_eq_true, Bool.and_eq_true, isl_iff, cn_iff (by decide)]
  constructor
  · rintro ⟨⟨l, h1, h2, h3⟩, ⟨z, h4, h5, _⟩, h6⟩
    rw [h4, h5, num_lb (by decide)] at h6
    exact ⟨l, z, h1, h6, h2, h3, h4, h5⟩
  · rintro ⟨l, c, h1, h2, h3, h4, h5, h6⟩
    refine ⟨⟨l, h1, h3, h4⟩, ⟨c, h5, h6, small_of_fits h2⟩, ?_⟩
    rw [h5, h6, num_lb (by decide)]; exact h2
theorem isT_of {l : List (Int × Int)} {c : Int} (h : okL l) (k : fits c = true) : isT (lvs l) (lrs l) (sg c) (lb 4294967296 c) = true := isT_iff.2 ⟨l, c, h, k, lvs_eq l, lrs_eq l, rfl, rfl⟩
theorem isT_of0 {l : List (Int × Int)} (h : okL l) : isT (lvs l) (lrs l) false [] = true := isT_iff.2 ⟨l, 0, h, fits0, lvs_eq l, lrs_eq l, sg_zero.symm, (lb_zero _).symm⟩
theorem fits_neg {z : Int} (h : fits z = true) : fits (-z) = true := by
  unfold fits at h ⊢
  rw [Int.natAbs_neg]; exact h
/-- The kinds of the results. -/
theorem okL_neg {l : List (Int × Int)} (h : okL l) : okL (negL l) := by
  rw [negL_eq]; exact okL_ofF (fun v _ _ => fits_neg (okL_cf h v))
theorem addE_cases (l m : List (Int × Int)) (c d : Int) : (addE l m c d = 0 ∧ addL l m c d = ofF (fun v => cf l v + cf m v) ∧ addC l m c d = c + d ∧ fits (c + d) = true ∧ ∀ v, fits (cf l v + cf m v) = true) ∨ (addE l m c d = 11 ∧ addL l m c d = [] ∧ addC l m c d = 0 ∧ ¬ (fits (c + d) = true ∧ ∀ v, fits (cf l v + cf m v) = true)) := by
  have h1 := addE_eq l m c d
  have h2 := addL_eq l m c d
  have h3 := addC_eq l m c d
  cases hb : (fits (c + d) && cdec (∀ v, fits (cf l v + cf m v) = true)) with
  | true =>
    rw [hb] at h1
    have h1 : addE l m c d = 0 := h1
    rw [h1] at h2 h3
    rw [Bool.and_eq_true] at hb
    exact .inl ⟨h1, h2, h3, hb.1, cdec_iff hb.2⟩
  | false =>
    rw [hb] at h1
    have h1 : addE l m c d = 11 := h1
    rw [h1] at h2 h3
    refine .inr ⟨h1, h2, h3, fun ⟨k1, k2⟩ => ?_⟩
    rw [k1, cdec_true k2] at hb
    cases hb
theorem okL_add (l m : List (Int × Int)) (c d : Int) : okL (addL l m c d) := by
  rcases addE_cases l m c d with ⟨_, h, _, _, k⟩ | ⟨_, h, _⟩
  · rw [h]; exact okL_ofF (fun v _ _ => k v)
  · rw [h]; exact okL_nil
theorem fits_addC (l m : List (Int × Int)) (c d : Int) : fits (addC l m c d) = true := by
  rcases addE_cases l m c d with ⟨_, _, h, k, _⟩ | ⟨_, _, h, _⟩
  · rw [h]; exact k
  · rw [h]; exact fits0
theorem scE_cases (l : List (Int × Int)) (c k : Int) : (scE l c k = 0 ∧ scL l c k = ofF (fun v => cf l v * k) ∧ scC l c k = c * k ∧ fits (c * k) = true ∧ ∀ v, fits (cf l v * k) = true) ∨ (scE l c k = 11 ∧ scL l c k = [] ∧ scC l c k = 0 ∧ ¬ (fits (c * k) = true ∧ ∀ v, fits (cf l v * k) = true)) := by
  have h1 := scE_eq l c k
  have h2 := scL_eq l c k
  have h3 := scC_eq l c k
  cases hb : (fits (c * k) && cdec (∀ v, fits (cf l v * k) = true)) with
  | true =>
    rw [hb] at h1
    have h1 : scE l c k = 0 := h1
    rw [h1] at h2 h3
    rw [Bool.and_eq_true] at hb
    exact .inl ⟨h1, h2, h3, hb.1, cdec_iff hb.2⟩
  | false =>
    rw [hb] at h1
    have h1 : scE l c k = 11 := h1
    rw [h1] at h2 h3
    refine .inr ⟨h1, h2, h3, fun ⟨k1, k2⟩ => ?_⟩
    rw [k1, cdec_true k2] at hb
    cases hb
theorem okL_sc (l : List (Int × Int)) (c k : Int) : okL (scL l c k) := by
  rcases scE_cases l c k with ⟨_, h, _, _, e⟩ | ⟨_, h, _⟩
  · rw [h]; exact okL_ofF (fun v _ _ => e v)
  · rw [h]; exact okL_nil
theorem fits_scC (l : List (Int × Int)) (c k : Int) : fits (scC l c k) = true := by
  rcases scE_cases l c k with ⟨_, _, h, e, _⟩ | ⟨_, _, h, _⟩
  · rw [h]; exact e
  · rw [h]; exact fits0
theorem okL_rem {l : List (Int × Int)} (h : okL l) (v : Int) : okL (remL l v) := by
  rw [remL_eq]
  refine okL_ofF (fun w _ _ => ?_)
  cases decide (w = v) with
  | true => exact fits0
  | false => exact okL_cf h w
theorem vok_iff {v : Int} : vok v = true ↔ 0 ≤ v ∧ v < 4096 := by
  unfold vok; rw [Bool.and_eq_true, decide_eq_true_eq, decide_eq_true_eq]
theorem cf_lone (v c w : Int) : cf (lone v c) w = if (0 ≤ v ∧ v < 4096) ∧ w = v then c else 0 := by
  rw [lone_eq, cf_ofF]
  by_cases hw : w = v
  · subst hw
    rw [decide_eq_true rfl]
    by_cases h : 0 ≤ w ∧ w < 4096
    · rw [if_pos h, if_pos ⟨h, rfl⟩]; rfl
    · rw [if_neg h, if_neg (fun hh => h hh.1)]
  · rw [decide_eq_false hw, cond_false, ite_self, if_neg (fun hh : (0 ≤ v ∧ v < 4096) ∧ w = v => hw hh.2)]
theorem okL_lone (v : Int) {c : Int} (h : fits c = true) : okL (lone v c) := by
  rw [lone_eq]
  refine okL_ofF (fun w _ _ => ?_)
  cases decide (w = v) with
  | true => exact h
  | false => exact fits0
theorem lone_put {v : Int} (hv : 0 ≤ v ∧ v < 4096) (c : Int) : lone v c = putL c [] v := by
  rw [lone_eq]
  have h := putL_snoc (f := fun _ => 0) (g := fun w => bif decide (w = v) then c else 0) (z := c) hv (fun _ _ _ => rfl) (fun w _ _ => by
    by_cases hw : w = v
    · rw [decide_eq_true hw, if_pos hw]; rfl
    · rw [decide_eq_false hw, if_neg hw]; rfl)
  rw [ofF_zero] at h
  exact h.symm
theorem lone_one {v : Int} (hv : 0 ≤ v ∧ v < 4096) : lone v 1 = [(v, 1)] := lone_put hv 1
theorem okL_pt {l m : List (Int × Int)} {c d : Int} (h : okL l) (v : Int) : okL (ptL l c v m d) := by
  rw [ptL_eq]
  cases cf l v == 0 with
  | true => exact h
  | false =>
    cases scE m d (cf l v) == 0 with
    | true => exact okL_add _ _ _ _
    | false => exact okL_nil
theorem fits_ptC {l m : List (Int × Int)} {c d : Int} (h : fits c = true) (v : Int) : fits (ptC l c v m d) = true := by
  rw [ptC_eq]
  cases cf l v == 0 with
  | true => exact h
  | false =>
    cases scE m d (cf l v) == 0 with
    | true => exact fits_addC _ _ _ _
    | false => exact fits0
end Go.Abs
end
section
/- Parts put behind the others: in linear and in its reference. -/
namespace Go.Abs
open Go.Proofs Go.Dig
theorem cmpZ_zero (z : Int) : (cmpZ z 0 != 0) = !(z == 0) := by
  rw [Bool.eq_iff_iff, bne_iff_ne, Bool.not_eq_true', beq_eq_false_iff_ne]
  unfold cmpZ; (repeat' split) <;> omega
theorem cmpZ_zero' (z : Int) : (cmpZ z 0 == 0) = (z == 0) := by
  rw [Bool.eq_iff_iff, beq_iff_eq, beq_iff_eq]
  unfold cmpZ; (repeat' split) <;> omega
theorem room8 {l : List Int} {v : Int} (h : l.length ≤ 100000) : (true && decide ((l ++ [v]).length * 8 ≤ 140737488355328)) = true := by
  rw [Bool.true_and, decide_eq_true_eq, List.length_append]; simp only [List.length_cons, List.length_nil]; omega
theorem room32 {l : List (List AV)} {v : List AV} (h : l.length ≤ 100000) : (true && decide ((l ++ [v]).length * 32 ≤ 140737488355328)) = true := by
  rw [Bool.true_and, decide_eq_true_eq, List.length_append]; simp only [List.length_cons, List.length_nil]; omega
theorem meets_lput : Meets Try.prog 68 ansLPut := by
  refine meets_runU T_ok (orc_ok (l := LPut.ans) ⟨meets_sign, trivial⟩) mixed (fn := Try.f68) Try.func68 (by kernel_rfl) (fun args r h => ?_)
  unfold ansLPut at h
  split at h
  · simp at h
  · rename_i vs rr b m v s l
    simp only [Option.some.injEq, Prod.mk.injEq, Bool.and_eq_true, decide_eq_true_eq] at h
    obtain ⟨⟨⟨h1, h2⟩, h3⟩, rfl⟩ := h
    refine ⟨_, _, rfl, runU_tab (noTab_all _) ((LPut.rest vs rr b m v s l).trans ((bT h1).trans ?_))⟩
    rw [cmpZ_zero]
    unfold putV putR
    cases hb : num 4294967296 s l == 0 with
    | true => rfl
    | false => exact (bT rfl).trans ((bT (room8 h2)).trans (bT (room32 h3)))
  · rename_i vs rr b m b2 m2 v s l
    simp only [Option.some.injEq, Prod.mk.injEq, Bool.and_eq_true, decide_eq_true_eq] at h
    obtain ⟨⟨⟨h1, h2⟩, h3⟩, rfl⟩ := h
    refine ⟨_, _, rfl, runU_tab (noTab_all _) ((LPut6.rest vs rr b m b2 m2 v s l).trans ((bT h1).trans ?_))⟩
    rw [cmpZ_zero]
    unfold putV putR
    cases hb : num 4294967296 s l == 0 with
    | true => rfl
    | false => exact (bT rfl).trans ((bT (room8 h2)).trans (bT (room32 h3)))
  · cases h
theorem getL {l : List (Int × Int)} {i : Nat} (h : i < l.length) : (l.map cL).getD ((i : Int).toNat) [] = cL l[i] := by
  rw [Int.toNat_natCast, getD_at (by rw [List.length_map]; exact h), List.getElem_map]
theorem getP {l : List (Int × ByteArray)} {i : Nat} (h : i < l.length) : (l.map cP).getD ((i : Int).toNat) [] = cP l[i] := by
  rw [Int.toNat_natCast, getD_at (by rw [List.length_map]; exact h), List.getElem_map]
theorem rdV {l : List (Int × Int)} {i : Nat} (h : i < l.length) : rd (l.map (fun p => p.1)) (i : Int) = l[i].1 := by
  rw [rd_nat, getD_at (by rw [List.length_map]; exact h), List.getElem_map]
theorem cL0 (p : Int × Int) : gBool ((cL p).getD 0 .top) = sg p.2 := rfl
theorem cL1 (p : Int × Int) : gInts ((cL p).getD 1 .top) = lb 4294967296 p.2 := rfl
theorem cLeta (p : Int × Int) : etasOk [.bool false, .ints .u32 []] (cL p) = true := rfl
theorem inN {i n : Nat} (h : i < n) : inB (i : Int) n = true := by rw [inB_nat]; exact decide_eq_true h
theorem ltN {i n : Nat} (h : i < n) : decide ((i : Int) < (n : Int)) = true := decide_eq_true (Int.ofNat_lt.2 h)
theorem ltN' {i n : Nat} (h : ¬ i < n) : decide ((i : Int) < (n : Int)) = false := decide_eq_false (fun hh => h (Int.ofNat_lt.1 hh))
theorem he_big {z : Int} (h : fits z = false) : he z = 11 := by unfold he; rw [h]; rfl
theorem hz_fit {z : Int} (h : fits z = true) : hz z = z := by unfold hz; rw [h]; rfl
theorem he_fit {z : Int} (h : fits z = true) : he z = 0 := by unfold he; rw [h]; rfl
end Go.Abs
end
section
/- What the small functions of linear answer. -/
namespace Go.Abs
open Go.Proofs Go.Dig
theorem meets_nnum : Meets Try.prog 73 ansLNum := by
  refine meets_fn (orc_ok (l := NNum.ans) trivial) Try.f73 Try.func73 (by kernel_rfl) (fun args r h => ?_)
  unfold ansLNum at h
  split at h
  · rename_i s l
    simp only [Option.some.injEq, Prod.mk.injEq] at h
    obtain ⟨_, rfl⟩ := h
    exact ⟨rfl, _, noTab_all, NNum.rest s l⟩
  · cases h
theorem meets_nvar : Meets Try.prog 35 ansLVar := by
  refine meets_fn (orc_ok (l := NVar.ans) ⟨meets_from, trivial⟩) Try.f35 Try.func35 (by kernel_rfl) (fun args r h => ?_)
  unfold ansLVar at h
  split at h
  · rename_i v
    simp only [Option.some.injEq, Prod.mk.injEq] at h
    obtain ⟨_, rfl⟩ := h
    refine ⟨rfl, _, noTab_all, (NVar.rest v).trans ?_⟩
    unfold vE
    by_cases h1 : v < 0
    · have hv : vok v = false := by rw [Bool.eq_false_iff, ne_eq, vok_iff]; omega
      rw [hv, cond_false, cond_false, lvs_nil, lrs_nil]
      exact bT (decide_eq_true h1)
    by_cases h2 : v ≥ 4096
    · have hv : vok v = false := by rw [Bool.eq_false_iff, ne_eq, vok_iff]; omega
      rw [hv, cond_false, cond_false, lvs_nil, lrs_nil]
      exact (bF (decide_eq_false h1)).trans (bT (decide_eq_true h2))
    · have hv : vok v = true := vok_iff.2 (by omega)
      rw [hv, cond_true, cond_true, lone_one (by omega), lvs_eq, lrs_eq]
      exact (bF (decide_eq_false h1)).trans (bF (decide_eq_false h2))
  · cases h
namespace NCoef
theorem loop (l : List (Int × Int)) (b : Bool) (m : List Int) (v : Int) (hl : okL l) : ∃ e S1, Ends T orc L0 D0 (st0 (l.map (fun p => p.1)) (l.map cL) b m v 0 l.length) e S1 ∧ e = .exit 0 ∧ ∃ n : Nat, S1 = st0 (l.map (fun p => p.1)) (l.map cL) b m v n n ∧ n ≤ l.length ∧ (∀ i (h : i < l.length), i < n → l[i].1 < v) ∧ ∀ i (h : i < l.length), n ≤ i → v ≤ l[i].1 := by
  refine loop_inv2 (fun (x y : Nat) => st0 (l.map (fun p => p.1)) (l.map cL) b m v x y) (fun x y => x ≤ y ∧ y ≤ l.length ∧ (∀ i (h : i < l.length), i < x → l[i].1 < v) ∧ ∀ i (h : i < l.length), y ≤ i → v ≤ l[i].1) (fun x y => y - x)
    (fun e S1 => e = .exit 0 ∧ ∃ n : Nat, S1 = st0 (l.map (fun p => p.1)) (l.map cL) b m v n n ∧ n ≤ l.length ∧ (∀ i (h : i < l.length), i < n → l[i].1 < v) ∧ ∀ i (h : i < l.length), n ≤ i → v ≤ l[i].1) isL0 ?_ 0 l.length ?_
  · intro x y ⟨h1, h2, h3, h4⟩
    have hlen := okL_len hl
    have hasc := okL_asc hl
    refine ⟨noTab, noTab_all, lands_of (round0 ..) ?_⟩
    by_cases hxy : x < y
    · have e1 : IntKind.i64.wrap ((IntKind.i64.wrap ((x : Int) + (y : Int))).tdiv 2) = (((x + y) / 2 : Nat) : Int) := by
        rw [w64 (n := (x : Int) + y) (by omega) (by omega), Int.tdiv_eq_ediv_of_nonneg (by omega), w64 (by omega) (by omega)]
        omega
      have hm : (x + y) / 2 < l.length := by omega
      rw [e1, List.length_map, ltN hxy, inN hm, rdV hm]
      by_cases hlt : l[(x + y) / 2].1 < v
      · rw [decide_eq_true hlt]
        simp only [cond_true, wi_succ (show (x + y) / 2 < 4611686018427387904 by omega), lands_some, Turns2]
        refine ⟨(x + y) / 2 + 1, y, rfl, ⟨by omega, h2, fun i hi hlt2 => ?_, h4⟩, by omega⟩
        by_cases he : i = (x + y) / 2
        · subst he; exact hlt
        · have := List.pairwise_iff_getElem.1 hasc i ((x + y) / 2) hi hm (by omega)
          omega
      · rw [decide_eq_false hlt]
        simp only [cond_true, cond_false, lands_some, Turns2]
        refine ⟨x, (x + y) / 2, rfl, ⟨by omega, by omega, h3, fun i hi hle => ?_⟩, by omega⟩
        by_cases he : i = (x + y) / 2
        · subst he; omega
        · have := List.pairwise_iff_getElem.1 hasc ((x + y) / 2) i hm hi (by omega)
          omega
    · have hxy' : x = y := by omega
      subst hxy'
      rw [ltN' hxy]
      simp only [cond_false, lands_some, Turns2]
      exact ⟨trivial, x, rfl, h2, h3, h4⟩
  · exact ⟨Nat.zero_le _, Nat.le_refl _, fun i h h2 => absurd h2 (Nat.not_lt_zero i), fun i h h2 => absurd h (by omega)⟩
end NCoef
theorem meets_ncoef : Meets Try.prog 38 ansLCoef := by
  refine meets_fn (orc_ok (l := NCoef.ans) trivial) Try.f38 Try.func38 (by kernel_rfl) (fun args r h => ?_)
  unfold ansLCoef at h
  split at h
  · rename_i vs r b m v
    simp only [Option.some.injEq, Prod.mk.injEq] at h
    obtain ⟨h1, rfl⟩ := h
    obtain ⟨l, h2, rfl, rfl⟩ := isl_iff.1 h1
    obtain ⟨e1, S1, hE1, rfl, n, rfl, h3, h4, h5⟩ := NCoef.loop l b m v h2
    refine ⟨rfl, _, tabOf_all _, (NCoef.rest _ _ b m v (n : Int) (n : Int)).trans ?_⟩
    rw [List.length_map, List.length_map, dl_map]
    refine (bT (cdec_true hE1)).trans ?_
    clear hE1
    by_cases hn : n < l.length
    · rw [ltN hn, inN hn, rdV hn, getL hn]
      simp only [cond_true, cLeta, cL0, cL1]
      by_cases hv : l[n].1 = v
      · have hc : cf l v = l[n].2 := by rw [← hv]; exact cf_mem (okL_asc h2) (List.getElem_mem hn)
        rw [hc]
        exact bT (beq_iff_eq.2 hv)
      · have h0 : cf l v = 0 := cf_none (fun p hp hpv => by
          obtain ⟨i, hi, rfl⟩ := List.mem_iff_getElem.1 hp
          by_cases hin : i < n
          · have := h4 i hi hin; omega
          · have h6 := h5 n hn (Nat.le_refl _)
            by_cases he : i = n
            · subst he; exact hv hpv
            · have := List.pairwise_iff_getElem.1 (okL_asc h2) n i hn hi (by omega)
              omega)
        rw [h0]
        exact bF (beq_eq_false_iff_ne.2 hv)
    · have h0 : cf l v = 0 := cf_none (fun p hp hpv => by
        obtain ⟨i, hi, rfl⟩ := List.mem_iff_getElem.1 hp
        have := h4 i hi (by omega)
        omega)
      rw [h0]
      exact bF (ltN' hn)
  · cases h
namespace NNeg
theorem loop (l : List (Int × Int)) (b : Bool) (m : List Int) (hl : okL l) : ∃ e S1, Ends T orc L0 D0 (st0 (l.map (fun p => p.1)) (l.map cL) b m 0 [] []) e S1 ∧ e = .exit 0 ∧ ∃ x, S1 = st0 (l.map (fun p => p.1)) (l.map cL) b m x ((negL l).map (fun p => p.1)) ((negL l).map cL) := by
  have hz := map_step0 (g := fun _ z => -z) (fun _ => rfl) l
  have key : ∃ e S1, Ends T orc L0 D0 (st0 (l.map (fun p => p.1)) (l.map cL) b m ((0 : Nat) : Int) ((ofF (fun v => - cf (l.take 0) v)).map (fun p => p.1)) ((ofF (fun v => - cf (l.take 0) v)).map cL)) e S1 ∧ e = .exit 0 ∧ ∃ x, S1 = st0 (l.map (fun p => p.1)) (l.map cL) b m x ((negL l).map (fun p => p.1)) ((negL l).map cL) := by
    refine loop_inv1 (fun (i : Nat) => st0 (l.map (fun p => p.1)) (l.map cL) b m i ((ofF (fun v => - cf (l.take i) v)).map (fun p => p.1)) ((ofF (fun v => - cf (l.take i) v)).map cL)) (fun i => i ≤ l.length) (fun i => l.length - i)
      (fun e S1 => e = .exit 0 ∧ ∃ x, S1 = st0 (l.map (fun p => p.1)) (l.map cL) b m x ((negL l).map (fun p => p.1)) ((negL l).map cL)) isL0 ?_ 0 (Nat.zero_le _)
    intro i h1
    have hlen := okL_len hl
    refine ⟨noTab, noTab_all, lands_of (round0 ..) ?_⟩
    by_cases hi : i < l.length
    · have hf := okL_mem hl (List.getElem_mem hi)
      have hs := map_step (okL_asc hl) (okL_in hl) (g := fun _ z => -z) (fun _ => rfl) hi
      have ho := ofF_len (fun v => - cf (l.take i) v)
      rw [List.length_map, List.length_map, ltN hi, inN hi, getL hi, rdV hi]
      simp only [cL0, cL1, cLeta, cnW_fits hf, num_lbW, cnW_fits (fits_neg hf), N_eq, cond_true, Bool.true_and, Bool.and_true, List.length_map]
      rw [decide_eq_true (show (ofF (fun v => - cf (l.take i) v)).length ≤ 100000 by omega), putV_map, putR_map, hs]
      simp only [cond_true, Bool.and_self, wi_succ (show i < 4611686018427387904 by omega), lands_some, Turns1]
      exact ⟨i + 1, rfl, by omega, by omega⟩
    · rw [List.length_map, ltN' hi]
      simp only [cond_false, lands_some, Turns1]
      have hil : l.take i = l := List.take_of_length_le (by omega)
      rw [hil, negL_eq]
      exact ⟨trivial, i, rfl⟩
  rw [hz] at key
  exact key
end NNeg
theorem meets_nneg : Meets Try.prog 51 ansLNeg := by
  refine meets_fn (orc_ok (l := NNeg.ans) ⟨meets_neg, meets_lput, trivial⟩) Try.f51 Try.func51 (by kernel_rfl) (fun args r h => ?_)
  unfold ansLNeg at h
  split at h
  · rename_i vs r b m
    simp only [Option.some.injEq, Prod.mk.injEq] at h
    obtain ⟨h1, rfl⟩ := h
    obtain ⟨l, c, h2, h3, rfl, rfl, rfl, rfl⟩ := isT_iff.1 h1
    obtain ⟨e1, S1, hE1, rfl, x, rfl⟩ := NNeg.loop l (sg c) (lb 4294967296 c) h2
    refine ⟨rfl, _, tabOf_all _, (NNeg.rest _ _ _ _ ((negL l).map (fun p => p.1)) ((negL l).map cL) x).trans ((bT (cnW_fits h3)).trans ((bT (cdec_true hE1)).trans ?_))⟩
    rw [dl_map, lvs_eq, lrs_eq]
  · cases h
end Go.Abs
end
section
/- What linear's functions answer: values, common divisors, a row turned about, a term in a variable's place. -/
namespace Go.Abs
open Go.Proofs Go.Dig
abbrev cV (z : Int) : List AV := [.bool (sg z), .ints .u32 (lb 4294967296 z)]
theorem getV {xs : List Int} {v : Int} (h0 : 0 ≤ v) (h : v.toNat < xs.length) : (xs.map cV).getD v.toNat [] = cV (xs.getD v.toNat 0) := by
  rw [getD_at (by rw [List.length_map]; exact h), getD_at h, List.getElem_map]
theorem cV0 (z : Int) : gBool ((cV z).getD 0 .top) = sg z := rfl
theorem cV1 (z : Int) : gInts ((cV z).getD 1 .top) = lb 4294967296 z := rfl
theorem cVeta (z : Int) : etasOk [.bool false, .ints .u32 []] (cV z) = true := rfl
theorem fits_getD {xs : List Int} (h : ∀ z ∈ xs, fits z = true) (i : Nat) : fits (xs.getD i 0) = true := by
  rw [List.getD_eq_getElem?_getD]
  cases hi : xs[i]? with
  | none => exact fits0
  | some z => exact h z (List.mem_of_getElem? hi)
theorem atO_drop {l : List (Int × Int)} {i : Nat} (hi : i < l.length) (xs : List Int) (s : Int) : atO (l.drop i) xs s = bif decide ((xs.length : Int) ≤ l[i].1) then atO (l.drop (i + 1)) xs s else bif fits (l[i].2 * xs.getD l[i].1.toNat 0) && fits (s + l[i].2 * xs.getD l[i].1.toNat 0) then atO (l.drop (i + 1)) xs (s + l[i].2 * xs.getD l[i].1.toNat 0) else none := by
  rw [List.drop_eq_getElem_cons hi]; rfl
theorem atO_end {l : List (Int × Int)} {i : Nat} (hi : ¬ i < l.length) (xs : List Int) (s : Int) : atO (l.drop i) xs s = some s := by
  rw [List.drop_of_length_le (by omega)]; rfl
theorem ne0_of_big {z : Int} (h : fits z = false) : (he z != 0) = true := by rw [he_big h]; rfl
theorem eq0_of_fit {z : Int} (h : fits z = true) : (he z != 0) = false := by rw [he_fit h]; rfl
namespace NAt
def Post (l : List (Int × Int)) (b : Bool) (m : List Int) (xs : List Int) (c : Int) (e : Ex) (S1 : St) : Prop :=
  (e = .exit 0 ∧ ∃ s x, atO l xs c = some s ∧ fits s = true ∧ S1 = st0 (l.map (fun p => p.1)) (l.map cL) b m (xs.map cV) x (sg s) (lb 4294967296 s)) ∨
  (e = .ret ∧ atO l xs c = none ∧ ∃ x b' l', S1 = st0x0 (l.map (fun p => p.1)) (l.map cL) b m (xs.map cV) 11 x b' l')
theorem loop (l : List (Int × Int)) (b : Bool) (m : List Int) (xs : List Int) (c : Int) (hl : okL l) (hx : ∀ z ∈ xs, fits z = true) (hc : fits c = true) : ∃ e S1, Ends T orc L0 D0 (st0 (l.map (fun p => p.1)) (l.map cL) b m (xs.map cV) 0 (sg c) (lb 4294967296 c)) e S1 ∧ Post l b m xs c e S1 := by
  refine loop_inv2 (fun (i : Nat) (s : Int) => st0 (l.map (fun p => p.1)) (l.map cL) b m (xs.map cV) i (sg s) (lb 4294967296 s)) (fun i s => i ≤ l.length ∧ fits s = true ∧ atO (l.drop i) xs s = atO l xs c) (fun i s => l.length - i)
    (Post l b m xs c) isL0 ?_ 0 c ⟨Nat.zero_le _, hc, rfl⟩
  intro i s ⟨h1, h2, h3⟩
  have hlen := okL_len hl
  refine ⟨noTab, noTab_all, lands_of (round0 ..) ?_⟩
  by_cases hi : i < l.length
  · have hf := okL_mem hl (List.getElem_mem hi)
    obtain ⟨hv0, hv1⟩ := okL_in hl _ (List.getElem_mem hi)
    rw [atO_drop hi] at h3
    rw [List.length_map, List.length_map, List.length_map, ltN hi, inN hi, getL hi, rdV hi]
    by_cases hv : (xs.length : Int) ≤ l[i].1
    · rw [decide_eq_true hv] at h3
      simp only [cond_true] at h3
      rw [decide_eq_true (show l[i].1 ≥ (xs.length : Int) from hv)]
      simp only [cond_true, wi_succ (show i < 4611686018427387904 by omega), lands_some, Turns2]
      exact ⟨i + 1, s, rfl, ⟨by omega, h2, h3⟩, by omega⟩
    · have hvl : l[i].1.toNat < xs.length := by omega
      rw [decide_eq_false hv] at h3
      simp only [cond_false] at h3
      rw [decide_eq_false (show ¬ l[i].1 ≥ (xs.length : Int) from hv), getV hv0 hvl, show inB l[i].1 xs.length = true from inB_iff.2 ⟨hv0, by omega⟩]
      have hfx := fits_getD hx l[i].1.toNat
      generalize xs.getD l[i].1.toNat 0 = y at *
      simp only [cL0, cL1, cLeta, cV0, cV1, cVeta, cnW_fits hf, cnW_fits hfx, cnW_fits h2, num_lbW, hf, hfx, h2, cond_true, cond_false, Bool.and_self, N_eq]
      cases hp : fits (l[i].2 * y) with
      | false =>
        rw [hp] at h3
        rw [ne0_of_big hp, he_big hp]
        simp only [cond_true, lands_some, Turns2]
        exact .inr ⟨rfl, h3.symm, i, _, _, rfl⟩
      | true =>
        rw [hp] at h3
        rw [eq0_of_fit hp, hz_fit hp, hp, cnW_fits hp]
        simp only [cond_true, cond_false, Bool.and_self]
        cases hs : fits (s + l[i].2 * y) with
        | false =>
          rw [hs] at h3
          rw [ne0_of_big hs, he_big hs]
          simp only [cond_true, lands_some, Turns2]
          exact .inr ⟨rfl, h3.symm, i, _, _, rfl⟩
        | true =>
          rw [hs] at h3
          rw [eq0_of_fit hs, hz_fit hs]
          simp only [cond_false, wi_succ (show i < 4611686018427387904 by omega), lands_some, Turns2]
          exact ⟨i + 1, _, rfl, ⟨by omega, hs, h3⟩, by omega⟩
  · rw [atO_end hi] at h3
    rw [List.length_map, ltN' hi]
    simp only [cond_false, lands_some, Turns2]
    exact .inl ⟨rfl, s, i, h3.symm, h2, rfl⟩
end NAt
theorem meets_nat : Meets Try.prog 32 ansLAt := by
  refine meets_fn (orc_ok (l := NAt.ans) ⟨meets_mul, meets_add, trivial⟩) Try.f32 Try.func32 (by kernel_rfl) (fun args r h => ?_)
  unfold ansLAt at h
  split at h
  · rename_i vs r b m x
    simp only [Option.some.injEq, Prod.mk.injEq, Bool.and_eq_true] at h
    obtain ⟨⟨h1, h2⟩, rfl⟩ := h
    obtain ⟨l, c, k1, k2, rfl, rfl, rfl, rfl⟩ := isT_iff.1 h1
    obtain ⟨xs, k3, k4, rfl⟩ := isvw_iff.1 h2
    have hE := atE_eq l xs c
    have hV := atV_eq l xs c
    rw [dl_map, dvw_map, num_lbW]
    obtain ⟨e1, S1, hE1, hP⟩ := NAt.loop l (sg c) (lb 4294967296 c) xs c k1 k3 k2
    rcases hP with ⟨rfl, s, x, h3, h4, rfl⟩ | ⟨rfl, h3, x, b', l', rfl⟩
    · rw [h3] at hE hV
      have hE : atE l xs c = 0 := hE
      have hV : atV l xs c = s := hV
      rw [hE, hV]
      exact ⟨rfl, _, tabOf_all _, (NAt.rest_1 _ _ _ _ _ (sg s) (lb 4294967296 s) x).trans (bT (cdec_true hE1))⟩
    · rw [h3] at hE hV
      have hE : atE l xs c = 11 := hE
      have hV : atV l xs c = 0 := hV
      rw [hE, hV]
      exact ⟨rfl, _, tabOf_all _, (NAt.rest_0 _ _ _ _ _ 11 x b' l').trans (bT (cdec_true hE1))⟩
  · cases h
theorem fits_atV {l : List (Int × Int)} {xs : List Int} {c : Int} (hc : fits c = true) : fits (atV l xs c) = true := by
  rw [atV_eq]
  suffices h : ∀ (l : List (Int × Int)) (c : Int), fits c = true → fits ((atO l xs c).getD 0) = true from h l c hc
  intro l
  induction l with
  | nil => intro c hc; exact hc
  | cons p l ih =>
    intro c hc
    show fits ((bif decide ((xs.length : Int) ≤ p.1) then atO l xs c else bif fits (p.2 * xs.getD p.1.toNat 0) && fits (c + p.2 * xs.getD p.1.toNat 0) then atO l xs (c + p.2 * xs.getD p.1.toNat 0) else none).getD 0) = true
    cases decide ((xs.length : Int) ≤ p.1) with
    | true => exact ih c hc
    | false =>
      rw [cond_false]
      cases hb : (fits (p.2 * xs.getD p.1.toNat 0) && fits (c + p.2 * xs.getD p.1.toNat 0)) with
      | true =>
        rw [Bool.and_eq_true] at hb
        exact ih _ hb.2
      | false => exact fits0
theorem gcdF_nonneg (l : List (Int × Int)) : ∀ g : Int, 0 ≤ g → 0 ≤ l.foldl (fun g p => gz g p.2) g := by
  induction l with
  | nil => exact fun g h => h
  | cons p l ih => exact fun g h => ih _ (Int.natCast_nonneg (Int.gcd g p.2))
theorem gcdF_fits (l : List (Int × Int)) : ∀ g : Int, fits g = true → (∀ p ∈ l, fits p.2 = true) → fits (l.foldl (fun g p => gz g p.2) g) = true := by
  induction l with
  | nil => exact fun g h _ => h
  | cons p l ih => exact fun g h hl => ih _ (fits_gz h (hl p List.mem_cons_self)) (fun q hq => hl q (List.mem_cons_of_mem _ hq))
theorem gcdL_nonneg (l : List (Int × Int)) : 0 ≤ gcdL l := by rw [gcdL_eq]; exact gcdF_nonneg l 0 (Int.le_refl _)
theorem gcdL_fits {l : List (Int × Int)} (h : okL l) : fits (gcdL l) = true := by rw [gcdL_eq]; exact gcdF_fits l 0 fits0 (fun p hp => okL_mem h hp)
theorem sg_nonneg {z : Int} (h : 0 ≤ z) : sg z = false := decide_eq_false (by omega)
theorem gcdF_succ {l : List (Int × Int)} {i : Nat} (hi : i < l.length) (g : Int) : (l.take (i + 1)).foldl (fun g p => gz g p.2) g = gz ((l.take i).foldl (fun g p => gz g p.2) g) l[i].2 := by
  rw [List.take_add_one, List.getElem?_eq_getElem hi, List.foldl_append]; rfl
theorem mem_take {α : Type} {l : List α} {i : Nat} {p : α} (h : p ∈ l.take i) : p ∈ l := List.mem_of_mem_take h
namespace NCommon
theorem loop (vs : List Int) (l : List (Int × Int)) (b : Bool) (m : List Int) (hl : okL l) (b0 : Bool) : ∃ e S1, Ends T orc L0 D0 (st0 vs (l.map cL) b m 0 b0 []) e S1 ∧ e = .exit 0 ∧ ∃ x b1, S1 = st0 vs (l.map cL) b m x b1 (lb 4294967296 (gcdL l)) := by
  have key : ∃ e S1, Ends T orc L0 D0 (st0 vs (l.map cL) b m ((0 : Nat) : Int) b0 (lb 4294967296 ((l.take 0).foldl (fun g p => gz g p.2) 0))) e S1 ∧ e = .exit 0 ∧ ∃ x b1, S1 = st0 vs (l.map cL) b m x b1 (lb 4294967296 (gcdL l)) := by
    refine loop_inv2 (fun (i : Nat) (b1 : Bool) => st0 vs (l.map cL) b m i b1 (lb 4294967296 ((l.take i).foldl (fun g p => gz g p.2) 0))) (fun i _ => i ≤ l.length) (fun i _ => l.length - i)
      (fun e S1 => e = .exit 0 ∧ ∃ x b1, S1 = st0 vs (l.map cL) b m x b1 (lb 4294967296 (gcdL l))) isL0 ?_ 0 b0 (Nat.zero_le _)
    intro i b1 h1
    have hlen := okL_len hl
    refine ⟨noTab, noTab_all, lands_of (round0 ..) ?_⟩
    by_cases hi : i < l.length
    · have hf := okL_mem hl (List.getElem_mem hi)
      have hg := gcdF_fits (l.take i) 0 fits0 (fun p hp => okL_mem hl (mem_take hp))
      have hn := gcdF_nonneg (l.take i) 0 (Int.le_refl _)
      have hc := cnW_fits hg
      have hnum := num_lbW ((l.take i).foldl (fun g p => gz g p.2) 0)
      rw [sg_nonneg hn] at hc hnum
      rw [List.length_map, ltN hi, inN hi, getL hi]
      simp only [cL0, cL1, cLeta, cnW_fits hf, num_lbW, hc, hnum, cond_true, Bool.and_self]
      rw [← gcdF_succ hi]
      simp only [wi_succ (show i < 4611686018427387904 by omega), lands_some, Turns2]
      exact ⟨i + 1, false, rfl, by omega, by omega⟩
    · rw [List.length_map, ltN' hi]
      simp only [cond_false, lands_some, Turns2]
      have hil : l.take i = l := List.take_of_length_le (by omega)
      rw [hil, gcdL_eq]
      exact ⟨trivial, i, b1, rfl⟩
  exact key
end NCommon
theorem meets_ncommon : Meets Try.prog 25 ansLCommon := by
  refine meets_fn (orc_ok (l := NCommon.ans) ⟨meets_gcd, trivial⟩) Try.f25 Try.func25 (by kernel_rfl) (fun args r h => ?_)
  unfold ansLCommon at h
  split at h
  · rename_i vs r b m
    simp only [Option.some.injEq, Prod.mk.injEq] at h
    obtain ⟨h1, rfl⟩ := h
    obtain ⟨l, k1, rfl, rfl⟩ := isl_iff.1 h1
    obtain ⟨e1, S1, hE1, rfl, x, b1, rfl⟩ := NCommon.loop (l.map (fun p => p.1)) l b m k1 true
    refine ⟨rfl, _, tabOf_all _, (NCommon.rest _ _ _ _ (lb 4294967296 (gcdL l)) x b1).trans ((bT (cdec_true hE1)).trans ?_)⟩
    rw [dl_map]
    show _ = some (Res.val (.agg [.bool (sg (gcdL l)), .ints .u32 (lb 4294967296 (gcdL l))]))
    rw [sg_nonneg (gcdL_nonneg l)]
  · cases h
theorem isT_row {vs : List Int} {r : List (List AV)} (h : isl vs r = true) : isT vs r false [] = true := by
  obtain ⟨l, k1, rfl, rfl⟩ := isl_iff.1 h
  exact isT_iff.2 ⟨l, 0, k1, fits0, rfl, rfl, sg_zero.symm, (lb_zero _).symm⟩
theorem num_zero : num 4294967296 false [] = 0 := rfl
theorem cmp_le (x y : Int) : decide (cmpZ x y ≤ 0) = decide (x ≤ y) := by
  rw [decide_eq_decide]; unfold cmpZ; split
  · omega
  · split <;> omega
theorem isEmpty_nil {m : List Int} (h : m.isEmpty = true) : m = [] := List.isEmpty_iff.1 h
theorem meets_nnot : Meets Try.prog 20 ansLNot := by
  refine meets_fn (orc_ok (l := NNot.ans) ⟨meets_add, meets_from, meets_nneg, meets_neg, trivial⟩) Try.f20 Try.func20 (by kernel_rfl) (fun args r h => ?_)
  unfold ansLNot at h
  split at h
  · rename_i vs r b m s l
    simp only [Option.some.injEq, Prod.mk.injEq, Bool.and_eq_true, Bool.not_eq_true'] at h
    obtain ⟨⟨⟨⟨⟨h1, rfl⟩, h3⟩, h4⟩, h5⟩, rfl⟩ := h
    obtain rfl := isEmpty_nil h3
    obtain ⟨c, rfl, rfl, _⟩ := (cn_iff W_two).1 h4
    rw [num_lbW] at h5
    have h1n : num 4294967296 false (lb 4294967296 1) = 1 := num_lbW 1
    refine ⟨rfl, _, noTab_all, (NNot.rest _ _ _ _ _ _).trans ?_⟩
    rw [h4, num_lbW, h1n, h5, isT_row h1, num_zero, noL_eq, noM_eq, N_eq]
    cases hb : fits (c + 1) with
    | false =>
      rw [he_big hb, show ((11 : Int) == 0) = false from rfl, cond_false, cond_false, lvs_nil, lrs_nil]
      rfl
    | true =>
      rw [he_fit hb, show ((0 : Int) == 0) = true from rfl, cond_true, cond_true, hz_fit hb, cnW_fits hb]
      rfl
  · cases h
namespace NPutV
theorem loop (l : List (Int × Int)) (b : Bool) (m : List Int) (v : Int) (vsz : List Int) (rz : List (List AV)) (bz : Bool) (mz : List Int) (hl : okL l) : ∃ e S1, Ends T orc L0 D0 (st0 (l.map (fun p => p.1)) (l.map cL) b m v vsz rz bz mz 0 [] []) e S1 ∧ e = .exit 0 ∧ ∃ x, S1 = st0 (l.map (fun p => p.1)) (l.map cL) b m v vsz rz bz mz x ((remL l v).map (fun p => p.1)) ((remL l v).map cL) := by
  have g0 : ∀ w : Int, (fun (w z : Int) => bif decide (w = v) then (0 : Int) else z) w 0 = 0 := fun w => by
    show (bif decide (w = v) then (0 : Int) else 0) = 0
    cases decide (w = v) <;> rfl
  have hz := map_step0 g0 l
  have key : ∃ e S1, Ends T orc L0 D0 (st0 (l.map (fun p => p.1)) (l.map cL) b m v vsz rz bz mz ((0 : Nat) : Int) ((ofF (fun w => bif decide (w = v) then (0 : Int) else cf (l.take 0) w)).map (fun p => p.1)) ((ofF (fun w => bif decide (w = v) then (0 : Int) else cf (l.take 0) w)).map cL)) e S1 ∧ e = .exit 0 ∧ ∃ x, S1 = st0 (l.map (fun p => p.1)) (l.map cL) b m v vsz rz bz mz x ((remL l v).map (fun p => p.1)) ((remL l v).map cL) := by
    refine loop_inv1 (fun (i : Nat) => st0 (l.map (fun p => p.1)) (l.map cL) b m v vsz rz bz mz i ((ofF (fun w => bif decide (w = v) then (0 : Int) else cf (l.take i) w)).map (fun p => p.1)) ((ofF (fun w => bif decide (w = v) then (0 : Int) else cf (l.take i) w)).map cL)) (fun i => i ≤ l.length) (fun i => l.length - i)
      (fun e S1 => e = .exit 0 ∧ ∃ x, S1 = st0 (l.map (fun p => p.1)) (l.map cL) b m v vsz rz bz mz x ((remL l v).map (fun p => p.1)) ((remL l v).map cL)) isL0 ?_ 0 (Nat.zero_le _)
    intro i h1
    have hlen := okL_len hl
    refine ⟨noTab, noTab_all, lands_of (round0 ..) ?_⟩
    by_cases hi : i < l.length
    · have hf := okL_mem hl (List.getElem_mem hi)
      have hs := map_step (okL_asc hl) (okL_in hl) g0 hi
      have ho := ofF_len (fun w => bif decide (w = v) then (0 : Int) else cf (l.take i) w)
      rw [List.length_map, List.length_map, ltN hi, inN hi, getL hi, rdV hi]
      by_cases hv : l[i].1 = v
      · rw [show (l[i].1 != v) = false from by rw [bne_eq_false_iff_eq]; exact hv]
        simp only [cond_true, cond_false, wi_succ (show i < 4611686018427387904 by omega), lands_some, Turns1]
        refine ⟨i + 1, ?_, by omega, by omega⟩
        have hs' : ofF (fun w => bif decide (w = v) then (0 : Int) else cf (l.take i) w) = ofF (fun w => bif decide (w = v) then (0 : Int) else cf (l.take (i + 1)) w) := by
          rw [← hs]
          show _ = putL (bif decide (l[i].1 = v) then (0 : Int) else l[i].2) _ _
          rw [decide_eq_true hv]
          rfl
        rw [hs']
      · rw [show (l[i].1 != v) = true from bne_iff_ne.2 hv]
        simp only [cL0, cL1, cLeta, cnW_fits hf, num_lbW, N_eq, cond_true, Bool.true_and, Bool.and_true, List.length_map]
        rw [decide_eq_true (show (ofF (fun w => bif decide (w = v) then (0 : Int) else cf (l.take i) w)).length ≤ 100000 by omega), putV_map, putR_map]
        simp only [cond_true, Bool.and_self, wi_succ (show i < 4611686018427387904 by omega), lands_some, Turns1]
        refine ⟨i + 1, ?_, by omega, by omega⟩
        have hs' : putL l[i].2 (ofF (fun w => bif decide (w = v) then (0 : Int) else cf (l.take i) w)) l[i].1 = ofF (fun w => bif decide (w = v) then (0 : Int) else cf (l.take (i + 1)) w) := by
          rw [← hs]
          show _ = putL (bif decide (l[i].1 = v) then (0 : Int) else l[i].2) _ _
          rw [decide_eq_false hv]
          rfl
        rw [hs']
    · rw [List.length_map, ltN' hi]
      simp only [cond_false, lands_some, Turns1]
      have hil : l.take i = l := List.take_of_length_le (by omega)
      rw [hil, remL_eq]
      exact ⟨trivial, i, rfl⟩
  rw [show ofF (fun w => bif decide (w = v) then (0 : Int) else cf (l.take 0) w) = [] from hz] at key
  exact key
end NPutV
theorem meets_nputv (hsc : Meets Try.prog 52 ansLScale) (ha : Meets Try.prog 46 ansLAdd) : Meets Try.prog 54 ansLPutV := by
  refine meets_fn (orc_ok (l := NPutV.ans) ⟨meets_ncoef, meets_sign, meets_lput, hsc, ha, trivial⟩) Try.f54 Try.func54 (by kernel_rfl) (fun args r h => ?_)
  unfold ansLPutV at h
  split at h
  · rename_i vs r b m v vsz rz bz mz
    simp only [Option.some.injEq, Prod.mk.injEq, Bool.and_eq_true] at h
    obtain ⟨⟨h1, h2⟩, rfl⟩ := h
    obtain ⟨l, c, k1, k2, rfl, rfl, rfl, rfl⟩ := isT_iff.1 h1
    obtain ⟨e1, S1, hE1, rfl, x, rfl⟩ := NPutV.loop l (sg c) (lb 4294967296 c) v vsz rz bz mz k1
    refine ⟨rfl, _, tabOf_all _, (NPutV.rest _ _ _ _ _ _ _ _ _ ((remL l v).map (fun p => p.1)) ((remL l v).map cL) x).trans ?_⟩
    have hE := ptE_eq l c v (dl vsz rz) (num 4294967296 bz mz)
    have hL := ptL_eq l c v (dl vsz rz) (num 4294967296 bz mz)
    have hC := ptC_eq l c v (dl vsz rz) (num 4294967296 bz mz)
    have hcf := okL_cf k1 v
    rw [isl_iff.2 ⟨l, k1, rfl, rfl⟩, dl_map, cnW_fits hcf, N_eq, cmpZ_zero', h2, hcf, cdec_true hE1, num_lbW, dl_map, dl_lvs, N_eq, isT_of (okL_sc _ _ _) (fits_scC _ _ _), isT_iff.2 ⟨remL l v, c, okL_rem k1 v, k2, rfl, rfl, rfl, rfl⟩]
    cases hb : cf l v == 0 with
    | true =>
      rw [hb] at hE hL hC
      have hE : ptE l c v (dl vsz rz) (num 4294967296 bz mz) = 0 := hE
      have hL : ptL l c v (dl vsz rz) (num 4294967296 bz mz) = l := hL
      have hC : ptC l c v (dl vsz rz) (num 4294967296 bz mz) = c := hC
      rw [hE, hL, hC, lvs_eq l, lrs_eq l]
      rfl
    | false =>
      rw [hb, cond_false] at hE hL hC
      cases hs : scE (dl vsz rz) (num 4294967296 bz mz) (cf l v) == 0 with
      | true =>
        rw [hs, cond_true] at hE hL hC
        rw [hE, hL, hC, show (scE (dl vsz rz) (num 4294967296 bz mz) (cf l v) != 0) = false from by unfold bne; rw [hs]; rfl]
        rfl
      | false =>
        rw [hs, cond_false] at hE hL hC
        rw [hE, hL, hC, show (scE (dl vsz rz) (num 4294967296 bz mz) (cf l v) != 0) = true from by unfold bne; rw [hs]; rfl, lvs_nil, lrs_nil]
        rfl
  · cases h
namespace LScale
def Post (l : List (Int × Int)) (b : Bool) (m : List Int) (k : Int) (e : Ex) (S1 : St) : Prop :=
  (e = .exit 0 ∧ (∀ v, fits (cf l v * k) = true) ∧ ∃ x, S1 = st0 (l.map (fun p => p.1)) (l.map cL) b m (sg k) (lb 4294967296 k) x ((ofF (fun v => cf l v * k)).map (fun p => p.1)) ((ofF (fun v => cf l v * k)).map cL)) ∨
  (e = .ret ∧ (¬ ∀ v, fits (cf l v * k) = true) ∧ ∃ x l' r', S1 = st0x0 (l.map (fun p => p.1)) (l.map cL) b m (sg k) (lb 4294967296 k) 11 x l' r')
theorem loop (l : List (Int × Int)) (b : Bool) (m : List Int) (k : Int) (hl : okL l) (hk : fits k = true) : ∃ e S1, Ends T orc L0 D0 (st0 (l.map (fun p => p.1)) (l.map cL) b m (sg k) (lb 4294967296 k) 0 [] []) e S1 ∧ Post l b m k e S1 := by
  have hz := map_step0 (g := fun _ z => z * k) (fun _ => Int.zero_mul k) l
  have key : ∃ e S1, Ends T orc L0 D0 (st0 (l.map (fun p => p.1)) (l.map cL) b m (sg k) (lb 4294967296 k) ((0 : Nat) : Int) ((ofF (fun v => cf (l.take 0) v * k)).map (fun p => p.1)) ((ofF (fun v => cf (l.take 0) v * k)).map cL)) e S1 ∧ Post l b m k e S1 := by
    refine loop_inv1 (fun (i : Nat) => st0 (l.map (fun p => p.1)) (l.map cL) b m (sg k) (lb 4294967296 k) i ((ofF (fun v => cf (l.take i) v * k)).map (fun p => p.1)) ((ofF (fun v => cf (l.take i) v * k)).map cL)) (fun i => i ≤ l.length ∧ ∀ v, fits (cf (l.take i) v * k) = true) (fun i => l.length - i) (Post l b m k) isL0 ?_ 0 ⟨Nat.zero_le _, fun v => by rw [List.take_zero, cf_nil, Int.zero_mul]; exact fits0⟩
    intro i ⟨h1, h2⟩
    have hlen := okL_len hl
    refine ⟨noTab, noTab_all, lands_of (round0 ..) ?_⟩
    by_cases hi : i < l.length
    · have hf := okL_mem hl (List.getElem_mem hi)
      have hs : putL (l[i].2 * k) (ofF (fun v => cf (l.take i) v * k)) l[i].1 = ofF (fun v => cf (l.take (i + 1)) v * k) := map_step (okL_asc hl) (okL_in hl) (g := fun _ z => z * k) (fun _ => Int.zero_mul k) hi
      have ho := ofF_len (fun v => cf (l.take i) v * k)
      rw [List.length_map, List.length_map, ltN hi, inN hi, getL hi, rdV hi]
      simp only [cL0, cL1, cLeta, cnW_fits hf, cnW_fits hk, num_lbW, hf, hk, N_eq, cond_true, Bool.true_and, Bool.and_true, Bool.and_self, List.length_map]
      cases hp : fits (l[i].2 * k) with
      | false =>
        rw [ne0_of_big hp, he_big hp]
        simp only [cond_true, lands_some, Turns1]
        refine .inr ⟨rfl, fun hall => ?_, i, _, _, rfl⟩
        have := hall l[i].1
        rw [cf_mem (okL_asc hl) (List.getElem_mem hi), hp] at this
        cases this
      | true =>
        rw [eq0_of_fit hp, hz_fit hp, cnW_fits hp, decide_eq_true (show (ofF (fun v => cf (l.take i) v * k)).length ≤ 100000 by omega), putV_map, putR_map, hs]
        simp only [cond_true, cond_false, Bool.and_self, wi_succ (show i < 4611686018427387904 by omega), lands_some, Turns1]
        refine ⟨i + 1, rfl, ⟨by omega, fun v => ?_⟩, by omega⟩
        rw [cf_take_succ (okL_asc hl) hi]
        split
        · exact hp
        · exact h2 v
    · rw [List.length_map, ltN' hi]
      simp only [cond_false, lands_some, Turns1]
      have hil : l.take i = l := List.take_of_length_le (by omega)
      rw [hil] at h2 ⊢
      exact .inl ⟨rfl, h2, i, rfl⟩
  rw [show ofF (fun v => cf (l.take 0) v * k) = [] from hz] at key
  exact key
end LScale
theorem meets_nscale : Meets Try.prog 52 ansLScale := by
  refine meets_fn (orc_ok (l := LScale.ans) ⟨meets_mul, meets_lput, trivial⟩) Try.f52 Try.func52 (by kernel_rfl) (fun args r h => ?_)
  unfold ansLScale at h
  split at h
  · rename_i vs r b m s kl
    simp only [Option.some.injEq, Prod.mk.injEq, Bool.and_eq_true] at h
    obtain ⟨⟨h1, h2, h3⟩, rfl⟩ := h
    obtain ⟨l, c, k1, k2, rfl, rfl, rfl, rfl⟩ := isT_iff.1 h1
    obtain ⟨k, rfl, rfl, _⟩ := (cn_iff W_two).1 h2
    rw [num_lbW] at h3
    rw [dl_map, num_lbW, num_lbW]
    obtain ⟨e1, S1, hE1, hP⟩ := LScale.loop l (sg c) (lb 4294967296 c) k k1 h3
    rcases hP with ⟨rfl, hall, x, rfl⟩ | ⟨rfl, hall, x, l', r', rfl⟩
    · refine ⟨rfl, _, tabOf_all _, (LScale.rest_1 _ _ _ _ _ _ ((ofF (fun v => cf l v * k)).map (fun p => p.1)) ((ofF (fun v => cf l v * k)).map cL) x).trans ?_⟩
      rw [num_lbW, num_lbW, cnW_fits k2, cnW_fits h3, k2, h3]
      rcases scE_cases l c k with ⟨e1, e2, e3, e4, _⟩ | ⟨e1, e2, e3, e4⟩
      · rw [e1, e2, e3, eq0_of_fit e4, hz_fit e4, cdec_true hE1, lvs_eq, lrs_eq]
        rfl
      · have hcb : fits (c * k) = false := by rw [Bool.eq_false_iff]; exact fun hh => e4 ⟨hh, hall⟩
        rw [e1, e2, e3, ne0_of_big hcb, he_big hcb, lvs_nil, lrs_nil]
        rfl
    · refine ⟨rfl, _, tabOf_all _, (LScale.rest_0 _ _ _ _ _ _ 11 x l' r').trans ?_⟩
      rw [num_lbW, num_lbW, cnW_fits k2, cnW_fits h3, k2, h3]
      rcases scE_cases l c k with ⟨e1, e2, e3, e4, e5⟩ | ⟨e1, e2, e3, e4⟩
      · exact absurd e5 hall
      · rw [e1, e2, e3, lvs_nil, lrs_nil, cdec_true hE1]
        cases hcb : fits (c * k) with
        | false => rw [ne0_of_big hcb, he_big hcb]; rfl
        | true => rw [eq0_of_fit hcb]; rfl
  · cases h
end Go.Abs
end
section
/- States and rounds of the functions of linear and of its reference, as a program of this session printed them. -/
set_option maxRecDepth 10000
namespace Go.Abs
open Go.Proofs Go.Dig
noncomputable section
namespace NText
abbrev ans : Ans := [(26, ansText), (61, ansFrom), (45, ansSign)]
abbrev orc : Orc := orcOf ans
noncomputable def L0 : Code := lp Try.f41 0
theorem isL0 : ∃ a, L0 = .loop a := ⟨_, rfl⟩
abbrev D0 : List Nat := [0, 1, 2, 3, 6, 7, 8, 9, 10]
abbrev st0 (vs : List Int) (r : List (List AV)) (b : Bool) (m : List Int) (x0 : Int) (l0 : List Int) : St := ⟨.agg [.ints .i64 vs, .rows 2 r, .bool b, .ints .u32 m] :: .ptr 1 0 0 :: .str { data := #[] } :: .sl 3 0 0 :: tops 2 (.sl 6 0 0 :: .ptr 1 0 0 :: .ints .i64 vs :: .int .i64 (↑vs.length : Int) :: .int .i64 x0 :: tops 47 ([])), nos 1 (varE [(false, .ints .i64 vs), (false, .rows 2 r), (false, .bool b), (false, .ints .u32 m)] :: nos 1 (rowE (.ints .u8 l0) :: nos 2 ({ g := 0, pg := 0, o := some (AObj.row { g := 0, own := false, v := .top }) } :: nos 51 ([]))))⟩
theorem round0 (vs : List Int) (r : List (List AV)) (b : Bool) (m : List Int) (x0 : Int) (l0 : List Int) : goL T orc (noTab) D0 L0 (st0 vs r b m x0 l0) =
    (bif decide (x0 < (↑vs.length : Int)) then (bif inB x0 vs.length then (bif decide (x0 > 0) then (bif true && decide ((l0 ++ bytesOf { data := #[32, 43, 32] }).length * 1 ≤ 140737488355328) then (bif inB x0 r.length then (bif etasOk [.bool false, .ints .u32 []] (r.getD x0.toNat []) then (bif cn (4294967296) (gBool ((r.getD x0.toNat []).getD 0 .top)) (gInts ((r.getD x0.toNat []).getD 1 .top)) then (bif true && decide ((l0 ++ bytesOf { data := #[32, 43, 32] } ++ bytesOf (txt (num (4294967296) (gBool ((r.getD x0.toNat []).getD 0 .top)) (gInts ((r.getD x0.toNat []).getD 1 .top))))).length * 1 ≤ 140737488355328) then (bif true && decide ((l0 ++ bytesOf { data := #[32, 43, 32] } ++ bytesOf (txt (num (4294967296) (gBool ((r.getD x0.toNat []).getD 0 .top)) (gInts ((r.getD x0.toNat []).getD 1 .top)))) ++ bytesOf { data := #[42, 120] }).length * 1 ≤ 140737488355328) then (bif i64B (rd vs x0) then (bif cn (4294967296) (sg (rd vs x0)) (lb (4294967296) (rd vs x0)) then (bif true && decide ((l0 ++ bytesOf { data := #[32, 43, 32] } ++ bytesOf (txt (num (4294967296) (gBool ((r.getD x0.toNat []).getD 0 .top)) (gInts ((r.getD x0.toNat []).getD 1 .top)))) ++ bytesOf { data := #[42, 120] } ++ bytesOf (txt (N (4294967296) (rd vs x0)))).length * 1 ≤ 140737488355328) then some (.normal, st0 vs r b m (IntKind.i64.wrap (x0 + 1)) (l0 ++ bytesOf { data := #[32, 43, 32] } ++ bytesOf (txt (num (4294967296) (gBool ((r.getD x0.toNat []).getD 0 .top)) (gInts ((r.getD x0.toNat []).getD 1 .top)))) ++ bytesOf { data := #[42, 120] } ++ bytesOf (txt (N (4294967296) (rd vs x0))))) else none) else none) else none) else none) else none) else none) else none) else none) else none) else (bif inB x0 r.length then (bif etasOk [.bool false, .ints .u32 []] (r.getD x0.toNat []) then (bif cn (4294967296) (gBool ((r.getD x0.toNat []).getD 0 .top)) (gInts ((r.getD x0.toNat []).getD 1 .top)) then (bif true && decide ((l0 ++ bytesOf (txt (num (4294967296) (gBool ((r.getD x0.toNat []).getD 0 .top)) (gInts ((r.getD x0.toNat []).getD 1 .top))))).length * 1 ≤ 140737488355328) then (bif true && decide ((l0 ++ bytesOf (txt (num (4294967296) (gBool ((r.getD x0.toNat []).getD 0 .top)) (gInts ((r.getD x0.toNat []).getD 1 .top)))) ++ bytesOf { data := #[42, 120] }).length * 1 ≤ 140737488355328) then (bif i64B (rd vs x0) then (bif cn (4294967296) (sg (rd vs x0)) (lb (4294967296) (rd vs x0)) then (bif true && decide ((l0 ++ bytesOf (txt (num (4294967296) (gBool ((r.getD x0.toNat []).getD 0 .top)) (gInts ((r.getD x0.toNat []).getD 1 .top)))) ++ bytesOf { data := #[42, 120] } ++ bytesOf (txt (N (4294967296) (rd vs x0)))).length * 1 ≤ 140737488355328) then some (.normal, st0 vs r b m (IntKind.i64.wrap (x0 + 1)) (l0 ++ bytesOf (txt (num (4294967296) (gBool ((r.getD x0.toNat []).getD 0 .top)) (gInts ((r.getD x0.toNat []).getD 1 .top)))) ++ bytesOf { data := #[42, 120] } ++ bytesOf (txt (N (4294967296) (rd vs x0))))) else none) else none) else none) else none) else none) else none) else none) else none)) else none) else some (.exit 0, st0 vs r b m x0 l0)) := by kernel_rfl
-- loop 0 ends exit0 st0 vs r b m x0 l0
theorem rest (vs : List Int) (r : List (List AV)) (b : Bool) (m : List Int) (l1 : List Int) (x1 : Int) : runT T orc (tabOf T orc [(3, 3268359839144463919438546331967940434993252599768884404466513599196910, .exit 0, st0 vs r b m x1 l1)]) Try.f41 [.agg [.ints .i64 vs, .rows 2 r, .bool b, .ints .u32 m]] =
    (bif cdec (Ends T orc L0 D0 (st0 vs r b m (0) ([])) (.exit 0) (st0 vs r b m x1 l1)) then (bif (↑vs.length : Int) == 0 then (bif decide ((↑vs.length : Int) > 0) then (bif true && decide ((l1 ++ bytesOf { data := #[32, 43, 32] }).length * 1 ≤ 140737488355328) then (bif cn (4294967296) b m then (bif true && decide ((l1 ++ bytesOf { data := #[32, 43, 32] } ++ bytesOf (txt (num (4294967296) b m))).length * 1 ≤ 140737488355328) then some (.val (.str (strOf (l1 ++ bytesOf { data := #[32, 43, 32] } ++ bytesOf (txt (num (4294967296) b m)))))) else none) else none) else none) else (bif cn (4294967296) b m then (bif true && decide ((l1 ++ bytesOf (txt (num (4294967296) b m))).length * 1 ≤ 140737488355328) then some (.val (.str (strOf (l1 ++ bytesOf (txt (num (4294967296) b m)))))) else none) else none)) else (bif cn (4294967296) b m then (bif cmpZ (num (4294967296) b m) (0) != 0 then (bif decide ((↑vs.length : Int) > 0) then (bif true && decide ((l1 ++ bytesOf { data := #[32, 43, 32] }).length * 1 ≤ 140737488355328) then (bif cn (4294967296) b m then (bif true && decide ((l1 ++ bytesOf { data := #[32, 43, 32] } ++ bytesOf (txt (num (4294967296) b m))).length * 1 ≤ 140737488355328) then some (.val (.str (strOf (l1 ++ bytesOf { data := #[32, 43, 32] } ++ bytesOf (txt (num (4294967296) b m)))))) else none) else none) else none) else (bif cn (4294967296) b m then (bif true && decide ((l1 ++ bytesOf (txt (num (4294967296) b m))).length * 1 ≤ 140737488355328) then some (.val (.str (strOf (l1 ++ bytesOf (txt (num (4294967296) b m)))))) else none) else none)) else some (.val (.str (strOf l1)))) else none)) else none) := by kernel_rfl
end NText
end
end Go.Abs
end
section
/- What linear's functions answer: a term's text, a row as plain data. -/
namespace Go.Abs
open Go.Proofs Go.Dig
theorem txtL_len {z : Int} (h : z.natAbs < Lim) : (txtL z).length ≤ 10002 := by
  have h1 := lb10_length h
  unfold lb at h1
  unfold txtL dig
  split
  · simp
  · rw [List.length_append, List.length_map, List.length_reverse]
    split <;> simp only [List.length_cons, List.length_nil] <;> omega
theorem txt_len {z : Int} (h : z.natAbs < Lim) : (bytesOf (txt z)).length ≤ 10002 := by rw [bytesOf_txt]; exact txtL_len h
theorem bytes_app (a b : ByteArray) : bytesOf (a ++ b) = bytesOf a ++ bytesOf b := by
  unfold bytesOf
  rw [ByteArray.toList_data_append, List.map_append]
theorem bytes_range (s : ByteArray) : ∀ c ∈ bytesOf s, 0 ≤ c ∧ c < 256 := by
  intro c hc
  unfold bytesOf at hc
  obtain ⟨b, _, rfl⟩ := List.mem_map.1 hc
  have := b.toNat_lt
  exact ⟨by omega, by omega⟩
theorem strOf_bytes (s : ByteArray) : strOf (bytesOf s) = s := bytesOf_inj (bytesOf_strOf (bytes_range s))
theorem sumT_snoc (l : List (Int × Int)) (p : Int × Int) : sumT (l ++ [p]) = if l = [] then partT p else sumT l ++ (sep ++ partT p) := by
  induction l with
  | nil => rfl
  | cons q l ih =>
    rw [if_neg (List.cons_ne_nil q l)]
    cases l with
    | nil => rfl
    | cons q' l =>
      rw [if_neg (List.cons_ne_nil q' l)] at ih
      show partT q ++ (sep ++ sumT ((q' :: l) ++ [p])) = partT q ++ (sep ++ sumT (q' :: l)) ++ (sep ++ partT p)
      rw [ih, ByteArray.append_assoc, ByteArray.append_assoc]
theorem sumT_take {l : List (Int × Int)} {i : Nat} (hi : i < l.length) : sumT (l.take (i + 1)) = if i = 0 then partT l[i] else sumT (l.take i) ++ (sep ++ partT l[i]) := by
  have e : l.take (i + 1) = l.take i ++ [l[i]] := by rw [List.take_add_one, List.getElem?_eq_getElem hi]; rfl
  rw [e, sumT_snoc]
  by_cases h0 : i = 0
  · subst h0; rw [if_pos rfl, if_pos (List.take_zero)]
  · rw [if_neg h0, if_neg (fun h => by
      have := congrArg List.length h
      rw [List.length_take] at this
      simp only [List.length_nil] at this
      omega)]
theorem i64B_var {v : Int} (h : 0 ≤ v ∧ v < 4096) : i64B v = true := by
  unfold i64B; rw [Bool.and_eq_true, decide_eq_true_eq, decide_eq_true_eq]; omega
set_option exponentiation.threshold 20000 in
theorem fits_var {v : Int} (h : 0 ≤ v ∧ v < 4096) : fits v = true := by
  rw [fits_iff]
  have h1 : v.natAbs < 2 ^ 12 := by omega
  exact Nat.lt_of_lt_of_le h1 (Nat.pow_le_pow_right (show 0 < 2 by omega) (show 12 ≤ 1024 by omega))
theorem sumT_len {l : List (Int × Int)} (hl : okL l) (i : Nat) (h : i ≤ l.length) : (bytesOf (sumT (l.take i))).length ≤ i * 30000 := by
  induction i with
  | zero => rw [List.take_zero]; exact Nat.le_refl 0
  | succ i ih =>
    have h1 := ih (by omega)
    have h2 := txt_len (small_of_fits (okL_mem hl (List.getElem_mem (show i < l.length by omega))))
    have h3 := txt_len (small_of_fits (fits_var (okL_in hl _ (List.getElem_mem (show i < l.length by omega)))))
    have hp : (bytesOf (partT l[i])).length ≤ 20006 := by
      unfold partT
      rw [bytes_app, bytes_app, List.length_append, List.length_append, show (bytesOf ⟨#[42, 120]⟩).length = 2 from rfl]
      omega
    rw [sumT_take (by omega)]
    split
    · omega
    · rw [bytes_app, bytes_app, List.length_append, List.length_append, show (bytesOf sep).length = 3 from rfl]
      omega
theorem room1 {l : List Int} (h : l.length ≤ 140000000000) : (true && decide (l.length * 1 ≤ 140737488355328)) = true := by
  rw [Bool.true_and, decide_eq_true_eq]; omega
namespace NText
theorem loop (l : List (Int × Int)) (b : Bool) (m : List Int) (hl : okL l) : ∃ e S1, Ends T orc L0 D0 (st0 (l.map (fun p => p.1)) (l.map cL) b m 0 []) e S1 ∧ e = .exit 0 ∧ ∃ x, S1 = st0 (l.map (fun p => p.1)) (l.map cL) b m x (bytesOf (sumT l)) := by
  have key : ∃ e S1, Ends T orc L0 D0 (st0 (l.map (fun p => p.1)) (l.map cL) b m ((0 : Nat) : Int) (bytesOf (sumT (l.take 0)))) e S1 ∧ e = .exit 0 ∧ ∃ x, S1 = st0 (l.map (fun p => p.1)) (l.map cL) b m x (bytesOf (sumT l)) := by
    refine loop_inv1 (fun (i : Nat) => st0 (l.map (fun p => p.1)) (l.map cL) b m i (bytesOf (sumT (l.take i)))) (fun i => i ≤ l.length) (fun i => l.length - i)
      (fun e S1 => e = .exit 0 ∧ ∃ x, S1 = st0 (l.map (fun p => p.1)) (l.map cL) b m x (bytesOf (sumT l))) isL0 ?_ 0 (Nat.zero_le _)
    intro i h1
    have hlen := okL_len hl
    refine ⟨noTab, noTab_all, lands_of (round0 ..) ?_⟩
    by_cases hi : i < l.length
    · have hf := okL_mem hl (List.getElem_mem hi)
      have hv := okL_in hl _ (List.getElem_mem hi)
      have hL := sumT_len hl i (by omega)
      have t1 := txt_len (small_of_fits hf)
      have t2 := txt_len (small_of_fits (fits_var hv))
      have hsep : (bytesOf { data := #[32, 43, 32] }).length = 3 := rfl
      have hx : (bytesOf { data := #[42, 120] }).length = 2 := rfl
      have hnext := sumT_take hi
      rw [List.length_map, List.length_map, ltN hi, inN hi, getL hi, rdV hi]
      simp only [cL0, cL1, cLeta, cnW_fits hf, cnW_fits (fits_var hv), i64B_var hv, num_lbW, N_eq, cond_true]
      by_cases h0 : i = 0
      · rw [if_pos h0] at hnext
        rw [decide_eq_false (show ¬ ((i : Nat) : Int) > 0 by omega), cond_false, room1 (by simp only [List.length_append, hsep, hx]; omega), room1 (by simp only [List.length_append, hsep, hx]; omega), room1 (by simp only [List.length_append, hsep, hx]; omega)]
        simp only [cond_true, wi_succ (show i < 4611686018427387904 by omega), lands_some, Turns1]
        refine ⟨i + 1, ?_, by omega, by omega⟩
        have e : bytesOf (sumT (l.take (i + 1))) = bytesOf (sumT (l.take i)) ++ bytesOf (txt l[i].2) ++ bytesOf { data := #[42, 120] } ++ bytesOf (txt l[i].1) := by
          rw [hnext, show l.take i = [] from by rw [h0, List.take_zero], show bytesOf (sumT []) = [] from rfl]
          unfold partT
          rw [bytes_app, bytes_app, List.nil_append, List.append_assoc]
        rw [e]
      · rw [if_neg h0] at hnext
        rw [decide_eq_true (show ((i : Nat) : Int) > 0 by omega), cond_true, room1 (by simp only [List.length_append, hsep, hx]; omega), room1 (by simp only [List.length_append, hsep, hx]; omega), room1 (by simp only [List.length_append, hsep, hx]; omega), room1 (by simp only [List.length_append, hsep, hx]; omega)]
        simp only [cond_true, wi_succ (show i < 4611686018427387904 by omega), lands_some, Turns1]
        refine ⟨i + 1, ?_, by omega, by omega⟩
        have e : bytesOf (sumT (l.take (i + 1))) = bytesOf (sumT (l.take i)) ++ bytesOf { data := #[32, 43, 32] } ++ bytesOf (txt l[i].2) ++ bytesOf { data := #[42, 120] } ++ bytesOf (txt l[i].1) := by
          rw [hnext]
          unfold partT sep
          rw [bytes_app, bytes_app, bytes_app, bytes_app, List.append_assoc, List.append_assoc, List.append_assoc]
        rw [e]
    · rw [List.length_map, ltN' hi]
      simp only [cond_false, lands_some, Turns1]
      have hil : l.take i = l := List.take_of_length_le (by omega)
      rw [hil]
      exact ⟨trivial, i, rfl⟩
  exact key
end NText
theorem meets_ntext : Meets Try.prog 41 ansLText := by
  refine meets_fn (orc_ok (l := NText.ans) ⟨meets_text, meets_from, meets_sign, trivial⟩) Try.f41 Try.func41 (by kernel_rfl) (fun args r h => ?_)
  unfold ansLText at h
  split at h
  · rename_i vs r b m
    simp only [Option.some.injEq, Prod.mk.injEq] at h
    obtain ⟨h1, rfl⟩ := h
    obtain ⟨l, c, k1, k2, rfl, rfl, rfl, rfl⟩ := isT_iff.1 h1
    obtain ⟨e1, S1, hE1, rfl, x, rfl⟩ := NText.loop l (sg c) (lb 4294967296 c) k1
    have hT := ttxt_eq l c
    have hL := sumT_len k1 l.length (Nat.le_refl _)
    rw [List.take_length] at hL
    have hlen := okL_len k1
    have hsep : (bytesOf { data := #[32, 43, 32] }).length = 3 := rfl
    have t1 := txt_len (small_of_fits k2)
    refine ⟨rfl, _, tabOf_all _, (NText.rest _ _ _ _ (bytesOf (sumT l)) x).trans ((bT (cdec_true hE1)).trans ?_)⟩
    rw [List.length_map, dl_map, num_lbW, cnW_fits k2, cmpZ_zero]
    by_cases h0 : l = []
    · subst h0
      have hT : ttxt [] c = txt c := hT
      rw [hT]
      refine (bT rfl).trans ((bF rfl).trans ((bT rfl).trans ((bT (room1 (by simp only [List.length_append]; omega))).trans ?_)))
      rw [show bytesOf (sumT []) = [] from rfl, List.nil_append, strOf_bytes]
    · have hpos : 0 < l.length := List.length_pos_iff.2 h0
      rw [show l.isEmpty = false from List.isEmpty_eq_false_iff.2 h0, cond_false] at hT
      refine (bF (beq_eq_false_iff_ne.2 (by omega))).trans ((bT rfl).trans ?_)
      cases hc : c == 0 with
      | true =>
        rw [hc, cond_true] at hT
        rw [hT]
        refine (bF rfl).trans ?_
        rw [strOf_bytes]
      | false =>
        rw [hc, cond_false] at hT
        rw [hT]
        refine (bT rfl).trans ((bT (decide_eq_true (by omega))).trans ((bT (room1 (by simp only [List.length_append, hsep]; omega))).trans ((bT rfl).trans ((bT (room1 (by simp only [List.length_append, hsep]; omega))).trans ?_))))
        have e : bytesOf (sumT l ++ (sep ++ txt c)) = bytesOf (sumT l) ++ bytesOf { data := #[32, 43, 32] } ++ bytesOf (txt c) := by
          unfold sep
          rw [bytes_app, bytes_app, List.append_assoc]
        rw [← e, strOf_bytes]
  · cases h
end Go.Abs
end
section
/- States and rounds of the functions of linear and of its reference, as a program of this session printed them. -/
set_option maxRecDepth 10000
namespace Go.Abs
open Go.Proofs Go.Dig
noncomputable section
namespace NRead
abbrev ans : Ans := [(58, ansParse), (35, ansLVar), (52, ansLScale), (46, ansLAdd)]
abbrev orc : Orc := orcOf ans
noncomputable def L0 : Code := lp Try.f15 0
theorem isL0 : ∃ a, L0 = .loop a := ⟨_, rfl⟩
abbrev D0 : List Nat := [0, 1, 2, 3, 4, 5, 6, 12, 13, 14, 15, 17, 18, 19, 20, 21, 22, 23, 24, 27, 28, 29, 30]
abbrev st0 (x : List (List AV)) (s : ByteArray) (x1 : Int) (l0 : List Int) (r0 : List (List AV)) (b0 : Bool) (l1 : List Int) : St := ⟨.agg [.rows 2 x, .str s] :: .ptr 1 0 0 :: .ptr 2 0 0 :: .int .i64 (0) :: .ptr 4 0 0 :: .int .i64 (re s) :: .ptr 6 0 0 :: tops 5 (.ptr 1 0 0 :: .rows 2 x :: .int .i64 (↑x.length : Int) :: .bool (decide ((↑x.length : Int) > 4096)) :: tops 1 (.tup [R (rv s), .int .i64 (re s)] :: .ptr 1 0 1 :: .str s :: .tup [R (rv s), .int .i64 (re s)] :: R (rv s) :: .int .i64 (re s) :: .int .i64 (re s) :: .bool (re s != 0) :: tops 2 (.ptr 1 0 0 :: .rows 2 x :: .int .i64 (↑x.length : Int) :: .int .i64 x1 :: tops 43 ([])))), nos 1 (varE [(false, .rows 2 x), (false, .str s)] :: varE [(true, .ints .i64 []), (true, .rows 2 []), (false, .bool false), (true, .ints .u32 []), (false, .bool false), (true, .ints .u32 [])] :: nos 1 (varE [(false, .bool (sg (rv s))), (false, .ints .u32 (lb (4294967296) (rv s)))] :: nos 1 (varE [(false, .ints .i64 l0), (false, .rows 2 r0), (false, .bool b0), (false, .ints .u32 l1)] :: nos 67 ([]))))⟩
abbrev st0x0 (x : List (List AV)) (s : ByteArray) (x2 : Int) (x1 : Int) (l0 : List Int) (r0 : List (List AV)) (b0 : Bool) (l1 : List Int) : St := ⟨.agg [.rows 2 x, .str s] :: .ptr 1 0 0 :: .ptr 2 0 0 :: .int .i64 x2 :: .ptr 4 0 0 :: .int .i64 (re s) :: .ptr 6 0 0 :: tops 5 (.ptr 1 0 0 :: .rows 2 x :: .int .i64 (↑x.length : Int) :: .bool (decide ((↑x.length : Int) > 4096)) :: tops 1 (.tup [R (rv s), .int .i64 (re s)] :: .ptr 1 0 1 :: .str s :: .tup [R (rv s), .int .i64 (re s)] :: R (rv s) :: .int .i64 (re s) :: .int .i64 (re s) :: .bool (re s != 0) :: tops 2 (.ptr 1 0 0 :: .rows 2 x :: .int .i64 (↑x.length : Int) :: .int .i64 x1 :: tops 43 ([])))), nos 1 (varE [(false, .rows 2 x), (false, .str s)] :: varE [(true, .ints .i64 []), (true, .rows 2 []), (false, .bool false), (true, .ints .u32 []), (false, .bool false), (true, .ints .u32 [])] :: nos 1 (varE [(false, .bool (sg (rv s))), (false, .ints .u32 (lb (4294967296) (rv s)))] :: nos 1 (varE [(false, .ints .i64 l0), (false, .rows 2 r0), (false, .bool b0), (false, .ints .u32 l1)] :: nos 67 ([]))))⟩
abbrev st0x1 (x : List (List AV)) (s : ByteArray) : St := ⟨.agg [.rows 2 x, .str s] :: .ptr 1 0 0 :: .ptr 2 0 0 :: .int .i64 (vE (gInt ((x.getD 0 []).getD 0 .top))) :: .ptr 4 0 0 :: .int .i64 (re s) :: .ptr 6 0 0 :: tops 5 (.ptr 1 0 0 :: .rows 2 x :: .int .i64 (↑x.length : Int) :: .bool (decide ((↑x.length : Int) > 4096)) :: tops 1 (.tup [R (rv s), .int .i64 (re s)] :: .ptr 1 0 1 :: .str s :: .tup [R (rv s), .int .i64 (re s)] :: R (rv s) :: .int .i64 (re s) :: .int .i64 (re s) :: .bool (re s != 0) :: tops 2 (.ptr 1 0 0 :: .rows 2 x :: .int .i64 (↑x.length : Int) :: .int .i64 (0) :: tops 43 ([])))), nos 1 (varE [(false, .rows 2 x), (false, .str s)] :: varE [(true, .ints .i64 []), (true, .rows 2 []), (false, .bool false), (true, .ints .u32 []), (false, .bool false), (true, .ints .u32 [])] :: nos 1 (varE [(false, .bool (sg (rv s))), (false, .ints .u32 (lb (4294967296) (rv s)))] :: nos 1 (varE [(true, .ints .i64 []), (true, .rows 2 []), (false, .bool false), (true, .ints .u32 [])] :: nos 67 ([]))))⟩
abbrev st0x2 (x : List (List AV)) (s : ByteArray) : St := ⟨.agg [.rows 2 x, .str s] :: .ptr 1 0 0 :: .ptr 2 0 0 :: .int .i64 (re (gStr ((x.getD 0 []).getD 1 .top))) :: .ptr 4 0 0 :: .int .i64 (re s) :: .ptr 6 0 0 :: tops 5 (.ptr 1 0 0 :: .rows 2 x :: .int .i64 (↑x.length : Int) :: .bool (decide ((↑x.length : Int) > 4096)) :: tops 1 (.tup [R (rv s), .int .i64 (re s)] :: .ptr 1 0 1 :: .str s :: .tup [R (rv s), .int .i64 (re s)] :: R (rv s) :: .int .i64 (re s) :: .int .i64 (re s) :: .bool (re s != 0) :: tops 2 (.ptr 1 0 0 :: .rows 2 x :: .int .i64 (↑x.length : Int) :: .int .i64 (0) :: tops 43 ([])))), nos 1 (varE [(false, .rows 2 x), (false, .str s)] :: varE [(true, .ints .i64 []), (true, .rows 2 []), (false, .bool false), (true, .ints .u32 []), (false, .bool false), (true, .ints .u32 [])] :: nos 1 (varE [(false, .bool (sg (rv s))), (false, .ints .u32 (lb (4294967296) (rv s)))] :: nos 1 (varE [(true, .ints .i64 []), (true, .rows 2 []), (false, .bool false), (true, .ints .u32 [])] :: nos 67 ([]))))⟩
abbrev st0x3 (x : List (List AV)) (s : ByteArray) : St := ⟨.agg [.rows 2 x, .str s] :: .ptr 1 0 0 :: .ptr 2 0 0 :: .int .i64 (0) :: .ptr 4 0 0 :: .int .i64 (re s) :: .ptr 6 0 0 :: tops 5 (.ptr 1 0 0 :: .rows 2 x :: .int .i64 (↑x.length : Int) :: .bool (decide ((↑x.length : Int) > 4096)) :: tops 1 (.tup [R (rv s), .int .i64 (re s)] :: .ptr 1 0 1 :: .str s :: .tup [R (rv s), .int .i64 (re s)] :: R (rv s) :: .int .i64 (re s) :: .int .i64 (re s) :: .bool (re s != 0) :: tops 2 (.ptr 1 0 0 :: .rows 2 x :: .int .i64 (↑x.length : Int) :: .int .i64 (0) :: tops 43 ([])))), nos 1 (varE [(false, .rows 2 x), (false, .str s)] :: varE [(true, .ints .i64 []), (true, .rows 2 []), (false, .bool false), (true, .ints .u32 []), (false, .bool false), (true, .ints .u32 [])] :: nos 1 (varE [(false, .bool (sg (rv s))), (false, .ints .u32 (lb (4294967296) (rv s)))] :: nos 1 (varE [(true, .ints .i64 []), (true, .rows 2 []), (false, .bool false), (true, .ints .u32 [])] :: nos 67 ([]))))⟩
abbrev st0e (x : List (List AV)) (s : ByteArray) : St := ⟨.agg [.rows 2 x, .str s] :: .ptr 1 0 0 :: .ptr 2 0 0 :: .int .i64 (0) :: .ptr 4 0 0 :: .int .i64 (re s) :: .ptr 6 0 0 :: tops 5 (.ptr 1 0 0 :: .rows 2 x :: .int .i64 (↑x.length : Int) :: .bool (decide ((↑x.length : Int) > 4096)) :: tops 1 (.tup [R (rv s), .int .i64 (re s)] :: .ptr 1 0 1 :: .str s :: .tup [R (rv s), .int .i64 (re s)] :: R (rv s) :: .int .i64 (re s) :: .int .i64 (re s) :: .bool (re s != 0) :: tops 2 (.ptr 1 0 0 :: .rows 2 x :: .int .i64 (↑x.length : Int) :: .int .i64 (0) :: tops 43 ([])))), nos 1 (varE [(false, .rows 2 x), (false, .str s)] :: varE [(true, .ints .i64 []), (true, .rows 2 []), (false, .bool false), (true, .ints .u32 []), (false, .bool false), (true, .ints .u32 [])] :: nos 1 (varE [(false, .bool (sg (rv s))), (false, .ints .u32 (lb (4294967296) (rv s)))] :: nos 1 (varE [(true, .ints .i64 []), (true, .rows 2 []), (false, .bool false), (true, .ints .u32 [])] :: nos 67 ([]))))⟩
theorem round0e (x : List (List AV)) (s : ByteArray) : goL T orc (noTab) D0 L0 (st0e x s) =
    (bif decide (0 < (↑x.length : Int)) then (bif inB (0) x.length then (bif etasOk [.int .i64 (0), .str { data := #[] }] (x.getD 0 []) then (bif vE (gInt ((x.getD 0 []).getD 0 .top)) != 0 then some (.ret, st0x1 x s) else (bif decide ((gStr ((x.getD 0 []).getD 1 .top)).size ≤ 10000) then (bif re (gStr ((x.getD 0 []).getD 1 .top)) != 0 then some (.ret, st0x2 x s) else (bif isT (lvs (Bool.rec [] (lone (gInt ((x.getD 0 []).getD 0 .top)) (1)) (vok (gInt ((x.getD 0 []).getD 0 .top))))) (lrs (Bool.rec [] (lone (gInt ((x.getD 0 []).getD 0 .top)) (1)) (vok (gInt ((x.getD 0 []).getD 0 .top))))) false [] && (cn (4294967296) (sg (rv (gStr ((x.getD 0 []).getD 1 .top)))) (lb (4294967296) (rv (gStr ((x.getD 0 []).getD 1 .top)))) && fits (N (4294967296) (rv (gStr ((x.getD 0 []).getD 1 .top))))) then (bif isT [] [] false [] && isT (lvs (scL (dl (lvs (Bool.rec [] (lone (gInt ((x.getD 0 []).getD 0 .top)) (1)) (vok (gInt ((x.getD 0 []).getD 0 .top))))) (lrs (Bool.rec [] (lone (gInt ((x.getD 0 []).getD 0 .top)) (1)) (vok (gInt ((x.getD 0 []).getD 0 .top)))))) (0) (N (4294967296) (rv (gStr ((x.getD 0 []).getD 1 .top)))))) (lrs (scL (dl (lvs (Bool.rec [] (lone (gInt ((x.getD 0 []).getD 0 .top)) (1)) (vok (gInt ((x.getD 0 []).getD 0 .top))))) (lrs (Bool.rec [] (lone (gInt ((x.getD 0 []).getD 0 .top)) (1)) (vok (gInt ((x.getD 0 []).getD 0 .top)))))) (0) (N (4294967296) (rv (gStr ((x.getD 0 []).getD 1 .top)))))) (sg (scC (dl (lvs (Bool.rec [] (lone (gInt ((x.getD 0 []).getD 0 .top)) (1)) (vok (gInt ((x.getD 0 []).getD 0 .top))))) (lrs (Bool.rec [] (lone (gInt ((x.getD 0 []).getD 0 .top)) (1)) (vok (gInt ((x.getD 0 []).getD 0 .top)))))) (0) (N (4294967296) (rv (gStr ((x.getD 0 []).getD 1 .top)))))) (lb (4294967296) (scC (dl (lvs (Bool.rec [] (lone (gInt ((x.getD 0 []).getD 0 .top)) (1)) (vok (gInt ((x.getD 0 []).getD 0 .top))))) (lrs (Bool.rec [] (lone (gInt ((x.getD 0 []).getD 0 .top)) (1)) (vok (gInt ((x.getD 0 []).getD 0 .top)))))) (0) (N (4294967296) (rv (gStr ((x.getD 0 []).getD 1 .top)))))) then (bif addE (dl [] []) (dl (lvs (scL (dl (lvs (Bool.rec [] (lone (gInt ((x.getD 0 []).getD 0 .top)) (1)) (vok (gInt ((x.getD 0 []).getD 0 .top))))) (lrs (Bool.rec [] (lone (gInt ((x.getD 0 []).getD 0 .top)) (1)) (vok (gInt ((x.getD 0 []).getD 0 .top)))))) (0) (N (4294967296) (rv (gStr ((x.getD 0 []).getD 1 .top)))))) (lrs (scL (dl (lvs (Bool.rec [] (lone (gInt ((x.getD 0 []).getD 0 .top)) (1)) (vok (gInt ((x.getD 0 []).getD 0 .top))))) (lrs (Bool.rec [] (lone (gInt ((x.getD 0 []).getD 0 .top)) (1)) (vok (gInt ((x.getD 0 []).getD 0 .top)))))) (0) (N (4294967296) (rv (gStr ((x.getD 0 []).getD 1 .top))))))) (0) (N (4294967296) (scC (dl (lvs (Bool.rec [] (lone (gInt ((x.getD 0 []).getD 0 .top)) (1)) (vok (gInt ((x.getD 0 []).getD 0 .top))))) (lrs (Bool.rec [] (lone (gInt ((x.getD 0 []).getD 0 .top)) (1)) (vok (gInt ((x.getD 0 []).getD 0 .top)))))) (0) (N (4294967296) (rv (gStr ((x.getD 0 []).getD 1 .top)))))) != 0 then some (.ret, st0x0 x s (addE (dl [] []) (dl (lvs (scL (dl (lvs (Bool.rec [] (lone (gInt ((x.getD 0 []).getD 0 .top)) (1)) (vok (gInt ((x.getD 0 []).getD 0 .top))))) (lrs (Bool.rec [] (lone (gInt ((x.getD 0 []).getD 0 .top)) (1)) (vok (gInt ((x.getD 0 []).getD 0 .top)))))) (0) (N (4294967296) (rv (gStr ((x.getD 0 []).getD 1 .top)))))) (lrs (scL (dl (lvs (Bool.rec [] (lone (gInt ((x.getD 0 []).getD 0 .top)) (1)) (vok (gInt ((x.getD 0 []).getD 0 .top))))) (lrs (Bool.rec [] (lone (gInt ((x.getD 0 []).getD 0 .top)) (1)) (vok (gInt ((x.getD 0 []).getD 0 .top)))))) (0) (N (4294967296) (rv (gStr ((x.getD 0 []).getD 1 .top))))))) (0) (N (4294967296) (scC (dl (lvs (Bool.rec [] (lone (gInt ((x.getD 0 []).getD 0 .top)) (1)) (vok (gInt ((x.getD 0 []).getD 0 .top))))) (lrs (Bool.rec [] (lone (gInt ((x.getD 0 []).getD 0 .top)) (1)) (vok (gInt ((x.getD 0 []).getD 0 .top)))))) (0) (N (4294967296) (rv (gStr ((x.getD 0 []).getD 1 .top))))))) (0) (lvs (addL (dl [] []) (dl (lvs (scL (dl (lvs (Bool.rec [] (lone (gInt ((x.getD 0 []).getD 0 .top)) (1)) (vok (gInt ((x.getD 0 []).getD 0 .top))))) (lrs (Bool.rec [] (lone (gInt ((x.getD 0 []).getD 0 .top)) (1)) (vok (gInt ((x.getD 0 []).getD 0 .top)))))) (0) (N (4294967296) (rv (gStr ((x.getD 0 []).getD 1 .top)))))) (lrs (scL (dl (lvs (Bool.rec [] (lone (gInt ((x.getD 0 []).getD 0 .top)) (1)) (vok (gInt ((x.getD 0 []).getD 0 .top))))) (lrs (Bool.rec [] (lone (gInt ((x.getD 0 []).getD 0 .top)) (1)) (vok (gInt ((x.getD 0 []).getD 0 .top)))))) (0) (N (4294967296) (rv (gStr ((x.getD 0 []).getD 1 .top))))))) (0) (N (4294967296) (scC (dl (lvs (Bool.rec [] (lone (gInt ((x.getD 0 []).getD 0 .top)) (1)) (vok (gInt ((x.getD 0 []).getD 0 .top))))) (lrs (Bool.rec [] (lone (gInt ((x.getD 0 []).getD 0 .top)) (1)) (vok (gInt ((x.getD 0 []).getD 0 .top)))))) (0) (N (4294967296) (rv (gStr ((x.getD 0 []).getD 1 .top)))))))) (lrs (addL (dl [] []) (dl (lvs (scL (dl (lvs (Bool.rec [] (lone (gInt ((x.getD 0 []).getD 0 .top)) (1)) (vok (gInt ((x.getD 0 []).getD 0 .top))))) (lrs (Bool.rec [] (lone (gInt ((x.getD 0 []).getD 0 .top)) (1)) (vok (gInt ((x.getD 0 []).getD 0 .top)))))) (0) (N (4294967296) (rv (gStr ((x.getD 0 []).getD 1 .top)))))) (lrs (scL (dl (lvs (Bool.rec [] (lone (gInt ((x.getD 0 []).getD 0 .top)) (1)) (vok (gInt ((x.getD 0 []).getD 0 .top))))) (lrs (Bool.rec [] (lone (gInt ((x.getD 0 []).getD 0 .top)) (1)) (vok (gInt ((x.getD 0 []).getD 0 .top)))))) (0) (N (4294967296) (rv (gStr ((x.getD 0 []).getD 1 .top))))))) (0) (N (4294967296) (scC (dl (lvs (Bool.rec [] (lone (gInt ((x.getD 0 []).getD 0 .top)) (1)) (vok (gInt ((x.getD 0 []).getD 0 .top))))) (lrs (Bool.rec [] (lone (gInt ((x.getD 0 []).getD 0 .top)) (1)) (vok (gInt ((x.getD 0 []).getD 0 .top)))))) (0) (N (4294967296) (rv (gStr ((x.getD 0 []).getD 1 .top)))))))) (sg (addC (dl [] []) (dl (lvs (scL (dl (lvs (Bool.rec [] (lone (gInt ((x.getD 0 []).getD 0 .top)) (1)) (vok (gInt ((x.getD 0 []).getD 0 .top))))) (lrs (Bool.rec [] (lone (gInt ((x.getD 0 []).getD 0 .top)) (1)) (vok (gInt ((x.getD 0 []).getD 0 .top)))))) (0) (N (4294967296) (rv (gStr ((x.getD 0 []).getD 1 .top)))))) (lrs (scL (dl (lvs (Bool.rec [] (lone (gInt ((x.getD 0 []).getD 0 .top)) (1)) (vok (gInt ((x.getD 0 []).getD 0 .top))))) (lrs (Bool.rec [] (lone (gInt ((x.getD 0 []).getD 0 .top)) (1)) (vok (gInt ((x.getD 0 []).getD 0 .top)))))) (0) (N (4294967296) (rv (gStr ((x.getD 0 []).getD 1 .top))))))) (0) (N (4294967296) (scC (dl (lvs (Bool.rec [] (lone (gInt ((x.getD 0 []).getD 0 .top)) (1)) (vok (gInt ((x.getD 0 []).getD 0 .top))))) (lrs (Bool.rec [] (lone (gInt ((x.getD 0 []).getD 0 .top)) (1)) (vok (gInt ((x.getD 0 []).getD 0 .top)))))) (0) (N (4294967296) (rv (gStr ((x.getD 0 []).getD 1 .top)))))))) (lb (4294967296) (addC (dl [] []) (dl (lvs (scL (dl (lvs (Bool.rec [] (lone (gInt ((x.getD 0 []).getD 0 .top)) (1)) (vok (gInt ((x.getD 0 []).getD 0 .top))))) (lrs (Bool.rec [] (lone (gInt ((x.getD 0 []).getD 0 .top)) (1)) (vok (gInt ((x.getD 0 []).getD 0 .top)))))) (0) (N (4294967296) (rv (gStr ((x.getD 0 []).getD 1 .top)))))) (lrs (scL (dl (lvs (Bool.rec [] (lone (gInt ((x.getD 0 []).getD 0 .top)) (1)) (vok (gInt ((x.getD 0 []).getD 0 .top))))) (lrs (Bool.rec [] (lone (gInt ((x.getD 0 []).getD 0 .top)) (1)) (vok (gInt ((x.getD 0 []).getD 0 .top)))))) (0) (N (4294967296) (rv (gStr ((x.getD 0 []).getD 1 .top))))))) (0) (N (4294967296) (scC (dl (lvs (Bool.rec [] (lone (gInt ((x.getD 0 []).getD 0 .top)) (1)) (vok (gInt ((x.getD 0 []).getD 0 .top))))) (lrs (Bool.rec [] (lone (gInt ((x.getD 0 []).getD 0 .top)) (1)) (vok (gInt ((x.getD 0 []).getD 0 .top)))))) (0) (N (4294967296) (rv (gStr ((x.getD 0 []).getD 1 .top))))))))) else some (.normal, st0 x s (IntKind.i64.wrap (0 + 1)) (lvs (addL (dl [] []) (dl (lvs (scL (dl (lvs (Bool.rec [] (lone (gInt ((x.getD 0 []).getD 0 .top)) (1)) (vok (gInt ((x.getD 0 []).getD 0 .top))))) (lrs (Bool.rec [] (lone (gInt ((x.getD 0 []).getD 0 .top)) (1)) (vok (gInt ((x.getD 0 []).getD 0 .top)))))) (0) (N (4294967296) (rv (gStr ((x.getD 0 []).getD 1 .top)))))) (lrs (scL (dl (lvs (Bool.rec [] (lone (gInt ((x.getD 0 []).getD 0 .top)) (1)) (vok (gInt ((x.getD 0 []).getD 0 .top))))) (lrs (Bool.rec [] (lone (gInt ((x.getD 0 []).getD 0 .top)) (1)) (vok (gInt ((x.getD 0 []).getD 0 .top)))))) (0) (N (4294967296) (rv (gStr ((x.getD 0 []).getD 1 .top))))))) (0) (N (4294967296) (scC (dl (lvs (Bool.rec [] (lone (gInt ((x.getD 0 []).getD 0 .top)) (1)) (vok (gInt ((x.getD 0 []).getD 0 .top))))) (lrs (Bool.rec [] (lone (gInt ((x.getD 0 []).getD 0 .top)) (1)) (vok (gInt ((x.getD 0 []).getD 0 .top)))))) (0) (N (4294967296) (rv (gStr ((x.getD 0 []).getD 1 .top)))))))) (lrs (addL (dl [] []) (dl (lvs (scL (dl (lvs (Bool.rec [] (lone (gInt ((x.getD 0 []).getD 0 .top)) (1)) (vok (gInt ((x.getD 0 []).getD 0 .top))))) (lrs (Bool.rec [] (lone (gInt ((x.getD 0 []).getD 0 .top)) (1)) (vok (gInt ((x.getD 0 []).getD 0 .top)))))) (0) (N (4294967296) (rv (gStr ((x.getD 0 []).getD 1 .top)))))) (lrs (scL (dl (lvs (Bool.rec [] (lone (gInt ((x.getD 0 []).getD 0 .top)) (1)) (vok (gInt ((x.getD 0 []).getD 0 .top))))) (lrs (Bool.rec [] (lone (gInt ((x.getD 0 []).getD 0 .top)) (1)) (vok (gInt ((x.getD 0 []).getD 0 .top)))))) (0) (N (4294967296) (rv (gStr ((x.getD 0 []).getD 1 .top))))))) (0) (N (4294967296) (scC (dl (lvs (Bool.rec [] (lone (gInt ((x.getD 0 []).getD 0 .top)) (1)) (vok (gInt ((x.getD 0 []).getD 0 .top))))) (lrs (Bool.rec [] (lone (gInt ((x.getD 0 []).getD 0 .top)) (1)) (vok (gInt ((x.getD 0 []).getD 0 .top)))))) (0) (N (4294967296) (rv (gStr ((x.getD 0 []).getD 1 .top)))))))) (sg (addC (dl [] []) (dl (lvs (scL (dl (lvs (Bool.rec [] (lone (gInt ((x.getD 0 []).getD 0 .top)) (1)) (vok (gInt ((x.getD 0 []).getD 0 .top))))) (lrs (Bool.rec [] (lone (gInt ((x.getD 0 []).getD 0 .top)) (1)) (vok (gInt ((x.getD 0 []).getD 0 .top)))))) (0) (N (4294967296) (rv (gStr ((x.getD 0 []).getD 1 .top)))))) (lrs (scL (dl (lvs (Bool.rec [] (lone (gInt ((x.getD 0 []).getD 0 .top)) (1)) (vok (gInt ((x.getD 0 []).getD 0 .top))))) (lrs (Bool.rec [] (lone (gInt ((x.getD 0 []).getD 0 .top)) (1)) (vok (gInt ((x.getD 0 []).getD 0 .top)))))) (0) (N (4294967296) (rv (gStr ((x.getD 0 []).getD 1 .top))))))) (0) (N (4294967296) (scC (dl (lvs (Bool.rec [] (lone (gInt ((x.getD 0 []).getD 0 .top)) (1)) (vok (gInt ((x.getD 0 []).getD 0 .top))))) (lrs (Bool.rec [] (lone (gInt ((x.getD 0 []).getD 0 .top)) (1)) (vok (gInt ((x.getD 0 []).getD 0 .top)))))) (0) (N (4294967296) (rv (gStr ((x.getD 0 []).getD 1 .top)))))))) (lb (4294967296) (addC (dl [] []) (dl (lvs (scL (dl (lvs (Bool.rec [] (lone (gInt ((x.getD 0 []).getD 0 .top)) (1)) (vok (gInt ((x.getD 0 []).getD 0 .top))))) (lrs (Bool.rec [] (lone (gInt ((x.getD 0 []).getD 0 .top)) (1)) (vok (gInt ((x.getD 0 []).getD 0 .top)))))) (0) (N (4294967296) (rv (gStr ((x.getD 0 []).getD 1 .top)))))) (lrs (scL (dl (lvs (Bool.rec [] (lone (gInt ((x.getD 0 []).getD 0 .top)) (1)) (vok (gInt ((x.getD 0 []).getD 0 .top))))) (lrs (Bool.rec [] (lone (gInt ((x.getD 0 []).getD 0 .top)) (1)) (vok (gInt ((x.getD 0 []).getD 0 .top)))))) (0) (N (4294967296) (rv (gStr ((x.getD 0 []).getD 1 .top))))))) (0) (N (4294967296) (scC (dl (lvs (Bool.rec [] (lone (gInt ((x.getD 0 []).getD 0 .top)) (1)) (vok (gInt ((x.getD 0 []).getD 0 .top))))) (lrs (Bool.rec [] (lone (gInt ((x.getD 0 []).getD 0 .top)) (1)) (vok (gInt ((x.getD 0 []).getD 0 .top)))))) (0) (N (4294967296) (rv (gStr ((x.getD 0 []).getD 1 .top)))))))))) else none) else none)) else none)) else none) else none) else some (.exit 0, st0e x s)) := by kernel_rfl
theorem round0 (x : List (List AV)) (s : ByteArray) (x1 : Int) (l0 : List Int) (r0 : List (List AV)) (b0 : Bool) (l1 : List Int) : goL T orc (noTab) D0 L0 (st0 x s x1 l0 r0 b0 l1) =
    (bif decide (x1 < (↑x.length : Int)) then (bif inB x1 x.length then (bif etasOk [.int .i64 (0), .str { data := #[] }] (x.getD x1.toNat []) then (bif vE (gInt ((x.getD x1.toNat []).getD 0 .top)) != 0 then some (.ret, st0x0 x s (vE (gInt ((x.getD x1.toNat []).getD 0 .top))) x1 l0 r0 b0 l1) else (bif decide ((gStr ((x.getD x1.toNat []).getD 1 .top)).size ≤ 10000) then (bif re (gStr ((x.getD x1.toNat []).getD 1 .top)) != 0 then some (.ret, st0x0 x s (re (gStr ((x.getD x1.toNat []).getD 1 .top))) x1 l0 r0 b0 l1) else (bif isT (lvs (Bool.rec [] (lone (gInt ((x.getD x1.toNat []).getD 0 .top)) (1)) (vok (gInt ((x.getD x1.toNat []).getD 0 .top))))) (lrs (Bool.rec [] (lone (gInt ((x.getD x1.toNat []).getD 0 .top)) (1)) (vok (gInt ((x.getD x1.toNat []).getD 0 .top))))) false [] && (cn (4294967296) (sg (rv (gStr ((x.getD x1.toNat []).getD 1 .top)))) (lb (4294967296) (rv (gStr ((x.getD x1.toNat []).getD 1 .top)))) && fits (N (4294967296) (rv (gStr ((x.getD x1.toNat []).getD 1 .top))))) then (bif isT l0 r0 b0 l1 && isT (lvs (scL (dl (lvs (Bool.rec [] (lone (gInt ((x.getD x1.toNat []).getD 0 .top)) (1)) (vok (gInt ((x.getD x1.toNat []).getD 0 .top))))) (lrs (Bool.rec [] (lone (gInt ((x.getD x1.toNat []).getD 0 .top)) (1)) (vok (gInt ((x.getD x1.toNat []).getD 0 .top)))))) (0) (N (4294967296) (rv (gStr ((x.getD x1.toNat []).getD 1 .top)))))) (lrs (scL (dl (lvs (Bool.rec [] (lone (gInt ((x.getD x1.toNat []).getD 0 .top)) (1)) (vok (gInt ((x.getD x1.toNat []).getD 0 .top))))) (lrs (Bool.rec [] (lone (gInt ((x.getD x1.toNat []).getD 0 .top)) (1)) (vok (gInt ((x.getD x1.toNat []).getD 0 .top)))))) (0) (N (4294967296) (rv (gStr ((x.getD x1.toNat []).getD 1 .top)))))) (sg (scC (dl (lvs (Bool.rec [] (lone (gInt ((x.getD x1.toNat []).getD 0 .top)) (1)) (vok (gInt ((x.getD x1.toNat []).getD 0 .top))))) (lrs (Bool.rec [] (lone (gInt ((x.getD x1.toNat []).getD 0 .top)) (1)) (vok (gInt ((x.getD x1.toNat []).getD 0 .top)))))) (0) (N (4294967296) (rv (gStr ((x.getD x1.toNat []).getD 1 .top)))))) (lb (4294967296) (scC (dl (lvs (Bool.rec [] (lone (gInt ((x.getD x1.toNat []).getD 0 .top)) (1)) (vok (gInt ((x.getD x1.toNat []).getD 0 .top))))) (lrs (Bool.rec [] (lone (gInt ((x.getD x1.toNat []).getD 0 .top)) (1)) (vok (gInt ((x.getD x1.toNat []).getD 0 .top)))))) (0) (N (4294967296) (rv (gStr ((x.getD x1.toNat []).getD 1 .top)))))) then (bif addE (dl l0 r0) (dl (lvs (scL (dl (lvs (Bool.rec [] (lone (gInt ((x.getD x1.toNat []).getD 0 .top)) (1)) (vok (gInt ((x.getD x1.toNat []).getD 0 .top))))) (lrs (Bool.rec [] (lone (gInt ((x.getD x1.toNat []).getD 0 .top)) (1)) (vok (gInt ((x.getD x1.toNat []).getD 0 .top)))))) (0) (N (4294967296) (rv (gStr ((x.getD x1.toNat []).getD 1 .top)))))) (lrs (scL (dl (lvs (Bool.rec [] (lone (gInt ((x.getD x1.toNat []).getD 0 .top)) (1)) (vok (gInt ((x.getD x1.toNat []).getD 0 .top))))) (lrs (Bool.rec [] (lone (gInt ((x.getD x1.toNat []).getD 0 .top)) (1)) (vok (gInt ((x.getD x1.toNat []).getD 0 .top)))))) (0) (N (4294967296) (rv (gStr ((x.getD x1.toNat []).getD 1 .top))))))) (num (4294967296) b0 l1) (N (4294967296) (scC (dl (lvs (Bool.rec [] (lone (gInt ((x.getD x1.toNat []).getD 0 .top)) (1)) (vok (gInt ((x.getD x1.toNat []).getD 0 .top))))) (lrs (Bool.rec [] (lone (gInt ((x.getD x1.toNat []).getD 0 .top)) (1)) (vok (gInt ((x.getD x1.toNat []).getD 0 .top)))))) (0) (N (4294967296) (rv (gStr ((x.getD x1.toNat []).getD 1 .top)))))) != 0 then some (.ret, st0x0 x s (addE (dl l0 r0) (dl (lvs (scL (dl (lvs (Bool.rec [] (lone (gInt ((x.getD x1.toNat []).getD 0 .top)) (1)) (vok (gInt ((x.getD x1.toNat []).getD 0 .top))))) (lrs (Bool.rec [] (lone (gInt ((x.getD x1.toNat []).getD 0 .top)) (1)) (vok (gInt ((x.getD x1.toNat []).getD 0 .top)))))) (0) (N (4294967296) (rv (gStr ((x.getD x1.toNat []).getD 1 .top)))))) (lrs (scL (dl (lvs (Bool.rec [] (lone (gInt ((x.getD x1.toNat []).getD 0 .top)) (1)) (vok (gInt ((x.getD x1.toNat []).getD 0 .top))))) (lrs (Bool.rec [] (lone (gInt ((x.getD x1.toNat []).getD 0 .top)) (1)) (vok (gInt ((x.getD x1.toNat []).getD 0 .top)))))) (0) (N (4294967296) (rv (gStr ((x.getD x1.toNat []).getD 1 .top))))))) (num (4294967296) b0 l1) (N (4294967296) (scC (dl (lvs (Bool.rec [] (lone (gInt ((x.getD x1.toNat []).getD 0 .top)) (1)) (vok (gInt ((x.getD x1.toNat []).getD 0 .top))))) (lrs (Bool.rec [] (lone (gInt ((x.getD x1.toNat []).getD 0 .top)) (1)) (vok (gInt ((x.getD x1.toNat []).getD 0 .top)))))) (0) (N (4294967296) (rv (gStr ((x.getD x1.toNat []).getD 1 .top))))))) x1 (lvs (addL (dl l0 r0) (dl (lvs (scL (dl (lvs (Bool.rec [] (lone (gInt ((x.getD x1.toNat []).getD 0 .top)) (1)) (vok (gInt ((x.getD x1.toNat []).getD 0 .top))))) (lrs (Bool.rec [] (lone (gInt ((x.getD x1.toNat []).getD 0 .top)) (1)) (vok (gInt ((x.getD x1.toNat []).getD 0 .top)))))) (0) (N (4294967296) (rv (gStr ((x.getD x1.toNat []).getD 1 .top)))))) (lrs (scL (dl (lvs (Bool.rec [] (lone (gInt ((x.getD x1.toNat []).getD 0 .top)) (1)) (vok (gInt ((x.getD x1.toNat []).getD 0 .top))))) (lrs (Bool.rec [] (lone (gInt ((x.getD x1.toNat []).getD 0 .top)) (1)) (vok (gInt ((x.getD x1.toNat []).getD 0 .top)))))) (0) (N (4294967296) (rv (gStr ((x.getD x1.toNat []).getD 1 .top))))))) (num (4294967296) b0 l1) (N (4294967296) (scC (dl (lvs (Bool.rec [] (lone (gInt ((x.getD x1.toNat []).getD 0 .top)) (1)) (vok (gInt ((x.getD x1.toNat []).getD 0 .top))))) (lrs (Bool.rec [] (lone (gInt ((x.getD x1.toNat []).getD 0 .top)) (1)) (vok (gInt ((x.getD x1.toNat []).getD 0 .top)))))) (0) (N (4294967296) (rv (gStr ((x.getD x1.toNat []).getD 1 .top)))))))) (lrs (addL (dl l0 r0) (dl (lvs (scL (dl (lvs (Bool.rec [] (lone (gInt ((x.getD x1.toNat []).getD 0 .top)) (1)) (vok (gInt ((x.getD x1.toNat []).getD 0 .top))))) (lrs (Bool.rec [] (lone (gInt ((x.getD x1.toNat []).getD 0 .top)) (1)) (vok (gInt ((x.getD x1.toNat []).getD 0 .top)))))) (0) (N (4294967296) (rv (gStr ((x.getD x1.toNat []).getD 1 .top)))))) (lrs (scL (dl (lvs (Bool.rec [] (lone (gInt ((x.getD x1.toNat []).getD 0 .top)) (1)) (vok (gInt ((x.getD x1.toNat []).getD 0 .top))))) (lrs (Bool.rec [] (lone (gInt ((x.getD x1.toNat []).getD 0 .top)) (1)) (vok (gInt ((x.getD x1.toNat []).getD 0 .top)))))) (0) (N (4294967296) (rv (gStr ((x.getD x1.toNat []).getD 1 .top))))))) (num (4294967296) b0 l1) (N (4294967296) (scC (dl (lvs (Bool.rec [] (lone (gInt ((x.getD x1.toNat []).getD 0 .top)) (1)) (vok (gInt ((x.getD x1.toNat []).getD 0 .top))))) (lrs (Bool.rec [] (lone (gInt ((x.getD x1.toNat []).getD 0 .top)) (1)) (vok (gInt ((x.getD x1.toNat []).getD 0 .top)))))) (0) (N (4294967296) (rv (gStr ((x.getD x1.toNat []).getD 1 .top)))))))) (sg (addC (dl l0 r0) (dl (lvs (scL (dl (lvs (Bool.rec [] (lone (gInt ((x.getD x1.toNat []).getD 0 .top)) (1)) (vok (gInt ((x.getD x1.toNat []).getD 0 .top))))) (lrs (Bool.rec [] (lone (gInt ((x.getD x1.toNat []).getD 0 .top)) (1)) (vok (gInt ((x.getD x1.toNat []).getD 0 .top)))))) (0) (N (4294967296) (rv (gStr ((x.getD x1.toNat []).getD 1 .top)))))) (lrs (scL (dl (lvs (Bool.rec [] (lone (gInt ((x.getD x1.toNat []).getD 0 .top)) (1)) (vok (gInt ((x.getD x1.toNat []).getD 0 .top))))) (lrs (Bool.rec [] (lone (gInt ((x.getD x1.toNat []).getD 0 .top)) (1)) (vok (gInt ((x.getD x1.toNat []).getD 0 .top)))))) (0) (N (4294967296) (rv (gStr ((x.getD x1.toNat []).getD 1 .top))))))) (num (4294967296) b0 l1) (N (4294967296) (scC (dl (lvs (Bool.rec [] (lone (gInt ((x.getD x1.toNat []).getD 0 .top)) (1)) (vok (gInt ((x.getD x1.toNat []).getD 0 .top))))) (lrs (Bool.rec [] (lone (gInt ((x.getD x1.toNat []).getD 0 .top)) (1)) (vok (gInt ((x.getD x1.toNat []).getD 0 .top)))))) (0) (N (4294967296) (rv (gStr ((x.getD x1.toNat []).getD 1 .top)))))))) (lb (4294967296) (addC (dl l0 r0) (dl (lvs (scL (dl (lvs (Bool.rec [] (lone (gInt ((x.getD x1.toNat []).getD 0 .top)) (1)) (vok (gInt ((x.getD x1.toNat []).getD 0 .top))))) (lrs (Bool.rec [] (lone (gInt ((x.getD x1.toNat []).getD 0 .top)) (1)) (vok (gInt ((x.getD x1.toNat []).getD 0 .top)))))) (0) (N (4294967296) (rv (gStr ((x.getD x1.toNat []).getD 1 .top)))))) (lrs (scL (dl (lvs (Bool.rec [] (lone (gInt ((x.getD x1.toNat []).getD 0 .top)) (1)) (vok (gInt ((x.getD x1.toNat []).getD 0 .top))))) (lrs (Bool.rec [] (lone (gInt ((x.getD x1.toNat []).getD 0 .top)) (1)) (vok (gInt ((x.getD x1.toNat []).getD 0 .top)))))) (0) (N (4294967296) (rv (gStr ((x.getD x1.toNat []).getD 1 .top))))))) (num (4294967296) b0 l1) (N (4294967296) (scC (dl (lvs (Bool.rec [] (lone (gInt ((x.getD x1.toNat []).getD 0 .top)) (1)) (vok (gInt ((x.getD x1.toNat []).getD 0 .top))))) (lrs (Bool.rec [] (lone (gInt ((x.getD x1.toNat []).getD 0 .top)) (1)) (vok (gInt ((x.getD x1.toNat []).getD 0 .top)))))) (0) (N (4294967296) (rv (gStr ((x.getD x1.toNat []).getD 1 .top))))))))) else some (.normal, st0 x s (IntKind.i64.wrap (x1 + 1)) (lvs (addL (dl l0 r0) (dl (lvs (scL (dl (lvs (Bool.rec [] (lone (gInt ((x.getD x1.toNat []).getD 0 .top)) (1)) (vok (gInt ((x.getD x1.toNat []).getD 0 .top))))) (lrs (Bool.rec [] (lone (gInt ((x.getD x1.toNat []).getD 0 .top)) (1)) (vok (gInt ((x.getD x1.toNat []).getD 0 .top)))))) (0) (N (4294967296) (rv (gStr ((x.getD x1.toNat []).getD 1 .top)))))) (lrs (scL (dl (lvs (Bool.rec [] (lone (gInt ((x.getD x1.toNat []).getD 0 .top)) (1)) (vok (gInt ((x.getD x1.toNat []).getD 0 .top))))) (lrs (Bool.rec [] (lone (gInt ((x.getD x1.toNat []).getD 0 .top)) (1)) (vok (gInt ((x.getD x1.toNat []).getD 0 .top)))))) (0) (N (4294967296) (rv (gStr ((x.getD x1.toNat []).getD 1 .top))))))) (num (4294967296) b0 l1) (N (4294967296) (scC (dl (lvs (Bool.rec [] (lone (gInt ((x.getD x1.toNat []).getD 0 .top)) (1)) (vok (gInt ((x.getD x1.toNat []).getD 0 .top))))) (lrs (Bool.rec [] (lone (gInt ((x.getD x1.toNat []).getD 0 .top)) (1)) (vok (gInt ((x.getD x1.toNat []).getD 0 .top)))))) (0) (N (4294967296) (rv (gStr ((x.getD x1.toNat []).getD 1 .top)))))))) (lrs (addL (dl l0 r0) (dl (lvs (scL (dl (lvs (Bool.rec [] (lone (gInt ((x.getD x1.toNat []).getD 0 .top)) (1)) (vok (gInt ((x.getD x1.toNat []).getD 0 .top))))) (lrs (Bool.rec [] (lone (gInt ((x.getD x1.toNat []).getD 0 .top)) (1)) (vok (gInt ((x.getD x1.toNat []).getD 0 .top)))))) (0) (N (4294967296) (rv (gStr ((x.getD x1.toNat []).getD 1 .top)))))) (lrs (scL (dl (lvs (Bool.rec [] (lone (gInt ((x.getD x1.toNat []).getD 0 .top)) (1)) (vok (gInt ((x.getD x1.toNat []).getD 0 .top))))) (lrs (Bool.rec [] (lone (gInt ((x.getD x1.toNat []).getD 0 .top)) (1)) (vok (gInt ((x.getD x1.toNat []).getD 0 .top)))))) (0) (N (4294967296) (rv (gStr ((x.getD x1.toNat []).getD 1 .top))))))) (num (4294967296) b0 l1) (N (4294967296) (scC (dl (lvs (Bool.rec [] (lone (gInt ((x.getD x1.toNat []).getD 0 .top)) (1)) (vok (gInt ((x.getD x1.toNat []).getD 0 .top))))) (lrs (Bool.rec [] (lone (gInt ((x.getD x1.toNat []).getD 0 .top)) (1)) (vok (gInt ((x.getD x1.toNat []).getD 0 .top)))))) (0) (N (4294967296) (rv (gStr ((x.getD x1.toNat []).getD 1 .top)))))))) (sg (addC (dl l0 r0) (dl (lvs (scL (dl (lvs (Bool.rec [] (lone (gInt ((x.getD x1.toNat []).getD 0 .top)) (1)) (vok (gInt ((x.getD x1.toNat []).getD 0 .top))))) (lrs (Bool.rec [] (lone (gInt ((x.getD x1.toNat []).getD 0 .top)) (1)) (vok (gInt ((x.getD x1.toNat []).getD 0 .top)))))) (0) (N (4294967296) (rv (gStr ((x.getD x1.toNat []).getD 1 .top)))))) (lrs (scL (dl (lvs (Bool.rec [] (lone (gInt ((x.getD x1.toNat []).getD 0 .top)) (1)) (vok (gInt ((x.getD x1.toNat []).getD 0 .top))))) (lrs (Bool.rec [] (lone (gInt ((x.getD x1.toNat []).getD 0 .top)) (1)) (vok (gInt ((x.getD x1.toNat []).getD 0 .top)))))) (0) (N (4294967296) (rv (gStr ((x.getD x1.toNat []).getD 1 .top))))))) (num (4294967296) b0 l1) (N (4294967296) (scC (dl (lvs (Bool.rec [] (lone (gInt ((x.getD x1.toNat []).getD 0 .top)) (1)) (vok (gInt ((x.getD x1.toNat []).getD 0 .top))))) (lrs (Bool.rec [] (lone (gInt ((x.getD x1.toNat []).getD 0 .top)) (1)) (vok (gInt ((x.getD x1.toNat []).getD 0 .top)))))) (0) (N (4294967296) (rv (gStr ((x.getD x1.toNat []).getD 1 .top)))))))) (lb (4294967296) (addC (dl l0 r0) (dl (lvs (scL (dl (lvs (Bool.rec [] (lone (gInt ((x.getD x1.toNat []).getD 0 .top)) (1)) (vok (gInt ((x.getD x1.toNat []).getD 0 .top))))) (lrs (Bool.rec [] (lone (gInt ((x.getD x1.toNat []).getD 0 .top)) (1)) (vok (gInt ((x.getD x1.toNat []).getD 0 .top)))))) (0) (N (4294967296) (rv (gStr ((x.getD x1.toNat []).getD 1 .top)))))) (lrs (scL (dl (lvs (Bool.rec [] (lone (gInt ((x.getD x1.toNat []).getD 0 .top)) (1)) (vok (gInt ((x.getD x1.toNat []).getD 0 .top))))) (lrs (Bool.rec [] (lone (gInt ((x.getD x1.toNat []).getD 0 .top)) (1)) (vok (gInt ((x.getD x1.toNat []).getD 0 .top)))))) (0) (N (4294967296) (rv (gStr ((x.getD x1.toNat []).getD 1 .top))))))) (num (4294967296) b0 l1) (N (4294967296) (scC (dl (lvs (Bool.rec [] (lone (gInt ((x.getD x1.toNat []).getD 0 .top)) (1)) (vok (gInt ((x.getD x1.toNat []).getD 0 .top))))) (lrs (Bool.rec [] (lone (gInt ((x.getD x1.toNat []).getD 0 .top)) (1)) (vok (gInt ((x.getD x1.toNat []).getD 0 .top)))))) (0) (N (4294967296) (rv (gStr ((x.getD x1.toNat []).getD 1 .top)))))))))) else none) else none)) else none)) else none) else none) else some (.exit 0, st0 x s x1 l0 r0 b0 l1)) := by kernel_rfl
-- loop 0 ends ret st0x0 x s x2 x1 l0 r0 b0 l1
-- loop 0 ends exit0 st0 x s x1 l0 r0 b0 l1
-- loop 0 ends ret st0x1 x s
-- loop 0 ends ret st0x2 x s
-- loop 0 ends exit0 st0e x s
theorem rest_0 (x : List (List AV)) (s : ByteArray) (x3 : Int) (x4 : Int) (l2 : List Int) (r1 : List (List AV)) (b1 : Bool) (l3 : List Int) : runT T orc (tabOf T orc [(8, 60458903645984008203565024201108047226079202216835569304044148288175646339773922611752686, .ret, st0x0 x s x3 x4 l2 r1 b1 l3)]) Try.f15 [.agg [.rows 2 x, .str s]] =
    (bif decide ((↑x.length : Int) > 4096) then some (.val (.tup [.agg [.ints .i64 [], .rows 2 [], .bool false, .ints .u32 [], .bool false, .ints .u32 []], .int .i64 (2)])) else (bif decide (s.size ≤ 10000) then (bif re s != 0 then some (.val (.tup [.agg [.ints .i64 [], .rows 2 [], .bool false, .ints .u32 [], .bool false, .ints .u32 []], .int .i64 (re s)])) else (bif cdec (Ends T orc L0 D0 (st0e x s) .ret (st0x0 x s x3 x4 l2 r1 b1 l3)) then some (.val (.tup [.agg [.ints .i64 [], .rows 2 [], .bool false, .ints .u32 [], .bool false, .ints .u32 []], .int .i64 x3])) else none)) else none)) := by kernel_rfl
theorem rest_1 (x : List (List AV)) (s : ByteArray) (l4 : List Int) (r2 : List (List AV)) (b2 : Bool) (l5 : List Int) (x5 : Int) : runT T orc (tabOf T orc [(8, 60458903645984008203565024201108047226079202216835569304044148288175646339773922611752686, .exit 0, st0 x s x5 l4 r2 b2 l5)]) Try.f15 [.agg [.rows 2 x, .str s]] =
    (bif decide ((↑x.length : Int) > 4096) then some (.val (.tup [.agg [.ints .i64 [], .rows 2 [], .bool false, .ints .u32 [], .bool false, .ints .u32 []], .int .i64 (2)])) else (bif decide (s.size ≤ 10000) then (bif re s != 0 then some (.val (.tup [.agg [.ints .i64 [], .rows 2 [], .bool false, .ints .u32 [], .bool false, .ints .u32 []], .int .i64 (re s)])) else (bif cdec (Ends T orc L0 D0 (st0e x s) (.exit 0) (st0 x s x5 l4 r2 b2 l5)) then some (.val (.tup [.agg [.ints .i64 l4, .rows 2 r2, .bool b2, .ints .u32 l5, .bool (sg (rv s)), .ints .u32 (lb (4294967296) (rv s))], .int .i64 (0)])) else none)) else none)) := by kernel_rfl
theorem rest_2 (x : List (List AV)) (s : ByteArray) : runT T orc (tabOf T orc [(8, 60458903645984008203565024201108047226079202216835569304044148288175646339773922611752686, .ret, st0x1 x s)]) Try.f15 [.agg [.rows 2 x, .str s]] =
    (bif decide ((↑x.length : Int) > 4096) then some (.val (.tup [.agg [.ints .i64 [], .rows 2 [], .bool false, .ints .u32 [], .bool false, .ints .u32 []], .int .i64 (2)])) else (bif decide (s.size ≤ 10000) then (bif re s != 0 then some (.val (.tup [.agg [.ints .i64 [], .rows 2 [], .bool false, .ints .u32 [], .bool false, .ints .u32 []], .int .i64 (re s)])) else (bif cdec (Ends T orc L0 D0 (st0e x s) .ret (st0x1 x s)) then some (.val (.tup [.agg [.ints .i64 [], .rows 2 [], .bool false, .ints .u32 [], .bool false, .ints .u32 []], .int .i64 (vE (gInt ((x.getD 0 []).getD 0 .top)))])) else none)) else none)) := by kernel_rfl
theorem rest_3 (x : List (List AV)) (s : ByteArray) : runT T orc (tabOf T orc [(8, 60458903645984008203565024201108047226079202216835569304044148288175646339773922611752686, .ret, st0x2 x s)]) Try.f15 [.agg [.rows 2 x, .str s]] =
    (bif decide ((↑x.length : Int) > 4096) then some (.val (.tup [.agg [.ints .i64 [], .rows 2 [], .bool false, .ints .u32 [], .bool false, .ints .u32 []], .int .i64 (2)])) else (bif decide (s.size ≤ 10000) then (bif re s != 0 then some (.val (.tup [.agg [.ints .i64 [], .rows 2 [], .bool false, .ints .u32 [], .bool false, .ints .u32 []], .int .i64 (re s)])) else (bif cdec (Ends T orc L0 D0 (st0e x s) .ret (st0x2 x s)) then some (.val (.tup [.agg [.ints .i64 [], .rows 2 [], .bool false, .ints .u32 [], .bool false, .ints .u32 []], .int .i64 (re (gStr ((x.getD 0 []).getD 1 .top)))])) else none)) else none)) := by kernel_rfl
theorem rest_4 (x : List (List AV)) (s : ByteArray) : runT T orc (tabOf T orc [(8, 60458903645984008203565024201108047226079202216835569304044148288175646339773922611752686, .exit 0, st0e x s)]) Try.f15 [.agg [.rows 2 x, .str s]] =
    (bif decide ((↑x.length : Int) > 4096) then some (.val (.tup [.agg [.ints .i64 [], .rows 2 [], .bool false, .ints .u32 [], .bool false, .ints .u32 []], .int .i64 (2)])) else (bif decide (s.size ≤ 10000) then (bif re s != 0 then some (.val (.tup [.agg [.ints .i64 [], .rows 2 [], .bool false, .ints .u32 [], .bool false, .ints .u32 []], .int .i64 (re s)])) else (bif cdec (Ends T orc L0 D0 (st0e x s) (.exit 0) (st0e x s)) then some (.val (.tup [.agg [.ints .i64 [], .rows 2 [], .bool false, .ints .u32 [], .bool (sg (rv s)), .ints .u32 (lb (4294967296) (rv s))], .int .i64 (0)])) else none)) else none)) := by kernel_rfl
end NRead
namespace NTight
abbrev ans : Ans := [(25, ansLCommon), (57, ansCmp), (61, ansFrom), (67, ansDiv), (68, ansLPut)]
abbrev orc : Orc := orcOf ans
noncomputable def L0 : Code := lp Try.f22 0
theorem isL0 : ∃ a, L0 = .loop a := ⟨_, rfl⟩
abbrev D0 : List Nat := [0, 1, 2, 3, 4, 10, 11, 12, 13, 14, 15, 16, 18, 19, 20, 21, 22]
abbrev st0 (vs : List Int) (r : List (List AV)) (b : Bool) (m : List Int) (s : Bool) (l : List Int) (x0 : Int) (l0 : List Int) (r0 : List (List AV)) : St := ⟨.agg [.ints .i64 vs, .rows 2 r, .bool b, .ints .u32 m, .bool s, .ints .u32 l] :: .ptr 1 0 0 :: .ptr 2 0 0 :: .ptr 3 0 0 :: .ptr 4 0 0 :: tops 5 (.ptr 1 0 0 :: .agg [.ints .i64 vs, .rows 2 r, .bool b, .ints .u32 m] :: R (gcdL (dl vs r)) :: R (gcdL (dl vs r)) :: .agg [.bool false, .ints .u32 (lb (4294967296) (1))] :: .int .i64 (cmpZ (N (4294967296) (gcdL (dl vs r))) (num (4294967296) false (lb (4294967296) (1)))) :: .bool (decide (cmpZ (N (4294967296) (gcdL (dl vs r))) (num (4294967296) false (lb (4294967296) (1))) ≤ 0)) :: tops 1 (.ptr 1 0 0 :: .ptr 1 0 0 :: .ints .i64 vs :: .int .i64 (↑vs.length : Int) :: .int .i64 x0 :: tops 31 ([]))), nos 1 (varE [(false, .ints .i64 vs), (false, .rows 2 r), (false, .bool b), (false, .ints .u32 m), (false, .bool s), (false, .ints .u32 l)] :: varE [(true, .ints .i64 []), (true, .rows 2 []), (false, .bool false), (true, .ints .u32 []), (false, .bool false), (true, .ints .u32 [])] :: varE [(false, .bool (sg (gcdL (dl vs r)))), (false, .ints .u32 (lb (4294967296) (gcdL (dl vs r))))] :: varE [(true, .ints .i64 l0), (true, .rows 2 r0), (false, .bool false), (true, .ints .u32 []), (false, .bool false), (true, .ints .u32 [])] :: nos 49 ([]))⟩
theorem round0 (vs : List Int) (r : List (List AV)) (b : Bool) (m : List Int) (s : Bool) (l : List Int) (x0 : Int) (l0 : List Int) (r0 : List (List AV)) : goL T orc (noTab) D0 L0 (st0 vs r b m s l x0 l0 r0) =
    (bif decide (x0 < (↑vs.length : Int)) then (bif inB x0 vs.length then (bif inB x0 r.length then (bif etasOk [.bool false, .ints .u32 []] (r.getD x0.toNat []) then (bif cn (4294967296) (gBool ((r.getD x0.toNat []).getD 0 .top)) (gInts ((r.getD x0.toNat []).getD 1 .top)) && cn (4294967296) (sg (gcdL (dl vs r))) (lb (4294967296) (gcdL (dl vs r))) then (bif cn (4294967296) (sg (dq (num (4294967296) (gBool ((r.getD x0.toNat []).getD 0 .top)) (gInts ((r.getD x0.toNat []).getD 1 .top))) (N (4294967296) (gcdL (dl vs r))))) (lb (4294967296) (dq (num (4294967296) (gBool ((r.getD x0.toNat []).getD 0 .top)) (gInts ((r.getD x0.toNat []).getD 1 .top))) (N (4294967296) (gcdL (dl vs r))))) && decide (l0.length ≤ 100000) && decide (r0.length ≤ 100000) && true && true then some (.normal, st0 vs r b m s l (IntKind.i64.wrap (x0 + 1)) (putV (N (4294967296) (dq (num (4294967296) (gBool ((r.getD x0.toNat []).getD 0 .top)) (gInts ((r.getD x0.toNat []).getD 1 .top))) (N (4294967296) (gcdL (dl vs r))))) l0 (rd vs x0)) (putR (N (4294967296) (dq (num (4294967296) (gBool ((r.getD x0.toNat []).getD 0 .top)) (gInts ((r.getD x0.toNat []).getD 1 .top))) (N (4294967296) (gcdL (dl vs r))))) r0 [.bool (sg (dq (num (4294967296) (gBool ((r.getD x0.toNat []).getD 0 .top)) (gInts ((r.getD x0.toNat []).getD 1 .top))) (N (4294967296) (gcdL (dl vs r))))), .ints .u32 (lb (4294967296) (dq (num (4294967296) (gBool ((r.getD x0.toNat []).getD 0 .top)) (gInts ((r.getD x0.toNat []).getD 1 .top))) (N (4294967296) (gcdL (dl vs r)))))])) else none) else none) else none) else none) else none) else some (.exit 0, st0 vs r b m s l x0 l0 r0)) := by kernel_rfl
-- loop 0 ends exit0 st0 vs r b m s l x0 l0 r0
theorem rest (vs : List Int) (r : List (List AV)) (b : Bool) (m : List Int) (s : Bool) (l : List Int) (l1 : List Int) (r1 : List (List AV)) (x1 : Int) : runT T orc (tabOf T orc [(6, 50023372020407860542733940905981293513040552842377359224063586030, .exit 0, st0 vs r b m s l x1 l1 r1)]) Try.f22 [.agg [.ints .i64 vs, .rows 2 r, .bool b, .ints .u32 m, .bool s, .ints .u32 l]] =
    (bif isl vs r then (bif cn (4294967296) (sg (gcdL (dl vs r))) (lb (4294967296) (gcdL (dl vs r))) && true then (bif decide (cmpZ (N (4294967296) (gcdL (dl vs r))) (num (4294967296) false (lb (4294967296) (1))) ≤ 0) then some (.val (.agg [.ints .i64 vs, .rows 2 r, .bool b, .ints .u32 m, .bool s, .ints .u32 l])) else (bif cdec (Ends T orc L0 D0 (st0 vs r b m s l (0) ([]) ([])) (.exit 0) (st0 vs r b m s l x1 l1 r1)) then (bif cn (4294967296) s l && cn (4294967296) (sg (gcdL (dl vs r))) (lb (4294967296) (gcdL (dl vs r))) then some (.val (.agg [.ints .i64 l1, .rows 2 r1, .bool false, .ints .u32 [], .bool (sg (dq (num (4294967296) s l) (N (4294967296) (gcdL (dl vs r))))), .ints .u32 (lb (4294967296) (dq (num (4294967296) s l) (N (4294967296) (gcdL (dl vs r)))))])) else none) else none)) else none) else none) := by kernel_rfl
end NTight
end
end Go.Abs
end
section
/- What linear's functions answer: a row that is read, a row made tight. -/
namespace Go.Abs
open Go.Proofs Go.Dig
/-- A loop's first round, and what follows. -/
theorem loop_first {T : Tbl} {orc : Orc} {L : Code} {D : List Nat} {S : St} {y : Option (Ex × St)} {tab : Tab} (Q : Ex → St → Prop) (hL : ∃ a, L = .loop a) (ht : ∀ C, TabOk T orc tab C) (h : goL T orc tab D L S = y)
    (hy : Lands y (fun e S' => match e with | .normal => ∃ e S1, Ends T orc L D S' e S1 ∧ Q e S1 | e => Q e S')) : ∃ e S1, Ends T orc L D S e S1 ∧ Q e S1 := by
  obtain ⟨a, rfl⟩ := hL
  obtain ⟨e, S', rfl, h2⟩ := hy
  cases e with
  | normal =>
    obtain ⟨e, S1, h3, h4⟩ := h2
    exact ⟨e, S1, ends_next (ht _) h h3, h4⟩
  | exit i => exact ⟨_, S', ends_exit (ht _) h, h2⟩
  | ret => exact ⟨_, S', ends_ret (ht _) h, h2⟩
theorem cP0 (p : Int × ByteArray) : gInt ((cP p).getD 0 .top) = p.1 := rfl
theorem cP1 (p : Int × ByteArray) : gStr ((cP p).getD 1 .top) = p.2 := rfl
theorem cPeta (p : Int × ByteArray) : etasOk [.int .i64 0, .str { data := #[] }] (cP p) = true := rfl
theorem dl_nil : dl [] [] = [] := dl_map []
theorem isT_nil : isT [] [] false [] = true := isT_row (isl_iff.2 ⟨[], okL_nil, rfl, rfl⟩)
theorem scale_lone (v : Int) {k : Int} (hk : fits k = true) : scE (lone v 1) 0 k = 0 ∧ scL (lone v 1) 0 k = lone v k ∧ scC (lone v 1) 0 k = 0 := by
  have hz : ∀ w, cf (lone v 1) w * k = if (0 ≤ v ∧ v < 4096) ∧ w = v then k else 0 := fun w => by
    rw [cf_lone]; split
    · exact Int.one_mul k
    · exact Int.zero_mul k
  rcases scE_cases (lone v 1) 0 k with ⟨e1, e2, e3, _⟩ | ⟨_, _, _, e4⟩
  · refine ⟨e1, ?_, by rw [e3, Int.zero_mul]⟩
    rw [e2]
    have h1 : okL (lone v k) := okL_lone v hk
    refine (ofF_congr (fun w h1 h2 => ?_)).trans (okL_canon h1).symm
    rw [hz, cf_lone]
  · refine absurd ⟨by rw [Int.zero_mul]; exact fits0, fun w => ?_⟩ e4
    rw [hz]; split
    · exact hk
    · exact fits0
theorem addC_zero (l m : List (Int × Int)) : addC l m 0 0 = 0 := by
  rcases addE_cases l m 0 0 with ⟨_, _, h, _⟩ | ⟨_, _, h, _⟩ <;> rw [h]
  rfl
theorem rdF_drop {ms : List (Int × ByteArray)} {i : Nat} (hi : i < ms.length) (q : List (Int × Int)) : rdF q (ms.drop i) = bif !(vE ms[i].1 == 0) then (vE ms[i].1, []) else bif !(re ms[i].2 == 0) then (re ms[i].2, []) else bif addE q (lone ms[i].1 (rv ms[i].2)) 0 0 == 0 then rdF (addL q (lone ms[i].1 (rv ms[i].2)) 0 0) (ms.drop (i + 1)) else (addE q (lone ms[i].1 (rv ms[i].2)) 0 0, []) := by
  rw [List.drop_eq_getElem_cons hi]; rfl
theorem vE_cases (v : Int) : (vok v = true ∧ vE v = 0) ∨ (vok v = false ∧ vE v = 30) := by
  unfold vE
  cases vok v with
  | true => exact .inl ⟨rfl, rfl⟩
  | false => exact .inr ⟨rfl, rfl⟩
namespace NRead
def Post (ms : List (Int × ByteArray)) (s : ByteArray) (e : Ex) (S1 : St) : Prop :=
  (e = .exit 0 ∧ ∃ q, okL q ∧ rdF [] ms = (0, q) ∧ ((∃ x, S1 = st0 (ms.map cP) s x (lvs q) (lrs q) false []) ∨ (q = [] ∧ S1 = st0e (ms.map cP) s))) ∨
  (e = .ret ∧ ∃ n, n ≠ 0 ∧ rdF [] ms = (n, []) ∧ ((∃ x l r b l', S1 = st0x0 (ms.map cP) s n x l r b l') ∨ (n = vE (gInt (((ms.map cP).getD 0 []).getD 0 .top)) ∧ S1 = st0x1 (ms.map cP) s) ∨ (n = re (gStr (((ms.map cP).getD 0 []).getD 1 .top)) ∧ S1 = st0x2 (ms.map cP) s)))
theorem loop (ms : List (Int × ByteArray)) (s : ByteArray) (hm : ∀ p ∈ ms, p.2.size ≤ 10000) (hlen : ms.length ≤ 4096) (i0 : Nat) (q0 : List (Int × Int)) (h0 : i0 ≤ ms.length) (hq0 : okL q0) (hr0 : rdF q0 (ms.drop i0) = rdF [] ms) : ∃ e S1, Ends T orc L0 D0 (st0 (ms.map cP) s i0 (lvs q0) (lrs q0) false []) e S1 ∧ Post ms s e S1 := by
  refine loop_inv2 (fun (i : Nat) (q : List (Int × Int)) => st0 (ms.map cP) s i (lvs q) (lrs q) false []) (fun i q => i ≤ ms.length ∧ okL q ∧ rdF q (ms.drop i) = rdF [] ms) (fun i q => ms.length - i)
    (Post ms s) isL0 ?_ i0 q0 ⟨h0, hq0, hr0⟩
  intro i q ⟨h1, h2, h3⟩
  refine ⟨noTab, noTab_all, lands_of (round0 ..) ?_⟩
  by_cases hi : i < ms.length
  · have hsz := hm _ (List.getElem_mem hi)
    rw [rdF_drop hi] at h3
    rw [List.length_map, ltN hi, inN hi, getP hi]
    simp only [cP0, cP1, cPeta, cond_true, hsz, decide_true]
    rcases vE_cases ms[i].1 with ⟨v1, v2⟩ | ⟨v1, v2⟩
    · rw [v2] at h3
      rw [v2, v1]
      by_cases he : re ms[i].2 = 0
      · rw [he] at h3
        have hfr := fits_rv ms[i].2
        obtain ⟨s1, s2, s3⟩ := scale_lone ms[i].1 hfr
        rw [he]
        simp only [bne_self_eq_false, cond_true, cond_false, isT_of0 (okL_lone ms[i].1 (show fits 1 = true from by kernel_rfl)), cnW_fits hfr, N_eq, hfr, Bool.and_self, dl_lvs, s1, s2, s3, isT_of0 h2, isT_of (okL_lone ms[i].1 hfr) fits0, num_zero]
        have h3 : (bif addE q (lone ms[i].1 (rv ms[i].2)) 0 0 == 0 then rdF (addL q (lone ms[i].1 (rv ms[i].2)) 0 0) (ms.drop (i + 1)) else (addE q (lone ms[i].1 (rv ms[i].2)) 0 0, [])) = rdF [] ms := h3
        rcases addE_cases q (lone ms[i].1 (rv ms[i].2)) 0 0 with ⟨a1, _⟩ | ⟨a1, _⟩
        · rw [a1] at h3
          rw [a1, addC_zero]
          simp only [bne_self_eq_false, cond_false, wi_succ (show i < 4611686018427387904 by omega), lands_some, Turns2]
          exact ⟨i + 1, addL q (lone ms[i].1 (rv ms[i].2)) 0 0, rfl, ⟨by omega, okL_add _ _ _ _, h3⟩, by omega⟩
        · rw [a1] at h3
          rw [a1]
          simp only [show ((11 : Int) != 0) = true from rfl, cond_true, lands_some, Turns2]
          exact .inr ⟨rfl, 11, by decide, h3.symm, .inl ⟨i, _, _, _, _, rfl⟩⟩
      · rw [show (re ms[i].2 == 0) = false from beq_eq_false_iff_ne.2 he] at h3
        rw [ne_b he]
        simp only [bne_self_eq_false, cond_true, cond_false, lands_some, Turns2]
        exact .inr ⟨rfl, re ms[i].2, he, h3.symm, .inl ⟨i, _, _, _, _, rfl⟩⟩
    · rw [v2] at h3
      rw [v2]
      simp only [show ((30 : Int) != 0) = true from rfl, cond_true, lands_some, Turns2]
      exact .inr ⟨rfl, 30, by decide, h3.symm, .inl ⟨i, _, _, _, _, rfl⟩⟩
  · have hd : ms.drop i = [] := List.drop_of_length_le (by omega)
    rw [hd] at h3
    rw [List.length_map, ltN' hi]
    simp only [cond_false, lands_some, Turns2]
    exact .inl ⟨rfl, q, h2, h3.symm, .inl ⟨i, rfl⟩⟩
theorem first (ms : List (Int × ByteArray)) (s : ByteArray) (hm : ∀ p ∈ ms, p.2.size ≤ 10000) (hlen : ms.length ≤ 4096) : ∃ e S1, Ends T orc L0 D0 (st0e (ms.map cP) s) e S1 ∧ Post ms s e S1 := by
  refine loop_first (Post ms s) isL0 noTab_all (round0e ..) ?_
  by_cases hi : 0 < ms.length
  · have hsz := hm _ (List.getElem_mem hi)
    have h3 : rdF [] ms = _ := rdF_drop hi []
    have hget : (ms.map cP).getD 0 [] = cP ms[0] := getP hi
    rw [List.length_map, show decide ((0 : Int) < (ms.length : Int)) = true from decide_eq_true (by omega), show inB 0 ms.length = true from inN hi, hget]
    simp only [cP0, cP1, cPeta, cond_true, hsz, decide_true]
    rcases vE_cases ms[0].1 with ⟨v1, v2⟩ | ⟨v1, v2⟩
    · rw [v2] at h3
      rw [v2, v1]
      by_cases he : re ms[0].2 = 0
      · rw [he] at h3
        have hfr := fits_rv ms[0].2
        obtain ⟨s1, s2, s3⟩ := scale_lone ms[0].1 hfr
        rw [he]
        simp only [bne_self_eq_false, cond_true, cond_false, isT_of0 (okL_lone ms[0].1 (show fits 1 = true from by kernel_rfl)), cnW_fits hfr, N_eq, hfr, Bool.and_self, dl_lvs, s1, s2, s3, dl_nil, isT_nil, isT_of (okL_lone ms[0].1 hfr) fits0, num_zero]
        have h3 : rdF [] ms = (bif addE [] (lone ms[0].1 (rv ms[0].2)) 0 0 == 0 then rdF (addL [] (lone ms[0].1 (rv ms[0].2)) 0 0) (ms.drop (0 + 1)) else (addE [] (lone ms[0].1 (rv ms[0].2)) 0 0, [])) := h3
        rcases addE_cases [] (lone ms[0].1 (rv ms[0].2)) 0 0 with ⟨a1, _⟩ | ⟨a1, _⟩
        · rw [a1] at h3
          rw [a1, addC_zero]
          simp only [bne_self_eq_false, cond_false, lands_some]
          exact loop ms s hm hlen 1 (addL [] (lone ms[0].1 (rv ms[0].2)) 0 0) hi (okL_add _ _ _ _) h3.symm
        · rw [a1] at h3
          rw [a1]
          simp only [show ((11 : Int) != 0) = true from rfl, cond_true, lands_some]
          exact .inr ⟨rfl, 11, by decide, h3, .inl ⟨0, _, _, _, _, rfl⟩⟩
      · rw [show (re ms[0].2 == 0) = false from beq_eq_false_iff_ne.2 he] at h3
        rw [ne_b he]
        simp only [bne_self_eq_false, cond_true, cond_false, lands_some]
        refine .inr ⟨rfl, re ms[0].2, he, h3, .inr (.inr ⟨?_, rfl⟩)⟩
        rw [hget]
        rfl
    · rw [v2] at h3
      rw [v2]
      simp only [show ((30 : Int) != 0) = true from rfl, cond_true, lands_some]
      refine .inr ⟨rfl, 30, by decide, h3, .inr (.inl ⟨?_, rfl⟩)⟩
      rw [hget]
      exact v2.symm
  · have hd : ms = [] := List.eq_nil_of_length_eq_zero (by omega)
    subst hd
    rw [show decide ((0 : Int) < (([] : List (Int × ByteArray)).map cP).length) = false from rfl]
    simp only [cond_false, lands_some]
    exact .inl ⟨rfl, [], okL_nil, rfl, .inr ⟨rfl, rfl⟩⟩
end NRead
theorem okL_rdF : ∀ (ms : List (Int × ByteArray)) (q : List (Int × Int)), okL q → okL (rdF q ms).2
  | [], q, h => h
  | (v, s) :: r, q, h => by
    show okL (bif !(vE v == 0) then (vE v, []) else bif !(re s == 0) then (re s, []) else bif addE q (lone v (rv s)) 0 0 == 0 then rdF (addL q (lone v (rv s)) 0 0) r else (addE q (lone v (rv s)) 0 0, [])).2
    cases !(vE v == 0) with
    | true => exact okL_nil
    | false =>
      cases !(re s == 0) with
      | true => exact okL_nil
      | false =>
        cases addE q (lone v (rv s)) 0 0 == 0 with
        | true => exact okL_rdF r _ (okL_add _ _ _ _)
        | false => exact okL_nil
theorem okL_rd (ms : List (Int × ByteArray)) (s : ByteArray) : okL (rdL ms s) := by
  rw [rdL_eq]
  cases rdE ms s == 0 with
  | true => exact okL_rdF ms [] okL_nil
  | false => exact okL_nil
/-- What is read, case by case. -/
theorem rd_cases (ms : List (Int × ByteArray)) (s : ByteArray) : (ms.length > 4096 ∧ rdE ms s = 2 ∧ rdL ms s = [] ∧ rdM ms s = 0) ∨ (ms.length ≤ 4096 ∧ re s ≠ 0 ∧ rdE ms s = re s ∧ rdL ms s = [] ∧ rdM ms s = 0) ∨
    (ms.length ≤ 4096 ∧ re s = 0 ∧ rdE ms s = (rdF [] ms).1 ∧ (((rdF [] ms).1 = 0 ∧ rdL ms s = (rdF [] ms).2 ∧ rdM ms s = rv s) ∨ ((rdF [] ms).1 ≠ 0 ∧ rdL ms s = [] ∧ rdM ms s = 0))) := by
  have hE := rdE_eq ms s
  have hL := rdL_eq ms s
  have hM := rdM_eq ms s
  by_cases h1 : ms.length > 4096
  · rw [decide_eq_true h1] at hE
    have hE : rdE ms s = 2 := hE
    rw [hE] at hL hM
    exact .inl ⟨h1, hE, hL, hM⟩
  · rw [decide_eq_false h1, cond_false] at hE
    by_cases h2 : re s = 0
    · rw [h2] at hE
      have hE : rdE ms s = (rdF [] ms).1 := hE
      refine .inr (.inr ⟨by omega, h2, hE, ?_⟩)
      rw [hE] at hL hM
      by_cases h3 : (rdF [] ms).1 = 0
      · rw [h3] at hL hM
        exact .inl ⟨h3, hL, hM⟩
      · rw [show ((rdF [] ms).1 == 0) = false from beq_eq_false_iff_ne.2 h3] at hL hM
        exact .inr ⟨h3, hL, hM⟩
    · have hb : (re s == 0) = false := beq_eq_false_iff_ne.2 h2
      rw [hb] at hE
      have hE : rdE ms s = re s := hE
      rw [hE, hb] at hL hM
      exact .inr (.inl ⟨by omega, h2, hE, hL, hM⟩)
theorem meets_nread (hadd : Meets Try.prog 46 ansLAdd) : Meets Try.prog 15 ansLRead := by
  refine meets_fn (orc_ok (l := NRead.ans) ⟨meets_parse, meets_nvar, meets_nscale, hadd, trivial⟩) Try.f15 Try.func15 (by kernel_rfl) (fun args r h => ?_)
  unfold ansLRead at h
  split at h
  · rename_i x s
    simp only [Option.some.injEq, Prod.mk.injEq, Bool.and_eq_true, Bool.or_eq_true, decide_eq_true_eq] at h
    obtain ⟨⟨⟨h1, h2⟩, h3⟩, rfl⟩ := h
    obtain ⟨ms, _, rfl⟩ := isq_iff.1 h2
    rw [dp_map]
    rw [List.length_map] at h3
    rcases rd_cases ms s with ⟨c1, c2, c3, c4⟩ | ⟨c1, c0, c2, c3, c4⟩ | ⟨c1, c0, c2, c3⟩
    · rw [c2, c3, c4, lvs_nil, lrs_nil]
      refine ⟨rfl, _, tabOf_all _, (NRead.rest_4 (ms.map cP) s).trans (bT ?_)⟩
      rw [List.length_map, decide_eq_true_eq]; omega
    · rw [c2, c3, c4, lvs_nil, lrs_nil]
      refine ⟨rfl, _, tabOf_all _, (NRead.rest_4 (ms.map cP) s).trans ((bF ?_).trans ((bT (decide_eq_true h1)).trans (bT (ne_b c0))))⟩
      rw [List.length_map, decide_eq_false_iff_not]; omega
    · have hg : decide (((ms.map cP).length : Int) > 4096) = false := by rw [List.length_map, decide_eq_false_iff_not]; omega
      have hm : ∀ p ∈ ms, p.2.size ≤ 10000 := by
        rcases h3 with h3 | h3
        · omega
        · obtain ⟨ms', k1, k2⟩ := isp_iff.1 h3
          have : ms = ms' := by rw [← dp_map ms, ← dp_map ms', k2]
          subst this
          exact fun p hp => (k1 p hp).2
      obtain ⟨e1, S1, hE1, hP⟩ := NRead.first ms s hm c1
      rcases hP with ⟨rfl, q, k1, k2, ⟨x, rfl⟩ | ⟨rfl, rfl⟩⟩ | ⟨rfl, n, k1, k2, ⟨x, l, r, b, l', rfl⟩ | ⟨k3, rfl⟩ | ⟨k3, rfl⟩⟩
      · rw [k2] at c2 c3
        rcases c3 with ⟨_, c3, c4⟩ | ⟨c3, _⟩
        · rw [c2, c3, c4]
          exact ⟨rfl, _, tabOf_all _, (NRead.rest_1 (ms.map cP) s (lvs q) (lrs q) false [] x).trans ((bF hg).trans ((bT (decide_eq_true h1)).trans ((bF (eq_b c0)).trans (bT (cdec_true hE1)))))⟩
        · exact absurd rfl c3
      · rw [k2] at c2 c3
        rcases c3 with ⟨_, c3, c4⟩ | ⟨c3, _⟩
        · rw [c2, c3, c4, lvs_nil, lrs_nil]
          exact ⟨rfl, _, tabOf_all _, (NRead.rest_4 (ms.map cP) s).trans ((bF hg).trans ((bT (decide_eq_true h1)).trans ((bF (eq_b c0)).trans (bT (cdec_true hE1)))))⟩
        · exact absurd rfl c3
      · rw [k2] at c2 c3
        rcases c3 with ⟨c3, _⟩ | ⟨_, c3, c4⟩
        · exact absurd c3 k1
        · rw [c2, c3, c4, lvs_nil, lrs_nil]
          exact ⟨rfl, _, tabOf_all _, (NRead.rest_0 (ms.map cP) s n x l r b l').trans ((bF hg).trans ((bT (decide_eq_true h1)).trans ((bF (eq_b c0)).trans (bT (cdec_true hE1)))))⟩
      · rw [k2] at c2 c3
        rcases c3 with ⟨c3, _⟩ | ⟨_, c3, c4⟩
        · exact absurd c3 k1
        · rw [c2, c3, c4, lvs_nil, lrs_nil]
          exact ⟨rfl, _, tabOf_all _, (NRead.rest_2 (ms.map cP) s).trans ((bF hg).trans ((bT (decide_eq_true h1)).trans ((bF (eq_b c0)).trans ((bT (cdec_true hE1)).trans (by rw [k3]; rfl)))))⟩
      · rw [k2] at c2 c3
        rcases c3 with ⟨c3, _⟩ | ⟨_, c3, c4⟩
        · exact absurd c3 k1
        · rw [c2, c3, c4, lvs_nil, lrs_nil]
          exact ⟨rfl, _, tabOf_all _, (NRead.rest_3 (ms.map cP) s).trans ((bF hg).trans ((bT (decide_eq_true h1)).trans ((bF (eq_b c0)).trans ((bT (cdec_true hE1)).trans (by rw [k3]; rfl)))))⟩
  · cases h
theorem dq_zero (g : Int) : dq 0 g = 0 := by unfold dq; split <;> simp
theorem fits_dqz {x y : Int} (h : fits x = true) : fits (dq x y) = true := by
  unfold dq
  split
  · exact fits0
  · rename_i h0
    refine fits_le h ?_
    rcases Int.lt_trichotomy y 0 with hy | hy | hy
    · rw [show x.fdiv y = (-x).fdiv (-y) from (Int.neg_fdiv_neg x y).symm, Int.fdiv_eq_ediv_of_nonneg _ (by omega)]
      have := Int.natAbs_ediv_le_natAbs (-x) (-y)
      omega
    · exact absurd hy h0
    · rw [Int.fdiv_eq_ediv_of_nonneg _ (by omega)]
      exact Int.natAbs_ediv_le_natAbs x y
theorem okL_ti {l : List (Int × Int)} (h : okL l) : okL (tiL l) := by
  rw [tiL_eq]
  cases decide (gcdL l ≤ 1) with
  | true => exact h
  | false =>
    rw [cond_false]
    exact okL_ofF (fun v _ _ => fits_dqz (okL_cf h v))
namespace NTight
theorem loop (l : List (Int × Int)) (b : Bool) (m : List Int) (s : Bool) (ll : List Int) (hl : okL l) : ∃ e S1, Ends T orc L0 D0 (st0 (l.map (fun p => p.1)) (l.map cL) b m s ll 0 [] []) e S1 ∧ e = .exit 0 ∧ ∃ x, S1 = st0 (l.map (fun p => p.1)) (l.map cL) b m s ll x ((ofF (fun v => dq (cf l v) (gcdL l))).map (fun p => p.1)) ((ofF (fun v => dq (cf l v) (gcdL l))).map cL) := by
  have g0 : ∀ w : Int, dq 0 (gcdL l) = 0 := fun w => dq_zero _
  have hz := map_step0 (g := fun _ z => dq z (gcdL l)) g0 l
  have key : ∃ e S1, Ends T orc L0 D0 (st0 (l.map (fun p => p.1)) (l.map cL) b m s ll ((0 : Nat) : Int) ((ofF (fun v => dq (cf (l.take 0) v) (gcdL l))).map (fun p => p.1)) ((ofF (fun v => dq (cf (l.take 0) v) (gcdL l))).map cL)) e S1 ∧ e = .exit 0 ∧ ∃ x, S1 = st0 (l.map (fun p => p.1)) (l.map cL) b m s ll x ((ofF (fun v => dq (cf l v) (gcdL l))).map (fun p => p.1)) ((ofF (fun v => dq (cf l v) (gcdL l))).map cL) := by
    refine loop_inv1 (fun (i : Nat) => st0 (l.map (fun p => p.1)) (l.map cL) b m s ll i ((ofF (fun v => dq (cf (l.take i) v) (gcdL l))).map (fun p => p.1)) ((ofF (fun v => dq (cf (l.take i) v) (gcdL l))).map cL)) (fun i => i ≤ l.length) (fun i => l.length - i)
      (fun e S1 => e = .exit 0 ∧ ∃ x, S1 = st0 (l.map (fun p => p.1)) (l.map cL) b m s ll x ((ofF (fun v => dq (cf l v) (gcdL l))).map (fun p => p.1)) ((ofF (fun v => dq (cf l v) (gcdL l))).map cL)) isL0 ?_ 0 (Nat.zero_le _)
    intro i h1
    have hlen := okL_len hl
    refine ⟨noTab, noTab_all, lands_of (round0 ..) ?_⟩
    by_cases hi : i < l.length
    · have hf := okL_mem hl (List.getElem_mem hi)
      have hs := map_step (okL_asc hl) (okL_in hl) (g := fun _ z => dq z (gcdL l)) g0 hi
      have ho := ofF_len (fun v => dq (cf (l.take i) v) (gcdL l))
      have hd := fits_dqz (y := gcdL l) hf
      rw [List.length_map, List.length_map, ltN hi, inN hi, getL hi, rdV hi, dl_map]
      simp only [cL0, cL1, cLeta, cnW_fits hf, num_lbW, N_eq, cnW_fits (gcdL_fits hl), cnW_fits hd, cond_true, Bool.true_and, Bool.and_true, List.length_map]
      rw [decide_eq_true (show (ofF (fun v => dq (cf (l.take i) v) (gcdL l))).length ≤ 100000 by omega), putV_map, putR_map, hs]
      simp only [cond_true, Bool.and_self, wi_succ (show i < 4611686018427387904 by omega), lands_some, Turns1]
      exact ⟨i + 1, rfl, by omega, by omega⟩
    · rw [List.length_map, ltN' hi]
      simp only [cond_false, lands_some, Turns1]
      have hil : l.take i = l := List.take_of_length_le (by omega)
      rw [hil]
      exact ⟨trivial, i, rfl⟩
  rw [hz] at key
  exact key
end NTight
theorem meets_ntight : Meets Try.prog 22 ansLTight := by
  refine meets_fn (orc_ok (l := NTight.ans) ⟨meets_ncommon, meets_cmp, meets_from, meets_div, meets_lput, trivial⟩) Try.f22 Try.func22 (by kernel_rfl) (fun args r h => ?_)
  unfold ansLTight at h
  split at h
  · rename_i vs r b m s ll
    simp only [Option.some.injEq, Prod.mk.injEq, Bool.and_eq_true, Bool.not_eq_true'] at h
    obtain ⟨⟨⟨⟨⟨h1, rfl⟩, h3⟩, h4⟩, h5⟩, rfl⟩ := h
    obtain rfl := isEmpty_nil h3
    obtain ⟨c, rfl, rfl, _⟩ := (cn_iff W_two).1 h4
    rw [num_lbW] at h5
    obtain ⟨l, k1, rfl, rfl⟩ := isl_iff.1 h1
    obtain ⟨e1, S1, hE1, rfl, x, rfl⟩ := NTight.loop l false [] (sg c) (lb 4294967296 c) k1
    refine ⟨rfl, _, tabOf_all _, (NTight.rest _ _ _ _ _ _ ((ofF (fun v => dq (cf l v) (gcdL l))).map (fun p => p.1)) ((ofF (fun v => dq (cf l v) (gcdL l))).map cL) x).trans ?_⟩
    have hL := tiL_eq l
    have hM := tiM_eq l c
    rw [h1, dl_map, cnW_fits (gcdL_fits k1), N_eq, num_lbW, cmp_le, show num 4294967296 false (lb 4294967296 1) = 1 from num_lbW 1, h4, cdec_true hE1]
    cases hb : decide (gcdL l ≤ 1) with
    | true =>
      rw [hb, cond_true] at hL hM
      rw [hL, hM, lvs_eq l, lrs_eq l]
      rfl
    | false =>
      rw [hb, cond_false] at hL hM
      rw [hL, hM, lvs_eq, lrs_eq]
      rfl
  · cases h
end Go.Abs
end
section
/- What the reference of linear answers: multiples, values, texts. -/
namespace Go.Abs
open Go.Proofs Go.Dig
abbrev cX (z : Int) : List AV := [.bool (sg z), .ints .i64 (lb 10 z)]
end Go.Abs
end
section
/- What the reference of linear answers: rows that are read, compared, made tight, turned about; the term of a list of parts. -/
namespace Go.Abs
open Go.Proofs Go.Dig
theorem plP0 (p : Int × ByteArray) : gInt ((List.take 1 (List.drop 0 (cP p))).getD 0 .top) = p.1 := rfl
theorem plP0e (p : Int × ByteArray) : etaOk (.int .i64 0) ((List.take 1 (List.drop 0 (cP p))).getD 0 .top) = true := rfl
theorem plP1 (p : Int × ByteArray) : gStr ((List.take 1 (List.drop 1 (cP p))).getD 0 .top) = p.2 := rfl
theorem plP1e (p : Int × ByteArray) : etaOk (.str { data := #[] }) ((List.take 1 (List.drop 1 (cP p))).getD 0 .top) = true := rfl
theorem placeP1 (p : Int × ByteArray) : Nat.ble 1 (cP p).length = true := rfl
theorem placeP2 (p : Int × ByteArray) : Nat.ble 2 (cP p).length = true := rfl
theorem add_lone {q : List (Int × Int)} (hq : okL q) {v c : Int} (hv : 0 ≤ v ∧ v < 4096) (hc : fits c = true) : (fits (cf q v + c) = true → addE q (lone v c) 0 0 = 0 ∧ addL q (lone v c) 0 0 = wiL q v c) ∧ (fits (cf q v + c) = false → addE q (lone v c) 0 0 = 11) := by
  have hz : ∀ w, cf q w + cf (lone v c) w = if w = v then cf q v + c else cf q w := fun w => by
    rw [cf_lone]
    by_cases hw : w = v
    · rw [if_pos ⟨hv, hw⟩, if_pos hw, hw]
    · rw [if_neg (fun hh => hw hh.2), if_neg hw, Int.add_zero]
  constructor
  · intro hf
    rcases addE_cases q (lone v c) 0 0 with ⟨e1, e2, _⟩ | ⟨_, _, _, e4⟩
    · refine ⟨e1, ?_⟩
      rw [e2, wiL_eq]
      refine ofF_congr (fun w _ _ => ?_)
      rw [hz]
      by_cases hw : w = v
      · rw [decide_eq_true hw, if_pos hw, hw]; rfl
      · rw [decide_eq_false hw, if_neg hw]; rfl
    · refine absurd ⟨fits0, fun w => ?_⟩ e4
      rw [hz]; split
      · exact hf
      · exact okL_cf hq w
  · intro hf
    rcases addE_cases q (lone v c) 0 0 with ⟨_, _, _, _, e5⟩ | ⟨e1, _⟩
    · have := e5 v
      rw [hz, if_pos rfl, hf] at this
      cases this
    · exact e1
/-- The term of a list of parts, part by part. -/
theorem suF_drop {ms : List (Int × ByteArray)} {i : Nat} (hi : i < ms.length) (q : List (Int × Int)) (c : Int) : suF q c (ms.drop i) = bif !(re ms[i].2 == 0) then (re ms[i].2, q, c) else
      bif decide (0 ≤ ms[i].1) then (bif addE q (lone ms[i].1 (rv ms[i].2)) c 0 == 0 then suF (addL q (lone ms[i].1 (rv ms[i].2)) c 0) (addC q (lone ms[i].1 (rv ms[i].2)) c 0) (ms.drop (i + 1)) else (addE q (lone ms[i].1 (rv ms[i].2)) c 0, [], 0))
      else (bif addE q [] c (rv ms[i].2) == 0 then suF (addL q [] c (rv ms[i].2)) (addC q [] c (rv ms[i].2)) (ms.drop (i + 1)) else (addE q [] c (rv ms[i].2), [], 0)) := by
  rw [List.drop_eq_getElem_cons hi]; rfl
theorem suF_cons (v : Int) (s : ByteArray) (r : List (Int × ByteArray)) (q : List (Int × Int)) (c : Int) : suF q c ((v, s) :: r) = bif !(re s == 0) then (re s, q, c) else
      bif decide (0 ≤ v) then (bif addE q (lone v (rv s)) c 0 == 0 then suF (addL q (lone v (rv s)) c 0) (addC q (lone v (rv s)) c 0) r else (addE q (lone v (rv s)) c 0, [], 0))
      else (bif addE q [] c (rv s) == 0 then suF (addL q [] c (rv s)) (addC q [] c (rv s)) r else (addE q [] c (rv s), [], 0)) := rfl
def okP (x : Int × List (Int × Int) × Int) : Prop := okL x.2.1 ∧ fits x.2.2 = true
theorem okP_bif {b : Bool} {x y : Int × List (Int × Int) × Int} (hx : okP x) (hy : okP y) : okP (bif b then x else y) := by
  cases b
  · exact hy
  · exact hx
theorem okP_nil (n : Int) : okP (n, [], 0) := ⟨okL_nil, fits0⟩
theorem okP_suF (ms : List (Int × ByteArray)) : ∀ (q : List (Int × Int)) (c : Int), okL q → fits c = true → okP (suF q c ms) := by
  induction ms with
  | nil => exact fun q c h k => show okP (0, q, c) from And.intro h k
  | cons p r ih =>
    obtain ⟨v, s⟩ := p
    intro q c h k
    rw [suF_cons]
    exact okP_bif (And.intro h k) (okP_bif (okP_bif (ih _ _ (okL_add _ _ _ _) (fits_addC _ _ _ _)) (okP_nil _)) (okP_bif (ih _ _ (okL_add _ _ _ _) (fits_addC _ _ _ _)) (okP_nil _)))
theorem okL_suF (ms : List (Int × ByteArray)) (q : List (Int × Int)) (c : Int) (h : okL q) (k : fits c = true) : okL (suF q c ms).2.1 ∧ fits (suF q c ms).2.2 = true := okP_suF ms q c h k
theorem okL_te (ms : List (Int × ByteArray)) : okL (teL ms) := by rw [teL_eq]; exact (okL_suF ms [] 0 okL_nil fits0).1
theorem fits_te (ms : List (Int × ByteArray)) : fits (teC ms) = true := by rw [teC_eq]; exact (okL_suF ms [] 0 okL_nil fits0).2
end Go.Abs
end
section
/- States and rounds of the functions of linear and of its reference, as a program of this session printed them. -/
set_option maxRecDepth 10000
namespace Go.Abs
open Go.Proofs Go.Dig
noncomputable section
namespace NAdd
abbrev ans : Ans := [(56, ansAdd), (68, ansLPut)]
abbrev orc : Orc := orcOf ans
noncomputable def L0 : Code := lp Try.f46 0
theorem isL0 : ∃ a, L0 = .loop a := ⟨_, rfl⟩
abbrev D0 : List Nat := [0, 1, 2, 3, 4, 5, 6, 7, 8, 9, 10, 13, 14, 15, 16, 17, 18, 19, 20, 21, 22, 25, 26]
abbrev st0 (vs : List Int) (r : List (List AV)) (b : Bool) (m : List Int) (vsz : List Int) (rz : List (List AV)) (bz : Bool) (mz : List Int) (x0 : Int) (x1 : Int) (l0 : List Int) (r0 : List (List AV)) : St := ⟨.agg [.ints .i64 vs, .rows 2 r, .bool b, .ints .u32 m] :: .agg [.ints .i64 vsz, .rows 2 rz, .bool bz, .ints .u32 mz] :: .ptr 2 0 0 :: .ptr 3 0 0 :: .ptr 4 0 0 :: .int .i64 (0) :: .ptr 6 0 0 :: .int .i64 (he (num (4294967296) b m + num (4294967296) bz mz)) :: .ptr 8 0 0 :: .int .i64 x0 :: .int .i64 x1 :: tops 2 (.tup [R (hz (num (4294967296) b m + num (4294967296) bz mz)), .int .i64 (he (num (4294967296) b m + num (4294967296) bz mz))] :: .ptr 2 0 2 :: .agg [.bool b, .ints .u32 m] :: .ptr 3 0 2 :: .agg [.bool bz, .ints .u32 mz] :: .tup [R (hz (num (4294967296) b m + num (4294967296) bz mz)), .int .i64 (he (num (4294967296) b m + num (4294967296) bz mz))] :: R (hz (num (4294967296) b m + num (4294967296) bz mz)) :: .int .i64 (he (num (4294967296) b m + num (4294967296) bz mz)) :: .int .i64 (he (num (4294967296) b m + num (4294967296) bz mz)) :: .bool (he (num (4294967296) b m + num (4294967296) bz mz) != 0) :: tops 2 (R (hz (num (4294967296) b m + num (4294967296) bz mz)) :: .agg [.nil, .nil, .bool (sg (hz (num (4294967296) b m + num (4294967296) bz mz))), .ints .u32 (lb (4294967296) (hz (num (4294967296) b m + num (4294967296) bz mz)))] :: tops 113 ([]))), nos 2 (varE [(false, .ints .i64 vs), (false, .rows 2 r), (false, .bool b), (false, .ints .u32 m)] :: varE [(false, .ints .i64 vsz), (false, .rows 2 rz), (false, .bool bz), (false, .ints .u32 mz)] :: varE [(true, .ints .i64 []), (true, .rows 2 []), (false, .bool false), (true, .ints .u32 [])] :: nos 1 (varE [(false, .bool (sg (hz (num (4294967296) b m + num (4294967296) bz mz)))), (false, .ints .u32 (lb (4294967296) (hz (num (4294967296) b m + num (4294967296) bz mz))))] :: nos 1 (varE [(true, .ints .i64 l0), (true, .rows 2 r0), (false, .bool (sg (hz (num (4294967296) b m + num (4294967296) bz mz)))), (false, .ints .u32 (lb (4294967296) (hz (num (4294967296) b m + num (4294967296) bz mz))))] :: nos 131 ([]))))⟩
abbrev st0x0 (vs : List Int) (r : List (List AV)) (b : Bool) (m : List Int) (vsz : List Int) (rz : List (List AV)) (bz : Bool) (mz : List Int) (x2 : Int) (x0 : Int) (x1 : Int) (l0 : List Int) (r0 : List (List AV)) : St := ⟨.agg [.ints .i64 vs, .rows 2 r, .bool b, .ints .u32 m] :: .agg [.ints .i64 vsz, .rows 2 rz, .bool bz, .ints .u32 mz] :: .ptr 2 0 0 :: .ptr 3 0 0 :: .ptr 4 0 0 :: .int .i64 x2 :: .ptr 6 0 0 :: .int .i64 (he (num (4294967296) b m + num (4294967296) bz mz)) :: .ptr 8 0 0 :: .int .i64 x0 :: .int .i64 x1 :: tops 2 (.tup [R (hz (num (4294967296) b m + num (4294967296) bz mz)), .int .i64 (he (num (4294967296) b m + num (4294967296) bz mz))] :: .ptr 2 0 2 :: .agg [.bool b, .ints .u32 m] :: .ptr 3 0 2 :: .agg [.bool bz, .ints .u32 mz] :: .tup [R (hz (num (4294967296) b m + num (4294967296) bz mz)), .int .i64 (he (num (4294967296) b m + num (4294967296) bz mz))] :: R (hz (num (4294967296) b m + num (4294967296) bz mz)) :: .int .i64 (he (num (4294967296) b m + num (4294967296) bz mz)) :: .int .i64 (he (num (4294967296) b m + num (4294967296) bz mz)) :: .bool (he (num (4294967296) b m + num (4294967296) bz mz) != 0) :: tops 2 (R (hz (num (4294967296) b m + num (4294967296) bz mz)) :: .agg [.nil, .nil, .bool (sg (hz (num (4294967296) b m + num (4294967296) bz mz))), .ints .u32 (lb (4294967296) (hz (num (4294967296) b m + num (4294967296) bz mz)))] :: tops 113 ([]))), nos 2 (varE [(false, .ints .i64 vs), (false, .rows 2 r), (false, .bool b), (false, .ints .u32 m)] :: varE [(false, .ints .i64 vsz), (false, .rows 2 rz), (false, .bool bz), (false, .ints .u32 mz)] :: varE [(true, .ints .i64 []), (true, .rows 2 []), (false, .bool false), (true, .ints .u32 [])] :: nos 1 (varE [(false, .bool (sg (hz (num (4294967296) b m + num (4294967296) bz mz)))), (false, .ints .u32 (lb (4294967296) (hz (num (4294967296) b m + num (4294967296) bz mz))))] :: nos 1 (varE [(true, .ints .i64 l0), (true, .rows 2 r0), (false, .bool (sg (hz (num (4294967296) b m + num (4294967296) bz mz)))), (false, .ints .u32 (lb (4294967296) (hz (num (4294967296) b m + num (4294967296) bz mz))))] :: nos 131 ([]))))⟩
theorem round0 (vs : List Int) (r : List (List AV)) (b : Bool) (m : List Int) (vsz : List Int) (rz : List (List AV)) (bz : Bool) (mz : List Int) (x0 : Int) (x1 : Int) (l0 : List Int) (r0 : List (List AV)) : goL T orc (noTab) D0 L0 (st0 vs r b m vsz rz bz mz x0 x1 l0 r0) =
    (bif decide (x0 < (↑vs.length : Int)) then (bif x1 == (↑vsz.length : Int) then (bif inB x0 vs.length then (bif inB x0 r.length then (bif etasOk [.bool false, .ints .u32 []] (r.getD x0.toNat []) then (bif cn (4294967296) (gBool ((r.getD x0.toNat []).getD 0 .top)) (gInts ((r.getD x0.toNat []).getD 1 .top)) && decide (l0.length ≤ 100000) && decide (r0.length ≤ 100000) && true && true then some (.normal, st0 vs r b m vsz rz bz mz (IntKind.i64.wrap (x0 + 1)) x1 (putV (num (4294967296) (gBool ((r.getD x0.toNat []).getD 0 .top)) (gInts ((r.getD x0.toNat []).getD 1 .top))) l0 (rd vs x0)) (putR (num (4294967296) (gBool ((r.getD x0.toNat []).getD 0 .top)) (gInts ((r.getD x0.toNat []).getD 1 .top))) r0 [.bool (gBool ((r.getD x0.toNat []).getD 0 .top)), .ints .u32 (gInts ((r.getD x0.toNat []).getD 1 .top))])) else none) else none) else none) else none) else (bif decide (x0 < (↑vs.length : Int)) then (bif inB x0 vs.length then (bif inB x1 vsz.length then (bif decide (rd vs x0 < rd vsz x1) then (bif inB x0 vs.length then (bif inB x0 r.length then (bif etasOk [.bool false, .ints .u32 []] (r.getD x0.toNat []) then (bif cn (4294967296) (gBool ((r.getD x0.toNat []).getD 0 .top)) (gInts ((r.getD x0.toNat []).getD 1 .top)) && decide (l0.length ≤ 100000) && decide (r0.length ≤ 100000) && true && true then some (.normal, st0 vs r b m vsz rz bz mz (IntKind.i64.wrap (x0 + 1)) x1 (putV (num (4294967296) (gBool ((r.getD x0.toNat []).getD 0 .top)) (gInts ((r.getD x0.toNat []).getD 1 .top))) l0 (rd vs x0)) (putR (num (4294967296) (gBool ((r.getD x0.toNat []).getD 0 .top)) (gInts ((r.getD x0.toNat []).getD 1 .top))) r0 [.bool (gBool ((r.getD x0.toNat []).getD 0 .top)), .ints .u32 (gInts ((r.getD x0.toNat []).getD 1 .top))])) else none) else none) else none) else none) else (bif x0 == (↑vs.length : Int) then (bif inB x1 vsz.length then (bif inB x1 rz.length then (bif etasOk [.bool false, .ints .u32 []] (rz.getD x1.toNat []) then (bif cn (4294967296) (gBool ((rz.getD x1.toNat []).getD 0 .top)) (gInts ((rz.getD x1.toNat []).getD 1 .top)) && decide (l0.length ≤ 100000) && decide (r0.length ≤ 100000) && true && true then some (.normal, st0 vs r b m vsz rz bz mz x0 (IntKind.i64.wrap (x1 + 1)) (putV (num (4294967296) (gBool ((rz.getD x1.toNat []).getD 0 .top)) (gInts ((rz.getD x1.toNat []).getD 1 .top))) l0 (rd vsz x1)) (putR (num (4294967296) (gBool ((rz.getD x1.toNat []).getD 0 .top)) (gInts ((rz.getD x1.toNat []).getD 1 .top))) r0 [.bool (gBool ((rz.getD x1.toNat []).getD 0 .top)), .ints .u32 (gInts ((rz.getD x1.toNat []).getD 1 .top))])) else none) else none) else none) else none) else (bif inB x1 vsz.length then (bif inB x0 vs.length then (bif decide (rd vsz x1 < rd vs x0) then (bif inB x1 vsz.length then (bif inB x1 rz.length then (bif etasOk [.bool false, .ints .u32 []] (rz.getD x1.toNat []) then (bif cn (4294967296) (gBool ((rz.getD x1.toNat []).getD 0 .top)) (gInts ((rz.getD x1.toNat []).getD 1 .top)) && decide (l0.length ≤ 100000) && decide (r0.length ≤ 100000) && true && true then some (.normal, st0 vs r b m vsz rz bz mz x0 (IntKind.i64.wrap (x1 + 1)) (putV (num (4294967296) (gBool ((rz.getD x1.toNat []).getD 0 .top)) (gInts ((rz.getD x1.toNat []).getD 1 .top))) l0 (rd vsz x1)) (putR (num (4294967296) (gBool ((rz.getD x1.toNat []).getD 0 .top)) (gInts ((rz.getD x1.toNat []).getD 1 .top))) r0 [.bool (gBool ((rz.getD x1.toNat []).getD 0 .top)), .ints .u32 (gInts ((rz.getD x1.toNat []).getD 1 .top))])) else none) else none) else none) else none) else (bif inB x0 r.length then (bif etasOk [.bool false, .ints .u32 []] (r.getD x0.toNat []) then (bif inB x1 rz.length then (bif etasOk [.bool false, .ints .u32 []] (rz.getD x1.toNat []) then (bif cn (4294967296) (gBool ((r.getD x0.toNat []).getD 0 .top)) (gInts ((r.getD x0.toNat []).getD 1 .top)) && cn (4294967296) (gBool ((rz.getD x1.toNat []).getD 0 .top)) (gInts ((rz.getD x1.toNat []).getD 1 .top)) && fits (num (4294967296) (gBool ((r.getD x0.toNat []).getD 0 .top)) (gInts ((r.getD x0.toNat []).getD 1 .top))) && fits (num (4294967296) (gBool ((rz.getD x1.toNat []).getD 0 .top)) (gInts ((rz.getD x1.toNat []).getD 1 .top))) then (bif he (num (4294967296) (gBool ((r.getD x0.toNat []).getD 0 .top)) (gInts ((r.getD x0.toNat []).getD 1 .top)) + num (4294967296) (gBool ((rz.getD x1.toNat []).getD 0 .top)) (gInts ((rz.getD x1.toNat []).getD 1 .top))) != 0 then some (.ret, st0x0 vs r b m vsz rz bz mz (he (num (4294967296) (gBool ((r.getD x0.toNat []).getD 0 .top)) (gInts ((r.getD x0.toNat []).getD 1 .top)) + num (4294967296) (gBool ((rz.getD x1.toNat []).getD 0 .top)) (gInts ((rz.getD x1.toNat []).getD 1 .top)))) x0 x1 l0 r0) else (bif inB x0 vs.length then (bif cn (4294967296) (sg (hz (num (4294967296) (gBool ((r.getD x0.toNat []).getD 0 .top)) (gInts ((r.getD x0.toNat []).getD 1 .top)) + num (4294967296) (gBool ((rz.getD x1.toNat []).getD 0 .top)) (gInts ((rz.getD x1.toNat []).getD 1 .top))))) (lb (4294967296) (hz (num (4294967296) (gBool ((r.getD x0.toNat []).getD 0 .top)) (gInts ((r.getD x0.toNat []).getD 1 .top)) + num (4294967296) (gBool ((rz.getD x1.toNat []).getD 0 .top)) (gInts ((rz.getD x1.toNat []).getD 1 .top))))) && decide (l0.length ≤ 100000) && decide (r0.length ≤ 100000) && true && true then some (.normal, st0 vs r b m vsz rz bz mz (IntKind.i64.wrap (x0 + 1)) (IntKind.i64.wrap (x1 + 1)) (putV (N (4294967296) (hz (num (4294967296) (gBool ((r.getD x0.toNat []).getD 0 .top)) (gInts ((r.getD x0.toNat []).getD 1 .top)) + num (4294967296) (gBool ((rz.getD x1.toNat []).getD 0 .top)) (gInts ((rz.getD x1.toNat []).getD 1 .top))))) l0 (rd vs x0)) (putR (N (4294967296) (hz (num (4294967296) (gBool ((r.getD x0.toNat []).getD 0 .top)) (gInts ((r.getD x0.toNat []).getD 1 .top)) + num (4294967296) (gBool ((rz.getD x1.toNat []).getD 0 .top)) (gInts ((rz.getD x1.toNat []).getD 1 .top))))) r0 [.bool (sg (hz (num (4294967296) (gBool ((r.getD x0.toNat []).getD 0 .top)) (gInts ((r.getD x0.toNat []).getD 1 .top)) + num (4294967296) (gBool ((rz.getD x1.toNat []).getD 0 .top)) (gInts ((rz.getD x1.toNat []).getD 1 .top))))), .ints .u32 (lb (4294967296) (hz (num (4294967296) (gBool ((r.getD x0.toNat []).getD 0 .top)) (gInts ((r.getD x0.toNat []).getD 1 .top)) + num (4294967296) (gBool ((rz.getD x1.toNat []).getD 0 .top)) (gInts ((rz.getD x1.toNat []).getD 1 .top)))))])) else none) else none)) else none) else none) else none) else none) else none)) else none) else none))) else none) else none) else (bif x0 == (↑vs.length : Int) then (bif inB x1 vsz.length then (bif inB x1 rz.length then (bif etasOk [.bool false, .ints .u32 []] (rz.getD x1.toNat []) then (bif cn (4294967296) (gBool ((rz.getD x1.toNat []).getD 0 .top)) (gInts ((rz.getD x1.toNat []).getD 1 .top)) && decide (l0.length ≤ 100000) && decide (r0.length ≤ 100000) && true && true then some (.normal, st0 vs r b m vsz rz bz mz x0 (IntKind.i64.wrap (x1 + 1)) (putV (num (4294967296) (gBool ((rz.getD x1.toNat []).getD 0 .top)) (gInts ((rz.getD x1.toNat []).getD 1 .top))) l0 (rd vsz x1)) (putR (num (4294967296) (gBool ((rz.getD x1.toNat []).getD 0 .top)) (gInts ((rz.getD x1.toNat []).getD 1 .top))) r0 [.bool (gBool ((rz.getD x1.toNat []).getD 0 .top)), .ints .u32 (gInts ((rz.getD x1.toNat []).getD 1 .top))])) else none) else none) else none) else none) else (bif inB x1 vsz.length then (bif inB x0 vs.length then (bif decide (rd vsz x1 < rd vs x0) then (bif inB x1 vsz.length then (bif inB x1 rz.length then (bif etasOk [.bool false, .ints .u32 []] (rz.getD x1.toNat []) then (bif cn (4294967296) (gBool ((rz.getD x1.toNat []).getD 0 .top)) (gInts ((rz.getD x1.toNat []).getD 1 .top)) && decide (l0.length ≤ 100000) && decide (r0.length ≤ 100000) && true && true then some (.normal, st0 vs r b m vsz rz bz mz x0 (IntKind.i64.wrap (x1 + 1)) (putV (num (4294967296) (gBool ((rz.getD x1.toNat []).getD 0 .top)) (gInts ((rz.getD x1.toNat []).getD 1 .top))) l0 (rd vsz x1)) (putR (num (4294967296) (gBool ((rz.getD x1.toNat []).getD 0 .top)) (gInts ((rz.getD x1.toNat []).getD 1 .top))) r0 [.bool (gBool ((rz.getD x1.toNat []).getD 0 .top)), .ints .u32 (gInts ((rz.getD x1.toNat []).getD 1 .top))])) else none) else none) else none) else none) else (bif inB x0 r.length then (bif etasOk [.bool false, .ints .u32 []] (r.getD x0.toNat []) then (bif inB x1 rz.length then (bif etasOk [.bool false, .ints .u32 []] (rz.getD x1.toNat []) then (bif cn (4294967296) (gBool ((r.getD x0.toNat []).getD 0 .top)) (gInts ((r.getD x0.toNat []).getD 1 .top)) && cn (4294967296) (gBool ((rz.getD x1.toNat []).getD 0 .top)) (gInts ((rz.getD x1.toNat []).getD 1 .top)) && fits (num (4294967296) (gBool ((r.getD x0.toNat []).getD 0 .top)) (gInts ((r.getD x0.toNat []).getD 1 .top))) && fits (num (4294967296) (gBool ((rz.getD x1.toNat []).getD 0 .top)) (gInts ((rz.getD x1.toNat []).getD 1 .top))) then (bif he (num (4294967296) (gBool ((r.getD x0.toNat []).getD 0 .top)) (gInts ((r.getD x0.toNat []).getD 1 .top)) + num (4294967296) (gBool ((rz.getD x1.toNat []).getD 0 .top)) (gInts ((rz.getD x1.toNat []).getD 1 .top))) != 0 then some (.ret, st0x0 vs r b m vsz rz bz mz (he (num (4294967296) (gBool ((r.getD x0.toNat []).getD 0 .top)) (gInts ((r.getD x0.toNat []).getD 1 .top)) + num (4294967296) (gBool ((rz.getD x1.toNat []).getD 0 .top)) (gInts ((rz.getD x1.toNat []).getD 1 .top)))) x0 x1 l0 r0) else (bif inB x0 vs.length then (bif cn (4294967296) (sg (hz (num (4294967296) (gBool ((r.getD x0.toNat []).getD 0 .top)) (gInts ((r.getD x0.toNat []).getD 1 .top)) + num (4294967296) (gBool ((rz.getD x1.toNat []).getD 0 .top)) (gInts ((rz.getD x1.toNat []).getD 1 .top))))) (lb (4294967296) (hz (num (4294967296) (gBool ((r.getD x0.toNat []).getD 0 .top)) (gInts ((r.getD x0.toNat []).getD 1 .top)) + num (4294967296) (gBool ((rz.getD x1.toNat []).getD 0 .top)) (gInts ((rz.getD x1.toNat []).getD 1 .top))))) && decide (l0.length ≤ 100000) && decide (r0.length ≤ 100000) && true && true then some (.normal, st0 vs r b m vsz rz bz mz (IntKind.i64.wrap (x0 + 1)) (IntKind.i64.wrap (x1 + 1)) (putV (N (4294967296) (hz (num (4294967296) (gBool ((r.getD x0.toNat []).getD 0 .top)) (gInts ((r.getD x0.toNat []).getD 1 .top)) + num (4294967296) (gBool ((rz.getD x1.toNat []).getD 0 .top)) (gInts ((rz.getD x1.toNat []).getD 1 .top))))) l0 (rd vs x0)) (putR (N (4294967296) (hz (num (4294967296) (gBool ((r.getD x0.toNat []).getD 0 .top)) (gInts ((r.getD x0.toNat []).getD 1 .top)) + num (4294967296) (gBool ((rz.getD x1.toNat []).getD 0 .top)) (gInts ((rz.getD x1.toNat []).getD 1 .top))))) r0 [.bool (sg (hz (num (4294967296) (gBool ((r.getD x0.toNat []).getD 0 .top)) (gInts ((r.getD x0.toNat []).getD 1 .top)) + num (4294967296) (gBool ((rz.getD x1.toNat []).getD 0 .top)) (gInts ((rz.getD x1.toNat []).getD 1 .top))))), .ints .u32 (lb (4294967296) (hz (num (4294967296) (gBool ((r.getD x0.toNat []).getD 0 .top)) (gInts ((r.getD x0.toNat []).getD 1 .top)) + num (4294967296) (gBool ((rz.getD x1.toNat []).getD 0 .top)) (gInts ((rz.getD x1.toNat []).getD 1 .top)))))])) else none) else none)) else none) else none) else none) else none) else none)) else none) else none)))) else (bif decide (x1 < (↑vsz.length : Int)) then (bif x1 == (↑vsz.length : Int) then (bif inB x0 vs.length then (bif inB x0 r.length then (bif etasOk [.bool false, .ints .u32 []] (r.getD x0.toNat []) then (bif cn (4294967296) (gBool ((r.getD x0.toNat []).getD 0 .top)) (gInts ((r.getD x0.toNat []).getD 1 .top)) && decide (l0.length ≤ 100000) && decide (r0.length ≤ 100000) && true && true then some (.normal, st0 vs r b m vsz rz bz mz (IntKind.i64.wrap (x0 + 1)) x1 (putV (num (4294967296) (gBool ((r.getD x0.toNat []).getD 0 .top)) (gInts ((r.getD x0.toNat []).getD 1 .top))) l0 (rd vs x0)) (putR (num (4294967296) (gBool ((r.getD x0.toNat []).getD 0 .top)) (gInts ((r.getD x0.toNat []).getD 1 .top))) r0 [.bool (gBool ((r.getD x0.toNat []).getD 0 .top)), .ints .u32 (gInts ((r.getD x0.toNat []).getD 1 .top))])) else none) else none) else none) else none) else (bif decide (x0 < (↑vs.length : Int)) then (bif inB x0 vs.length then (bif inB x1 vsz.length then (bif decide (rd vs x0 < rd vsz x1) then (bif inB x0 vs.length then (bif inB x0 r.length then (bif etasOk [.bool false, .ints .u32 []] (r.getD x0.toNat []) then (bif cn (4294967296) (gBool ((r.getD x0.toNat []).getD 0 .top)) (gInts ((r.getD x0.toNat []).getD 1 .top)) && decide (l0.length ≤ 100000) && decide (r0.length ≤ 100000) && true && true then some (.normal, st0 vs r b m vsz rz bz mz (IntKind.i64.wrap (x0 + 1)) x1 (putV (num (4294967296) (gBool ((r.getD x0.toNat []).getD 0 .top)) (gInts ((r.getD x0.toNat []).getD 1 .top))) l0 (rd vs x0)) (putR (num (4294967296) (gBool ((r.getD x0.toNat []).getD 0 .top)) (gInts ((r.getD x0.toNat []).getD 1 .top))) r0 [.bool (gBool ((r.getD x0.toNat []).getD 0 .top)), .ints .u32 (gInts ((r.getD x0.toNat []).getD 1 .top))])) else none) else none) else none) else none) else (bif x0 == (↑vs.length : Int) then (bif inB x1 vsz.length then (bif inB x1 rz.length then (bif etasOk [.bool false, .ints .u32 []] (rz.getD x1.toNat []) then (bif cn (4294967296) (gBool ((rz.getD x1.toNat []).getD 0 .top)) (gInts ((rz.getD x1.toNat []).getD 1 .top)) && decide (l0.length ≤ 100000) && decide (r0.length ≤ 100000) && true && true then some (.normal, st0 vs r b m vsz rz bz mz x0 (IntKind.i64.wrap (x1 + 1)) (putV (num (4294967296) (gBool ((rz.getD x1.toNat []).getD 0 .top)) (gInts ((rz.getD x1.toNat []).getD 1 .top))) l0 (rd vsz x1)) (putR (num (4294967296) (gBool ((rz.getD x1.toNat []).getD 0 .top)) (gInts ((rz.getD x1.toNat []).getD 1 .top))) r0 [.bool (gBool ((rz.getD x1.toNat []).getD 0 .top)), .ints .u32 (gInts ((rz.getD x1.toNat []).getD 1 .top))])) else none) else none) else none) else none) else (bif inB x1 vsz.length then (bif inB x0 vs.length then (bif decide (rd vsz x1 < rd vs x0) then (bif inB x1 vsz.length then (bif inB x1 rz.length then (bif etasOk [.bool false, .ints .u32 []] (rz.getD x1.toNat []) then (bif cn (4294967296) (gBool ((rz.getD x1.toNat []).getD 0 .top)) (gInts ((rz.getD x1.toNat []).getD 1 .top)) && decide (l0.length ≤ 100000) && decide (r0.length ≤ 100000) && true && true then some (.normal, st0 vs r b m vsz rz bz mz x0 (IntKind.i64.wrap (x1 + 1)) (putV (num (4294967296) (gBool ((rz.getD x1.toNat []).getD 0 .top)) (gInts ((rz.getD x1.toNat []).getD 1 .top))) l0 (rd vsz x1)) (putR (num (4294967296) (gBool ((rz.getD x1.toNat []).getD 0 .top)) (gInts ((rz.getD x1.toNat []).getD 1 .top))) r0 [.bool (gBool ((rz.getD x1.toNat []).getD 0 .top)), .ints .u32 (gInts ((rz.getD x1.toNat []).getD 1 .top))])) else none) else none) else none) else none) else (bif inB x0 r.length then (bif etasOk [.bool false, .ints .u32 []] (r.getD x0.toNat []) then (bif inB x1 rz.length then (bif etasOk [.bool false, .ints .u32 []] (rz.getD x1.toNat []) then (bif cn (4294967296) (gBool ((r.getD x0.toNat []).getD 0 .top)) (gInts ((r.getD x0.toNat []).getD 1 .top)) && cn (4294967296) (gBool ((rz.getD x1.toNat []).getD 0 .top)) (gInts ((rz.getD x1.toNat []).getD 1 .top)) && fits (num (4294967296) (gBool ((r.getD x0.toNat []).getD 0 .top)) (gInts ((r.getD x0.toNat []).getD 1 .top))) && fits (num (4294967296) (gBool ((rz.getD x1.toNat []).getD 0 .top)) (gInts ((rz.getD x1.toNat []).getD 1 .top))) then (bif he (num (4294967296) (gBool ((r.getD x0.toNat []).getD 0 .top)) (gInts ((r.getD x0.toNat []).getD 1 .top)) + num (4294967296) (gBool ((rz.getD x1.toNat []).getD 0 .top)) (gInts ((rz.getD x1.toNat []).getD 1 .top))) != 0 then some (.ret, st0x0 vs r b m vsz rz bz mz (he (num (4294967296) (gBool ((r.getD x0.toNat []).getD 0 .top)) (gInts ((r.getD x0.toNat []).getD 1 .top)) + num (4294967296) (gBool ((rz.getD x1.toNat []).getD 0 .top)) (gInts ((rz.getD x1.toNat []).getD 1 .top)))) x0 x1 l0 r0) else (bif inB x0 vs.length then (bif cn (4294967296) (sg (hz (num (4294967296) (gBool ((r.getD x0.toNat []).getD 0 .top)) (gInts ((r.getD x0.toNat []).getD 1 .top)) + num (4294967296) (gBool ((rz.getD x1.toNat []).getD 0 .top)) (gInts ((rz.getD x1.toNat []).getD 1 .top))))) (lb (4294967296) (hz (num (4294967296) (gBool ((r.getD x0.toNat []).getD 0 .top)) (gInts ((r.getD x0.toNat []).getD 1 .top)) + num (4294967296) (gBool ((rz.getD x1.toNat []).getD 0 .top)) (gInts ((rz.getD x1.toNat []).getD 1 .top))))) && decide (l0.length ≤ 100000) && decide (r0.length ≤ 100000) && true && true then some (.normal, st0 vs r b m vsz rz bz mz (IntKind.i64.wrap (x0 + 1)) (IntKind.i64.wrap (x1 + 1)) (putV (N (4294967296) (hz (num (4294967296) (gBool ((r.getD x0.toNat []).getD 0 .top)) (gInts ((r.getD x0.toNat []).getD 1 .top)) + num (4294967296) (gBool ((rz.getD x1.toNat []).getD 0 .top)) (gInts ((rz.getD x1.toNat []).getD 1 .top))))) l0 (rd vs x0)) (putR (N (4294967296) (hz (num (4294967296) (gBool ((r.getD x0.toNat []).getD 0 .top)) (gInts ((r.getD x0.toNat []).getD 1 .top)) + num (4294967296) (gBool ((rz.getD x1.toNat []).getD 0 .top)) (gInts ((rz.getD x1.toNat []).getD 1 .top))))) r0 [.bool (sg (hz (num (4294967296) (gBool ((r.getD x0.toNat []).getD 0 .top)) (gInts ((r.getD x0.toNat []).getD 1 .top)) + num (4294967296) (gBool ((rz.getD x1.toNat []).getD 0 .top)) (gInts ((rz.getD x1.toNat []).getD 1 .top))))), .ints .u32 (lb (4294967296) (hz (num (4294967296) (gBool ((r.getD x0.toNat []).getD 0 .top)) (gInts ((r.getD x0.toNat []).getD 1 .top)) + num (4294967296) (gBool ((rz.getD x1.toNat []).getD 0 .top)) (gInts ((rz.getD x1.toNat []).getD 1 .top)))))])) else none) else none)) else none) else none) else none) else none) else none)) else none) else none))) else none) else none) else (bif x0 == (↑vs.length : Int) then (bif inB x1 vsz.length then (bif inB x1 rz.length then (bif etasOk [.bool false, .ints .u32 []] (rz.getD x1.toNat []) then (bif cn (4294967296) (gBool ((rz.getD x1.toNat []).getD 0 .top)) (gInts ((rz.getD x1.toNat []).getD 1 .top)) && decide (l0.length ≤ 100000) && decide (r0.length ≤ 100000) && true && true then some (.normal, st0 vs r b m vsz rz bz mz x0 (IntKind.i64.wrap (x1 + 1)) (putV (num (4294967296) (gBool ((rz.getD x1.toNat []).getD 0 .top)) (gInts ((rz.getD x1.toNat []).getD 1 .top))) l0 (rd vsz x1)) (putR (num (4294967296) (gBool ((rz.getD x1.toNat []).getD 0 .top)) (gInts ((rz.getD x1.toNat []).getD 1 .top))) r0 [.bool (gBool ((rz.getD x1.toNat []).getD 0 .top)), .ints .u32 (gInts ((rz.getD x1.toNat []).getD 1 .top))])) else none) else none) else none) else none) else (bif inB x1 vsz.length then (bif inB x0 vs.length then (bif decide (rd vsz x1 < rd vs x0) then (bif inB x1 vsz.length then (bif inB x1 rz.length then (bif etasOk [.bool false, .ints .u32 []] (rz.getD x1.toNat []) then (bif cn (4294967296) (gBool ((rz.getD x1.toNat []).getD 0 .top)) (gInts ((rz.getD x1.toNat []).getD 1 .top)) && decide (l0.length ≤ 100000) && decide (r0.length ≤ 100000) && true && true then some (.normal, st0 vs r b m vsz rz bz mz x0 (IntKind.i64.wrap (x1 + 1)) (putV (num (4294967296) (gBool ((rz.getD x1.toNat []).getD 0 .top)) (gInts ((rz.getD x1.toNat []).getD 1 .top))) l0 (rd vsz x1)) (putR (num (4294967296) (gBool ((rz.getD x1.toNat []).getD 0 .top)) (gInts ((rz.getD x1.toNat []).getD 1 .top))) r0 [.bool (gBool ((rz.getD x1.toNat []).getD 0 .top)), .ints .u32 (gInts ((rz.getD x1.toNat []).getD 1 .top))])) else none) else none) else none) else none) else (bif inB x0 r.length then (bif etasOk [.bool false, .ints .u32 []] (r.getD x0.toNat []) then (bif inB x1 rz.length then (bif etasOk [.bool false, .ints .u32 []] (rz.getD x1.toNat []) then (bif cn (4294967296) (gBool ((r.getD x0.toNat []).getD 0 .top)) (gInts ((r.getD x0.toNat []).getD 1 .top)) && cn (4294967296) (gBool ((rz.getD x1.toNat []).getD 0 .top)) (gInts ((rz.getD x1.toNat []).getD 1 .top)) && fits (num (4294967296) (gBool ((r.getD x0.toNat []).getD 0 .top)) (gInts ((r.getD x0.toNat []).getD 1 .top))) && fits (num (4294967296) (gBool ((rz.getD x1.toNat []).getD 0 .top)) (gInts ((rz.getD x1.toNat []).getD 1 .top))) then (bif he (num (4294967296) (gBool ((r.getD x0.toNat []).getD 0 .top)) (gInts ((r.getD x0.toNat []).getD 1 .top)) + num (4294967296) (gBool ((rz.getD x1.toNat []).getD 0 .top)) (gInts ((rz.getD x1.toNat []).getD 1 .top))) != 0 then some (.ret, st0x0 vs r b m vsz rz bz mz (he (num (4294967296) (gBool ((r.getD x0.toNat []).getD 0 .top)) (gInts ((r.getD x0.toNat []).getD 1 .top)) + num (4294967296) (gBool ((rz.getD x1.toNat []).getD 0 .top)) (gInts ((rz.getD x1.toNat []).getD 1 .top)))) x0 x1 l0 r0) else (bif inB x0 vs.length then (bif cn (4294967296) (sg (hz (num (4294967296) (gBool ((r.getD x0.toNat []).getD 0 .top)) (gInts ((r.getD x0.toNat []).getD 1 .top)) + num (4294967296) (gBool ((rz.getD x1.toNat []).getD 0 .top)) (gInts ((rz.getD x1.toNat []).getD 1 .top))))) (lb (4294967296) (hz (num (4294967296) (gBool ((r.getD x0.toNat []).getD 0 .top)) (gInts ((r.getD x0.toNat []).getD 1 .top)) + num (4294967296) (gBool ((rz.getD x1.toNat []).getD 0 .top)) (gInts ((rz.getD x1.toNat []).getD 1 .top))))) && decide (l0.length ≤ 100000) && decide (r0.length ≤ 100000) && true && true then some (.normal, st0 vs r b m vsz rz bz mz (IntKind.i64.wrap (x0 + 1)) (IntKind.i64.wrap (x1 + 1)) (putV (N (4294967296) (hz (num (4294967296) (gBool ((r.getD x0.toNat []).getD 0 .top)) (gInts ((r.getD x0.toNat []).getD 1 .top)) + num (4294967296) (gBool ((rz.getD x1.toNat []).getD 0 .top)) (gInts ((rz.getD x1.toNat []).getD 1 .top))))) l0 (rd vs x0)) (putR (N (4294967296) (hz (num (4294967296) (gBool ((r.getD x0.toNat []).getD 0 .top)) (gInts ((r.getD x0.toNat []).getD 1 .top)) + num (4294967296) (gBool ((rz.getD x1.toNat []).getD 0 .top)) (gInts ((rz.getD x1.toNat []).getD 1 .top))))) r0 [.bool (sg (hz (num (4294967296) (gBool ((r.getD x0.toNat []).getD 0 .top)) (gInts ((r.getD x0.toNat []).getD 1 .top)) + num (4294967296) (gBool ((rz.getD x1.toNat []).getD 0 .top)) (gInts ((rz.getD x1.toNat []).getD 1 .top))))), .ints .u32 (lb (4294967296) (hz (num (4294967296) (gBool ((r.getD x0.toNat []).getD 0 .top)) (gInts ((r.getD x0.toNat []).getD 1 .top)) + num (4294967296) (gBool ((rz.getD x1.toNat []).getD 0 .top)) (gInts ((rz.getD x1.toNat []).getD 1 .top)))))])) else none) else none)) else none) else none) else none) else none) else none)) else none) else none)))) else some (.exit 0, st0 vs r b m vsz rz bz mz x0 x1 l0 r0))) := by kernel_rfl
-- loop 0 ends ret st0x0 vs r b m vsz rz bz mz x2 x0 x1 l0 r0
-- loop 0 ends exit0 st0 vs r b m vsz rz bz mz x0 x1 l0 r0
theorem rest_0 (vs : List Int) (r : List (List AV)) (b : Bool) (m : List Int) (vsz : List Int) (rz : List (List AV)) (bz : Bool) (mz : List Int) (x3 : Int) (x4 : Int) (x5 : Int) (l1 : List Int) (r1 : List (List AV)) : runT T orc (tabOf T orc [(6, 1763146263722139015387046794638778454507682840383767806305557027341505186273382073010780345587440650389762056797356181821709806360394890272848033735547697980202627821294, .ret, st0x0 vs r b m vsz rz bz mz x3 x4 x5 l1 r1)]) Try.f46 [.agg [.ints .i64 vs, .rows 2 r, .bool b, .ints .u32 m], .agg [.ints .i64 vsz, .rows 2 rz, .bool bz, .ints .u32 mz]] =
    (bif cn (4294967296) b m && cn (4294967296) bz mz && fits (num (4294967296) b m) && fits (num (4294967296) bz mz) then (bif he (num (4294967296) b m + num (4294967296) bz mz) != 0 then some (.val (.tup [.agg [.ints .i64 [], .rows 2 [], .bool false, .ints .u32 []], .int .i64 (he (num (4294967296) b m + num (4294967296) bz mz))])) else (bif cdec (Ends T orc L0 D0 (st0 vs r b m vsz rz bz mz (0) (0) ([]) ([])) .ret (st0x0 vs r b m vsz rz bz mz x3 x4 x5 l1 r1)) then some (.val (.tup [.agg [.ints .i64 [], .rows 2 [], .bool false, .ints .u32 []], .int .i64 x3])) else none)) else none) := by kernel_rfl
theorem rest_1 (vs : List Int) (r : List (List AV)) (b : Bool) (m : List Int) (vsz : List Int) (rz : List (List AV)) (bz : Bool) (mz : List Int) (l2 : List Int) (r2 : List (List AV)) (x6 : Int) (x7 : Int) : runT T orc (tabOf T orc [(6, 1763146263722139015387046794638778454507682840383767806305557027341505186273382073010780345587440650389762056797356181821709806360394890272848033735547697980202627821294, .exit 0, st0 vs r b m vsz rz bz mz x6 x7 l2 r2)]) Try.f46 [.agg [.ints .i64 vs, .rows 2 r, .bool b, .ints .u32 m], .agg [.ints .i64 vsz, .rows 2 rz, .bool bz, .ints .u32 mz]] =
    (bif cn (4294967296) b m && cn (4294967296) bz mz && fits (num (4294967296) b m) && fits (num (4294967296) bz mz) then (bif he (num (4294967296) b m + num (4294967296) bz mz) != 0 then some (.val (.tup [.agg [.ints .i64 [], .rows 2 [], .bool false, .ints .u32 []], .int .i64 (he (num (4294967296) b m + num (4294967296) bz mz))])) else (bif cdec (Ends T orc L0 D0 (st0 vs r b m vsz rz bz mz (0) (0) ([]) ([])) (.exit 0) (st0 vs r b m vsz rz bz mz x6 x7 l2 r2)) then some (.val (.tup [.agg [.ints .i64 l2, .rows 2 r2, .bool (sg (hz (num (4294967296) b m + num (4294967296) bz mz))), .ints .u32 (lb (4294967296) (hz (num (4294967296) b m + num (4294967296) bz mz)))], .int .i64 (0)])) else none)) else none) := by kernel_rfl
end NAdd
end
end Go.Abs
end
section
/- What linear's functions answer: the sum of two terms. -/
namespace Go.Abs
open Go.Proofs Go.Dig
theorem beqN {i n : Nat} (h : i < n) : ((i : Int) == (n : Int)) = false := beq_eq_false_iff_ne.2 (by omega)
theorem beqNN {i n : Nat} (h : i = n) : ((i : Int) == (n : Int)) = true := beq_iff_eq.2 (by omega)
namespace NAdd
/-- The sum of two lists' first parts. -/
noncomputable abbrev sofar (l m : List (Int × Int)) (i k : Nat) : List (Int × Int) := ofF (fun v => cf (l.take i) v + cf (m.take k) v)
theorem sofar_comm (l m : List (Int × Int)) (i k : Nat) : sofar l m i k = sofar m l k i := ofF_congr (fun v _ _ => Int.add_comm _ _)
structure Inv (l m : List (Int × Int)) (i k : Nat) : Prop where
  li : i ≤ l.length
  lk : k ≤ m.length
  a : ∀ p ∈ m.take k, ∀ h : i < l.length, p.1 < l[i].1
  b : ∀ p ∈ l.take i, ∀ h : k < m.length, p.1 < m[k].1
  f : ∀ v, fits (cf (l.take i) v + cf (m.take k) v) = true
theorem Inv.symm {l m : List (Int × Int)} {i k : Nat} (h : Inv l m i k) : Inv m l k i := ⟨h.lk, h.li, h.b, h.a, fun v => by rw [Int.add_comm]; exact h.f v⟩
theorem take_mem {l : List (Int × Int)} {i : Nat} (hi : i < l.length) {p : Int × Int} (h : p ∈ l.take (i + 1)) : p ∈ l.take i ∨ p = l[i] := by
  rw [List.take_add_one, List.getElem?_eq_getElem hi] at h
  rcases List.mem_append.1 h with h | h
  · exact .inl h
  · exact .inr (List.mem_singleton.1 h)
theorem left {l m : List (Int × Int)} (hl : okL l) (hm : okL m) {i k : Nat} (h : Inv l m i k) (hi : i < l.length) (hk : ∀ h : k < m.length, l[i].1 < m[k].1) : putL l[i].2 (sofar l m i k) l[i].1 = sofar l m (i + 1) k ∧ Inv l m (i + 1) k := by
  have h0 : ∀ w, l[i].1 ≤ w → cf (m.take k) w = 0 := fun w hw => cf_none (fun p hp hpv => by have := h.a p hp hi; omega)
  refine ⟨putL_snoc (okL_in hl _ (List.getElem_mem hi)) (fun w h1 h2 => ?_) (fun w h1 h2 => ?_), ⟨hi, h.lk, fun p hp h2 => ?_, fun p hp h2 => ?_, fun v => ?_⟩⟩
  · rw [cf_take_ge (okL_asc hl) hi h1, h0 w h1]; rfl
  · rw [cf_take_succ (okL_asc hl) hi]
    by_cases hw : w = l[i].1
    · rw [if_pos hw, if_pos hw, h0 w (by omega), Int.add_zero]
    · rw [if_neg hw, if_neg hw]
  · have := h.a p hp hi
    have := List.pairwise_iff_getElem.1 (okL_asc hl) i (i + 1) hi h2 (by omega)
    omega
  · rcases take_mem hi hp with hp | rfl
    · exact h.b p hp h2
    · exact hk h2
  · rw [cf_take_succ (okL_asc hl) hi]
    by_cases hw : v = l[i].1
    · rw [if_pos hw, h0 v (by omega), Int.add_zero]
      exact okL_mem hl (List.getElem_mem hi)
    · rw [if_neg hw]; exact h.f v
theorem right {l m : List (Int × Int)} (hl : okL l) (hm : okL m) {i k : Nat} (h : Inv l m i k) (hk : k < m.length) (hi : ∀ h : i < l.length, m[k].1 < l[i].1) : putL m[k].2 (sofar l m i k) m[k].1 = sofar l m i (k + 1) ∧ Inv l m i (k + 1) := by
  obtain ⟨h1, h2⟩ := left hm hl h.symm hk hi
  rw [sofar_comm l m, sofar_comm l m]
  exact ⟨h1, h2.symm⟩
theorem both {l m : List (Int × Int)} (hl : okL l) (hm : okL m) {i k : Nat} (h : Inv l m i k) (hi : i < l.length) (hk : k < m.length) (he : l[i].1 = m[k].1) (hf : fits (l[i].2 + m[k].2) = true) : putL (l[i].2 + m[k].2) (sofar l m i k) l[i].1 = sofar l m (i + 1) (k + 1) ∧ Inv l m (i + 1) (k + 1) := by
  have h0 : ∀ w, l[i].1 ≤ w → cf (m.take k) w = 0 := fun w hw => cf_none (fun p hp hpv => by have := h.a p hp hi; omega)
  have hA : ∀ v, cf (l.take (i + 1)) v + cf (m.take (k + 1)) v = if v = l[i].1 then l[i].2 + m[k].2 else cf (l.take i) v + cf (m.take k) v := fun v => by
    rw [cf_take_succ (okL_asc hl) hi, cf_take_succ (okL_asc hm) hk]
    by_cases hw : v = l[i].1
    · rw [if_pos hw, if_pos (by omega), if_pos hw]
    · rw [if_neg hw, if_neg (by omega), if_neg hw]
  refine ⟨putL_snoc (okL_in hl _ (List.getElem_mem hi)) (fun w h1 h2 => ?_) (fun w h1 h2 => hA w), ⟨hi, hk, fun p hp h2 => ?_, fun p hp h2 => ?_, fun v => ?_⟩⟩
  · rw [cf_take_ge (okL_asc hl) hi h1, h0 w h1]; rfl
  · have h3 := List.pairwise_iff_getElem.1 (okL_asc hl) i (i + 1) hi h2 (by omega)
    rcases take_mem hk hp with hp | rfl
    · have := h.a p hp hi; omega
    · omega
  · have h3 := List.pairwise_iff_getElem.1 (okL_asc hm) k (k + 1) hk h2 (by omega)
    rcases take_mem hi hp with hp | rfl
    · have := h.b p hp hk; omega
    · omega
  · rw [hA]
    split
    · exact hf
    · exact h.f v
def Post (l m : List (Int × Int)) (b : Bool) (bl : List Int) (bz : Bool) (mz : List Int) (e : Ex) (S1 : St) : Prop :=
  (e = .exit 0 ∧ (∀ v, fits (cf l v + cf m v) = true) ∧ ∃ x y, S1 = st0 (l.map (fun p => p.1)) (l.map cL) b bl (m.map (fun p => p.1)) (m.map cL) bz mz x y ((ofF (fun v => cf l v + cf m v)).map (fun p => p.1)) ((ofF (fun v => cf l v + cf m v)).map cL)) ∨
  (e = .ret ∧ (¬ ∀ v, fits (cf l v + cf m v) = true) ∧ ∃ x y l' r', S1 = st0x0 (l.map (fun p => p.1)) (l.map cL) b bl (m.map (fun p => p.1)) (m.map cL) bz mz 11 x y l' r')
theorem loop (l m : List (Int × Int)) (b : Bool) (bl : List Int) (bz : Bool) (mz : List Int) (hl : okL l) (hm : okL m) : ∃ e S1, Ends T orc L0 D0 (st0 (l.map (fun p => p.1)) (l.map cL) b bl (m.map (fun p => p.1)) (m.map cL) bz mz 0 0 [] []) e S1 ∧ Post l m b bl bz mz e S1 := by
  have hz : sofar l m 0 0 = [] := by
    refine (ofF_congr (fun v _ _ => ?_)).trans ofF_zero
    rw [List.take_zero, List.take_zero]; rfl
  have key : ∃ e S1, Ends T orc L0 D0 (st0 (l.map (fun p => p.1)) (l.map cL) b bl (m.map (fun p => p.1)) (m.map cL) bz mz ((0 : Nat) : Int) ((0 : Nat) : Int) ((sofar l m 0 0).map (fun p => p.1)) ((sofar l m 0 0).map cL)) e S1 ∧ Post l m b bl bz mz e S1 := by
    refine loop_inv2 (fun (i k : Nat) => st0 (l.map (fun p => p.1)) (l.map cL) b bl (m.map (fun p => p.1)) (m.map cL) bz mz i k ((sofar l m i k).map (fun p => p.1)) ((sofar l m i k).map cL)) (fun i k => Inv l m i k) (fun i k => (l.length - i) + (m.length - k)) (Post l m b bl bz mz) isL0 ?_ 0 0
      ⟨Nat.zero_le _, Nat.zero_le _, fun p hp => (by rw [List.take_zero] at hp; cases hp), fun p hp => (by rw [List.take_zero] at hp; cases hp), fun v => by rw [List.take_zero, List.take_zero]; exact fits0⟩
    intro i k h
    have hll := okL_len hl
    have hml := okL_len hm
    have hik := h.li
    have hkk := h.lk
    have ho : (sofar l m i k).length ≤ 4096 := ofF_len _
    have hd : decide ((sofar l m i k).length ≤ 100000) = true := decide_eq_true (by omega)
    have si := wi_succ (show i < 4611686018427387904 by omega)
    have sk := wi_succ (show k < 4611686018427387904 by omega)
    refine ⟨noTab, noTab_all, lands_of (round0 ..) ?_⟩
    rw [List.length_map, List.length_map, List.length_map, List.length_map]
    by_cases hi : i < l.length
    · have hfi := okL_mem hl (List.getElem_mem hi)
      have goL : (∀ h : k < m.length, l[i].1 < m[k].1) → Turns2 (fun (i k : Nat) => st0 (l.map (fun p => p.1)) (l.map cL) b bl (m.map (fun p => p.1)) (m.map cL) bz mz i k ((sofar l m i k).map (fun p => p.1)) ((sofar l m i k).map cL)) (fun i k => Inv l m i k) (fun i k => (l.length - i) + (m.length - k)) (Post l m b bl bz mz) ((l.length - i) + (m.length - k)) .normal (st0 (l.map (fun p => p.1)) (l.map cL) b bl (m.map (fun p => p.1)) (m.map cL) bz mz ((i + 1 : Nat) : Int) k ((putL l[i].2 (sofar l m i k) l[i].1).map (fun p => p.1)) ((putL l[i].2 (sofar l m i k) l[i].1).map cL)) := fun hlt => by
        obtain ⟨h1, h2⟩ := left hl hm h hi hlt
        rw [h1]
        refine ⟨i + 1, k, rfl, h2, ?_⟩
        show (l.length - (i + 1)) + (m.length - k) < _
        omega
      rw [ltN hi, inN hi, rdV hi, getL hi]
      by_cases hk : k < m.length
      · have hfk := okL_mem hm (List.getElem_mem hk)
        rw [beqN hk, beqN hi, inN hk, rdV hk, getL hk]
        by_cases h1 : l[i].1 < m[k].1
        · rw [decide_eq_true h1]
          simp only [cL0, cL1, cLeta, cnW_fits hfi, num_lbW, hd, List.length_map, inN hi, cond_true, cond_false, Bool.and_self, si, lands_some]
          rw [putV_map, putR_map l[i].2 _ l[i].1]
          exact goL (fun _ => h1)
        · rw [decide_eq_false h1]
          by_cases h2 : m[k].1 < l[i].1
          · rw [decide_eq_true h2]
            simp only [cL0, cL1, cLeta, cnW_fits hfk, num_lbW, hd, List.length_map, inN hi, inN hk, cond_true, cond_false, Bool.and_self, sk, lands_some, Turns2]
            obtain ⟨h3, h4⟩ := right hl hm h hk (fun _ => h2)
            rw [putV_map, putR_map m[k].2 _ m[k].1, h3]
            exact ⟨i, k + 1, rfl, h4, by omega⟩
          · rw [decide_eq_false h2]
            have he : l[i].1 = m[k].1 := by omega
            simp only [cL0, cL1, cLeta, cnW_fits hfk, cnW_fits hfi, num_lbW, hfi, hfk, hd, List.length_map, inN hi, inN hk, cond_true, cond_false, Bool.and_self, N_eq]
            cases hf : fits (l[i].2 + m[k].2) with
            | false =>
              rw [ne0_of_big hf, he_big hf]
              simp only [cond_true, lands_some, Turns2]
              refine .inr ⟨rfl, fun hall => ?_, i, k, _, _, rfl⟩
              have := hall l[i].1
              rw [cf_mem (okL_asc hl) (List.getElem_mem hi), he, cf_mem (okL_asc hm) (List.getElem_mem hk), hf] at this
              cases this
            | true =>
              rw [eq0_of_fit hf, hz_fit hf, cnW_fits hf]
              simp only [cond_true, cond_false, Bool.and_self, hd, List.length_map, si, sk, lands_some, Turns2]
              obtain ⟨h3, h4⟩ := both hl hm h hi hk he hf
              rw [putV_map, putR_map (l[i].2 + m[k].2) _ l[i].1, h3]
              exact ⟨i + 1, k + 1, rfl, h4, by omega⟩
      · rw [beqNN (show k = m.length by omega)]
        simp only [cL0, cL1, cLeta, cnW_fits hfi, num_lbW, hd, List.length_map, inN hi, cond_true, cond_false, Bool.and_self, si, lands_some]
        rw [putV_map, putR_map l[i].2 _ l[i].1]
        exact goL (fun h => absurd h hk)
    · rw [ltN' hi, beqNN (show i = l.length by omega)]
      by_cases hk : k < m.length
      · have hfk := okL_mem hm (List.getElem_mem hk)
        rw [ltN hk, beqN hk, inN hk, rdV hk, getL hk]
        simp only [cL0, cL1, cLeta, cnW_fits hfk, num_lbW, hd, List.length_map, inN hk, cond_true, cond_false, Bool.and_self, sk, lands_some, Turns2]
        obtain ⟨h3, h4⟩ := right hl hm h hk (fun h => absurd h hi)
        rw [putV_map, putR_map m[k].2 _ m[k].1, h3]
        exact ⟨i, k + 1, rfl, h4, by omega⟩
      · rw [ltN' hk]
        simp only [cond_false, lands_some, Turns2]
        have e1 : l.take i = l := List.take_of_length_le (by omega)
        have e2 : m.take k = m := List.take_of_length_le (by omega)
        have hf := h.f
        unfold sofar
        rw [e1, e2] at hf ⊢
        exact .inl ⟨rfl, hf, i, k, rfl⟩
  rw [hz] at key
  exact key
end NAdd
theorem meets_nadd : Meets Try.prog 46 ansLAdd := by
  refine meets_fn (orc_ok (l := NAdd.ans) ⟨meets_add, meets_lput, trivial⟩) Try.f46 Try.func46 (by kernel_rfl) (fun args r h => ?_)
  unfold ansLAdd at h
  split at h
  · rename_i vs r b m vsz rz bz mz
    simp only [Option.some.injEq, Prod.mk.injEq, Bool.and_eq_true] at h
    obtain ⟨⟨h1, h2⟩, rfl⟩ := h
    obtain ⟨l, c, k1, k2, rfl, rfl, rfl, rfl⟩ := isT_iff.1 h1
    obtain ⟨k, d, k3, k4, rfl, rfl, rfl, rfl⟩ := isT_iff.1 h2
    rw [dl_map, dl_map, num_lbW, num_lbW]
    obtain ⟨e1, S1, hE1, hP⟩ := NAdd.loop l k (sg c) (lb 4294967296 c) (sg d) (lb 4294967296 d) k1 k3
    rcases hP with ⟨rfl, hall, x, y, rfl⟩ | ⟨rfl, hall, x, y, l', r', rfl⟩
    · refine ⟨rfl, _, tabOf_all _, (NAdd.rest_1 _ _ _ _ _ _ _ _ ((ofF (fun v => cf l v + cf k v)).map (fun p => p.1)) ((ofF (fun v => cf l v + cf k v)).map cL) x y).trans ?_⟩
      rw [num_lbW, num_lbW, cnW_fits k2, cnW_fits k4, k2, k4]
      rcases addE_cases l k c d with ⟨e1, e2, e3, e4, _⟩ | ⟨e1, e2, e3, e4⟩
      · rw [e1, e2, e3, eq0_of_fit e4, hz_fit e4, cdec_true hE1, lvs_eq, lrs_eq]
        rfl
      · have hcb : fits (c + d) = false := by rw [Bool.eq_false_iff]; exact fun hh => e4 ⟨hh, hall⟩
        rw [e1, e2, e3, ne0_of_big hcb, he_big hcb, lvs_nil, lrs_nil]
        rfl
    · refine ⟨rfl, _, tabOf_all _, (NAdd.rest_0 _ _ _ _ _ _ _ _ 11 x y l' r').trans ?_⟩
      rw [num_lbW, num_lbW, cnW_fits k2, cnW_fits k4, k2, k4]
      rcases addE_cases l k c d with ⟨e1, e2, e3, e4, e5⟩ | ⟨e1, e2, e3, e4⟩
      · exact absurd e5 hall
      · rw [e1, e2, e3, lvs_nil, lrs_nil, cdec_true hE1]
        cases hcb : fits (c + d) with
        | false => rw [ne0_of_big hcb, he_big hcb]; rfl
        | true => rw [eq0_of_fit hcb]; rfl
  · cases h
end Go.Abs
end
section
/- The statements of layer 3: what their helpers answer. -/
namespace Go.Abs
open Go.Proofs Go.Dig
/-- A row of one's own that is handed back is a value that is read. -/
theorem own_val {P : Program} {f : Nat} {A B : List AV → Option (Bool × Res)} (h : Meets P f A) (hB : ∀ args r, B args = some (true, r) → ∃ x, r = .val x ∧ A args = some (true, .own x)) : Meets P f B := by
  intro args r hr F w vs hF hav
  obtain ⟨x, rfl, hA⟩ := hB args r hr
  obtain ⟨fn, h1, h2, h3, h4⟩ := h args _ hA F w vs hF hav
  refine ⟨fn, h1, h2, h3, h4.mono (fun e w' he => ?_)⟩
  obtain ⟨v, e1, k1, F', k2, k3, k4⟩ := he
  refine ⟨v, e1, k1, fun b => F' b ∨ v.ownBlock = some b, ⟨fun k hk => .inl (k2.up k hk), fun k hk => ?_, fun k hk => ?_⟩, k3.rep (fun _ h => .inl h) (fun b hb => .inr hb)⟩
  · rcases hk with hk | hk
    · exact k2.new k hk
    · exact .inr (k4 k hk).1
  · rcases hk with hk | hk
    · exact k2.lt k hk
    · exact (k4 k hk).2.1
theorem cut_le {s : ByteArray} (h : ¬ s.size > 400) : cut 400 s = s := by unfold cut; rw [decide_eq_false h]; rfl
theorem cut_gt {s : ByteArray} (h : s.size > 400) : cut 400 s = s.extract 0 400 := by unfold cut; rw [decide_eq_true h]; rfl
theorem cut_sz (s : ByteArray) : (cut 400 s).size ≤ 400 := by
  by_cases h : s.size > 400
  · rw [cut_gt h, ByteArray.size_extract]; omega
  · rw [cut_le h]; omega
abbrev fewOf (p : Int × ByteArray) : Int × ByteArray := (bif decide (p.1 ≥ 4096) then 4095 else p.1, cut 400 p.2)
theorem room24 {l : List (List AV)} (h : l.length ≤ 100000) : (true && decide (l.length * 24 ≤ 140737488355328)) = true := by
  rw [Bool.true_and, decide_eq_true_eq]; omega
namespace JFew
theorem loop (ms : List (Int × ByteArray)) : ∃ e S1, Ends T orc L0 D0 (st0 (ms.map cP) 0 []) e S1 ∧ e = .exit 0 ∧ ∃ x, S1 = st0 (ms.map cP) x (((ms.take 12).map fewOf).map cP) := by
  have key : ∃ e S1, Ends T orc L0 D0 (st0 (ms.map cP) ((0 : Nat) : Int) (((ms.take 0).map fewOf).map cP)) e S1 ∧ e = .exit 0 ∧ ∃ x, S1 = st0 (ms.map cP) x (((ms.take 12).map fewOf).map cP) := by
    refine loop_inv1 (fun (i : Nat) => st0 (ms.map cP) i (((ms.take i).map fewOf).map cP)) (fun i => i ≤ ms.length ∧ i ≤ 12) (fun i => 12 - i)
      (fun e S1 => e = .exit 0 ∧ ∃ x, S1 = st0 (ms.map cP) x (((ms.take 12).map fewOf).map cP)) isL0 ?_ 0 ⟨Nat.zero_le _, by omega⟩
    intro i ⟨h1, h2⟩
    refine ⟨noTab, noTab_all, lands_of (round0 ..) ?_⟩
    rw [List.length_map]
    by_cases hi : i < ms.length
    · by_cases hj : i < 12
      · have e : ((ms.take i).map fewOf).map cP ++ [cP (fewOf ms[i])] = ((ms.take (i + 1)).map fewOf).map cP := by
          rw [List.take_add_one, List.getElem?_eq_getElem hi, List.map_append, List.map_append]; rfl
        have hr : (true && decide ((((ms.take (i + 1)).map fewOf).map cP).length * 24 ≤ 140737488355328)) = true := room24 (by rw [List.length_map, List.length_map, List.length_take]; omega)
        have fin : Turns1 (fun (i : Nat) => st0 (ms.map cP) i (((ms.take i).map fewOf).map cP)) (fun i => i ≤ ms.length ∧ i ≤ 12) (fun i => 12 - i) (fun e S1 => e = .exit 0 ∧ ∃ x, S1 = st0 (ms.map cP) x (((ms.take 12).map fewOf).map cP)) (12 - i) .normal (st0 (ms.map cP) ((i + 1 : Nat) : Int) (((ms.take (i + 1)).map fewOf).map cP)) := ⟨i + 1, rfl, ⟨by omega, by omega⟩, by show 12 - (i + 1) < _; omega⟩
        rw [ltN hi, inN hi, getP hi, decide_eq_true (show (i : Int) < 12 by omega)]
        have si := wi_succ (show i < 4611686018427387904 by omega)
        by_cases hs : ms[i].2.size > 400
        · have hs1 : ((ms[i].2.size : Nat) : Int) > 400 := by omega
          have hs2 : 400 ≤ ((ms[i].2.size : Nat) : Int) := by omega
          rw [show fewOf ms[i] = (bif decide (ms[i].1 ≥ 4096) then 4095 else ms[i].1, ms[i].2.extract 0 400) from by unfold fewOf; rw [cut_gt hs]] at e
          by_cases hv : ms[i].1 ≥ 4096
          · rw [decide_eq_true hv] at e
            have e : ((ms.take i).map fewOf).map cP ++ [[AV.int .i64 4095, .str (ms[i].2.extract 0 400)]] = ((ms.take (i + 1)).map fewOf).map cP := e
            simp only [cP0, cP1, cPeta, cond_true, hs1, hs2, hv, decide_true, Bool.and_self, e, hr, si, lands_some]
            exact fin
          · rw [decide_eq_false hv] at e
            have e : ((ms.take i).map fewOf).map cP ++ [[AV.int .i64 ms[i].1, .str (ms[i].2.extract 0 400)]] = ((ms.take (i + 1)).map fewOf).map cP := e
            simp only [cP0, cP1, cPeta, cond_true, cond_false, hs1, hs2, hv, decide_true, decide_false, Bool.and_self, e, hr, si, lands_some]
            exact fin
        · have hs1 : ¬ ((ms[i].2.size : Nat) : Int) > 400 := by omega
          rw [show fewOf ms[i] = (bif decide (ms[i].1 ≥ 4096) then 4095 else ms[i].1, ms[i].2) from by unfold fewOf; rw [cut_le hs]] at e
          by_cases hv : ms[i].1 ≥ 4096
          · rw [decide_eq_true hv] at e
            have e : ((ms.take i).map fewOf).map cP ++ [[AV.int .i64 4095, .str ms[i].2]] = ((ms.take (i + 1)).map fewOf).map cP := e
            simp only [cP0, cP1, cPeta, cond_true, cond_false, hs1, hv, decide_true, decide_false, e, hr, si, lands_some]
            exact fin
          · rw [decide_eq_false hv] at e
            have e : ((ms.take i).map fewOf).map cP ++ [[AV.int .i64 ms[i].1, .str ms[i].2]] = ((ms.take (i + 1)).map fewOf).map cP := e
            simp only [cP0, cP1, cPeta, cond_true, cond_false, hs1, hv, decide_true, decide_false, e, hr, si, lands_some]
            exact fin
      · have hij : i = 12 := by omega
        subst hij
        rw [ltN hi, decide_eq_false (show ¬ ((12 : Nat) : Int) < 12 by omega)]
        simp only [cond_true, cond_false, lands_some, Turns1]
        exact ⟨trivial, _, rfl⟩
    · rw [ltN' hi]
      simp only [cond_false, lands_some, Turns1]
      have e1 : ms.take i = ms := List.take_of_length_le (by omega)
      have e2 : ms.take 12 = ms := List.take_of_length_le (by omega)
      rw [e1, e2]
      exact ⟨trivial, i, rfl⟩
  exact key
end JFew
theorem meets_jfew : Meets Try.prog 28 anjFew := by
  have key : Meets Try.prog 28 (fun a => match a with | [.rows 2 x] => some (isq x, .own (.rows 2 (prs (fewP (dp x))))) | _ => none) := by
    refine meets_fn (orc_ok (l := JFew.ans) trivial) Try.f28 Try.func28 (by kernel_rfl) (fun args r h => ?_)
    split at h
    · rename_i x
      simp only [Option.some.injEq, Prod.mk.injEq] at h
      obtain ⟨h1, rfl⟩ := h
      obtain ⟨ms, _, rfl⟩ := isq_iff.1 h1
      rw [dp_map, prs_eq, fewP_eq]
      obtain ⟨e1, S1, hE1, rfl, x, rfl⟩ := JFew.loop ms
      exact ⟨rfl, _, tabOf_all _, (JFew.rest _ (((ms.take 12).map fewOf).map cP) x).trans (bT (cdec_true hE1))⟩
    · cases h
  refine own_val key (fun args r h => ?_)
  unfold anjFew at h
  split at h
  · simp only [Option.some.injEq, Prod.mk.injEq] at h
    obtain ⟨h1, rfl⟩ := h
    exact ⟨_, rfl, by simp only [h1]⟩
  · cases h
namespace JVals
theorem loop (ss : List ByteArray) : ∃ e S1, Ends T orc L0 D0 (st0 (ss.map (fun s => [AV.str s])) 0 [] []) e S1 ∧ e = .exit 0 ∧ ∃ x, S1 = st0 (ss.map (fun s => [AV.str s])) x (((ss.take 12).map nv).map cV) (((ss.take 12).map nv).map cX) := by
  have key : ∃ e S1, Ends T orc L0 D0 (st0 (ss.map (fun s => [AV.str s])) ((0 : Nat) : Int) (((ss.take 0).map nv).map cV) (((ss.take 0).map nv).map cX)) e S1 ∧ e = .exit 0 ∧ ∃ x, S1 = st0 (ss.map (fun s => [AV.str s])) x (((ss.take 12).map nv).map cV) (((ss.take 12).map nv).map cX) := by
    refine loop_inv1 (fun (i : Nat) => st0 (ss.map (fun s => [AV.str s])) i (((ss.take i).map nv).map cV) (((ss.take i).map nv).map cX)) (fun i => i ≤ ss.length ∧ i ≤ 12) (fun i => 12 - i)
      (fun e S1 => e = .exit 0 ∧ ∃ x, S1 = st0 (ss.map (fun s => [AV.str s])) x (((ss.take 12).map nv).map cV) (((ss.take 12).map nv).map cX)) isL0 ?_ 0 ⟨Nat.zero_le _, by omega⟩
    intro i ⟨h1, h2⟩
    refine ⟨noTab, noTab_all, lands_of (round0 ..) ?_⟩
    rw [List.length_map]
    by_cases hi : i < ss.length
    · by_cases hj : i < 12
      · have hg : (ss.map (fun s => [AV.str s])).getD (i : Int).toNat [] = [.str ss[i]] := by
          rw [Int.toNat_natCast, getD_at (by rw [List.length_map]; exact hi), List.getElem_map]
        have f1 : gStr ([AV.str ss[i]].getD 0 .top) = ss[i] := rfl
        have f2 : etaOk (.str { data := #[] }) ([AV.str ss[i]].getD 0 .top) = true := rfl
        have a1 : ((ss.take i).map nv).map cV ++ [cV (nv ss[i])] = ((ss.take (i + 1)).map nv).map cV := by
          rw [List.take_add_one, List.getElem?_eq_getElem hi, List.map_append, List.map_append]; rfl
        have a2 : ((ss.take i).map nv).map cX ++ [cX (nv ss[i])] = ((ss.take (i + 1)).map nv).map cX := by
          rw [List.take_add_one, List.getElem?_eq_getElem hi, List.map_append, List.map_append]; rfl
        have r1 : (true && decide ((((ss.take (i + 1)).map nv).map cV).length * 32 ≤ 140737488355328)) = true := by
          rw [Bool.true_and, decide_eq_true_eq, List.length_map, List.length_map, List.length_take]; omega
        have r2 : (true && decide ((((ss.take (i + 1)).map nv).map cX).length * 32 ≤ 140737488355328)) = true := by
          rw [Bool.true_and, decide_eq_true_eq, List.length_map, List.length_map, List.length_take]; omega
        have fin : Turns1 (fun (i : Nat) => st0 (ss.map (fun s => [AV.str s])) i (((ss.take i).map nv).map cV) (((ss.take i).map nv).map cX)) (fun i => i ≤ ss.length ∧ i ≤ 12) (fun i => 12 - i) (fun e S1 => e = .exit 0 ∧ ∃ x, S1 = st0 (ss.map (fun s => [AV.str s])) x (((ss.take 12).map nv).map cV) (((ss.take 12).map nv).map cX)) (12 - i) .normal (st0 (ss.map (fun s => [AV.str s])) ((i + 1 : Nat) : Int) (((ss.take (i + 1)).map nv).map cV) (((ss.take (i + 1)).map nv).map cX)) := ⟨i + 1, rfl, ⟨by omega, by omega⟩, by show 12 - (i + 1) < _; omega⟩
        rw [ltN hi, inN hi, hg, decide_eq_true (show (i : Int) < 12 by omega)]
        have si := wi_succ (show i < 4611686018427387904 by omega)
        by_cases hs : ss[i].size > 400
        · have hs1 : ((ss[i].size : Nat) : Int) > 400 := by omega
          have hs2 : 400 ≤ ((ss[i].size : Nat) : Int) := by omega
          have hsz : (ss[i].extract 0 400).size ≤ 10000 := by rw [ByteArray.size_extract]; omega
          have hn : nv ss[i] = rv (ss[i].extract 0 400) := by unfold nv; rw [cut_gt hs]
          rw [hn] at a1 a2
          simp only [f1, f2, cond_true, hs1, hs2, hsz, decide_true, Bool.and_self, a1, a2, r1, r2, si, lands_some]
          exact fin
        · have hs1 : ¬ ((ss[i].size : Nat) : Int) > 400 := by omega
          have hsz : ss[i].size ≤ 10000 := by omega
          have hn : nv ss[i] = rv ss[i] := by unfold nv; rw [cut_le hs]
          rw [hn] at a1 a2
          simp only [f1, f2, cond_true, cond_false, hs1, hsz, decide_true, decide_false, a1, a2, r1, r2, si, lands_some]
          exact fin
      · have hij : i = 12 := by omega
        subst hij
        rw [ltN hi, decide_eq_false (show ¬ ((12 : Nat) : Int) < 12 by omega)]
        simp only [cond_true, cond_false, lands_some, Turns1]
        exact ⟨trivial, _, rfl⟩
    · rw [ltN' hi]
      simp only [cond_false, lands_some, Turns1]
      have e1 : ss.take i = ss := List.take_of_length_le (by omega)
      have e2 : ss.take 12 = ss := List.take_of_length_le (by omega)
      rw [e1, e2]
      exact ⟨trivial, i, rfl⟩
  exact key
end JVals
theorem meets_jvals : Meets Try.prog 31 anjValues := by
  refine meets_fn (orc_ok (l := JVals.ans) ⟨meets_parse, meets_rparse, trivial⟩) Try.f31 Try.func31 (by kernel_rfl) (fun args r h => ?_)
  unfold anjValues at h
  split at h
  · rename_i x
    simp only [Option.some.injEq, Prod.mk.injEq] at h
    obtain ⟨h1, rfl⟩ := h
    obtain ⟨ss, rfl⟩ := isStrs_iff.1 h1
    rw [strL_map, vws_eq, vts_eq, vals_eq]
    obtain ⟨e1, S1, hE1, rfl, x, rfl⟩ := JVals.loop ss
    exact ⟨rfl, _, tabOf_all _, (JVals.rest _ (((ss.take 12).map nv).map cV) (((ss.take 12).map nv).map cX) x).trans (bT (cdec_true hE1))⟩
  · cases h
theorem vals_fits (ss : List ByteArray) : ∀ z ∈ vals ss, fits z = true := fun z hz => by
  rw [vals_eq] at hz
  obtain ⟨s, _, rfl⟩ := List.mem_map.1 hz
  exact fits_nv s
theorem vals_len (ss : List ByteArray) : (vals ss).length ≤ 12 := by rw [vals_eq, List.length_map, List.length_take]; omega
theorem isvw_vals (ss : List ByteArray) : isvw (vws (vals ss)) = true := isvw_iff.2 ⟨_, vals_fits ss, by have := vals_len ss; omega, vws_eq _⟩
end Go.Abs
end
section
/- The statements of layer 3: the term of a list of parts; the page's examples. -/
namespace Go.Abs
open Go.Proofs Go.Dig
theorem isT_nilc {c : Int} (h : fits c = true) : isT [] [] (sg c) (lb 4294967296 c) = true := isT_iff.2 ⟨[], c, okL_nil, h, rfl, rfl, rfl, rfl⟩
theorem fits_one : fits 1 = true := by kernel_rfl
namespace JTerm
def Post (ms : List (Int × ByteArray)) (e : Ex) (S1 : St) : Prop :=
  (e = .exit 0 ∧ ((∃ q c x, suF [] 0 ms = (0, q, c) ∧ S1 = st0 (ms.map cP) x (lvs q) (lrs q) (sg c) (lb 4294967296 c)) ∨ (ms = [] ∧ S1 = st0e (ms.map cP)))) ∨
  (e = .ret ∧ ∃ n q c, n ≠ 0 ∧ suF [] 0 ms = (n, q, c) ∧ ((∃ x, S1 = st0x0 (ms.map cP) x (lvs q) (lrs q) (sg c) (lb 4294967296 c)) ∨ (q = [] ∧ c = 0 ∧ ∃ x l r b l', S1 = st0 (ms.map cP) x l r b l')))
theorem loop (ms : List (Int × ByteArray)) (hm : ∀ p ∈ ms, i64B p.1 = true ∧ p.1 < 4096 ∧ p.2.size ≤ 10000) (hlen : ms.length ≤ 100000) (i0 : Nat) (q0 : List (Int × Int)) (c0 : Int) (g0 : i0 ≤ ms.length) (g1 : okL q0) (g2 : fits c0 = true) (g3 : suF q0 c0 (ms.drop i0) = suF [] 0 ms) : ∃ e S1, Ends T orc L0 D0 (st0 (ms.map cP) i0 (lvs q0) (lrs q0) (sg c0) (lb 4294967296 c0)) e S1 ∧ Post ms e S1 := by
  refine loop_inv3 (fun (i : Nat) (q : List (Int × Int)) (c : Int) => st0 (ms.map cP) i (lvs q) (lrs q) (sg c) (lb 4294967296 c)) (fun i q c => i ≤ ms.length ∧ okL q ∧ fits c = true ∧ suF q c (ms.drop i) = suF [] 0 ms) (fun i q c => ms.length - i)
    (Post ms) isL0 ?_ i0 q0 c0 ⟨g0, g1, g2, g3⟩
  intro i q c ⟨h1, h2, h4, h3⟩
  refine ⟨noTab, noTab_all, lands_of (round0 ..) ?_⟩
  by_cases hi : i < ms.length
  · obtain ⟨_, hv4, hsz⟩ := hm _ (List.getElem_mem hi)
    rw [suF_drop hi] at h3
    rw [List.length_map, ltN hi, inN hi, getP hi]
    have hfr := fits_rv ms[i].2
    by_cases he : re ms[i].2 = 0
    · rw [he] at h3
      by_cases hv : ms[i].1 ≥ 0
      · have h3 : (bif decide (0 ≤ ms[i].1) then (bif addE q (lone ms[i].1 (rv ms[i].2)) c 0 == 0 then suF (addL q (lone ms[i].1 (rv ms[i].2)) c 0) (addC q (lone ms[i].1 (rv ms[i].2)) c 0) (ms.drop (i + 1)) else (addE q (lone ms[i].1 (rv ms[i].2)) c 0, [], 0)) else _) = suF [] 0 ms := h3
        rw [decide_eq_true (show 0 ≤ ms[i].1 from hv), cond_true] at h3
        have v1 : vok ms[i].1 = true := vok_iff.2 ⟨hv, hv4⟩
        have v2 : vE ms[i].1 = 0 := by unfold vE; rw [v1]; rfl
        obtain ⟨s1, s2, s3⟩ := scale_lone ms[i].1 hfr
        simp only [plP0, plP0e, plP1, plP1e, placeP1, placeP2, cond_true, hsz, hv, decide_true, he, bne_self_eq_false, cond_false, v1, v2, isT_of0 (okL_lone ms[i].1 fits_one), cnW_fits hfr, N_eq, hfr, Bool.and_self, dl_lvs, s1, s2, s3, isT_of h2 h4, isT_of (okL_lone ms[i].1 hfr) fits0, num_lbW]
        rcases addE_cases q (lone ms[i].1 (rv ms[i].2)) c 0 with ⟨a1, _⟩ | ⟨a1, _⟩
        · rw [a1] at h3 ⊢
          simp only [bne_self_eq_false, cond_false, wi_succ (show i < 4611686018427387904 by omega), lands_some, Turns3]
          exact ⟨i + 1, addL q (lone ms[i].1 (rv ms[i].2)) c 0, addC q (lone ms[i].1 (rv ms[i].2)) c 0, rfl, ⟨by omega, okL_add _ _ _ _, fits_addC _ _ _ _, h3⟩, by omega⟩
        · rw [a1] at h3 ⊢
          simp only [show ((11 : Int) != 0) = true from rfl, cond_true, lands_some, Turns3]
          exact .inr ⟨rfl, 11, [], 0, by decide, h3.symm, .inr ⟨rfl, rfl, i, _, _, _, _, rfl⟩⟩
      · have h3 : (bif decide (0 ≤ ms[i].1) then _ else (bif addE q [] c (rv ms[i].2) == 0 then suF (addL q [] c (rv ms[i].2)) (addC q [] c (rv ms[i].2)) (ms.drop (i + 1)) else (addE q [] c (rv ms[i].2), [], 0))) = suF [] 0 ms := h3
        rw [decide_eq_false (show ¬ 0 ≤ ms[i].1 from hv), cond_false] at h3
        simp only [plP0, plP0e, plP1, plP1e, placeP1, placeP2, cond_true, hsz, hv, decide_true, decide_false, he, bne_self_eq_false, cond_false, N_eq, isT_nilc hfr, isT_of h2 h4, Bool.and_self, dl_lvs, dl_nil, num_lbW]
        rcases addE_cases q [] c (rv ms[i].2) with ⟨a1, _⟩ | ⟨a1, _⟩
        · rw [a1] at h3 ⊢
          simp only [bne_self_eq_false, cond_false, wi_succ (show i < 4611686018427387904 by omega), lands_some, Turns3]
          exact ⟨i + 1, addL q [] c (rv ms[i].2), addC q [] c (rv ms[i].2), rfl, ⟨by omega, okL_add _ _ _ _, fits_addC _ _ _ _, h3⟩, by omega⟩
        · rw [a1] at h3 ⊢
          simp only [show ((11 : Int) != 0) = true from rfl, cond_true, lands_some, Turns3]
          exact .inr ⟨rfl, 11, [], 0, by decide, h3.symm, .inr ⟨rfl, rfl, i, _, _, _, _, rfl⟩⟩
    · rw [show (re ms[i].2 == 0) = false from beq_eq_false_iff_ne.2 he] at h3
      simp only [plP0, plP0e, plP1, plP1e, placeP1, placeP2, cond_true, hsz, decide_true, ne_b he, lands_some, Turns3]
      exact .inr ⟨rfl, re ms[i].2, q, c, he, h3.symm, .inl ⟨i, rfl⟩⟩
  · have hd : ms.drop i = [] := List.drop_of_length_le (by omega)
    rw [hd] at h3
    rw [List.length_map, ltN' hi]
    simp only [cond_false, lands_some, Turns3]
    exact .inl ⟨rfl, .inl ⟨q, c, i, h3.symm, rfl⟩⟩
theorem first (ms : List (Int × ByteArray)) (hm : ∀ p ∈ ms, i64B p.1 = true ∧ p.1 < 4096 ∧ p.2.size ≤ 10000) (hlen : ms.length ≤ 100000) : ∃ e S1, Ends T orc L0 D0 (st0e (ms.map cP)) e S1 ∧ Post ms e S1 := by
  refine loop_first (Post ms) isL0 noTab_all (round0e ..) ?_
  by_cases hi : 0 < ms.length
  · obtain ⟨_, hv4, hsz⟩ := hm _ (List.getElem_mem hi)
    have h3 : suF [] 0 ms = _ := suF_drop hi [] 0
    have hget : (ms.map cP).getD 0 [] = cP ms[0] := getP hi
    rw [List.length_map, show decide ((0 : Int) < (ms.length : Int)) = true from decide_eq_true (by omega), show inB 0 ms.length = true from inN hi, hget]
    have hfr := fits_rv ms[0].2
    by_cases he : re ms[0].2 = 0
    · rw [he] at h3
      by_cases hv : ms[0].1 ≥ 0
      · have h3 : suF [] 0 ms = (bif decide (0 ≤ ms[0].1) then (bif addE [] (lone ms[0].1 (rv ms[0].2)) 0 0 == 0 then suF (addL [] (lone ms[0].1 (rv ms[0].2)) 0 0) (addC [] (lone ms[0].1 (rv ms[0].2)) 0 0) (ms.drop (0 + 1)) else (addE [] (lone ms[0].1 (rv ms[0].2)) 0 0, [], 0)) else _) := h3
        rw [decide_eq_true (show 0 ≤ ms[0].1 from hv), cond_true] at h3
        have v1 : vok ms[0].1 = true := vok_iff.2 ⟨hv, hv4⟩
        have v2 : vE ms[0].1 = 0 := by unfold vE; rw [v1]; rfl
        obtain ⟨s1, s2, s3⟩ := scale_lone ms[0].1 hfr
        simp only [plP0, plP0e, plP1, plP1e, placeP1, placeP2, cond_true, hsz, hv, decide_true, he, bne_self_eq_false, cond_false, v1, v2, isT_of0 (okL_lone ms[0].1 fits_one), cnW_fits hfr, N_eq, hfr, Bool.and_self, dl_lvs, dl_nil, s1, s2, s3, isT_nil, isT_of (okL_lone ms[0].1 hfr) fits0, num_zero]
        rcases addE_cases [] (lone ms[0].1 (rv ms[0].2)) 0 0 with ⟨a1, _⟩ | ⟨a1, _⟩
        · rw [a1] at h3 ⊢
          simp only [bne_self_eq_false, cond_false, lands_some]
          exact loop ms hm hlen 1 _ _ hi (okL_add _ _ _ _) (fits_addC _ _ _ _) h3.symm
        · rw [a1] at h3 ⊢
          simp only [show ((11 : Int) != 0) = true from rfl, cond_true, lands_some]
          exact .inr ⟨rfl, 11, [], 0, by decide, h3, .inr ⟨rfl, rfl, 0, _, _, _, _, rfl⟩⟩
      · have h3 : suF [] 0 ms = (bif decide (0 ≤ ms[0].1) then _ else (bif addE [] [] 0 (rv ms[0].2) == 0 then suF (addL [] [] 0 (rv ms[0].2)) (addC [] [] 0 (rv ms[0].2)) (ms.drop (0 + 1)) else (addE [] [] 0 (rv ms[0].2), [], 0))) := h3
        rw [decide_eq_false (show ¬ 0 ≤ ms[0].1 from hv), cond_false] at h3
        simp only [plP0, plP0e, plP1, plP1e, placeP1, placeP2, cond_true, hsz, hv, decide_true, decide_false, he, bne_self_eq_false, cond_false, N_eq, isT_nilc hfr, isT_nil, Bool.and_self, dl_lvs, dl_nil, num_zero]
        rcases addE_cases [] [] 0 (rv ms[0].2) with ⟨a1, _⟩ | ⟨a1, _⟩
        · rw [a1] at h3 ⊢
          simp only [bne_self_eq_false, cond_false, lands_some]
          exact loop ms hm hlen 1 _ _ hi (okL_add _ _ _ _) (fits_addC _ _ _ _) h3.symm
        · rw [a1] at h3 ⊢
          simp only [show ((11 : Int) != 0) = true from rfl, cond_true, lands_some]
          exact .inr ⟨rfl, 11, [], 0, by decide, h3, .inr ⟨rfl, rfl, 0, _, _, _, _, rfl⟩⟩
    · rw [show (re ms[0].2 == 0) = false from beq_eq_false_iff_ne.2 he] at h3
      simp only [plP0, plP0e, plP1, plP1e, placeP1, placeP2, cond_true, hsz, decide_true, ne_b he, lands_some]
      refine .inr ⟨rfl, re ms[0].2, [], 0, he, h3, .inl ⟨0, ?_⟩⟩
      rw [lvs_nil, lrs_nil]; rfl
  · have hd : ms = [] := List.eq_nil_of_length_eq_zero (by omega)
    subst hd
    rw [show decide ((0 : Int) < (([] : List (Int × ByteArray)).map cP).length) = false from rfl]
    simp only [cond_false, lands_some]
    exact .inl ⟨rfl, .inr ⟨rfl, rfl⟩⟩
end JTerm
theorem meets_jterm : Meets Try.prog 29 anjTerm := by
  refine meets_fn (orc_ok (l := JTerm.ans) ⟨meets_parse, meets_nnum, meets_nvar, meets_nscale, meets_nadd, trivial⟩) Try.f29 Try.func29 (by kernel_rfl) (fun args r h => ?_)
  unfold anjTerm at h
  split at h
  · rename_i x
    simp only [Option.some.injEq, Prod.mk.injEq] at h
    obtain ⟨h1, rfl⟩ := h
    obtain ⟨ms, k1, k2, rfl⟩ := isg_iff.1 h1
    rw [dp_map]
    have hE := suE_eq ms
    have hl := teL_eq ms
    have hc := teC_eq ms
    obtain ⟨e1, S1, hE1, hP⟩ := JTerm.first ms k1 k2
    rcases hP with ⟨rfl, ⟨q, c, x, h3, rfl⟩ | ⟨rfl, rfl⟩⟩ | ⟨rfl, n, q, c, h4, h3, ⟨x, rfl⟩ | ⟨rfl, rfl, x, l, r, b, l', rfl⟩⟩
    · rw [h3] at hE hl hc
      have hE : suE ms = 0 := hE
      have hl : teL ms = q := hl
      have hc : teC ms = c := hc
      rw [hE, hl, hc]
      exact ⟨rfl, _, tabOf_all _, (JTerm.rest_2 _ (lvs q) (lrs q) (sg c) (lb 4294967296 c) x).trans (bT (cdec_true hE1))⟩
    · have hE : suE [] = 0 := hE
      have hl : teL [] = [] := hl
      have hc : teC [] = 0 := hc
      rw [hE, hl, hc, lvs_nil, lrs_nil]
      exact ⟨rfl, _, tabOf_all _, (JTerm.rest_3 _).trans (bT (cdec_true hE1))⟩
    · rw [h3] at hE hl hc
      have hE : suE ms = n := hE
      have hl : teL ms = q := hl
      have hc : teC ms = c := hc
      rw [hE, hl, hc, show (n == 0) = false from beq_eq_false_iff_ne.2 h4]
      exact ⟨rfl, _, tabOf_all _, (JTerm.rest_0 _ (lvs q) (lrs q) (sg c) (lb 4294967296 c) x).trans (bT (cdec_true hE1))⟩
    · rw [h3] at hE hl hc
      have hE : suE ms = n := hE
      have hl : teL ms = [] := hl
      have hc : teC ms = 0 := hc
      rw [hE, hl, hc, lvs_nil, lrs_nil, show (n == 0) = false from beq_eq_false_iff_ne.2 h4]
      exact ⟨rfl, _, tabOf_all _, (JTerm.rest_1 _ x l r b l').trans (bT (cdec_true hE1))⟩
  · cases h
/-- The page's examples. -/
abbrev aw : List (Int × ByteArray) := [(0, ⟨#[50]⟩), (1, ⟨#[45, 52]⟩)]
abbrev awL : List (Int × Int) := [(0, 2), (1, -4)]
theorem aw_two : (rv ⟨#[50]⟩ = 2 ∧ re ⟨#[50]⟩ = 0) ∧ (rv ⟨#[45, 52]⟩ = -4 ∧ re ⟨#[45, 52]⟩ = 0) ∧ rv ⟨#[51]⟩ = 3 ∧ re ⟨#[51]⟩ = 0 := ⟨⟨by kernel_rfl, by kernel_rfl⟩, ⟨by kernel_rfl, by kernel_rfl⟩, by kernel_rfl, by kernel_rfl⟩
theorem aw_ofF {a b : Int} (ha : a ≠ 0) (hb : b ≠ 0) {f : Int → Int} (h : ∀ v, 0 ≤ v → v < 4096 → f v = if v = 0 then a else if v = 1 then b else 0) : ofF f = [(0, a), (1, b)] := by
  refine (eq_ofF ?_ ?_ (fun v => ?_)).symm
  · exact List.pairwise_cons.2 ⟨fun p hp => by rw [List.mem_singleton.1 hp]; exact (by decide : (0 : Int) < 1), List.pairwise_singleton ..⟩
  · intro p hp
    rcases List.mem_cons.1 hp with rfl | hp
    · exact ha
    · rw [List.mem_singleton.1 hp]; exact hb
  · rw [cf_cons, cf_cons, cf_nil]
    by_cases hv : 0 ≤ v ∧ v < 4096
    · rw [if_pos hv, h v hv.1 hv.2]
      by_cases h0 : v = 0
      · rw [if_pos h0, if_pos h0.symm]
      · rw [if_neg h0, if_neg (fun hh => h0 hh.symm)]
        by_cases h1 : v = 1
        · rw [if_pos h1, if_pos h1.symm]
        · rw [if_neg h1, if_neg (fun hh => h1 hh.symm)]
    · rw [if_neg hv, if_neg (by show ¬ (0 : Int) = v; omega), if_neg (by show ¬ (1 : Int) = v; omega)]
theorem aw_cf (v : Int) : cf awL v = if v = 0 then 2 else if v = 1 then -4 else 0 := by
  rw [cf_cons, cf_cons, cf_nil]
  by_cases h0 : v = 0
  · rw [if_pos h0, if_pos h0.symm]
  · rw [if_neg h0, if_neg (fun hh => h0 hh.symm)]
    by_cases h1 : v = 1
    · rw [if_pos h1, if_pos h1.symm]
    · rw [if_neg h1, if_neg (fun hh => h1 hh.symm)]
theorem fits_m4 : fits (-4) = true := by kernel_rfl
theorem fits_two : fits 2 = true := by kernel_rfl
theorem fits_three : fits 3 = true := by kernel_rfl
theorem aw_rdF : rdF [] aw = (0, awL) := by
  obtain ⟨⟨a1, a2⟩, ⟨a3, a4⟩, _⟩ := aw_two
  have h1 : rdF [] aw = bif !(vE 0 == 0) then (vE 0, []) else bif !(re ⟨#[50]⟩ == 0) then (re ⟨#[50]⟩, []) else bif addE [] (lone 0 (rv ⟨#[50]⟩)) 0 0 == 0 then rdF (addL [] (lone 0 (rv ⟨#[50]⟩)) 0 0) [(1, ⟨#[45, 52]⟩)] else (addE [] (lone 0 (rv ⟨#[50]⟩)) 0 0, []) := rfl
  have h2 : ∀ q, rdF q [(1, ⟨#[45, 52]⟩)] = bif !(vE 1 == 0) then (vE 1, []) else bif !(re ⟨#[45, 52]⟩ == 0) then (re ⟨#[45, 52]⟩, []) else bif addE q (lone 1 (rv ⟨#[45, 52]⟩)) 0 0 == 0 then (0, addL q (lone 1 (rv ⟨#[45, 52]⟩)) 0 0) else (addE q (lone 1 (rv ⟨#[45, 52]⟩)) 0 0, []) := fun q => rfl
  obtain ⟨b1, b2⟩ := (add_lone okL_nil (v := 0) (c := 2) (by omega) fits_two).1 (by rw [cf_nil]; exact fits_two)
  have b3 : addL [] (lone 0 2) 0 0 = lone 0 2 := by
    rw [b2, wiL_eq, lone_eq]
    refine ofF_congr (fun w _ _ => ?_)
    rw [cf_nil, Int.zero_add]
  have hok : okL (lone 0 2) := okL_lone 0 fits_two
  have hc : cf (lone 0 2) 1 = 0 := by rw [cf_lone, if_neg (fun hh => absurd hh.2 (by decide))]
  obtain ⟨d1, d2⟩ := (add_lone hok (v := 1) (c := -4) (by omega) fits_m4).1 (by rw [hc]; exact fits_m4)
  have d3 : addL (lone 0 2) (lone 1 (-4)) 0 0 = awL := by
    rw [d2, wiL_eq]
    refine aw_ofF (by decide) (by decide) (fun w _ _ => ?_)
    rw [cf_lone]
    by_cases h0 : w = 0
    · rw [if_pos h0, decide_eq_false (by omega), if_pos ⟨by omega, h0⟩]; rfl
    · rw [if_neg h0, if_neg (fun hh => h0 hh.2)]
      by_cases h1 : w = 1
      · rw [if_pos h1, decide_eq_true h1]; rfl
      · rw [if_neg h1, decide_eq_false h1]; rfl
  rw [h1, a2, a1, b1, b3, h2, a4, a3, d1, d3]
  rfl
theorem aw_rd : rdE aw ⟨#[51]⟩ = 0 ∧ rdL aw ⟨#[51]⟩ = awL ∧ rdM aw ⟨#[51]⟩ = 3 := by
  obtain ⟨_, _, a5, a6⟩ := aw_two
  rcases rd_cases aw ⟨#[51]⟩ with ⟨c1, _⟩ | ⟨_, c0, _⟩ | ⟨_, _, c2, c3⟩
  · exact absurd c1 (by decide)
  · exact absurd a6 c0
  · rw [aw_rdF] at c2 c3
    rcases c3 with ⟨_, c3, c4⟩ | ⟨c3, _⟩
    · exact ⟨c2, c3, c4.trans a5⟩
    · exact absurd rfl c3
theorem aw_okL : okL awL := by
  have := okL_rd aw ⟨#[51]⟩
  rw [aw_rd.2.1] at this
  exact this
theorem aw_gcd : gcdL awL = 2 := by rw [gcdL_eq]; kernel_rfl
theorem aw_ti : tiL awL = [(0, 1), (1, -2)] ∧ tiM awL 3 = 1 := by
  have h1 := tiL_eq awL
  have h2 := tiM_eq awL 3
  rw [aw_gcd] at h1 h2
  have h1 : tiL awL = ofF (fun v => dq (cf awL v) 2) := h1
  have h2 : tiM awL 3 = dq 3 2 := h2
  refine ⟨?_, h2⟩
  rw [h1]
  refine aw_ofF (by decide) (by decide) (fun w _ _ => ?_)
  rw [aw_cf]
  by_cases h0 : w = 0
  · rw [if_pos h0, if_pos h0]; rfl
  · rw [if_neg h0, if_neg h0]
    by_cases h1 : w = 1
    · rw [if_pos h1, if_pos h1]; rfl
    · rw [if_neg h1, if_neg h1]; rfl
theorem aw_no : noL awL 3 = [(0, -2), (1, 4)] ∧ noM 3 = -4 ∧ he (3 + 1) = 0 := by
  have h1 := noL_eq awL 3
  have h2 := noM_eq 3
  have h3 : he (3 + 1) = 0 := by kernel_rfl
  rw [h3] at h1 h2
  have h1 : noL awL 3 = negL awL := h1
  have h2 : noM 3 = -4 := h2
  refine ⟨?_, h2, h3⟩
  rw [h1, negL_eq]
  refine aw_ofF (by decide) (by decide) (fun w _ _ => ?_)
  rw [aw_cf]
  by_cases h0 : w = 0
  · rw [if_pos h0, if_pos h0]
  · rw [if_neg h0, if_neg h0]
    by_cases h1 : w = 1
    · rw [if_pos h1, if_pos h1]; rfl
    · rw [if_neg h1, if_neg h1]; rfl
theorem aw_t1 : ((ttxt [(0, 1), (1, -2)] 0).toList == [(49 : UInt8), (42 : UInt8), (120 : UInt8), (48 : UInt8), (32 : UInt8), (43 : UInt8), (32 : UInt8), (45 : UInt8), (50 : UInt8), (42 : UInt8), (120 : UInt8), (49 : UInt8)]) = true := by rw [ttxt_eq]; kernel_rfl
theorem aw_t2 : ((ttxt [(0, -2), (1, 4)] 0).toList == [(45 : UInt8), (50 : UInt8), (42 : UInt8), (120 : UInt8), (48 : UInt8), (32 : UInt8), (43 : UInt8), (32 : UInt8), (52 : UInt8), (42 : UInt8), (120 : UInt8), (49 : UInt8)]) = true := by rw [ttxt_eq]; kernel_rfl
theorem meets_jawake : Meets Try.prog 13 anlAwake := by
  refine meets_fn (orc_ok (l := JAwake.ans) ⟨meets_nread meets_nadd, meets_nnot, meets_ntight, meets_ntext, meets_text, trivial⟩) Try.f13 Try.func13 (by kernel_rfl) (fun args r h => ?_)
  unfold anlAwake at h
  split at h
  · simp only [Option.some.injEq, Prod.mk.injEq] at h
    obtain ⟨_, rfl⟩ := h
    refine ⟨rfl, _, noTab_all, JAwake.rest.trans ?_⟩
    have hr : ([[AV.int .i64 0, .str { data := #[50] }], [.int .i64 1, .str { data := #[45, 52] }]] : List (List AV)) = aw.map cP := rfl
    have hq : isq (aw.map cP) = true := isq_iff.2 ⟨aw, fun p hp => by
      rcases List.mem_cons.1 hp with rfl | hp
      · rfl
      · rw [List.mem_singleton.1 hp]; rfl, rfl⟩
    have hp : isp (aw.map cP) = true := isp_iff.2 ⟨aw, fun p hp => by
      rcases List.mem_cons.1 hp with rfl | hp
      · exact ⟨rfl, by decide⟩
      · rw [List.mem_singleton.1 hp]; exact ⟨rfl, by decide⟩, rfl⟩
    obtain ⟨r1, r2, r3⟩ := aw_rd
    obtain ⟨t1, t2⟩ := aw_ti
    obtain ⟨n1, n2, n3⟩ := aw_no
    have x1 : ((txt 1).toList == [(49 : UInt8)]) = true := by kernel_rfl
    have x2 : ((txt (-4)).toList == [(45 : UInt8), (52 : UInt8)]) = true := by kernel_rfl
    have o1 : okL [(0, 1), (1, -2)] := by have := okL_ti aw_okL; rw [t1] at this; exact this
    have o2 : okL [(0, -2), (1, 4)] := by
      have := okL_neg aw_okL
      have h1 := noL_eq awL 3
      rw [n3] at h1
      have h1 : noL awL 3 = negL awL := h1
      rw [← h1, n1] at this
      exact this
    rw [hr, hq, hp, dp_map, r1, r2, r3, isl_lvs aw_okL, N_eq, dl_lvs, t1, t2, n1, n2, n3, isT_of0 o1, isT_of0 o2, dl_lvs, dl_lvs, N_eq, N_eq, aw_t1, aw_t2, x1, x2, cnW_fits fits_three, fits_three, cnW_fits fits_one, cnW_fits fits_m4]
    rfl
  · cases h
end Go.Abs
end
section
/- The statements of layer 3: values. -/
namespace Go.Abs
open Go.Proofs Go.Dig
/-- A sum's value at some values, none refused. -/
def lin (l : List (Int × Int)) (xs : List Int) : Int := (l.map (fun p => p.2 * xs.getD p.1.toNat 0)).sum
def SL (L : List Nat) (f : Int → Int) (xs : List Int) : Int := (L.map (fun (v : Nat) => f (v : Int) * xs.getD v 0)).sum
theorem SL_cons (v : Nat) (L : List Nat) (f : Int → Int) (xs : List Int) : SL (v :: L) f xs = f (v : Int) * xs.getD v 0 + SL L f xs := by
  unfold SL; rw [List.map_cons, List.sum_cons]
abbrev SR (f : Int → Int) (xs : List Int) : Int := SL (List.range 4096) f xs
theorem lin_cons (p : Int × Int) (l : List (Int × Int)) (xs : List Int) : lin (p :: l) xs = p.2 * xs.getD p.1.toNat 0 + lin l xs := by
  unfold lin; rw [List.map_cons, List.sum_cons]
theorem lin_filter (f : Int → Int) (xs : List Int) (L : List Nat) : lin ((L.map (fun (v : Nat) => ((v : Int), f v))).filter (fun p => p.2 != 0)) xs = SL L f xs := by
  induction L with
  | nil => rfl
  | cons v L ih =>
    rw [SL_cons, List.map_cons, List.filter_cons]
    by_cases h : f (v : Int) = 0
    · rw [if_neg (by simp only [h, bne_self_eq_false]; exact Bool.false_ne_true), ih, h, Int.zero_mul, Int.zero_add]
    · rw [if_pos (bne_iff_ne.2 h), lin_cons, ih]
      rfl
theorem lin_ofF (f : Int → Int) (xs : List Int) : lin (ofF f) xs = SR f xs := by rw [ofF_eq]; exact lin_filter f xs _
theorem lin_cf {l : List (Int × Int)} (h : okL l) (xs : List Int) : lin l xs = SR (cf l) xs := by
  rw [← lin_ofF, ← okL_canon h]
theorem SL_add (L : List Nat) (f g : Int → Int) (xs : List Int) : SL L (fun v => f v + g v) xs = SL L f xs + SL L g xs := by
  induction L with
  | nil => rfl
  | cons v L ih => rw [SL_cons, SL_cons, SL_cons, ih, Int.add_mul]; omega
theorem SL_mul (L : List Nat) (f : Int → Int) (k : Int) (xs : List Int) : SL L (fun v => f v * k) xs = k * SL L f xs := by
  induction L with
  | nil => show (0 : Int) = k * 0; omega
  | cons v L ih =>
    rw [SL_cons, SL_cons, ih, Int.mul_add, Int.mul_comm (f v) k, Int.mul_assoc]
theorem SL_congr {L : List Nat} {f g : Int → Int} (h : ∀ v ∈ L, f (v : Int) = g (v : Int)) (xs : List Int) : SL L f xs = SL L g xs := by
  induction L with
  | nil => rfl
  | cons v L ih => rw [SL_cons, SL_cons, ih (fun w hw => h w (List.mem_cons_of_mem _ hw)), h v List.mem_cons_self]
theorem SR_congr {f g : Int → Int} (h : ∀ v, 0 ≤ v → v < 4096 → f v = g v) (xs : List Int) : SR f xs = SR g xs :=
  SL_congr (fun v hv => h v (by omega) (by have := List.mem_range.1 hv; omega)) xs
theorem getD_set (xs : List Int) (v : Nat) (y : Int) (hv : v < xs.length) (w : Nat) : (xs.set v y).getD w 0 = if w = v then y else xs.getD w 0 := by
  rw [List.getD_eq_getElem?_getD, List.getD_eq_getElem?_getD, List.getElem?_set]
  by_cases h : v = w
  · subst h; rw [if_pos rfl, if_pos hv, if_pos rfl]; rfl
  · rw [if_neg h, if_neg (fun hh => h hh.symm)]
theorem SL_out {L : List Nat} {v : Nat} (hv : v ∉ L) (f : Int → Int) (xs : List Int) (y : Int) (hl : v < xs.length) : SL L f (xs.set v y) = SL L (fun w => bif decide (w = (v : Int)) then 0 else f w) xs := by
  induction L with
  | nil => rfl
  | cons w L ih =>
    have h1 : w ≠ v := fun h => hv (h ▸ List.mem_cons_self)
    rw [SL_cons, SL_cons, ih (fun h => hv (List.mem_cons_of_mem _ h)), getD_set xs v y hl, if_neg h1, decide_eq_false (show ¬ ((w : Nat) : Int) = (v : Int) by omega)]
    rfl
theorem SL_set {L : List Nat} (hn : L.Nodup) {v : Nat} (hv : v ∈ L) (f : Int → Int) (xs : List Int) (y : Int) (hl : v < xs.length) : SL L f (xs.set v y) = SL L (fun w => bif decide (w = (v : Int)) then 0 else f w) xs + f v * y := by
  induction L with
  | nil => cases hv
  | cons w L ih =>
    rw [List.nodup_cons] at hn
    rw [SL_cons, SL_cons, getD_set xs v y hl]
    by_cases h1 : w = v
    · subst h1
      rw [if_pos rfl, SL_out hn.1 f xs y hl, decide_eq_true rfl, cond_true, Int.zero_mul]
      omega
    · have hv2 : v ∈ L := by
        rcases List.mem_cons.1 hv with h | h
        · exact absurd h.symm h1
        · exact h
      rw [ih hn.2 hv2, if_neg h1, decide_eq_false (show ¬ ((w : Nat) : Int) = (v : Int) by omega), cond_false]
      omega
theorem atO_lin {xs : List Int} : ∀ {l : List (Int × Int)} {c s : Int}, In l → atO l xs c = some s → s = c + lin l xs
  | [], c, s, _, h => by
    have h : some c = some s := h
    rw [Option.some.injEq] at h
    rw [← h]
    show c = c + 0
    omega
  | p :: l, c, s, hin, h => by
    have h : (bif decide ((xs.length : Int) ≤ p.1) then atO l xs c else bif fits (p.2 * xs.getD p.1.toNat 0) && fits (c + p.2 * xs.getD p.1.toNat 0) then atO l xs (c + p.2 * xs.getD p.1.toNat 0) else none) = some s := h
    have hl : In l := fun q hq => hin q (List.mem_cons_of_mem _ hq)
    have hp := hin p List.mem_cons_self
    rw [lin_cons]
    by_cases hx : (xs.length : Int) ≤ p.1
    · rw [decide_eq_true hx, cond_true] at h
      rw [atO_lin hl h, show xs.getD p.1.toNat 0 = 0 from by rw [List.getD_eq_getElem?_getD, List.getElem?_eq_none (by omega)]; rfl]
      omega
    · rw [decide_eq_false hx, cond_false] at h
      cases hb : (fits (p.2 * xs.getD p.1.toNat 0) && fits (c + p.2 * xs.getD p.1.toNat 0)) with
      | true =>
        rw [hb, cond_true] at h
        rw [atO_lin hl h]
        omega
      | false => rw [hb] at h; cases h
theorem atE_cases (l : List (Int × Int)) (xs : List Int) (c : Int) (hl : okL l) : (atE l xs c = 0 ∧ atV l xs c = c + lin l xs) ∨ (atE l xs c = 11 ∧ atV l xs c = 0) := by
  have h1 := atE_eq l xs c
  have h2 := atV_eq l xs c
  cases ho : atO l xs c with
  | none =>
    rw [ho] at h1 h2
    exact .inr ⟨h1, h2⟩
  | some s =>
    rw [ho] at h1 h2
    exact .inl ⟨h1, h2.trans (atO_lin (okL_in hl) ho)⟩
/-- A statement's parts. -/
theorem few_ok {ms : List (Int × ByteArray)} (hm : ∀ p ∈ ms, i64B p.1 = true) : isg (prs (fewP ms)) = true := isg_iff.2 ⟨fewP ms, fun p hp => by
  rw [fewP_eq] at hp
  obtain ⟨q, hq, rfl⟩ := List.mem_map.1 hp
  have h1 := hm q (List.mem_of_mem_take hq)
  have h2 := cut_sz q.2
  refine ⟨?_, ?_, by show (cut 400 q.2).size ≤ 10000; omega⟩
  · show i64B (bif decide (q.1 ≥ 4096) then 4095 else q.1) = true
    cases decide (q.1 ≥ 4096) with
    | true => rfl
    | false => exact h1
  · show (bif decide (q.1 ≥ 4096) then (4095 : Int) else q.1) < 4096
    by_cases h : q.1 ≥ 4096
    · rw [decide_eq_true h, cond_true]; decide
    · rw [decide_eq_false h, cond_false]; omega, by rw [fewP_eq, List.length_map, List.length_take]; omega, prs_eq _⟩
end Go.Abs
end
section
/- The statements of layer 3: sums and differences, a term in the place of a variable. -/
namespace Go.Abs
open Go.Proofs Go.Dig
theorem cmp_same (z : Int) : cmpZ z z = 0 := by unfold cmpZ; rw [if_neg (by omega), if_neg (by omega)]
end Go.Abs
end
section
/- The statements of layer 3: values through a put. -/
namespace Go.Abs
open Go.Proofs Go.Dig
theorem at_sum {q r : List (Int × Int)} {c d : Int} (hq : okL q) (hr : okL r) (xs : List Int) (h0 : addE q r c d = 0) (h1 : atE q xs c = 0) (h2 : atE r xs d = 0) (h3 : atE (addL q r c d) xs (addC q r c d) = 0) : atV (addL q r c d) xs (addC q r c d) = atV q xs c + atV r xs d := by
  rcases atE_cases q xs c hq with ⟨_, v1⟩ | ⟨k, _⟩
  · rcases atE_cases r xs d hr with ⟨_, v2⟩ | ⟨k, _⟩
    · rcases atE_cases (addL q r c d) xs (addC q r c d) (okL_add q r c d) with ⟨_, v3⟩ | ⟨k, _⟩
      · rcases addE_cases q r c d with ⟨_, a2, a3, _⟩ | ⟨k, _⟩
        · rw [v1, v2, v3, a3, a2, lin_ofF, lin_cf hq, lin_cf hr]
          have := SL_add (List.range 4096) (cf q) (cf r) xs
          have : SR (fun v => cf q v + cf r v) xs = SR (cf q) xs + SR (cf r) xs := this
          rw [this]; omega
        · rw [h0] at k; cases k
      · rw [h3] at k; cases k
    · rw [h2] at k; cases k
  · rw [h1] at k; cases k
theorem at_put {q r : List (Int × Int)} {c d : Int} (hq : okL q) (hr : okL r) (xs : List Int) {v : Int} (hv : 0 ≤ v) (hl : v.toNat < xs.length) (hm : v < 4096) (h0 : ptE q c v r d = 0) (h1 : atE r xs d = 0) (h2 : atE (ptL q c v r d) xs (ptC q c v r d) = 0) (h3 : atE q (xs.set v.toNat (atV r xs d)) c = 0) : atV (ptL q c v r d) xs (ptC q c v r d) = atV q (xs.set v.toNat (atV r xs d)) c := by
  have oP := okL_pt (m := r) (c := c) (d := d) hq v
  rcases atE_cases r xs d hr with ⟨_, v1⟩ | ⟨k, _⟩
  · rcases atE_cases q (xs.set v.toNat (atV r xs d)) c hq with ⟨_, v2⟩ | ⟨k, _⟩
    · rcases atE_cases (ptL q c v r d) xs (ptC q c v r d) oP with ⟨_, v3⟩ | ⟨k, _⟩
      · rw [v2, v3, v1, lin_cf hq]
        have hs : SR (cf q) (xs.set v.toNat (d + lin r xs)) = SL (List.range 4096) (fun w => bif decide (w = ((v.toNat : Nat) : Int)) then 0 else cf q w) xs + cf q ((v.toNat : Nat) : Int) * (d + lin r xs) :=
          SL_set List.nodup_range (List.mem_range.2 (by omega)) (cf q) xs (d + lin r xs) hl
        rw [Int.toNat_of_nonneg hv] at hs
        rw [hs]
        have hE := ptE_eq q c v r d
        have hL := ptL_eq q c v r d
        have hC := ptC_eq q c v r d
        rw [h0] at hE
        by_cases hz : cf q v = 0
        · rw [hz] at hL hC
          have hL : ptL q c v r d = q := hL
          have hC : ptC q c v r d = c := hC
          rw [hL, hC, hz, Int.zero_mul, lin_cf hq]
          have : SR (cf q) xs = SR (fun w => bif decide (w = v) then 0 else cf q w) xs := SR_congr (fun w _ _ => by
            by_cases hw : w = v
            · rw [decide_eq_true hw, cond_true, hw, hz]
            · rw [decide_eq_false hw, cond_false]) xs
          rw [this]
          show _ = c + (SR _ xs + 0)
          omega
        · have hb : (cf q v == 0) = false := beq_eq_false_iff_ne.2 hz
          rw [hb, cond_false] at hE hL hC
          by_cases hs : scE r d (cf q v) = 0
          · have hs2 : (scE r d (cf q v) == 0) = true := beq_iff_eq.2 hs
            rw [hs2, cond_true] at hE hL hC
            rcases addE_cases (remL q v) (scL r d (cf q v)) c (scC r d (cf q v)) with ⟨_, a2, a3, _⟩ | ⟨a1, _⟩
            · rcases scE_cases r d (cf q v) with ⟨_, s2, s3, _⟩ | ⟨s1, _⟩
              · rw [hL, hC, a2, a3, s3, lin_ofF]
                have e1 : SR (fun w => cf (remL q v) w + cf (scL r d (cf q v)) w) xs = SR (fun w => (bif decide (w = v) then 0 else cf q w) + cf r w * cf q v) xs := SR_congr (fun w w1 w2 => by
                  rw [s2, cf_ofF, if_pos ⟨w1, w2⟩, remL_eq, cf_ofF, if_pos ⟨w1, w2⟩]) xs
                have e2 := SL_add (List.range 4096) (fun w => bif decide (w = v) then 0 else cf q w) (fun w => cf r w * cf q v) xs
                have e3 := SL_mul (List.range 4096) (cf r) (cf q v) xs
                have e4 : SR (cf r) xs = lin r xs := (lin_cf hr xs).symm
                rw [e1]
                show _ + SL _ _ xs = _
                rw [e2, e3]
                show _ + (_ + _ * SR (cf r) xs) = _
                rw [e4, Int.mul_add, Int.mul_comm d]
                omega
              · rw [hs] at s1; cases s1
            · rw [a1] at hE; cases hE
          · have hs2 : (scE r d (cf q v) == 0) = false := beq_eq_false_iff_ne.2 hs
            rw [hs2, cond_false] at hE
            exact absurd hE.symm hs
      · rw [h2] at k; cases k
    · rw [h3] at k; cases k
  · rw [h1] at k; cases k
theorem vws_set (xs : List Int) (i : Nat) (y : Int) : (vws xs).set i [.bool (sg y), .ints .u32 (lb 4294967296 y)] = vws (xs.set i y) := by
  rw [vws_eq, vws_eq, List.map_set]
theorem vws_len (xs : List Int) : (vws xs).length = xs.length := by rw [vws_eq, List.length_map]
theorem law_through : Meets Try.prog 12 (fun a => match a with | [.rows 2 x, .rows 2 xz, .agg [.str _, .rows 1 w, .int .i64 _]] => some (isq x && isq xz && isStrs w, .val (.bool true)) | _ => none) := by
  refine meets_fn (orc_ok (l := KThrough.ans) ⟨meets_jawake, meets_jfew, meets_jterm, meets_jvals, meets_nadd, meets_nat, meets_add, meets_cmp, meets_nputv meets_nscale meets_nadd, trivial⟩) Try.f12 Try.func12 (by kernel_rfl) (fun args r h => ?_)
  split at h
  · rename_i x xz s w v
    simp only [Option.some.injEq, Prod.mk.injEq, Bool.and_eq_true] at h
    obtain ⟨⟨⟨h1, h2⟩, h3⟩, rfl⟩ := h
    refine ⟨rfl, _, noTab_all, (KThrough.rest x xz s w v).trans ((bT h1).trans ?_)⟩
    obtain ⟨ms, hm, rfl⟩ := isq_iff.1 h1
    obtain ⟨ns, hn, rfl⟩ := isq_iff.1 h2
    rw [dp_map, dp_map]
    refine (bT (few_ok hm)).trans ((bT h2).trans ((bT (few_ok hn)).trans ((bT h3).trans ?_)))
    rw [dp_prs, dp_prs]
    have oQ := okL_te (fewP ms)
    have fQ := fits_te (fewP ms)
    have oR := okL_te (fewP ns)
    have fR := fits_te (fewP ns)
    by_cases e1 : suE (fewP ms) = 0
    · refine (bF (by rw [e1]; rfl)).trans ?_
      by_cases e2 : suE (fewP ns) = 0
      · refine (bF (by rw [e2]; rfl)).trans ?_
        have xF := vals_fits (strL w)
        have xL := vals_len (strL w)
        have xI := isvw_vals (strL w)
        generalize vals (strL w) = xs at *
        generalize teL (fewP ms) = q at *
        generalize teC (fewP ms) = c at *
        generalize teL (fewP ns) = r at *
        generalize teC (fewP ns) = d at *
        by_cases v0 : v < 0
        · exact bT (decide_eq_true v0)
        refine (bF (decide_eq_false v0)).trans ?_
        rw [vws_len]
        by_cases v1 : v ≥ (xs.length : Int)
        · exact bT (decide_eq_true v1)
        refine (bF (decide_eq_false v1)).trans ?_
        have fA := fits_atV (l := q) (xs := xs) fQ
        have fB := fits_atV (l := r) (xs := xs) fR
        have fS := fits_atV (l := addL q r c d) (xs := xs) (fits_addC q r c d)
        have oP := okL_pt (m := r) (c := c) (d := d) oQ v
        have fP := fits_ptC (l := q) (m := r) (d := d) fQ v
        have fT := fits_atV (l := ptL q c v r d) (xs := xs) fP
        have fU := fits_atV (l := q) (xs := xs.set v.toNat (atV r xs d)) fQ
        have fH : fits (hz (atV q xs c + atV r xs d)) = true := by
          cases hf : fits (atV q xs c + atV r xs d) with
          | true => rw [hz_fit hf]; exact hf
          | false => unfold hz; rw [hf]; exact fits0
        have sI : isvw (vws (xs.set v.toNat (atV r xs d))) = true := isvw_iff.2 ⟨_, fun z hz => by
          rcases List.mem_or_eq_of_mem_set hz with h | h
          · exact xF z h
          · rw [h]; exact fB, by rw [List.length_set]; omega, vws_eq _⟩
        have rm : decide (xs.length * 32 ≤ 140737488355328) = true := decide_eq_true (by omega)
        have ib : inB v xs.length = true := inB_iff.2 ⟨by omega, by omega⟩
        simp only [isT_of oQ fQ, isT_of oR fR, dl_lvs, dvw_vws, N_eq, Bool.and_self, cond_true, xI, isT_of (okL_add q r c d) (fits_addC q r c d), cnW_fits fA, cnW_fits fB, fA, fB, cnW_fits fS, cnW_fits fH,
          List.nil_append, vws_set, vws_len, sI, rm, ib, isT_of oP fP, cnW_fits fT, cnW_fits fU]
        have put : (bif ptE q c v r d != 0 then some (Res.val (AV.bool true)) else bif atE r xs d != 0 then some (Res.val (AV.bool true)) else bif atE (ptL q c v r d) xs (ptC q c v r d) != 0 then some (Res.val (AV.bool true)) else bif atE q (xs.set v.toNat (atV r xs d)) c != 0 then some (Res.val (AV.bool true)) else some (Res.val (AV.bool (cmpZ (atV (ptL q c v r d) xs (ptC q c v r d)) (atV q (xs.set v.toNat (atV r xs d)) c) == 0)))) = some (Res.val (AV.bool true)) := by
          by_cases p1 : ptE q c v r d = 0
          · refine (bF (eq_b p1)).trans ?_
            by_cases p2 : atE r xs d = 0
            · refine (bF (eq_b p2)).trans ?_
              by_cases p3 : atE (ptL q c v r d) xs (ptC q c v r d) = 0
              · refine (bF (eq_b p3)).trans ?_
                by_cases p4 : atE q (xs.set v.toNat (atV r xs d)) c = 0
                · refine (bF (eq_b p4)).trans ?_
                  rw [at_put oQ oR xs (by omega) (by omega) (by omega) p1 p2 p3 p4, cmp_same]; rfl
                · exact bT (ne_b p4)
              · exact bT (ne_b p3)
            · exact bT (ne_b p2)
          · exact bT (ne_b p1)
        rw [put]
        by_cases a1 : addE q r c d = 0
        · refine (bT (beq_iff_eq.2 a1)).trans ?_
          by_cases a2 : atE q xs c = 0
          · refine (bT (beq_iff_eq.2 a2)).trans ?_
            by_cases a3 : atE r xs d = 0
            · refine (bT (beq_iff_eq.2 a3)).trans ?_
              by_cases a4 : atE (addL q r c d) xs (addC q r c d) = 0
              · refine (bT (beq_iff_eq.2 a4)).trans ?_
                cases hf : fits (atV q xs c + atV r xs d) with
                | true =>
                  rw [he_fit hf, hz_fit hf, at_sum oQ oR xs a1 a2 a3 a4, cmp_same]
                  rfl
                | false => rw [he_big hf]; rfl
              · exact bF (beq_eq_false_iff_ne.2 a4)
            · exact bF (beq_eq_false_iff_ne.2 a3)
          · exact bF (beq_eq_false_iff_ne.2 a2)
        · exact bF (beq_eq_false_iff_ne.2 a1)
      · exact bT (by rw [show (suE (fewP ns) == 0) = false from beq_eq_false_iff_ne.2 e2]; rfl)
    · exact bT (by rw [show (suE (fewP ms) == 0) = false from beq_eq_false_iff_ne.2 e1]; rfl)
  · cases h
end Go.Abs
end
