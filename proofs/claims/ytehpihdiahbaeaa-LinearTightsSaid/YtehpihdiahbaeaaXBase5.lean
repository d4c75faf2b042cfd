/- What the rows of this seat rest on, part 5: an abstract machine for the model, proved sound, and the functions that the statements reach. No conditions. -/
import Derived.Test.YtehpihdiahbaeaaXBase4
set_option linter.unusedVariables false
set_option linter.unusedSimpArgs false
set_option linter.unnecessarySimpa false
set_option linter.unusedSectionVars false
section
/- The statements of layer 3: the term of a list of parts; the page's examples. -/
namespace Go.Abs
open Go.Proofs Go.Dig
theorem fits_one : fits 1 = true := by kernel_rfl
/-- The page's examples. -/
abbrev aw : List (Int × ByteArray) := [(0, ⟨#[50]⟩), (1, ⟨#[45, 52]⟩)]
abbrev awL : List (Int × Int) := [(0, 2), (1, -4)]
theorem aw_two : (rv ⟨#[50]⟩ = 2 ∧ re ⟨#[50]⟩ = 0) ∧ (rv ⟨#[45, 52]⟩ = -4 ∧ re ⟨#[45, 52]⟩ = 0) ∧ rv ⟨#[51]⟩ = 3 ∧ re ⟨#[51]⟩ = 0 := ⟨⟨by kernel_rfl, by kernel_rfl⟩, ⟨by kernel_rfl, by kernel_rfl⟩, by kernel_rfl, by kernel_rfl⟩
theorem aw_ofF {a b : Int} (ha : a ≠ 0) (hb : b ≠ 0) {f : Int → Int} (h : ∀ v, 0 ≤ v → v < 4096 → f v = if v = 0 then a else if v = 1 then b else 0) : ofF f = [(0, a), (1, b)] := by
  refine (eq_ofF ?_ ?_ (fun v => ?_)).symm
  · exact List.pairwise_cons.2 ⟨fun p hp => by rw [List.mem_singleton.1 hp]; exact (by decide : (0 : Int) < 1), List.pairwise_singleton ..⟩
  · intro p hp
    rcases List.mem_cons.1 hp with rfl | hp
    · exact ha
    · rw [List.mem_singleton.1 hp]; exact hb
  · rw [cf_cons, cf_cons, cf_nil]
    by_cases hv : 0 ≤ v ∧ v < 4096
    · rw [if_pos hv, h v hv.1 hv.2]
      by_cases h0 : v = 0
      · rw [if_pos h0, if_pos h0.symm]
      · rw [if_neg h0, if_neg (fun hh => h0 hh.symm)]
        by_cases h1 : v = 1
        · rw [if_pos h1, if_pos h1.symm]
        · rw [if_neg h1, if_neg (fun hh => h1 hh.symm)]
    · rw [if_neg hv, if_neg (by show ¬ (0 : Int) = v; omega), if_neg (by show ¬ (1 : Int) = v; omega)]
theorem aw_cf (v : Int) : cf awL v = if v = 0 then 2 else if v = 1 then -4 else 0 := by
  rw [cf_cons, cf_cons, cf_nil]
  by_cases h0 : v = 0
  · rw [if_pos h0, if_pos h0.symm]
  · rw [if_neg h0, if_neg (fun hh => h0 hh.symm)]
    by_cases h1 : v = 1
    · rw [if_pos h1, if_pos h1.symm]
    · rw [if_neg h1, if_neg (fun hh => h1 hh.symm)]
theorem fits_m4 : fits (-4) = true := by kernel_rfl
theorem fits_two : fits 2 = true := by kernel_rfl
theorem fits_three : fits 3 = true := by kernel_rfl
theorem aw_rdF : rdF [] aw = (0, awL) := by
  obtain ⟨⟨a1, a2⟩, ⟨a3, a4⟩, _⟩ := aw_two
  have h1 : rdF [] aw = bif !(vE 0 == 0) then (vE 0, []) else bif !(re ⟨#[50]⟩ == 0) then (re ⟨#[50]⟩, []) else bif addE [] (lone 0 (rv ⟨#[50]⟩)) 0 0 == 0 then rdF (addL [] (lone 0 (rv ⟨#[50]⟩)) 0 0) [(1, ⟨#[45, 52]⟩)] else (addE [] (lone 0 (rv ⟨#[50]⟩)) 0 0, []) := rfl
  have h2 : ∀ q, rdF q [(1, ⟨#[45, 52]⟩)] = bif !(vE 1 == 0) then (vE 1, []) else bif !(re ⟨#[45, 52]⟩ == 0) then (re ⟨#[45, 52]⟩, []) else bif addE q (lone 1 (rv ⟨#[45, 52]⟩)) 0 0 == 0 then (0, addL q (lone 1 (rv ⟨#[45, 52]⟩)) 0 0) else (addE q (lone 1 (rv ⟨#[45, 52]⟩)) 0 0, []) := fun q => rfl
  obtain ⟨b1, b2⟩ := (add_lone okL_nil (v := 0) (c := 2) (by omega) fits_two).1 (by rw [cf_nil]; exact fits_two)
  have b3 : addL [] (lone 0 2) 0 0 = lone 0 2 := by
    rw [b2, wiL_eq, lone_eq]
    refine ofF_congr (fun w _ _ => ?_)
    rw [cf_nil, Int.zero_add]
  have hok : okL (lone 0 2) := okL_lone 0 fits_two
  have hc : cf (lone 0 2) 1 = 0 := by rw [cf_lone, if_neg (fun hh => absurd hh.2 (by decide))]
  obtain ⟨d1, d2⟩ := (add_lone hok (v := 1) (c := -4) (by omega) fits_m4).1 (by rw [hc]; exact fits_m4)
  have d3 : addL (lone 0 2) (lone 1 (-4)) 0 0 = awL := by
    rw [d2, wiL_eq]
    refine aw_ofF (by decide) (by decide) (fun w _ _ => ?_)
    rw [cf_lone]
    by_cases h0 : w = 0
    · rw [if_pos h0, decide_eq_false (by omega), if_pos ⟨by omega, h0⟩]; rfl
    · rw [if_neg h0, if_neg (fun hh => h0 hh.2)]
      by_cases h1 : w = 1
      · rw [if_pos h1, decide_eq_true h1]; rfl
      · rw [if_neg h1, decide_eq_false h1]; rfl
  rw [h1, a2, a1, b1, b3, h2, a4, a3, d1, d3]
  rfl
theorem aw_rd : rdE aw ⟨#[51]⟩ = 0 ∧ rdL aw ⟨#[51]⟩ = awL ∧ rdM aw ⟨#[51]⟩ = 3 := by
  obtain ⟨_, _, a5, a6⟩ := aw_two
  rcases rd_cases aw ⟨#[51]⟩ with ⟨c1, _⟩ | ⟨_, c0, _⟩ | ⟨_, _, c2, c3⟩
  · exact absurd c1 (by decide)
  · exact absurd a6 c0
  · rw [aw_rdF] at c2 c3
    rcases c3 with ⟨_, c3, c4⟩ | ⟨c3, _⟩
    · exact ⟨c2, c3, c4.trans a5⟩
    · exact absurd rfl c3
theorem aw_okL : okL awL := by
  have := okL_rd aw ⟨#[51]⟩
  rw [aw_rd.2.1] at this
  exact this
theorem aw_gcd : gcdL awL = 2 := by rw [gcdL_eq]; kernel_rfl
theorem aw_ti : tiL awL = [(0, 1), (1, -2)] ∧ tiM awL 3 = 1 := by
  have h1 := tiL_eq awL
  have h2 := tiM_eq awL 3
  rw [aw_gcd] at h1 h2
  have h1 : tiL awL = ofF (fun v => dq (cf awL v) 2) := h1
  have h2 : tiM awL 3 = dq 3 2 := h2
  refine ⟨?_, h2⟩
  rw [h1]
  refine aw_ofF (by decide) (by decide) (fun w _ _ => ?_)
  rw [aw_cf]
  by_cases h0 : w = 0
  · rw [if_pos h0, if_pos h0]; rfl
  · rw [if_neg h0, if_neg h0]
    by_cases h1 : w = 1
    · rw [if_pos h1, if_pos h1]; rfl
    · rw [if_neg h1, if_neg h1]; rfl
theorem aw_no : noL awL 3 = [(0, -2), (1, 4)] ∧ noM 3 = -4 ∧ he (3 + 1) = 0 := by
  have h1 := noL_eq awL 3
  have h2 := noM_eq 3
  have h3 : he (3 + 1) = 0 := by kernel_rfl
  rw [h3] at h1 h2
  have h1 : noL awL 3 = negL awL := h1
  have h2 : noM 3 = -4 := h2
  refine ⟨?_, h2, h3⟩
  rw [h1, negL_eq]
  refine aw_ofF (by decide) (by decide) (fun w _ _ => ?_)
  rw [aw_cf]
  by_cases h0 : w = 0
  · rw [if_pos h0, if_pos h0]
  · rw [if_neg h0, if_neg h0]
    by_cases h1 : w = 1
    · rw [if_pos h1, if_pos h1]; rfl
    · rw [if_neg h1, if_neg h1]; rfl
theorem aw_t1 : ((ttxt [(0, 1), (1, -2)] 0).toList == [(49 : UInt8), (42 : UInt8), (120 : UInt8), (48 : UInt8), (32 : UInt8), (43 : UInt8), (32 : UInt8), (45 : UInt8), (50 : UInt8), (42 : UInt8), (120 : UInt8), (49 : UInt8)]) = true := by rw [ttxt_eq]; kernel_rfl
theorem aw_t2 : ((ttxt [(0, -2), (1, 4)] 0).toList == [(45 : UInt8), (50 : UInt8), (42 : UInt8), (120 : UInt8), (48 : UInt8), (32 : UInt8), (43 : UInt8), (32 : UInt8), (52 : UInt8), (42 : UInt8), (120 : UInt8), (49 : UInt8)]) = true := by rw [ttxt_eq]; kernel_rfl
theorem meets_jawake : Meets Try.prog 13 anlAwake := by
  refine meets_fn (orc_ok (l := JAwake.ans) ⟨meets_nread meets_nadd, meets_nnot, meets_ntight, meets_ntext, meets_text, trivial⟩) Try.f13 Try.func13 (by kernel_rfl) (fun args r h => ?_)
  unfold anlAwake at h
  split at h
  · simp only [Option.some.injEq, Prod.mk.injEq] at h
    obtain ⟨_, rfl⟩ := h
    refine ⟨rfl, _, noTab_all, JAwake.rest.trans ?_⟩
    have hr : ([[AV.int .i64 0, .str { data := #[50] }], [.int .i64 1, .str { data := #[45, 52] }]] : List (List AV)) = aw.map cP := rfl
    have hq : isq (aw.map cP) = true := isq_iff.2 ⟨aw, fun p hp => by
      rcases List.mem_cons.1 hp with rfl | hp
      · rfl
      · rw [List.mem_singleton.1 hp]; rfl, rfl⟩
    have hp : isp (aw.map cP) = true := isp_iff.2 ⟨aw, fun p hp => by
      rcases List.mem_cons.1 hp with rfl | hp
      · exact ⟨rfl, by decide⟩
      · rw [List.mem_singleton.1 hp]; exact ⟨rfl, by decide⟩, rfl⟩
    obtain ⟨r1, r2, r3⟩ := aw_rd
    obtain ⟨t1, t2⟩ := aw_ti
    obtain ⟨n1, n2, n3⟩ := aw_no
    have x1 : ((txt 1).toList == [(49 : UInt8)]) = true := by kernel_rfl
    have x2 : ((txt (-4)).toList == [(45 : UInt8), (52 : UInt8)]) = true := by kernel_rfl
    have o1 : okL [(0, 1), (1, -2)] := by have := okL_ti aw_okL; rw [t1] at this; exact this
    have o2 : okL [(0, -2), (1, 4)] := by
      have := okL_neg aw_okL
      have h1 := noL_eq awL 3
      rw [n3] at h1
      have h1 : noL awL 3 = negL awL := h1
      rw [← h1, n1] at this
      exact this
    rw [hr, hq, hp, dp_map, r1, r2, r3, isl_lvs aw_okL, N_eq, dl_lvs, t1, t2, n1, n2, n3, isT_of0 o1, isT_of0 o2, dl_lvs, dl_lvs, N_eq, N_eq, aw_t1, aw_t2, x1, x2, cnW_fits fits_three, fits_three, cnW_fits fits_one, cnW_fits fits_m4]
    rfl
  · cases h
end Go.Abs
end
section
/- The statements of layer 3: rows. -/
namespace Go.Abs
open Go.Proofs Go.Dig
theorem tell_len (l : List (Int × Int)) : (tell l).length = l.length := by rw [tell_eq, List.length_map]
theorem isq_tell {l : List (Int × Int)} (h : okL l) : isq (prs (tell l)) = true := isq_iff.2 ⟨tell l, fun p hp => by
  rw [tell_eq] at hp
  obtain ⟨q, hq, rfl⟩ := List.mem_map.1 hp
  exact i64B_var (okL_in h q hq), prs_eq _⟩
theorem len_tell {l : List (Int × Int)} (h : okL l) : (prs (tell l)).length ≤ 100000 := by
  have := okL_len h
  rw [prs_len, tell_len]; omega
theorem sameP_self (a : List (Int × ByteArray)) (s : ByteArray) : sameP a s a s = true := by rw [sameP_eq]; exact cdec_true ⟨rfl, rfl⟩
/-- What a statement's row is. -/
theorem row_ok {ms : List (Int × ByteArray)} (s : ByteArray) (hm : ∀ p ∈ ms, i64B p.1 = true) : (decide ((cut 400 s).size ≤ 10000) && isq (prs (rowP ms)) && (decide ((prs (rowP ms)).length > 4096) || isp (prs (rowP ms)))) = true := by
  have hs := cut_sz s
  have hR := rowP_eq ms
  rw [decide_eq_true (show (cut 400 s).size ≤ 10000 by omega), Bool.true_and, Bool.and_eq_true]
  by_cases hl : ms.length > 4096
  · rw [decide_eq_true hl, cond_true] at hR
    rw [hR]
    refine ⟨isq_iff.2 ⟨ms, hm, prs_eq ms⟩, ?_⟩
    rw [prs_len, decide_eq_true hl]; rfl
  · rw [decide_eq_false hl, cond_false] at hR
    have h1 : ∀ p ∈ rowP ms, i64B p.1 = true ∧ p.2.size ≤ 10000 := fun p hp => by
      rw [hR] at hp
      obtain ⟨q, hq, rfl⟩ := List.mem_map.1 hp
      have := cut_sz q.2
      exact ⟨hm q (List.mem_of_mem_take hq), by show (cut 400 q.2).size ≤ 10000; omega⟩
    refine ⟨isq_iff.2 ⟨rowP ms, fun p hp => (h1 p hp).1, prs_eq _⟩, ?_⟩
    rw [Bool.or_eq_true]
    exact .inr (isp_iff.2 ⟨rowP ms, h1, prs_eq _⟩)
theorem dvd_gcdF (l : List (Int × Int)) (d : Int) : ∀ g : Int, d ∣ g → (∀ p ∈ l, d ∣ p.2) → d ∣ l.foldl (fun g p => gz g p.2) g := by
  induction l with
  | nil => exact fun g h _ => h
  | cons p l ih => exact fun g h hl => ih _ (Int.dvd_coe_gcd h (hl p List.mem_cons_self)) (fun q hq => hl q (List.mem_cons_of_mem _ hq))
theorem dvd_gcdL {l : List (Int × Int)} {d : Int} (h : ∀ p ∈ l, d ∣ p.2) : d ∣ gcdL l := by rw [gcdL_eq]; exact dvd_gcdF l d 0 (Int.dvd_zero d) h
theorem gcd_zero {l : List (Int × Int)} (hl : okL l) (h : gcdL l = 0) : l = [] := by
  cases l with
  | nil => rfl
  | cons p l =>
    have h1 := gcdL_dvd (l := p :: l) (p := p) List.mem_cons_self
    rw [h] at h1
    exact absurd (Int.zero_dvd.1 h1) (okL_nz hl p List.mem_cons_self)
/-- A tight row has no common divisor. -/
theorem gcd_ti {l : List (Int × Int)} (hl : okL l) : gcdL (tiL l) = 1 ∨ (gcdL (tiL l) = 0 ∧ l = []) := by
  have hT := tiL_eq l
  have hn := gcdL_nonneg l
  by_cases hg : gcdL l ≤ 1
  · rw [decide_eq_true hg, cond_true] at hT
    rw [hT]
    by_cases h0 : gcdL l = 0
    · exact .inr ⟨h0, gcd_zero hl h0⟩
    · exact .inl (by omega)
  · rw [decide_eq_false hg, cond_false] at hT
    refine .inl ?_
    have h1 : gcdL (tiL l) * gcdL l ∣ gcdL l := dvd_gcdL (fun p hp => by
      have h2 : (p.1, dq p.2 (gcdL l)) ∈ tiL l := by
        rw [hT]
        refine mem_ofF.2 ⟨okL_in hl p hp, ?_, dq_ne (by omega) (gcdL_dvd hp) (okL_nz hl p hp)⟩
        show dq p.2 (gcdL l) = dq (cf l p.1) (gcdL l)
        rw [cf_mem (okL_asc hl) hp]
      have h3 := gcdL_dvd h2
      have h4 := Int.mul_dvd_mul_right (gcdL l) h3
      rw [show (p.1, dq p.2 (gcdL l)).2 = dq p.2 (gcdL l) from rfl, dq_exact (by omega) (gcdL_dvd hp)] at h4
      exact h4)
    have h5 : gcdL (tiL l) ∣ 1 := by
      have h6 : gcdL (tiL l) * gcdL l ∣ 1 * gcdL l := by rw [Int.one_mul]; exact h1
      exact Int.dvd_of_mul_dvd_mul_right (by omega) h6
    have h7 := gcdL_nonneg (tiL l)
    exact Int.eq_one_of_dvd_one h7 h5
theorem ti_ti {l : List (Int × Int)} (hl : okL l) (c : Int) : tiL (tiL l) = tiL l ∧ tiM (tiL l) c = c := by
  have h1 := tiL_eq (tiL l)
  have h2 := tiM_eq (tiL l) c
  have hg : gcdL (tiL l) ≤ 1 := by
    rcases gcd_ti hl with h | ⟨h, _⟩ <;> omega
  rw [decide_eq_true hg, cond_true] at h1 h2
  exact ⟨h1, h2⟩
theorem law_tights : Meets Try.prog 5 (fun a => match a with | [.agg [.rows 2 x, .str _]] => some (isq x, .val (.bool true)) | _ => none) := by
  refine meets_fn (orc_ok (l := KTights.ans) ⟨meets_jawake, meets_jrow, meets_nread meets_nadd, meets_ntight, meets_ncommon, meets_text, meets_nisnum, meets_nplain, meets_esamerow, trivial⟩) Try.f5 Try.func5 (by kernel_rfl) (fun args r h => ?_)
  split at h
  · rename_i x s
    simp only [Option.some.injEq, Prod.mk.injEq] at h
    obtain ⟨h1, rfl⟩ := h
    refine ⟨rfl, _, noTab_all, (KTights.rest x s).trans ((bT h1).trans ?_)⟩
    obtain ⟨ms, hm, rfl⟩ := isq_iff.1 h1
    have hR := row_ok s hm
    rw [dp_map]
    refine (bT hR).trans ?_
    rw [dp_prs]
    have oQ := okL_rd (rowP ms) (cut 400 s)
    have fQ := fits_rdM (rowP ms) (cut 400 s)
    generalize rdL (rowP ms) (cut 400 s) = q at *
    generalize rdM (rowP ms) (cut 400 s) = c at *
    generalize rdE (rowP ms) (cut 400 s) = e at *
    have oT := okL_ti oQ
    have fT := fits_tiM (l := q) fQ
    obtain ⟨t1, t2⟩ := ti_ti oQ (tiM q c)
    have fG := gcdL_fits oT
    simp only [isl_lvs oQ, dl_lvs, dp_prs, N_eq, cnW_fits fQ, fQ, isl_lvs oT, cnW_fits fT, fT, cnW_fits fG, t1, t2, isq_tell oT, len_tell oT, decide_true, Bool.and_self, cond_true, sameP_self, bne_self_eq_false, cond_false, lvs_len]
    by_cases he0 : e = 0
    · refine (bF (eq_b he0)).trans ?_
      rcases gcd_ti oQ with g | ⟨g, rfl⟩
      · rw [g]
        exact bT (by kernel_rfl)
      · rw [g]
        exact (bF (by kernel_rfl)).trans ((bT (by kernel_rfl)).trans (bT rfl))
    · exact bT (ne_b he0)
  · cases h
end Go.Abs
end
