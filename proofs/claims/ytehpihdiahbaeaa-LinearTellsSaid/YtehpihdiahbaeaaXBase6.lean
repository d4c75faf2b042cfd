/- What the rows of this seat rest on, part 6: an abstract machine for the model, proved sound, and the functions that the statements reach. No conditions. -/
import Derived.Test.YtehpihdiahbaeaaXBase5
set_option linter.unusedVariables false
set_option linter.unusedSimpArgs false
set_option linter.unnecessarySimpa false
set_option linter.unusedSectionVars false
section
/- What linear's functions answer: the sum of two terms. -/
namespace Go.Abs
open Go.Proofs Go.Dig
theorem beqN {i n : Nat} (h : i < n) : ((i : Int) == (n : Int)) = false := beq_eq_false_iff_ne.2 (by omega)
theorem beqNN {i n : Nat} (h : i = n) : ((i : Int) == (n : Int)) = true := beq_iff_eq.2 (by omega)
namespace NAdd
/-- The sum of two lists' first parts. -/
noncomputable abbrev sofar (l m : List (Int × Int)) (i k : Nat) : List (Int × Int) := ofF (fun v => cf (l.take i) v + cf (m.take k) v)
theorem sofar_comm (l m : List (Int × Int)) (i k : Nat) : sofar l m i k = sofar m l k i := ofF_congr (fun v _ _ => Int.add_comm _ _)
structure Inv (l m : List (Int × Int)) (i k : Nat) : Prop where
  li : i ≤ l.length
  lk : k ≤ m.length
  a : ∀ p ∈ m.take k, ∀ h : i < l.length, p.1 < l[i].1
  b : ∀ p ∈ l.take i, ∀ h : k < m.length, p.1 < m[k].1
  f : ∀ v, fits (cf (l.take i) v + cf (m.take k) v) = true
theorem Inv.symm {l m : List (Int × Int)} {i k : Nat} (h : Inv l m i k) : Inv m l k i := ⟨h.lk, h.li, h.b, h.a, fun v => by rw [Int.add_comm]; exact h.f v⟩
theorem take_mem {l : List (Int × Int)} {i : Nat} (hi : i < l.length) {p : Int × Int} (h : p ∈ l.take (i + 1)) : p ∈ l.take i ∨ p = l[i] := by
  rw [List.take_add_one, List.getElem?_eq_getElem hi] at h
  rcases List.mem_append.1 h with h | h
  · exact .inl h
  · exact .inr (List.mem_singleton.1 h)
theorem left {l m : List (Int × Int)} (hl : okL l) (hm : okL m) {i k : Nat} (h : Inv l m i k) (hi : i < l.length) (hk : ∀ h : k < m.length, l[i].1 < m[k].1) : putL l[i].2 (sofar l m i k) l[i].1 = sofar l m (i + 1) k ∧ Inv l m (i + 1) k := by
  have h0 : ∀ w, l[i].1 ≤ w → cf (m.take k) w = 0 := fun w hw => cf_none (fun p hp hpv => by have := h.a p hp hi; omega)
  refine ⟨putL_snoc (okL_in hl _ (List.getElem_mem hi)) (fun w h1 h2 => ?_) (fun w h1 h2 => ?_), ⟨hi, h.lk, fun p hp h2 => ?_, fun p hp h2 => ?_, fun v => ?_⟩⟩
  · rw [cf_take_ge (okL_asc hl) hi h1, h0 w h1]; rfl
  · rw [cf_take_succ (okL_asc hl) hi]
    by_cases hw : w = l[i].1
    · rw [if_pos hw, if_pos hw, h0 w (by omega), Int.add_zero]
    · rw [if_neg hw, if_neg hw]
  · have := h.a p hp hi
    have := List.pairwise_iff_getElem.1 (okL_asc hl) i (i + 1) hi h2 (by omega)
    omega
  · rcases take_mem hi hp with hp | rfl
    · exact h.b p hp h2
    · exact hk h2
  · rw [cf_take_succ (okL_asc hl) hi]
    by_cases hw : v = l[i].1
    · rw [if_pos hw, h0 v (by omega), Int.add_zero]
      exact okL_mem hl (List.getElem_mem hi)
    · rw [if_neg hw]; exact h.f v
theorem right {l m : List (Int × Int)} (hl : okL l) (hm : okL m) {i k : Nat} (h : Inv l m i k) (hk : k < m.length) (hi : ∀ h : i < l.length, m[k].1 < l[i].1) : putL m[k].2 (sofar l m i k) m[k].1 = sofar l m i (k + 1) ∧ Inv l m i (k + 1) := by
  obtain ⟨h1, h2⟩ := left hm hl h.symm hk hi
  rw [sofar_comm l m, sofar_comm l m]
  exact ⟨h1, h2.symm⟩
theorem both {l m : List (Int × Int)} (hl : okL l) (hm : okL m) {i k : Nat} (h : Inv l m i k) (hi : i < l.length) (hk : k < m.length) (he : l[i].1 = m[k].1) (hf : fits (l[i].2 + m[k].2) = true) : putL (l[i].2 + m[k].2) (sofar l m i k) l[i].1 = sofar l m (i + 1) (k + 1) ∧ Inv l m (i + 1) (k + 1) := by
  have h0 : ∀ w, l[i].1 ≤ w → cf (m.take k) w = 0 := fun w hw => cf_none (fun p hp hpv => by have := h.a p hp hi; omega)
  have hA : ∀ v, cf (l.take (i + 1)) v + cf (m.take (k + 1)) v = if v = l[i].1 then l[i].2 + m[k].2 else cf (l.take i) v + cf (m.take k) v := fun v => by
    rw [cf_take_succ (okL_asc hl) hi, cf_take_succ (okL_asc hm) hk]
    by_cases hw : v = l[i].1
    · rw [if_pos hw, if_pos (by omega), if_pos hw]
    · rw [if_neg hw, if_neg (by omega), if_neg hw]
  refine ⟨putL_snoc (okL_in hl _ (List.getElem_mem hi)) (fun w h1 h2 => ?_) (fun w h1 h2 => hA w), ⟨hi, hk, fun p hp h2 => ?_, fun p hp h2 => ?_, fun v => ?_⟩⟩
  · rw [cf_take_ge (okL_asc hl) hi h1, h0 w h1]; rfl
  · have h3 := List.pairwise_iff_getElem.1 (okL_asc hl) i (i + 1) hi h2 (by omega)
    rcases take_mem hk hp with hp | rfl
    · have := h.a p hp hi; omega
    · omega
  · have h3 := List.pairwise_iff_getElem.1 (okL_asc hm) k (k + 1) hk h2 (by omega)
    rcases take_mem hi hp with hp | rfl
    · have := h.b p hp hk; omega
    · omega
  · rw [hA]
    split
    · exact hf
    · exact h.f v
def Post (l m : List (Int × Int)) (b : Bool) (bl : List Int) (bz : Bool) (mz : List Int) (e : Ex) (S1 : St) : Prop :=
  (e = .exit 0 ∧ (∀ v, fits (cf l v + cf m v) = true) ∧ ∃ x y, S1 = st0 (l.map (fun p => p.1)) (l.map cL) b bl (m.map (fun p => p.1)) (m.map cL) bz mz x y ((ofF (fun v => cf l v + cf m v)).map (fun p => p.1)) ((ofF (fun v => cf l v + cf m v)).map cL)) ∨
  (e = .ret ∧ (¬ ∀ v, fits (cf l v + cf m v) = true) ∧ ∃ x y l' r', S1 = st0x0 (l.map (fun p => p.1)) (l.map cL) b bl (m.map (fun p => p.1)) (m.map cL) bz mz 11 x y l' r')
theorem loop (l m : List (Int × Int)) (b : Bool) (bl : List Int) (bz : Bool) (mz : List Int) (hl : okL l) (hm : okL m) : ∃ e S1, Ends T orc L0 D0 (st0 (l.map (fun p => p.1)) (l.map cL) b bl (m.map (fun p => p.1)) (m.map cL) bz mz 0 0 [] []) e S1 ∧ Post l m b bl bz mz e S1 := by
  have hz : sofar l m 0 0 = [] := by
    refine (ofF_congr (fun v _ _ => ?_)).trans ofF_zero
    rw [List.take_zero, List.take_zero]; rfl
  have key : ∃ e S1, Ends T orc L0 D0 (st0 (l.map (fun p => p.1)) (l.map cL) b bl (m.map (fun p => p.1)) (m.map cL) bz mz ((0 : Nat) : Int) ((0 : Nat) : Int) ((sofar l m 0 0).map (fun p => p.1)) ((sofar l m 0 0).map cL)) e S1 ∧ Post l m b bl bz mz e S1 := by
    refine loop_inv2 (fun (i k : Nat) => st0 (l.map (fun p => p.1)) (l.map cL) b bl (m.map (fun p => p.1)) (m.map cL) bz mz i k ((sofar l m i k).map (fun p => p.1)) ((sofar l m i k).map cL)) (fun i k => Inv l m i k) (fun i k => (l.length - i) + (m.length - k)) (Post l m b bl bz mz) isL0 ?_ 0 0
      ⟨Nat.zero_le _, Nat.zero_le _, fun p hp => (by rw [List.take_zero] at hp; cases hp), fun p hp => (by rw [List.take_zero] at hp; cases hp), fun v => by rw [List.take_zero, List.take_zero]; exact fits0⟩
    intro i k h
    have hll := okL_len hl
    have hml := okL_len hm
    have hik := h.li
    have hkk := h.lk
    have ho : (sofar l m i k).length ≤ 4096 := ofF_len _
    have hd : decide ((sofar l m i k).length ≤ 100000) = true := decide_eq_true (by omega)
    have si := wi_succ (show i < 4611686018427387904 by omega)
    have sk := wi_succ (show k < 4611686018427387904 by omega)
    refine ⟨noTab, noTab_all, lands_of (round0 ..) ?_⟩
    rw [List.length_map, List.length_map, List.length_map, List.length_map]
    by_cases hi : i < l.length
    · have hfi := okL_mem hl (List.getElem_mem hi)
      have goL : (∀ h : k < m.length, l[i].1 < m[k].1) → Turns2 (fun (i k : Nat) => st0 (l.map (fun p => p.1)) (l.map cL) b bl (m.map (fun p => p.1)) (m.map cL) bz mz i k ((sofar l m i k).map (fun p => p.1)) ((sofar l m i k).map cL)) (fun i k => Inv l m i k) (fun i k => (l.length - i) + (m.length - k)) (Post l m b bl bz mz) ((l.length - i) + (m.length - k)) .normal (st0 (l.map (fun p => p.1)) (l.map cL) b bl (m.map (fun p => p.1)) (m.map cL) bz mz ((i + 1 : Nat) : Int) k ((putL l[i].2 (sofar l m i k) l[i].1).map (fun p => p.1)) ((putL l[i].2 (sofar l m i k) l[i].1).map cL)) := fun hlt => by
        obtain ⟨h1, h2⟩ := left hl hm h hi hlt
        rw [h1]
        refine ⟨i + 1, k, rfl, h2, ?_⟩
        show (l.length - (i + 1)) + (m.length - k) < _
        omega
      rw [ltN hi, inN hi, rdV hi, getL hi]
      by_cases hk : k < m.length
      · have hfk := okL_mem hm (List.getElem_mem hk)
        rw [beqN hk, beqN hi, inN hk, rdV hk, getL hk]
        by_cases h1 : l[i].1 < m[k].1
        · rw [decide_eq_true h1]
          simp only [cL0, cL1, cLeta, cnW_fits hfi, num_lbW, hd, List.length_map, inN hi, cond_true, cond_false, Bool.and_self, si, lands_some]
          rw [putV_map, putR_map l[i].2 _ l[i].1]
          exact goL (fun _ => h1)
        · rw [decide_eq_false h1]
          by_cases h2 : m[k].1 < l[i].1
          · rw [decide_eq_true h2]
            simp only [cL0, cL1, cLeta, cnW_fits hfk, num_lbW, hd, List.length_map, inN hi, inN hk, cond_true, cond_false, Bool.and_self, sk, lands_some, Turns2]
            obtain ⟨h3, h4⟩ := right hl hm h hk (fun _ => h2)
            rw [putV_map, putR_map m[k].2 _ m[k].1, h3]
            exact ⟨i, k + 1, rfl, h4, by omega⟩
          · rw [decide_eq_false h2]
            have he : l[i].1 = m[k].1 := by omega
            simp only [cL0, cL1, cLeta, cnW_fits hfk, cnW_fits hfi, num_lbW, hfi, hfk, hd, List.length_map, inN hi, inN hk, cond_true, cond_false, Bool.and_self, N_eq]
            cases hf : fits (l[i].2 + m[k].2) with
            | false =>
              rw [ne0_of_big hf, he_big hf]
              simp only [cond_true, lands_some, Turns2]
              refine .inr ⟨rfl, fun hall => ?_, i, k, _, _, rfl⟩
              have := hall l[i].1
              rw [cf_mem (okL_asc hl) (List.getElem_mem hi), he, cf_mem (okL_asc hm) (List.getElem_mem hk), hf] at this
              cases this
            | true =>
              rw [eq0_of_fit hf, hz_fit hf, cnW_fits hf]
              simp only [cond_true, cond_false, Bool.and_self, hd, List.length_map, si, sk, lands_some, Turns2]
              obtain ⟨h3, h4⟩ := both hl hm h hi hk he hf
              rw [putV_map, putR_map (l[i].2 + m[k].2) _ l[i].1, h3]
              exact ⟨i + 1, k + 1, rfl, h4, by omega⟩
      · rw [beqNN (show k = m.length by omega)]
        simp only [cL0, cL1, cLeta, cnW_fits hfi, num_lbW, hd, List.length_map, inN hi, cond_true, cond_false, Bool.and_self, si, lands_some]
        rw [putV_map, putR_map l[i].2 _ l[i].1]
        exact goL (fun h => absurd h hk)
    · rw [ltN' hi, beqNN (show i = l.length by omega)]
      by_cases hk : k < m.length
      · have hfk := okL_mem hm (List.getElem_mem hk)
        rw [ltN hk, beqN hk, inN hk, rdV hk, getL hk]
        simp only [cL0, cL1, cLeta, cnW_fits hfk, num_lbW, hd, List.length_map, inN hk, cond_true, cond_false, Bool.and_self, sk, lands_some, Turns2]
        obtain ⟨h3, h4⟩ := right hl hm h hk (fun h => absurd h hi)
        rw [putV_map, putR_map m[k].2 _ m[k].1, h3]
        exact ⟨i, k + 1, rfl, h4, by omega⟩
      · rw [ltN' hk]
        simp only [cond_false, lands_some, Turns2]
        have e1 : l.take i = l := List.take_of_length_le (by omega)
        have e2 : m.take k = m := List.take_of_length_le (by omega)
        have hf := h.f
        unfold sofar
        rw [e1, e2] at hf ⊢
        exact .inl ⟨rfl, hf, i, k, rfl⟩
  rw [hz] at key
  exact key
end NAdd
theorem meets_nadd : Meets Try.prog 46 ansLAdd := by
  refine meets_fn (orc_ok (l := NAdd.ans) ⟨meets_add, meets_lput, trivial⟩) Try.f46 Try.func46 (by kernel_rfl) (fun args r h => ?_)
  unfold ansLAdd at h
  split at h
  · rename_i vs r b m vsz rz bz mz
    simp only [Option.some.injEq, Prod.mk.injEq, Bool.and_eq_true] at h
    obtain ⟨⟨h1, h2⟩, rfl⟩ := h
    obtain ⟨l, c, k1, k2, rfl, rfl, rfl, rfl⟩ := isT_iff.1 h1
    obtain ⟨k, d, k3, k4, rfl, rfl, rfl, rfl⟩ := isT_iff.1 h2
    rw [dl_map, dl_map, num_lbW, num_lbW]
    obtain ⟨e1, S1, hE1, hP⟩ := NAdd.loop l k (sg c) (lb 4294967296 c) (sg d) (lb 4294967296 d) k1 k3
    rcases hP with ⟨rfl, hall, x, y, rfl⟩ | ⟨rfl, hall, x, y, l', r', rfl⟩
    · refine ⟨rfl, _, tabOf_all _, (NAdd.rest_1 _ _ _ _ _ _ _ _ ((ofF (fun v => cf l v + cf k v)).map (fun p => p.1)) ((ofF (fun v => cf l v + cf k v)).map cL) x y).trans ?_⟩
      rw [num_lbW, num_lbW, cnW_fits k2, cnW_fits k4, k2, k4]
      rcases addE_cases l k c d with ⟨e1, e2, e3, e4, _⟩ | ⟨e1, e2, e3, e4⟩
      · rw [e1, e2, e3, eq0_of_fit e4, hz_fit e4, cdec_true hE1, lvs_eq, lrs_eq]
        rfl
      · have hcb : fits (c + d) = false := by rw [Bool.eq_false_iff]; exact fun hh => e4 ⟨hh, hall⟩
        rw [e1, e2, e3, ne0_of_big hcb, he_big hcb, lvs_nil, lrs_nil]
        rfl
    · refine ⟨rfl, _, tabOf_all _, (NAdd.rest_0 _ _ _ _ _ _ _ _ 11 x y l' r').trans ?_⟩
      rw [num_lbW, num_lbW, cnW_fits k2, cnW_fits k4, k2, k4]
      rcases addE_cases l k c d with ⟨e1, e2, e3, e4, e5⟩ | ⟨e1, e2, e3, e4⟩
      · exact absurd e5 hall
      · rw [e1, e2, e3, lvs_nil, lrs_nil, cdec_true hE1]
        cases hcb : fits (c + d) with
        | false => rw [ne0_of_big hcb, he_big hcb]; rfl
        | true => rw [eq0_of_fit hcb]; rfl
  · cases h
end Go.Abs
end
section
/- The statements of layer 3: what their helpers answer. -/
namespace Go.Abs
open Go.Proofs Go.Dig
/-- A row of one's own that is handed back is a value that is read. -/
theorem own_val {P : Program} {f : Nat} {A B : List AV → Option (Bool × Res)} (h : Meets P f A) (hB : ∀ args r, B args = some (true, r) → ∃ x, r = .val x ∧ A args = some (true, .own x)) : Meets P f B := by
  intro args r hr F w vs hF hav
  obtain ⟨x, rfl, hA⟩ := hB args r hr
  obtain ⟨fn, h1, h2, h3, h4⟩ := h args _ hA F w vs hF hav
  refine ⟨fn, h1, h2, h3, h4.mono (fun e w' he => ?_)⟩
  obtain ⟨v, e1, k1, F', k2, k3, k4⟩ := he
  refine ⟨v, e1, k1, fun b => F' b ∨ v.ownBlock = some b, ⟨fun k hk => .inl (k2.up k hk), fun k hk => ?_, fun k hk => ?_⟩, k3.rep (fun _ h => .inl h) (fun b hb => .inr hb)⟩
  · rcases hk with hk | hk
    · exact k2.new k hk
    · exact .inr (k4 k hk).1
  · rcases hk with hk | hk
    · exact k2.lt k hk
    · exact (k4 k hk).2.1
theorem cut_le {s : ByteArray} (h : ¬ s.size > 400) : cut 400 s = s := by unfold cut; rw [decide_eq_false h]; rfl
theorem cut_gt {s : ByteArray} (h : s.size > 400) : cut 400 s = s.extract 0 400 := by unfold cut; rw [decide_eq_true h]; rfl
theorem cut_sz (s : ByteArray) : (cut 400 s).size ≤ 400 := by
  by_cases h : s.size > 400
  · rw [cut_gt h, ByteArray.size_extract]; omega
  · rw [cut_le h]; omega
abbrev fewOf (p : Int × ByteArray) : Int × ByteArray := (bif decide (p.1 ≥ 4096) then 4095 else p.1, cut 400 p.2)
theorem room24 {l : List (List AV)} (h : l.length ≤ 100000) : (true && decide (l.length * 24 ≤ 140737488355328)) = true := by
  rw [Bool.true_and, decide_eq_true_eq]; omega
namespace JFew
theorem loop (ms : List (Int × ByteArray)) : ∃ e S1, Ends T orc L0 D0 (st0 (ms.map cP) 0 []) e S1 ∧ e = .exit 0 ∧ ∃ x, S1 = st0 (ms.map cP) x (((ms.take 12).map fewOf).map cP) := by
  have key : ∃ e S1, Ends T orc L0 D0 (st0 (ms.map cP) ((0 : Nat) : Int) (((ms.take 0).map fewOf).map cP)) e S1 ∧ e = .exit 0 ∧ ∃ x, S1 = st0 (ms.map cP) x (((ms.take 12).map fewOf).map cP) := by
    refine loop_inv1 (fun (i : Nat) => st0 (ms.map cP) i (((ms.take i).map fewOf).map cP)) (fun i => i ≤ ms.length ∧ i ≤ 12) (fun i => 12 - i)
      (fun e S1 => e = .exit 0 ∧ ∃ x, S1 = st0 (ms.map cP) x (((ms.take 12).map fewOf).map cP)) isL0 ?_ 0 ⟨Nat.zero_le _, by omega⟩
    intro i ⟨h1, h2⟩
    refine ⟨noTab, noTab_all, lands_of (round0 ..) ?_⟩
    rw [List.length_map]
    by_cases hi : i < ms.length
    · by_cases hj : i < 12
      · have e : ((ms.take i).map fewOf).map cP ++ [cP (fewOf ms[i])] = ((ms.take (i + 1)).map fewOf).map cP := by
          rw [List.take_add_one, List.getElem?_eq_getElem hi, List.map_append, List.map_append]; rfl
        have hr : (true && decide ((((ms.take (i + 1)).map fewOf).map cP).length * 24 ≤ 140737488355328)) = true := room24 (by rw [List.length_map, List.length_map, List.length_take]; omega)
        have fin : Turns1 (fun (i : Nat) => st0 (ms.map cP) i (((ms.take i).map fewOf).map cP)) (fun i => i ≤ ms.length ∧ i ≤ 12) (fun i => 12 - i) (fun e S1 => e = .exit 0 ∧ ∃ x, S1 = st0 (ms.map cP) x (((ms.take 12).map fewOf).map cP)) (12 - i) .normal (st0 (ms.map cP) ((i + 1 : Nat) : Int) (((ms.take (i + 1)).map fewOf).map cP)) := ⟨i + 1, rfl, ⟨by omega, by omega⟩, by show 12 - (i + 1) < _; omega⟩
        rw [ltN hi, inN hi, getP hi, decide_eq_true (show (i : Int) < 12 by omega)]
        have si := wi_succ (show i < 4611686018427387904 by omega)
        by_cases hs : ms[i].2.size > 400
        · have hs1 : ((ms[i].2.size : Nat) : Int) > 400 := by omega
          have hs2 : 400 ≤ ((ms[i].2.size : Nat) : Int) := by omega
          rw [show fewOf ms[i] = (bif decide (ms[i].1 ≥ 4096) then 4095 else ms[i].1, ms[i].2.extract 0 400) from by unfold fewOf; rw [cut_gt hs]] at e
          by_cases hv : ms[i].1 ≥ 4096
          · rw [decide_eq_true hv] at e
            have e : ((ms.take i).map fewOf).map cP ++ [[AV.int .i64 4095, .str (ms[i].2.extract 0 400)]] = ((ms.take (i + 1)).map fewOf).map cP := e
            simp only [cP0, cP1, cPeta, cond_true, hs1, hs2, hv, decide_true, Bool.and_self, e, hr, si, lands_some]
            exact fin
          · rw [decide_eq_false hv] at e
            have e : ((ms.take i).map fewOf).map cP ++ [[AV.int .i64 ms[i].1, .str (ms[i].2.extract 0 400)]] = ((ms.take (i + 1)).map fewOf).map cP := e
            simp only [cP0, cP1, cPeta, cond_true, cond_false, hs1, hs2, hv, decide_true, decide_false, Bool.and_self, e, hr, si, lands_some]
            exact fin
        · have hs1 : ¬ ((ms[i].2.size : Nat) : Int) > 400 := by omega
          rw [show fewOf ms[i] = (bif decide (ms[i].1 ≥ 4096) then 4095 else ms[i].1, ms[i].2) from by unfold fewOf; rw [cut_le hs]] at e
          by_cases hv : ms[i].1 ≥ 4096
          · rw [decide_eq_true hv] at e
            have e : ((ms.take i).map fewOf).map cP ++ [[AV.int .i64 4095, .str ms[i].2]] = ((ms.take (i + 1)).map fewOf).map cP := e
            simp only [cP0, cP1, cPeta, cond_true, cond_false, hs1, hv, decide_true, decide_false, e, hr, si, lands_some]
            exact fin
          · rw [decide_eq_false hv] at e
            have e : ((ms.take i).map fewOf).map cP ++ [[AV.int .i64 ms[i].1, .str ms[i].2]] = ((ms.take (i + 1)).map fewOf).map cP := e
            simp only [cP0, cP1, cPeta, cond_true, cond_false, hs1, hv, decide_true, decide_false, e, hr, si, lands_some]
            exact fin
      · have hij : i = 12 := by omega
        subst hij
        rw [ltN hi, decide_eq_false (show ¬ ((12 : Nat) : Int) < 12 by omega)]
        simp only [cond_true, cond_false, lands_some, Turns1]
        exact ⟨trivial, _, rfl⟩
    · rw [ltN' hi]
      simp only [cond_false, lands_some, Turns1]
      have e1 : ms.take i = ms := List.take_of_length_le (by omega)
      have e2 : ms.take 12 = ms := List.take_of_length_le (by omega)
      rw [e1, e2]
      exact ⟨trivial, i, rfl⟩
  exact key
end JFew
theorem meets_jfew : Meets Try.prog 28 anjFew := by
  have key : Meets Try.prog 28 (fun a => match a with | [.rows 2 x] => some (isq x, .own (.rows 2 (prs (fewP (dp x))))) | _ => none) := by
    refine meets_fn (orc_ok (l := JFew.ans) trivial) Try.f28 Try.func28 (by kernel_rfl) (fun args r h => ?_)
    split at h
    · rename_i x
      simp only [Option.some.injEq, Prod.mk.injEq] at h
      obtain ⟨h1, rfl⟩ := h
      obtain ⟨ms, _, rfl⟩ := isq_iff.1 h1
      rw [dp_map, prs_eq, fewP_eq]
      obtain ⟨e1, S1, hE1, rfl, x, rfl⟩ := JFew.loop ms
      exact ⟨rfl, _, tabOf_all _, (JFew.rest _ (((ms.take 12).map fewOf).map cP) x).trans (bT (cdec_true hE1))⟩
    · cases h
  refine own_val key (fun args r h => ?_)
  unfold anjFew at h
  split at h
  · simp only [Option.some.injEq, Prod.mk.injEq] at h
    obtain ⟨h1, rfl⟩ := h
    exact ⟨_, rfl, by simp only [h1]⟩
  · cases h
end Go.Abs
end
section
/- The statements of layer 3: the term of a list of parts; the page's examples. -/
namespace Go.Abs
open Go.Proofs Go.Dig
theorem isT_nilc {c : Int} (h : fits c = true) : isT [] [] (sg c) (lb 4294967296 c) = true := isT_iff.2 ⟨[], c, okL_nil, h, rfl, rfl, rfl, rfl⟩
theorem fits_one : fits 1 = true := by kernel_rfl
namespace JTerm
def Post (ms : List (Int × ByteArray)) (e : Ex) (S1 : St) : Prop :=
  (e = .exit 0 ∧ ((∃ q c x, suF [] 0 ms = (0, q, c) ∧ S1 = st0 (ms.map cP) x (lvs q) (lrs q) (sg c) (lb 4294967296 c)) ∨ (ms = [] ∧ S1 = st0e (ms.map cP)))) ∨
  (e = .ret ∧ ∃ n q c, n ≠ 0 ∧ suF [] 0 ms = (n, q, c) ∧ ((∃ x, S1 = st0x0 (ms.map cP) x (lvs q) (lrs q) (sg c) (lb 4294967296 c)) ∨ (q = [] ∧ c = 0 ∧ ∃ x l r b l', S1 = st0 (ms.map cP) x l r b l')))
theorem loop (ms : List (Int × ByteArray)) (hm : ∀ p ∈ ms, i64B p.1 = true ∧ p.1 < 4096 ∧ p.2.size ≤ 10000) (hlen : ms.length ≤ 100000) (i0 : Nat) (q0 : List (Int × Int)) (c0 : Int) (g0 : i0 ≤ ms.length) (g1 : okL q0) (g2 : fits c0 = true) (g3 : suF q0 c0 (ms.drop i0) = suF [] 0 ms) : ∃ e S1, Ends T orc L0 D0 (st0 (ms.map cP) i0 (lvs q0) (lrs q0) (sg c0) (lb 4294967296 c0)) e S1 ∧ Post ms e S1 := by
  refine loop_inv3 (fun (i : Nat) (q : List (Int × Int)) (c : Int) => st0 (ms.map cP) i (lvs q) (lrs q) (sg c) (lb 4294967296 c)) (fun i q c => i ≤ ms.length ∧ okL q ∧ fits c = true ∧ suF q c (ms.drop i) = suF [] 0 ms) (fun i q c => ms.length - i)
    (Post ms) isL0 ?_ i0 q0 c0 ⟨g0, g1, g2, g3⟩
  intro i q c ⟨h1, h2, h4, h3⟩
  refine ⟨noTab, noTab_all, lands_of (round0 ..) ?_⟩
  by_cases hi : i < ms.length
  · obtain ⟨_, hv4, hsz⟩ := hm _ (List.getElem_mem hi)
    rw [suF_drop hi] at h3
    rw [List.length_map, ltN hi, inN hi, getP hi]
    have hfr := fits_rv ms[i].2
    by_cases he : re ms[i].2 = 0
    · rw [he] at h3
      by_cases hv : ms[i].1 ≥ 0
      · have h3 : (bif decide (0 ≤ ms[i].1) then (bif addE q (lone ms[i].1 (rv ms[i].2)) c 0 == 0 then suF (addL q (lone ms[i].1 (rv ms[i].2)) c 0) (addC q (lone ms[i].1 (rv ms[i].2)) c 0) (ms.drop (i + 1)) else (addE q (lone ms[i].1 (rv ms[i].2)) c 0, [], 0)) else _) = suF [] 0 ms := h3
        rw [decide_eq_true (show 0 ≤ ms[i].1 from hv), cond_true] at h3
        have v1 : vok ms[i].1 = true := vok_iff.2 ⟨hv, hv4⟩
        have v2 : vE ms[i].1 = 0 := by unfold vE; rw [v1]; rfl
        obtain ⟨s1, s2, s3⟩ := scale_lone ms[i].1 hfr
        simp only [plP0, plP0e, plP1, plP1e, placeP1, placeP2, cond_true, hsz, hv, decide_true, he, bne_self_eq_false, cond_false, v1, v2, isT_of0 (okL_lone ms[i].1 fits_one), cnW_fits hfr, N_eq, hfr, Bool.and_self, dl_lvs, s1, s2, s3, isT_of h2 h4, isT_of (okL_lone ms[i].1 hfr) fits0, num_lbW]
        rcases addE_cases q (lone ms[i].1 (rv ms[i].2)) c 0 with ⟨a1, _⟩ | ⟨a1, _⟩
        · rw [a1] at h3 ⊢
          simp only [bne_self_eq_false, cond_false, wi_succ (show i < 4611686018427387904 by omega), lands_some, Turns3]
          exact ⟨i + 1, addL q (lone ms[i].1 (rv ms[i].2)) c 0, addC q (lone ms[i].1 (rv ms[i].2)) c 0, rfl, ⟨by omega, okL_add _ _ _ _, fits_addC _ _ _ _, h3⟩, by omega⟩
        · rw [a1] at h3 ⊢
          simp only [show ((11 : Int) != 0) = true from rfl, cond_true, lands_some, Turns3]
          exact .inr ⟨rfl, 11, [], 0, by decide, h3.symm, .inr ⟨rfl, rfl, i, _, _, _, _, rfl⟩⟩
      · have h3 : (bif decide (0 ≤ ms[i].1) then _ else (bif addE q [] c (rv ms[i].2) == 0 then suF (addL q [] c (rv ms[i].2)) (addC q [] c (rv ms[i].2)) (ms.drop (i + 1)) else (addE q [] c (rv ms[i].2), [], 0))) = suF [] 0 ms := h3
        rw [decide_eq_false (show ¬ 0 ≤ ms[i].1 from hv), cond_false] at h3
        simp only [plP0, plP0e, plP1, plP1e, placeP1, placeP2, cond_true, hsz, hv, decide_true, decide_false, he, bne_self_eq_false, cond_false, N_eq, isT_nilc hfr, isT_of h2 h4, Bool.and_self, dl_lvs, dl_nil, num_lbW]
        rcases addE_cases q [] c (rv ms[i].2) with ⟨a1, _⟩ | ⟨a1, _⟩
        · rw [a1] at h3 ⊢
          simp only [bne_self_eq_false, cond_false, wi_succ (show i < 4611686018427387904 by omega), lands_some, Turns3]
          exact ⟨i + 1, addL q [] c (rv ms[i].2), addC q [] c (rv ms[i].2), rfl, ⟨by omega, okL_add _ _ _ _, fits_addC _ _ _ _, h3⟩, by omega⟩
        · rw [a1] at h3 ⊢
          simp only [show ((11 : Int) != 0) = true from rfl, cond_true, lands_some, Turns3]
          exact .inr ⟨rfl, 11, [], 0, by decide, h3.symm, .inr ⟨rfl, rfl, i, _, _, _, _, rfl⟩⟩
    · rw [show (re ms[i].2 == 0) = false from beq_eq_false_iff_ne.2 he] at h3
      simp only [plP0, plP0e, plP1, plP1e, placeP1, placeP2, cond_true, hsz, decide_true, ne_b he, lands_some, Turns3]
      exact .inr ⟨rfl, re ms[i].2, q, c, he, h3.symm, .inl ⟨i, rfl⟩⟩
  · have hd : ms.drop i = [] := List.drop_of_length_le (by omega)
    rw [hd] at h3
    rw [List.length_map, ltN' hi]
    simp only [cond_false, lands_some, Turns3]
    exact .inl ⟨rfl, .inl ⟨q, c, i, h3.symm, rfl⟩⟩
theorem first (ms : List (Int × ByteArray)) (hm : ∀ p ∈ ms, i64B p.1 = true ∧ p.1 < 4096 ∧ p.2.size ≤ 10000) (hlen : ms.length ≤ 100000) : ∃ e S1, Ends T orc L0 D0 (st0e (ms.map cP)) e S1 ∧ Post ms e S1 := by
  refine loop_first (Post ms) isL0 noTab_all (round0e ..) ?_
  by_cases hi : 0 < ms.length
  · obtain ⟨_, hv4, hsz⟩ := hm _ (List.getElem_mem hi)
    have h3 : suF [] 0 ms = _ := suF_drop hi [] 0
    have hget : (ms.map cP).getD 0 [] = cP ms[0] := getP hi
    rw [List.length_map, show decide ((0 : Int) < (ms.length : Int)) = true from decide_eq_true (by omega), show inB 0 ms.length = true from inN hi, hget]
    have hfr := fits_rv ms[0].2
    by_cases he : re ms[0].2 = 0
    · rw [he] at h3
      by_cases hv : ms[0].1 ≥ 0
      · have h3 : suF [] 0 ms = (bif decide (0 ≤ ms[0].1) then (bif addE [] (lone ms[0].1 (rv ms[0].2)) 0 0 == 0 then suF (addL [] (lone ms[0].1 (rv ms[0].2)) 0 0) (addC [] (lone ms[0].1 (rv ms[0].2)) 0 0) (ms.drop (0 + 1)) else (addE [] (lone ms[0].1 (rv ms[0].2)) 0 0, [], 0)) else _) := h3
        rw [decide_eq_true (show 0 ≤ ms[0].1 from hv), cond_true] at h3
        have v1 : vok ms[0].1 = true := vok_iff.2 ⟨hv, hv4⟩
        have v2 : vE ms[0].1 = 0 := by unfold vE; rw [v1]; rfl
        obtain ⟨s1, s2, s3⟩ := scale_lone ms[0].1 hfr
        simp only [plP0, plP0e, plP1, plP1e, placeP1, placeP2, cond_true, hsz, hv, decide_true, he, bne_self_eq_false, cond_false, v1, v2, isT_of0 (okL_lone ms[0].1 fits_one), cnW_fits hfr, N_eq, hfr, Bool.and_self, dl_lvs, dl_nil, s1, s2, s3, isT_nil, isT_of (okL_lone ms[0].1 hfr) fits0, num_zero]
        rcases addE_cases [] (lone ms[0].1 (rv ms[0].2)) 0 0 with ⟨a1, _⟩ | ⟨a1, _⟩
        · rw [a1] at h3 ⊢
          simp only [bne_self_eq_false, cond_false, lands_some]
          exact loop ms hm hlen 1 _ _ hi (okL_add _ _ _ _) (fits_addC _ _ _ _) h3.symm
        · rw [a1] at h3 ⊢
          simp only [show ((11 : Int) != 0) = true from rfl, cond_true, lands_some]
          exact .inr ⟨rfl, 11, [], 0, by decide, h3, .inr ⟨rfl, rfl, 0, _, _, _, _, rfl⟩⟩
      · have h3 : suF [] 0 ms = (bif decide (0 ≤ ms[0].1) then _ else (bif addE [] [] 0 (rv ms[0].2) == 0 then suF (addL [] [] 0 (rv ms[0].2)) (addC [] [] 0 (rv ms[0].2)) (ms.drop (0 + 1)) else (addE [] [] 0 (rv ms[0].2), [], 0))) := h3
        rw [decide_eq_false (show ¬ 0 ≤ ms[0].1 from hv), cond_false] at h3
        simp only [plP0, plP0e, plP1, plP1e, placeP1, placeP2, cond_true, hsz, hv, decide_true, decide_false, he, bne_self_eq_false, cond_false, N_eq, isT_nilc hfr, isT_nil, Bool.and_self, dl_lvs, dl_nil, num_zero]
        rcases addE_cases [] [] 0 (rv ms[0].2) with ⟨a1, _⟩ | ⟨a1, _⟩
        · rw [a1] at h3 ⊢
          simp only [bne_self_eq_false, cond_false, lands_some]
          exact loop ms hm hlen 1 _ _ hi (okL_add _ _ _ _) (fits_addC _ _ _ _) h3.symm
        · rw [a1] at h3 ⊢
          simp only [show ((11 : Int) != 0) = true from rfl, cond_true, lands_some]
          exact .inr ⟨rfl, 11, [], 0, by decide, h3, .inr ⟨rfl, rfl, 0, _, _, _, _, rfl⟩⟩
    · rw [show (re ms[0].2 == 0) = false from beq_eq_false_iff_ne.2 he] at h3
      simp only [plP0, plP0e, plP1, plP1e, placeP1, placeP2, cond_true, hsz, decide_true, ne_b he, lands_some]
      refine .inr ⟨rfl, re ms[0].2, [], 0, he, h3, .inl ⟨0, ?_⟩⟩
      rw [lvs_nil, lrs_nil]; rfl
  · have hd : ms = [] := List.eq_nil_of_length_eq_zero (by omega)
    subst hd
    rw [show decide ((0 : Int) < (([] : List (Int × ByteArray)).map cP).length) = false from rfl]
    simp only [cond_false, lands_some]
    exact .inl ⟨rfl, .inr ⟨rfl, rfl⟩⟩
end JTerm
theorem meets_jterm : Meets Try.prog 29 anjTerm := by
  refine meets_fn (orc_ok (l := JTerm.ans) ⟨meets_parse, meets_nnum, meets_nvar, meets_nscale, meets_nadd, trivial⟩) Try.f29 Try.func29 (by kernel_rfl) (fun args r h => ?_)
  unfold anjTerm at h
  split at h
  · rename_i x
    simp only [Option.some.injEq, Prod.mk.injEq] at h
    obtain ⟨h1, rfl⟩ := h
    obtain ⟨ms, k1, k2, rfl⟩ := isg_iff.1 h1
    rw [dp_map]
    have hE := suE_eq ms
    have hl := teL_eq ms
    have hc := teC_eq ms
    obtain ⟨e1, S1, hE1, hP⟩ := JTerm.first ms k1 k2
    rcases hP with ⟨rfl, ⟨q, c, x, h3, rfl⟩ | ⟨rfl, rfl⟩⟩ | ⟨rfl, n, q, c, h4, h3, ⟨x, rfl⟩ | ⟨rfl, rfl, x, l, r, b, l', rfl⟩⟩
    · rw [h3] at hE hl hc
      have hE : suE ms = 0 := hE
      have hl : teL ms = q := hl
      have hc : teC ms = c := hc
      rw [hE, hl, hc]
      exact ⟨rfl, _, tabOf_all _, (JTerm.rest_2 _ (lvs q) (lrs q) (sg c) (lb 4294967296 c) x).trans (bT (cdec_true hE1))⟩
    · have hE : suE [] = 0 := hE
      have hl : teL [] = [] := hl
      have hc : teC [] = 0 := hc
      rw [hE, hl, hc, lvs_nil, lrs_nil]
      exact ⟨rfl, _, tabOf_all _, (JTerm.rest_3 _).trans (bT (cdec_true hE1))⟩
    · rw [h3] at hE hl hc
      have hE : suE ms = n := hE
      have hl : teL ms = q := hl
      have hc : teC ms = c := hc
      rw [hE, hl, hc, show (n == 0) = false from beq_eq_false_iff_ne.2 h4]
      exact ⟨rfl, _, tabOf_all _, (JTerm.rest_0 _ (lvs q) (lrs q) (sg c) (lb 4294967296 c) x).trans (bT (cdec_true hE1))⟩
    · rw [h3] at hE hl hc
      have hE : suE ms = n := hE
      have hl : teL ms = [] := hl
      have hc : teC ms = 0 := hc
      rw [hE, hl, hc, lvs_nil, lrs_nil, show (n == 0) = false from beq_eq_false_iff_ne.2 h4]
      exact ⟨rfl, _, tabOf_all _, (JTerm.rest_1 _ x l r b l').trans (bT (cdec_true hE1))⟩
  · cases h
/-- The page's examples. -/
abbrev aw : List (Int × ByteArray) := [(0, ⟨#[50]⟩), (1, ⟨#[45, 52]⟩)]
abbrev awL : List (Int × Int) := [(0, 2), (1, -4)]
theorem aw_two : (rv ⟨#[50]⟩ = 2 ∧ re ⟨#[50]⟩ = 0) ∧ (rv ⟨#[45, 52]⟩ = -4 ∧ re ⟨#[45, 52]⟩ = 0) ∧ rv ⟨#[51]⟩ = 3 ∧ re ⟨#[51]⟩ = 0 := ⟨⟨by kernel_rfl, by kernel_rfl⟩, ⟨by kernel_rfl, by kernel_rfl⟩, by kernel_rfl, by kernel_rfl⟩
theorem aw_ofF {a b : Int} (ha : a ≠ 0) (hb : b ≠ 0) {f : Int → Int} (h : ∀ v, 0 ≤ v → v < 4096 → f v = if v = 0 then a else if v = 1 then b else 0) : ofF f = [(0, a), (1, b)] := by
  refine (eq_ofF ?_ ?_ (fun v => ?_)).symm
  · exact List.pairwise_cons.2 ⟨fun p hp => by rw [List.mem_singleton.1 hp]; exact (by decide : (0 : Int) < 1), List.pairwise_singleton ..⟩
  · intro p hp
    rcases List.mem_cons.1 hp with rfl | hp
    · exact ha
    · rw [List.mem_singleton.1 hp]; exact hb
  · rw [cf_cons, cf_cons, cf_nil]
    by_cases hv : 0 ≤ v ∧ v < 4096
    · rw [if_pos hv, h v hv.1 hv.2]
      by_cases h0 : v = 0
      · rw [if_pos h0, if_pos h0.symm]
      · rw [if_neg h0, if_neg (fun hh => h0 hh.symm)]
        by_cases h1 : v = 1
        · rw [if_pos h1, if_pos h1.symm]
        · rw [if_neg h1, if_neg (fun hh => h1 hh.symm)]
    · rw [if_neg hv, if_neg (by show ¬ (0 : Int) = v; omega), if_neg (by show ¬ (1 : Int) = v; omega)]
theorem aw_cf (v : Int) : cf awL v = if v = 0 then 2 else if v = 1 then -4 else 0 := by
  rw [cf_cons, cf_cons, cf_nil]
  by_cases h0 : v = 0
  · rw [if_pos h0, if_pos h0.symm]
  · rw [if_neg h0, if_neg (fun hh => h0 hh.symm)]
    by_cases h1 : v = 1
    · rw [if_pos h1, if_pos h1.symm]
    · rw [if_neg h1, if_neg (fun hh => h1 hh.symm)]
theorem fits_m4 : fits (-4) = true := by kernel_rfl
theorem fits_two : fits 2 = true := by kernel_rfl
theorem fits_three : fits 3 = true := by kernel_rfl
theorem aw_rdF : rdF [] aw = (0, awL) := by
  obtain ⟨⟨a1, a2⟩, ⟨a3, a4⟩, _⟩ := aw_two
  have h1 : rdF [] aw = bif !(vE 0 == 0) then (vE 0, []) else bif !(re ⟨#[50]⟩ == 0) then (re ⟨#[50]⟩, []) else bif addE [] (lone 0 (rv ⟨#[50]⟩)) 0 0 == 0 then rdF (addL [] (lone 0 (rv ⟨#[50]⟩)) 0 0) [(1, ⟨#[45, 52]⟩)] else (addE [] (lone 0 (rv ⟨#[50]⟩)) 0 0, []) := rfl
  have h2 : ∀ q, rdF q [(1, ⟨#[45, 52]⟩)] = bif !(vE 1 == 0) then (vE 1, []) else bif !(re ⟨#[45, 52]⟩ == 0) then (re ⟨#[45, 52]⟩, []) else bif addE q (lone 1 (rv ⟨#[45, 52]⟩)) 0 0 == 0 then (0, addL q (lone 1 (rv ⟨#[45, 52]⟩)) 0 0) else (addE q (lone 1 (rv ⟨#[45, 52]⟩)) 0 0, []) := fun q => rfl
  obtain ⟨b1, b2⟩ := (add_lone okL_nil (v := 0) (c := 2) (by omega) fits_two).1 (by rw [cf_nil]; exact fits_two)
  have b3 : addL [] (lone 0 2) 0 0 = lone 0 2 := by
    rw [b2, wiL_eq, lone_eq]
    refine ofF_congr (fun w _ _ => ?_)
    rw [cf_nil, Int.zero_add]
  have hok : okL (lone 0 2) := okL_lone 0 fits_two
  have hc : cf (lone 0 2) 1 = 0 := by rw [cf_lone, if_neg (fun hh => absurd hh.2 (by decide))]
  obtain ⟨d1, d2⟩ := (add_lone hok (v := 1) (c := -4) (by omega) fits_m4).1 (by rw [hc]; exact fits_m4)
  have d3 : addL (lone 0 2) (lone 1 (-4)) 0 0 = awL := by
    rw [d2, wiL_eq]
    refine aw_ofF (by decide) (by decide) (fun w _ _ => ?_)
    rw [cf_lone]
    by_cases h0 : w = 0
    · rw [if_pos h0, decide_eq_false (by omega), if_pos ⟨by omega, h0⟩]; rfl
    · rw [if_neg h0, if_neg (fun hh => h0 hh.2)]
      by_cases h1 : w = 1
      · rw [if_pos h1, decide_eq_true h1]; rfl
      · rw [if_neg h1, decide_eq_false h1]; rfl
  rw [h1, a2, a1, b1, b3, h2, a4, a3, d1, d3]
  rfl
theorem aw_rd : rdE aw ⟨#[51]⟩ = 0 ∧ rdL aw ⟨#[51]⟩ = awL ∧ rdM aw ⟨#[51]⟩ = 3 := by
  obtain ⟨_, _, a5, a6⟩ := aw_two
  rcases rd_cases aw ⟨#[51]⟩ with ⟨c1, _⟩ | ⟨_, c0, _⟩ | ⟨_, _, c2, c3⟩
  · exact absurd c1 (by decide)
  · exact absurd a6 c0
  · rw [aw_rdF] at c2 c3
    rcases c3 with ⟨_, c3, c4⟩ | ⟨c3, _⟩
    · exact ⟨c2, c3, c4.trans a5⟩
    · exact absurd rfl c3
theorem aw_okL : okL awL := by
  have := okL_rd aw ⟨#[51]⟩
  rw [aw_rd.2.1] at this
  exact this
theorem aw_gcd : gcdL awL = 2 := by rw [gcdL_eq]; kernel_rfl
theorem aw_ti : tiL awL = [(0, 1), (1, -2)] ∧ tiM awL 3 = 1 := by
  have h1 := tiL_eq awL
  have h2 := tiM_eq awL 3
  rw [aw_gcd] at h1 h2
  have h1 : tiL awL = ofF (fun v => dq (cf awL v) 2) := h1
  have h2 : tiM awL 3 = dq 3 2 := h2
  refine ⟨?_, h2⟩
  rw [h1]
  refine aw_ofF (by decide) (by decide) (fun w _ _ => ?_)
  rw [aw_cf]
  by_cases h0 : w = 0
  · rw [if_pos h0, if_pos h0]; rfl
  · rw [if_neg h0, if_neg h0]
    by_cases h1 : w = 1
    · rw [if_pos h1, if_pos h1]; rfl
    · rw [if_neg h1, if_neg h1]; rfl
theorem aw_no : noL awL 3 = [(0, -2), (1, 4)] ∧ noM 3 = -4 ∧ he (3 + 1) = 0 := by
  have h1 := noL_eq awL 3
  have h2 := noM_eq 3
  have h3 : he (3 + 1) = 0 := by kernel_rfl
  rw [h3] at h1 h2
  have h1 : noL awL 3 = negL awL := h1
  have h2 : noM 3 = -4 := h2
  refine ⟨?_, h2, h3⟩
  rw [h1, negL_eq]
  refine aw_ofF (by decide) (by decide) (fun w _ _ => ?_)
  rw [aw_cf]
  by_cases h0 : w = 0
  · rw [if_pos h0, if_pos h0]
  · rw [if_neg h0, if_neg h0]
    by_cases h1 : w = 1
    · rw [if_pos h1, if_pos h1]; rfl
    · rw [if_neg h1, if_neg h1]; rfl
theorem aw_t1 : ((ttxt [(0, 1), (1, -2)] 0).toList == [(49 : UInt8), (42 : UInt8), (120 : UInt8), (48 : UInt8), (32 : UInt8), (43 : UInt8), (32 : UInt8), (45 : UInt8), (50 : UInt8), (42 : UInt8), (120 : UInt8), (49 : UInt8)]) = true := by rw [ttxt_eq]; kernel_rfl
theorem aw_t2 : ((ttxt [(0, -2), (1, 4)] 0).toList == [(45 : UInt8), (50 : UInt8), (42 : UInt8), (120 : UInt8), (48 : UInt8), (32 : UInt8), (43 : UInt8), (32 : UInt8), (52 : UInt8), (42 : UInt8), (120 : UInt8), (49 : UInt8)]) = true := by rw [ttxt_eq]; kernel_rfl
theorem meets_jawake : Meets Try.prog 13 anlAwake := by
  refine meets_fn (orc_ok (l := JAwake.ans) ⟨meets_nread meets_nadd, meets_nnot, meets_ntight, meets_ntext, meets_text, trivial⟩) Try.f13 Try.func13 (by kernel_rfl) (fun args r h => ?_)
  unfold anlAwake at h
  split at h
  · simp only [Option.some.injEq, Prod.mk.injEq] at h
    obtain ⟨_, rfl⟩ := h
    refine ⟨rfl, _, noTab_all, JAwake.rest.trans ?_⟩
    have hr : ([[AV.int .i64 0, .str { data := #[50] }], [.int .i64 1, .str { data := #[45, 52] }]] : List (List AV)) = aw.map cP := rfl
    have hq : isq (aw.map cP) = true := isq_iff.2 ⟨aw, fun p hp => by
      rcases List.mem_cons.1 hp with rfl | hp
      · rfl
      · rw [List.mem_singleton.1 hp]; rfl, rfl⟩
    have hp : isp (aw.map cP) = true := isp_iff.2 ⟨aw, fun p hp => by
      rcases List.mem_cons.1 hp with rfl | hp
      · exact ⟨rfl, by decide⟩
      · rw [List.mem_singleton.1 hp]; exact ⟨rfl, by decide⟩, rfl⟩
    obtain ⟨r1, r2, r3⟩ := aw_rd
    obtain ⟨t1, t2⟩ := aw_ti
    obtain ⟨n1, n2, n3⟩ := aw_no
    have x1 : ((txt 1).toList == [(49 : UInt8)]) = true := by kernel_rfl
    have x2 : ((txt (-4)).toList == [(45 : UInt8), (52 : UInt8)]) = true := by kernel_rfl
    have o1 : okL [(0, 1), (1, -2)] := by have := okL_ti aw_okL; rw [t1] at this; exact this
    have o2 : okL [(0, -2), (1, 4)] := by
      have := okL_neg aw_okL
      have h1 := noL_eq awL 3
      rw [n3] at h1
      have h1 : noL awL 3 = negL awL := h1
      rw [← h1, n1] at this
      exact this
    rw [hr, hq, hp, dp_map, r1, r2, r3, isl_lvs aw_okL, N_eq, dl_lvs, t1, t2, n1, n2, n3, isT_of0 o1, isT_of0 o2, dl_lvs, dl_lvs, N_eq, N_eq, aw_t1, aw_t2, x1, x2, cnW_fits fits_three, fits_three, cnW_fits fits_one, cnW_fits fits_m4]
    rfl
  · cases h
end Go.Abs
end
section
/- The statements of layer 3: rows. -/
namespace Go.Abs
open Go.Proofs Go.Dig
theorem neg_neg {l : List (Int × Int)} (h : okL l) : negL (negL l) = l := by
  have h1 := okL_neg h
  refine okL_eq (okL_neg h1) h (fun v => ?_)
  rw [negL_eq (negL l), cf_ofF, negL_eq l, cf_ofF]
  by_cases hv : 0 ≤ v ∧ v < 4096
  · rw [if_pos hv, if_pos hv, Int.neg_neg]
  · rw [if_neg hv, cf_out (okL_in h) hv]
end Go.Abs
end
section
/- The statements of layer 3: values. -/
namespace Go.Abs
open Go.Proofs Go.Dig
theorem getD_set (xs : List Int) (v : Nat) (y : Int) (hv : v < xs.length) (w : Nat) : (xs.set v y).getD w 0 = if w = v then y else xs.getD w 0 := by
  rw [List.getD_eq_getElem?_getD, List.getD_eq_getElem?_getD, List.getElem?_set]
  by_cases h : v = w
  · subst h; rw [if_pos rfl, if_pos hv, if_pos rfl]; rfl
  · rw [if_neg h, if_neg (fun hh => h hh.symm)]
/-- A statement's parts. -/
theorem few_ok {ms : List (Int × ByteArray)} (hm : ∀ p ∈ ms, i64B p.1 = true) : isg (prs (fewP ms)) = true := isg_iff.2 ⟨fewP ms, fun p hp => by
  rw [fewP_eq] at hp
  obtain ⟨q, hq, rfl⟩ := List.mem_map.1 hp
  have h1 := hm q (List.mem_of_mem_take hq)
  have h2 := cut_sz q.2
  refine ⟨?_, ?_, by show (cut 400 q.2).size ≤ 10000; omega⟩
  · show i64B (bif decide (q.1 ≥ 4096) then 4095 else q.1) = true
    cases decide (q.1 ≥ 4096) with
    | true => rfl
    | false => exact h1
  · show (bif decide (q.1 ≥ 4096) then (4095 : Int) else q.1) < 4096
    by_cases h : q.1 ≥ 4096
    · rw [decide_eq_true h, cond_true]; decide
    · rw [decide_eq_false h, cond_false]; omega, by rw [fewP_eq, List.length_map, List.length_take]; omega, prs_eq _⟩
theorem su_te {ms : List (Int × ByteArray)} (h : suE ms = 0) : suL ms = teL ms ∧ suC ms = teC ms := by
  have h1 := suL_eq ms
  have h2 := suC_eq ms
  rw [h] at h1 h2
  exact ⟨h1, h2⟩
end Go.Abs
end
section
/- The statements of layer 3: what a term tells. -/
namespace Go.Abs
open Go.Proofs Go.Dig
namespace KTells
theorem loop (ms : List (Int × ByteArray)) (v : Int) (b5 b6 b7 b8 : Bool) (h0 : suE (fewP ms) = 0) : ∃ e S1, Ends T orc L0 D0 (st0 (ms.map cP) v (0) b5 b6 b7 b8 (lvs (teL (fewP ms)))) e S1 ∧ e = .exit 0 ∧ ∃ x l, S1 = st0 (ms.map cP) v x b5 b6 b7 b8 l := by
  obtain ⟨q, hq⟩ : ∃ q, teL (fewP ms) = q := ⟨_, rfl⟩
  have oQ : okL q := hq ▸ okL_te (fewP ms)
  have s1 := (su_te h0).1
  rw [hq] at s1 ⊢
  have hlen := okL_len oQ
  have key : ∃ e S1, Ends T orc L0 D0 (st0 (ms.map cP) v ((0 : Nat) : Int) b5 b6 b7 b8 (lvs q)) e S1 ∧ e = .exit 0 ∧ ∃ x l, S1 = st0 (ms.map cP) v x b5 b6 b7 b8 l := by
    refine loop_inv2 (fun (i : Nat) (l : List Int) => st0 (ms.map cP) v i b5 b6 b7 b8 l) (fun i l => i ≤ q.length ∧ l.length = q.length ∧ ∀ j, i ≤ j → (hj : j < q.length) → l.getD j 0 = q[j].1) (fun i l => q.length - i)
      (fun e S1 => e = .exit 0 ∧ ∃ x l, S1 = st0 (ms.map cP) v x b5 b6 b7 b8 l) isL0 ?_ 0 (lvs q) ⟨Nat.zero_le _, lvs_len q, fun j _ hj => by rw [lvs_eq, getD_at (by rw [List.length_map]; exact hj), List.getElem_map]⟩
    intro i l ⟨h1, h2, h3⟩
    refine ⟨noTab, noTab_all, lands_of (round0 ..) ?_⟩
    rw [dp_map, dp_prs, s1, hq, h2, mrs_len]
    by_cases hi : i < q.length
    · have hf := okL_mem oQ (List.getElem_mem hi)
      have hr : rd l (i : Int) = q[i].1 := by rw [rd_nat]; exact h3 i (Nat.le_refl i) hi
      have hc : cf q q[i].1 = q[i].2 := cf_mem (okL_asc oQ) (List.getElem_mem hi)
      have hb : (mrs q).getD ((i : Int).toNat) [] = cE q[i] := by rw [mrs_eq]; exact getE hi
      rw [ltN hi, inN hi, hb, hr, dl_lvs, hc, isl_lvs oQ]
      simp only [plV, plVe, plC0, plC1, plCe, place1, place3, cnT_fits hf, cnW_fits hf, num_lb10, N_eq, N10_eq, cond_true, Bool.and_self, bne_self_eq_false, cond_false, bytes_beq, decide_true, Bool.not_true, wi_succ (show i < 4611686018427387904 by omega), Int.toNat_natCast, lands_some, Turns2]
      refine ⟨i + 1, l.set i (-9), rfl, ⟨by omega, by rw [List.length_set]; exact h2, fun j h4 hj => ?_⟩, by omega⟩
      rw [getD_set l i (-9) (by omega), if_neg (by omega)]
      exact h3 j (by omega) hj
    · rw [ltN' hi]
      simp only [cond_false, lands_some, Turns2]
      exact ⟨trivial, i, l, rfl⟩
  exact key
end KTells
theorem vE_in {v : Int} (h0 : 0 ≤ v) (h : v < 4096) : vE v = 0 := by unfold vE vok; rw [decide_eq_true h0, decide_eq_true h]; rfl
theorem vE_out {v : Int} (h : ¬ (0 ≤ v ∧ v < 4096)) : vE v = 30 := by
  have : vok v = false := by
    cases hv : vok v with
    | true => exact absurd (vok_iff.1 hv) h
    | false => rfl
  unfold vE; rw [this]; rfl
theorem law_tells : Meets Try.prog 7 (fun a => match a with | [.rows 2 x, .int .i64 _] => some (isq x, .val (.bool true)) | _ => none) := by
  refine meets_fn (orc_ok (l := KTells.ans) ⟨meets_jawake, meets_jfew, meets_jterm, meets_esum, meets_nvar, meets_nvars, meets_nisnum, meets_nrest, meets_ncoef, meets_text, meets_rshow, meets_ecoef, meets_ncommon, meets_ecommon, meets_ntext, meets_eshow, trivial⟩) Try.f7 Try.func7 (by kernel_rfl) (fun args r h => ?_)
  split at h
  · rename_i x v
    simp only [Option.some.injEq, Prod.mk.injEq] at h
    obtain ⟨h1, rfl⟩ := h
    obtain ⟨ms, hm, rfl⟩ := isq_iff.1 h1
    have oQ := okL_te (fewP ms)
    have fQ := fits_te (fewP ms)
    have su := su_te (ms := fewP ms)
    have lp := KTells.loop ms v
    have fG := gcdL_fits oQ
    have fC := okL_cf oQ v
    by_cases v0 : v ≥ 0
    · by_cases v1 : v < 4096
      · have hv := vE_in v0 v1
        by_cases e1 : suE (fewP ms) = 0
        · obtain ⟨s1, s2⟩ := su e1
          obtain ⟨e, S1, hE1, rfl, x2, l2, rfl⟩ := lp true (decide (v < 4096)) (!(vE v == 0) == decide (v < 4096)) false e1
          refine ⟨rfl, _, tabOf_all _, (KTells.rest_1 (ms.map cP) v x2 true (decide (v < 4096)) (!(vE v == 0) == decide (v < 4096)) false l2).trans ((bT h1).trans ?_)⟩
          rw [dp_map]
          refine (bT (few_ok hm)).trans ((bT (few_ok hm)).trans ?_)
          rw [dp_prs]
          refine (bT (decide_eq_true v0)).trans ?_
          refine (bF (by rw [hv, decide_eq_true v1]; rfl)).trans ?_
          refine (bF (eq_b hv)).trans ?_
          refine (bF (by rw [e1]; rfl)).trans ?_
          simp only [s1, s2, dl_lvs, dm_mrs, isl_lvs oQ, ism_mrs oQ, lvs_len, mrs_len, bne_self_eq_false, cond_true, cond_false, cnW_fits fQ, cnT_fits fQ, cnW_fits fG, cnT_fits fG, cnW_fits fC, cnT_fits fC, N_eq, N10_eq, bytes_beq, decide_true, Bool.not_true, beq_self_eq_true, cdec_true hE1, isT_of oQ fQ, isE_of oQ fQ]
        · refine ⟨rfl, _, tabOf_all _, (KTells.rest_1 (ms.map cP) v 0 false false false false []).trans ((bT h1).trans ?_)⟩
          rw [dp_map]
          refine (bT (few_ok hm)).trans ((bT (few_ok hm)).trans ?_)
          rw [dp_prs]
          refine (bT (decide_eq_true v0)).trans ?_
          refine (bF (by rw [hv, decide_eq_true v1]; rfl)).trans ?_
          refine (bF (eq_b hv)).trans ?_
          exact bT (by rw [show (suE (fewP ms) == 0) = false from beq_eq_false_iff_ne.2 e1]; rfl)
      · have hv := vE_out (v := v) (fun h => v1 h.2)
        by_cases e1 : suE (fewP ms) = 0
        · obtain ⟨s1, s2⟩ := su e1
          obtain ⟨e, S1, hE1, rfl, x2, l2, rfl⟩ := lp true (decide (v < 4096)) (!(vE v == 0) == decide (v < 4096)) (vE v != 30) e1
          refine ⟨rfl, _, tabOf_all _, (KTells.rest_1 (ms.map cP) v x2 true (decide (v < 4096)) (!(vE v == 0) == decide (v < 4096)) (vE v != 30) l2).trans ((bT h1).trans ?_)⟩
          rw [dp_map]
          refine (bT (few_ok hm)).trans ((bT (few_ok hm)).trans ?_)
          rw [dp_prs]
          refine (bT (decide_eq_true v0)).trans ?_
          refine (bF (by rw [hv, decide_eq_false v1]; rfl)).trans ?_
          refine (bT (by rw [hv]; rfl)).trans ?_
          refine (bF (by rw [hv]; rfl)).trans ?_
          refine (bF (by rw [e1]; rfl)).trans ?_
          simp only [s1, s2, dl_lvs, dm_mrs, isl_lvs oQ, ism_mrs oQ, lvs_len, mrs_len, bne_self_eq_false, cond_true, cond_false, cnW_fits fQ, cnT_fits fQ, cnW_fits fG, cnT_fits fG, cnW_fits fC, cnT_fits fC, N_eq, N10_eq, bytes_beq, decide_true, Bool.not_true, beq_self_eq_true, cdec_true hE1, isT_of oQ fQ, isE_of oQ fQ]
        · refine ⟨rfl, _, tabOf_all _, (KTells.rest_1 (ms.map cP) v 0 false false false false []).trans ((bT h1).trans ?_)⟩
          rw [dp_map]
          refine (bT (few_ok hm)).trans ((bT (few_ok hm)).trans ?_)
          rw [dp_prs]
          refine (bT (decide_eq_true v0)).trans ?_
          refine (bF (by rw [hv, decide_eq_false v1]; rfl)).trans ?_
          refine (bT (by rw [hv]; rfl)).trans ?_
          refine (bF (by rw [hv]; rfl)).trans ?_
          exact bT (by rw [show (suE (fewP ms) == 0) = false from beq_eq_false_iff_ne.2 e1]; rfl)
    · have hv := vE_out (v := v) (fun h => v0 h.1)
      by_cases e1 : suE (fewP ms) = 0
      · obtain ⟨s1, s2⟩ := su e1
        obtain ⟨e, S1, hE1, rfl, x2, l2, rfl⟩ := lp false false (!(vE v == 0) == false) (vE v != 30) e1
        refine ⟨rfl, _, tabOf_all _, (KTells.rest_1 (ms.map cP) v x2 false false (!(vE v == 0) == false) (vE v != 30) l2).trans ((bT h1).trans ?_)⟩
        rw [dp_map]
        refine (bT (few_ok hm)).trans ((bT (few_ok hm)).trans ?_)
        rw [dp_prs]
        refine (bF (decide_eq_false v0)).trans ?_
        refine (bF (by rw [hv]; rfl)).trans ?_
        refine (bT (by rw [hv]; rfl)).trans ?_
        refine (bF (by rw [hv]; rfl)).trans ?_
        refine (bF (by rw [e1]; rfl)).trans ?_
        simp only [s1, s2, dl_lvs, dm_mrs, isl_lvs oQ, ism_mrs oQ, lvs_len, mrs_len, bne_self_eq_false, cond_true, cond_false, cnW_fits fQ, cnT_fits fQ, cnW_fits fG, cnT_fits fG, cnW_fits fC, cnT_fits fC, N_eq, N10_eq, bytes_beq, decide_true, Bool.not_true, beq_self_eq_true, cdec_true hE1, isT_of oQ fQ, isE_of oQ fQ]
      · refine ⟨rfl, _, tabOf_all _, (KTells.rest_1 (ms.map cP) v 0 false false false false []).trans ((bT h1).trans ?_)⟩
        rw [dp_map]
        refine (bT (few_ok hm)).trans ((bT (few_ok hm)).trans ?_)
        rw [dp_prs]
        refine (bF (decide_eq_false v0)).trans ?_
        refine (bF (by rw [hv]; rfl)).trans ?_
        refine (bT (by rw [hv]; rfl)).trans ?_
        refine (bF (by rw [hv]; rfl)).trans ?_
        exact bT (by rw [show (suE (fewP ms) == 0) = false from beq_eq_false_iff_ne.2 e1]; rfl)
  · cases h
end Go.Abs
end
