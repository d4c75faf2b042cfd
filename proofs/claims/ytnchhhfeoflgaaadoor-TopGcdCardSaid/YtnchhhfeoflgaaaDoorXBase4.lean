/- What the rows of this seat rest on, part 4: an abstract machine for the model, proved sound, and the functions that the statements reach. No conditions. -/
import Derived.Test.YtnchhhfeoflgaaaDoorXBase3
set_option linter.unusedVariables false
set_option linter.unusedSimpArgs false
set_option linter.unnecessarySimpa false
set_option linter.unusedSectionVars false
section
/- Walking by exact values: a node enters its graph. -/
set_option maxRecDepth 10000
namespace Go.Gr
open Go.Abs (WTo tyAt ty_slice T_ok aggB Runs)
open Go.Proofs
open Go.Euf (E3 Par)
theorem sigS_size (N : Nat) (hN : N ≤ 1000000) : (sigS fA N).size ≤ 1000 := by
  have h1 := keyS_size fA (by decide) [] (by simp) (fun a ha => by cases ha)
  have h2 := itoaB_size (N : Int) (by omega) (by omega)
  unfold sigS
  rw [ByteArray.size_append, ByteArray.size_append, exc_size]
  omega
theorem runs_enter0 {w : World} {B : Nat → Prop} {S : GS} (H : Hp w B w (lay S)) {N : Nat} {va : Value} (hn : S.nodes[N]? = some (fA, va, [])) (hpl : S.par.length = N) (hcl : S.cls.length = N) (hul : S.uses.length = N) (hel : S.edges.length = N) (hN : N ≤ 1000000) (ht : TabO S.tb) (hsl : S.sg.length ≤ 1000000000) (hlk : Abs.look S.sg (sigS fA N) = none) :
    Runs P 17 [.pointer (some ⟨S.gb, 0, none⟩), .int .i64 ((N : Nat) : Int)] w (fun v w' => ∃ h3a h4a h5a h7a vc : Value, Hp w B w' (lay { S with h3 := h3a, par := S.par ++ [((N : Nat) : Int)], h4 := h4a, cls := S.cls ++ [(vc, 1, [.int .i64 ((N : Nat) : Int)])], h5 := h5a, uses := S.uses ++ [((.slice none 0 0 : Value), ([] : List Int))], h7 := h7a, edges := S.edges ++ [(0, 0, false)], sg := (sigS fA N, ((N : Nat) : Int)) :: S.sg })) := by
  have hNl := (List.getElem?_eq_some_iff.1 hn).1
  have hna : lay S (.a N) = .row va 0 1 (ints []) := by show argC S.nodes[N]? = _; rw [hn]; rfl
  refine runs_of Tryd.func17 (by kernel_rfl) rfl rfl ?_
  refine WC.seq (WC.region ?_)
  refine WL.vald rfl rfl rfl (v := (.pointer (some ⟨S.gb, 0, none⟩))) (x_move rfl rfl) ?_
  refine WL.vald rfl rfl rfl (v := (.pointer (some ⟨S.gb, 0, none⟩))) (x_move rfl rfl) ?_
  refine WL.vald rfl rfl rfl (v := (.pointer (some ⟨S.gb, 0, none⟩))) (x_nilc rfl rfl) ?_
  refine WL.vald rfl rfl rfl (v := (.pointer (some ⟨S.gb, 3, none⟩))) (x_field rfl rfl (off := 3) (by kernel_rfl) rfl) ?_
  refine WL.vald rfl rfl rfl (v := (S.h3)) (x_load rfl rfl (by kernel_rfl) (var_cell (H.ok (.g)) rfl)) ?_
  refine WL.vald rfl rfl rfl (v := (.int .i64 (((N : Nat) : Int)))) (x_move rfl rfl) ?_
  refine WL.litH H (.x 1) rfl rfl rfl rfl (t := 32) rfl rfl rfl rfl rfl rfl (xs := [.int .i64 ((N : Nat) : Int)]) rfl (cells_one rfl) (one_cons rfl one_nil) ?_
  intro w1 H1
  refine WL.appendH H1 (l := .f 3) rfl rfl rfl rfl (t := 32) rfl rfl rfl rfl rfl ((H1.row (l := .x 1) rfl).src (t := 32) rfl) (by omega) ?_
  intro h3a w2 H2
  refine WL.vald rfl rfl rfl (v := (.pointer (some ⟨S.gb, 0, none⟩))) (x_nilc rfl rfl) ?_
  refine WL.vald rfl rfl rfl (v := (.pointer (some ⟨S.gb, 3, none⟩))) (x_field rfl rfl (off := 3) (by kernel_rfl) rfl) ?_
  refine WL.storeVH H2 (l := .g) rfl rfl rfl rfl (k := 3) rfl (ys := [h3a]) (cells1 (H2.row (l := .f 3) rfl)) (by kernel_rfl) (Nat.le_of_ble_eq_true rfl) (one_cons (H2.row (l := .f 3) rfl).one one_nil) ?_
  intro w3 H3
  have HA := (H3.drop (.x 1)).eq (L' := lay { S with h3 := h3a, par := S.par ++ [((N : Nat) : Int)] }) (loc_cases rfl rfl rfl rfl (by show Ch.row _ _ _ _ = Ch.row _ _ _ _; rw [List.length_append]; congr 1; unfold ints; rw [List.map_append]; rfl) rfl rfl rfl rfl (fun _ => rfl) (fun _ => rfl) (fun _ => rfl) (fun _ => rfl) rfl rfl rfl rfl (fun _ => rfl) rfl)
  refine WL.nil (WC.seq (WC.region ?_))
  refine WL.vald rfl rfl rfl (v := (.pointer (some ⟨S.gb, 0, none⟩))) (x_move rfl rfl) ?_
  refine WL.vald rfl rfl rfl (v := (.pointer (some ⟨S.gb, 0, none⟩))) (x_move rfl rfl) ?_
  refine WL.vald rfl rfl rfl (v := (.pointer (some ⟨S.gb, 0, none⟩))) (x_nilc rfl rfl) ?_
  refine WL.vald rfl rfl rfl (v := (.pointer (some ⟨S.gb, 4, none⟩))) (x_field rfl rfl (off := 4) (by kernel_rfl) rfl) ?_
  refine WL.vald rfl rfl rfl (v := (S.h4)) (x_load rfl rfl (by kernel_rfl) (var_cell (HA.ok (.g)) rfl)) ?_
  refine WL.vald rfl rfl rfl (v := (.int .i64 (((N : Nat) : Int)))) (x_move rfl rfl) ?_
  refine WL.litH HA (.x 1) rfl rfl rfl rfl (t := 32) rfl rfl rfl rfl rfl rfl (xs := [.int .i64 ((N : Nat) : Int)]) rfl (cells_one rfl) (one_cons rfl one_nil) ?_
  intro w4 H4
  refine WL.litH H4 (.x 2) rfl rfl rfl rfl (t := 51) rfl rfl rfl rfl rfl rfl (xs := [(Value.slice (some ⟨w3.heap.size, 0, none⟩) 1 1)]) rfl (cells_one rfl) (one_cons rfl one_nil) ?_
  intro w5 H5
  refine WL.appendH H5 (l := .f 4) rfl rfl rfl rfl (t := 51) rfl rfl rfl rfl rfl ((H5.row (l := .x 2) rfl).src (t := 51) rfl) (by show (S.cls.length + 1) * 24 ≤ 140737488355328; omega) ?_
  intro h4a w6 H6
  refine WL.vald rfl rfl rfl (v := (.pointer (some ⟨S.gb, 0, none⟩))) (x_nilc rfl rfl) ?_
  refine WL.vald rfl rfl rfl (v := (.pointer (some ⟨S.gb, 4, none⟩))) (x_field rfl rfl (off := 4) (by kernel_rfl) rfl) ?_
  refine WL.storeVH H6 (l := .g) rfl rfl rfl rfl (k := 4) rfl (ys := [h4a]) (cells1 (H6.row (l := .f 4) rfl)) (by kernel_rfl) (Nat.le_of_ble_eq_true rfl) (one_cons (H6.row (l := .f 4) rfl).one one_nil) ?_
  intro w7 H7
  have HB := ((H7.drop (.x 2)).move (l := .x 1) (l' := .c N) (by simp) (by show clsC S.cls[N]? = _; rw [List.getElem?_eq_none (by omega)]; rfl)).eq (L' := lay { S with h3 := h3a, par := S.par ++ [((N : Nat) : Int)], h4 := h4a, cls := S.cls ++ [((Value.slice (some ⟨w3.heap.size, 0, none⟩) 1 1), 1, [.int .i64 ((N : Nat) : Int)])] }) ?_
  rotate_left
  · refine loc_cases rfl rfl rfl rfl rfl (by show Ch.row _ _ _ _ = Ch.row _ _ _ _; rw [List.length_append, List.map_append]; rfl) rfl rfl rfl (fun _ => rfl) (fun z => ?_) (fun _ => rfl) (fun _ => rfl) rfl rfl rfl rfl (fun _ => rfl) rfl
    show clsC (S.cls ++ [_])[z]? = _
    by_cases hz : z = N
    · subst hz; rw [List.getElem?_append_right (by omega), hcl, Nat.sub_self]; exact (upd_same _ _ _).symm
    · rw [upd_ne _ _ (by simpa using hz)]; show _ = clsC S.cls[z]?; congr 1
      by_cases hz2 : z < S.cls.length
      · rw [List.getElem?_append_left hz2]
      · rw [List.getElem?_append_right (by omega), List.getElem?_eq_none (by simp; omega), List.getElem?_eq_none (by omega)]
  refine WL.nil (WC.seq (WC.region ?_))
  refine WL.vald rfl rfl rfl (v := (.pointer (some ⟨S.gb, 0, none⟩))) (x_move rfl rfl) ?_
  refine WL.vald rfl rfl rfl (v := (.pointer (some ⟨S.gb, 0, none⟩))) (x_move rfl rfl) ?_
  refine WL.vald rfl rfl rfl (v := (.pointer (some ⟨S.gb, 0, none⟩))) (x_nilc rfl rfl) ?_
  refine WL.vald rfl rfl rfl (v := (.pointer (some ⟨S.gb, 5, none⟩))) (x_field rfl rfl (off := 5) (by kernel_rfl) rfl) ?_
  refine WL.vald rfl rfl rfl (v := (S.h5)) (x_load rfl rfl (by kernel_rfl) (var_cell (HB.ok (.g)) rfl)) ?_
  refine WL.litH HB (.x 1) rfl rfl rfl rfl (t := 51) rfl rfl rfl rfl rfl rfl (xs := [.slice none 0 0]) rfl (cells_one rfl) (one_cons rfl one_nil) ?_
  intro w8 H8
  refine WL.appendH H8 (l := .f 5) rfl rfl rfl rfl (t := 51) rfl rfl rfl rfl rfl ((H8.row (l := .x 1) rfl).src (t := 51) rfl) (by show (S.uses.length + 1) * 24 ≤ 140737488355328; omega) ?_
  intro h5a w9 H9
  refine WL.vald rfl rfl rfl (v := (.pointer (some ⟨S.gb, 0, none⟩))) (x_nilc rfl rfl) ?_
  refine WL.vald rfl rfl rfl (v := (.pointer (some ⟨S.gb, 5, none⟩))) (x_field rfl rfl (off := 5) (by kernel_rfl) rfl) ?_
  refine WL.storeVH H9 (l := .g) rfl rfl rfl rfl (k := 5) rfl (ys := [h5a]) (cells1 (H9.row (l := .f 5) rfl)) (by kernel_rfl) (Nat.le_of_ble_eq_true rfl) (one_cons (H9.row (l := .f 5) rfl).one one_nil) ?_
  intro w10 H10
  have HC := ((H10.drop (.x 1)).step (.u N) (.row (.slice none 0 0) 0 1 []) (.refl _ _) RowOk.nil (fun b hb => by cases hb)).eq (L' := lay { S with h3 := h3a, par := S.par ++ [((N : Nat) : Int)], h4 := h4a, cls := S.cls ++ [((Value.slice (some ⟨w3.heap.size, 0, none⟩) 1 1), 1, [.int .i64 ((N : Nat) : Int)])], h5 := h5a, uses := S.uses ++ [((.slice none 0 0 : Value), ([] : List Int))] }) ?_
  rotate_left
  · refine loc_cases rfl rfl rfl rfl rfl rfl (by show Ch.row _ _ _ _ = Ch.row _ _ _ _; rw [List.length_append, List.map_append]; rfl) rfl rfl (fun _ => rfl) (fun _ => rfl) (fun z => ?_) (fun _ => rfl) rfl rfl rfl rfl (fun _ => rfl) rfl
    show useC (S.uses ++ [_])[z]? = _
    by_cases hz : z = N
    · subst hz; rw [List.getElem?_append_right (by omega), hul, Nat.sub_self]; exact (upd_same _ _ _).symm
    · rw [upd_ne _ _ (by simpa using hz)]; show _ = useC S.uses[z]?; congr 1
      by_cases hz2 : z < S.uses.length
      · rw [List.getElem?_append_left hz2]
      · rw [List.getElem?_append_right (by omega), List.getElem?_eq_none (by simp; omega), List.getElem?_eq_none (by omega)]
  refine WL.nil (WC.seq (WC.region ?_))
  refine WL.vald rfl rfl rfl (v := (.pointer (some ⟨S.gb, 0, none⟩))) (x_move rfl rfl) ?_
  refine WL.vald rfl rfl rfl (v := (.pointer (some ⟨S.gb, 0, none⟩))) (x_move rfl rfl) ?_
  refine WL.vald rfl rfl rfl (v := (.pointer (some ⟨S.gb, 0, none⟩))) (x_nilc rfl rfl) ?_
  refine WL.vald rfl rfl rfl (v := (.pointer (some ⟨S.gb, 7, none⟩))) (x_field rfl rfl (off := 7) (by kernel_rfl) rfl) ?_
  refine WL.vald rfl rfl rfl (v := (S.h7)) (x_load rfl rfl (by kernel_rfl) (var_cell (HC.ok (.g)) rfl)) ?_
  refine WL.vald rfl rfl rfl (v := (.agg #[(.int .i64 (0)), (.int .i64 (0)), (.bool (false))])) (x_build rfl (by kernel_rfl)) ?_
  refine WL.litH HC (.x 1) rfl rfl rfl rfl (t := 52) rfl rfl rfl rfl rfl rfl (xs := e3c (0, 0, false)) rfl (cells_one rfl) e3c_one ?_
  intro w11 H11
  refine WL.appendH H11 (l := .f 7) rfl rfl rfl rfl (t := 52) rfl rfl rfl rfl rfl ((H11.row (l := .x 1) rfl).src (t := 52) rfl) (by show (S.edges.length + 1) * 24 ≤ 140737488355328; omega) ?_
  intro h7a w12 H12
  refine WL.vald rfl rfl rfl (v := (.pointer (some ⟨S.gb, 0, none⟩))) (x_nilc rfl rfl) ?_
  refine WL.vald rfl rfl rfl (v := (.pointer (some ⟨S.gb, 7, none⟩))) (x_field rfl rfl (off := 7) (by kernel_rfl) rfl) ?_
  refine WL.storeVH H12 (l := .g) rfl rfl rfl rfl (k := 7) rfl (ys := [h7a]) (cells1 (H12.row (l := .f 7) rfl)) (by kernel_rfl) (Nat.le_of_ble_eq_true rfl) (one_cons (H12.row (l := .f 7) rfl).one one_nil) ?_
  intro w13 H13
  have HD := (H13.drop (.x 1)).eq (L' := lay { S with h3 := h3a, par := S.par ++ [((N : Nat) : Int)], h4 := h4a, cls := S.cls ++ [((Value.slice (some ⟨w3.heap.size, 0, none⟩) 1 1), 1, [.int .i64 ((N : Nat) : Int)])], h5 := h5a, uses := S.uses ++ [((.slice none 0 0 : Value), ([] : List Int))], h7 := h7a, edges := S.edges ++ [(0, 0, false)] }) (loc_cases rfl rfl rfl rfl rfl rfl rfl rfl (by show Ch.row _ _ _ _ = Ch.row _ _ _ _; rw [List.length_append, List.flatMap_append]; rfl) (fun _ => rfl) (fun _ => rfl) (fun _ => rfl) (fun _ => rfl) rfl rfl rfl rfl (fun _ => rfl) rfl)
  refine WL.nil (WC.seq (WC.seq (WC.region ?_)))
  refine WL.vald rfl rfl rfl (v := (.pointer (some ⟨S.gb, 0, none⟩))) (x_move rfl rfl) ?_
  refine WL.vald rfl rfl rfl (v := (.pointer (some ⟨S.gb, 0, none⟩))) (x_nilc rfl rfl) ?_
  refine WL.vald rfl rfl rfl (v := (.pointer (some ⟨S.gb, 0, none⟩))) (x_field rfl rfl (off := 0) (by kernel_rfl) rfl) ?_
  refine WL.vald rfl rfl rfl (v := (S.h0)) (x_load rfl rfl (by kernel_rfl) (var_cell (HD.ok (.g)) rfl)) ?_
  refine WL.vald rfl rfl rfl (v := (.int .i64 (((N : Nat) : Int)))) (x_move rfl rfl) ?_
  refine WL.vald rfl rfl rfl (v := (.pointer (some (adr (S.h0) (N * 2))))) (x_index (i := N) rfl rfl ((HD.row (l := .f 0) rfl)) rfl rfl (hNl)) ?_
  refine WL.vald rfl rfl rfl (v := (.pointer (some (adr (S.h0) (N * 2 + 1))))) (x_field rfl rfl (off := 1) (by kernel_rfl) ((HD.row (l := .f 0) rfl).adr_add (by show 0 < S.nodes.length; omega) _ _)) ?_
  refine WL.vald rfl rfl rfl (v := (va)) (x_load rfl rfl (by kernel_rfl) (RowOk.cell ((HD.row (l := .f 0) rfl)) (nd1_at hn))) ?_
  refine WL.vald rfl rfl rfl (v := (.int .i64 (((0 : Nat) : Int)))) (x_lenR rfl rfl ((HD.row (l := .a N) hna)) rfl) ?_
  refine WL.vald rfl rfl rfl (v := (.int .i64 (0))) (x_move rfl rfl) ?_
  refine WL.nil ?_
  refine WC.block (WC.rounds 1 (WR.succ ?_))
  refine WC.seq (WC.region ?_)
  refine WL.vald rfl rfl rfl (v := (.bool (decide (0 < ((0 : Nat) : Int))))) (x_arith rfl rfl rfl (av := .bool (decide (0 < ((0 : Nat) : Int)))) rfl) ?_
  refine WL.nil (WC.seq (WC.condF rfl (WC.exit ?_)))
  refine WC.seq (WC.region ?_)
  refine WL.vald rfl rfl rfl (v := (.pointer (some ⟨S.gb, 0, none⟩))) (x_move rfl rfl) ?_
  refine WL.vald rfl rfl rfl (v := (.int .i64 (((N : Nat) : Int)))) (x_move rfl rfl) ?_
  refine WL.calld rfl rfl rfl rfl rfl (runs_sigA (S := { S with h3 := h3a, par := S.par ++ [((N : Nat) : Int)], h4 := h4a, cls := S.cls ++ [((Value.slice (some ⟨w3.heap.size, 0, none⟩) 1 1), 1, [.int .i64 ((N : Nat) : Int)])], h5 := h5a, uses := S.uses ++ [((.slice none 0 0 : Value), ([] : List Int))], h7 := h7a, edges := S.edges ++ [(0, 0, false)] }) (HD.ok .g) (HD.row (l := .f 0) rfl) hn (HD.row (l := .a N) hna) (HD.row (l := .a N) hna).one (by decide) (by omega) (ht _ (HD.ok .t))) ?_
  rintro _ wJ ⟨rfl, sJ⟩
  have HJ := HD.grow sJ
  refine WL.vald rfl rfl rfl (v := (.string (sigS fA N))) (x_assign rfl rfl) ?_
  refine WL.nil (WC.seq (WC.seq (WC.region ?_)))
  have hks : (sigS fA N).size ≤ 1000 := sigS_size N (by omega)
  refine WL.vald rfl rfl rfl (v := (.pointer (some ⟨S.gb, 0, none⟩))) (x_move rfl rfl) ?_
  refine WL.vald rfl rfl rfl (v := (.pointer (some ⟨S.gb, 0, none⟩))) (x_nilc rfl rfl) ?_
  refine WL.vald rfl rfl rfl (v := (.pointer (some ⟨S.gb, 6, none⟩))) (x_field rfl rfl (off := 6) (by kernel_rfl) rfl) ?_
  refine WL.vald rfl rfl rfl (v := (.map (some (S.b6)))) (x_load rfl rfl (by kernel_rfl) (var_cell (HJ.ok (.g)) rfl)) ?_
  refine WL.vald rfl rfl rfl (v := (.string (sigS fA N))) (x_move rfl rfl) ?_
  refine WL.vald rfl rfl rfl (v := (.tuple #[(.int .i64 (0)), (.bool (false))])) (x_lookN rfl (HJ.map (l := .f 6) rfl) rfl rfl (by simp only [maxLen]; omega) hlk) ?_
  refine WL.vald rfl rfl rfl (v := (.tuple #[(.int .i64 (0)), (.bool (false))])) (x_move rfl rfl) ?_
  refine WL.vald rfl rfl rfl (v := (.int .i64 (0))) (x_extract rfl rfl rfl) ?_
  refine WL.vald rfl rfl rfl (v := (.bool (false))) (x_extract rfl rfl rfl) ?_
  refine WL.vald rfl rfl rfl (v := (.int .i64 (0))) (x_assign rfl rfl) ?_
  refine WL.vald rfl rfl rfl (v := (.bool (false))) (x_assign rfl rfl) ?_
  refine WL.nil (WC.seq (WC.region ?_))
  refine WL.vald rfl rfl rfl (v := (.bool (false))) (x_move rfl rfl) ?_
  refine WL.nil (WC.condF rfl (WC.skip (WC.region ?_)))
  refine WL.vald rfl rfl rfl (v := (.pointer (some ⟨S.gb, 0, none⟩))) (x_move rfl rfl) ?_
  refine WL.vald rfl rfl rfl (v := (.pointer (some ⟨S.gb, 0, none⟩))) (x_nilc rfl rfl) ?_
  refine WL.vald rfl rfl rfl (v := (.pointer (some ⟨S.gb, 6, none⟩))) (x_field rfl rfl (off := 6) (by kernel_rfl) rfl) ?_
  refine WL.vald rfl rfl rfl (v := (.map (some (S.b6)))) (x_load rfl rfl (by kernel_rfl) (var_cell (HJ.ok (.g)) rfl)) ?_
  refine WL.vald rfl rfl rfl (v := (.string (sigS fA N))) (x_move rfl rfl) ?_
  refine WL.vald rfl rfl rfl (v := (.int .i64 (((N : Nat) : Int)))) (x_move rfl rfl) ?_
  refine WL.mapPutH HJ (l := .f 6) rfl rfl rfl rfl rfl rfl rfl (by show S.sg.length < _; simp only [maxLen]; omega) (by simp only [maxLen]; omega) (wf64 (by omega)) ?_
  intro wK HK
  refine WL.nil ⟨.inl rfl, [], rfl, h3a, h4a, h5a, h7a, (Value.slice (some ⟨w3.heap.size, 0, none⟩) 1 1), ?_⟩
  exact HK.eq (loc_cases rfl rfl rfl rfl rfl rfl rfl rfl rfl (fun _ => rfl) (fun _ => rfl) (fun _ => rfl) (fun _ => rfl) rfl rfl rfl rfl (fun _ => rfl) rfl)
theorem runs_enterS {w : World} {B : Nat → Prop} {S : GS} (H : Hp w B w (lay S)) {N : Nat} {va : Value} {i : Nat} (hNi : N = i + 1) (hn : S.nodes[N]? = some (fF, va, [(i : Int)])) (hpl : S.par.length = N) (hcl : S.cls.length = N) (hul : S.uses.length = N) (hel : S.edges.length = N) (hN : N ≤ 1000000) (ht : TabO S.tb) (hsl : S.sg.length ≤ 1000000000) (hpar : S.par = (List.range N).map fun z : Nat => (z : Int)) {vu : Value} {lu : List Int} (hui : S.uses[i]? = some (vu, lu)) (hlul : lu.length ≤ 1000000) (hlk : Abs.look S.sg (KS i) = none) :
    Runs P 17 [.pointer (some ⟨S.gb, 0, none⟩), .int .i64 ((N : Nat) : Int)] w (fun v w' => ∃ h3a h4a h5a h7a vc vu2 : Value, Hp w B w' (lay { S with h3 := h3a, par := S.par ++ [((N : Nat) : Int)], h4 := h4a, cls := S.cls ++ [(vc, 1, [.int .i64 ((N : Nat) : Int)])], h5 := h5a, uses := (S.uses ++ [((.slice none 0 0 : Value), ([] : List Int))]).set i (vu2, lu ++ [((N : Nat) : Int)]), h7 := h7a, edges := S.edges ++ [(0, 0, false)], sg := (KS i, ((N : Nat) : Int)) :: S.sg })) := by
  have hNl := (List.getElem?_eq_some_iff.1 hn).1
  have hna : lay S (.a N) = .row va 1 1 (ints [(i : Int)]) := by show argC S.nodes[N]? = _; rw [hn]; rfl
  refine runs_of Tryd.func17 (by kernel_rfl) rfl rfl ?_
  refine WC.seq (WC.region ?_)
  refine WL.vald rfl rfl rfl (v := (.pointer (some ⟨S.gb, 0, none⟩))) (x_move rfl rfl) ?_
  refine WL.vald rfl rfl rfl (v := (.pointer (some ⟨S.gb, 0, none⟩))) (x_move rfl rfl) ?_
  refine WL.vald rfl rfl rfl (v := (.pointer (some ⟨S.gb, 0, none⟩))) (x_nilc rfl rfl) ?_
  refine WL.vald rfl rfl rfl (v := (.pointer (some ⟨S.gb, 3, none⟩))) (x_field rfl rfl (off := 3) (by kernel_rfl) rfl) ?_
  refine WL.vald rfl rfl rfl (v := (S.h3)) (x_load rfl rfl (by kernel_rfl) (var_cell (H.ok (.g)) rfl)) ?_
  refine WL.vald rfl rfl rfl (v := (.int .i64 (((N : Nat) : Int)))) (x_move rfl rfl) ?_
  refine WL.litH H (.x 1) rfl rfl rfl rfl (t := 32) rfl rfl rfl rfl rfl rfl (xs := [.int .i64 ((N : Nat) : Int)]) rfl (cells_one rfl) (one_cons rfl one_nil) ?_
  intro w1 H1
  refine WL.appendH H1 (l := .f 3) rfl rfl rfl rfl (t := 32) rfl rfl rfl rfl rfl ((H1.row (l := .x 1) rfl).src (t := 32) rfl) (by omega) ?_
  intro h3a w2 H2
  refine WL.vald rfl rfl rfl (v := (.pointer (some ⟨S.gb, 0, none⟩))) (x_nilc rfl rfl) ?_
  refine WL.vald rfl rfl rfl (v := (.pointer (some ⟨S.gb, 3, none⟩))) (x_field rfl rfl (off := 3) (by kernel_rfl) rfl) ?_
  refine WL.storeVH H2 (l := .g) rfl rfl rfl rfl (k := 3) rfl (ys := [h3a]) (cells1 (H2.row (l := .f 3) rfl)) (by kernel_rfl) (Nat.le_of_ble_eq_true rfl) (one_cons (H2.row (l := .f 3) rfl).one one_nil) ?_
  intro w3 H3
  have HA := (H3.drop (.x 1)).eq (L' := lay { S with h3 := h3a, par := S.par ++ [((N : Nat) : Int)] }) (loc_cases rfl rfl rfl rfl (by show Ch.row _ _ _ _ = Ch.row _ _ _ _; rw [List.length_append]; congr 1; unfold ints; rw [List.map_append]; rfl) rfl rfl rfl rfl (fun _ => rfl) (fun _ => rfl) (fun _ => rfl) (fun _ => rfl) rfl rfl rfl rfl (fun _ => rfl) rfl)
  refine WL.nil (WC.seq (WC.region ?_))
  refine WL.vald rfl rfl rfl (v := (.pointer (some ⟨S.gb, 0, none⟩))) (x_move rfl rfl) ?_
  refine WL.vald rfl rfl rfl (v := (.pointer (some ⟨S.gb, 0, none⟩))) (x_move rfl rfl) ?_
  refine WL.vald rfl rfl rfl (v := (.pointer (some ⟨S.gb, 0, none⟩))) (x_nilc rfl rfl) ?_
  refine WL.vald rfl rfl rfl (v := (.pointer (some ⟨S.gb, 4, none⟩))) (x_field rfl rfl (off := 4) (by kernel_rfl) rfl) ?_
  refine WL.vald rfl rfl rfl (v := (S.h4)) (x_load rfl rfl (by kernel_rfl) (var_cell (HA.ok (.g)) rfl)) ?_
  refine WL.vald rfl rfl rfl (v := (.int .i64 (((N : Nat) : Int)))) (x_move rfl rfl) ?_
  refine WL.litH HA (.x 1) rfl rfl rfl rfl (t := 32) rfl rfl rfl rfl rfl rfl (xs := [.int .i64 ((N : Nat) : Int)]) rfl (cells_one rfl) (one_cons rfl one_nil) ?_
  intro w4 H4
  refine WL.litH H4 (.x 2) rfl rfl rfl rfl (t := 51) rfl rfl rfl rfl rfl rfl (xs := [(Value.slice (some ⟨w3.heap.size, 0, none⟩) 1 1)]) rfl (cells_one rfl) (one_cons rfl one_nil) ?_
  intro w5 H5
  refine WL.appendH H5 (l := .f 4) rfl rfl rfl rfl (t := 51) rfl rfl rfl rfl rfl ((H5.row (l := .x 2) rfl).src (t := 51) rfl) (by show (S.cls.length + 1) * 24 ≤ 140737488355328; omega) ?_
  intro h4a w6 H6
  refine WL.vald rfl rfl rfl (v := (.pointer (some ⟨S.gb, 0, none⟩))) (x_nilc rfl rfl) ?_
  refine WL.vald rfl rfl rfl (v := (.pointer (some ⟨S.gb, 4, none⟩))) (x_field rfl rfl (off := 4) (by kernel_rfl) rfl) ?_
  refine WL.storeVH H6 (l := .g) rfl rfl rfl rfl (k := 4) rfl (ys := [h4a]) (cells1 (H6.row (l := .f 4) rfl)) (by kernel_rfl) (Nat.le_of_ble_eq_true rfl) (one_cons (H6.row (l := .f 4) rfl).one one_nil) ?_
  intro w7 H7
  have HB := ((H7.drop (.x 2)).move (l := .x 1) (l' := .c N) (by simp) (by show clsC S.cls[N]? = _; rw [List.getElem?_eq_none (by omega)]; rfl)).eq (L' := lay { S with h3 := h3a, par := S.par ++ [((N : Nat) : Int)], h4 := h4a, cls := S.cls ++ [((Value.slice (some ⟨w3.heap.size, 0, none⟩) 1 1), 1, [.int .i64 ((N : Nat) : Int)])] }) ?_
  rotate_left
  · refine loc_cases rfl rfl rfl rfl rfl (by show Ch.row _ _ _ _ = Ch.row _ _ _ _; rw [List.length_append, List.map_append]; rfl) rfl rfl rfl (fun _ => rfl) (fun z => ?_) (fun _ => rfl) (fun _ => rfl) rfl rfl rfl rfl (fun _ => rfl) rfl
    show clsC (S.cls ++ [_])[z]? = _
    by_cases hz : z = N
    · subst hz; rw [List.getElem?_append_right (by omega), hcl, Nat.sub_self]; exact (upd_same _ _ _).symm
    · rw [upd_ne _ _ (by simpa using hz)]; show _ = clsC S.cls[z]?; congr 1
      by_cases hz2 : z < S.cls.length
      · rw [List.getElem?_append_left hz2]
      · rw [List.getElem?_append_right (by omega), List.getElem?_eq_none (by simp; omega), List.getElem?_eq_none (by omega)]
  refine WL.nil (WC.seq (WC.region ?_))
  refine WL.vald rfl rfl rfl (v := (.pointer (some ⟨S.gb, 0, none⟩))) (x_move rfl rfl) ?_
  refine WL.vald rfl rfl rfl (v := (.pointer (some ⟨S.gb, 0, none⟩))) (x_move rfl rfl) ?_
  refine WL.vald rfl rfl rfl (v := (.pointer (some ⟨S.gb, 0, none⟩))) (x_nilc rfl rfl) ?_
  refine WL.vald rfl rfl rfl (v := (.pointer (some ⟨S.gb, 5, none⟩))) (x_field rfl rfl (off := 5) (by kernel_rfl) rfl) ?_
  refine WL.vald rfl rfl rfl (v := (S.h5)) (x_load rfl rfl (by kernel_rfl) (var_cell (HB.ok (.g)) rfl)) ?_
  refine WL.litH HB (.x 1) rfl rfl rfl rfl (t := 51) rfl rfl rfl rfl rfl rfl (xs := [.slice none 0 0]) rfl (cells_one rfl) (one_cons rfl one_nil) ?_
  intro w8 H8
  refine WL.appendH H8 (l := .f 5) rfl rfl rfl rfl (t := 51) rfl rfl rfl rfl rfl ((H8.row (l := .x 1) rfl).src (t := 51) rfl) (by show (S.uses.length + 1) * 24 ≤ 140737488355328; omega) ?_
  intro h5a w9 H9
  refine WL.vald rfl rfl rfl (v := (.pointer (some ⟨S.gb, 0, none⟩))) (x_nilc rfl rfl) ?_
  refine WL.vald rfl rfl rfl (v := (.pointer (some ⟨S.gb, 5, none⟩))) (x_field rfl rfl (off := 5) (by kernel_rfl) rfl) ?_
  refine WL.storeVH H9 (l := .g) rfl rfl rfl rfl (k := 5) rfl (ys := [h5a]) (cells1 (H9.row (l := .f 5) rfl)) (by kernel_rfl) (Nat.le_of_ble_eq_true rfl) (one_cons (H9.row (l := .f 5) rfl).one one_nil) ?_
  intro w10 H10
  have HC := ((H10.drop (.x 1)).step (.u N) (.row (.slice none 0 0) 0 1 []) (.refl _ _) RowOk.nil (fun b hb => by cases hb)).eq (L' := lay { S with h3 := h3a, par := S.par ++ [((N : Nat) : Int)], h4 := h4a, cls := S.cls ++ [((Value.slice (some ⟨w3.heap.size, 0, none⟩) 1 1), 1, [.int .i64 ((N : Nat) : Int)])], h5 := h5a, uses := S.uses ++ [((.slice none 0 0 : Value), ([] : List Int))] }) ?_
  rotate_left
  · refine loc_cases rfl rfl rfl rfl rfl rfl (by show Ch.row _ _ _ _ = Ch.row _ _ _ _; rw [List.length_append, List.map_append]; rfl) rfl rfl (fun _ => rfl) (fun _ => rfl) (fun z => ?_) (fun _ => rfl) rfl rfl rfl rfl (fun _ => rfl) rfl
    show useC (S.uses ++ [_])[z]? = _
    by_cases hz : z = N
    · subst hz; rw [List.getElem?_append_right (by omega), hul, Nat.sub_self]; exact (upd_same _ _ _).symm
    · rw [upd_ne _ _ (by simpa using hz)]; show _ = useC S.uses[z]?; congr 1
      by_cases hz2 : z < S.uses.length
      · rw [List.getElem?_append_left hz2]
      · rw [List.getElem?_append_right (by omega), List.getElem?_eq_none (by simp; omega), List.getElem?_eq_none (by omega)]
  refine WL.nil (WC.seq (WC.region ?_))
  refine WL.vald rfl rfl rfl (v := (.pointer (some ⟨S.gb, 0, none⟩))) (x_move rfl rfl) ?_
  refine WL.vald rfl rfl rfl (v := (.pointer (some ⟨S.gb, 0, none⟩))) (x_move rfl rfl) ?_
  refine WL.vald rfl rfl rfl (v := (.pointer (some ⟨S.gb, 0, none⟩))) (x_nilc rfl rfl) ?_
  refine WL.vald rfl rfl rfl (v := (.pointer (some ⟨S.gb, 7, none⟩))) (x_field rfl rfl (off := 7) (by kernel_rfl) rfl) ?_
  refine WL.vald rfl rfl rfl (v := (S.h7)) (x_load rfl rfl (by kernel_rfl) (var_cell (HC.ok (.g)) rfl)) ?_
  refine WL.vald rfl rfl rfl (v := (.agg #[(.int .i64 (0)), (.int .i64 (0)), (.bool (false))])) (x_build rfl (by kernel_rfl)) ?_
  refine WL.litH HC (.x 1) rfl rfl rfl rfl (t := 52) rfl rfl rfl rfl rfl rfl (xs := e3c (0, 0, false)) rfl (cells_one rfl) e3c_one ?_
  intro w11 H11
  refine WL.appendH H11 (l := .f 7) rfl rfl rfl rfl (t := 52) rfl rfl rfl rfl rfl ((H11.row (l := .x 1) rfl).src (t := 52) rfl) (by show (S.edges.length + 1) * 24 ≤ 140737488355328; omega) ?_
  intro h7a w12 H12
  refine WL.vald rfl rfl rfl (v := (.pointer (some ⟨S.gb, 0, none⟩))) (x_nilc rfl rfl) ?_
  refine WL.vald rfl rfl rfl (v := (.pointer (some ⟨S.gb, 7, none⟩))) (x_field rfl rfl (off := 7) (by kernel_rfl) rfl) ?_
  refine WL.storeVH H12 (l := .g) rfl rfl rfl rfl (k := 7) rfl (ys := [h7a]) (cells1 (H12.row (l := .f 7) rfl)) (by kernel_rfl) (Nat.le_of_ble_eq_true rfl) (one_cons (H12.row (l := .f 7) rfl).one one_nil) ?_
  intro w13 H13
  have HD := (H13.drop (.x 1)).eq (L' := lay { S with h3 := h3a, par := S.par ++ [((N : Nat) : Int)], h4 := h4a, cls := S.cls ++ [((Value.slice (some ⟨w3.heap.size, 0, none⟩) 1 1), 1, [.int .i64 ((N : Nat) : Int)])], h5 := h5a, uses := S.uses ++ [((.slice none 0 0 : Value), ([] : List Int))], h7 := h7a, edges := S.edges ++ [(0, 0, false)] }) (loc_cases rfl rfl rfl rfl rfl rfl rfl rfl (by show Ch.row _ _ _ _ = Ch.row _ _ _ _; rw [List.length_append, List.flatMap_append]; rfl) (fun _ => rfl) (fun _ => rfl) (fun _ => rfl) (fun _ => rfl) rfl rfl rfl rfl (fun _ => rfl) rfl)
  refine WL.nil (WC.seq (WC.seq (WC.region ?_)))
  refine WL.vald rfl rfl rfl (v := (.pointer (some ⟨S.gb, 0, none⟩))) (x_move rfl rfl) ?_
  refine WL.vald rfl rfl rfl (v := (.pointer (some ⟨S.gb, 0, none⟩))) (x_nilc rfl rfl) ?_
  refine WL.vald rfl rfl rfl (v := (.pointer (some ⟨S.gb, 0, none⟩))) (x_field rfl rfl (off := 0) (by kernel_rfl) rfl) ?_
  refine WL.vald rfl rfl rfl (v := (S.h0)) (x_load rfl rfl (by kernel_rfl) (var_cell (HD.ok (.g)) rfl)) ?_
  refine WL.vald rfl rfl rfl (v := (.int .i64 (((N : Nat) : Int)))) (x_move rfl rfl) ?_
  refine WL.vald rfl rfl rfl (v := (.pointer (some (adr (S.h0) (N * 2))))) (x_index (i := N) rfl rfl ((HD.row (l := .f 0) rfl)) rfl rfl (hNl)) ?_
  refine WL.vald rfl rfl rfl (v := (.pointer (some (adr (S.h0) (N * 2 + 1))))) (x_field rfl rfl (off := 1) (by kernel_rfl) ((HD.row (l := .f 0) rfl).adr_add (by show 0 < S.nodes.length; omega) _ _)) ?_
  refine WL.vald rfl rfl rfl (v := (va)) (x_load rfl rfl (by kernel_rfl) (RowOk.cell ((HD.row (l := .f 0) rfl)) (nd1_at hn))) ?_
  refine WL.vald rfl rfl rfl (v := (.int .i64 (((1 : Nat) : Int)))) (x_lenR rfl rfl ((HD.row (l := .a N) hna)) rfl) ?_
  refine WL.vald rfl rfl rfl (v := (.int .i64 (0))) (x_move rfl rfl) ?_
  refine WL.nil ?_
  have hpr : S.par ++ [((N : Nat) : Int)] = (List.range (N + 1)).map fun z : Nat => (z : Int) := by rw [hpar, List.range_succ, List.map_append]; rfl
  have hP : Par (N + 1) (fun z => z) (S.par ++ [((N : Nat) : Int)]) := by rw [hpr]; exact Par.start _
  have hil := (List.getElem?_eq_some_iff.1 hui).1
  have hui2 : (S.uses ++ [((.slice none 0 0 : Value), ([] : List Int))])[i]? = some (vu, lu) := by rw [List.getElem?_append_left hil]; exact hui
  have huic : lay { S with h3 := h3a, par := S.par ++ [((N : Nat) : Int)], h4 := h4a, cls := S.cls ++ [((Value.slice (some ⟨w3.heap.size, 0, none⟩) 1 1), 1, [.int .i64 ((N : Nat) : Int)])], h5 := h5a, uses := S.uses ++ [((.slice none 0 0 : Value), ([] : List Int))], h7 := h7a, edges := S.edges ++ [(0, 0, false)] } (.u i) = .row vu lu.length 1 (ints lu) := by show useC (S.uses ++ [_])[i]? = _; rw [hui2]; rfl
  refine WC.block (WC.rounds 2 (WR.succ ?_))
  refine WC.seq (WC.region ?_)
  refine WL.vald rfl rfl rfl (v := (.bool (decide (0 < ((1 : Nat) : Int))))) (x_arith rfl rfl rfl (av := .bool (decide (0 < ((1 : Nat) : Int)))) rfl) ?_
  refine WL.nil (WC.seq (WC.condT rfl (WC.skip ?_)))
  refine WC.seq (WC.block (WC.seq (WC.region ?_)))
  refine WL.vald rfl rfl rfl (v := (.pointer (some (adr (va) (0 * 1))))) (x_index (i := 0) rfl rfl ((HD.row (l := .a N) hna)) rfl rfl (by omega)) ?_
  refine WL.vald rfl rfl rfl (v := (.int .i64 ((i : Int)))) (x_load rfl rfl (by kernel_rfl) (RowOk.cell ((HD.row (l := .a N) hna)) (rfl))) ?_
  refine WL.vald rfl rfl rfl (v := (.int .i64 ((i : Int)))) (x_assign rfl rfl) ?_
  refine WL.nil (WC.seq (WC.region ?_))
  refine WL.vald rfl rfl rfl (v := (.pointer (some ⟨S.gb, 0, none⟩))) (x_move rfl rfl) ?_
  refine WL.vald rfl rfl rfl (v := (.int .i64 ((i : Int)))) (x_move rfl rfl) ?_
  refine WL.calld rfl rfl rfl rfl rfl (runs_root (S := { S with h3 := h3a, par := S.par ++ [((N : Nat) : Int)], h4 := h4a, cls := S.cls ++ [((Value.slice (some ⟨w3.heap.size, 0, none⟩) 1 1), 1, [.int .i64 ((N : Nat) : Int)])], h5 := h5a, uses := S.uses ++ [((.slice none 0 0 : Value), ([] : List Int))], h7 := h7a, edges := S.edges ++ [(0, 0, false)] }) (HD.ok .g) (HD.row (l := .f 3) rfl) hP (a := i) (by omega)) ?_
  rintro _ _ ⟨rfl, rfl⟩
  refine WL.vald rfl rfl rfl (v := (.int .i64 ((i : Int)))) (x_assign rfl rfl) ?_
  refine WL.nil ?_
  have HE := HD.drew
  refine WC.anyT 16 (fun u => (Ch.var S.gb (GS.flds { S with h3 := h3a, par := S.par ++ [((N : Nat) : Int)], h4 := h4a, cls := S.cls ++ [((Value.slice (some ⟨w3.heap.size, 0, none⟩) 1 1), 1, [.int .i64 ((N : Nat) : Int)])], h5 := h5a, uses := S.uses ++ [((.slice none 0 0 : Value), ([] : List Int))], h7 := h7a, edges := S.edges ++ [(0, 0, false)] })).ok u ∧ RowOk u h5a (S.uses ++ [((.slice none 0 0 : Value), ([] : List Int))]).length 1 ((S.uses ++ [((.slice none 0 0 : Value), ([] : List Int))]).map (·.1))) mixedP (by kernel_rfl) ?_
  refine WT.take (i := 0) (by kernel_rfl) rfl rfl rfl rfl (by kernel_rfl) (by kernel_rfl) (by kernel_rfl) (fun c f w h => noPanic h) (v := (.pointer (some ⟨S.gb, 0, none⟩))) (fun u hS => x_move rfl rfl) ⟨HE.ok .g, HE.row (l := .f 5) rfl⟩ ?_
  refine WT.take (i := 1) (by kernel_rfl) rfl rfl rfl rfl (by kernel_rfl) (by kernel_rfl) (by kernel_rfl) (fun c f w h => noPanic h) (v := (.pointer (some ⟨S.gb, 0, none⟩))) (fun u hS => x_nilc rfl rfl) ⟨HE.ok .g, HE.row (l := .f 5) rfl⟩ ?_
  refine WT.take (i := 2) (by kernel_rfl) rfl rfl rfl rfl (by kernel_rfl) (by kernel_rfl) (by kernel_rfl) (fun c f w h => noPanic h) (v := (.pointer (some ⟨S.gb, 5, none⟩))) (fun u hS => x_field rfl rfl (off := 5) (by kernel_rfl) rfl) ⟨HE.ok .g, HE.row (l := .f 5) rfl⟩ ?_
  refine WT.take (i := 3) (by kernel_rfl) rfl rfl rfl rfl (by kernel_rfl) (by kernel_rfl) (by kernel_rfl) (fun c f w h => noPanic h) (v := (h5a)) (fun u hS => x_load rfl rfl (by kernel_rfl) (var_cell (hS.1) rfl)) ⟨HE.ok .g, HE.row (l := .f 5) rfl⟩ ?_
  refine WT.take (i := 4) (by kernel_rfl) rfl rfl rfl rfl (by kernel_rfl) (by kernel_rfl) (by kernel_rfl) (fun c f w h => noPanic h) (v := (.int .i64 ((i : Int)))) (fun u hS => x_move rfl rfl) ⟨HE.ok .g, HE.row (l := .f 5) rfl⟩ ?_
  refine WT.take (i := 5) (by kernel_rfl) rfl rfl rfl rfl (by kernel_rfl) (by kernel_rfl) (by kernel_rfl) (fun c f w h => noPanic h) (v := (.pointer (some ⟨S.gb, 0, none⟩))) (fun u hS => x_move rfl rfl) ⟨HE.ok .g, HE.row (l := .f 5) rfl⟩ ?_
  refine WT.take (i := 6) (by kernel_rfl) rfl rfl rfl rfl (by kernel_rfl) (by kernel_rfl) (by kernel_rfl) (fun c f w h => noPanic h) (v := (.pointer (some ⟨S.gb, 0, none⟩))) (fun u hS => x_nilc rfl rfl) ⟨HE.ok .g, HE.row (l := .f 5) rfl⟩ ?_
  refine WT.take (i := 7) (by kernel_rfl) rfl rfl rfl rfl (by kernel_rfl) (by kernel_rfl) (by kernel_rfl) (fun c f w h => noPanic h) (v := (.pointer (some ⟨S.gb, 5, none⟩))) (fun u hS => x_field rfl rfl (off := 5) (by kernel_rfl) rfl) ⟨HE.ok .g, HE.row (l := .f 5) rfl⟩ ?_
  refine WT.take (i := 8) (by kernel_rfl) rfl rfl rfl rfl (by kernel_rfl) (by kernel_rfl) (by kernel_rfl) (fun c f w h => noPanic h) (v := (h5a)) (fun u hS => x_load rfl rfl (by kernel_rfl) (var_cell (hS.1) rfl)) ⟨HE.ok .g, HE.row (l := .f 5) rfl⟩ ?_
  refine WT.take (i := 9) (by kernel_rfl) rfl rfl rfl rfl (by kernel_rfl) (by kernel_rfl) (by kernel_rfl) (fun c f w h => noPanic h) (v := (.int .i64 ((i : Int)))) (fun u hS => x_move rfl rfl) ⟨HE.ok .g, HE.row (l := .f 5) rfl⟩ ?_
  refine WT.take (i := 10) (by kernel_rfl) rfl rfl rfl rfl (by kernel_rfl) (by kernel_rfl) (by kernel_rfl) (fun c f w h => noPanic h) (v := (.pointer (some (adr (h5a) (i * 1))))) (fun u hS => x_index (i := i) rfl rfl (hS.2) rfl rfl (by rw [List.length_append]; omega)) ⟨HE.ok .g, HE.row (l := .f 5) rfl⟩ ?_
  refine WT.take (i := 11) (by kernel_rfl) rfl rfl rfl rfl (by kernel_rfl) (by kernel_rfl) (by kernel_rfl) (fun c f w h => noPanic h) (v := (vu)) (fun u hS => x_load rfl rfl (by kernel_rfl) (RowOk.cell (hS.2) (fst_at hui2))) ⟨HE.ok .g, HE.row (l := .f 5) rfl⟩ ?_
  refine WT.take (i := 12) (by kernel_rfl) rfl rfl rfl rfl (by kernel_rfl) (by kernel_rfl) (by kernel_rfl) (fun c f w h => noPanic h) (v := (.int .i64 (((N : Nat) : Int)))) (fun u hS => x_move rfl rfl) ⟨HE.ok .g, HE.row (l := .f 5) rfl⟩ ?_
  refine WT.litH HE (.x 1) rfl (i := 13) rfl (by kernel_rfl) rfl rfl rfl rfl (t := 32) rfl rfl rfl rfl rfl rfl (xs := [.int .i64 ((N : Nat) : Int)]) rfl (cells_one rfl) (one_cons rfl one_nil) ?_
  intro wF HF
  refine ⟨⟨HF.ok .g, HF.row (l := .f 5) rfl⟩, ?_⟩
  refine WT.appendH HF (l := .u i) huic (i := 14) rfl (by kernel_rfl) rfl rfl rfl rfl (t := 32) rfl rfl rfl rfl rfl ((HF.row (l := .x 1) rfl).src (t := 32) rfl) (by omega) ?_
  intro vu2 wG HG
  refine ⟨⟨HG.ok .g, HG.row (l := .f 5) rfl⟩, ?_⟩
  refine WT.take (i := 15) (by kernel_rfl) rfl rfl rfl rfl (by kernel_rfl) (by kernel_rfl) (by kernel_rfl) (fun c f w h => noPanic h) (v := (.pointer (some (adr (h5a) (i * 1))))) (fun u hS => x_index (i := i) rfl rfl (hS.2) rfl rfl (by rw [List.length_append]; omega)) ⟨HG.ok .g, HG.row (l := .f 5) rfl⟩ ?_
  refine WT.tail (by kernel_rfl) ?_
  refine WL.storeH HG (l := .f 5) rfl rfl rfl rfl (k := i * 1) rfl (ys := [vu2]) (cells1 (HG.row (l := .u i) (upd_same _ _ _))) (by kernel_rfl) (by show i * 1 + 1 ≤ (S.uses ++ [_]).length * 1; rw [List.length_append]; simp; omega) (one_cons (HG.row (l := .u i) (upd_same _ _ _)).one one_nil) (Nat.le_of_ble_eq_true rfl) ?_
  intro wH HH
  have HI := (HH.drop (.x 1)).eq (L' := lay { S with h3 := h3a, par := S.par ++ [((N : Nat) : Int)], h4 := h4a, cls := S.cls ++ [((Value.slice (some ⟨w3.heap.size, 0, none⟩) 1 1), 1, [.int .i64 ((N : Nat) : Int)])], h5 := h5a, uses := (S.uses ++ [((.slice none 0 0 : Value), ([] : List Int))]).set i (vu2, lu ++ [((N : Nat) : Int)]), h7 := h7a, edges := S.edges ++ [(0, 0, false)] }) ?_
  rotate_left
  · refine loc_cases rfl rfl rfl rfl rfl rfl (by show Ch.row _ _ _ _ = Ch.row _ _ _ _; rw [List.length_set, List.map_set]; congr 1; exact (map_set1 ((S.uses ++ [((.slice none 0 0 : Value), ([] : List Int))]).map (·.1)) i vu2 (by rw [List.length_map, List.length_append]; omega)).symm) rfl rfl (fun _ => rfl) (fun _ => rfl) (fun z => ?_) (fun _ => rfl) rfl rfl rfl rfl (fun _ => rfl) rfl
    show useC ((S.uses ++ [_]).set i _)[z]? = _
    by_cases hz : z = i
    · subst hz; rw [List.getElem?_set_self (by rw [List.length_append]; omega), upd_ne _ _ (by simp), upd_ne _ _ (by simp), upd_same]
      show Ch.row _ _ _ _ = Ch.row _ _ _ _
      rw [List.length_append]; congr 1; unfold ints; rw [List.map_append]; rfl
    · rw [List.getElem?_set_ne (Ne.symm hz), upd_ne _ _ (by simp), upd_ne _ _ (by simp), upd_ne _ _ (by simpa using hz)]; rfl
  refine WL.nil (WC.region ?_)
  refine WL.vald rfl rfl rfl (v := (.int .i64 (1))) (x_arithw (z := 1) rfl rfl rfl rfl (rfl)) ?_
  refine WL.vald rfl rfl rfl (v := (.int .i64 (1))) (x_move rfl rfl) ?_
  refine WL.nil (WR.succ ?_)
  refine WC.seq (WC.region ?_)
  refine WL.vald rfl rfl rfl (v := (.bool (decide (1 < ((1 : Nat) : Int))))) (x_arith rfl rfl rfl (av := .bool (decide (1 < ((1 : Nat) : Int)))) rfl) ?_
  refine WL.nil (WC.seq (WC.condF rfl (WC.exit ?_)))
  refine WC.seq (WC.region ?_)
  refine WL.vald rfl rfl rfl (v := (.pointer (some ⟨S.gb, 0, none⟩))) (x_move rfl rfl) ?_
  refine WL.vald rfl rfl rfl (v := (.int .i64 (((N : Nat) : Int)))) (x_move rfl rfl) ?_
  refine WL.calld rfl rfl rfl rfl rfl (runs_sigB (S := { S with h3 := h3a, par := S.par ++ [((N : Nat) : Int)], h4 := h4a, cls := S.cls ++ [((Value.slice (some ⟨w3.heap.size, 0, none⟩) 1 1), 1, [.int .i64 ((N : Nat) : Int)])], h5 := h5a, uses := (S.uses ++ [((.slice none 0 0 : Value), ([] : List Int))]).set i (vu2, lu ++ [((N : Nat) : Int)]), h7 := h7a, edges := S.edges ++ [(0, 0, false)] }) (HI.ok .g) (HI.row (l := .f 0) rfl) hn (HI.row (l := .a N) hna) (HI.row (l := .a N) hna).one (by decide) (HI.row (l := .f 3) rfl) hP (i := i) (by omega) (by omega) (ht _ (HI.ok .t))) ?_
  rintro _ wJ ⟨rfl, sJ⟩
  have HJ := HI.grow sJ
  refine WL.vald rfl rfl rfl (v := (.string (KS i))) (x_assign rfl rfl) ?_
  refine WL.nil (WC.seq (WC.seq (WC.region ?_)))
  have hks : (KS i).size ≤ 1000 := Nat.le_trans (KS_size i (by omega)) (by omega)
  refine WL.vald rfl rfl rfl (v := (.pointer (some ⟨S.gb, 0, none⟩))) (x_move rfl rfl) ?_
  refine WL.vald rfl rfl rfl (v := (.pointer (some ⟨S.gb, 0, none⟩))) (x_nilc rfl rfl) ?_
  refine WL.vald rfl rfl rfl (v := (.pointer (some ⟨S.gb, 6, none⟩))) (x_field rfl rfl (off := 6) (by kernel_rfl) rfl) ?_
  refine WL.vald rfl rfl rfl (v := (.map (some (S.b6)))) (x_load rfl rfl (by kernel_rfl) (var_cell (HJ.ok (.g)) rfl)) ?_
  refine WL.vald rfl rfl rfl (v := (.string (KS i))) (x_move rfl rfl) ?_
  refine WL.vald rfl rfl rfl (v := (.tuple #[(.int .i64 (0)), (.bool (false))])) (x_lookN rfl (HJ.map (l := .f 6) rfl) rfl rfl (by simp only [maxLen]; omega) hlk) ?_
  refine WL.vald rfl rfl rfl (v := (.tuple #[(.int .i64 (0)), (.bool (false))])) (x_move rfl rfl) ?_
  refine WL.vald rfl rfl rfl (v := (.int .i64 (0))) (x_extract rfl rfl rfl) ?_
  refine WL.vald rfl rfl rfl (v := (.bool (false))) (x_extract rfl rfl rfl) ?_
  refine WL.vald rfl rfl rfl (v := (.int .i64 (0))) (x_assign rfl rfl) ?_
  refine WL.vald rfl rfl rfl (v := (.bool (false))) (x_assign rfl rfl) ?_
  refine WL.nil (WC.seq (WC.region ?_))
  refine WL.vald rfl rfl rfl (v := (.bool (false))) (x_move rfl rfl) ?_
  refine WL.nil (WC.condF rfl (WC.skip (WC.region ?_)))
  refine WL.vald rfl rfl rfl (v := (.pointer (some ⟨S.gb, 0, none⟩))) (x_move rfl rfl) ?_
  refine WL.vald rfl rfl rfl (v := (.pointer (some ⟨S.gb, 0, none⟩))) (x_nilc rfl rfl) ?_
  refine WL.vald rfl rfl rfl (v := (.pointer (some ⟨S.gb, 6, none⟩))) (x_field rfl rfl (off := 6) (by kernel_rfl) rfl) ?_
  refine WL.vald rfl rfl rfl (v := (.map (some (S.b6)))) (x_load rfl rfl (by kernel_rfl) (var_cell (HJ.ok (.g)) rfl)) ?_
  refine WL.vald rfl rfl rfl (v := (.string (KS i))) (x_move rfl rfl) ?_
  refine WL.vald rfl rfl rfl (v := (.int .i64 (((N : Nat) : Int)))) (x_move rfl rfl) ?_
  refine WL.mapPutH HJ (l := .f 6) rfl rfl rfl rfl rfl rfl rfl (by show S.sg.length < _; simp only [maxLen]; omega) (by simp only [maxLen]; omega) (wf64 (by omega)) ?_
  intro wK HK
  refine WL.nil ⟨.inl rfl, [], rfl, h3a, h4a, h5a, h7a, (Value.slice (some ⟨w3.heap.size, 0, none⟩) 1 1), vu2, ?_⟩
  exact HK.eq (loc_cases rfl rfl rfl rfl rfl rfl rfl rfl rfl (fun _ => rfl) (fun _ => rfl) (fun _ => rfl) (fun _ => rfl) rfl rfl rfl rfl (fun _ => rfl) rfl)
end Go.Gr
end
section
/- Walking by exact values: a graph without terms; terms of a chain. -/
set_option maxRecDepth 10000
namespace Go.Gr
open Go.Abs (WTo tyAt ty_slice T_ok aggB Runs)
open Go.Proofs
open Go.Euf (E3 Par)
/-- A graph of a chain of N terms, without equations. -/
structure CH (N : Nat) (S : GS) : Prop where
  nl : S.nodes.length = N
  nS : ∀ u : Nat, u + 1 < N → ∃ va, S.nodes[u + 1]? = some (fF, va, [(u : Int)])
  par : S.par = (List.range N).map fun z : Nat => (z : Int)
  cls : S.cls.map (·.2.1) = List.replicate N 1
  usl : S.uses.length = N
  uses : ∀ z, z < N → ∃ v, S.uses[z]? = some (v, toI (if z + 1 < N then [z + 1] else []))
  edges : S.edges = List.replicate N (0, 0, false)
  sgn : Sgn S.sg (fun r => if r + 1 < N then some (r + 1) else none)
  sgl : S.sg.length = N
  wh : ∀ i, Abs.look S.wh (KS i) = if i + 1 < N then some ((i + 1 : Nat) : Int) else none
  whl : S.wh.length = N
  ne : S.ne = 0
  tab : TabO S.tb
theorem look_nil {m : Abs.SMap} (h : m.length = 0) (s : ByteArray) : Abs.look m s = none := by
  obtain rfl := List.eq_nil_of_length_eq_zero h
  rfl
def newS (gb b1 b6 : Nat) (tb : Obj) : GS := ⟨gb, b1, b6, .slice none 0 0, .slice none 0 0, .slice none 0 0, .slice none 0 0, .slice none 0 0, .slice none 0 0, [], 0, [], [], [], [], [], [], [], tb⟩
theorem newS_ch (gb b1 b6 : Nat) {tb : Obj} (h : TabO tb) : CH 0 (newS gb b1 b6 tb) :=
  ⟨rfl, fun u hu => by omega, rfl, rfl, rfl, fun z hz => by omega, rfl, fun r => by show none = _; simp only; rw [if_neg (by omega)]; rfl, rfl, fun i => by rw [if_neg (by omega)]; rfl, rfl, rfl, h⟩
theorem Hp.nils {w0 w : World} {B : Nat → Prop} {L L' : Loc → Ch} (H : Hp w0 B w L) (h : ∀ l, L' l = L l ∨ ∃ sz, L' l = .row (.slice none 0 0) 0 sz []) : Hp w0 B w L' := by
  have hb : ∀ l b, (L' l).blk = some b → (L l).blk = some b := fun l b hb => by
    rcases h l with h1 | ⟨sz, h1⟩
    · rw [← h1]; exact hb
    · rw [h1] at hb; cases hb
  refine ⟨fun l => ?_, fun l l' b h1 h2 => H.inj l l' b (hb l b h1) (hb l' b h2), fun l b h1 => H.own l b (hb l b h1), H.to⟩
  rcases h l with h1 | ⟨sz, h1⟩
  · rw [h1]; exact H.ok l
  · rw [h1]; exact RowOk.nil
theorem retG_lay (S S' : GS) (l : Loc) : (if isG l = true then lay S' l else lay S l) = lay S' l := by
  cases h : isG l with
  | true => rw [if_pos rfl]
  | false => rw [if_neg (by simp), lay_x S h, lay_x S' h]
theorem Hp.retL {w0 w w' : World} {B : Nat → Prop} {S S' : GS} (H : Hp w0 B w (lay S)) (K : Hp w (ownG S) w' (lay S')) : Hp w0 B w' (lay S') :=
  (H.retG (fun _ _ => rfl) K).eq (fun l => (retG_lay S S' l).symm)
theorem append_ne {X r s : ByteArray} {a b : UInt8} (hab : a ≠ b) : (X ++ ⟨#[a]⟩) ++ r ≠ (X ++ ⟨#[b]⟩) ++ s := by
  intro h
  have h := congrArg (fun x : ByteArray => x.data.toList) h
  simp only [ByteArray.data_append, Array.toList_append, List.append_assoc] at h
  have h := List.append_cancel_left h
  simp at h
  exact hab h.1
theorem sig_ne (i : Nat) : sigS fA 0 ≠ KS i := by
  have h1 : sigS fA 0 = ((itoaB fA.size ++ ⟨#[58]⟩) ++ ⟨#[97]⟩) ++ ((⟨#[33]⟩ : ByteArray) ++ itoaB (0 : Nat)) := by
    show ((itoaB fA.size ++ ⟨#[58]⟩) ++ ⟨#[97]⟩ ++ ⟨#[33]⟩) ++ itoaB (0 : Nat) = _
    rw [ByteArray.append_assoc]
  rw [h1]
  exact append_ne (X := itoaB fA.size ++ ⟨#[58]⟩) (r := (⟨#[33]⟩ : ByteArray) ++ itoaB (0 : Nat)) (s := (⟨#[44]⟩ : ByteArray) ++ itoaB (i : Int)) (by decide)
theorem keyA_ne (i : Nat) : keyS fA [] ≠ KS i := by
  have h1 : keyS fA [] = ((itoaB fA.size ++ ⟨#[58]⟩) ++ ⟨#[97]⟩) ++ (⟨#[]⟩ : ByteArray) := by
    show (itoaB fA.size ++ ⟨#[58]⟩) ++ ⟨#[97]⟩ = _
    exact (ByteArray.append_empty).symm
  rw [h1]
  exact append_ne (X := itoaB fA.size ++ ⟨#[58]⟩) (r := (⟨#[]⟩ : ByteArray)) (s := (⟨#[44]⟩ : ByteArray) ++ itoaB (i : Int)) (by decide)
theorem look_cons_ne {m : Abs.SMap} {k s : ByteArray} {n : Int} (h : k ≠ s) : Abs.look ((k, n) :: m) s = Abs.look m s := by
  show (bif decide (k = s) then _ else _) = _
  rw [decide_eq_false h]; rfl
theorem look_cons_eq {m : Abs.SMap} {k : ByteArray} {n : Int} : Abs.look ((k, n) :: m) k = some n := by
  show (bif decide (k = k) then _ else _) = _
  rw [decide_eq_true rfl]; rfl
theorem CH.next0 {N : Nat} {S : GS} (h : CH N S) (hN : N = 0) (va h0a vc h3a h4a h5a h7a : Value) {cx : List Value} : CH (N + 1) { S with h0 := h0a, nodes := S.nodes ++ [(fA, va, [])], wh := (keyS fA [], ((N : Nat) : Int)) :: S.wh, h3 := h3a, par := S.par ++ [((N : Nat) : Int)], h4 := h4a, cls := S.cls ++ [(vc, 1, cx)], h5 := h5a, uses := S.uses ++ [(.slice none 0 0, [])], h7 := h7a, edges := S.edges ++ [(0, 0, false)], sg := (sigS fA N, ((N : Nat) : Int)) :: S.sg } := by
  subst hN
  have e1 := List.eq_nil_of_length_eq_zero h.nl
  have e2 := List.eq_nil_of_length_eq_zero h.usl
  refine ⟨by simp [h.nl], fun u hu => by omega, by rw [h.par]; rfl, ?_, by simp [h.usl], fun z hz => ?_, by rw [h.edges]; rfl, fun r => ?_, by simp [h.sgl], fun i => ?_, by simp [h.whl], h.ne, h.tab⟩
  · show (S.cls ++ [_]).map _ = _
    rw [List.map_append, h.cls]; rfl
  · obtain rfl : z = 0 := by omega
    rw [if_neg (by omega), e2]
    exact ⟨_, rfl⟩
  · simp only
    rw [if_neg (by omega)]
    exact (look_cons_ne (sig_ne r)).trans (look_nil h.sgl _)
  · rw [if_neg (by omega)]
    exact (look_cons_ne (keyA_ne i)).trans (look_nil h.whl _)
theorem CH.nextS {N i : Nat} {S : GS} (h : CH N S) (hN : N = i + 1) (va h0a vc vu2 h3a h4a h5a h7a : Value) {cx : List Value} : CH (N + 1) { S with h0 := h0a, nodes := S.nodes ++ [(fF, va, [(i : Int)])], wh := (KS i, ((N : Nat) : Int)) :: S.wh, h3 := h3a, par := S.par ++ [((N : Nat) : Int)], h4 := h4a, cls := S.cls ++ [(vc, 1, cx)], h5 := h5a, uses := (S.uses ++ [((.slice none 0 0 : Value), ([] : List Int))]).set i (vu2, [] ++ [((N : Nat) : Int)]), h7 := h7a, edges := S.edges ++ [(0, 0, false)], sg := (KS i, ((N : Nat) : Int)) :: S.sg } := by
  have hul := h.usl
  have hnl := h.nl
  refine ⟨by simp [h.nl], fun u hu => ?_, ?_, ?_, by simp [h.usl], fun z hz => ?_, ?_, fun r => ?_, by simp [h.sgl], fun j => ?_, by simp [h.whl], h.ne, h.tab⟩
  · show ∃ v, (S.nodes ++ [_])[u + 1]? = _
    by_cases hu2 : u + 1 < N
    · obtain ⟨v, hv⟩ := h.nS u hu2
      exact ⟨v, by rw [List.getElem?_append_left (by omega)]; exact hv⟩
    · obtain rfl : u = i := by omega
      exact ⟨va, by rw [List.getElem?_append_right (by omega), show u + 1 - S.nodes.length = 0 by omega]; rfl⟩
  · show S.par ++ _ = _
    rw [h.par, List.range_succ, List.map_append]; rfl
  · show (S.cls ++ [_]).map _ = _
    rw [List.map_append, h.cls, List.replicate_succ']; rfl
  · simp only
    by_cases hzi : z = i
    · subst hzi
      rw [List.getElem?_set_self (by rw [List.length_append]; omega), if_pos (by omega)]
      exact ⟨vu2, by rw [hN]; rfl⟩
    · rw [List.getElem?_set_ne (Ne.symm hzi)]
      by_cases hz2 : z < N
      · rw [List.getElem?_append_left (by omega)]
        obtain ⟨v, hv⟩ := h.uses z hz2
        rw [if_pos (by omega)] at hv ⊢
        exact ⟨v, hv⟩
      · obtain rfl : z = N := by omega
        rw [List.getElem?_append_right (by omega), hul, Nat.sub_self, if_neg (by omega)]
        exact ⟨_, rfl⟩
  · show S.edges ++ _ = _
    rw [h.edges, List.replicate_succ']
  · show Abs.look ((KS i, ((N : Nat) : Int)) :: S.sg) (KS r) = _
    simp only
    by_cases hr : r = i
    · subst hr
      rw [look_cons_eq, if_pos (by omega), hN]; rfl
    · rw [look_cons_ne (fun he => hr (KS_inj he).symm), h.sgn r]
      simp only
      by_cases hr2 : r + 1 < N
      · rw [if_pos hr2, if_pos (by omega)]
      · rw [if_neg hr2, if_neg (by omega)]
  · show Abs.look ((KS i, ((N : Nat) : Int)) :: S.wh) (KS j) = _
    by_cases hr : j = i
    · subst hr
      rw [look_cons_eq, if_pos (by omega), hN]
    · rw [look_cons_ne (fun he => hr (KS_inj he).symm), h.wh j]
      by_cases hr2 : j + 1 < N
      · rw [if_pos hr2, if_pos (by omega)]
      · rw [if_neg hr2, if_neg (by omega)]
theorem runs_new {w0 w : World} {B : Nat → Prop} {tb : Obj} (htb : TabO tb) (H : Hp w0 B w (upd (fun _ => .no) .t (.raw 0 tb))) : Runs P 6 [] w (fun v w' => ∃ S : GS, v = .pointer (some ⟨S.gb, 0, none⟩) ∧ CH 0 S ∧ S.tb = tb ∧ Hp w0 B w' (lay S)) := by
  refine runs_of Tryd.func6 (by kernel_rfl) rfl rfl ?_
  refine WC.seq (WC.region ?_)
  refine WL.vald rfl rfl rfl (v := (.pointer none)) (x_assign rfl rfl) ?_
  refine WL.nil (WC.seq (WC.region ?_))
  refine WL.makeMapH H (.f 1) rfl rfl rfl rfl rfl ?_
  intro w1 H1
  refine WL.makeMapH H1 (.f 6) rfl rfl rfl rfl rfl ?_
  intro w2 H2
  refine WL.vald rfl rfl rfl (v := .agg (List.toArray [.slice none 0 0, .map (some w.heap.size), .slice none 0 0, .slice none 0 0, .slice none 0 0, .slice none 0 0, .map (some w1.heap.size), .slice none 0 0])) (x_build rfl (by kernel_rfl)) ?_
  refine WL.boxH H2 (.g) rfl rfl rfl rfl rfl (xs := [.slice none 0 0, .map (some w.heap.size), .slice none 0 0, .slice none 0 0, .slice none 0 0, .slice none 0 0, .map (some w1.heap.size), .slice none 0 0]) rfl ?_
  intro w3 H3
  refine WL.vald rfl rfl rfl (v := (.pointer (some ⟨w2.heap.size, 0, none⟩))) (x_assign rfl rfl) ?_
  refine WL.nil (WC.ret ⟨.inr rfl, [.pointer (some ⟨w2.heap.size, 0, none⟩)], rfl, newS w2.heap.size w.heap.size w1.heap.size tb, rfl, newS_ch _ _ _ htb, rfl, ?_⟩)
  exact (H3.nils (L' := lay (newS w2.heap.size w.heap.size w1.heap.size tb)) (loc_cases (.inl rfl) (.inr ⟨2, rfl⟩) (.inl rfl) (.inr ⟨2, rfl⟩) (.inr ⟨1, rfl⟩) (.inr ⟨1, rfl⟩) (.inr ⟨1, rfl⟩) (.inl rfl) (.inr ⟨3, rfl⟩) (fun _ => .inl rfl) (fun _ => .inl rfl) (fun _ => .inl rfl) (fun _ => .inl rfl) (.inl rfl) (.inl rfl) (.inl rfl) (.inl rfl) (fun _ => .inl rfl) (.inl rfl)))
theorem runs_node0 {w : World} {B : Nat → Prop} {S : GS} (H : Hp w B w (lay S)) {N : Nat} (hC : CH N S) (hN0 : N = 0) {v : Value} (har : RowOk w v 0 1 (ints [])) : Runs P 7 [.pointer (some ⟨S.gb, 0, none⟩), .string fA, v] w (fun u w' => u = .tuple #[.int .i64 ((N : Nat) : Int), .int .i64 0] ∧ ∃ S2 : GS, CH (N + 1) S2 ∧ S2.gb = S.gb ∧ S2.tb = S.tb ∧ Hp w B w' (lay S2)) := by
  have hlk : Abs.look S.wh (keyS fA []) = none := look_nil (hC.whl.trans hN0) _
  have hN : N ≤ 1000 := by omega
  have hnl := hC.nl
  have hpl : S.par.length = N := by rw [hC.par]; simp
  have hcl : S.cls.length = N := by have := congrArg List.length hC.cls; simpa using this
  have hel : S.edges.length = N := by rw [hC.edges]; simp
  refine runs_of Tryd.func7 (by kernel_rfl) rfl rfl ?_
  refine WC.seq (WC.region ?_)
  refine WL.vald rfl rfl rfl (v := (.int .i64 (0))) (x_assign rfl rfl) ?_
  refine WL.vald rfl rfl rfl (v := (.int .i64 (0))) (x_assign rfl rfl) ?_
  refine WL.nil (WC.seq (WC.seq (WC.region ?_)))
  refine WL.vald rfl rfl rfl (v := (v)) (x_move rfl rfl) ?_
  refine WL.vald rfl rfl rfl (v := (.int .i64 (((0 : Nat) : Int)))) (x_lenR rfl rfl (har) rfl) ?_
  refine WL.vald rfl rfl rfl (v := (.int .i64 (0))) (x_move rfl rfl) ?_
  refine WL.nil ?_
  refine WC.block (WC.rounds 1 (WR.succ ?_))
  refine WC.seq (WC.region ?_)
  refine WL.vald rfl rfl rfl (v := (.bool (decide (0 < ((0 : Nat) : Int))))) (x_arith rfl rfl rfl (av := .bool (decide (0 < ((0 : Nat) : Int)))) rfl) ?_
  refine WL.nil (WC.seq (WC.condF rfl (WC.exit ?_)))
  refine WC.seq (WC.region ?_)
  refine WL.vald rfl rfl rfl (v := (.string (fA))) (x_move rfl rfl) ?_
  refine WL.vald rfl rfl rfl (v := (v)) (x_move rfl rfl) ?_
  refine WL.calld rfl rfl rfl rfl rfl (runs_key fA (by decide) [] har (by omega) (fun a ha => by cases ha) (hC.tab _ (H.ok .t))) ?_
  rintro _ w1 ⟨rfl, s1⟩
  have H1 := H.grow s1
  refine WL.vald rfl rfl rfl (v := (.string (keyS fA []))) (x_assign rfl rfl) ?_
  refine WL.nil (WC.seq (WC.seq (WC.region ?_)))
  have hks : (keyS fA []).size ≤ 1000 := Nat.le_trans (keyS_size fA (by decide) [] (by simp) (fun a ha => by cases ha)) (by omega)
  refine WL.vald rfl rfl rfl (v := (.pointer (some ⟨S.gb, 0, none⟩))) (x_move rfl rfl) ?_
  refine WL.vald rfl rfl rfl (v := (.pointer (some ⟨S.gb, 0, none⟩))) (x_nilc rfl rfl) ?_
  refine WL.vald rfl rfl rfl (v := (.pointer (some ⟨S.gb, 1, none⟩))) (x_field rfl rfl (off := 1) (by kernel_rfl) rfl) ?_
  refine WL.vald rfl rfl rfl (v := (.map (some (S.b1)))) (x_load rfl rfl (by kernel_rfl) (var_cell (H1.ok (.g)) rfl)) ?_
  refine WL.vald rfl rfl rfl (v := (.string (keyS fA []))) (x_move rfl rfl) ?_
  refine WL.vald rfl rfl rfl (v := (.tuple #[(.int .i64 (0)), (.bool (false))])) (x_lookN rfl (H1.map (l := .f 1) rfl) rfl rfl (by simp only [maxLen]; omega) hlk) ?_
  refine WL.vald rfl rfl rfl (v := (.tuple #[(.int .i64 (0)), (.bool (false))])) (x_move rfl rfl) ?_
  refine WL.vald rfl rfl rfl (v := (.int .i64 (0))) (x_extract rfl rfl rfl) ?_
  refine WL.vald rfl rfl rfl (v := (.bool (false))) (x_extract rfl rfl rfl) ?_
  refine WL.vald rfl rfl rfl (v := (.int .i64 (0))) (x_assign rfl rfl) ?_
  refine WL.vald rfl rfl rfl (v := (.bool (false))) (x_assign rfl rfl) ?_
  refine WL.nil (WC.seq (WC.region ?_))
  refine WL.vald rfl rfl rfl (v := (.bool (false))) (x_move rfl rfl) ?_
  refine WL.nil (WC.condF rfl (WC.skip (WC.seq (WC.seq (WC.region ?_)))))
  refine WL.vald rfl rfl rfl (v := (.pointer (some ⟨S.gb, 0, none⟩))) (x_move rfl rfl) ?_
  refine WL.vald rfl rfl rfl (v := (.pointer (some ⟨S.gb, 0, none⟩))) (x_nilc rfl rfl) ?_
  refine WL.vald rfl rfl rfl (v := (.pointer (some ⟨S.gb, 0, none⟩))) (x_field rfl rfl (off := 0) (by kernel_rfl) rfl) ?_
  refine WL.vald rfl rfl rfl (v := (S.h0)) (x_load rfl rfl (by kernel_rfl) (var_cell (H1.ok (.g)) rfl)) ?_
  refine WL.vald rfl rfl rfl (v := (.int .i64 (((S.nodes.length : Nat) : Int)))) (x_lenR rfl rfl ((H1.row (l := .f 0) rfl)) rfl) ?_
  refine WL.vald rfl rfl rfl (v := (.bool (false))) (x_arithb (z := false) rfl rfl rfl rfl (decide_eq_false (by omega))) ?_
  refine WL.nil (WC.condF rfl (WC.skip (WC.seq (WC.region ?_))))
  refine WL.vald rfl rfl rfl (v := (.pointer (some ⟨S.gb, 0, none⟩))) (x_move rfl rfl) ?_
  refine WL.vald rfl rfl rfl (v := (.pointer (some ⟨S.gb, 0, none⟩))) (x_nilc rfl rfl) ?_
  refine WL.vald rfl rfl rfl (v := (.pointer (some ⟨S.gb, 0, none⟩))) (x_field rfl rfl (off := 0) (by kernel_rfl) rfl) ?_
  refine WL.vald rfl rfl rfl (v := (S.h0)) (x_load rfl rfl (by kernel_rfl) (var_cell (H1.ok (.g)) rfl)) ?_
  refine WL.vald rfl rfl rfl (v := (.int .i64 (((S.nodes.length : Nat) : Int)))) (x_lenR rfl rfl ((H1.row (l := .f 0) rfl)) rfl) ?_
  refine WL.vald rfl rfl rfl (v := (.int .i64 (((S.nodes.length : Nat) : Int)))) (x_assign rfl rfl) ?_
  refine WL.nil (WC.seq ?_)
  have H2 := H1.drew
  have har2 : RowOk w1.drew v 0 1 (ints []) := (har.kept s1).kept ⟨rfl, rfl, rfl, Nat.le_refl _, fun _ _ _ => rfl⟩
  refine WC.anyT 13 (fun u => (Ch.var S.gb S.flds).ok u) mixedP (by kernel_rfl) ?_
  refine WT.take (i := 0) (by kernel_rfl) rfl rfl rfl rfl (by kernel_rfl) (by kernel_rfl) (by kernel_rfl) (fun c f w h => noPanic h) (v := (.pointer (some ⟨S.gb, 0, none⟩))) (fun u hS => x_move rfl rfl) (H2.ok .g) ?_
  refine WT.take (i := 1) (by kernel_rfl) rfl rfl rfl rfl (by kernel_rfl) (by kernel_rfl) (by kernel_rfl) (fun c f w h => noPanic h) (v := (.pointer (some ⟨S.gb, 0, none⟩))) (fun u hS => x_move rfl rfl) (H2.ok .g) ?_
  refine WT.take (i := 2) (by kernel_rfl) rfl rfl rfl rfl (by kernel_rfl) (by kernel_rfl) (by kernel_rfl) (fun c f w h => noPanic h) (v := (.pointer (some ⟨S.gb, 0, none⟩))) (fun u hS => x_nilc rfl rfl) (H2.ok .g) ?_
  refine WT.take (i := 3) (by kernel_rfl) rfl rfl rfl rfl (by kernel_rfl) (by kernel_rfl) (by kernel_rfl) (fun c f w h => noPanic h) (v := (.pointer (some ⟨S.gb, 0, none⟩))) (fun u hS => x_field rfl rfl (off := 0) (by kernel_rfl) rfl) (H2.ok .g) ?_
  refine WT.take (i := 4) (by kernel_rfl) rfl rfl rfl rfl (by kernel_rfl) (by kernel_rfl) (by kernel_rfl) (fun c f w h => noPanic h) (v := (S.h0)) (fun u hS => x_load rfl rfl (by kernel_rfl) (var_cell (hS) rfl)) (H2.ok .g) ?_
  refine WT.take (i := 5) (by kernel_rfl) rfl rfl rfl rfl (by kernel_rfl) (by kernel_rfl) (by kernel_rfl) (fun c f w h => noPanic h) (v := (.string (fA))) (fun u hS => x_move rfl rfl) (H2.ok .g) ?_
  refine WT.take (i := 6) (by kernel_rfl) rfl rfl rfl rfl (by kernel_rfl) (by kernel_rfl) (by kernel_rfl) (fun c f w h => noPanic h) (v := (v)) (fun u hS => x_move rfl rfl) (H2.ok .g) ?_
  refine WT.oneCall (i := 7) rfl (by kernel_rfl) rfl rfl rfl rfl rfl rfl (runs_clone har2 (by omega)) ?_
  rintro va w3 ⟨hva, s3, hfr⟩
  have H3 := H2.step (.x 1) (.row va 0 1 (ints [])) s3 hva (fun b hb => .inr (hfr b hb))
  refine ⟨H3.ok .g, ?_⟩
  obtain ⟨Ava, cva, hva2⟩ := hva.len
  refine WT.take (i := 8) (by kernel_rfl) rfl rfl rfl rfl (by kernel_rfl) (by kernel_rfl) (by kernel_rfl) (fun c f w h => noPanic h) (v := .agg #[.string fA, va]) (fun u hS => x_build rfl (by subst hva2; kernel_rfl)) (H3.ok .g) ?_
  refine WT.litH H3 (.x 2) rfl (i := 9) rfl (by kernel_rfl) rfl rfl rfl rfl (t := 49) rfl rfl rfl rfl rfl rfl (xs := [.string fA, va]) rfl (cells_one rfl) (one_cons rfl (one_cons hva.one one_nil)) ?_
  intro w4 H4
  refine ⟨H4.ok .g, ?_⟩
  refine WT.appendH H4 (l := .f 0) rfl (i := 10) rfl (by kernel_rfl) rfl rfl rfl rfl (t := 49) rfl rfl rfl rfl rfl ((H4.row (l := .x 2) rfl).src (t := 49) rfl) (by show (S.nodes.length + 1) * 40 ≤ 140737488355328; omega) ?_
  intro h0a w5 H5
  refine ⟨H5.ok .g, ?_⟩
  refine WT.take (i := 11) (by kernel_rfl) rfl rfl rfl rfl (by kernel_rfl) (by kernel_rfl) (by kernel_rfl) (fun c f w h => noPanic h) (v := (.pointer (some ⟨S.gb, 0, none⟩))) (fun u hS => x_nilc rfl rfl) (H5.ok .g) ?_
  refine WT.take (i := 12) (by kernel_rfl) rfl rfl rfl rfl (by kernel_rfl) (by kernel_rfl) (by kernel_rfl) (fun c f w h => noPanic h) (v := (.pointer (some ⟨S.gb, 0, none⟩))) (fun u hS => x_field rfl rfl (off := 0) (by kernel_rfl) rfl) (H5.ok .g) ?_
  refine WT.tail (by kernel_rfl) ?_
  refine WL.storeVH H5 (l := .g) rfl rfl rfl rfl (k := 0) rfl (ys := [h0a]) (cells1 (H5.row (l := .f 0) rfl)) (by kernel_rfl) (Nat.le_of_ble_eq_true rfl) (one_cons (H5.row (l := .f 0) rfl).one one_nil) ?_
  intro w6 H6
  have HA := ((H6.drop (.x 2)).move (l := .x 1) (l' := .a N) (by simp) (by show argC S.nodes[N]? = _; rw [List.getElem?_eq_none (by omega)]; rfl)).eq (L' := lay { S with h0 := h0a, nodes := S.nodes ++ [(fA, va, [])] }) ?_
  rotate_left
  · refine loc_cases rfl (by show Ch.row _ _ _ _ = Ch.row _ _ _ _; rw [List.length_append, List.flatMap_append]; rfl) rfl rfl rfl rfl rfl rfl rfl (fun _ => rfl) (fun _ => rfl) (fun _ => rfl) (fun z => ?_) rfl rfl rfl rfl (fun _ => rfl) rfl
    show argC (S.nodes ++ [_])[z]? = _
    by_cases hz : z = N
    · subst hz; rw [List.getElem?_append_right (by omega), hnl, Nat.sub_self]; exact (upd_same _ _ _).symm
    · rw [upd_ne _ _ (by simpa using hz)]; show _ = argC S.nodes[z]?; congr 1
      by_cases hz2 : z < S.nodes.length
      · rw [List.getElem?_append_left hz2]
      · rw [List.getElem?_append_right (by omega), List.getElem?_eq_none (by simp; omega), List.getElem?_eq_none (by omega)]
  refine WL.nil (WC.seq (WC.region ?_))
  refine WL.vald rfl rfl rfl (v := (.pointer (some ⟨S.gb, 0, none⟩))) (x_move rfl rfl) ?_
  refine WL.vald rfl rfl rfl (v := (.pointer (some ⟨S.gb, 0, none⟩))) (x_nilc rfl rfl) ?_
  refine WL.vald rfl rfl rfl (v := (.pointer (some ⟨S.gb, 1, none⟩))) (x_field rfl rfl (off := 1) (by kernel_rfl) rfl) ?_
  refine WL.vald rfl rfl rfl (v := (.map (some (S.b1)))) (x_load rfl rfl (by kernel_rfl) (var_cell (HA.ok (.g)) rfl)) ?_
  refine WL.vald rfl rfl rfl (v := (.string (keyS fA []))) (x_move rfl rfl) ?_
  refine WL.vald rfl rfl rfl (v := (.int .i64 (((S.nodes.length : Nat) : Int)))) (x_move rfl rfl) ?_
  refine WL.mapPutH HA (l := .f 1) rfl rfl rfl rfl rfl rfl rfl (by show S.wh.length < _; rw [hC.whl]; simp only [maxLen]; omega) (by simp only [maxLen]; omega) (wf64 (by omega)) ?_
  intro w7 H7
  have HB := H7.eq (L' := lay { S with h0 := h0a, nodes := S.nodes ++ [(fA, va, [])], wh := (keyS fA [], ((S.nodes.length : Nat) : Int)) :: S.wh }) (loc_cases rfl rfl rfl rfl rfl rfl rfl rfl rfl (fun _ => rfl) (fun _ => rfl) (fun _ => rfl) (fun _ => rfl) rfl rfl rfl rfl (fun _ => rfl) rfl)
  refine WL.nil (WC.seq (WC.region ?_))
  have hnn : (S.nodes ++ [(fA, va, [])])[S.nodes.length]? = some (fA, va, []) := by rw [List.getElem?_append_right (Nat.le_refl _), Nat.sub_self]; rfl
  refine WL.vald rfl rfl rfl (v := (.pointer (some ⟨S.gb, 0, none⟩))) (x_move rfl rfl) ?_
  refine WL.vald rfl rfl rfl (v := (.int .i64 (((S.nodes.length : Nat) : Int)))) (x_move rfl rfl) ?_
  refine WL.calld rfl rfl rfl rfl rfl (runs_enter0 (S := { S with h0 := h0a, nodes := S.nodes ++ [(fA, va, [])], wh := (keyS fA [], ((S.nodes.length : Nat) : Int)) :: S.wh }) (HB.begG (fun _ _ => rfl)) (N := S.nodes.length) hnn (hpl.trans hnl.symm) (hcl.trans hnl.symm) (hC.usl.trans hnl.symm) (hel.trans hnl.symm) (by omega) hC.tab (by show S.sg.length ≤ _; rw [hC.sgl]; omega) (look_nil (hC.sgl.trans hN0) _)) ?_
  rintro _ w8 ⟨h3a, h4a, h5a, h7a, vc, KE⟩
  have HC := HB.retL KE
  refine WL.nil (WC.seq (WC.region ?_))
  refine WL.vald rfl rfl rfl (v := (.int .i64 (((S.nodes.length : Nat) : Int)))) (x_move rfl rfl) ?_
  refine WL.vald rfl rfl rfl (v := (.int .i64 (((S.nodes.length : Nat) : Int)))) (x_assign rfl rfl) ?_
  refine WL.vald rfl rfl rfl (v := (.int .i64 (0))) (x_assign rfl rfl) ?_
  rw [hnl] at HC
  exact WL.nil (WC.ret ⟨.inr rfl, [.int .i64 ((S.nodes.length : Nat) : Int), .int .i64 0], rfl, by rw [hnl], _, hC.next0 hN0 va h0a vc h3a h4a h5a h7a, rfl, rfl, HC⟩)
theorem runs_nodeS {w : World} {B : Nat → Prop} {S : GS} (H : Hp w B w (lay S)) {N i : Nat} (hC : CH N S) (hNi : N = i + 1) (hN : N ≤ 1000) {v : Value} (har : RowOk w v 1 1 (ints [(i : Int)])) : Runs P 7 [.pointer (some ⟨S.gb, 0, none⟩), .string fF, v] w (fun u w' => u = .tuple #[.int .i64 ((N : Nat) : Int), .int .i64 0] ∧ ∃ S2 : GS, CH (N + 1) S2 ∧ S2.gb = S.gb ∧ S2.tb = S.tb ∧ Hp w B w' (lay S2)) := by
  have hlk : Abs.look S.wh (KS i) = none := by rw [hC.wh i, if_neg (by omega)]
  have hnl := hC.nl
  have hpl : S.par.length = N := by rw [hC.par]; simp
  have hcl : S.cls.length = N := by have := congrArg List.length hC.cls; simpa using this
  have hel : S.edges.length = N := by rw [hC.edges]; simp
  refine runs_of Tryd.func7 (by kernel_rfl) rfl rfl ?_
  refine WC.seq (WC.region ?_)
  refine WL.vald rfl rfl rfl (v := (.int .i64 (0))) (x_assign rfl rfl) ?_
  refine WL.vald rfl rfl rfl (v := (.int .i64 (0))) (x_assign rfl rfl) ?_
  refine WL.nil (WC.seq (WC.seq (WC.region ?_)))
  refine WL.vald rfl rfl rfl (v := (v)) (x_move rfl rfl) ?_
  refine WL.vald rfl rfl rfl (v := (.int .i64 (((1 : Nat) : Int)))) (x_lenR rfl rfl (har) rfl) ?_
  refine WL.vald rfl rfl rfl (v := (.int .i64 (0))) (x_move rfl rfl) ?_
  refine WL.nil ?_
  refine WC.block (WC.rounds 2 (WR.succ ?_))
  refine WC.seq (WC.region ?_)
  refine WL.vald rfl rfl rfl (v := (.bool (decide (0 < ((1 : Nat) : Int))))) (x_arith rfl rfl rfl (av := .bool (decide (0 < ((1 : Nat) : Int)))) rfl) ?_
  refine WL.nil (WC.seq (WC.condT rfl (WC.skip ?_)))
  refine WC.seq (WC.block (WC.seq (WC.region ?_)))
  refine WL.vald rfl rfl rfl (v := (.pointer (some (adr (v) (0 * 1))))) (x_index (i := 0) rfl rfl (har) rfl rfl (by omega)) ?_
  refine WL.vald rfl rfl rfl (v := (.int .i64 ((i : Int)))) (x_load rfl rfl (by kernel_rfl) (RowOk.cell (har) (rfl))) ?_
  refine WL.vald rfl rfl rfl (v := (.int .i64 ((i : Int)))) (x_assign rfl rfl) ?_
  refine WL.nil (WC.seq (WC.region ?_))
  refine WL.vald rfl rfl rfl (v := (.int .i64 ((i : Int)))) (x_move rfl rfl) ?_
  refine WL.vald rfl rfl rfl (v := (.bool (false))) (x_arithb (z := false) rfl rfl rfl rfl (decide_eq_false (by omega))) ?_
  refine WL.vald rfl rfl rfl (v := (.bool (false))) (x_move rfl rfl) ?_
  refine WL.gvald rfl rfl rfl rfl rfl rfl (v := (.int .i64 ((i : Int)))) (x_move rfl rfl) ?_
  refine WL.gvald rfl rfl rfl rfl rfl rfl (v := (.pointer (some ⟨S.gb, 0, none⟩))) (x_move rfl rfl) ?_
  refine WL.gvald rfl rfl rfl rfl rfl rfl (v := (.pointer (some ⟨S.gb, 0, none⟩))) (x_nilc rfl rfl) ?_
  refine WL.gvald rfl rfl rfl rfl rfl rfl (v := (.pointer (some ⟨S.gb, 0, none⟩))) (x_field rfl rfl (off := 0) (by kernel_rfl) rfl) ?_
  refine WL.gvald rfl rfl rfl rfl rfl rfl (v := (S.h0)) (x_load rfl rfl (by kernel_rfl) (var_cell (H.ok (.g)) rfl)) ?_
  refine WL.gvald rfl rfl rfl rfl rfl rfl (v := (.int .i64 (((S.nodes.length : Nat) : Int)))) (x_lenR rfl rfl ((H.row (l := .f 0) rfl)) rfl) ?_
  refine WL.gvald rfl rfl rfl rfl rfl rfl (v := (.bool (false))) (x_arithb (z := false) rfl rfl rfl rfl (decide_eq_false (by omega))) ?_
  refine WL.vald rfl rfl rfl (v := (.bool (false))) (x_pick rfl rfl rfl) ?_
  refine WL.nil (WC.condF rfl (WC.skip (WC.region ?_)))
  refine WL.vald rfl rfl rfl (v := (.int .i64 (1))) (x_arithw (z := 1) rfl rfl rfl rfl (rfl)) ?_
  refine WL.vald rfl rfl rfl (v := (.int .i64 (1))) (x_move rfl rfl) ?_
  refine WL.nil (WR.succ ?_)
  refine WC.seq (WC.region ?_)
  refine WL.vald rfl rfl rfl (v := (.bool (decide (1 < ((1 : Nat) : Int))))) (x_arith rfl rfl rfl (av := .bool (decide (1 < ((1 : Nat) : Int)))) rfl) ?_
  refine WL.nil (WC.seq (WC.condF rfl (WC.exit ?_)))
  refine WC.seq (WC.region ?_)
  refine WL.vald rfl rfl rfl (v := (.string (fF))) (x_move rfl rfl) ?_
  refine WL.vald rfl rfl rfl (v := (v)) (x_move rfl rfl) ?_
  refine WL.calld rfl rfl rfl rfl rfl (runs_key fF (by decide) [(i : Int)] har (by omega) (fun a ha => by obtain rfl := List.mem_singleton.1 ha; omega) (hC.tab _ (H.ok .t))) ?_
  rintro _ w1 ⟨rfl, s1⟩
  have H1 := H.grow s1
  refine WL.vald rfl rfl rfl (v := (.string (KS i))) (x_assign rfl rfl) ?_
  refine WL.nil (WC.seq (WC.seq (WC.region ?_)))
  have hks : (KS i).size ≤ 1000 := Nat.le_trans (KS_size i (by omega)) (by omega)
  refine WL.vald rfl rfl rfl (v := (.pointer (some ⟨S.gb, 0, none⟩))) (x_move rfl rfl) ?_
  refine WL.vald rfl rfl rfl (v := (.pointer (some ⟨S.gb, 0, none⟩))) (x_nilc rfl rfl) ?_
  refine WL.vald rfl rfl rfl (v := (.pointer (some ⟨S.gb, 1, none⟩))) (x_field rfl rfl (off := 1) (by kernel_rfl) rfl) ?_
  refine WL.vald rfl rfl rfl (v := (.map (some (S.b1)))) (x_load rfl rfl (by kernel_rfl) (var_cell (H1.ok (.g)) rfl)) ?_
  refine WL.vald rfl rfl rfl (v := (.string (KS i))) (x_move rfl rfl) ?_
  refine WL.vald rfl rfl rfl (v := (.tuple #[(.int .i64 (0)), (.bool (false))])) (x_lookN rfl (H1.map (l := .f 1) rfl) rfl rfl (by simp only [maxLen]; omega) hlk) ?_
  refine WL.vald rfl rfl rfl (v := (.tuple #[(.int .i64 (0)), (.bool (false))])) (x_move rfl rfl) ?_
  refine WL.vald rfl rfl rfl (v := (.int .i64 (0))) (x_extract rfl rfl rfl) ?_
  refine WL.vald rfl rfl rfl (v := (.bool (false))) (x_extract rfl rfl rfl) ?_
  refine WL.vald rfl rfl rfl (v := (.int .i64 (0))) (x_assign rfl rfl) ?_
  refine WL.vald rfl rfl rfl (v := (.bool (false))) (x_assign rfl rfl) ?_
  refine WL.nil (WC.seq (WC.region ?_))
  refine WL.vald rfl rfl rfl (v := (.bool (false))) (x_move rfl rfl) ?_
  refine WL.nil (WC.condF rfl (WC.skip (WC.seq (WC.seq (WC.region ?_)))))
  refine WL.vald rfl rfl rfl (v := (.pointer (some ⟨S.gb, 0, none⟩))) (x_move rfl rfl) ?_
  refine WL.vald rfl rfl rfl (v := (.pointer (some ⟨S.gb, 0, none⟩))) (x_nilc rfl rfl) ?_
  refine WL.vald rfl rfl rfl (v := (.pointer (some ⟨S.gb, 0, none⟩))) (x_field rfl rfl (off := 0) (by kernel_rfl) rfl) ?_
  refine WL.vald rfl rfl rfl (v := (S.h0)) (x_load rfl rfl (by kernel_rfl) (var_cell (H1.ok (.g)) rfl)) ?_
  refine WL.vald rfl rfl rfl (v := (.int .i64 (((S.nodes.length : Nat) : Int)))) (x_lenR rfl rfl ((H1.row (l := .f 0) rfl)) rfl) ?_
  refine WL.vald rfl rfl rfl (v := (.bool (false))) (x_arithb (z := false) rfl rfl rfl rfl (decide_eq_false (by omega))) ?_
  refine WL.nil (WC.condF rfl (WC.skip (WC.seq (WC.region ?_))))
  refine WL.vald rfl rfl rfl (v := (.pointer (some ⟨S.gb, 0, none⟩))) (x_move rfl rfl) ?_
  refine WL.vald rfl rfl rfl (v := (.pointer (some ⟨S.gb, 0, none⟩))) (x_nilc rfl rfl) ?_
  refine WL.vald rfl rfl rfl (v := (.pointer (some ⟨S.gb, 0, none⟩))) (x_field rfl rfl (off := 0) (by kernel_rfl) rfl) ?_
  refine WL.vald rfl rfl rfl (v := (S.h0)) (x_load rfl rfl (by kernel_rfl) (var_cell (H1.ok (.g)) rfl)) ?_
  refine WL.vald rfl rfl rfl (v := (.int .i64 (((S.nodes.length : Nat) : Int)))) (x_lenR rfl rfl ((H1.row (l := .f 0) rfl)) rfl) ?_
  refine WL.vald rfl rfl rfl (v := (.int .i64 (((S.nodes.length : Nat) : Int)))) (x_assign rfl rfl) ?_
  refine WL.nil (WC.seq ?_)
  have H2 := H1.drew
  have har2 : RowOk w1.drew v 1 1 (ints [(i : Int)]) := (har.kept s1).kept ⟨rfl, rfl, rfl, Nat.le_refl _, fun _ _ _ => rfl⟩
  refine WC.anyT 13 (fun u => (Ch.var S.gb S.flds).ok u) mixedP (by kernel_rfl) ?_
  refine WT.take (i := 0) (by kernel_rfl) rfl rfl rfl rfl (by kernel_rfl) (by kernel_rfl) (by kernel_rfl) (fun c f w h => noPanic h) (v := (.pointer (some ⟨S.gb, 0, none⟩))) (fun u hS => x_move rfl rfl) (H2.ok .g) ?_
  refine WT.take (i := 1) (by kernel_rfl) rfl rfl rfl rfl (by kernel_rfl) (by kernel_rfl) (by kernel_rfl) (fun c f w h => noPanic h) (v := (.pointer (some ⟨S.gb, 0, none⟩))) (fun u hS => x_move rfl rfl) (H2.ok .g) ?_
  refine WT.take (i := 2) (by kernel_rfl) rfl rfl rfl rfl (by kernel_rfl) (by kernel_rfl) (by kernel_rfl) (fun c f w h => noPanic h) (v := (.pointer (some ⟨S.gb, 0, none⟩))) (fun u hS => x_nilc rfl rfl) (H2.ok .g) ?_
  refine WT.take (i := 3) (by kernel_rfl) rfl rfl rfl rfl (by kernel_rfl) (by kernel_rfl) (by kernel_rfl) (fun c f w h => noPanic h) (v := (.pointer (some ⟨S.gb, 0, none⟩))) (fun u hS => x_field rfl rfl (off := 0) (by kernel_rfl) rfl) (H2.ok .g) ?_
  refine WT.take (i := 4) (by kernel_rfl) rfl rfl rfl rfl (by kernel_rfl) (by kernel_rfl) (by kernel_rfl) (fun c f w h => noPanic h) (v := (S.h0)) (fun u hS => x_load rfl rfl (by kernel_rfl) (var_cell (hS) rfl)) (H2.ok .g) ?_
  refine WT.take (i := 5) (by kernel_rfl) rfl rfl rfl rfl (by kernel_rfl) (by kernel_rfl) (by kernel_rfl) (fun c f w h => noPanic h) (v := (.string (fF))) (fun u hS => x_move rfl rfl) (H2.ok .g) ?_
  refine WT.take (i := 6) (by kernel_rfl) rfl rfl rfl rfl (by kernel_rfl) (by kernel_rfl) (by kernel_rfl) (fun c f w h => noPanic h) (v := (v)) (fun u hS => x_move rfl rfl) (H2.ok .g) ?_
  refine WT.oneCall (i := 7) rfl (by kernel_rfl) rfl rfl rfl rfl rfl rfl (runs_clone har2 (by omega)) ?_
  rintro va w3 ⟨hva, s3, hfr⟩
  have H3 := H2.step (.x 1) (.row va 1 1 (ints [(i : Int)])) s3 hva (fun b hb => .inr (hfr b hb))
  refine ⟨H3.ok .g, ?_⟩
  obtain ⟨Ava, cva, hva2⟩ := hva.len
  refine WT.take (i := 8) (by kernel_rfl) rfl rfl rfl rfl (by kernel_rfl) (by kernel_rfl) (by kernel_rfl) (fun c f w h => noPanic h) (v := .agg #[.string fF, va]) (fun u hS => x_build rfl (by subst hva2; kernel_rfl)) (H3.ok .g) ?_
  refine WT.litH H3 (.x 2) rfl (i := 9) rfl (by kernel_rfl) rfl rfl rfl rfl (t := 49) rfl rfl rfl rfl rfl rfl (xs := [.string fF, va]) rfl (cells_one rfl) (one_cons rfl (one_cons hva.one one_nil)) ?_
  intro w4 H4
  refine ⟨H4.ok .g, ?_⟩
  refine WT.appendH H4 (l := .f 0) rfl (i := 10) rfl (by kernel_rfl) rfl rfl rfl rfl (t := 49) rfl rfl rfl rfl rfl ((H4.row (l := .x 2) rfl).src (t := 49) rfl) (by show (S.nodes.length + 1) * 40 ≤ 140737488355328; omega) ?_
  intro h0a w5 H5
  refine ⟨H5.ok .g, ?_⟩
  refine WT.take (i := 11) (by kernel_rfl) rfl rfl rfl rfl (by kernel_rfl) (by kernel_rfl) (by kernel_rfl) (fun c f w h => noPanic h) (v := (.pointer (some ⟨S.gb, 0, none⟩))) (fun u hS => x_nilc rfl rfl) (H5.ok .g) ?_
  refine WT.take (i := 12) (by kernel_rfl) rfl rfl rfl rfl (by kernel_rfl) (by kernel_rfl) (by kernel_rfl) (fun c f w h => noPanic h) (v := (.pointer (some ⟨S.gb, 0, none⟩))) (fun u hS => x_field rfl rfl (off := 0) (by kernel_rfl) rfl) (H5.ok .g) ?_
  refine WT.tail (by kernel_rfl) ?_
  refine WL.storeVH H5 (l := .g) rfl rfl rfl rfl (k := 0) rfl (ys := [h0a]) (cells1 (H5.row (l := .f 0) rfl)) (by kernel_rfl) (Nat.le_of_ble_eq_true rfl) (one_cons (H5.row (l := .f 0) rfl).one one_nil) ?_
  intro w6 H6
  have HA := ((H6.drop (.x 2)).move (l := .x 1) (l' := .a N) (by simp) (by show argC S.nodes[N]? = _; rw [List.getElem?_eq_none (by omega)]; rfl)).eq (L' := lay { S with h0 := h0a, nodes := S.nodes ++ [(fF, va, [(i : Int)])] }) ?_
  rotate_left
  · refine loc_cases rfl (by show Ch.row _ _ _ _ = Ch.row _ _ _ _; rw [List.length_append, List.flatMap_append]; rfl) rfl rfl rfl rfl rfl rfl rfl (fun _ => rfl) (fun _ => rfl) (fun _ => rfl) (fun z => ?_) rfl rfl rfl rfl (fun _ => rfl) rfl
    show argC (S.nodes ++ [_])[z]? = _
    by_cases hz : z = N
    · subst hz; rw [List.getElem?_append_right (by omega), hnl, Nat.sub_self]; exact (upd_same _ _ _).symm
    · rw [upd_ne _ _ (by simpa using hz)]; show _ = argC S.nodes[z]?; congr 1
      by_cases hz2 : z < S.nodes.length
      · rw [List.getElem?_append_left hz2]
      · rw [List.getElem?_append_right (by omega), List.getElem?_eq_none (by simp; omega), List.getElem?_eq_none (by omega)]
  refine WL.nil (WC.seq (WC.region ?_))
  refine WL.vald rfl rfl rfl (v := (.pointer (some ⟨S.gb, 0, none⟩))) (x_move rfl rfl) ?_
  refine WL.vald rfl rfl rfl (v := (.pointer (some ⟨S.gb, 0, none⟩))) (x_nilc rfl rfl) ?_
  refine WL.vald rfl rfl rfl (v := (.pointer (some ⟨S.gb, 1, none⟩))) (x_field rfl rfl (off := 1) (by kernel_rfl) rfl) ?_
  refine WL.vald rfl rfl rfl (v := (.map (some (S.b1)))) (x_load rfl rfl (by kernel_rfl) (var_cell (HA.ok (.g)) rfl)) ?_
  refine WL.vald rfl rfl rfl (v := (.string (KS i))) (x_move rfl rfl) ?_
  refine WL.vald rfl rfl rfl (v := (.int .i64 (((S.nodes.length : Nat) : Int)))) (x_move rfl rfl) ?_
  refine WL.mapPutH HA (l := .f 1) rfl rfl rfl rfl rfl rfl rfl (by show S.wh.length < _; rw [hC.whl]; simp only [maxLen]; omega) (by simp only [maxLen]; omega) (wf64 (by omega)) ?_
  intro w7 H7
  have HB := H7.eq (L' := lay { S with h0 := h0a, nodes := S.nodes ++ [(fF, va, [(i : Int)])], wh := (KS i, ((S.nodes.length : Nat) : Int)) :: S.wh }) (loc_cases rfl rfl rfl rfl rfl rfl rfl rfl rfl (fun _ => rfl) (fun _ => rfl) (fun _ => rfl) (fun _ => rfl) rfl rfl rfl rfl (fun _ => rfl) rfl)
  refine WL.nil (WC.seq (WC.region ?_))
  have hnn : (S.nodes ++ [(fF, va, [(i : Int)])])[S.nodes.length]? = some (fF, va, [(i : Int)]) := by rw [List.getElem?_append_right (Nat.le_refl _), Nat.sub_self]; rfl
  obtain ⟨vu, hui⟩ := hC.uses i (by omega)
  rw [if_neg (by omega)] at hui
  refine WL.vald rfl rfl rfl (v := (.pointer (some ⟨S.gb, 0, none⟩))) (x_move rfl rfl) ?_
  refine WL.vald rfl rfl rfl (v := (.int .i64 (((S.nodes.length : Nat) : Int)))) (x_move rfl rfl) ?_
  refine WL.calld rfl rfl rfl rfl rfl (runs_enterS (S := { S with h0 := h0a, nodes := S.nodes ++ [(fF, va, [(i : Int)])], wh := (KS i, ((S.nodes.length : Nat) : Int)) :: S.wh }) (HB.begG (fun _ _ => rfl)) (N := S.nodes.length) (i := i) (by omega) hnn (hpl.trans hnl.symm) (hcl.trans hnl.symm) (hC.usl.trans hnl.symm) (hel.trans hnl.symm) (by omega) hC.tab (by show S.sg.length ≤ _; rw [hC.sgl]; omega) (by rw [hnl]; exact hC.par) hui (by simp) (by rw [hC.sgn i]; simp only; rw [if_neg (by omega)]; rfl)) ?_
  rintro _ w8 ⟨h3a, h4a, h5a, h7a, vc, vu2, KE⟩
  have HC := HB.retL KE
  refine WL.nil (WC.seq (WC.region ?_))
  refine WL.vald rfl rfl rfl (v := (.int .i64 (((S.nodes.length : Nat) : Int)))) (x_move rfl rfl) ?_
  refine WL.vald rfl rfl rfl (v := (.int .i64 (((S.nodes.length : Nat) : Int)))) (x_assign rfl rfl) ?_
  refine WL.vald rfl rfl rfl (v := (.int .i64 (0))) (x_assign rfl rfl) ?_
  rw [hnl] at HC
  exact WL.nil (WC.ret ⟨.inr rfl, [.int .i64 ((S.nodes.length : Nat) : Int), .int .i64 0], rfl, by rw [hnl], _, hC.nextS hNi va h0a vc vu2 h3a h4a h5a h7a, rfl, rfl, HC⟩)
end Go.Gr
end
section
/- States and rounds of arith's functions, as a program of this session printed them (4). -/
set_option maxRecDepth 10000
namespace Go.Abs
open Go.Proofs Go.Dig
namespace Text
abbrev ans : Ans := [(14, ansPart)]
abbrev orc : Orc := orcOf ans
noncomputable def L1 : Code := lp Tryd.f5 1
theorem isL1 : ∃ a, L1 = .loop a := ⟨_, rfl⟩
abbrev D1 : List Nat := [0, 1, 2, 3, 4, 5, 6, 9, 10, 11, 12, 13, 14, 15, 16, 17, 18, 19, 20, 21, 22]
abbrev st1 (s : Bool) (l : List Int) (l2 : List Int) (x4 : Int) (x5 : Int) (l4 : List Int) : St := ⟨.agg [.bool s, .ints .u32 l] :: .ptr 1 0 0 :: .str { data := #[] } :: .sl 3 0 0 :: .ints .u32 (limbs (4294967296) (val (4294967296) l2 / 1000000000)) :: .int .u32 x4 :: .int .i64 x5 :: tops 2 (.ptr 1 0 1 :: .ints .u32 l :: .int .i64 (↑l.length : Int) :: .bool ((↑l.length : Int) == 0) :: .ptr 1 0 1 :: .ints .u32 l :: .ints .u32 l2 :: .int .i64 (↑l2.length : Int) :: .bool (decide ((↑l2.length : Int) > 0)) :: .tup [.ints .u32 (limbs (4294967296) (val (4294967296) l2 / 1000000000)), .int .u32 (val (4294967296) l2 % 1000000000)] :: .ints .u32 l2 :: .tup [.ints .u32 (limbs (4294967296) (val (4294967296) l2 / 1000000000)), .int .u32 (val (4294967296) l2 % 1000000000)] :: .ints .u32 (limbs (4294967296) (val (4294967296) l2 / 1000000000)) :: .int .u32 (val (4294967296) l2 % 1000000000) :: tops 53 ([])), nos 1 (varE [(false, .bool s), (false, .ints .u32 l)] :: nos 1 (rowE (.ints .u8 l4) :: nos 72 ([])))⟩
theorem round1 (s : Bool) (l : List Int) (l2 : List Int) (x4 : Int) (x5 : Int) (l4 : List Int) : goL T orc (noTab) D1 L1 (st1 s l l2 x4 x5 l4) =
    (bif decide (x5 < 9) then (bif decide ((↑(limbs (4294967296) (val (4294967296) l2 / 1000000000)).length : Int) > 0) then (bif true && decide ((l4 ++ [IntKind.u8.wrap (IntKind.u32.wrap (48 + x4.tmod (10)))]).length * 1 ≤ 140737488355328) then some (.normal, st1 s l l2 (IntKind.u32.wrap (x4.tdiv (10))) (IntKind.i64.wrap (x5 + 1)) (l4 ++ [IntKind.u8.wrap (IntKind.u32.wrap (48 + x4.tmod (10)))])) else none) else (bif decide (x4 > 0) then (bif true && decide ((l4 ++ [IntKind.u8.wrap (IntKind.u32.wrap (48 + x4.tmod (10)))]).length * 1 ≤ 140737488355328) then some (.normal, st1 s l l2 (IntKind.u32.wrap (x4.tdiv (10))) (IntKind.i64.wrap (x5 + 1)) (l4 ++ [IntKind.u8.wrap (IntKind.u32.wrap (48 + x4.tmod (10)))])) else none) else some (.exit 2, st1 s l l2 x4 x5 l4))) else some (.exit 2, st1 s l l2 x4 x5 l4)) := by kernel_rfl
-- loop 1 ends exit2 st1 s l l2 x4 x5 l4
noncomputable def L0 : Code := lp Tryd.f5 0
theorem isL0 : ∃ a, L0 = .loop a := ⟨_, rfl⟩
abbrev D0 : List Nat := [0, 1, 2, 3, 4, 9, 10, 11, 12, 13, 14]
abbrev st0 (s : Bool) (l : List Int) (l2 : List Int) (l3 : List Int) : St := ⟨.agg [.bool s, .ints .u32 l] :: .ptr 1 0 0 :: .str { data := #[] } :: .sl 3 0 0 :: .ints .u32 l2 :: tops 4 (.ptr 1 0 1 :: .ints .u32 l :: .int .i64 (↑l.length : Int) :: .bool ((↑l.length : Int) == 0) :: .ptr 1 0 1 :: .ints .u32 l :: tops 61 ([])), nos 1 (varE [(false, .bool s), (false, .ints .u32 l)] :: nos 1 (rowE (.ints .u8 l3) :: nos 72 ([])))⟩
theorem round0 (s : Bool) (l : List Int) (l2 : List Int) (l3 : List Int) (l5 : List Int) (x6 : Int) (x7 : Int) : goL T orc (tabOf T orc [(9, 15434055826790135822470426309716605157525547871637213005085072231847775149465239827614985966, .exit 2, st1 s l l2 x6 x7 l5)]) D0 L0 (st0 s l l2 l3) =
    (bif decide ((↑l2.length : Int) > 0) then (bif few l2 && okB (4294967296) l2 && true && true then (bif cdec (Ends T orc L1 D1 (st1 s l l2 (val (4294967296) l2 % 1000000000) (0) l3) (.exit 2) (st1 s l l2 x6 x7 l5)) then some (.normal, st0 s l (limbs (4294967296) (val (4294967296) l2 / 1000000000)) l5) else none) else none) else some (.exit 0, st0 s l l2 l3)) := by kernel_rfl
-- loop 0 ends exit0 st0 s l l2 l3
noncomputable def L2 : Code := lp Tryd.f5 2
theorem isL2 : ∃ a, L2 = .loop a := ⟨_, rfl⟩
abbrev D2 : List Nat := [0, 1, 2, 3, 4, 7, 8, 9, 10, 11, 12, 13, 14, 45, 46, 47, 48, 49, 50, 51, 52]
abbrev st2 (s : Bool) (l : List Int) (l6 : List Int) (x8 : Int) (x9 : Int) (l7 : List Int) (l8 : List Int) : St := ⟨.agg [.bool s, .ints .u32 l] :: .ptr 1 0 0 :: .str { data := #[] } :: .sl 3 0 0 :: .ints .u32 l6 :: tops 2 (.int .i64 x8 :: .int .i64 x9 :: .ptr 1 0 1 :: .ints .u32 l :: .int .i64 (↑l.length : Int) :: .bool ((↑l.length : Int) == 0) :: .ptr 1 0 1 :: .ints .u32 l :: tops 30 (.ptr 1 0 0 :: .bool s :: tops 1 (.sl 48 0 0 :: .sl 49 0 0 :: .sl 3 0 0 :: .int .i64 (↑(l7 ++ [45]).length : Int) :: .int .i64 (IntKind.i64.wrap ((↑(l7 ++ [45]).length : Int) - 1)) :: tops 23 ([])))), nos 1 (varE [(false, .bool s), (false, .ints .u32 l)] :: nos 1 (rowE (.ints .u8 l8) :: nos 44 (rowE (.ints .u8 [45]) :: { g := 0, pg := 0, o := some (AObj.row { g := 0, own := false, v := .top }) } :: nos 26 ([]))))⟩
theorem round2 (s : Bool) (l : List Int) (l6 : List Int) (x8 : Int) (x9 : Int) (l7 : List Int) (l8 : List Int) : goL T orc (noTab) D2 L2 (st2 s l l6 x8 x9 l7 l8) =
    (bif decide (x8 < x9) then (bif inB x9 l8.length then (bif inB x8 l8.length then (bif inB x8 l8.length then (bif inB x9 (l8.set x8.toNat (rd l8 x9)).length then some (.normal, st2 s l l6 (IntKind.i64.wrap (x8 + 1)) (IntKind.i64.wrap (x9 - 1)) l7 ((l8.set x8.toNat (rd l8 x9)).set x9.toNat (rd l8 x8))) else none) else none) else none) else none) else some (.exit 4, st2 s l l6 x8 x9 l7 l8)) := by kernel_rfl
-- loop 2 ends exit4 st2 s l l6 x8 x9 l7 l8
noncomputable def L2a : Code := lp Tryd.f5 2
theorem isL2a : ∃ a, L2a = .loop a := ⟨_, rfl⟩
abbrev D2a : List Nat := [0, 1, 2, 3, 4, 7, 8, 9, 10, 11, 12, 13, 14, 45, 46, 50, 51, 52]
abbrev st2a (s : Bool) (l : List Int) (l6 : List Int) (x12 : Int) (x13 : Int) (l7 : List Int) (l10 : List Int) : St := ⟨.agg [.bool s, .ints .u32 l] :: .ptr 1 0 0 :: .str { data := #[] } :: .sl 3 0 0 :: .ints .u32 l6 :: tops 2 (.int .i64 x12 :: .int .i64 x13 :: .ptr 1 0 1 :: .ints .u32 l :: .int .i64 (↑l.length : Int) :: .bool ((↑l.length : Int) == 0) :: .ptr 1 0 1 :: .ints .u32 l :: tops 30 (.ptr 1 0 0 :: .bool s :: tops 3 (.sl 3 0 0 :: .int .i64 (↑l7.length : Int) :: .int .i64 (IntKind.i64.wrap ((↑l7.length : Int) - 1)) :: tops 23 ([])))), nos 1 (varE [(false, .bool s), (false, .ints .u32 l)] :: nos 1 (rowE (.ints .u8 l10) :: nos 72 ([])))⟩
theorem round2a (s : Bool) (l : List Int) (l6 : List Int) (x12 : Int) (x13 : Int) (l7 : List Int) (l10 : List Int) : goL T orc (noTab) D2a L2a (st2a s l l6 x12 x13 l7 l10) =
    (bif decide (x12 < x13) then (bif inB x13 l10.length then (bif inB x12 l10.length then (bif inB x12 l10.length then (bif inB x13 (l10.set x12.toNat (rd l10 x13)).length then some (.normal, st2a s l l6 (IntKind.i64.wrap (x12 + 1)) (IntKind.i64.wrap (x13 - 1)) l7 ((l10.set x12.toNat (rd l10 x13)).set x13.toNat (rd l10 x12))) else none) else none) else none) else none) else some (.exit 4, st2a s l l6 x12 x13 l7 l10)) := by kernel_rfl
-- loop 2a ends exit4 st2a s l l6 x12 x13 l7 l10
theorem rest (s : Bool) (l : List Int) (l11 : List Int) (l6 : List Int) (l7 : List Int) (x14 : Int) (x15 : Int) (l9 : List Int) (x10 : Int) (x11 : Int) : runT T orc (tabOf T orc [(5, 15434082659904209709542942231877832302031806041980364213475750064431526063267439400497114862, .exit 0, st0 s l l6 l7), (16, 15434082555087357858496525075334599536407372846674721766738814902332179473980859833014742766, .exit 4, st2 s l l6 x10 x11 l7 l9), (16, 15434082555087357858496525075334599536407372846674721766740194106185227787569688246102191854, .exit 4, st2a s l l6 x14 x15 l7 l11)]) Tryd.f5 [.agg [.bool s, .ints .u32 l]] =
    (bif (↑l.length : Int) == 0 then some (.val (.str { data := #[48] })) else (bif cdec (Ends T orc L0 D0 (st0 s l l ([])) (.exit 0) (st0 s l l6 l7)) then (bif s then (bif true && decide ((l7 ++ [45]).length * 1 ≤ 140737488355328) then (bif cdec (Ends T orc L2 D2 (st2 s l l6 (0) (IntKind.i64.wrap ((↑(l7 ++ [45]).length : Int) - 1)) l7 (l7 ++ [45])) (.exit 4) (st2 s l l6 x10 x11 l7 l9)) then some (.val (.str (strOf l9))) else none) else none) else (bif cdec (Ends T orc L2a D2a (st2a s l l6 (0) (IntKind.i64.wrap ((↑l7.length : Int) - 1)) l7 l7) (.exit 4) (st2a s l l6 x14 x15 l7 l11)) then some (.val (.str (strOf l11))) else none)) else none)) := by kernel_rfl
end Text
end Go.Abs
end
section
/- States and rounds of arith's functions, as a program of this session printed them (8). -/
set_option maxRecDepth 10000
namespace Go.Abs
open Go.Proofs Go.Dig
namespace Div
abbrev ans : Ans := [(13, ansNorm), (12, ansSign), (22, ansSplitMag), (23, ansPlus), (4, ansFrom)]
abbrev orc : Orc := orcOf ans
theorem rest (s : Bool) (l : List Int) (t : Bool) (m : List Int) : runT T orc (noTab) Tryd.f11 [.agg [.bool s, .ints .u32 l], .agg [.bool t, .ints .u32 m]] =
    (bif cn (4294967296) t m then (bif cmpZ (num (4294967296) t m) (0) == 0 then some (.val (.tup [.agg [.bool false, .ints .u32 []], .agg [.bool false, .ints .u32 []], .int .i64 (12)])) else (bif cl (4294967296) l && cl (4294967296) m && decide (0 < val (4294967296) m) && decide (l.length ≤ 50000) then (bif few (splitQ l m) && okB (4294967296) (splitQ l m) then (bif few (splitR l m) && okB (4294967296) (splitR l m) then (bif cn (4294967296) (sg (num (4294967296) s (splitR l m))) (lb (4294967296) (num (4294967296) s (splitR l m))) then (bif cmpZ (N (4294967296) (num (4294967296) s (splitR l m))) (0) != 0 then (bif !s == t then (bif cn (4294967296) (sg (num (4294967296) (!s == t) (splitQ l m))) (lb (4294967296) (num (4294967296) (!s == t) (splitQ l m))) && true then (bif cn (4294967296) (sg (num (4294967296) s (splitR l m))) (lb (4294967296) (num (4294967296) s (splitR l m))) && cn (4294967296) t m then some (.val (.tup [R (N (4294967296) (num (4294967296) (!s == t) (splitQ l m)) + -1), R (N (4294967296) (num (4294967296) s (splitR l m)) + num (4294967296) t m), .int .i64 (0)])) else none) else none) else some (.val (.tup [R (num (4294967296) (!s == t) (splitQ l m)), R (num (4294967296) s (splitR l m)), .int .i64 (0)]))) else some (.val (.tup [R (num (4294967296) (!s == t) (splitQ l m)), R (num (4294967296) s (splitR l m)), .int .i64 (0)]))) else none) else none) else none) else none)) else none) := by kernel_rfl
end Div
namespace Gcd
abbrev ans : Ans := [(13, ansNorm), (21, ansAbs), (12, ansSign), (22, ansSplitMag)]
abbrev orc : Orc := orcOf ans
noncomputable def L0 : Code := lp Tryd.f10 0
theorem isL0 : ∃ a, L0 = .loop a := ⟨_, rfl⟩
abbrev D0 : List Nat := [0, 1, 2, 3, 4, 5, 6, 9, 10, 11, 12]
abbrev st0 (s : Bool) (l : List Int) (t : Bool) (m : List Int) (b1 : Bool) (l0 : List Int) (b0 : Bool) (l1 : List Int) : St := ⟨.agg [.bool s, .ints .u32 l] :: .agg [.bool t, .ints .u32 m] :: .ptr 2 0 0 :: .ptr 3 0 0 :: .ptr 4 0 0 :: .ptr 5 0 0 :: .ptr 6 0 0 :: tops 2 (.agg [.bool s, .ints .u32 l] :: .agg [.bool false, .ints .u32 (lb (4294967296) (az (num (4294967296) s l)))] :: .agg [.bool t, .ints .u32 m] :: .agg [.bool false, .ints .u32 (lb (4294967296) (az (num (4294967296) t m)))] :: tops 15 ([])), nos 2 (varE [(false, .bool s), (false, .ints .u32 l)] :: varE [(false, .bool t), (false, .ints .u32 m)] :: varE [(false, .bool false), (true, .ints .u32 [])] :: varE [(false, .bool b1), (false, .ints .u32 l0)] :: varE [(false, .bool b0), (false, .ints .u32 l1)] :: nos 21 ([]))⟩
theorem round0 (s : Bool) (l : List Int) (t : Bool) (m : List Int) (b1 : Bool) (l0 : List Int) (b0 : Bool) (l1 : List Int) : goL T orc (noTab) D0 L0 (st0 s l t m b1 l0 b0 l1) =
    (bif cn (4294967296) b0 l1 then (bif cmpZ (num (4294967296) b0 l1) (0) != 0 then (bif cl (4294967296) l0 && cl (4294967296) l1 && decide (0 < val (4294967296) l1) && decide (l0.length ≤ 50000) then (bif few (splitR l0 l1) && okB (4294967296) (splitR l0 l1) then some (.normal, st0 s l t m b0 l1 (sg (num (4294967296) false (splitR l0 l1))) (lb (4294967296) (num (4294967296) false (splitR l0 l1)))) else none) else none) else some (.exit 0, st0 s l t m b1 l0 b0 l1)) else none) := by kernel_rfl
-- loop 0 ends exit0 st0 s l t m b1 l0 b0 l1
theorem rest (s : Bool) (l : List Int) (t : Bool) (m : List Int) (b2 : Bool) (l2 : List Int) (b3 : Bool) (l3 : List Int) : runT T orc (tabOf T orc [(2, 2425776195009084355606722317840110, .exit 0, st0 s l t m b2 l2 b3 l3)]) Tryd.f10 [.agg [.bool s, .ints .u32 l], .agg [.bool t, .ints .u32 m]] =
    (bif cn (4294967296) s l then (bif cn (4294967296) t m then (bif cdec (Ends T orc L0 D0 (st0 s l t m (false) (lb (4294967296) (az (num (4294967296) s l))) (false) (lb (4294967296) (az (num (4294967296) t m)))) (.exit 0) (st0 s l t m b2 l2 b3 l3)) then some (.val (.agg [.bool b2, .ints .u32 l2])) else none) else none) else none) := by kernel_rfl
end Gcd
end Go.Abs
end
section
/- States and rounds of arith's functions, as a program of this session printed them (5). -/
set_option maxRecDepth 10000
namespace Go.Abs
open Go.Proofs Go.Dig
namespace Plus
abbrev ans : Ans := [(13, ansNorm), (28, ansCmpMag), (33, ansPlusMag), (34, ansLessMag)]
abbrev orc : Orc := orcOf ans
theorem rest (s : Bool) (l : List Int) (t : Bool) (m : List Int) : runT T orc (noTab) Tryd.f23 [.agg [.bool s, .ints .u32 l], .agg [.bool t, .ints .u32 m]] =
    (bif s == t then (bif few l && few m && okB (4294967296) l && okB (4294967296) m then (bif few (plusL l m) && okB (4294967296) (plusL l m) then some (.val (R (num (4294967296) s (plusL l m)))) else none) else none) else (bif cl (4294967296) l && cl (4294967296) m then (bif decide (cmpZ (val (4294967296) l) (val (4294967296) m) ≥ 0) then (bif few l && few m && okB (4294967296) l && okB (4294967296) m && decide (m.length ≤ l.length) && decide (val (4294967296) m ≤ val (4294967296) l) then (bif few (lessL l m) && okB (4294967296) (lessL l m) then some (.val (R (num (4294967296) s (lessL l m)))) else none) else none) else (bif few m && few l && okB (4294967296) m && okB (4294967296) l && decide (l.length ≤ m.length) && decide (val (4294967296) l ≤ val (4294967296) m) then (bif few (lessL m l) && okB (4294967296) (lessL m l) then some (.val (R (num (4294967296) t (lessL m l)))) else none) else none)) else none)) := by kernel_rfl
end Plus
end Go.Abs
end
section
/- States and rounds of arith's functions, as a program of this session printed them (2). -/
set_option maxRecDepth 10000
namespace Go.Abs
open Go.Proofs Go.Dig
namespace LessMag
abbrev ans : Ans := [(37, ansSub32)]
abbrev orc : Orc := orcOf ans
noncomputable def L0 : Code := lp Tryd.f34 0
theorem isL0 : ∃ a, L0 = .loop a := ⟨_, rfl⟩
abbrev D0 : List Nat := [0, 1, 4, 5, 6, 9, 10, 11, 12, 13, 14]
abbrev st0 (a : List Int) (b : List Int) (x0 : Int) (x1 : Int) (l0 : List Int) : St := ⟨.ints .u32 a :: .ints .u32 b :: tops 2 (.sl 4 0 0 :: .sl 5 0 0 :: .int .u32 x0 :: tops 2 (.ints .u32 a :: .int .i64 (↑a.length : Int) :: .sl 11 0 0 :: .ints .u32 a :: .int .i64 (↑a.length : Int) :: .int .i64 x1 :: tops 25 ([]))), nos 4 (rowE (.ints .u32 []) :: rowE (.ints .u32 l0) :: nos 5 ({ g := 0, pg := 0, o := some (AObj.row { g := 0, own := false, v := .top }) } :: nos 28 ([])))⟩
theorem round0 (a : List Int) (b : List Int) (x0 : Int) (x1 : Int) (l0 : List Int) : goL T orc (noTab) D0 L0 (st0 a b x0 x1 l0) =
    (bif decide (x1 < (↑a.length : Int)) then (bif decide (x1 < (↑b.length : Int)) then (bif inB x1 b.length then (bif inB x1 a.length then (bif decide (0 ≤ rd a x1) && decide (rd a x1 < 4294967296) && decide (0 ≤ rd b x1) && decide (rd b x1 < 4294967296) && decide (0 ≤ x0) && decide (x0 ≤ 1) then (bif inB x1 l0.length then some (.normal, st0 a b (b2i (decide (rd a x1 < rd b x1 + x0))) (IntKind.i64.wrap (x1 + 1)) (l0.set x1.toNat ((rd a x1 - rd b x1 - x0) % 4294967296))) else none) else none) else none) else none) else (bif inB x1 a.length then (bif decide (0 ≤ rd a x1) && decide (rd a x1 < 4294967296) && true && true && decide (0 ≤ x0) && decide (x0 ≤ 1) then (bif inB x1 l0.length then some (.normal, st0 a b (b2i (decide (rd a x1 < 0 + x0))) (IntKind.i64.wrap (x1 + 1)) (l0.set x1.toNat ((rd a x1 - 0 - x0) % 4294967296))) else none) else none) else none)) else some (.exit 0, st0 a b x0 x1 l0)) := by kernel_rfl
-- loop 0 ends exit0 st0 a b x0 x1 l0
theorem rest (a : List Int) (b : List Int) (l1 : List Int) (x2 : Int) (x3 : Int) : runT T orc (tabOf T orc [(4, 393533769373551086390321236943537509420244070126, .exit 0, st0 a b x2 x3 l1)]) Tryd.f34 [.ints .u32 a, .ints .u32 b] =
    (bif true && decide ((↑a.length : Int) ≤ (↑a.length : Int)) && decide ((↑a.length : Int).toNat * 4 ≤ 281474976710656) then (bif cdec (Ends T orc L0 D0 (st0 a b (0) (0) (zeros (↑a.length : Int).toNat)) (.exit 0) (st0 a b x2 x3 l1)) then some (.own (.ints .u32 l1)) else none) else none) := by kernel_rfl
end LessMag
namespace Lz32
abbrev ans : Ans := [(36, ansLen32)]
abbrev orc : Orc := orcOf ans
theorem rest (n : Int) : runT T orc (noTab) Tryd.f29 [.int .u32 n] =
    (bif decide (0 ≤ n) && decide (n < 4294967296) then some (.val (.int .i64 (IntKind.i64.wrap (32 - blen n)))) else none) := by kernel_rfl
end Lz32
namespace From
abbrev ans : Ans := [(13, ansNorm)]
abbrev orc : Orc := orcOf ans
theorem rest (n : Int) : runT T orc (noTab) Tryd.f4 [.int .i64 n] =
    (bif decide (n < 0) then (bif true && okB (4294967296) [IntKind.u32.wrap (IntKind.u64.wrap (0 - IntKind.u64.wrap n)), IntKind.u32.wrap ((IntKind.u64.wrap (0 - IntKind.u64.wrap n)).fdiv (2 ^ 32))] then some (.val (R (num (4294967296) (decide (n < 0)) [IntKind.u32.wrap (IntKind.u64.wrap (0 - IntKind.u64.wrap n)), IntKind.u32.wrap ((IntKind.u64.wrap (0 - IntKind.u64.wrap n)).fdiv (2 ^ 32))]))) else none) else (bif true && okB (4294967296) [IntKind.u32.wrap (IntKind.u64.wrap n), IntKind.u32.wrap ((IntKind.u64.wrap n).fdiv (2 ^ 32))] then some (.val (R (num (4294967296) (decide (n < 0)) [IntKind.u32.wrap (IntKind.u64.wrap n), IntKind.u32.wrap ((IntKind.u64.wrap n).fdiv (2 ^ 32))]))) else none)) := by kernel_rfl
end From
namespace Abs_
abbrev ans : Ans := [(13, ansNorm)]
abbrev orc : Orc := orcOf ans
theorem rest (s : Bool) (l : List Int) : runT T orc (noTab) Tryd.f21 [.agg [.bool s, .ints .u32 l]] =
    (bif few l && okB (4294967296) l then some (.val (R (num (4294967296) false l))) else none) := by kernel_rfl
end Abs_
end Go.Abs
end
section
/- States and rounds of arith's functions, as a program of this session printed them (6). -/
set_option maxRecDepth 10000
namespace Go.Abs
open Go.Proofs Go.Dig
namespace SplitMag
abbrev ans : Ans := [(28, ansCmpMag), (14, ansPart), (29, ansLz32), (30, ansLeft), (32, ansRight), (31, ansDigit)]
abbrev orc : Orc := orcOf ans
noncomputable def L0 : Code := lp Tryd.f22 0
theorem isL0 : ∃ a, L0 = .loop a := ⟨_, rfl⟩
abbrev D0 : List Nat := [0, 1, 4, 5, 8, 9, 10, 11, 12, 13, 14, 15, 16, 17, 18, 20, 21, 22, 34, 35, 36, 37, 38, 39, 40, 41, 42, 43, 44, 45, 46, 47, 48, 49, 50, 51, 52, 53, 54, 55, 56, 57, 58, 59, 60, 61]
abbrev st0 (a : List Int) (b : List Int) (x0 : Int) (b0 : Bool) (l0 : List Int) (l1 : List Int) : St := ⟨.ints .u32 a :: .ints .u32 b :: tops 2 (.sl 4 0 0 :: .sl 5 0 0 :: tops 2 (.int .i64 (32 - blen (rd b (IntKind.i64.wrap ((↑b.length : Int) - 1)))) :: .sl 9 0 0 :: .sl 10 0 0 :: .int .i64 (↑(List.take (↑b.length : Int).toNat (leftL b (32 - blen (rd b (IntKind.i64.wrap ((↑b.length : Int) - 1)))))).length : Int) :: .int .i64 (IntKind.i64.wrap (IntKind.i64.wrap ((↑(leftL a (32 - blen (rd b (IntKind.i64.wrap ((↑b.length : Int) - 1))))).length : Int) - (↑(List.take (↑b.length : Int).toNat (leftL b (32 - blen (rd b (IntKind.i64.wrap ((↑b.length : Int) - 1)))))).length : Int)) - 1)) :: .sl 13 0 0 :: .int .i64 x0 :: .ints .u32 a :: .ints .u32 b :: .int .i64 (cmpZ (val (4294967296) a) (val (4294967296) b)) :: .bool (decide (cmpZ (val (4294967296) a) (val (4294967296) b) < 0)) :: tops 1 (.ints .u32 b :: .int .i64 (↑b.length : Int) :: .bool ((↑b.length : Int) == 1) :: tops 11 (.ints .u32 b :: .ints .u32 b :: .int .i64 (↑b.length : Int) :: .int .i64 (IntKind.i64.wrap ((↑b.length : Int) - 1)) :: .place [.int .u32 (rd b (IntKind.i64.wrap ((↑b.length : Int) - 1)))] :: .int .u32 (rd b (IntKind.i64.wrap ((↑b.length : Int) - 1))) :: .int .i64 (32 - blen (rd b (IntKind.i64.wrap ((↑b.length : Int) - 1)))) :: .ints .u32 b :: .int .i64 (32 - blen (rd b (IntKind.i64.wrap ((↑b.length : Int) - 1)))) :: .sl 43 0 0 :: .ints .u32 b :: .int .i64 (↑b.length : Int) :: .sl 46 0 0 :: .ints .u32 a :: .int .i64 (32 - blen (rd b (IntKind.i64.wrap ((↑b.length : Int) - 1)))) :: .sl 49 0 0 :: .sl 9 0 0 :: .int .i64 (↑(List.take (↑b.length : Int).toNat (leftL b (32 - blen (rd b (IntKind.i64.wrap ((↑b.length : Int) - 1)))))).length : Int) :: .sl 10 0 0 :: .int .i64 (↑(leftL a (32 - blen (rd b (IntKind.i64.wrap ((↑b.length : Int) - 1))))).length : Int) :: .sl 9 0 0 :: .int .i64 (↑(List.take (↑b.length : Int).toNat (leftL b (32 - blen (rd b (IntKind.i64.wrap ((↑b.length : Int) - 1)))))).length : Int) :: .int .i64 (IntKind.i64.wrap ((↑(leftL a (32 - blen (rd b (IntKind.i64.wrap ((↑b.length : Int) - 1))))).length : Int) - (↑(List.take (↑b.length : Int).toNat (leftL b (32 - blen (rd b (IntKind.i64.wrap ((↑b.length : Int) - 1)))))).length : Int))) :: .int .i64 (IntKind.i64.wrap (IntKind.i64.wrap ((↑(leftL a (32 - blen (rd b (IntKind.i64.wrap ((↑b.length : Int) - 1))))).length : Int) - (↑(List.take (↑b.length : Int).toNat (leftL b (32 - blen (rd b (IntKind.i64.wrap ((↑b.length : Int) - 1)))))).length : Int)) - 1)) :: .int .i64 (IntKind.i64.wrap (IntKind.i64.wrap ((↑(leftL a (32 - blen (rd b (IntKind.i64.wrap ((↑b.length : Int) - 1))))).length : Int) - (↑(List.take (↑b.length : Int).toNat (leftL b (32 - blen (rd b (IntKind.i64.wrap ((↑b.length : Int) - 1)))))).length : Int)) - 1)) :: .int .i64 (IntKind.i64.wrap (IntKind.i64.wrap (IntKind.i64.wrap ((↑(leftL a (32 - blen (rd b (IntKind.i64.wrap ((↑b.length : Int) - 1))))).length : Int) - (↑(List.take (↑b.length : Int).toNat (leftL b (32 - blen (rd b (IntKind.i64.wrap ((↑b.length : Int) - 1)))))).length : Int)) - 1) + 1)) :: .sl 60 0 0 :: .int .i64 (IntKind.i64.wrap (IntKind.i64.wrap ((↑(leftL a (32 - blen (rd b (IntKind.i64.wrap ((↑b.length : Int) - 1))))).length : Int) - (↑(List.take (↑b.length : Int).toNat (leftL b (32 - blen (rd b (IntKind.i64.wrap ((↑b.length : Int) - 1)))))).length : Int)) - 1)) :: tops 18 ([]))))), nos 4 (rowE (.ints .u32 []) :: rowE (.ints .u32 []) :: nos 3 ({ g := 0, pg := 0, o := some (AObj.row { g := 0, own := b0, v := .ints .u32 (List.take (↑b.length : Int).toNat (leftL b (32 - blen (rd b (IntKind.i64.wrap ((↑b.length : Int) - 1)))))) }) } :: rowE (.ints .u32 l0) :: nos 2 (rowE (.ints .u32 l1) :: nos 29 ({ g := 0, pg := 0, o := some (AObj.row { g := 0, own := false, v := .top }) } :: nos 2 ({ g := 0, pg := 0, o := some (AObj.row { g := 0, own := false, v := .top }) } :: nos 2 ({ g := 0, pg := 0, o := some (AObj.row { g := 0, own := false, v := .top }) } :: nos 10 ({ g := 0, pg := 0, o := some (AObj.row { g := 0, own := false, v := .top }) } :: nos 19 ([]))))))))⟩
theorem round0 (a : List Int) (b : List Int) (x0 : Int) (b0 : Bool) (l0 : List Int) (l1 : List Int) : goL T orc (noTab) D0 L0 (st0 a b x0 b0 l0 l1) =
    (bif decide (x0 ≥ 0) then (bif digOk l0 (List.take (↑b.length : Int).toNat (leftL b (32 - blen (rd b (IntKind.i64.wrap ((↑b.length : Int) - 1)))))) x0 (↑(List.take (↑b.length : Int).toNat (leftL b (32 - blen (rd b (IntKind.i64.wrap ((↑b.length : Int) - 1)))))).length : Int) && (digU l0 (List.take (↑b.length : Int).toNat (leftL b (32 - blen (rd b (IntKind.i64.wrap ((↑b.length : Int) - 1)))))) x0.toNat).length.beq l0.length && true then (bif inB x0 l1.length then some (.normal, st0 a b (IntKind.i64.wrap (x0 - 1)) (false) (digU l0 (List.take (↑b.length : Int).toNat (leftL b (32 - blen (rd b (IntKind.i64.wrap ((↑b.length : Int) - 1)))))) x0.toNat) (l1.set x0.toNat (digQ l0 (List.take (↑b.length : Int).toNat (leftL b (32 - blen (rd b (IntKind.i64.wrap ((↑b.length : Int) - 1)))))) x0.toNat))) else none) else none) else some (.exit 0, st0 a b x0 b0 l0 l1)) := by kernel_rfl
-- loop 0 ends exit0 st0 a b x0 b0 l0 l1
theorem rest (a : List Int) (b : List Int) (l3 : List Int) (l2 : List Int) (x1 : Int) (b1 : Bool) : runT T orc (tabOf T orc [(12, 575150351336284203959915418691224027130420881949712434244709704683136546056633401481688513441518, .exit 0, st0 a b x1 b1 l2 l3)]) Tryd.f22 [.ints .u32 a, .ints .u32 b] =
    (bif cl (4294967296) a && cl (4294967296) b then (bif decide (cmpZ (val (4294967296) a) (val (4294967296) b) < 0) then some (.val (.tup [.ints .u32 [], .ints .u32 a])) else (bif (↑b.length : Int) == 1 then (bif inB (0) b.length then (bif few a && okB (4294967296) a && decide (0 < rd b (0)) && decide (rd b (0) < 4294967296) then some (.val (.tup [.ints .u32 (limbs (4294967296) (val (4294967296) a / rd b (0))), .ints .u32 [val (4294967296) a % rd b (0)]])) else none) else none) else (bif inB (IntKind.i64.wrap ((↑b.length : Int) - 1)) b.length then (bif decide (0 ≤ rd b (IntKind.i64.wrap ((↑b.length : Int) - 1))) && decide (rd b (IntKind.i64.wrap ((↑b.length : Int) - 1)) < 4294967296) then (bif few b && okB (4294967296) b && decide (0 ≤ 32 - blen (rd b (IntKind.i64.wrap ((↑b.length : Int) - 1)))) && decide (32 - blen (rd b (IntKind.i64.wrap ((↑b.length : Int) - 1))) ≤ 31) then (bif true && decide ((↑b.length : Int) ≤ (↑(leftL b (32 - blen (rd b (IntKind.i64.wrap ((↑b.length : Int) - 1))))).length : Int)) then (bif few a && okB (4294967296) a && decide (0 ≤ 32 - blen (rd b (IntKind.i64.wrap ((↑b.length : Int) - 1)))) && decide (32 - blen (rd b (IntKind.i64.wrap ((↑b.length : Int) - 1))) ≤ 31) then (bif decide (0 ≤ IntKind.i64.wrap (IntKind.i64.wrap (IntKind.i64.wrap ((↑(leftL a (32 - blen (rd b (IntKind.i64.wrap ((↑b.length : Int) - 1))))).length : Int) - (↑(List.take (↑b.length : Int).toNat (leftL b (32 - blen (rd b (IntKind.i64.wrap ((↑b.length : Int) - 1)))))).length : Int)) - 1) + 1)) && decide (IntKind.i64.wrap (IntKind.i64.wrap (IntKind.i64.wrap ((↑(leftL a (32 - blen (rd b (IntKind.i64.wrap ((↑b.length : Int) - 1))))).length : Int) - (↑(List.take (↑b.length : Int).toNat (leftL b (32 - blen (rd b (IntKind.i64.wrap ((↑b.length : Int) - 1)))))).length : Int)) - 1) + 1) ≤ IntKind.i64.wrap (IntKind.i64.wrap (IntKind.i64.wrap ((↑(leftL a (32 - blen (rd b (IntKind.i64.wrap ((↑b.length : Int) - 1))))).length : Int) - (↑(List.take (↑b.length : Int).toNat (leftL b (32 - blen (rd b (IntKind.i64.wrap ((↑b.length : Int) - 1)))))).length : Int)) - 1) + 1)) && decide ((IntKind.i64.wrap (IntKind.i64.wrap (IntKind.i64.wrap ((↑(leftL a (32 - blen (rd b (IntKind.i64.wrap ((↑b.length : Int) - 1))))).length : Int) - (↑(List.take (↑b.length : Int).toNat (leftL b (32 - blen (rd b (IntKind.i64.wrap ((↑b.length : Int) - 1)))))).length : Int)) - 1) + 1)).toNat * 4 ≤ 281474976710656) then (bif cdec (Ends T orc L0 D0 (st0 a b (IntKind.i64.wrap (IntKind.i64.wrap ((↑(leftL a (32 - blen (rd b (IntKind.i64.wrap ((↑b.length : Int) - 1))))).length : Int) - (↑(List.take (↑b.length : Int).toNat (leftL b (32 - blen (rd b (IntKind.i64.wrap ((↑b.length : Int) - 1)))))).length : Int)) - 1)) (true) (leftL a (32 - blen (rd b (IntKind.i64.wrap ((↑b.length : Int) - 1))))) (zeros (IntKind.i64.wrap (IntKind.i64.wrap (IntKind.i64.wrap ((↑(leftL a (32 - blen (rd b (IntKind.i64.wrap ((↑b.length : Int) - 1))))).length : Int) - (↑(List.take (↑b.length : Int).toNat (leftL b (32 - blen (rd b (IntKind.i64.wrap ((↑b.length : Int) - 1)))))).length : Int)) - 1) + 1)).toNat)) (.exit 0) (st0 a b x1 b1 l2 l3)) then (bif true && decide ((↑(List.take (↑b.length : Int).toNat (leftL b (32 - blen (rd b (IntKind.i64.wrap ((↑b.length : Int) - 1)))))).length : Int) ≤ (↑l2.length : Int)) then (bif few (List.take (↑(List.take (↑b.length : Int).toNat (leftL b (32 - blen (rd b (IntKind.i64.wrap ((↑b.length : Int) - 1)))))).length : Int).toNat l2) && okB (4294967296) (List.take (↑(List.take (↑b.length : Int).toNat (leftL b (32 - blen (rd b (IntKind.i64.wrap ((↑b.length : Int) - 1)))))).length : Int).toNat l2) && decide (0 ≤ 32 - blen (rd b (IntKind.i64.wrap ((↑b.length : Int) - 1)))) && decide (32 - blen (rd b (IntKind.i64.wrap ((↑b.length : Int) - 1))) ≤ 31) then some (.val (.tup [.ints .u32 l3, .ints .u32 (rightL (List.take (↑(List.take (↑b.length : Int).toNat (leftL b (32 - blen (rd b (IntKind.i64.wrap ((↑b.length : Int) - 1)))))).length : Int).toNat l2) (32 - blen (rd b (IntKind.i64.wrap ((↑b.length : Int) - 1)))))])) else none) else none) else none) else none) else none) else none) else none) else none) else none))) else none) := by kernel_rfl
end SplitMag
end Go.Abs
end
section
/- States and rounds of arith's functions, as a program of this session printed them (7). -/
set_option maxRecDepth 10000
namespace Go.Abs
open Go.Proofs Go.Dig
namespace Digit
abbrev ans : Ans := [(37, ansSub32), (38, ansAdd32)]
abbrev orc : Orc := orcOf ans
noncomputable def L0 : Code := lp Tryd.f31 0
theorem isL0 : ∃ a, L0 = .loop a := ⟨_, rfl⟩
abbrev D0 : List Nat := [0, 1, 2, 3, 8, 9, 10, 11, 17, 18, 19, 20, 21, 22, 23, 24, 25, 26, 27, 28, 29, 30, 31, 32, 33, 34, 35, 36, 37, 38, 39, 40, 41, 42, 43, 44, 45, 46, 47, 48, 49]
abbrev st0 (v : List Int) (j : Int) (n : Int) (u : List Int) (x0 : Int) (x1 : Int) : St := ⟨.sl 0 0 0 :: .ints .u32 v :: .int .i64 j :: .int .i64 n :: tops 4 (.int .u32 (0) :: .int .u64 (IntKind.u64.wrap (↑(BitVec.ofInt 64 (IntKind.u64.wrap (IntKind.u64.wrap (rd u (IntKind.i64.wrap (j + n))) * 2 ^ 32)) ||| BitVec.ofInt 64 (IntKind.u64.wrap (rd u (IntKind.i64.wrap (IntKind.i64.wrap (j + n) - 1))))).toNat : Int)) :: .int .u64 x0 :: .int .u64 x1 :: tops 5 (.sl 0 0 0 :: .int .i64 j :: .int .i64 n :: .int .i64 (IntKind.i64.wrap (j + n)) :: tops 1 (.int .u32 (rd u (IntKind.i64.wrap (j + n))) :: .int .u64 (IntKind.u64.wrap (rd u (IntKind.i64.wrap (j + n)))) :: .int .u64 (IntKind.u64.wrap (IntKind.u64.wrap (rd u (IntKind.i64.wrap (j + n))) * 2 ^ 32)) :: .sl 0 0 0 :: .int .i64 j :: .int .i64 n :: .int .i64 (IntKind.i64.wrap (j + n)) :: .int .i64 (IntKind.i64.wrap (IntKind.i64.wrap (j + n) - 1)) :: tops 1 (.int .u32 (rd u (IntKind.i64.wrap (IntKind.i64.wrap (j + n) - 1))) :: .int .u64 (IntKind.u64.wrap (rd u (IntKind.i64.wrap (IntKind.i64.wrap (j + n) - 1)))) :: .int .u64 (IntKind.u64.wrap (↑(BitVec.ofInt 64 (IntKind.u64.wrap (IntKind.u64.wrap (rd u (IntKind.i64.wrap (j + n))) * 2 ^ 32)) ||| BitVec.ofInt 64 (IntKind.u64.wrap (rd u (IntKind.i64.wrap (IntKind.i64.wrap (j + n) - 1))))).toNat : Int)) :: .int .u64 (IntKind.u64.wrap (↑(BitVec.ofInt 64 (IntKind.u64.wrap (IntKind.u64.wrap (rd u (IntKind.i64.wrap (j + n))) * 2 ^ 32)) ||| BitVec.ofInt 64 (IntKind.u64.wrap (rd u (IntKind.i64.wrap (IntKind.i64.wrap (j + n) - 1))))).toNat : Int)) :: .ints .u32 v :: .int .i64 n :: .int .i64 (IntKind.i64.wrap (n - 1)) :: .place [.int .u32 (rd v (IntKind.i64.wrap (n - 1)))] :: .int .u32 (rd v (IntKind.i64.wrap (n - 1))) :: .int .u64 (IntKind.u64.wrap (rd v (IntKind.i64.wrap (n - 1)))) :: .int .u64 (IntKind.u64.wrap ((IntKind.u64.wrap (↑(BitVec.ofInt 64 (IntKind.u64.wrap (IntKind.u64.wrap (rd u (IntKind.i64.wrap (j + n))) * 2 ^ 32)) ||| BitVec.ofInt 64 (IntKind.u64.wrap (rd u (IntKind.i64.wrap (IntKind.i64.wrap (j + n) - 1))))).toNat : Int)).tdiv (IntKind.u64.wrap (rd v (IntKind.i64.wrap (n - 1)))))) :: .int .u64 (IntKind.u64.wrap (↑(BitVec.ofInt 64 (IntKind.u64.wrap (IntKind.u64.wrap (rd u (IntKind.i64.wrap (j + n))) * 2 ^ 32)) ||| BitVec.ofInt 64 (IntKind.u64.wrap (rd u (IntKind.i64.wrap (IntKind.i64.wrap (j + n) - 1))))).toNat : Int)) :: .ints .u32 v :: .int .i64 n :: .int .i64 (IntKind.i64.wrap (n - 1)) :: .place [.int .u32 (rd v (IntKind.i64.wrap (n - 1)))] :: .int .u32 (rd v (IntKind.i64.wrap (n - 1))) :: .int .u64 (IntKind.u64.wrap (rd v (IntKind.i64.wrap (n - 1)))) :: .int .u64 ((IntKind.u64.wrap (↑(BitVec.ofInt 64 (IntKind.u64.wrap (IntKind.u64.wrap (rd u (IntKind.i64.wrap (j + n))) * 2 ^ 32)) ||| BitVec.ofInt 64 (IntKind.u64.wrap (rd u (IntKind.i64.wrap (IntKind.i64.wrap (j + n) - 1))))).toNat : Int)).tmod (IntKind.u64.wrap (rd v (IntKind.i64.wrap (n - 1))))) :: tops 129 ([]))))), rowE (.ints .u32 u) :: nos 178 ([])⟩
theorem round0 (v : List Int) (j : Int) (n : Int) (u : List Int) (x0 : Int) (x1 : Int) : goL T orc (noTab) D0 L0 (st0 v j n u x0 x1) =
    (bif decide (x0 ≥ 4294967296) then (bif inB (IntKind.i64.wrap (n - 1)) v.length then (bif decide (IntKind.u64.wrap (x1 + IntKind.u64.wrap (rd v (IntKind.i64.wrap (n - 1)))) ≥ 4294967296) then some (.exit 0, st0 v j n u (IntKind.u64.wrap (x0 - 1)) (IntKind.u64.wrap (x1 + IntKind.u64.wrap (rd v (IntKind.i64.wrap (n - 1)))))) else some (.normal, st0 v j n u (IntKind.u64.wrap (x0 - 1)) (IntKind.u64.wrap (x1 + IntKind.u64.wrap (rd v (IntKind.i64.wrap (n - 1))))))) else none) else (bif inB (IntKind.i64.wrap (n - 2)) v.length then (bif inB (IntKind.i64.wrap (IntKind.i64.wrap (j + n) - 2)) u.length then (bif decide (IntKind.u64.wrap (x0 * IntKind.u64.wrap (rd v (IntKind.i64.wrap (n - 2)))) > IntKind.u64.wrap (↑(BitVec.ofInt 64 (IntKind.u64.wrap (x1 * 2 ^ 32)) ||| BitVec.ofInt 64 (IntKind.u64.wrap (rd u (IntKind.i64.wrap (IntKind.i64.wrap (j + n) - 2))))).toNat : Int)) then (bif inB (IntKind.i64.wrap (n - 1)) v.length then (bif decide (IntKind.u64.wrap (x1 + IntKind.u64.wrap (rd v (IntKind.i64.wrap (n - 1)))) ≥ 4294967296) then some (.exit 0, st0 v j n u (IntKind.u64.wrap (x0 - 1)) (IntKind.u64.wrap (x1 + IntKind.u64.wrap (rd v (IntKind.i64.wrap (n - 1)))))) else some (.normal, st0 v j n u (IntKind.u64.wrap (x0 - 1)) (IntKind.u64.wrap (x1 + IntKind.u64.wrap (rd v (IntKind.i64.wrap (n - 1))))))) else none) else some (.exit 0, st0 v j n u x0 x1)) else none) else none)) := by kernel_rfl
-- loop 0 ends exit0 st0 v j n u x0 x1
noncomputable def L1 : Code := lp Tryd.f31 1
theorem isL1 : ∃ a, L1 = .loop a := ⟨_, rfl⟩
abbrev D1 : List Nat := [0, 1, 2, 3, 8, 9, 10, 11, 12, 13, 17, 18, 19, 20, 22, 23, 24, 25, 26, 27, 28, 29, 31, 32, 33, 34, 35, 36, 37, 38, 39, 40, 41, 42, 43, 44, 45, 46, 47, 48, 49, 86, 87]
abbrev st1 (v : List Int) (j : Int) (n : Int) (u : List Int) (x2 : Int) (x3 : Int) (x4 : Int) (x5 : Int) (x6 : Int) (l0 : List Int) : St := ⟨.sl 0 0 0 :: .ints .u32 v :: .int .i64 j :: .int .i64 n :: tops 4 (.int .u32 (0) :: .int .u64 (IntKind.u64.wrap (↑(BitVec.ofInt 64 (IntKind.u64.wrap (IntKind.u64.wrap (rd u (IntKind.i64.wrap (j + n))) * 2 ^ 32)) ||| BitVec.ofInt 64 (IntKind.u64.wrap (rd u (IntKind.i64.wrap (IntKind.i64.wrap (j + n) - 1))))).toNat : Int)) :: .int .u64 x2 :: .int .u64 x3 :: .int .u64 x4 :: .int .u32 x5 :: tops 3 (.sl 0 0 0 :: .int .i64 j :: .int .i64 n :: .int .i64 (IntKind.i64.wrap (j + n)) :: tops 1 (.int .u32 (rd u (IntKind.i64.wrap (j + n))) :: .int .u64 (IntKind.u64.wrap (rd u (IntKind.i64.wrap (j + n)))) :: .int .u64 (IntKind.u64.wrap (IntKind.u64.wrap (rd u (IntKind.i64.wrap (j + n))) * 2 ^ 32)) :: .sl 0 0 0 :: .int .i64 j :: .int .i64 n :: .int .i64 (IntKind.i64.wrap (j + n)) :: .int .i64 (IntKind.i64.wrap (IntKind.i64.wrap (j + n) - 1)) :: tops 1 (.int .u32 (rd u (IntKind.i64.wrap (IntKind.i64.wrap (j + n) - 1))) :: .int .u64 (IntKind.u64.wrap (rd u (IntKind.i64.wrap (IntKind.i64.wrap (j + n) - 1)))) :: .int .u64 (IntKind.u64.wrap (↑(BitVec.ofInt 64 (IntKind.u64.wrap (IntKind.u64.wrap (rd u (IntKind.i64.wrap (j + n))) * 2 ^ 32)) ||| BitVec.ofInt 64 (IntKind.u64.wrap (rd u (IntKind.i64.wrap (IntKind.i64.wrap (j + n) - 1))))).toNat : Int)) :: .int .u64 (IntKind.u64.wrap (↑(BitVec.ofInt 64 (IntKind.u64.wrap (IntKind.u64.wrap (rd u (IntKind.i64.wrap (j + n))) * 2 ^ 32)) ||| BitVec.ofInt 64 (IntKind.u64.wrap (rd u (IntKind.i64.wrap (IntKind.i64.wrap (j + n) - 1))))).toNat : Int)) :: .ints .u32 v :: .int .i64 n :: .int .i64 (IntKind.i64.wrap (n - 1)) :: .place [.int .u32 (rd v (IntKind.i64.wrap (n - 1)))] :: .int .u32 (rd v (IntKind.i64.wrap (n - 1))) :: .int .u64 (IntKind.u64.wrap (rd v (IntKind.i64.wrap (n - 1)))) :: .int .u64 (IntKind.u64.wrap ((IntKind.u64.wrap (↑(BitVec.ofInt 64 (IntKind.u64.wrap (IntKind.u64.wrap (rd u (IntKind.i64.wrap (j + n))) * 2 ^ 32)) ||| BitVec.ofInt 64 (IntKind.u64.wrap (rd u (IntKind.i64.wrap (IntKind.i64.wrap (j + n) - 1))))).toNat : Int)).tdiv (IntKind.u64.wrap (rd v (IntKind.i64.wrap (n - 1)))))) :: .int .u64 (IntKind.u64.wrap (↑(BitVec.ofInt 64 (IntKind.u64.wrap (IntKind.u64.wrap (rd u (IntKind.i64.wrap (j + n))) * 2 ^ 32)) ||| BitVec.ofInt 64 (IntKind.u64.wrap (rd u (IntKind.i64.wrap (IntKind.i64.wrap (j + n) - 1))))).toNat : Int)) :: .ints .u32 v :: .int .i64 n :: .int .i64 (IntKind.i64.wrap (n - 1)) :: .place [.int .u32 (rd v (IntKind.i64.wrap (n - 1)))] :: .int .u32 (rd v (IntKind.i64.wrap (n - 1))) :: .int .u64 (IntKind.u64.wrap (rd v (IntKind.i64.wrap (n - 1)))) :: .int .u64 ((IntKind.u64.wrap (↑(BitVec.ofInt 64 (IntKind.u64.wrap (IntKind.u64.wrap (rd u (IntKind.i64.wrap (j + n))) * 2 ^ 32)) ||| BitVec.ofInt 64 (IntKind.u64.wrap (rd u (IntKind.i64.wrap (IntKind.i64.wrap (j + n) - 1))))).toNat : Int)).tmod (IntKind.u64.wrap (rd v (IntKind.i64.wrap (n - 1))))) :: tops 36 (.int .i64 n :: .int .i64 x6 :: tops 91 ([])))))), rowE (.ints .u32 l0) :: nos 178 ([])⟩
theorem round1 (v : List Int) (j : Int) (n : Int) (u : List Int) (x2 : Int) (x3 : Int) (x4 : Int) (x5 : Int) (x6 : Int) (l0 : List Int) : goL T orc (noTab) D1 L1 (st1 v j n u x2 x3 x4 x5 x6 l0) =
    (bif decide (x6 < n) then (bif inB x6 v.length then (bif inB (IntKind.i64.wrap (x6 + j)) l0.length then (bif decide (0 ≤ rd l0 (IntKind.i64.wrap (x6 + j))) && decide (rd l0 (IntKind.i64.wrap (x6 + j)) < 4294967296) && decide (0 ≤ IntKind.u32.wrap (IntKind.u64.wrap (x4 + IntKind.u64.wrap (x2 * IntKind.u64.wrap (rd v x6))))) && decide (IntKind.u32.wrap (IntKind.u64.wrap (x4 + IntKind.u64.wrap (x2 * IntKind.u64.wrap (rd v x6)))) < 4294967296) && decide (0 ≤ x5) && decide (x5 ≤ 1) then (bif inB (IntKind.i64.wrap (x6 + j)) l0.length then some (.normal, st1 v j n u x2 x3 ((IntKind.u64.wrap (x4 + IntKind.u64.wrap (x2 * IntKind.u64.wrap (rd v x6)))).fdiv (2 ^ 32)) (b2i (decide (rd l0 (IntKind.i64.wrap (x6 + j)) < IntKind.u32.wrap (IntKind.u64.wrap (x4 + IntKind.u64.wrap (x2 * IntKind.u64.wrap (rd v x6)))) + x5))) (IntKind.i64.wrap (x6 + 1)) (l0.set (IntKind.i64.wrap (x6 + j)).toNat ((rd l0 (IntKind.i64.wrap (x6 + j)) - IntKind.u32.wrap (IntKind.u64.wrap (x4 + IntKind.u64.wrap (x2 * IntKind.u64.wrap (rd v x6)))) - x5) % 4294967296))) else none) else none) else none) else none) else some (.exit 2, st1 v j n u x2 x3 x4 x5 x6 l0)) := by kernel_rfl
-- loop 1 ends exit2 st1 v j n u x2 x3 x4 x5 x6 l0
noncomputable def L2 : Code := lp Tryd.f31 2
theorem isL2 : ∃ a, L2 = .loop a := ⟨_, rfl⟩
abbrev D2 : List Nat := [0, 1, 2, 3, 8, 9, 10, 11, 12, 13, 15, 17, 18, 19, 20, 22, 23, 24, 25, 26, 27, 28, 29, 31, 32, 33, 34, 35, 36, 37, 38, 39, 40, 41, 42, 43, 44, 45, 46, 47, 48, 49, 86, 87, 120, 121, 122, 123, 124, 125, 126, 127, 128, 129, 130, 131, 132, 133, 134, 135, 136, 137, 138, 139, 142, 143]
abbrev st2 (v : List Int) (j : Int) (n : Int) (u : List Int) (x2 : Int) (x3 : Int) (x7 : Int) (l1 : List Int) (x8 : Int) (x10 : Int) (x9 : Int) (x11 : Int) (l2 : List Int) : St := ⟨.sl 0 0 0 :: .ints .u32 v :: .int .i64 j :: .int .i64 n :: tops 4 (.int .u32 (0) :: .int .u64 (IntKind.u64.wrap (↑(BitVec.ofInt 64 (IntKind.u64.wrap (IntKind.u64.wrap (rd u (IntKind.i64.wrap (j + n))) * 2 ^ 32)) ||| BitVec.ofInt 64 (IntKind.u64.wrap (rd u (IntKind.i64.wrap (IntKind.i64.wrap (j + n) - 1))))).toNat : Int)) :: .int .u64 x2 :: .int .u64 x3 :: .int .u64 x7 :: .int .u32 (b2i (decide (rd l1 (IntKind.i64.wrap (j + n)) < IntKind.u32.wrap x7 + x8))) :: tops 1 (.int .u32 x10 :: tops 1 (.sl 0 0 0 :: .int .i64 j :: .int .i64 n :: .int .i64 (IntKind.i64.wrap (j + n)) :: tops 1 (.int .u32 (rd u (IntKind.i64.wrap (j + n))) :: .int .u64 (IntKind.u64.wrap (rd u (IntKind.i64.wrap (j + n)))) :: .int .u64 (IntKind.u64.wrap (IntKind.u64.wrap (rd u (IntKind.i64.wrap (j + n))) * 2 ^ 32)) :: .sl 0 0 0 :: .int .i64 j :: .int .i64 n :: .int .i64 (IntKind.i64.wrap (j + n)) :: .int .i64 (IntKind.i64.wrap (IntKind.i64.wrap (j + n) - 1)) :: tops 1 (.int .u32 (rd u (IntKind.i64.wrap (IntKind.i64.wrap (j + n) - 1))) :: .int .u64 (IntKind.u64.wrap (rd u (IntKind.i64.wrap (IntKind.i64.wrap (j + n) - 1)))) :: .int .u64 (IntKind.u64.wrap (↑(BitVec.ofInt 64 (IntKind.u64.wrap (IntKind.u64.wrap (rd u (IntKind.i64.wrap (j + n))) * 2 ^ 32)) ||| BitVec.ofInt 64 (IntKind.u64.wrap (rd u (IntKind.i64.wrap (IntKind.i64.wrap (j + n) - 1))))).toNat : Int)) :: .int .u64 (IntKind.u64.wrap (↑(BitVec.ofInt 64 (IntKind.u64.wrap (IntKind.u64.wrap (rd u (IntKind.i64.wrap (j + n))) * 2 ^ 32)) ||| BitVec.ofInt 64 (IntKind.u64.wrap (rd u (IntKind.i64.wrap (IntKind.i64.wrap (j + n) - 1))))).toNat : Int)) :: .ints .u32 v :: .int .i64 n :: .int .i64 (IntKind.i64.wrap (n - 1)) :: .place [.int .u32 (rd v (IntKind.i64.wrap (n - 1)))] :: .int .u32 (rd v (IntKind.i64.wrap (n - 1))) :: .int .u64 (IntKind.u64.wrap (rd v (IntKind.i64.wrap (n - 1)))) :: .int .u64 (IntKind.u64.wrap ((IntKind.u64.wrap (↑(BitVec.ofInt 64 (IntKind.u64.wrap (IntKind.u64.wrap (rd u (IntKind.i64.wrap (j + n))) * 2 ^ 32)) ||| BitVec.ofInt 64 (IntKind.u64.wrap (rd u (IntKind.i64.wrap (IntKind.i64.wrap (j + n) - 1))))).toNat : Int)).tdiv (IntKind.u64.wrap (rd v (IntKind.i64.wrap (n - 1)))))) :: .int .u64 (IntKind.u64.wrap (↑(BitVec.ofInt 64 (IntKind.u64.wrap (IntKind.u64.wrap (rd u (IntKind.i64.wrap (j + n))) * 2 ^ 32)) ||| BitVec.ofInt 64 (IntKind.u64.wrap (rd u (IntKind.i64.wrap (IntKind.i64.wrap (j + n) - 1))))).toNat : Int)) :: .ints .u32 v :: .int .i64 n :: .int .i64 (IntKind.i64.wrap (n - 1)) :: .place [.int .u32 (rd v (IntKind.i64.wrap (n - 1)))] :: .int .u32 (rd v (IntKind.i64.wrap (n - 1))) :: .int .u64 (IntKind.u64.wrap (rd v (IntKind.i64.wrap (n - 1)))) :: .int .u64 ((IntKind.u64.wrap (↑(BitVec.ofInt 64 (IntKind.u64.wrap (IntKind.u64.wrap (rd u (IntKind.i64.wrap (j + n))) * 2 ^ 32)) ||| BitVec.ofInt 64 (IntKind.u64.wrap (rd u (IntKind.i64.wrap (IntKind.i64.wrap (j + n) - 1))))).toNat : Int)).tmod (IntKind.u64.wrap (rd v (IntKind.i64.wrap (n - 1))))) :: tops 36 (.int .i64 n :: .int .i64 x9 :: tops 32 (.tup [.int .u32 ((rd l1 (IntKind.i64.wrap (j + n)) - IntKind.u32.wrap x7 - x8) % 4294967296), .int .u32 (b2i (decide (rd l1 (IntKind.i64.wrap (j + n)) < IntKind.u32.wrap x7 + x8)))] :: .sl 0 0 0 :: .int .i64 j :: .int .i64 n :: .int .i64 (IntKind.i64.wrap (j + n)) :: .sl 0 0 0 :: .int .i64 j :: .int .i64 n :: .int .i64 (IntKind.i64.wrap (j + n)) :: tops 1 (.int .u32 (rd l1 (IntKind.i64.wrap (j + n))) :: .int .u64 x7 :: .int .u32 (IntKind.u32.wrap x7) :: .int .u32 x8 :: .tup [.int .u32 ((rd l1 (IntKind.i64.wrap (j + n)) - IntKind.u32.wrap x7 - x8) % 4294967296), .int .u32 (b2i (decide (rd l1 (IntKind.i64.wrap (j + n)) < IntKind.u32.wrap x7 + x8)))] :: .int .u32 ((rd l1 (IntKind.i64.wrap (j + n)) - IntKind.u32.wrap x7 - x8) % 4294967296) :: .int .u32 (b2i (decide (rd l1 (IntKind.i64.wrap (j + n)) < IntKind.u32.wrap x7 + x8))) :: tops 1 (.int .u32 (b2i (decide (rd l1 (IntKind.i64.wrap (j + n)) < IntKind.u32.wrap x7 + x8))) :: .bool (b2i (decide (rd l1 (IntKind.i64.wrap (j + n)) < IntKind.u32.wrap x7 + x8)) == 0) :: tops 2 (.int .i64 n :: .int .i64 x11 :: tops 35 ([]))))))))))), rowE (.ints .u32 l2) :: nos 178 ([])⟩
theorem round2 (v : List Int) (j : Int) (n : Int) (u : List Int) (x2 : Int) (x3 : Int) (x7 : Int) (l1 : List Int) (x8 : Int) (x10 : Int) (x9 : Int) (x11 : Int) (l2 : List Int) : goL T orc (noTab) D2 L2 (st2 v j n u x2 x3 x7 l1 x8 x10 x9 x11 l2) =
    (bif decide (x11 < n) then (bif inB (IntKind.i64.wrap (x11 + j)) l2.length then (bif inB x11 v.length then (bif decide (0 ≤ rd l2 (IntKind.i64.wrap (x11 + j))) && decide (rd l2 (IntKind.i64.wrap (x11 + j)) < 4294967296) && decide (0 ≤ rd v x11) && decide (rd v x11 < 4294967296) && decide (0 ≤ x10) && decide (x10 ≤ 1) then (bif inB (IntKind.i64.wrap (x11 + j)) l2.length then some (.normal, st2 v j n u x2 x3 x7 l1 x8 (b2i (decide (4294967296 ≤ rd l2 (IntKind.i64.wrap (x11 + j)) + rd v x11 + x10))) x9 (IntKind.i64.wrap (x11 + 1)) (l2.set (IntKind.i64.wrap (x11 + j)).toNat ((rd l2 (IntKind.i64.wrap (x11 + j)) + rd v x11 + x10) % 4294967296))) else none) else none) else none) else none) else some (.exit 4, st2 v j n u x2 x3 x7 l1 x8 x10 x9 x11 l2)) := by kernel_rfl
-- loop 2 ends exit4 st2 v j n u x2 x3 x7 l1 x8 x10 x9 x11 l2
theorem rest (u : List Int) (v : List Int) (j : Int) (n : Int) (l3 : List Int) (x12 : Int) (x2 : Int) (x3 : Int) (x7 : Int) (l1 : List Int) (x8 : Int) (x9 : Int) (x13 : Int) : runTM T orc (tabOf T orc [(3, 220935877391547545310362390501370344593083250645148388465967214544155282116680330896604617775615643673420656662065373622788847671516133862354777432241123064714587646277013005670786775189518434789252148062226033340142, .exit 0, st0 v j n u x2 x3), (9, 220935877391546488031835383399145182996463416892850928101490691660974195608050754522775559223267713219301271392281415710484943307592124679615024554213531590923812951823732424582273066433821949250888134900674085187310, .exit 2, st1 v j n u x2 x3 x7 x8 x9 l1), (20, 220935877391546487788894545391998531994258311232521815633576060107002876424569911329674955119740059742634426015254023415071797607417369679135472361700032246637044093733466062703081384897743519738812376415380010102510, .exit 4, st2 v j n u x2 x3 x7 l1 x8 x12 x9 x13 l3)]) Tryd.f31 [.ints .u32 u, .ints .u32 v, .int .i64 j, .int .i64 n] =
    (bif inB (IntKind.i64.wrap (j + n)) u.length then (bif inB (IntKind.i64.wrap (IntKind.i64.wrap (j + n) - 1)) u.length then (bif inB (IntKind.i64.wrap (n - 1)) v.length then (bif !decide (IntKind.u64.wrap (rd v (IntKind.i64.wrap (n - 1))) = 0) then (bif inB (IntKind.i64.wrap (n - 1)) v.length then (bif !decide (IntKind.u64.wrap (rd v (IntKind.i64.wrap (n - 1))) = 0) then (bif cdec (Ends T orc L0 D0 (st0 v j n u (IntKind.u64.wrap ((IntKind.u64.wrap (↑(BitVec.ofInt 64 (IntKind.u64.wrap (IntKind.u64.wrap (rd u (IntKind.i64.wrap (j + n))) * 2 ^ 32)) ||| BitVec.ofInt 64 (IntKind.u64.wrap (rd u (IntKind.i64.wrap (IntKind.i64.wrap (j + n) - 1))))).toNat : Int)).tdiv (IntKind.u64.wrap (rd v (IntKind.i64.wrap (n - 1)))))) ((IntKind.u64.wrap (↑(BitVec.ofInt 64 (IntKind.u64.wrap (IntKind.u64.wrap (rd u (IntKind.i64.wrap (j + n))) * 2 ^ 32)) ||| BitVec.ofInt 64 (IntKind.u64.wrap (rd u (IntKind.i64.wrap (IntKind.i64.wrap (j + n) - 1))))).toNat : Int)).tmod (IntKind.u64.wrap (rd v (IntKind.i64.wrap (n - 1)))))) (.exit 0) (st0 v j n u x2 x3)) then (bif cdec (Ends T orc L1 D1 (st1 v j n u x2 x3 (0) (0) (0) u) (.exit 2) (st1 v j n u x2 x3 x7 x8 x9 l1)) then (bif inB (IntKind.i64.wrap (j + n)) l1.length then (bif decide (0 ≤ rd l1 (IntKind.i64.wrap (j + n))) && decide (rd l1 (IntKind.i64.wrap (j + n)) < 4294967296) && decide (0 ≤ IntKind.u32.wrap x7) && decide (IntKind.u32.wrap x7 < 4294967296) && decide (0 ≤ x8) && decide (x8 ≤ 1) then (bif inB (IntKind.i64.wrap (j + n)) l1.length then (bif b2i (decide (rd l1 (IntKind.i64.wrap (j + n)) < IntKind.u32.wrap x7 + x8)) == 0 then some (.gave (.ints .u32 (l1.set (IntKind.i64.wrap (j + n)).toNat ((rd l1 (IntKind.i64.wrap (j + n)) - IntKind.u32.wrap x7 - x8) % 4294967296))) (.int .u32 (IntKind.u32.wrap x2))) else (bif cdec (Ends T orc L2 D2 (st2 v j n u x2 x3 x7 l1 x8 (0) x9 (0) (l1.set (IntKind.i64.wrap (j + n)).toNat ((rd l1 (IntKind.i64.wrap (j + n)) - IntKind.u32.wrap x7 - x8) % 4294967296))) (.exit 4) (st2 v j n u x2 x3 x7 l1 x8 x12 x9 x13 l3)) then (bif inB (IntKind.i64.wrap (j + n)) l3.length then (bif inB (IntKind.i64.wrap (j + n)) l3.length then some (.gave (.ints .u32 (l3.set (IntKind.i64.wrap (j + n)).toNat (IntKind.u32.wrap (rd l3 (IntKind.i64.wrap (j + n)) + x12)))) (.int .u32 (IntKind.u32.wrap (IntKind.u64.wrap (x2 - 1))))) else none) else none) else none)) else none) else none) else none) else none) else none) else none) else none) else none) else none) else none) else none) := by kernel_rfl
end Digit
end Go.Abs
end
section
/- States and rounds of arith's functions, as a program of this session printed them. -/
namespace Go.Abs
open Go.Proofs Go.Dig
namespace Norm
noncomputable def L0 : Code := lp Tryd.f13 0
theorem isL0 : ∃ a, L0 = .loop a := ⟨_, rfl⟩
abbrev D0 : List Nat := [0, 1, 4, 5, 7, 8]
abbrev st0 (neg : Bool) (l : List Int) (x0 : Int) : St := ⟨.bool neg :: .ints .u32 l :: tops 2 (.ptr 4 0 0 :: .int .i64 x0 :: tops 1 (.ints .u32 l :: .int .i64 (↑l.length : Int) :: tops 23 ([]))), nos 4 (varE [(false, .bool false), (true, .ints .u32 [])] :: nos 27 ([]))⟩
theorem round0 (neg : Bool) (l : List Int) (x0 : Int) : goL T noOrc (noTab) D0 L0 (st0 neg l x0) =
    (bif decide (x0 > 0) then (bif inB (IntKind.i64.wrap (x0 - 1)) l.length then (bif rd l (IntKind.i64.wrap (x0 - 1)) == 0 then some (.normal, st0 neg l (IntKind.i64.wrap (x0 - 1))) else some (.exit 0, st0 neg l x0)) else none) else some (.exit 0, st0 neg l x0)) := by kernel_rfl
-- loop 0 ends exit0 st0 neg l x0
theorem rest (neg : Bool) (l : List Int) (x1 : Int) : runT T noOrc (tabOf T noOrc [(2, 49090933523575246115081363435123830510, .exit 0, st0 neg l x1)]) Tryd.f13 [.bool neg, .ints .u32 l] =
    (bif cdec (Ends T noOrc L0 D0 (st0 neg l ((↑l.length : Int))) (.exit 0) (st0 neg l x1)) then (bif x1 == 0 then some (.val (.agg [.bool false, .ints .u32 []])) else (bif decide (0 ≤ x1) && decide (x1 ≤ x1) && decide (x1.toNat * 4 ≤ 281474976710656) then some (.val (.agg [.bool neg, .ints .u32 (List.take (zeros x1.toNat).length l ++ List.drop l.length (zeros x1.toNat))])) else none)) else none) := by kernel_rfl
end Norm
namespace CmpMag
noncomputable def L0 : Code := lp Tryd.f28 0
theorem isL0 : ∃ a, L0 = .loop a := ⟨_, rfl⟩
abbrev D0 : List Nat := [0, 1, 4, 5, 6, 7, 8, 9, 10, 16, 17, 18]
abbrev st0 (a : List Int) (b : List Int) (x0 : Int) : St := ⟨.ints .u32 a :: .ints .u32 b :: tops 2 (.int .i64 (0) :: .int .i64 x0 :: .ints .u32 a :: .int .i64 (↑a.length : Int) :: .ints .u32 b :: .int .i64 (↑b.length : Int) :: .bool ((↑a.length : Int) != (↑b.length : Int)) :: tops 5 (.ints .u32 a :: .int .i64 (↑a.length : Int) :: .int .i64 (IntKind.i64.wrap ((↑a.length : Int) - 1)) :: tops 24 ([]))), nos 43 ([])⟩
abbrev st0x0 (a : List Int) (b : List Int) (x1 : Int) (x0 : Int) : St := ⟨.ints .u32 a :: .ints .u32 b :: tops 2 (.int .i64 x1 :: .int .i64 x0 :: .ints .u32 a :: .int .i64 (↑a.length : Int) :: .ints .u32 b :: .int .i64 (↑b.length : Int) :: .bool ((↑a.length : Int) != (↑b.length : Int)) :: tops 5 (.ints .u32 a :: .int .i64 (↑a.length : Int) :: .int .i64 (IntKind.i64.wrap ((↑a.length : Int) - 1)) :: tops 24 ([]))), nos 43 ([])⟩
theorem round0 (a : List Int) (b : List Int) (x0 : Int) : goL T noOrc (noTab) D0 L0 (st0 a b x0) =
    (bif decide (x0 ≥ 0) then (bif inB x0 a.length then (bif inB x0 b.length then (bif decide (rd a x0 < rd b x0) then some (.ret, st0x0 a b (-1) x0) else (bif inB x0 a.length then (bif inB x0 b.length then (bif decide (rd a x0 > rd b x0) then some (.ret, st0x0 a b (1) x0) else some (.normal, st0 a b (IntKind.i64.wrap (x0 - 1)))) else none) else none)) else none) else none) else some (.exit 0, st0 a b x0)) := by kernel_rfl
-- loop 0 ends ret st0x0 a b x1 x0
-- loop 0 ends exit0 st0 a b x0
theorem rest_0 (a : List Int) (b : List Int) (x2 : Int) (x3 : Int) : runT T noOrc (tabOf T noOrc [(6, 1611859775025682748261117154962095979354527915503342, .ret, st0x0 a b x2 x3)]) Tryd.f28 [.ints .u32 a, .ints .u32 b] =
    (bif (↑a.length : Int) != (↑b.length : Int) then (bif decide ((↑a.length : Int) < (↑b.length : Int)) then some (.val (.int .i64 (-1))) else some (.val (.int .i64 (1)))) else (bif cdec (Ends T noOrc L0 D0 (st0 a b (IntKind.i64.wrap ((↑a.length : Int) - 1))) .ret (st0x0 a b x2 x3)) then some (.val (.int .i64 x2)) else none)) := by kernel_rfl
theorem rest_1 (a : List Int) (b : List Int) (x4 : Int) : runT T noOrc (tabOf T noOrc [(6, 1611859775025682748261117154962095979354527915503342, .exit 0, st0 a b x4)]) Tryd.f28 [.ints .u32 a, .ints .u32 b] =
    (bif (↑a.length : Int) != (↑b.length : Int) then (bif decide ((↑a.length : Int) < (↑b.length : Int)) then some (.val (.int .i64 (-1))) else some (.val (.int .i64 (1)))) else (bif cdec (Ends T noOrc L0 D0 (st0 a b (IntKind.i64.wrap ((↑a.length : Int) - 1))) (.exit 0) (st0 a b x4)) then some (.val (.int .i64 (0))) else none)) := by kernel_rfl
end CmpMag
namespace Part
noncomputable def L0 : Code := lp Tryd.f14 0
theorem isL0 : ∃ a, L0 = .loop a := ⟨_, rfl⟩
abbrev D0 : List Nat := [0, 1, 4, 5, 6, 7, 8, 10, 11, 12, 13, 14, 15]
abbrev st0 (l : List Int) (by_ : Int) (x0 : Int) (x1 : Int) (l0 : List Int) : St := ⟨.ints .u32 l :: .int .u32 by_ :: tops 2 (.sl 4 0 0 :: .int .u32 (0) :: .sl 6 0 0 :: .int .u64 x0 :: .int .i64 x1 :: tops 1 (.ints .u32 l :: .int .i64 (↑l.length : Int) :: .sl 12 0 0 :: .ints .u32 l :: .int .i64 (↑l.length : Int) :: .int .i64 (IntKind.i64.wrap ((↑l.length : Int) - 1)) :: tops 43 ([]))), nos 4 (rowE (.ints .u32 []) :: nos 1 (rowE (.ints .u32 l0) :: nos 5 ({ g := 0, pg := 0, o := some (AObj.row { g := 0, own := false, v := .top }) } :: nos 46 ([]))))⟩
theorem round0 (l : List Int) (by_ : Int) (x0 : Int) (x1 : Int) (l0 : List Int) : goL T noOrc (noTab) D0 L0 (st0 l by_ x0 x1 l0) =
    (bif decide (x1 ≥ 0) then (bif inB x1 l.length then (bif !decide (IntKind.u64.wrap by_ = 0) then (bif inB x1 l0.length then (bif !decide (IntKind.u64.wrap by_ = 0) then some (.normal, st0 l by_ ((IntKind.u64.wrap (↑(BitVec.ofInt 64 (IntKind.u64.wrap (x0 * 2 ^ 32)) ||| BitVec.ofInt 64 (IntKind.u64.wrap (rd l x1))).toNat : Int)).tmod (IntKind.u64.wrap by_)) (IntKind.i64.wrap (x1 - 1)) (l0.set x1.toNat (IntKind.u32.wrap (IntKind.u64.wrap ((IntKind.u64.wrap (↑(BitVec.ofInt 64 (IntKind.u64.wrap (x0 * 2 ^ 32)) ||| BitVec.ofInt 64 (IntKind.u64.wrap (rd l x1))).toNat : Int)).tdiv (IntKind.u64.wrap by_)))))) else none) else none) else none) else none) else some (.exit 0, st0 l by_ x0 x1 l0)) := by kernel_rfl
-- loop 0 ends exit0 st0 l by_ x0 x1 l0
noncomputable def L1 : Code := lp Tryd.f14 1
theorem isL1 : ∃ a, L1 = .loop a := ⟨_, rfl⟩
abbrev D1 : List Nat := [0, 1, 4, 5, 6, 7, 8, 9, 10, 11, 12, 13, 14, 15, 40, 41]
abbrev st1 (l : List Int) (by_ : Int) (x2 : Int) (x3 : Int) (x4 : Int) (l1 : List Int) : St := ⟨.ints .u32 l :: .int .u32 by_ :: tops 2 (.sl 4 0 0 :: .int .u32 (0) :: .sl 6 0 0 :: .int .u64 x2 :: .int .i64 x3 :: .int .i64 x4 :: .ints .u32 l :: .int .i64 (↑l.length : Int) :: .sl 12 0 0 :: .ints .u32 l :: .int .i64 (↑l.length : Int) :: .int .i64 (IntKind.i64.wrap ((↑l.length : Int) - 1)) :: tops 24 (.sl 6 0 0 :: .int .i64 (↑l1.length : Int) :: tops 17 ([]))), nos 4 (rowE (.ints .u32 []) :: nos 1 (rowE (.ints .u32 l1) :: nos 5 ({ g := 0, pg := 0, o := some (AObj.row { g := 0, own := false, v := .top }) } :: nos 46 ([]))))⟩
theorem round1 (l : List Int) (by_ : Int) (x2 : Int) (x3 : Int) (x4 : Int) (l1 : List Int) : goL T noOrc (noTab) D1 L1 (st1 l by_ x2 x3 x4 l1) =
    (bif decide (x4 > 0) then (bif inB (IntKind.i64.wrap (x4 - 1)) l1.length then (bif rd l1 (IntKind.i64.wrap (x4 - 1)) == 0 then some (.normal, st1 l by_ x2 x3 (IntKind.i64.wrap (x4 - 1)) l1) else some (.exit 2, st1 l by_ x2 x3 x4 l1)) else none) else some (.exit 2, st1 l by_ x2 x3 x4 l1)) := by kernel_rfl
-- loop 1 ends exit2 st1 l by_ x2 x3 x4 l1
theorem rest (l : List Int) (by_ : Int) (x5 : Int) (l1 : List Int) (x2 : Int) (x3 : Int) : runT T noOrc (tabOf T noOrc [(4, 28440437587956609016658287635883767427787425185256247768087635468152558, .exit 0, st0 l by_ x2 x3 l1), (10, 28440437586650971855697858037005923227760230570684231446940306121879278, .exit 2, st1 l by_ x2 x3 x5 l1)]) Tryd.f14 [.ints .u32 l, .int .u32 by_] =
    (bif true && decide ((↑l.length : Int) ≤ (↑l.length : Int)) && decide ((↑l.length : Int).toNat * 4 ≤ 281474976710656) then (bif cdec (Ends T noOrc L0 D0 (st0 l by_ (0) (IntKind.i64.wrap ((↑l.length : Int) - 1)) (zeros (↑l.length : Int).toNat)) (.exit 0) (st0 l by_ x2 x3 l1)) then (bif cdec (Ends T noOrc L1 D1 (st1 l by_ x2 x3 ((↑l1.length : Int)) l1) (.exit 2) (st1 l by_ x2 x3 x5 l1)) then (bif decide (0 ≤ x5) && decide (x5 ≤ (↑l1.length : Int)) then some (.val (.tup [.ints .u32 (List.take x5.toNat l1), .int .u32 (IntKind.u32.wrap x2)])) else none) else none) else none) else none) := by kernel_rfl
end Part
namespace Left
noncomputable def L0 : Code := lp Tryd.f30 0
theorem isL0 : ∃ a, L0 = .loop a := ⟨_, rfl⟩
abbrev D0 : List Nat := [0, 1, 4, 5, 9, 10, 11, 12, 13, 14, 15]
abbrev st0 (l : List Int) (sh : Int) (x0 : Int) (l0 : List Int) : St := ⟨.ints .u32 l :: .int .i64 sh :: tops 2 (.sl 4 0 0 :: .sl 5 0 0 :: tops 3 (.ints .u32 l :: .int .i64 (↑l.length : Int) :: .int .i64 (IntKind.i64.wrap ((↑l.length : Int) + 1)) :: .sl 12 0 0 :: .ints .u32 l :: .int .i64 (↑l.length : Int) :: .int .i64 x0 :: tops 28 ([]))), nos 4 (rowE (.ints .u32 []) :: rowE (.ints .u32 l0) :: nos 6 ({ g := 0, pg := 0, o := some (AObj.row { g := 0, own := false, v := .top }) } :: nos 31 ([])))⟩
theorem round0 (l : List Int) (sh : Int) (x0 : Int) (l0 : List Int) : goL T noOrc (noTab) D0 L0 (st0 l sh x0 l0) =
    (bif decide (x0 < (↑l.length : Int)) then (bif inB x0 l.length then (bif decide (0 ≤ sh) then (bif inB x0 l0.length then (bif inB x0 l0.length then (bif inB (IntKind.i64.wrap (x0 + 1)) (l0.set x0.toNat (IntKind.u32.wrap (↑(BitVec.ofInt 32 (rd l0 x0) ||| BitVec.ofInt 32 (IntKind.u32.wrap (IntKind.u64.wrap (IntKind.u64.wrap (rd l x0) * 2 ^ min sh.toNat 64)))).toNat : Int))).length then (bif inB (IntKind.i64.wrap (x0 + 1)) (l0.set x0.toNat (IntKind.u32.wrap (↑(BitVec.ofInt 32 (rd l0 x0) ||| BitVec.ofInt 32 (IntKind.u32.wrap (IntKind.u64.wrap (IntKind.u64.wrap (rd l x0) * 2 ^ min sh.toNat 64)))).toNat : Int))).length then some (.normal, st0 l sh (IntKind.i64.wrap (x0 + 1)) ((l0.set x0.toNat (IntKind.u32.wrap (↑(BitVec.ofInt 32 (rd l0 x0) ||| BitVec.ofInt 32 (IntKind.u32.wrap (IntKind.u64.wrap (IntKind.u64.wrap (rd l x0) * 2 ^ min sh.toNat 64)))).toNat : Int))).set (IntKind.i64.wrap (x0 + 1)).toNat (IntKind.u32.wrap (↑(BitVec.ofInt 32 (rd (l0.set x0.toNat (IntKind.u32.wrap (↑(BitVec.ofInt 32 (rd l0 x0) ||| BitVec.ofInt 32 (IntKind.u32.wrap (IntKind.u64.wrap (IntKind.u64.wrap (rd l x0) * 2 ^ min sh.toNat 64)))).toNat : Int))) (IntKind.i64.wrap (x0 + 1))) ||| BitVec.ofInt 32 (IntKind.u32.wrap ((IntKind.u64.wrap (IntKind.u64.wrap (rd l x0) * 2 ^ min sh.toNat 64)).fdiv (2 ^ 32)))).toNat : Int)))) else none) else none) else none) else none) else none) else none) else some (.exit 0, st0 l sh x0 l0)) := by kernel_rfl
-- loop 0 ends exit0 st0 l sh x0 l0
theorem rest (l : List Int) (sh : Int) (l1 : List Int) (x1 : Int) : runT T noOrc (tabOf T noOrc [(3, 24668200490746980835634711171782457503664181991108334, .exit 0, st0 l sh x1 l1)]) Tryd.f30 [.ints .u32 l, .int .i64 sh] =
    (bif decide (0 ≤ IntKind.i64.wrap ((↑l.length : Int) + 1)) && decide (IntKind.i64.wrap ((↑l.length : Int) + 1) ≤ IntKind.i64.wrap ((↑l.length : Int) + 1)) && decide ((IntKind.i64.wrap ((↑l.length : Int) + 1)).toNat * 4 ≤ 281474976710656) then (bif cdec (Ends T noOrc L0 D0 (st0 l sh (0) (zeros (IntKind.i64.wrap ((↑l.length : Int) + 1)).toNat)) (.exit 0) (st0 l sh x1 l1)) then some (.own (.ints .u32 l1)) else none) else none) := by kernel_rfl
end Left
namespace Right
noncomputable def L0 : Code := lp Tryd.f32 0
theorem isL0 : ∃ a, L0 = .loop a := ⟨_, rfl⟩
abbrev D0 : List Nat := [0, 1, 4, 5, 8, 9, 10, 11, 12, 13]
abbrev st0 (l : List Int) (sh : Int) (x0 : Int) (l0 : List Int) : St := ⟨.ints .u32 l :: .int .i64 sh :: tops 2 (.sl 4 0 0 :: .sl 5 0 0 :: tops 2 (.ints .u32 l :: .int .i64 (↑l.length : Int) :: .sl 10 0 0 :: .ints .u32 l :: .int .i64 (↑l.length : Int) :: .int .i64 x0 :: tops 30 ([]))), nos 4 (rowE (.ints .u32 []) :: rowE (.ints .u32 l0) :: nos 4 ({ g := 0, pg := 0, o := some (AObj.row { g := 0, own := false, v := .top }) } :: nos 33 ([])))⟩
theorem round0 (l : List Int) (sh : Int) (x0 : Int) (l0 : List Int) : goL T noOrc (noTab) D0 L0 (st0 l sh x0 l0) =
    (bif decide (x0 < (↑l.length : Int)) then (bif inB x0 l.length then (bif decide (IntKind.i64.wrap (x0 + 1) < (↑l.length : Int)) then (bif inB (IntKind.i64.wrap (x0 + 1)) l.length then (bif decide (0 ≤ sh) then (bif inB x0 l0.length then some (.normal, st0 l sh (IntKind.i64.wrap (x0 + 1)) (l0.set x0.toNat (IntKind.u32.wrap ((IntKind.u64.wrap (↑(BitVec.ofInt 64 (IntKind.u64.wrap (rd l x0)) ||| BitVec.ofInt 64 (IntKind.u64.wrap (IntKind.u64.wrap (rd l (IntKind.i64.wrap (x0 + 1))) * 2 ^ 32))).toNat : Int)).fdiv (2 ^ min sh.toNat 64))))) else none) else none) else none) else (bif decide (0 ≤ sh) then (bif inB x0 l0.length then some (.normal, st0 l sh (IntKind.i64.wrap (x0 + 1)) (l0.set x0.toNat (IntKind.u32.wrap ((IntKind.u64.wrap (rd l x0)).fdiv (2 ^ min sh.toNat 64))))) else none) else none)) else none) else some (.exit 0, st0 l sh x0 l0)) := by kernel_rfl
-- loop 0 ends exit0 st0 l sh x0 l0
theorem rest (l : List Int) (sh : Int) (l1 : List Int) (x1 : Int) : runT T noOrc (tabOf T noOrc [(3, 24668200476597505487677394276075466997645655537544942, .exit 0, st0 l sh x1 l1)]) Tryd.f32 [.ints .u32 l, .int .i64 sh] =
    (bif true && decide ((↑l.length : Int) ≤ (↑l.length : Int)) && decide ((↑l.length : Int).toNat * 4 ≤ 281474976710656) then (bif cdec (Ends T noOrc L0 D0 (st0 l sh (0) (zeros (↑l.length : Int).toNat)) (.exit 0) (st0 l sh x1 l1)) then some (.own (.ints .u32 l1)) else none) else none) := by kernel_rfl
end Right
namespace PlusMag
noncomputable def L0 : Code := lp Tryd.f33 0
theorem isL0 : ∃ a, L0 = .loop a := ⟨_, rfl⟩
abbrev D0 : List Nat := [0, 1, 4, 5, 6, 8, 9, 10, 11, 12, 13, 14, 15, 16, 17, 18, 19, 20, 21]
abbrev st0 (b : List Int) (a : List Int) (x0 : Int) (x1 : Int) (l0 : List Int) : St := ⟨.ints .u32 b :: .ints .u32 a :: tops 2 (.sl 4 0 0 :: .sl 5 0 0 :: .int .u64 x0 :: tops 1 (.ints .u32 a :: .int .i64 (↑a.length : Int) :: .ints .u32 b :: .int .i64 (↑b.length : Int) :: .bool (decide ((↑a.length : Int) < (↑b.length : Int))) :: .ints .u32 b :: .ints .u32 a :: .ints .u32 b :: .int .i64 (↑b.length : Int) :: .int .i64 (IntKind.i64.wrap ((↑b.length : Int) + 1)) :: .sl 18 0 0 :: .ints .u32 b :: .int .i64 (↑b.length : Int) :: .int .i64 x1 :: tops 35 ([]))), nos 4 (rowE (.ints .u32 []) :: rowE (.ints .u32 l0) :: nos 12 ({ g := 0, pg := 0, o := some (AObj.row { g := 0, own := false, v := .top }) } :: nos 38 ([])))⟩
theorem round0 (b : List Int) (a : List Int) (x0 : Int) (x1 : Int) (l0 : List Int) : goL T noOrc (noTab) D0 L0 (st0 b a x0 x1 l0) =
    (bif decide (x1 < (↑b.length : Int)) then (bif inB x1 b.length then (bif decide (x1 < (↑a.length : Int)) then (bif inB x1 a.length then (bif inB x1 l0.length then some (.normal, st0 b a ((IntKind.u64.wrap (IntKind.u64.wrap (x0 + IntKind.u64.wrap (rd b x1)) + IntKind.u64.wrap (rd a x1))).fdiv (2 ^ 32)) (IntKind.i64.wrap (x1 + 1)) (l0.set x1.toNat (IntKind.u32.wrap (IntKind.u64.wrap (IntKind.u64.wrap (x0 + IntKind.u64.wrap (rd b x1)) + IntKind.u64.wrap (rd a x1)))))) else none) else none) else (bif inB x1 l0.length then some (.normal, st0 b a ((IntKind.u64.wrap (x0 + IntKind.u64.wrap (rd b x1))).fdiv (2 ^ 32)) (IntKind.i64.wrap (x1 + 1)) (l0.set x1.toNat (IntKind.u32.wrap (IntKind.u64.wrap (x0 + IntKind.u64.wrap (rd b x1)))))) else none)) else none) else some (.exit 0, st0 b a x0 x1 l0)) := by kernel_rfl
-- loop 0 ends exit0 st0 b a x0 x1 l0
noncomputable def L0a : Code := lp Tryd.f33 0
theorem isL0a : ∃ a, L0a = .loop a := ⟨_, rfl⟩
abbrev D0a : List Nat := [0, 1, 4, 5, 6, 8, 9, 10, 11, 12, 15, 16, 17, 18, 19, 20, 21]
abbrev st0a (a : List Int) (b : List Int) (x4 : Int) (x5 : Int) (l2 : List Int) : St := ⟨.ints .u32 a :: .ints .u32 b :: tops 2 (.sl 4 0 0 :: .sl 5 0 0 :: .int .u64 x4 :: tops 1 (.ints .u32 a :: .int .i64 (↑a.length : Int) :: .ints .u32 b :: .int .i64 (↑b.length : Int) :: .bool (decide ((↑a.length : Int) < (↑b.length : Int))) :: tops 2 (.ints .u32 a :: .int .i64 (↑a.length : Int) :: .int .i64 (IntKind.i64.wrap ((↑a.length : Int) + 1)) :: .sl 18 0 0 :: .ints .u32 a :: .int .i64 (↑a.length : Int) :: .int .i64 x5 :: tops 35 ([])))), nos 4 (rowE (.ints .u32 []) :: rowE (.ints .u32 l2) :: nos 12 ({ g := 0, pg := 0, o := some (AObj.row { g := 0, own := false, v := .top }) } :: nos 38 ([])))⟩
theorem round0a (a : List Int) (b : List Int) (x4 : Int) (x5 : Int) (l2 : List Int) : goL T noOrc (noTab) D0a L0a (st0a a b x4 x5 l2) =
    (bif decide (x5 < (↑a.length : Int)) then (bif inB x5 a.length then (bif decide (x5 < (↑b.length : Int)) then (bif inB x5 b.length then (bif inB x5 l2.length then some (.normal, st0a a b ((IntKind.u64.wrap (IntKind.u64.wrap (x4 + IntKind.u64.wrap (rd a x5)) + IntKind.u64.wrap (rd b x5))).fdiv (2 ^ 32)) (IntKind.i64.wrap (x5 + 1)) (l2.set x5.toNat (IntKind.u32.wrap (IntKind.u64.wrap (IntKind.u64.wrap (x4 + IntKind.u64.wrap (rd a x5)) + IntKind.u64.wrap (rd b x5)))))) else none) else none) else (bif inB x5 l2.length then some (.normal, st0a a b ((IntKind.u64.wrap (x4 + IntKind.u64.wrap (rd a x5))).fdiv (2 ^ 32)) (IntKind.i64.wrap (x5 + 1)) (l2.set x5.toNat (IntKind.u32.wrap (IntKind.u64.wrap (x4 + IntKind.u64.wrap (rd a x5)))))) else none)) else none) else some (.exit 0, st0a a b x4 x5 l2)) := by kernel_rfl
-- loop 0a ends exit0 st0a a b x4 x5 l2
theorem rest (a : List Int) (b : List Int) (l3 : List Int) (x6 : Int) (x7 : Int) (l1 : List Int) (x2 : Int) (x3 : Int) : runT T noOrc (tabOf T noOrc [(6, 116150667584049779827697862260700993274487450378509589689782185684718, .exit 0, st0 b a x2 x3 l1), (6, 116150667584049843432249118901595993498851370191146605115966456000238, .exit 0, st0a a b x6 x7 l3)]) Tryd.f33 [.ints .u32 a, .ints .u32 b] =
    (bif decide ((↑a.length : Int) < (↑b.length : Int)) then (bif decide (0 ≤ IntKind.i64.wrap ((↑b.length : Int) + 1)) && decide (IntKind.i64.wrap ((↑b.length : Int) + 1) ≤ IntKind.i64.wrap ((↑b.length : Int) + 1)) && decide ((IntKind.i64.wrap ((↑b.length : Int) + 1)).toNat * 4 ≤ 281474976710656) then (bif cdec (Ends T noOrc L0 D0 (st0 b a (0) (0) (zeros (IntKind.i64.wrap ((↑b.length : Int) + 1)).toNat)) (.exit 0) (st0 b a x2 x3 l1)) then (bif inB (↑b.length : Int) l1.length then some (.own (.ints .u32 (l1.set (↑b.length : Int).toNat (IntKind.u32.wrap x2)))) else none) else none) else none) else (bif decide (0 ≤ IntKind.i64.wrap ((↑a.length : Int) + 1)) && decide (IntKind.i64.wrap ((↑a.length : Int) + 1) ≤ IntKind.i64.wrap ((↑a.length : Int) + 1)) && decide ((IntKind.i64.wrap ((↑a.length : Int) + 1)).toNat * 4 ≤ 281474976710656) then (bif cdec (Ends T noOrc L0a D0a (st0a a b (0) (0) (zeros (IntKind.i64.wrap ((↑a.length : Int) + 1)).toNat)) (.exit 0) (st0a a b x6 x7 l3)) then (bif inB (↑a.length : Int) l3.length then some (.own (.ints .u32 (l3.set (↑a.length : Int).toNat (IntKind.u32.wrap x6)))) else none) else none) else none)) := by kernel_rfl
end PlusMag
namespace Sign
theorem rest (neg : Bool) (l : List Int) : runT T noOrc (noTab) Tryd.f12 [.agg [.bool neg, .ints .u32 l]] =
    (bif (↑l.length : Int) == 0 then some (.val (.int .i64 (0))) else (bif neg then some (.val (.int .i64 (-1))) else some (.val (.int .i64 (1))))) := by kernel_rfl
end Sign
namespace Len32
theorem rest (n : Int) : runT T noOrc (noTab) Tryd.f36 [.int .u32 n] =
    (bif decide (n ≥ 65536) then (bif decide (n.fdiv (2 ^ 16) ≥ 256) then (bif inB (IntKind.u8.wrap ((n.fdiv (2 ^ 16)).fdiv (2 ^ 8))) 256 then some (.val (.int .i64 (IntKind.i64.wrap (IntKind.i64.wrap (16 + 8) + IntKind.i64.wrap (bt { data := (([0, 1, 2, 2, 3, 3, 3, 3, 4, 4, 4, 4, 4, 4, 4, 4, 5, 5, 5, 5, 5, 5, 5, 5, 5, 5, 5, 5, 5, 5, 5, 5, 6, 6, 6, 6, 6, 6, 6, 6, 6, 6, 6, 6, 6, 6, 6, 6, 6, 6, 6, 6, 6, 6, 6, 6, 6, 6, 6, 6, 6, 6, 6, 6].append [7, 7, 7, 7, 7, 7, 7, 7, 7, 7, 7, 7, 7, 7, 7, 7, 7, 7, 7, 7, 7, 7, 7, 7, 7, 7, 7, 7, 7, 7, 7, 7, 7, 7, 7, 7, 7, 7, 7, 7, 7, 7, 7, 7, 7, 7, 7, 7, 7, 7, 7, 7, 7, 7, 7, 7, 7, 7, 7, 7, 7, 7, 7, 7]).append ([8, 8, 8, 8, 8, 8, 8, 8, 8, 8, 8, 8, 8, 8, 8, 8, 8, 8, 8, 8, 8, 8, 8, 8, 8, 8, 8, 8, 8, 8, 8, 8, 8, 8, 8, 8, 8, 8, 8, 8, 8, 8, 8, 8, 8, 8, 8, 8, 8, 8, 8, 8, 8, 8, 8, 8, 8, 8, 8, 8, 8, 8, 8, 8].append [8, 8, 8, 8, 8, 8, 8, 8, 8, 8, 8, 8, 8, 8, 8, 8, 8, 8, 8, 8, 8, 8, 8, 8, 8, 8, 8, 8, 8, 8, 8, 8, 8, 8, 8, 8, 8, 8, 8, 8, 8, 8, 8, 8, 8, 8, 8, 8, 8, 8, 8, 8, 8, 8, 8, 8, 8, 8, 8, 8, 8, 8, 8, 8])).toArray } (IntKind.u8.wrap ((n.fdiv (2 ^ 16)).fdiv (2 ^ 8)))))))) else none) else (bif inB (IntKind.u8.wrap (n.fdiv (2 ^ 16))) 256 then some (.val (.int .i64 (IntKind.i64.wrap (16 + IntKind.i64.wrap (bt { data := (([0, 1, 2, 2, 3, 3, 3, 3, 4, 4, 4, 4, 4, 4, 4, 4, 5, 5, 5, 5, 5, 5, 5, 5, 5, 5, 5, 5, 5, 5, 5, 5, 6, 6, 6, 6, 6, 6, 6, 6, 6, 6, 6, 6, 6, 6, 6, 6, 6, 6, 6, 6, 6, 6, 6, 6, 6, 6, 6, 6, 6, 6, 6, 6].append [7, 7, 7, 7, 7, 7, 7, 7, 7, 7, 7, 7, 7, 7, 7, 7, 7, 7, 7, 7, 7, 7, 7, 7, 7, 7, 7, 7, 7, 7, 7, 7, 7, 7, 7, 7, 7, 7, 7, 7, 7, 7, 7, 7, 7, 7, 7, 7, 7, 7, 7, 7, 7, 7, 7, 7, 7, 7, 7, 7, 7, 7, 7, 7]).append ([8, 8, 8, 8, 8, 8, 8, 8, 8, 8, 8, 8, 8, 8, 8, 8, 8, 8, 8, 8, 8, 8, 8, 8, 8, 8, 8, 8, 8, 8, 8, 8, 8, 8, 8, 8, 8, 8, 8, 8, 8, 8, 8, 8, 8, 8, 8, 8, 8, 8, 8, 8, 8, 8, 8, 8, 8, 8, 8, 8, 8, 8, 8, 8].append [8, 8, 8, 8, 8, 8, 8, 8, 8, 8, 8, 8, 8, 8, 8, 8, 8, 8, 8, 8, 8, 8, 8, 8, 8, 8, 8, 8, 8, 8, 8, 8, 8, 8, 8, 8, 8, 8, 8, 8, 8, 8, 8, 8, 8, 8, 8, 8, 8, 8, 8, 8, 8, 8, 8, 8, 8, 8, 8, 8, 8, 8, 8, 8])).toArray } (IntKind.u8.wrap (n.fdiv (2 ^ 16)))))))) else none)) else (bif decide (n ≥ 256) then (bif inB (IntKind.u8.wrap (n.fdiv (2 ^ 8))) 256 then some (.val (.int .i64 (IntKind.i64.wrap (IntKind.i64.wrap (0 + 8) + IntKind.i64.wrap (bt { data := (([0, 1, 2, 2, 3, 3, 3, 3, 4, 4, 4, 4, 4, 4, 4, 4, 5, 5, 5, 5, 5, 5, 5, 5, 5, 5, 5, 5, 5, 5, 5, 5, 6, 6, 6, 6, 6, 6, 6, 6, 6, 6, 6, 6, 6, 6, 6, 6, 6, 6, 6, 6, 6, 6, 6, 6, 6, 6, 6, 6, 6, 6, 6, 6].append [7, 7, 7, 7, 7, 7, 7, 7, 7, 7, 7, 7, 7, 7, 7, 7, 7, 7, 7, 7, 7, 7, 7, 7, 7, 7, 7, 7, 7, 7, 7, 7, 7, 7, 7, 7, 7, 7, 7, 7, 7, 7, 7, 7, 7, 7, 7, 7, 7, 7, 7, 7, 7, 7, 7, 7, 7, 7, 7, 7, 7, 7, 7, 7]).append ([8, 8, 8, 8, 8, 8, 8, 8, 8, 8, 8, 8, 8, 8, 8, 8, 8, 8, 8, 8, 8, 8, 8, 8, 8, 8, 8, 8, 8, 8, 8, 8, 8, 8, 8, 8, 8, 8, 8, 8, 8, 8, 8, 8, 8, 8, 8, 8, 8, 8, 8, 8, 8, 8, 8, 8, 8, 8, 8, 8, 8, 8, 8, 8].append [8, 8, 8, 8, 8, 8, 8, 8, 8, 8, 8, 8, 8, 8, 8, 8, 8, 8, 8, 8, 8, 8, 8, 8, 8, 8, 8, 8, 8, 8, 8, 8, 8, 8, 8, 8, 8, 8, 8, 8, 8, 8, 8, 8, 8, 8, 8, 8, 8, 8, 8, 8, 8, 8, 8, 8, 8, 8, 8, 8, 8, 8, 8, 8])).toArray } (IntKind.u8.wrap (n.fdiv (2 ^ 8)))))))) else none) else (bif inB (IntKind.u8.wrap n) 256 then some (.val (.int .i64 (IntKind.i64.wrap (0 + IntKind.i64.wrap (bt { data := (([0, 1, 2, 2, 3, 3, 3, 3, 4, 4, 4, 4, 4, 4, 4, 4, 5, 5, 5, 5, 5, 5, 5, 5, 5, 5, 5, 5, 5, 5, 5, 5, 6, 6, 6, 6, 6, 6, 6, 6, 6, 6, 6, 6, 6, 6, 6, 6, 6, 6, 6, 6, 6, 6, 6, 6, 6, 6, 6, 6, 6, 6, 6, 6].append [7, 7, 7, 7, 7, 7, 7, 7, 7, 7, 7, 7, 7, 7, 7, 7, 7, 7, 7, 7, 7, 7, 7, 7, 7, 7, 7, 7, 7, 7, 7, 7, 7, 7, 7, 7, 7, 7, 7, 7, 7, 7, 7, 7, 7, 7, 7, 7, 7, 7, 7, 7, 7, 7, 7, 7, 7, 7, 7, 7, 7, 7, 7, 7]).append ([8, 8, 8, 8, 8, 8, 8, 8, 8, 8, 8, 8, 8, 8, 8, 8, 8, 8, 8, 8, 8, 8, 8, 8, 8, 8, 8, 8, 8, 8, 8, 8, 8, 8, 8, 8, 8, 8, 8, 8, 8, 8, 8, 8, 8, 8, 8, 8, 8, 8, 8, 8, 8, 8, 8, 8, 8, 8, 8, 8, 8, 8, 8, 8].append [8, 8, 8, 8, 8, 8, 8, 8, 8, 8, 8, 8, 8, 8, 8, 8, 8, 8, 8, 8, 8, 8, 8, 8, 8, 8, 8, 8, 8, 8, 8, 8, 8, 8, 8, 8, 8, 8, 8, 8, 8, 8, 8, 8, 8, 8, 8, 8, 8, 8, 8, 8, 8, 8, 8, 8, 8, 8, 8, 8, 8, 8, 8, 8])).toArray } (IntKind.u8.wrap n)))))) else none))) := by kernel_rfl
end Len32
namespace Sub32
theorem rest (x : Int) (y : Int) (b : Int) : runT T noOrc (noTab) Tryd.f37 [.int .u32 x, .int .u32 y, .int .u32 b] =
    some (.val (.tup [.int .u32 (IntKind.u32.wrap (IntKind.u32.wrap (x - y) - b)), .int .u32 ((IntKind.u32.wrap (↑(BitVec.ofInt 32 (IntKind.u32.wrap (↑(BitVec.ofInt 32 (IntKind.u32.wrap (↑(BitVec.ofInt 32 (bif false then -1 else IntKind.u32.max) ^^^ BitVec.ofInt 32 x).toNat : Int)) &&& BitVec.ofInt 32 y).toNat : Int)) ||| BitVec.ofInt 32 (IntKind.u32.wrap (↑(BitVec.ofInt 32 (IntKind.u32.wrap (↑(BitVec.ofInt 32 (bif false then -1 else IntKind.u32.max) ^^^ BitVec.ofInt 32 (IntKind.u32.wrap (↑(BitVec.ofInt 32 x ^^^ BitVec.ofInt 32 y).toNat : Int))).toNat : Int)) &&& BitVec.ofInt 32 (IntKind.u32.wrap (IntKind.u32.wrap (x - y) - b))).toNat : Int))).toNat : Int)).fdiv (2 ^ 31))])) := by kernel_rfl
end Sub32
namespace Add32
theorem rest (x : Int) (y : Int) (b : Int) : runT T noOrc (noTab) Tryd.f38 [.int .u32 x, .int .u32 y, .int .u32 b] =
    some (.val (.tup [.int .u32 (IntKind.u32.wrap (IntKind.u64.wrap (IntKind.u64.wrap (IntKind.u64.wrap x + IntKind.u64.wrap y) + IntKind.u64.wrap b))), .int .u32 (IntKind.u32.wrap ((IntKind.u64.wrap (IntKind.u64.wrap (IntKind.u64.wrap x + IntKind.u64.wrap y) + IntKind.u64.wrap b)).fdiv (2 ^ 32)))])) := by kernel_rfl
end Add32
end Go.Abs
end
section
/- Numbers by sign and digits: plain mathematics. -/
namespace Go.Abs
open Go.Dig
theorem W_pos : (0 : Int) < 4294967296 := by decide
theorem W_two : (2 : Int) ≤ 4294967296 := by decide
theorem lb_val {B : Int} (hB : 2 ≤ B) (z : Int) : val B (lb B z) = z.natAbs := limbs_val hB (by omega)
theorem lb_ok {B : Int} (hB : 2 ≤ B) (z : Int) : okB B (lb B z) = true := limbs_ok (by omega) _
theorem lb_last (B z : Int) : (lb B z).getLast? ≠ some 0 := limbs_last _ _
theorem num_lb {B : Int} (hB : 2 ≤ B) (z : Int) : num B (sg z) (lb B z) = z := by
  unfold num sg
  rw [lb_val hB]
  by_cases h : z < 0
  · rw [decide_eq_true h]; simp only [cond_true]; omega
  · rw [decide_eq_false h]; simp only [cond_false]; omega
theorem N_eq (z : Int) : N 4294967296 z = z := num_lb (by decide) z
theorem cn_iff {B : Int} (hB : 2 ≤ B) {s : Bool} {l : List Int} : cn B s l = true ↔ ∃ z : Int, s = sg z ∧ l = lb B z ∧ z.natAbs < Lim := by
  unfold cn
  constructor
  · intro h
    rw [Bool.and_eq_true, Bool.and_eq_true, decide_eq_true_eq, decide_eq_true_eq, decide_eq_true_eq] at h
    exact ⟨_, h.1.1, h.1.2, h.2⟩
  · rintro ⟨z, rfl, rfl, h⟩
    rw [Bool.and_eq_true, Bool.and_eq_true, decide_eq_true_eq, decide_eq_true_eq, decide_eq_true_eq, num_lb hB]
    exact ⟨⟨rfl, rfl⟩, h⟩
theorem cn_lb {B : Int} (hB : 2 ≤ B) (z : Int) : cn B (sg z) (lb B z) = decide (z.natAbs < Lim) := by
  rw [Bool.eq_iff_iff, cn_iff hB, decide_eq_true_eq]
  constructor
  · rintro ⟨y, h1, h2, h3⟩
    have : z = y := by rw [← num_lb hB z, h1, h2, num_lb hB]
    rw [this]; exact h3
  · intro h; exact ⟨z, rfl, rfl, h⟩
theorem big_pow : Lim ≤ 4294967296 ^ 1100 := Nat.le_of_ble_eq_true (by kernel_rfl)
set_option exponentiation.threshold 20000 in
theorem lb_length {z : Int} (h : z.natAbs < Lim) : (lb 4294967296 z).length ≤ 1100 := by
  refine limbs_length (by decide) (by omega) ?_
  have h1 : z.natAbs < 4294967296 ^ 1100 := Nat.lt_of_lt_of_le h big_pow
  have h2 := Int.ofNat_lt.2 h1
  rw [Int.natCast_pow] at h2
  exact h2
set_option exponentiation.threshold 20000 in
theorem lb10_length {z : Int} (h : z.natAbs < Lim) : (lb 10 z).length ≤ 10000 := by
  refine limbs_length (by decide) (by omega) ?_
  have h1 : z.natAbs < 10 ^ 10000 := h
  have h2 := Int.ofNat_lt.2 h1
  rw [Int.natCast_pow] at h2
  exact h2
theorem few_lb {z : Int} (h : z.natAbs < Lim) : few (lb 4294967296 z) = true := few_iff.2 (by have := lb_length h; omega)
theorem lb_nil {B : Int} (hB : 2 ≤ B) {z : Int} : lb B z = [] ↔ z = 0 := by
  unfold lb
  rw [limbs_nil hB (by omega)]
  omega
/-- Sign and digits of a sign and digits. -/
theorem lb_num {B : Int} (hB : 2 ≤ B) {s : Bool} {l : List Int} (h : okB B l = true) : lb B (num B s l) = strip l := by
  have h0 := val_nonneg (by omega) h
  unfold lb num
  rw [limbs_strip hB h]
  congr 1
  cases s <;> simp <;> omega
theorem sg_num {B : Int} (hB : 2 ≤ B) {s : Bool} {l : List Int} (h : okB B l = true) : sg (num B s l) = (s && !(strip l).isEmpty) := by
  have h0 := val_nonneg (by omega) h
  have h1 : strip l = [] ↔ val B l = 0 := by
    rw [limbs_strip hB h, limbs_nil hB h0]
  unfold sg num
  rw [Bool.eq_iff_iff, decide_eq_true_eq, Bool.and_eq_true, Bool.not_eq_true', List.isEmpty_eq_false_iff, ne_eq, h1]
  cases s <;> simp <;> omega
theorem cl_iff {B : Int} {l : List Int} : cl B l = true ↔ l.length ≤ 100000 ∧ l = limbs B (val B l) ∧ 0 ≤ val B l := by
  unfold cl
  rw [Bool.and_eq_true, Bool.and_eq_true, few_iff, decide_eq_true_eq, decide_eq_true_eq, and_assoc]
theorem cl_ok {B : Int} (hB : 2 ≤ B) {l : List Int} (h : cl B l = true) : okB B l = true := by
  rw [(cl_iff.1 h).2.1]; exact limbs_ok (by omega) _
theorem cl_last {B : Int} {l : List Int} (h : cl B l = true) : l.getLast? ≠ some 0 := by
  rw [(cl_iff.1 h).2.1]; exact limbs_last _ _
theorem cl_lb {z : Int} (h : z.natAbs < Lim) : cl 4294967296 (lb 4294967296 z) = true := by
  rw [cl_iff, lb_val (by decide)]
  exact ⟨by have := lb_length h; omega, rfl, by omega⟩
/-- A list of digits with no nought at the end is at least a power. -/
theorem last_ge {B : Int} (hB : 2 ≤ B) {l : List Int} (h : okB B l = true) (hl : l.getLast? ≠ some 0) (hne : l ≠ []) : B ^ (l.length - 1) ≤ val B l := by
  have h1 : l = l.dropLast ++ [l.getLast hne] := (List.dropLast_concat_getLast hne).symm
  have h2 : l.getLast hne ∈ l := List.getLast_mem hne
  have h3 := okB_iff.1 h _ h2
  have h4 : l.getLast hne ≠ 0 := fun h5 => hl (by rw [List.getLast?_eq_some_getLast hne, h5])
  have h6 : okB B l.dropLast = true := by
    rw [h1] at h; exact (okB_append.1 h).1
  have h7 := val_nonneg (by omega) h6
  have h8 : val B l = val B l.dropLast + B ^ (l.length - 1) * l.getLast hne := by
    conv => lhs; rw [h1]
    rw [val_append, val_one, List.length_dropLast]
  have h9 : 0 ≤ B ^ (l.length - 1) := Int.pow_nonneg (by omega)
  have h10 : B ^ (l.length - 1) * 1 ≤ B ^ (l.length - 1) * l.getLast hne := Int.mul_le_mul_of_nonneg_left (by omega) h9
  omega
/-- A longer list of digits is a greater number. -/
theorem val_lt_of_length {B : Int} (hB : 2 ≤ B) {a b : List Int} (ha : okB B a = true) (hb : okB B b = true) (hl : b.getLast? ≠ some 0) (h : a.length < b.length) : val B a < val B b := by
  have h1 := val_lt (by omega) ha
  have h2 := last_ge hB hb hl (fun h0 => by rw [h0] at h; simp at h)
  have h3 : B ^ a.length ≤ B ^ (b.length - 1) := by
    obtain ⟨k, hk⟩ : ∃ k, b.length - 1 = a.length + k := ⟨b.length - 1 - a.length, by omega⟩
    rw [hk, Int.pow_add]
    have h4 : 0 < B ^ k := Int.pow_pos (by omega)
    have h5 : B ^ a.length * 1 ≤ B ^ a.length * B ^ k := Int.mul_le_mul_of_nonneg_left (by omega) (Int.pow_nonneg (by omega))
    omega
  omega
end Go.Abs
end
section
/- What arith's functions over limbs answer: sums. -/
namespace Go.Abs
open Go.Proofs Go.Dig
namespace PlusMag
def Inv (a b : List Int) (n : Nat) (c : Int) (l : List Int) : Prop :=
  n ≤ b.length ∧ l.length = b.length + 1 ∧ okB 4294967296 (l.take n) = true ∧ 0 ≤ c ∧ c ≤ 1 ∧ val 4294967296 (l.take n) + 4294967296 ^ n * c = val 4294967296 (b.take n) + val 4294967296 (a.take n)
theorem Inv.next {a b l : List Int} {n : Nat} {c d c' : Int} (h : Inv a b n c l) (hn : n < b.length) (hd : 0 ≤ d ∧ d < 4294967296) (hc : 0 ≤ c' ∧ c' ≤ 1) (e : c + (b.getD n 0 + a.getD n 0) = d + 4294967296 * c') : Inv a b (n + 1) c' (l.set n d) := by
  obtain ⟨h1, h2, h3, h4, h5, h6⟩ := h
  obtain ⟨k1, k2, k3⟩ := set_next (by omega : n < l.length) h3 hd
  refine ⟨by omega, by omega, k1, hc.1, hc.2, ?_⟩
  rw [k2, val_take_succ, val_take_succ, Int.pow_succ, carry_step _ _ _ _ _ _ _ _ h6 e, Int.mul_add]
  omega
theorem Inv.fin {a b l : List Int} {c : Int} (hab : a.length ≤ b.length) (h : Inv a b b.length c l) : l.set b.length c = digN 4294967296 (b.length + 1) (val 4294967296 b + val 4294967296 a) := by
  obtain ⟨h1, h2, h3, h4, h5, h6⟩ := h
  obtain ⟨k1, k2, k3⟩ := set_next (d := c) (by omega : b.length < l.length) h3 ⟨h4, by omega⟩
  rw [List.take_of_length_le (by omega)] at k1 k2
  refine dig_eq W_pos k1 (by omega) ?_
  rw [k2, h6, List.take_of_length_le (Nat.le_refl _), List.take_of_length_le hab]
theorem loop (b a : List Int) (hb : okB 4294967296 b = true) (ha : okB 4294967296 a = true) (hlb : b.length ≤ 100000) :
    ∃ e S1, Ends T noOrc L0 D0 (st0 b a 0 0 (zeros (b.length + 1))) e S1 ∧ (e = .exit 0 ∧ ∃ c x l, S1 = st0 b a c x l ∧ Inv a b b.length c l) := by
  refine loop_inv3 (fun c (i : Nat) l => st0 b a c i l) (fun c i l => Inv a b i c l) (fun c i l => b.length - i)
    (fun e S1 => e = .exit 0 ∧ ∃ c x l, S1 = st0 b a c x l ∧ Inv a b b.length c l) isL0 ?_ 0 0 (zeros (b.length + 1)) ?_
  · intro c i l h
    obtain ⟨h1, h2, h3, h4, h5, h6⟩ := id h
    refine ⟨noTab, noTab_all, ?_⟩
    have hbi := getD_ok W_pos hb i
    have hai := getD_ok W_pos ha i
    rw [round0]
    simp only [lands_bif, lands_some, lands_none, Turns1, Turns2, Turns3, Turns4, Turns5, Turns6, Turns7, Turns8, eq_bif, Option.some.injEq, reduceCtorEq, cond_true, cond_false, Bool.eq_false_iff, ne_eq, inB_iff, decide_eq_true_eq, Bool.and_eq_true, Bool.or_eq_true, Bool.not_eq_true', beq_iff_eq, bne_iff_ne, true_and, and_true, true_implies, implies_true, not_true_eq_false, not_false_eq_true, false_implies, few_iff, rd_toNat, Int.toNat_natCast, wi_succ (show i < 4611686018427387904 by omega), wu64_mod, wu32_mod, fdiv32]
    repeat' (first | apply And.intro | intro _)
    all_goals try omega
    · exact ⟨_, i + 1, _, rfl, h.next (by omega) (by omega) (by omega) (by omega), by omega⟩
    · have : a.getD i 0 = 0 := by rw [List.getD_eq_getElem?_getD, List.getElem?_eq_none (by omega)]; rfl
      exact ⟨_, i + 1, _, rfl, h.next (by omega) (by omega) (by omega) (by omega), by omega⟩
    · obtain rfl : i = b.length := by omega
      exact ⟨_, _, _, rfl, h⟩
  · simp [Inv, okB, val]
theorem loopa (b a : List Int) (hb : okB 4294967296 b = true) (ha : okB 4294967296 a = true) (hlb : b.length ≤ 100000) :
    ∃ e S1, Ends T noOrc L0a D0a (st0a b a 0 0 (zeros (b.length + 1))) e S1 ∧ (e = .exit 0 ∧ ∃ c x l, S1 = st0a b a c x l ∧ Inv a b b.length c l) := by
  refine loop_inv3 (fun c (i : Nat) l => st0a b a c i l) (fun c i l => Inv a b i c l) (fun c i l => b.length - i)
    (fun e S1 => e = .exit 0 ∧ ∃ c x l, S1 = st0a b a c x l ∧ Inv a b b.length c l) isL0a ?_ 0 0 (zeros (b.length + 1)) ?_
  · intro c i l h
    obtain ⟨h1, h2, h3, h4, h5, h6⟩ := id h
    refine ⟨noTab, noTab_all, ?_⟩
    have hbi := getD_ok W_pos hb i
    have hai := getD_ok W_pos ha i
    rw [round0a]
    simp only [lands_bif, lands_some, lands_none, Turns1, Turns2, Turns3, Turns4, Turns5, Turns6, Turns7, Turns8, eq_bif, Option.some.injEq, reduceCtorEq, cond_true, cond_false, Bool.eq_false_iff, ne_eq, inB_iff, decide_eq_true_eq, Bool.and_eq_true, Bool.or_eq_true, Bool.not_eq_true', beq_iff_eq, bne_iff_ne, true_and, and_true, true_implies, implies_true, not_true_eq_false, not_false_eq_true, false_implies, few_iff, rd_toNat, Int.toNat_natCast, wi_succ (show i < 4611686018427387904 by omega), wu64_mod, wu32_mod, fdiv32]
    repeat' (first | apply And.intro | intro _)
    all_goals try omega
    · exact ⟨_, i + 1, _, rfl, h.next (by omega) (by omega) (by omega) (by omega), by omega⟩
    · have : a.getD i 0 = 0 := by rw [List.getD_eq_getElem?_getD, List.getElem?_eq_none (by omega)]; rfl
      exact ⟨_, i + 1, _, rfl, h.next (by omega) (by omega) (by omega) (by omega), by omega⟩
    · obtain rfl : i = b.length := by omega
      exact ⟨_, _, _, rfl, h⟩
  · simp [Inv, okB, val]
end PlusMag
theorem meets_plusMag : Meets Tryd.prog 33 ansPlusMag := by
  refine meets_fn noOrc_ok Tryd.f33 Tryd.func33 (by kernel_rfl) (fun args r h => ?_)
  unfold ansPlusMag at h
  split at h
  · rename_i a b
    simp only [Option.some.injEq, Prod.mk.injEq, Bool.and_eq_true, few_iff] at h
    obtain ⟨⟨⟨⟨ha, hb⟩, oa⟩, ob⟩, rfl⟩ := h
    obtain ⟨e1, S1, hE1, rfl, c, x, l, rfl, hI⟩ := PlusMag.loop b a ob oa hb
    obtain ⟨e2, S2, hE2, rfl, c2, x2, l2, rfl, hI2⟩ := PlusMag.loopa a b oa ob ha
    refine ⟨rfl, _, tabOf_all _, (PlusMag.rest a b l2 c2 x2 l c x).trans ?_⟩
    have hl := hI.2.1
    have hl2 := hI2.2.1
    rw [wi_succ (show a.length < 4611686018427387904 by omega), wi_succ (show b.length < 4611686018427387904 by omega)]
    simp only [lands_bif, lands_some, lands_none, Turns1, Turns2, Turns3, Turns4, Turns5, Turns6, Turns7, Turns8, eq_bif, Option.some.injEq, reduceCtorEq, cond_true, cond_false, Bool.eq_false_iff, ne_eq, inB_iff, decide_eq_true_eq, Bool.and_eq_true, Bool.or_eq_true, Bool.not_eq_true', beq_iff_eq, bne_iff_ne, true_and, and_true, true_implies, implies_true, not_true_eq_false, not_false_eq_true, false_implies, few_iff, Int.toNat_natCast, cdec_true hE1, cdec_true hE2]
    rw [wu32 hI.2.2.2.1 (by have := hI.2.2.2.2.1; omega), wu32 hI2.2.2.2.1 (by have := hI2.2.2.2.2.1; omega)]
    repeat' (first | apply And.intro | intro _)
    all_goals try omega
    · rw [hI.fin (by omega), plusL, Int.add_comm, Nat.max_eq_right (by omega)]
    · rw [hI2.fin (by omega), plusL, Nat.max_eq_left (by omega)]
  · cases h
namespace LessMag
def Inv (a b : List Int) (n : Nat) (c : Int) (l : List Int) : Prop :=
  n ≤ a.length ∧ l.length = a.length ∧ okB 4294967296 (l.take n) = true ∧ 0 ≤ c ∧ c ≤ 1 ∧ val 4294967296 (l.take n) - 4294967296 ^ n * c = val 4294967296 (a.take n) - val 4294967296 (b.take n)
theorem Inv.next {a b l : List Int} {n : Nat} {c d c' : Int} (h : Inv a b n c l) (hn : n < a.length) (hd : 0 ≤ d ∧ d < 4294967296) (hc : 0 ≤ c' ∧ c' ≤ 1) (e : a.getD n 0 - b.getD n 0 - c = d - 4294967296 * c') : Inv a b (n + 1) c' (l.set n d) := by
  obtain ⟨h1, h2, h3, h4, h5, h6⟩ := h
  obtain ⟨k1, k2, k3⟩ := set_next (by omega : n < l.length) h3 hd
  refine ⟨by omega, by omega, k1, hc.1, hc.2, ?_⟩
  rw [k2, val_take_succ, val_take_succ, Int.pow_succ]
  have := carry_step 4294967296 (4294967296 ^ n) (val 4294967296 (l.take n)) (val 4294967296 (a.take n) - val 4294967296 (b.take n)) (-c) d (-c') (a.getD n 0 - b.getD n 0) (by rw [← h6, Int.mul_neg]; omega) (by omega)
  rw [Int.mul_neg, Int.mul_sub] at this
  omega
theorem Inv.fin {a b l : List Int} {c : Int} (hab : b.length ≤ a.length) (hle : val 4294967296 b ≤ val 4294967296 a) (h : Inv a b a.length c l) : l = lessL a b := by
  obtain ⟨h1, h2, h3, h4, h5, h6⟩ := h
  rw [List.take_of_length_le (by omega)] at h3 h6
  rw [List.take_of_length_le (Nat.le_refl _), List.take_of_length_le hab] at h6
  have h7 := val_lt W_pos h3
  rw [h2] at h7
  have : c = 0 := by
    rcases (by omega : c = 0 ∨ c = 1) with h | h
    · exact h
    · rw [h, Int.mul_one] at h6; omega
  rw [this] at h6
  exact dig_eq W_pos h3 h2 (by omega)
theorem b2i_lt (x y : Int) : b2i (decide (x < y)) = if x < y then 1 else 0 := by
  unfold b2i; by_cases h : x < y <;> simp [h]
theorem loop (a b : List Int) (ha : okB 4294967296 a = true) (hb : okB 4294967296 b = true) (hla : a.length ≤ 100000) :
    ∃ e S1, Ends T orc L0 D0 (st0 a b 0 0 (zeros a.length)) e S1 ∧ (e = .exit 0 ∧ ∃ c x l, S1 = st0 a b c x l ∧ Inv a b a.length c l) := by
  refine loop_inv3 (fun c (i : Nat) l => st0 a b c i l) (fun c i l => Inv a b i c l) (fun c i l => a.length - i)
    (fun e S1 => e = .exit 0 ∧ ∃ c x l, S1 = st0 a b c x l ∧ Inv a b a.length c l) isL0 ?_ 0 0 (zeros a.length) ?_
  · intro c i l h
    obtain ⟨h1, h2, h3, h4, h5, h6⟩ := id h
    refine ⟨noTab, noTab_all, ?_⟩
    have hbi := getD_ok W_pos hb i
    have hai := getD_ok W_pos ha i
    rw [round0]
    simp only [lands_bif, lands_some, lands_none, Turns1, Turns2, Turns3, Turns4, Turns5, Turns6, Turns7, Turns8, eq_bif, Option.some.injEq, reduceCtorEq, cond_true, cond_false, Bool.eq_false_iff, ne_eq, inB_iff, decide_eq_true_eq, Bool.and_eq_true, Bool.or_eq_true, Bool.not_eq_true', beq_iff_eq, bne_iff_ne, true_and, and_true, true_implies, implies_true, not_true_eq_false, not_false_eq_true, false_implies, few_iff, b2i_lt]
    simp only [rd_toNat, Int.toNat_natCast, wi_succ (show i < 4611686018427387904 by omega)]
    repeat' (first | apply And.intro | intro _)
    all_goals try omega
    · exact ⟨_, i + 1, _, rfl, h.next (by omega) (by omega) (by split <;> omega) (by split <;> omega), by omega⟩
    · have : b.getD i 0 = 0 := by rw [List.getD_eq_getElem?_getD, List.getElem?_eq_none (by omega)]; rfl
      exact ⟨_, i + 1, _, rfl, h.next (by omega) (by omega) (by split <;> omega) (by split <;> omega), by omega⟩
    · obtain rfl : i = a.length := by omega
      exact ⟨_, _, _, rfl, h⟩
  · simp [Inv, okB, val]
end LessMag
theorem meets_lessMag (hS : Meets Tryd.prog 37 ansSub32) : Meets Tryd.prog 34 ansLessMag := by
  refine meets_fn (orc_ok (l := LessMag.ans) ⟨hS, trivial⟩) Tryd.f34 Tryd.func34 (by kernel_rfl) (fun args r h => ?_)
  unfold ansLessMag at h
  split at h
  · rename_i a b
    simp only [Option.some.injEq, Prod.mk.injEq, Bool.and_eq_true, few_iff, decide_eq_true_eq] at h
    obtain ⟨⟨⟨⟨⟨⟨ha, hb⟩, oa⟩, ob⟩, hab⟩, hle⟩, rfl⟩ := h
    obtain ⟨e1, S1, hE1, rfl, c, x, l, rfl, hI⟩ := LessMag.loop a b oa ob ha
    refine ⟨rfl, _, tabOf_all _, (LessMag.rest a b l c x).trans ?_⟩
    simp only [lands_bif, lands_some, lands_none, Turns1, Turns2, Turns3, Turns4, Turns5, Turns6, Turns7, Turns8, eq_bif, Option.some.injEq, reduceCtorEq, cond_true, cond_false, Bool.eq_false_iff, ne_eq, inB_iff, decide_eq_true_eq, Bool.and_eq_true, Bool.or_eq_true, Bool.not_eq_true', beq_iff_eq, bne_iff_ne, true_and, and_true, true_implies, implies_true, not_true_eq_false, not_false_eq_true, false_implies, few_iff, Int.toNat_natCast, cdec_true hE1]
    rw [hI.fin hab hle]
    repeat' (first | apply And.intro | intro _)
    all_goals first | omega | trivial
  · cases h
end Go.Abs
end
section
/- What arith's functions over limbs answer: norm, cmpMag, timesMag. -/
namespace Go.Abs
open Go.Proofs Go.Dig
theorem getD_none {l : List Int} {i : Nat} (h : l.length ≤ i) : l.getD i 0 = 0 := by
  rw [List.getD_eq_getElem?_getD, List.getElem?_eq_none h]; rfl
/-- A digit put in another's place. -/
theorem val_set (B : Int) : ∀ (l : List Int) (i : Nat) (d : Int), i < l.length → val B (l.set i d) = val B l + B ^ i * (d - l.getD i 0)
  | [], i, d, h => by simp at h
  | x :: l, 0, d, _ => by simp [val]; omega
  | x :: l, i + 1, d, h => by
    simp only [List.set_cons_succ, val, List.getD_cons_succ]
    rw [val_set B l i d (by simpa using h), Int.mul_add, Int.pow_succ, Int.mul_comm (B ^ i) B, Int.mul_assoc]
    omega
theorem okB_set {B : Int} {l : List Int} {i : Nat} {d : Int} (h : okB B l = true) (hd : 0 ≤ d ∧ d < B) : okB B (l.set i d) = true := okB_iff.2 fun e he => by
  rcases List.mem_or_eq_of_mem_set he with he | rfl
  · exact okB_iff.1 h e he
  · exact hd
theorem getD_set_ne {l : List Int} {i j : Nat} {d : Int} (h : i ≠ j) : (l.set i d).getD j 0 = l.getD j 0 := by
  rw [List.getD_eq_getElem?_getD, List.getElem?_set_ne h, List.getD_eq_getElem?_getD]
theorem getD_set_self {l : List Int} {i : Nat} {d : Int} (h : i < l.length) : (l.set i d).getD i 0 = d := by
  rw [List.getD_eq_getElem?_getD, List.getElem?_set_self h]; rfl
theorem val_zeros (B : Int) (n : Nat) : val B (zeros n) = 0 := val_replicate B n
theorem getD_zeros (n i : Nat) : (zeros n).getD i 0 = 0 := by
  rw [List.getD_eq_getElem?_getD, List.getElem?_replicate]
  split <;> rfl
namespace Norm
theorem loop (neg : Bool) (l : List Int) (hl : l.length ≤ 100000) :
    ∃ e S1, Ends T noOrc L0 D0 (st0 neg l l.length) e S1 ∧ (e = .exit 0 ∧ ∃ k : Nat, S1 = st0 neg l k ∧ k ≤ l.length ∧ l.take k = strip l) := by
  refine loop_inv1 (fun (i : Nat) => st0 neg l i) (fun i => i ≤ l.length ∧ strip (l.take i) = strip l) (fun i => i)
    (fun e S1 => e = .exit 0 ∧ ∃ k : Nat, S1 = st0 neg l k ∧ k ≤ l.length ∧ l.take k = strip l) isL0 ?_ l.length ?_
  · intro i ⟨h1, h2⟩
    refine ⟨noTab, noTab_all, ?_⟩
    rw [round0]
    cases i with
    | zero =>
      simp only [lands_bif, lands_some, lands_none, Turns1, Turns2, Turns3, Turns4, Turns5, Turns6, Turns7, Turns8, eq_bif, Option.some.injEq, reduceCtorEq, cond_true, cond_false, Bool.eq_false_iff, ne_eq, inB_iff, decide_eq_true_eq, Bool.and_eq_true, Bool.or_eq_true, Bool.not_eq_true', beq_iff_eq, bne_iff_ne, true_and, and_true, true_implies, implies_true, not_true_eq_false, not_false_eq_true, false_implies, few_iff]
      refine ⟨fun h => by omega, fun _ => ⟨0, rfl, h1, ?_⟩⟩
      rw [← h2]; rfl
    | succ i =>
      simp only [lands_bif, lands_some, lands_none, Turns1, Turns2, Turns3, Turns4, Turns5, Turns6, Turns7, Turns8, eq_bif, Option.some.injEq, reduceCtorEq, cond_true, cond_false, Bool.eq_false_iff, ne_eq, inB_iff, decide_eq_true_eq, Bool.and_eq_true, Bool.or_eq_true, Bool.not_eq_true', beq_iff_eq, bne_iff_ne, true_and, and_true, true_implies, implies_true, not_true_eq_false, not_false_eq_true, false_implies, few_iff, wi_pred (show i < 4611686018427387904 by omega)]
      simp only [rd_toNat, Int.toNat_natCast]
      repeat' (first | apply And.intro | intro _)
      all_goals try omega
      · rename_i h3
        exact ⟨i, rfl, ⟨by omega, by rw [← h2, take_succ_getD l (by omega), h3, strip_zero]⟩, by omega⟩
      · rename_i h3
        refine ⟨i + 1, rfl, h1, ?_⟩
        rw [← h2, strip_of_last]
        rw [take_succ_getD l (by omega), List.getLast?_append]
        simpa using h3
  · exact ⟨Nat.le_refl _, by rw [List.take_length]⟩
end Norm
theorem R_num {s : Bool} {l : List Int} (h : okB 4294967296 l = true) : R (num 4294967296 s l) = .agg [.bool (s && !(strip l).isEmpty), .ints .u32 (strip l)] := by
  unfold R
  rw [lb_num W_two h, sg_num W_two h]
theorem meets_norm : Meets Tryd.prog 13 ansNorm := by
  refine meets_fn noOrc_ok Tryd.f13 Tryd.func13 (by kernel_rfl) (fun args r h => ?_)
  unfold ansNorm at h
  split at h
  · rename_i s l
    simp only [Option.some.injEq, Prod.mk.injEq, Bool.and_eq_true, few_iff] at h
    obtain ⟨⟨hl, ol⟩, rfl⟩ := h
    obtain ⟨e1, S1, hE1, rfl, k, rfl, hk, hs⟩ := Norm.loop s l hl
    refine ⟨rfl, _, tabOf_all _, (Norm.rest s l k).trans ?_⟩
    rw [R_num ol, ← hs]
    simp only [cdec_true hE1, cond_true, Int.toNat_natCast, zeros, List.length_replicate, List.drop_replicate]
    cases k with
    | zero => simp
    | succ k =>
      have hne : (l.take (k + 1)).isEmpty = false := by
        rw [List.isEmpty_eq_false_iff]
        intro h0
        have := congrArg List.length h0
        rw [List.length_take, Nat.min_eq_left hk, List.length_nil] at this
        omega
      have e1 : (((k + 1 : Nat) : Int) == 0) = false := by rw [beq_eq_false_iff_ne]; omega
      have e2 : (decide (0 ≤ ((k + 1 : Nat) : Int)) && decide (((k + 1 : Nat) : Int) ≤ ((k + 1 : Nat) : Int)) && decide ((k + 1) * 4 ≤ 281474976710656)) = true := by
        rw [Bool.and_eq_true, Bool.and_eq_true, decide_eq_true_eq, decide_eq_true_eq, decide_eq_true_eq]
        omega
      rw [hne, e1, e2, show k + 1 - l.length = 0 by omega]
      simp
  · cases h
namespace CmpMag
theorem at_lt {a b : List Int} {i : Nat} (ha : okB 4294967296 a = true) (hb : okB 4294967296 b = true) (hd : a.drop (i + 1) = b.drop (i + 1)) (hai : i < a.length) (hbi : i < b.length) (h : a.getD i 0 < b.getD i 0) : val 4294967296 a < val 4294967296 b := by
  have e1 : val 4294967296 a = val 4294967296 (a.take i) + 4294967296 ^ i * a.getD i 0 + 4294967296 ^ (i + 1) * val 4294967296 (a.drop (i + 1)) := by
    conv => lhs; rw [← List.take_append_drop (i + 1) a]
    rw [val_append, List.length_take, Nat.min_eq_left (by omega), val_take_succ]
  have e2 : val 4294967296 b = val 4294967296 (b.take i) + 4294967296 ^ i * b.getD i 0 + 4294967296 ^ (i + 1) * val 4294967296 (b.drop (i + 1)) := by
    conv => lhs; rw [← List.take_append_drop (i + 1) b]
    rw [val_append, List.length_take, Nat.min_eq_left (by omega), val_take_succ]
  rw [e1, e2, hd]
  have h1 := val_lt W_pos (okB_take ha i)
  rw [List.length_take, Nat.min_eq_left (by omega)] at h1
  have h2 := val_nonneg W_pos (okB_take hb i)
  have h3 : (4294967296 : Int) ^ i * (a.getD i 0 + 1) ≤ 4294967296 ^ i * b.getD i 0 := Int.mul_le_mul_of_nonneg_left (by omega) (Int.pow_nonneg (by decide))
  rw [Int.mul_add, Int.mul_one] at h3
  omega
def Post (a b : List Int) (e : Ex) (S1 : St) : Prop := (e = .exit 0 ∧ a = b ∧ ∃ x, S1 = st0 a b x) ∨ (e = .ret ∧ ∃ x c, S1 = st0x0 a b c x ∧ c = cmpZ (val 4294967296 a) (val 4294967296 b))
theorem loop (a b : List Int) (ha : okB 4294967296 a = true) (hb : okB 4294967296 b = true) (hab : a.length = b.length) (hl : a.length ≤ 100000) :
    ∃ e S1, Ends T noOrc L0 D0 (st0 a b ((a.length : Int) - 1)) e S1 ∧ Post a b e S1 := by
  refine loop_inv1 (fun (i : Nat) => st0 a b ((i : Int) - 1)) (fun i => i ≤ a.length ∧ a.drop i = b.drop i) (fun i => i) (Post a b) isL0 ?_ a.length ?_
  · intro i ⟨h1, h2⟩
    refine ⟨noTab, noTab_all, ?_⟩
    rw [round0]
    cases i with
    | zero =>
      simp only [lands_bif, lands_some, lands_none, Turns1, Turns2, Turns3, Turns4, Turns5, Turns6, Turns7, Turns8, eq_bif, Option.some.injEq, reduceCtorEq, cond_true, cond_false, Bool.eq_false_iff, ne_eq, inB_iff, decide_eq_true_eq, Bool.and_eq_true, Bool.or_eq_true, Bool.not_eq_true', beq_iff_eq, bne_iff_ne, true_and, and_true, true_implies, implies_true, not_true_eq_false, not_false_eq_true, false_implies, few_iff]
      refine ⟨fun h => by omega, fun _ => .inl ⟨rfl, by simpa using h2, _, rfl⟩⟩
    | succ i =>
      have e0 : (((i + 1 : Nat) : Int) - 1) = (i : Int) := by omega
      rw [e0]
      simp only [lands_bif, lands_some, lands_none, Turns1, Turns2, Turns3, Turns4, Turns5, Turns6, Turns7, Turns8, eq_bif, Option.some.injEq, reduceCtorEq, cond_true, cond_false, Bool.eq_false_iff, ne_eq, inB_iff, decide_eq_true_eq, Bool.and_eq_true, Bool.or_eq_true, Bool.not_eq_true', beq_iff_eq, bne_iff_ne, true_and, and_true, true_implies, implies_true, not_true_eq_false, not_false_eq_true, false_implies, few_iff]
      simp only [rd_toNat, Int.toNat_natCast]
      repeat' (first | apply And.intro | intro _)
      all_goals try omega
      · rename_i h3
        have := at_lt ha hb h2 (by omega) (by omega) h3
        exact .inr ⟨rfl, _, _, rfl, by unfold cmpZ; rw [if_pos this]⟩
      · rename_i h3
        have := at_lt hb ha h2.symm (by omega) (by omega) h3
        exact .inr ⟨rfl, _, _, rfl, by unfold cmpZ; rw [if_neg (by omega), if_pos this]⟩
      · rename_i h3 _ _ h4
        refine ⟨i, by rw [w64 (by omega) (by omega)], ⟨by omega, ?_⟩, by omega⟩
        have e3 : a.getD i 0 = b.getD i 0 := by omega
        rw [List.drop_eq_getElem_cons (by omega), List.drop_eq_getElem_cons (by omega : i < b.length), h2]
        rw [getD_at (by omega), getD_at (by omega)] at e3
        rw [e3]
  · exact ⟨Nat.le_refl _, by rw [List.drop_length, hab, List.drop_length]⟩
end CmpMag
theorem meets_cmpMag : Meets Tryd.prog 28 ansCmpMag := by
  refine meets_fn noOrc_ok Tryd.f28 Tryd.func28 (by kernel_rfl) (fun args r h => ?_)
  unfold ansCmpMag at h
  split at h
  · rename_i a b
    simp only [Option.some.injEq, Prod.mk.injEq, Bool.and_eq_true] at h
    obtain ⟨⟨ha, hb⟩, rfl⟩ := h
    have oa := cl_ok W_two ha
    have ob := cl_ok W_two hb
    have la := (cl_iff.1 ha).1
    have lb := (cl_iff.1 hb).1
    have key : (a.length : Int) ≠ b.length → cmpZ (val 4294967296 a) (val 4294967296 b) = if a.length < b.length then -1 else 1 := by
      intro h
      unfold cmpZ
      by_cases hlt : a.length < b.length
      · have := val_lt_of_length W_two oa ob (cl_last hb) hlt
        rw [if_pos this, if_pos hlt]
      · have := val_lt_of_length W_two ob oa (cl_last ha) (by omega)
        rw [if_neg (by omega), if_pos this, if_neg hlt]
    refine ⟨rfl, ?_⟩
    have hw : IntKind.i64.wrap ((a.length : Int) - 1) = (a.length : Int) - 1 := w64 (by omega) (by omega)
    by_cases hab : a.length = b.length
    · obtain ⟨e1, S1, hE1, ⟨rfl, hab2, x, rfl⟩ | ⟨rfl, x, c, rfl, hc⟩⟩ := CmpMag.loop a b oa ob hab la
      · refine ⟨_, tabOf_all _, (CmpMag.rest_1 a b x).trans ?_⟩
        rw [hw]
        simp only [lands_bif, lands_some, lands_none, Turns1, Turns2, Turns3, Turns4, Turns5, Turns6, Turns7, Turns8, eq_bif, Option.some.injEq, reduceCtorEq, cond_true, cond_false, Bool.eq_false_iff, ne_eq, inB_iff, decide_eq_true_eq, Bool.and_eq_true, Bool.or_eq_true, Bool.not_eq_true', beq_iff_eq, bne_iff_ne, true_and, and_true, true_implies, implies_true, not_true_eq_false, not_false_eq_true, false_implies, few_iff, cdec_true hE1]
        refine ⟨fun h => absurd (by omega) h, fun _ => ?_⟩
        rw [hab2]; unfold cmpZ; simp
      · refine ⟨_, tabOf_all _, (CmpMag.rest_0 a b c x).trans ?_⟩
        rw [hw]
        simp only [lands_bif, lands_some, lands_none, Turns1, Turns2, Turns3, Turns4, Turns5, Turns6, Turns7, Turns8, eq_bif, Option.some.injEq, reduceCtorEq, cond_true, cond_false, Bool.eq_false_iff, ne_eq, inB_iff, decide_eq_true_eq, Bool.and_eq_true, Bool.or_eq_true, Bool.not_eq_true', beq_iff_eq, bne_iff_ne, true_and, and_true, true_implies, implies_true, not_true_eq_false, not_false_eq_true, false_implies, few_iff, cdec_true hE1]
        refine ⟨fun h => absurd (by omega) h, fun _ => ?_⟩
        rw [hc]
    · refine ⟨_, tabOf_all _, (CmpMag.rest_1 a b 0).trans ?_⟩
      simp only [lands_bif, lands_some, lands_none, Turns1, Turns2, Turns3, Turns4, Turns5, Turns6, Turns7, Turns8, eq_bif, Option.some.injEq, reduceCtorEq, cond_true, cond_false, Bool.eq_false_iff, ne_eq, inB_iff, decide_eq_true_eq, Bool.and_eq_true, Bool.or_eq_true, Bool.not_eq_true', beq_iff_eq, bne_iff_ne, true_and, and_true, true_implies, implies_true, not_true_eq_false, not_false_eq_true, false_implies, few_iff]
      refine ⟨fun h => ?_, fun h => absurd (by omega) h⟩
      rw [key h]
      refine ⟨fun h => by rw [if_pos (by omega)], fun h => by rw [if_neg (by omega)]⟩
  · cases h
end Go.Abs
end
section
/- What arith's functions over limbs answer: timesMag, scale, part. -/
namespace Go.Abs
open Go.Proofs Go.Dig
theorem mul_lt_W {x y : Int} (hx : 0 ≤ x ∧ x < 4294967296) (hy : 0 ≤ y ∧ y < 4294967296) : 0 ≤ x * y ∧ x * y ≤ 18446744065119617025 := by
  refine ⟨Int.mul_nonneg hx.1 hy.1, ?_⟩
  have h1 : x * y ≤ 4294967295 * 4294967295 := Int.mul_le_mul (by omega) (by omega) hy.1 (by omega)
  omega
end Go.Abs
end
section
/- What arith's functions over limbs answer: part, left, right; math/bits. -/
namespace Go.Abs
open Go.Proofs Go.Dig
theorem or_nat (w a b k : Nat) (hb : b < 2 ^ k) (ha : 2 ^ k * a + b < 2 ^ w) : (BitVec.ofInt w ((b : Nat) : Int) ||| BitVec.ofInt w ((2 ^ k * a : Nat) : Int)).toNat = b + 2 ^ k * a := by
  rw [BitVec.toNat_or, BitVec.ofInt_natCast, BitVec.ofInt_natCast, BitVec.toNat_ofNat, BitVec.toNat_ofNat, Nat.mod_eq_of_lt (by omega), Nat.mod_eq_of_lt (by omega), Nat.or_comm, ← Nat.two_pow_add_eq_or_of_lt hb, Nat.add_comm]
/-- 'or' of numbers that have no bit together: x below 2^k, y a multiple of it. -/
theorem or64 {x y : Int} (k : Nat) (hx : 0 ≤ x) (hk : x < 2 ^ k) (hy : ∃ a : Int, 0 ≤ a ∧ y = 2 ^ k * a) (hs : x + y < 18446744073709551616) : IntKind.u64.wrap ((BitVec.ofInt 64 x ||| BitVec.ofInt 64 y).toNat : Int) = x + y := by
  obtain ⟨a, ha, rfl⟩ := hy
  obtain ⟨x, rfl⟩ := Int.eq_ofNat_of_zero_le hx
  obtain ⟨a, rfl⟩ := Int.eq_ofNat_of_zero_le ha
  have e1 : ((2 : Int) ^ k * (a : Int)) = ((2 ^ k * a : Nat) : Int) := by rw [Int.natCast_mul, Int.natCast_pow]; rfl
  rw [e1] at hs ⊢
  have hk2 : x < 2 ^ k := by
    have : ((x : Nat) : Int) < ((2 ^ k : Nat) : Int) := by rw [Int.natCast_pow]; exact hk
    omega
  have := or_nat 64 a x k hk2 (by have : (2 : Nat) ^ 64 = 18446744073709551616 := rfl; omega)
  rw [this, wu64 (by omega) (by omega)]
  omega
theorem or64' {x y : Int} (k : Nat) (hx : 0 ≤ x) (hk : x < 2 ^ k) (hy : ∃ a : Int, 0 ≤ a ∧ y = 2 ^ k * a) (hs : x + y < 18446744073709551616) : IntKind.u64.wrap ((BitVec.ofInt 64 y ||| BitVec.ofInt 64 x).toNat : Int) = x + y := by
  rw [BitVec.or_comm]; exact or64 k hx hk hy hs
theorem or32 {x y : Int} (k : Nat) (hx : 0 ≤ x) (hk : x < 2 ^ k) (hy : ∃ a : Int, 0 ≤ a ∧ y = 2 ^ k * a) (hs : x + y < 4294967296) : IntKind.u32.wrap ((BitVec.ofInt 32 x ||| BitVec.ofInt 32 y).toNat : Int) = x + y := by
  obtain ⟨a, ha, rfl⟩ := hy
  obtain ⟨x, rfl⟩ := Int.eq_ofNat_of_zero_le hx
  obtain ⟨a, rfl⟩ := Int.eq_ofNat_of_zero_le ha
  have e1 : ((2 : Int) ^ k * (a : Int)) = ((2 ^ k * a : Nat) : Int) := by rw [Int.natCast_mul, Int.natCast_pow]; rfl
  rw [e1] at hs ⊢
  have hk2 : x < 2 ^ k := by
    have : ((x : Nat) : Int) < ((2 ^ k : Nat) : Int) := by rw [Int.natCast_pow]; exact hk
    omega
  have := or_nat 32 a x k hk2 (by have : (2 : Nat) ^ 32 = 4294967296 := rfl; omega)
  rw [this, wu32 (by omega) (by omega)]
  omega
theorem digN_cons {B : Int} (hB : 0 < B) (k : Nat) (q Q : Int) (h : 0 ≤ q ∧ q < B) : digN B (k + 1) (q + B * Q) = q :: digN B k Q := by
  simp only [digN]
  rw [Int.add_mul_emod_self_left, Int.emod_eq_of_lt h.1 h.2, Int.add_mul_ediv_left _ _ (by omega), Int.ediv_eq_zero_of_lt h.1 h.2, Int.zero_add]
theorem drop_set_cons {α : Type} (l : List α) {i : Nat} (d : α) (h : i < l.length) : (l.set i d).drop i = d :: l.drop (i + 1) := by
  rw [List.drop_eq_getElem_cons (by rw [List.length_set]; exact h), List.getElem_set_self, List.drop_set_of_lt (by omega)]
theorem drop_getD (l : List Int) {i : Nat} (h : i < l.length) : l.drop i = l.getD i 0 :: l.drop (i + 1) := by
  rw [List.drop_eq_getElem_cons h, getD_at h]
theorem okB_drop {B : Int} {l : List Int} (h : okB B l = true) (i : Nat) : okB B (l.drop i) = true := okB_iff.2 fun d hd => okB_iff.1 h d (List.mem_of_mem_drop hd)
namespace Part
def Inv (l : List Int) (m : Int) (i : Nat) (r : Int) (o : List Int) : Prop :=
  i ≤ l.length ∧ o.length = l.length ∧ r = val 4294967296 (l.drop i) % m ∧ o.drop i = digN 4294967296 (l.length - i) (val 4294967296 (l.drop i) / m)
theorem next {l o : List Int} {m r : Int} {i : Nat} (hm : 0 < m ∧ m < 4294967296) (ol : okB 4294967296 l = true) (h : Inv l m (i + 1) r o) (t : Int) (ht : t = r * 4294967296 + l.getD i 0) :
    0 ≤ t / m ∧ t / m < 4294967296 ∧ Inv l m i (t % m) (o.set i (t / m)) := by
  obtain ⟨h1, h2, h3, h4⟩ := h
  have hr0 : 0 ≤ r := by rw [h3]; exact Int.emod_nonneg _ (by omega)
  have hr1 : r < m := by rw [h3]; exact Int.emod_lt_of_pos _ hm.1
  have hx := getD_ok W_pos ol i
  have hv0 := val_nonneg W_pos (okB_drop ol (i + 1))
  have hq1 : t / m < 4294967296 := by
    refine Int.ediv_lt_of_lt_mul hm.1 ?_
    have : (r + 1) * 4294967296 ≤ m * 4294967296 := Int.mul_le_mul_of_nonneg_right (by omega) (by omega)
    rw [Int.mul_comm 4294967296 m]
    omega
  have hq0 : 0 ≤ t / m := Int.ediv_nonneg (by omega) (by omega)
  have e0 : val 4294967296 (l.drop i) = t + m * (4294967296 * (val 4294967296 (l.drop (i + 1)) / m)) := by
    rw [drop_getD l (by omega)]
    simp only [val]
    have h5 := Int.emod_add_mul_ediv (val 4294967296 (l.drop (i + 1))) m
    rw [← h3] at h5
    rw [ht, ← Int.mul_assoc, Int.mul_comm m 4294967296, Int.mul_assoc]
    omega
  refine ⟨hq0, hq1, by omega, by rw [List.length_set]; exact h2, ?_, ?_⟩
  · rw [e0, Int.add_mul_emod_self_left]
  · rw [drop_set_cons o _ (by omega), h4, e0, Int.add_mul_ediv_left _ _ (by omega), show l.length - i = (l.length - (i + 1)) + 1 by omega, digN_cons W_pos _ _ _ ⟨hq0, hq1⟩]
theorem loop (l : List Int) (m : Int) (ol : okB 4294967296 l = true) (hl : l.length ≤ 100000) (hm : 0 < m ∧ m < 4294967296) :
    ∃ e S1, Ends T noOrc L0 D0 (st0 l m 0 ((l.length : Int) - 1) (zeros l.length)) e S1 ∧ (e = .exit 0 ∧ ∃ c x o, S1 = st0 l m c x o ∧ Inv l m 0 c o) := by
  refine loop_inv3 (fun c (i : Nat) o => st0 l m c ((i : Int) - 1) o) (fun c i o => Inv l m i c o) (fun c i o => i)
    (fun e S1 => e = .exit 0 ∧ ∃ c x o, S1 = st0 l m c x o ∧ Inv l m 0 c o) isL0 ?_ 0 l.length (zeros l.length) ?_
  · intro c i o h
    refine ⟨noTab, noTab_all, lands_of (round0 ..) ?_⟩
    cases i with
    | zero =>
      simp only [lands_bif, lands_some, lands_none, Turns1, Turns2, Turns3, Turns4, Turns5, Turns6, Turns7, Turns8, eq_bif, Option.some.injEq, reduceCtorEq, cond_true, cond_false, Bool.eq_false_iff, ne_eq, inB_iff, decide_eq_true_eq, Bool.and_eq_true, Bool.or_eq_true, Bool.not_eq_true', beq_iff_eq, bne_iff_ne, true_and, and_true, true_implies, implies_true, not_true_eq_false, not_false_eq_true, false_implies, few_iff]
      exact ⟨fun h => absurd h (by omega), fun _ => ⟨_, _, _, rfl, h⟩⟩
    | succ i =>
      have e0 : (((i + 1 : Nat) : Int) - 1) = (i : Int) := by omega
      rw [e0]
      obtain ⟨h1, h2, h3, h4⟩ := id h
      have hx := getD_ok W_pos ol i
      have hr0 : 0 ≤ c := by rw [h3]; exact Int.emod_nonneg _ (by omega)
      have hr1 : c < m := by rw [h3]; exact Int.emod_lt_of_pos _ hm.1
      have ew : IntKind.u64.wrap (c * 2 ^ 32) = 2 ^ 32 * c := by rw [wu64 (by omega) (by omega), Int.mul_comm]
      have eo : IntKind.u64.wrap ((BitVec.ofInt 64 (IntKind.u64.wrap (c * 2 ^ 32)) ||| BitVec.ofInt 64 (IntKind.u64.wrap (rd l (i : Int)))).toNat : Int) = c * 4294967296 + l.getD i 0 := by
        rw [ew, rd_toNat, Int.toNat_natCast, wu64 hx.1 (by omega), or64' 32 hx.1 (by omega) ⟨c, hr0, rfl⟩ (by omega)]
        omega
      obtain ⟨n1, n2, n3⟩ := next hm ol h _ rfl
      rw [eo, wu64 (by omega) (by omega : m ≤ 18446744073709551615)]
      rw [Int.tdiv_eq_ediv_of_nonneg (by omega), Int.tmod_eq_emod_of_nonneg (by omega)]
      rw [wu64 n1 (by omega), wu32 n1 (by omega)]
      simp only [lands_bif, lands_some, lands_none, Turns1, Turns2, Turns3, Turns4, Turns5, Turns6, Turns7, Turns8, eq_bif, Option.some.injEq, reduceCtorEq, cond_true, cond_false, Bool.eq_false_iff, ne_eq, inB_iff, decide_eq_true_eq, Bool.and_eq_true, Bool.or_eq_true, Bool.not_eq_true', beq_iff_eq, bne_iff_ne, true_and, and_true, true_implies, implies_true, not_true_eq_false, not_false_eq_true, false_implies, few_iff]
      simp only [Int.toNat_natCast]
      repeat' (first | apply And.intro | intro _)
      all_goals try omega
      · exact ⟨_, i, _, by rw [w64 (by omega) (by omega)], n3, by omega⟩
  · refine ⟨Nat.le_refl _, by simp, ?_, ?_⟩
    · rw [List.drop_length]; simp [val]
    · rw [List.drop_length, List.drop_of_length_le (by simp), Nat.sub_self]; rfl
theorem loop2 (l : List Int) (m x2 x3 : Int) (o : List Int) (hl : o.length ≤ 100000) :
    ∃ e S1, Ends T noOrc L1 D1 (st1 l m x2 x3 o.length o) e S1 ∧ (e = .exit 2 ∧ ∃ k : Nat, S1 = st1 l m x2 x3 k o ∧ k ≤ o.length ∧ o.take k = strip o) := by
  refine loop_inv1 (fun (i : Nat) => st1 l m x2 x3 i o) (fun i => i ≤ o.length ∧ strip (o.take i) = strip o) (fun i => i)
    (fun e S1 => e = .exit 2 ∧ ∃ k : Nat, S1 = st1 l m x2 x3 k o ∧ k ≤ o.length ∧ o.take k = strip o) isL1 ?_ o.length ?_
  · intro i ⟨h1, h2⟩
    refine ⟨noTab, noTab_all, lands_of (round1 ..) ?_⟩
    cases i with
    | zero =>
      simp only [lands_bif, lands_some, lands_none, Turns1, Turns2, Turns3, Turns4, Turns5, Turns6, Turns7, Turns8, eq_bif, Option.some.injEq, reduceCtorEq, cond_true, cond_false, Bool.eq_false_iff, ne_eq, inB_iff, decide_eq_true_eq, Bool.and_eq_true, Bool.or_eq_true, Bool.not_eq_true', beq_iff_eq, bne_iff_ne, true_and, and_true, true_implies, implies_true, not_true_eq_false, not_false_eq_true, false_implies, few_iff]
      refine ⟨fun h => by omega, fun _ => ⟨0, rfl, h1, ?_⟩⟩
      rw [← h2]; rfl
    | succ i =>
      simp only [lands_bif, lands_some, lands_none, Turns1, Turns2, Turns3, Turns4, Turns5, Turns6, Turns7, Turns8, eq_bif, Option.some.injEq, reduceCtorEq, cond_true, cond_false, Bool.eq_false_iff, ne_eq, inB_iff, decide_eq_true_eq, Bool.and_eq_true, Bool.or_eq_true, Bool.not_eq_true', beq_iff_eq, bne_iff_ne, true_and, and_true, true_implies, implies_true, not_true_eq_false, not_false_eq_true, false_implies, few_iff, wi_pred (show i < 4611686018427387904 by omega)]
      simp only [rd_toNat, Int.toNat_natCast]
      repeat' (first | apply And.intro | intro _)
      all_goals try omega
      · rename_i h3
        exact ⟨i, rfl, ⟨by omega, by rw [← h2, take_succ_getD o (by omega), h3, strip_zero]⟩, by omega⟩
      · rename_i h3
        refine ⟨i + 1, rfl, h1, ?_⟩
        rw [← h2, strip_of_last]
        rw [take_succ_getD o (by omega), List.getLast?_append]
        simpa using h3
  · exact ⟨Nat.le_refl _, by rw [List.take_length]⟩
end Part
theorem meets_part : Meets Tryd.prog 14 ansPart := by
  refine meets_fn noOrc_ok Tryd.f14 Tryd.func14 (by kernel_rfl) (fun args r h => ?_)
  unfold ansPart at h
  split at h
  · rename_i l m
    simp only [Option.some.injEq, Prod.mk.injEq, Bool.and_eq_true, few_iff, decide_eq_true_eq] at h
    obtain ⟨⟨⟨⟨hl, ol⟩, m1⟩, m2⟩, rfl⟩ := h
    obtain ⟨e1, S1, hE1, rfl, c, x, o, rfl, k1, k2, k3, k4⟩ := Part.loop l m ol hl ⟨m1, m2⟩
    obtain ⟨e2, S2, hE2, rfl, k, rfl, j1, j2⟩ := Part.loop2 l m c x o (by omega)
    refine ⟨rfl, _, tabOf_all _, (Part.rest l m k o c x).trans ?_⟩
    rw [List.drop_zero] at k3 k4
    have hc0 : 0 ≤ c := by rw [k3]; exact Int.emod_nonneg _ (by omega)
    have hc1 : c < m := by rw [k3]; exact Int.emod_lt_of_pos _ m1
    have hv0 := val_nonneg W_pos ol
    have hv1 := val_lt W_pos ol
    have hq0 : 0 ≤ val 4294967296 l / m := Int.ediv_nonneg hv0 (by omega)
    have hq1 : val 4294967296 l / m < 4294967296 ^ l.length := Int.lt_of_le_of_lt (Int.ediv_le_self _ hv0) hv1
    simp only [lands_bif, lands_some, lands_none, Turns1, Turns2, Turns3, Turns4, Turns5, Turns6, Turns7, Turns8, eq_bif, Option.some.injEq, reduceCtorEq, cond_true, cond_false, Bool.eq_false_iff, ne_eq, inB_iff, decide_eq_true_eq, Bool.and_eq_true, Bool.or_eq_true, Bool.not_eq_true', beq_iff_eq, bne_iff_ne, true_and, and_true, true_implies, implies_true, not_true_eq_false, not_false_eq_true, false_implies, few_iff, w64 (show -9223372036854775808 ≤ (l.length : Int) - 1 by omega) (by omega), Int.toNat_natCast, cdec_true hE1, cdec_true hE2]
    have et : o.take k = limbs 4294967296 (val 4294967296 l / m) := by rw [j2, k4, Nat.sub_zero, List.drop_zero, limbs_of W_two hq0 hq1]
    rw [et, wu32 hc0 (by omega), k3]
    repeat' (first | apply And.intro | intro _)
    all_goals first | omega | trivial
  · cases h
theorem two_pow_31 {s : Nat} (h : s ≤ 31) : (1 : Int) ≤ 2 ^ s ∧ (2 : Int) ^ s ≤ 2147483648 := by
  have h1 : (2 : Int) ^ s * 2 ^ (31 - s) = 2147483648 := by rw [← Int.pow_add, show s + (31 - s) = 31 by omega]; rfl
  have h2 : (0 : Int) < 2 ^ s := Int.pow_pos (by decide)
  have h3 : (0 : Int) < 2 ^ (31 - s) := Int.pow_pos (by decide)
  refine ⟨by omega, ?_⟩
  have : (2 : Int) ^ s * 1 ≤ 2 ^ s * 2 ^ (31 - s) := Int.mul_le_mul_of_nonneg_left (by omega) (by omega)
  omega
theorem two_pow_32 {s : Nat} (h : s ≤ 31) : (2 : Int) ^ s * 2 ^ (32 - s) = 4294967296 := by
  rw [← Int.pow_add, show s + (32 - s) = 32 by omega]; rfl
namespace Left
def Inv (l : List Int) (s : Nat) (i : Nat) (o : List Int) : Prop :=
  i ≤ l.length ∧ o.length = l.length + 1 ∧ okB 4294967296 o = true ∧ val 4294967296 o = val 4294967296 (l.take i) * 2 ^ s ∧ o.getD i 0 < 2 ^ s ∧ ∀ j, i < j → o.getD j 0 = 0
theorem loop (l : List Int) (s : Nat) (ol : okB 4294967296 l = true) (hl : l.length ≤ 100000) (hs : s ≤ 31) :
    ∃ e S1, Ends T noOrc L0 D0 (st0 l s 0 (zeros (l.length + 1))) e S1 ∧ (e = .exit 0 ∧ ∃ x o, S1 = st0 l s x o ∧ Inv l s l.length o) := by
  obtain ⟨p1, p2⟩ := two_pow_31 hs
  refine loop_inv2 (fun (i : Nat) o => st0 l s i o) (fun i o => Inv l s i o) (fun i o => l.length - i)
    (fun e S1 => e = .exit 0 ∧ ∃ x o, S1 = st0 l s x o ∧ Inv l s l.length o) isL0 ?_ 0 (zeros (l.length + 1)) ?_
  · intro i o h
    obtain ⟨h1, h2, h3, h4, h5, h6⟩ := id h
    refine ⟨noTab, noTab_all, lands_of (round0 ..) ?_⟩
    have hx := getD_ok W_pos ol i
    have ho := getD_ok W_pos h3 i
    have em : (2 : Int) ^ (min ((s : Int)).toNat 64) = 2 ^ s := by rw [Int.toNat_natCast, Nat.min_eq_left (by omega)]
    have hm : l.getD i 0 * 2 ^ s ≤ 4294967295 * 2147483648 := Int.mul_le_mul (by omega) p2 (by omega) (by omega)
    have hm0 : 0 ≤ l.getD i 0 * 2 ^ s := Int.mul_nonneg hx.1 (by omega)
    have ew : IntKind.u64.wrap (IntKind.u64.wrap (rd l (i : Int)) * 2 ^ (min ((s : Int)).toNat 64)) = l.getD i 0 * 2 ^ s := by
      rw [em, rd_toNat, Int.toNat_natCast, wu64 hx.1 (by omega), wu64 hm0 (by omega)]
    rw [ew]
    obtain ⟨lo, hlo⟩ : ∃ lo, l.getD i 0 % 2 ^ (32 - s) = lo := ⟨_, rfl⟩
    obtain ⟨hi, hhi⟩ : ∃ hi, l.getD i 0 / 2 ^ (32 - s) = hi := ⟨_, rfl⟩
    have hQ : (0 : Int) < 2 ^ (32 - s) := Int.pow_pos (by decide)
    have h7 := two_pow_32 hs
    have elo : l.getD i 0 * 2 ^ s % 4294967296 = 2 ^ s * lo := by rw [← h7, Int.mul_comm, Int.mul_emod_mul_of_pos _ _ (by omega), hlo]
    have ehi : l.getD i 0 * 2 ^ s / 4294967296 = hi := by rw [← h7, Int.mul_comm, Int.mul_ediv_mul_of_pos _ _ (by omega), hhi]
    have hlo0 : 0 ≤ lo := by rw [← hlo]; exact Int.emod_nonneg _ (by omega)
    have hlo1 : lo < 2 ^ (32 - s) := by rw [← hlo]; exact Int.emod_lt_of_pos _ hQ
    have hhi0 : 0 ≤ hi := by rw [← hhi]; exact Int.ediv_nonneg hx.1 (by omega)
    have hhi1 : hi < 2 ^ s := by rw [← hhi]; exact Int.ediv_lt_of_lt_mul hQ (by rw [h7]; exact hx.2)
    have hlo2 : 2 ^ s * lo ≤ 4294967296 - 2 ^ s := by
      have : (2 : Int) ^ s * (lo + 1) ≤ 2 ^ s * 2 ^ (32 - s) := Int.mul_le_mul_of_nonneg_left (by omega) (by omega)
      rw [h7, Int.mul_add, Int.mul_one] at this
      omega
    have hlo3 : 0 ≤ 2 ^ s * lo := Int.mul_nonneg (by omega) hlo0
    have hsum : l.getD i 0 * 2 ^ s = 2 ^ s * lo + 4294967296 * hi := by
      have := Int.emod_add_mul_ediv (l.getD i 0 * 2 ^ s) 4294967296
      rw [elo, ehi] at this
      omega
    rw [fdiv32, ehi, wu32_mod (l.getD i 0 * 2 ^ s), elo]
    simp only [rd_toNat, Int.toNat_natCast, wi_succ (show i < 4611686018427387904 by omega)]
    rw [getD_set_ne (show i ≠ i + 1 by omega), h6 (i + 1) (by omega), wu32 hhi0 (by omega)]
    rw [or32 s ho.1 h5 ⟨lo, hlo0, rfl⟩ (by omega), or32 (x := 0) (y := hi) 0 (by omega) (by decide) ⟨hi, hhi0, by simp⟩ (by omega), Int.zero_add]
    simp only [lands_bif, lands_some, lands_none, Turns1, Turns2, Turns3, Turns4, Turns5, Turns6, Turns7, Turns8, eq_bif, Option.some.injEq, reduceCtorEq, cond_true, cond_false, Bool.eq_false_iff, ne_eq, inB_iff, decide_eq_true_eq, Bool.and_eq_true, Bool.or_eq_true, Bool.not_eq_true', beq_iff_eq, bne_iff_ne, true_and, and_true, true_implies, implies_true, not_true_eq_false, not_false_eq_true, false_implies, few_iff, List.length_set]
    repeat' (first | apply And.intro | intro _)
    all_goals try omega
    · refine ⟨i + 1, _, rfl, ⟨by omega, by simp [h2], okB_set (okB_set h3 (by omega)) (by omega), ?_, ?_, fun j hj => ?_⟩, by omega⟩
      · rw [val_set _ _ _ _ (by rw [List.length_set]; omega), val_set _ _ _ _ (by omega), getD_set_ne (by omega), h6 (i + 1) (by omega), h4, val_take_succ, Int.add_mul, Int.pow_succ, Int.mul_assoc (4294967296 ^ i) (l.getD i 0), hsum]
        generalize (4294967296 : Int) ^ i = P
        grind
      · rw [getD_set_self (by rw [List.length_set]; omega)]
        exact hhi1
      · rw [getD_set_ne (by omega), getD_set_ne (by omega), h6 j (by omega)]
    · obtain rfl : i = l.length := by omega
      exact ⟨_, _, rfl, h⟩
  · refine ⟨by omega, by simp, okB_zeros W_pos _, by rw [val_zeros]; simp [val], ?_, fun j _ => getD_zeros _ _⟩
    rw [getD_zeros]; omega
end Left
theorem meets_left : Meets Tryd.prog 30 ansLeft := by
  refine meets_fn noOrc_ok Tryd.f30 Tryd.func30 (by kernel_rfl) (fun args r h => ?_)
  unfold ansLeft at h
  split at h
  · rename_i l sh
    simp only [Option.some.injEq, Prod.mk.injEq, Bool.and_eq_true, few_iff, decide_eq_true_eq] at h
    obtain ⟨⟨⟨⟨hl, ol⟩, s1⟩, s2⟩, rfl⟩ := h
    obtain ⟨s, rfl⟩ := Int.eq_ofNat_of_zero_le s1
    obtain ⟨e1, S1, hE1, rfl, x, o, rfl, k1, k2, k3, k4, _⟩ := Left.loop l s ol hl (by omega)
    refine ⟨rfl, _, tabOf_all _, (Left.rest l s o x).trans ?_⟩
    simp only [lands_bif, lands_some, lands_none, Turns1, Turns2, Turns3, Turns4, Turns5, Turns6, Turns7, Turns8, eq_bif, Option.some.injEq, reduceCtorEq, cond_true, cond_false, Bool.eq_false_iff, ne_eq, inB_iff, decide_eq_true_eq, Bool.and_eq_true, Bool.or_eq_true, Bool.not_eq_true', beq_iff_eq, bne_iff_ne, true_and, and_true, true_implies, implies_true, not_true_eq_false, not_false_eq_true, false_implies, few_iff, wi_succ (show l.length < 4611686018427387904 by omega), Int.toNat_natCast, cdec_true hE1]
    rw [show o = leftL l s from dig_eq W_pos k3 k2 (by rw [k4, List.take_of_length_le (Nat.le_refl _), Int.toNat_natCast])]
    repeat' (first | apply And.intro | intro _)
    all_goals first | omega | trivial
  · cases h
theorem digN_succ {B : Int} (hB : 0 < B) (i : Nat) (v : Int) : digN B (i + 1) v = digN B i v ++ [v / B ^ i % B] := by
  rw [digN_add B hB i 1 v]; rfl
theorem val_div {B : Int} (hB : 0 < B) {l : List Int} (h : okB B l = true) {i : Nat} (hi : i ≤ l.length) : val B l / B ^ i = val B (l.drop i) := by
  have e : val B l = val B (l.take i) + B ^ i * val B (l.drop i) := by
    conv => lhs; rw [← List.take_append_drop i l]
    rw [val_append, List.length_take, Nat.min_eq_left hi]
  have h1 := val_lt hB (okB_take h i)
  rw [List.length_take, Nat.min_eq_left hi] at h1
  have h2 := val_nonneg hB (okB_take h i)
  rw [e, Int.add_mul_ediv_left _ _ (by have h3 : 0 < B ^ i := Int.pow_pos hB; omega), Int.ediv_eq_zero_of_lt h2 h1, Int.zero_add]
namespace Right
theorem digit_at {l : List Int} {s i : Nat} (ol : okB 4294967296 l = true) (hs : s ≤ 31) (hi : i < l.length) : (l.getD i 0 + 4294967296 * l.getD (i + 1) 0) / 2 ^ s % 4294967296 = val 4294967296 l / 2 ^ s / 4294967296 ^ i % 4294967296 := by
  obtain ⟨p1, p2⟩ := two_pow_31 hs
  have e1 : val 4294967296 l / 2 ^ s / 4294967296 ^ i = val 4294967296 (l.drop i) / 2 ^ s := by
    rw [Int.ediv_ediv_of_nonneg (by omega), Int.mul_comm, ← Int.ediv_ediv_of_nonneg (Int.pow_nonneg (by decide)), val_div W_pos ol (by omega)]
  have e2 : val 4294967296 (l.drop i) = l.getD i 0 + 4294967296 * l.getD (i + 1) 0 + 2 ^ s * (4294967296 * (2 ^ (32 - s) * val 4294967296 (l.drop (i + 2)))) := by
    have h7 := two_pow_32 hs
    have e3 : val 4294967296 (l.drop (i + 1)) = l.getD (i + 1) 0 + 4294967296 * val 4294967296 (l.drop (i + 2)) := by
      by_cases h : i + 1 < l.length
      · rw [drop_getD l h]; rfl
      · rw [List.drop_of_length_le (by omega), List.drop_of_length_le (by omega), getD_none (by omega)]; simp [val]
    rw [drop_getD l hi]
    simp only [val]
    rw [e3]
    generalize val 4294967296 (l.drop (i + 2)) = V
    have : (2 : Int) ^ s * (4294967296 * (2 ^ (32 - s) * V)) = 4294967296 * (4294967296 * V) := by
      rw [← h7]; grind
    rw [this]
    omega
  rw [e1, e2, Int.add_mul_ediv_left _ _ (by omega), Int.add_mul_emod_self_left]
theorem loop (l : List Int) (s : Nat) (ol : okB 4294967296 l = true) (hl : l.length ≤ 100000) (hs : s ≤ 31) :
    ∃ e S1, Ends T noOrc L0 D0 (st0 l s 0 (zeros l.length)) e S1 ∧ (e = .exit 0 ∧ ∃ x o, S1 = st0 l s x o ∧ o.length = l.length ∧ o.take l.length = digN 4294967296 l.length (val 4294967296 l / 2 ^ s)) := by
  obtain ⟨p1, p2⟩ := two_pow_31 hs
  refine loop_inv2 (fun (i : Nat) o => st0 l s i o) (fun i o => i ≤ l.length ∧ o.length = l.length ∧ o.take i = digN 4294967296 i (val 4294967296 l / 2 ^ s)) (fun i o => l.length - i)
    (fun e S1 => e = .exit 0 ∧ ∃ x o, S1 = st0 l s x o ∧ o.length = l.length ∧ o.take l.length = digN 4294967296 l.length (val 4294967296 l / 2 ^ s)) isL0 ?_ 0 (zeros l.length) ?_
  · intro i o ⟨h1, h2, h3⟩
    refine ⟨noTab, noTab_all, lands_of (round0 ..) ?_⟩
    have hx := getD_ok W_pos ol i
    have hy := getD_ok W_pos ol (i + 1)
    have em : (2 : Int) ^ (min ((s : Int)).toNat 64) = 2 ^ s := by rw [Int.toNat_natCast, Nat.min_eq_left (by omega)]
    have key : i < l.length → ∀ d, d = (l.getD i 0 + 4294967296 * l.getD (i + 1) 0) / 2 ^ s % 4294967296 → (o.set i d).take (i + 1) = digN 4294967296 (i + 1) (val 4294967296 l / 2 ^ s) := by
      intro hi d hd
      rw [take_set_succ o d (by omega), h3, digN_succ W_pos, hd, digit_at ol hs hi]
    have eo : IntKind.u64.wrap ((BitVec.ofInt 64 (IntKind.u64.wrap (rd l (i : Int))) ||| BitVec.ofInt 64 (IntKind.u64.wrap (IntKind.u64.wrap (rd l ((i + 1 : Nat) : Int)) * 2 ^ 32))).toNat : Int) = l.getD i 0 + 4294967296 * l.getD (i + 1) 0 := by
      rw [rd_toNat, rd_toNat, Int.toNat_natCast, Int.toNat_natCast, wu64 hx.1 (by omega), wu64 hy.1 (by omega), wu64 (n := l.getD (i + 1) 0 * 2 ^ 32) (by omega) (by omega), or64 32 hx.1 (by omega) ⟨l.getD (i + 1) 0, hy.1, by rw [Int.mul_comm]⟩ (by omega)]
      omega
    rw [em]
    simp only [lands_bif, lands_some, lands_none, Turns1, Turns2, Turns3, Turns4, Turns5, Turns6, Turns7, Turns8, eq_bif, Option.some.injEq, reduceCtorEq, cond_true, cond_false, Bool.eq_false_iff, ne_eq, inB_iff, decide_eq_true_eq, Bool.and_eq_true, Bool.or_eq_true, Bool.not_eq_true', beq_iff_eq, bne_iff_ne, true_and, and_true, true_implies, implies_true, not_true_eq_false, not_false_eq_true, false_implies, few_iff, wi_succ (show i < 4611686018427387904 by omega), eo, Int.fdiv_eq_ediv_of_nonneg _ (show (0 : Int) ≤ 2 ^ s by omega), wu32_mod]
    simp only [Int.toNat_natCast]
    repeat' (first | apply And.intro | intro _)
    all_goals try omega
    · exact ⟨i + 1, _, rfl, ⟨by omega, by rw [List.length_set]; exact h2, key (by omega) _ rfl⟩, by omega⟩
    · refine ⟨i + 1, _, rfl, ⟨by omega, by rw [List.length_set]; exact h2, key (by omega) _ ?_⟩, by omega⟩
      rw [getD_none (show l.length ≤ i + 1 by omega), rd_toNat, Int.toNat_natCast, wu64 hx.1 (by omega), Int.mul_zero, Int.add_zero]
    · obtain rfl : i = l.length := by omega
      exact ⟨_, _, rfl, h2, h3⟩
  · exact ⟨by omega, by simp, rfl⟩
end Right
theorem meets_right : Meets Tryd.prog 32 ansRight := by
  refine meets_fn noOrc_ok Tryd.f32 Tryd.func32 (by kernel_rfl) (fun args r h => ?_)
  unfold ansRight at h
  split at h
  · rename_i l sh
    simp only [Option.some.injEq, Prod.mk.injEq, Bool.and_eq_true, few_iff, decide_eq_true_eq] at h
    obtain ⟨⟨⟨⟨hl, ol⟩, s1⟩, s2⟩, rfl⟩ := h
    obtain ⟨s, rfl⟩ := Int.eq_ofNat_of_zero_le s1
    obtain ⟨e1, S1, hE1, rfl, x, o, rfl, k1, k2⟩ := Right.loop l s ol hl (by omega)
    refine ⟨rfl, _, tabOf_all _, (Right.rest l s o x).trans ?_⟩
    simp only [lands_bif, lands_some, lands_none, Turns1, Turns2, Turns3, Turns4, Turns5, Turns6, Turns7, Turns8, eq_bif, Option.some.injEq, reduceCtorEq, cond_true, cond_false, Bool.eq_false_iff, ne_eq, inB_iff, decide_eq_true_eq, Bool.and_eq_true, Bool.or_eq_true, Bool.not_eq_true', beq_iff_eq, bne_iff_ne, true_and, and_true, true_implies, implies_true, not_true_eq_false, not_false_eq_true, false_implies, few_iff, Int.toNat_natCast, cdec_true hE1]
    rw [List.take_of_length_le (by omega)] at k2
    rw [show o = rightL l s by rw [k2, rightL, Int.toNat_natCast]]
    repeat' (first | apply And.intro | intro _)
    all_goals first | omega | trivial
  · cases h
end Go.Abs
end
section
/- One digit of a quotient: plain mathematics. -/
namespace Go.Abs
open Go.Dig
namespace KnuthD
/-- The guess is never less than the digit. -/
theorem ge_first {B P U V q v1 v2 Vl s2 top Ul : Int} (hP : 1 ≤ P) (hB : 0 < B) (hq : 0 ≤ q) (h : q * V ≤ U) (hV : V = Vl + P * (v2 + B * v1)) (hVl : 0 ≤ Vl) (hU : U = Ul + P * (s2 + B * top)) (hUl : Ul < P) : q * (v2 + B * v1) ≤ s2 + B * top := by
  refine Int.not_lt.1 (fun hlt => ?_)
  have h1 : q * V = q * Vl + P * (q * (v2 + B * v1)) := by rw [hV]; grind
  have h2 : 0 ≤ q * Vl := Int.mul_nonneg hq hVl
  have h3 : P * (s2 + B * top + 1) ≤ P * (q * (v2 + B * v1)) := Int.mul_le_mul_of_nonneg_left (by omega) (by omega)
  rw [Int.mul_add, Int.mul_one] at h3
  omega
theorem ge_init {B q v1 v2 s2 top : Int} (hB : 0 < B) (hq : 0 ≤ q) (hv2 : 0 ≤ v2) (hs2 : s2 < B) (h : q * (v2 + B * v1) ≤ s2 + B * top) : q * v1 ≤ top := by
  refine Int.not_lt.1 (fun hlt => ?_)
  have h1 : q * (v2 + B * v1) = q * v2 + B * (q * v1) := by grind
  have h2 : 0 ≤ q * v2 := Int.mul_nonneg hq hv2
  have h3 : B * (top + 1) ≤ B * (q * v1) := Int.mul_le_mul_of_nonneg_left (by omega) (by omega)
  rw [Int.mul_add, Int.mul_one] at h3
  omega
theorem ge_step {B q g r v1 v2 s2 top : Int} (hB : 0 < B) (hv1 : 0 < v1) (hv2 : 0 ≤ v2) (hg : g * v1 + r = top) (hgt : r * B + s2 < g * v2) (h : q * (v2 + B * v1) ≤ s2 + B * top) : q ≤ g - 1 := by
  refine Int.not_lt.1 (fun hlt => ?_)
  have h1 : g * (v2 + B * v1) ≤ q * (v2 + B * v1) := Int.mul_le_mul_of_nonneg_right (by omega) (by have := Int.mul_pos hB hv1; omega)
  have h2 : g * (v2 + B * v1) = g * v2 + B * (g * v1) := by grind
  have h3 : B * (g * v1) = B * top - r * B := by rw [← hg]; grind
  omega
/-- Where it breaks off. -/
theorem le_break {B P U V g r v1 v2 Vl s2 top Ul : Int} (hP : 1 ≤ P) (hB : 0 < B) (hg0 : 0 ≤ g) (hgB : g ≤ B) (hg : g * v1 + r = top) (hr : B ≤ r) (hV : V = Vl + P * (v2 + B * v1)) (hVl : Vl < P) (hv2 : v2 < B) (hU : U = Ul + P * (s2 + B * top)) (hUl : 0 ≤ Ul) (hs2 : 0 ≤ s2) : g * V ≤ U := by
  have h1 : P * v2 ≤ P * (B - 1) := Int.mul_le_mul_of_nonneg_left (by omega) (by omega)
  have h2 : V ≤ P * (B * (v1 + 1)) := by
    have : P * (B * (v1 + 1)) = P * (B * v1) + P * B := by grind
    rw [hV, Int.mul_add]
    rw [Int.mul_sub, Int.mul_one] at h1
    omega
  have h3 : g * V ≤ g * (P * (B * (v1 + 1))) := Int.mul_le_mul_of_nonneg_left h2 hg0
  have h4 : g * (P * (B * (v1 + 1))) = P * (B * (g * v1 + g)) := by grind
  have h5 : P * (B * (g * v1 + g)) ≤ P * (B * top) := Int.mul_le_mul_of_nonneg_left (Int.mul_le_mul_of_nonneg_left (by omega) (by omega)) (by omega)
  have h6 : 0 ≤ P * s2 := Int.mul_nonneg (by omega) hs2
  rw [Int.mul_add] at hU
  omega
/-- Where it ends of itself. -/
theorem le_exit {B P U V g r v1 v2 Vl s2 top Ul : Int} (hP : 1 ≤ P) (hB : 0 < B) (hg0 : 0 ≤ g) (hgB : g < B) (hg : g * v1 + r = top) (hle : g * v2 ≤ r * B + s2) (hv1 : 1 ≤ v1) (hv2 : 0 ≤ v2) (hV : V = Vl + P * (v2 + B * v1)) (hVl0 : 0 ≤ Vl) (hVl : Vl < P) (hU : U = Ul + P * (s2 + B * top)) (hUl : 0 ≤ Ul) : g * V < U + V := by
  have h1 : g * (v2 + B * v1) ≤ s2 + B * top := by
    have e1 : g * (v2 + B * v1) = g * v2 + B * (g * v1) := by grind
    have e2 : B * (g * v1) = B * top - r * B := by rw [← hg]; grind
    omega
  have h2 : P * (g * (v2 + B * v1)) ≤ P * (s2 + B * top) := Int.mul_le_mul_of_nonneg_left h1 (by omega)
  have h3 : g * Vl ≤ B * P - P := by
    have : g * Vl ≤ (B - 1) * P := Int.mul_le_mul (by omega) (by omega) hVl0 (by omega)
    rw [Int.sub_mul, Int.one_mul] at this
    exact this
  have h4 : P * (B * 1) ≤ P * (B * v1) := Int.mul_le_mul_of_nonneg_left (Int.mul_le_mul_of_nonneg_left hv1 (by omega)) (by omega)
  have h5 : 0 ≤ P * v2 := Int.mul_nonneg (by omega) hv2
  have h6 : g * V = g * Vl + P * (g * (v2 + B * v1)) := by rw [hV]; grind
  have h7 : V = Vl + P * v2 + P * (B * v1) := by rw [hV]; grind
  rw [Int.mul_one, Int.mul_comm P B] at h4
  omega
end KnuthD
theorem seg_val (B : Int) (l : List Int) (j m : Nat) (h : j + m ≤ l.length) : val B l = val B (l.take j) + B ^ j * val B (seg l j m) + B ^ (j + m) * val B (l.drop (j + m)) := by
  have e : l = l.take j ++ (seg l j m ++ l.drop (j + m)) := by
    unfold seg
    rw [← List.drop_drop, List.take_append_drop, List.take_append_drop]
  conv => lhs; rw [e]
  rw [val_append, val_append, List.length_take, Nat.min_eq_left (by omega)]
  unfold seg
  rw [List.length_take, List.length_drop, Nat.min_eq_left (by omega), Int.mul_add, Int.pow_add, Int.mul_assoc]
  omega
theorem seg_length {l : List Int} {j m : Nat} (h : j + m ≤ l.length) : (seg l j m).length = m := by
  unfold seg; rw [List.length_take, List.length_drop]; omega
theorem okB_seg {B : Int} {l : List Int} (h : okB B l = true) (j m : Nat) : okB B (seg l j m) = true := okB_take (okB_drop h j) m
theorem seg_getD (l : List Int) {j m i : Nat} (h : i < m) : (seg l j m).getD i 0 = l.getD (j + i) 0 := by
  unfold seg
  rw [List.getD_eq_getElem?_getD, List.getElem?_take, if_pos h, List.getElem?_drop, List.getD_eq_getElem?_getD]
/-- The highest two and three digits. -/
theorem val_top2 (B : Int) (l : List Int) {n : Nat} (hl : l.length = n + 2) : val B l = val B (l.take n) + B ^ n * (l.getD n 0 + B * l.getD (n + 1) 0) := by
  have h1 : val B l = val B (l.take (n + 2)) := by rw [List.take_of_length_le (by omega)]
  rw [h1, val_take_succ, val_take_succ, Int.pow_succ, Int.mul_add, Int.mul_assoc]
  omega
theorem val_top3 (B : Int) (l : List Int) {n : Nat} (hl : l.length = n + 3) : val B l = val B (l.take n) + B ^ n * (l.getD n 0 + B * (l.getD (n + 2) 0 * B + l.getD (n + 1) 0)) := by
  have h1 : val B l = val B (l.take (n + 3)) := by rw [List.take_of_length_le (by omega)]
  rw [h1, val_take_succ, val_take_succ, val_take_succ, Int.pow_succ, Int.pow_succ]
  grind
end Go.Abs
end
section
/- What math/bits' functions answer. -/
namespace Go.Abs
open Go.Proofs Go.Dig
theorem meets_add32 : Meets Tryd.prog 38 ansAdd32 := by
  refine meets_fn noOrc_ok Tryd.f38 Tryd.func38 (by kernel_rfl) (fun args r h => ?_)
  unfold ansAdd32 at h
  split at h
  · rename_i x y b
    simp only [Option.some.injEq, Prod.mk.injEq, Bool.and_eq_true, decide_eq_true_eq] at h
    obtain ⟨⟨⟨⟨⟨⟨x1, x2⟩, y1⟩, y2⟩, b1⟩, b2⟩, rfl⟩ := h
    refine ⟨rfl, _, noTab_all, (Add32.rest x y b).trans ?_⟩
    rw [wu64 x1 (by omega), wu64 y1 (by omega), wu64 b1 (by omega), wu64 (n := x + y) (by omega) (by omega), wu64 (n := x + y + b) (by omega) (by omega), fdiv32, wu32_mod, wu32_mod]
    have : (x + y + b) / 4294967296 % 4294967296 = b2i (decide (4294967296 ≤ x + y + b)) := by
      unfold b2i
      by_cases h : 4294967296 ≤ x + y + b
      · rw [decide_eq_true h]; simp only [cond_true]; omega
      · rw [decide_eq_false h]; simp only [cond_false]; omega
    rw [this]
  · cases h
theorem ofInt_wrap (Z : BitVec 32) : BitVec.ofInt 32 (IntKind.u32.wrap (Z.toNat : Int)) = Z := by
  have := Z.isLt
  rw [wu32 (by omega) (by omega), BitVec.ofInt_natCast, BitVec.ofNat_toNat, BitVec.setWidth_eq]
theorem msb_ofInt {x : Int} (h0 : 0 ≤ x) (h1 : x < 4294967296) : (BitVec.ofInt 32 x).msb = decide (2147483648 ≤ x) := by
  obtain ⟨x, rfl⟩ := Int.eq_ofNat_of_zero_le h0
  rw [BitVec.msb_eq_decide, BitVec.ofInt_natCast, BitVec.toNat_ofNat, Nat.mod_eq_of_lt (by omega)]
  exact decide_eq_decide.2 (by omega)
theorem top_bit (Z : BitVec 32) : (IntKind.u32.wrap (Z.toNat : Int)).fdiv (2 ^ 31) = b2i Z.msb := by
  have := Z.isLt
  rw [wu32 (by omega) (by omega), Int.fdiv_eq_ediv_of_nonneg _ (by decide), BitVec.msb_eq_decide]
  unfold b2i
  by_cases h : 2 ^ (32 - 1) ≤ Z.toNat
  · rw [decide_eq_true h]; simp only [cond_true]; omega
  · rw [decide_eq_false h]; simp only [cond_false]; omega
theorem meets_sub32 : Meets Tryd.prog 37 ansSub32 := by
  refine meets_fn noOrc_ok Tryd.f37 Tryd.func37 (by kernel_rfl) (fun args r h => ?_)
  unfold ansSub32 at h
  split at h
  · rename_i x y b
    simp only [Option.some.injEq, Prod.mk.injEq, Bool.and_eq_true, decide_eq_true_eq] at h
    obtain ⟨⟨⟨⟨⟨⟨x1, x2⟩, y1⟩, y2⟩, b1⟩, b2⟩, rfl⟩ := h
    refine ⟨rfl, _, noTab_all, (Sub32.rest x y b).trans ?_⟩
    have ed : IntKind.u32.wrap (IntKind.u32.wrap (x - y) - b) = (x - y - b) % 4294967296 := by rw [wu32_mod, wu32_mod]; omega
    have em : (bif false then (-1 : Int) else IntKind.u32.max) = 4294967295 := rfl
    rw [ed, em]
    generalize hd : (x - y - b) % 4294967296 = d
    have d1 : 0 ≤ d := by omega
    have d2 : d < 4294967296 := by omega
    simp only [ofInt_wrap, top_bit, BitVec.msb_or, BitVec.msb_and, BitVec.msb_xor]
    rw [msb_ofInt x1 x2, msb_ofInt y1 y2, msb_ofInt d1 d2, msb_ofInt (by omega) (by omega)]
    have : (((decide ((2147483648 : Int) ≤ 4294967295) ^^ decide (2147483648 ≤ x)) && decide (2147483648 ≤ y)) || ((decide ((2147483648 : Int) ≤ 4294967295) ^^ (decide (2147483648 ≤ x) ^^ decide (2147483648 ≤ y))) && decide (2147483648 ≤ d))) = decide (x < y + b) := by
      rw [show decide ((2147483648 : Int) ≤ 4294967295) = true from rfl]
      by_cases hx : 2147483648 ≤ x <;> by_cases hy : 2147483648 ≤ y <;> by_cases hdd : 2147483648 ≤ d <;> by_cases hl : x < y + b <;> simp [hx, hy, hdd, hl] <;> omega
    rw [this]
  · cases h
theorem blen_eq {n : Int} (h : 0 < n) {k : Nat} (h1 : 2 ^ k ≤ n) (h2 : n < 2 ^ (k + 1)) : blen n = (k : Int) + 1 := by
  obtain ⟨n, rfl⟩ := Int.eq_ofNat_of_zero_le (Int.le_of_lt h)
  unfold blen
  rw [if_neg (by omega), Int.toNat_natCast]
  have e1 : ((2 ^ k : Nat) : Int) = 2 ^ k := Int.natCast_pow ..
  have e2 : ((2 ^ (k + 1) : Nat) : Int) = 2 ^ (k + 1) := Int.natCast_pow ..
  have : n.log2 = k := (Nat.log2_eq_iff (by omega)).2 ⟨by omega, by omega⟩
  rw [this]
theorem blen_pow {n : Int} (h : 0 < n) : 0 < blen n ∧ 2 ^ (blen n - 1).toNat ≤ n ∧ n < 2 ^ (blen n).toNat := by
  obtain ⟨n, rfl⟩ := Int.eq_ofNat_of_zero_le (Int.le_of_lt h)
  unfold blen
  rw [if_neg (by omega), Int.toNat_natCast]
  have hn : n ≠ 0 := by omega
  obtain ⟨h1, h2⟩ := (Nat.log2_eq_iff hn).1 rfl
  have e1 : ((2 ^ n.log2 : Nat) : Int) = 2 ^ n.log2 := Int.natCast_pow ..
  have e2 : ((2 ^ (n.log2 + 1) : Nat) : Int) = 2 ^ (n.log2 + 1) := Int.natCast_pow ..
  refine ⟨by omega, ?_, ?_⟩
  · rw [show ((n.log2 : Int) + 1 - 1).toNat = n.log2 by omega]; omega
  · rw [show ((n.log2 : Int) + 1).toNat = n.log2 + 1 by omega]; omega
theorem blen_shift {n : Int} (k : Nat) (h : 2 ^ k ≤ n) : blen n = k + blen (n / 2 ^ k) := by
  have hp : (0 : Int) < 2 ^ k := Int.pow_pos (by decide)
  have hq : 1 ≤ n / 2 ^ k := (Int.le_ediv_iff_mul_le hp).2 (by omega)
  obtain ⟨h1, h2, h3⟩ := blen_pow (show 0 < n / 2 ^ k by omega)
  generalize hb : blen (n / 2 ^ k) = b at *
  have h4 : (2 : Int) ^ ((b - 1).toNat) * 2 ^ k ≤ n := (Int.le_ediv_iff_mul_le hp).1 h2
  have h5 : n < 2 ^ b.toNat * 2 ^ k := (Int.ediv_lt_iff_lt_mul hp).1 h3
  rw [← Int.pow_add] at h4 h5
  rw [blen_eq (k := (b - 1).toNat + k) (by omega) h4 (by rw [show (b - 1).toNat + k + 1 = b.toNat + k by omega]; exact h5)]
  omega
theorem len32_of (n : Int) (h0 : 0 ≤ n) (h1 : n < 4294967296) (tab : ByteArray) (ht : ∀ x : Nat, x < 256 → bt tab (x : Int) = blen x) :
    (bif decide (n ≥ 65536) then (bif decide (n.fdiv (2 ^ 16) ≥ 256) then (bif inB (IntKind.u8.wrap ((n.fdiv (2 ^ 16)).fdiv (2 ^ 8))) 256 then some (Res.val (.int .i64 (IntKind.i64.wrap (IntKind.i64.wrap (16 + 8) + IntKind.i64.wrap (bt tab (IntKind.u8.wrap ((n.fdiv (2 ^ 16)).fdiv (2 ^ 8)))))))) else none) else (bif inB (IntKind.u8.wrap (n.fdiv (2 ^ 16))) 256 then some (Res.val (.int .i64 (IntKind.i64.wrap (16 + IntKind.i64.wrap (bt tab (IntKind.u8.wrap (n.fdiv (2 ^ 16)))))))) else none)) else (bif decide (n ≥ 256) then (bif inB (IntKind.u8.wrap (n.fdiv (2 ^ 8))) 256 then some (Res.val (.int .i64 (IntKind.i64.wrap (IntKind.i64.wrap (0 + 8) + IntKind.i64.wrap (bt tab (IntKind.u8.wrap (n.fdiv (2 ^ 8)))))))) else none) else (bif inB (IntKind.u8.wrap n) 256 then some (Res.val (.int .i64 (IntKind.i64.wrap (0 + IntKind.i64.wrap (bt tab (IntKind.u8.wrap n)))))) else none))) = some (Res.val (.int .i64 (blen n))) := by
  have w8 : ∀ x : Int, 0 ≤ x → x < 256 → IntKind.u8.wrap x = x := fun x a b => IntWalk.u8_in x ⟨a, by omega⟩
  have e16 : n.fdiv (2 ^ 16) = n / 65536 := Int.fdiv_eq_ediv_of_nonneg n (by decide)
  have e8 : n.fdiv (2 ^ 8) = n / 256 := Int.fdiv_eq_ediv_of_nonneg n (by decide)
  have e24 : (n / 65536).fdiv (2 ^ 8) = n / 65536 / 256 := Int.fdiv_eq_ediv_of_nonneg _ (by decide)
  have hb : ∀ x : Int, 0 ≤ x → x < 256 → bt tab x = blen x ∧ 0 ≤ blen x ∧ blen x ≤ 8 := by
    intro x hx0 hx1
    obtain ⟨x, rfl⟩ := Int.eq_ofNat_of_zero_le hx0
    refine ⟨ht x (by omega), ?_⟩
    have : ((List.range 256).all fun x => decide (0 ≤ blen (x : Nat)) && decide (blen (x : Nat) ≤ 8)) = true := by kernel_rfl
    have := List.all_eq_true.1 this x (List.mem_range.2 (by omega))
    simpa using this
  rw [e16, e8, e24, show IntKind.i64.wrap (16 + 8) = 24 from rfl, show IntKind.i64.wrap (0 + 8) = 8 from rfl]
  by_cases c1 : n ≥ 65536
  · rw [decide_eq_true c1]
    have s1 := blen_shift (n := n) 16 (by omega)
    have s1 : blen n = 16 + blen (n / 65536) := s1
    by_cases c2 : n / 65536 ≥ 256
    · have s2 := blen_shift (n := n / 65536) 8 (by omega)
      have s2 : blen (n / 65536) = 8 + blen (n / 65536 / 256) := s2
      obtain ⟨q1, q2, q3⟩ := hb (n / 65536 / 256) (by omega) (by omega)
      rw [decide_eq_true c2]
      simp only [cond_true]
      rw [w8 (n / 65536 / 256) (by omega) (by omega), bT (inB_iff.2 (by omega)), q1, w64 (n := blen (n / 65536 / 256)) (by omega) (by omega), w64 (by omega) (by omega), s1, s2]
      congr 3
      omega
    · obtain ⟨q1, q2, q3⟩ := hb (n / 65536) (by omega) (by omega)
      rw [decide_eq_false c2]
      simp only [cond_true, cond_false]
      rw [w8 (n / 65536) (by omega) (by omega), bT (inB_iff.2 (by omega)), q1, w64 (n := blen (n / 65536)) (by omega) (by omega), w64 (by omega) (by omega), s1]
  · rw [decide_eq_false c1]
    by_cases c2 : n ≥ 256
    · have s2 := blen_shift (n := n) 8 (by omega)
      have s2 : blen n = 8 + blen (n / 256) := s2
      obtain ⟨q1, q2, q3⟩ := hb (n / 256) (by omega) (by omega)
      rw [decide_eq_true c2]
      simp only [cond_true, cond_false]
      rw [w8 (n / 256) (by omega) (by omega), bT (inB_iff.2 (by omega)), q1, w64 (n := blen (n / 256)) (by omega) (by omega), w64 (by omega) (by omega), s2]
    · obtain ⟨q1, q2, q3⟩ := hb n (by omega) (by omega)
      rw [decide_eq_false c2]
      simp only [cond_false]
      rw [w8 n (by omega) (by omega), bT (inB_iff.2 (by omega)), q1, w64 (n := blen n) (by omega) (by omega), w64 (by omega) (by omega), Int.zero_add]
theorem meets_len32 : Meets Tryd.prog 36 ansLen32 := by
  refine meets_fn noOrc_ok Tryd.f36 Tryd.func36 (by kernel_rfl) (fun args r h => ?_)
  unfold ansLen32 at h
  split at h
  · rename_i n
    simp only [Option.some.injEq, Prod.mk.injEq, Bool.and_eq_true, decide_eq_true_eq] at h
    obtain ⟨⟨h1, h2⟩, rfl⟩ := h
    refine ⟨rfl, _, noTab_all, (Len32.rest n).trans (len32_of n h1 h2 _ (fun x hx => ?_))⟩
    refine of_decide_eq_true (List.all_eq_true.1 (show ((List.range 256).all fun x => decide (bt _ (x : Nat) = blen (x : Nat))) = true from ?_) x (List.mem_range.2 hx))
    kernel_rfl
  · cases h
theorem meets_lz32 : Meets Tryd.prog 29 ansLz32 := by
  refine meets_fn (orc_ok (l := Lz32.ans) ⟨meets_len32, trivial⟩) Tryd.f29 Tryd.func29 (by kernel_rfl) (fun args r h => ?_)
  unfold ansLz32 at h
  split at h
  · rename_i n
    simp only [Option.some.injEq, Prod.mk.injEq, Bool.and_eq_true, decide_eq_true_eq] at h
    obtain ⟨⟨h1, h2⟩, rfl⟩ := h
    refine ⟨rfl, _, noTab_all, (Lz32.rest n).trans ?_⟩
    have hb : 0 ≤ blen n ∧ blen n ≤ 32 := by
      by_cases h : n = 0
      · rw [h]; decide
      · obtain ⟨b1, b2, b3⟩ := blen_pow (show 0 < n by omega)
        refine ⟨by omega, ?_⟩
        refine Int.not_lt.1 (fun hgt => ?_)
        have : (2 : Int) ^ 32 ≤ 2 ^ (blen n - 1).toNat := by
          obtain ⟨k, hk⟩ : ∃ k, (blen n - 1).toNat = 32 + k := ⟨(blen n - 1).toNat - 32, by omega⟩
          rw [hk, Int.pow_add]
          have : (0 : Int) < 2 ^ k := Int.pow_pos (by decide)
          have h6 : (2 : Int) ^ 32 * 1 ≤ 2 ^ 32 * 2 ^ k := Int.mul_le_mul_of_nonneg_left (by omega) (by decide)
          omega
        have e : (2 : Int) ^ 32 = 4294967296 := rfl
        omega
    rw [decide_eq_true h1, decide_eq_true h2, w64 (by omega) (by omega)]
    rfl
  · cases h
end Go.Abs
end
section
/- What arith.digit answers. -/
namespace Go.Abs
open Go.Proofs Go.Dig
namespace Digit
/-- What is asked of the row, the divisor and the place. -/
structure Pre (u v : List Int) (j n : Nat) : Prop where
  ou : okB 4294967296 u = true
  ov : okB 4294967296 v = true
  lu : u.length ≤ 100000
  hn : v.length = n + 2
  hj : j + (n + 3) ≤ u.length
  top : 2147483648 ≤ v.getD (n + 1) 0
  lt : val 4294967296 (seg u j (n + 3)) < 4294967296 * val 4294967296 v
abbrev U (u : List Int) (j n : Nat) : Int := val 4294967296 (seg u j (n + 3))
abbrev V (v : List Int) : Int := val 4294967296 v
abbrev tp (u : List Int) (j n : Nat) : Int := u.getD (j + (n + 2)) 0 * 4294967296 + u.getD (j + (n + 1)) 0
section
variable {u v : List Int} {j n : Nat}
theorem Pre.V_eq (h : Pre u v j n) : V v = val 4294967296 (v.take n) + 4294967296 ^ n * (v.getD n 0 + 4294967296 * v.getD (n + 1) 0) := val_top2 _ _ h.hn
theorem Pre.U_eq (h : Pre u v j n) : U u j n = val 4294967296 ((seg u j (n + 3)).take n) + 4294967296 ^ n * (u.getD (j + n) 0 + 4294967296 * tp u j n) := by
  unfold U tp
  rw [val_top3 4294967296 (seg u j (n + 3)) (seg_length h.hj), seg_getD u (by omega : n < n + 3), seg_getD u (by omega : n + 1 < n + 3), seg_getD u (by omega : n + 2 < n + 3)]
theorem Pre.V_lo (h : Pre u v j n) : 0 ≤ val 4294967296 (v.take n) ∧ val 4294967296 (v.take n) < 4294967296 ^ n := by
  have h1 := val_lt W_pos (okB_take h.ov n)
  rw [List.length_take, Nat.min_eq_left (by have := h.hn; omega)] at h1
  exact ⟨val_nonneg W_pos (okB_take h.ov n), h1⟩
theorem Pre.U_lo (h : Pre u v j n) : 0 ≤ val 4294967296 ((seg u j (n + 3)).take n) ∧ val 4294967296 ((seg u j (n + 3)).take n) < 4294967296 ^ n := by
  have ok := okB_take (okB_seg h.ou j (n + 3)) n
  have h1 := val_lt W_pos ok
  rw [List.length_take, seg_length h.hj, Nat.min_eq_left (by omega)] at h1
  exact ⟨val_nonneg W_pos ok, h1⟩
theorem pow_pos1 (n : Nat) : (1 : Int) ≤ 4294967296 ^ n := by
  have : (0 : Int) < 4294967296 ^ n := Int.pow_pos (by decide)
  omega
theorem Pre.V_pos (h : Pre u v j n) : 0 < V v := by
  rw [h.V_eq]
  have h1 := h.V_lo.1
  have h2 := h.top
  have h3 := (getD_ok W_pos h.ov n).1
  have := Int.mul_pos (show (0 : Int) < 4294967296 ^ n by have := pow_pos1 n; omega) (show 0 < v.getD n 0 + 4294967296 * v.getD (n + 1) 0 by omega)
  omega
theorem Pre.q_le (h : Pre u v j n) : 0 ≤ U u j n / V v ∧ U u j n / V v * V v ≤ U u j n ∧ U u j n < (U u j n / V v + 1) * V v := by
  have h0 : 0 ≤ U u j n := val_nonneg W_pos (okB_seg h.ou _ _)
  have h1 := h.V_pos
  refine ⟨Int.ediv_nonneg h0 (by omega), Int.ediv_mul_le _ (by omega), ?_⟩
  exact Int.lt_mul_of_ediv_lt h1 (by omega)
theorem Pre.q_lt (h : Pre u v j n) : U u j n / V v < 4294967296 := Int.ediv_lt_of_lt_mul h.V_pos h.lt
/-- The guess as it goes down. -/
def InvG (u v : List Int) (j n : Nat) (g r : Int) : Prop :=
  0 ≤ g ∧ g ≤ 4294967297 ∧ g * v.getD (n + 1) 0 + r = tp u j n ∧ 0 ≤ r ∧ r < 4294967296 ∧ U u j n / V v ≤ g
def PostG (u v : List Int) (j n : Nat) (g : Int) : Prop := 0 ≤ g ∧ g < 4294967296 ∧ U u j n / V v ≤ g ∧ g * V v < U u j n + V v
theorem Pre.dec (h : Pre u v j n) {g r : Int} (hI : InvG u v j n g r) (hg : U u j n / V v ≤ g - 1) :
    (r + v.getD (n + 1) 0 < 4294967296 → InvG u v j n (g - 1) (r + v.getD (n + 1) 0)) ∧ (4294967296 ≤ r + v.getD (n + 1) 0 → PostG u v j n (g - 1)) := by
  obtain ⟨g0, g1, g2, g3, g4, g5⟩ := hI
  have ht := h.top
  have hv1 := getD_ok W_pos h.ov (n + 1)
  have e : (g - 1) * v.getD (n + 1) 0 + (r + v.getD (n + 1) 0) = tp u j n := by rw [Int.sub_mul, Int.one_mul]; omega
  have hq := h.q_le.1
  refine ⟨fun hr => ⟨by omega, by omega, e, by omega, hr, hg⟩, fun hr => ?_⟩
  have hle := KnuthD.le_break (pow_pos1 n) W_pos (show 0 ≤ g - 1 by omega) (by omega) e hr h.V_eq h.V_lo.2 (getD_ok W_pos h.ov n).2 h.U_eq h.U_lo.1 (getD_ok W_pos h.ou (j + n)).1
  have hV := h.V_pos
  refine ⟨by omega, ?_, hg, by omega⟩
  refine Int.not_le.1 (fun hge => ?_)
  have h1 : 4294967296 * V v ≤ (g - 1) * V v := Int.mul_le_mul_of_nonneg_right hge (by omega)
  have h2 : U u j n < 4294967296 * V v := h.lt
  omega
theorem Pre.ix (h : Pre u v j n) : IntKind.i64.wrap ((j : Int) + ((n + 2 : Nat) : Int)) = ((j + (n + 2) : Nat) : Int) ∧ IntKind.i64.wrap (((j + (n + 2) : Nat) : Int) - 1) = ((j + (n + 1) : Nat) : Int) ∧ IntKind.i64.wrap (((j + (n + 2) : Nat) : Int) - 2) = ((j + n : Nat) : Int) ∧ IntKind.i64.wrap (((n + 2 : Nat) : Int) - 1) = ((n + 1 : Nat) : Int) ∧ IntKind.i64.wrap (((n + 2 : Nat) : Int) - 2) = (n : Int) := by
  have h1 := h.hj
  have h2 := h.lu
  refine ⟨?_, ?_, ?_, ?_, ?_⟩ <;> rw [w64 (by omega) (by omega)] <;> omega
theorem guess (h : Pre u v j n) (g r : Int) (hI : InvG u v j n g r) :
    ∃ e S1, Ends T orc L0 D0 (st0 v j (n + 2 : Nat) u g r) e S1 ∧ (e = .exit 0 ∧ ∃ g r, S1 = st0 v j (n + 2 : Nat) u g r ∧ PostG u v j n g) := by
  refine loop_inv2 (fun g r => st0 v j (n + 2 : Nat) u g r) (fun g r => InvG u v j n g r) (fun g r => g.toNat)
    (fun e S1 => e = .exit 0 ∧ ∃ g r, S1 = st0 v j (n + 2 : Nat) u g r ∧ PostG u v j n g) isL0 ?_ g r hI
  intro g r hI
  obtain ⟨g0, g1, g2, g3, g4, g5⟩ := id hI
  have hq := h.q_le.1
  have hql := h.q_lt
  have hv1 := getD_ok W_pos h.ov (n + 1)
  have hv2 := getD_ok W_pos h.ov n
  have hu2 := getD_ok W_pos h.ou (j + n)
  have ht := h.top
  have hn := h.hn
  have hj := h.hj
  obtain ⟨i1, i2, i3, i4, i5⟩ := h.ix
  have hA := KnuthD.ge_first (pow_pos1 n) W_pos hq h.q_le.2.1 h.V_eq h.V_lo.1 h.U_eq h.U_lo.2
  refine ⟨noTab, noTab_all, lands_of (round0 ..) ?_⟩
  have eo : IntKind.u64.wrap ((BitVec.ofInt 64 (IntKind.u64.wrap (r * 2 ^ 32)) ||| BitVec.ofInt 64 (IntKind.u64.wrap (rd u ((j + n : Nat) : Int)))).toNat : Int) = r * 4294967296 + u.getD (j + n) 0 := by
    rw [rd_toNat, Int.toNat_natCast, wu64 hu2.1 (by omega), wu64 (n := r * 2 ^ 32) (by omega) (by omega), or64' 32 hu2.1 (by omega) ⟨r, g3, by rw [Int.mul_comm]⟩ (by omega)]
    omega
  have e1 : IntKind.u64.wrap (rd v ((n + 1 : Nat) : Int)) = v.getD (n + 1) 0 := by rw [rd_toNat, Int.toNat_natCast, wu64 hv1.1 (by omega)]
  have e2 : IntKind.u64.wrap (rd v (n : Int)) = v.getD n 0 := by rw [rd_toNat, Int.toNat_natCast, wu64 hv2.1 (by omega)]
  simp only [lands_bif, lands_some, lands_none, Turns1, Turns2, Turns3, Turns4, Turns5, Turns6, Turns7, Turns8, eq_bif, Option.some.injEq, reduceCtorEq, cond_true, cond_false, Bool.eq_false_iff, ne_eq, inB_iff, decide_eq_true_eq, Bool.and_eq_true, Bool.or_eq_true, Bool.not_eq_true', beq_iff_eq, bne_iff_ne, true_and, and_true, true_implies, implies_true, not_true_eq_false, not_false_eq_true, false_implies, few_iff, i1, i2, i3, i4, i5, eo, e1, e2]
  have er : IntKind.u64.wrap (r + v.getD (n + 1) 0) = r + v.getD (n + 1) 0 := wu64 (by omega) (by omega)
  rw [er]
  have down : U u j n / V v ≤ g - 1 → (4294967296 ≤ r + v.getD (n + 1) 0 → ∃ g1 r1, st0 v j (n + 2 : Nat) u (IntKind.u64.wrap (g - 1)) (r + v.getD (n + 1) 0) = st0 v j (n + 2 : Nat) u g1 r1 ∧ PostG u v j n g1) ∧ (¬ 4294967296 ≤ r + v.getD (n + 1) 0 → ∃ u0 u1, st0 v j (n + 2 : Nat) u (IntKind.u64.wrap (g - 1)) (r + v.getD (n + 1) 0) = st0 v j (n + 2 : Nat) u u0 u1 ∧ InvG u v j n u0 u1 ∧ u0.toNat < g.toNat) := by
    intro hd
    obtain ⟨d1, d2⟩ := h.dec hI hd
    rw [wu64 (n := g - 1) (by omega) (by omega)]
    exact ⟨fun hr => ⟨_, _, rfl, d2 hr⟩, fun hr => ⟨_, _, rfl, d1 (by omega), by omega⟩⟩
  refine ⟨fun hg => ⟨fun _ => ?_, fun hx => hx (by omega)⟩, fun hg => ⟨fun _ => ⟨fun _ => ⟨fun hc => ⟨fun _ => ?_, fun hx => hx (by omega)⟩, fun hc => ?_⟩, fun hx => hx (by omega)⟩, fun hx => hx (by omega)⟩⟩
  · exact down (by omega)
  · have hm := mul_lt_W ⟨g0, by omega⟩ hv2
    rw [wu64 hm.1 (by omega)] at hc
    exact down (KnuthD.ge_step W_pos (by omega) hv2.1 g2 hc hA)
  · have hm := mul_lt_W ⟨g0, by omega⟩ hv2
    rw [wu64 hm.1 (by omega)] at hc
    refine ⟨_, _, rfl, g0, by omega, g5, ?_⟩
    exact KnuthD.le_exit (pow_pos1 n) W_pos g0 (by omega) g2 (by omega) (by omega) hv2.1 h.V_eq h.V_lo.1 h.V_lo.2 h.U_eq h.U_lo.1
/-- The row while it is made less. -/
def InvS (u v : List Int) (j n : Nat) (g : Int) (c b : Int) (i : Nat) (l : List Int) : Prop :=
  i ≤ n + 2 ∧ l.length = u.length ∧ okB 4294967296 l = true ∧ l.take j = u.take j ∧ l.drop (j + (n + 3)) = u.drop (j + (n + 3)) ∧ 0 ≤ c ∧ c < 4294967296 ∧ 0 ≤ b ∧ b ≤ 1 ∧
  val 4294967296 l = val 4294967296 u - 4294967296 ^ j * (g * val 4294967296 (v.take i)) + 4294967296 ^ (i + j) * (c + b)
theorem step_sub (A Q P L g w c b x y d c' b' lo Pk : Int) (h : L = A - Q * (g * w) + P * (c + b)) (hP : P = Q * Pk) (hlo : c + g * y = lo + 4294967296 * c') (hd : x - lo - b = d - 4294967296 * b') :
    L + P * (d - x) = A - Q * (g * (w + Pk * y)) + P * 4294967296 * (c' + b') := by
  have : d = x - lo - b + 4294967296 * b' := by omega
  have h2 : lo = c + g * y - 4294967296 * c' := by omega
  subst this
  subst h2
  subst hP
  grind
theorem set_same {l : List Int} {i m : Nat} {d : Int} (j : Nat) (h1 : j ≤ i) (h2 : i < j + m) : (l.set i d).take j = l.take j ∧ (l.set i d).drop (j + m) = l.drop (j + m) :=
  ⟨List.take_set_of_le h1, List.drop_set_of_lt h2⟩
theorem subLoop (h : Pre u v j n) (g r : Int) (hg : 0 ≤ g ∧ g < 4294967296) :
    ∃ e S1, Ends T orc L1 D1 (st1 v j (n + 2 : Nat) u g r 0 0 0 u) e S1 ∧ (e = .exit 2 ∧ ∃ c b x l, S1 = st1 v j (n + 2 : Nat) u g r c b x l ∧ InvS u v j n g c b (n + 2) l) := by
  refine loop_inv4 (fun c b (i : Nat) l => st1 v j (n + 2 : Nat) u g r c b i l) (fun c b i l => InvS u v j n g c b i l) (fun c b i l => n + 2 - i)
    (fun e S1 => e = .exit 2 ∧ ∃ c b x l, S1 = st1 v j (n + 2 : Nat) u g r c b x l ∧ InvS u v j n g c b (n + 2) l) isL1 ?_ 0 0 0 u ?_
  · intro c b i l hI
    obtain ⟨h1, h2, h3, h4, h5, h6, h7, h8, h9, h10⟩ := id hI
    have hn := h.hn
    have hj := h.hj
    have hlu := h.lu
    have hx := getD_ok W_pos h3 (i + j)
    have hy := getD_ok W_pos h.ov i
    have hp := mul_lt_W hg hy
    have ei : IntKind.i64.wrap ((i : Int) + (j : Int)) = ((i + j : Nat) : Int) := by rw [w64 (by omega) (by omega)]; omega
    refine ⟨noTab, noTab_all, lands_of (round1 ..) ?_⟩
    have e1 : IntKind.u64.wrap (c + IntKind.u64.wrap (g * IntKind.u64.wrap (rd v (i : Int)))) = c + g * v.getD i 0 := by
      rw [rd_toNat, Int.toNat_natCast, wu64 hy.1 (by omega), wu64 hp.1 (by omega), wu64 (by omega) (by omega)]
    rw [e1, ei]
    obtain ⟨t, ht⟩ : ∃ t, c + g * v.getD i 0 = t := ⟨_, rfl⟩
    rw [ht]
    simp only [lands_bif, lands_some, lands_none, Turns1, Turns2, Turns3, Turns4, Turns5, Turns6, Turns7, Turns8, eq_bif, Option.some.injEq, reduceCtorEq, cond_true, cond_false, Bool.eq_false_iff, ne_eq, inB_iff, decide_eq_true_eq, Bool.and_eq_true, Bool.or_eq_true, Bool.not_eq_true', beq_iff_eq, bne_iff_ne, true_and, and_true, true_implies, implies_true, not_true_eq_false, not_false_eq_true, false_implies, few_iff, LessMag.b2i_lt, wi_succ (show i < 4611686018427387904 by omega)]
    simp only [rd_toNat, Int.toNat_natCast, fdiv32, wu32_mod]
    repeat' (first | apply And.intro | intro _)
    all_goals try omega
    · obtain ⟨k1, k2⟩ := set_same (l := l) (d := (l.getD (i + j) 0 - t % 4294967296 - b) % 4294967296) j (show j ≤ i + j by omega) (show i + j < j + (n + 3) by omega)
      refine ⟨_, _, i + 1, _, rfl, ⟨by omega, by rw [List.length_set]; exact h2, okB_set h3 (by omega), k1.trans h4, k2.trans h5, by omega, by omega, by split <;> omega, by split <;> omega, ?_⟩, by omega⟩
      rw [val_set _ _ _ _ (by omega), val_take_succ, show i + 1 + j = i + j + 1 by omega, Int.pow_succ]
      exact step_sub _ _ _ _ _ _ _ _ _ _ _ _ _ (t % 4294967296) (4294967296 ^ i) h10 (by rw [Int.pow_add, Int.mul_comm]) (by omega) (by split <;> omega)
    · obtain rfl : i = n + 2 := by omega
      exact ⟨_, _, _, _, rfl, hI⟩
  · exact ⟨by omega, rfl, h.ou, rfl, rfl, by omega, by omega, by omega, by omega, by simp [val]⟩
/-- The row while the divisor is put back. -/
def InvA (u v : List Int) (j n : Nat) (A : Int) (b : Int) (i : Nat) (l : List Int) : Prop :=
  i ≤ n + 2 ∧ l.length = u.length ∧ okB 4294967296 l = true ∧ l.take j = u.take j ∧ l.drop (j + (n + 3)) = u.drop (j + (n + 3)) ∧ 0 ≤ b ∧ b ≤ 1 ∧
  val 4294967296 l = A + 4294967296 ^ j * val 4294967296 (v.take i) - 4294967296 ^ (i + j) * b
theorem step_add (A Q P L w b x y d b' Pk : Int) (h : L = A + Q * w - P * b) (hP : P = Q * Pk) (hd : x + y + b = d + 4294967296 * b') :
    L + P * (d - x) = A + Q * (w + Pk * y) - P * 4294967296 * b' := by
  have : d = x + y + b - 4294967296 * b' := by omega
  subst this
  subst hP
  grind
theorem b2i_le (x y : Int) : b2i (decide (x ≤ y)) = if x ≤ y then 1 else 0 := by
  unfold b2i; by_cases h : x ≤ y <;> simp [h]
theorem addLoop (h : Pre u v j n) (x2 x3 x7 x8 x9 : Int) (l1 l2 : List Int) (A : Int) (hl : l2.length = u.length) (ol : okB 4294967296 l2 = true) (ht : l2.take j = u.take j) (hd : l2.drop (j + (n + 3)) = u.drop (j + (n + 3))) (hA : val 4294967296 l2 = A) :
    ∃ e S1, Ends T orc L2 D2 (st2 v j (n + 2 : Nat) u x2 x3 x7 l1 x8 0 x9 0 l2) e S1 ∧ (e = .exit 4 ∧ ∃ b x l, S1 = st2 v j (n + 2 : Nat) u x2 x3 x7 l1 x8 b x9 x l ∧ InvA u v j n A b (n + 2) l) := by
  refine loop_inv3 (fun b (i : Nat) l => st2 v j (n + 2 : Nat) u x2 x3 x7 l1 x8 b x9 i l) (fun b i l => InvA u v j n A b i l) (fun b i l => n + 2 - i)
    (fun e S1 => e = .exit 4 ∧ ∃ b x l, S1 = st2 v j (n + 2 : Nat) u x2 x3 x7 l1 x8 b x9 x l ∧ InvA u v j n A b (n + 2) l) isL2 ?_ 0 0 l2 ?_
  · intro b i l hI
    obtain ⟨h1, h2, h3, h4, h5, h6, h7, h8⟩ := id hI
    have hn := h.hn
    have hj := h.hj
    have hlu := h.lu
    have hx := getD_ok W_pos h3 (i + j)
    have hy := getD_ok W_pos h.ov i
    have ei : IntKind.i64.wrap ((i : Int) + (j : Int)) = ((i + j : Nat) : Int) := by rw [w64 (by omega) (by omega)]; omega
    refine ⟨noTab, noTab_all, lands_of (round2 ..) ?_⟩
    rw [ei]
    simp only [lands_bif, lands_some, lands_none, Turns1, Turns2, Turns3, Turns4, Turns5, Turns6, Turns7, Turns8, eq_bif, Option.some.injEq, reduceCtorEq, cond_true, cond_false, Bool.eq_false_iff, ne_eq, inB_iff, decide_eq_true_eq, Bool.and_eq_true, Bool.or_eq_true, Bool.not_eq_true', beq_iff_eq, bne_iff_ne, true_and, and_true, true_implies, implies_true, not_true_eq_false, not_false_eq_true, false_implies, few_iff, b2i_le, wi_succ (show i < 4611686018427387904 by omega)]
    simp only [rd_toNat, Int.toNat_natCast]
    repeat' (first | apply And.intro | intro _)
    all_goals try omega
    · obtain ⟨k1, k2⟩ := set_same (l := l) (d := (l.getD (i + j) 0 + v.getD i 0 + b) % 4294967296) j (show j ≤ i + j by omega) (show i + j < j + (n + 3) by omega)
      refine ⟨_, i + 1, _, rfl, ⟨by omega, by rw [List.length_set]; exact h2, okB_set h3 (by omega), k1.trans h4, k2.trans h5, by split <;> omega, by split <;> omega, ?_⟩, by omega⟩
      rw [val_set _ _ _ _ (by omega), val_take_succ, show i + 1 + j = i + j + 1 by omega, Int.pow_succ]
      exact step_add _ _ _ _ _ _ _ _ _ _ (4294967296 ^ i) h8 (by rw [Int.pow_add, Int.mul_comm]) (by split <;> omega)
    · obtain rfl : i = n + 2 := by omega
      exact ⟨_, _, _, rfl, hI⟩
  · exact ⟨by omega, hl, ol, ht, hd, by omega, by omega, by simp [val, hA]⟩
theorem Pre.pre_j (h : Pre u v j n) : (0 : Int) < 4294967296 ^ j := Int.pow_pos (by decide)
/-- What a row that differs in the segment alone comes to. -/
theorem Pre.seg_of (h : Pre u v j n) {l : List Int} (hl : l.length = u.length) (ht : l.take j = u.take j) (hd : l.drop (j + (n + 3)) = u.drop (j + (n + 3))) {x : Int} (hx : val 4294967296 l = val 4294967296 u + 4294967296 ^ j * x) : val 4294967296 (seg l j (n + 3)) = U u j n + x := by
  have h1 : val 4294967296 u = val 4294967296 (u.take j) + 4294967296 ^ j * U u j n + 4294967296 ^ (j + (n + 3)) * val 4294967296 (u.drop (j + (n + 3))) := seg_val 4294967296 u j (n + 3) h.hj
  have h2 := seg_val 4294967296 l j (n + 3) (by have := h.hj; omega)
  rw [ht, hd] at h2
  have h3 : 4294967296 ^ j * val 4294967296 (seg l j (n + 3)) = 4294967296 ^ j * (U u j n + x) := by
    rw [Int.mul_add]; omega
  exact Int.eq_of_mul_eq_mul_left (by have := h.pre_j; omega) h3
theorem Pre.row (h : Pre u v j n) {l : List Int} (hl : l.length = u.length) (ol : okB 4294967296 l = true) (ht : l.take j = u.take j) (hd : l.drop (j + (n + 3)) = u.drop (j + (n + 3))) (hs : val 4294967296 (seg l j (n + 3)) = U u j n % V v) : l = digU u v j := by
  have hV := h.V_pos
  have hn := h.hn
  have hj := h.hj
  have e : l = l.take j ++ (seg l j (n + 3) ++ l.drop (j + (n + 3))) := by
    unfold seg
    rw [← List.drop_drop, List.take_append_drop, List.take_append_drop]
  rw [e, ht, hd]
  unfold digU
  rw [hn, show n + 2 + 1 = n + 3 by omega, show j + (n + 2) + 1 = j + (n + 3) by omega, List.append_assoc]
  congr 2
  exact dig_eq W_pos (okB_seg ol _ _) (seg_length (by omega)) hs
theorem finish (h : Pre u v j n) : ∃ tab, (∀ C, TabOk T orc tab C) ∧ runTM T orc tab Tryd.f31 [.ints .u32 u, .ints .u32 v, .int .i64 j, .int .i64 (n + 2 : Nat)] = some (.gave (.ints .u32 (digU u v j)) (.int .u32 (digQ u v j))) := by
  have hn := h.hn
  have hj := h.hj
  have hlu := h.lu
  obtain ⟨i1, i2, i3, i4, i5⟩ := h.ix
  have hv1 := getD_ok W_pos h.ov (n + 1)
  have hu1 := getD_ok W_pos h.ou (j + (n + 1))
  have hu0 := getD_ok W_pos h.ou (j + (n + 2))
  have htop := h.top
  obtain ⟨q0, q1, q2⟩ := h.q_le
  have hql := h.q_lt
  have hV := h.V_pos
  have hmul := mul_lt_W hu0 (show (0 : Int) ≤ 4294967295 ∧ (4294967295 : Int) < 4294967296 by omega)
  have htp0 : 0 ≤ tp u j n := by unfold tp; omega
  have htp1 : tp u j n ≤ 18446744073709551615 := by unfold tp; omega
  -- the first guess
  have hguess : InvG u v j n (tp u j n / v.getD (n + 1) 0) (tp u j n % v.getD (n + 1) 0) := by
    have hA := KnuthD.ge_first (pow_pos1 n) W_pos q0 q1 h.V_eq h.V_lo.1 h.U_eq h.U_lo.2
    have hB := KnuthD.ge_init W_pos q0 (getD_ok W_pos h.ov n).1 (getD_ok W_pos h.ou (j + n)).2 hA
    have hr0 := Int.emod_nonneg (tp u j n) (show v.getD (n + 1) 0 ≠ 0 by omega)
    have hr1 := Int.emod_lt_of_pos (tp u j n) (show 0 < v.getD (n + 1) 0 by omega)
    have hde := Int.emod_add_mul_ediv (tp u j n) (v.getD (n + 1) 0)
    rw [Int.mul_comm] at hde
    refine ⟨Int.ediv_nonneg htp0 (by omega), ?_, by omega, hr0, by omega, (Int.le_ediv_iff_mul_le (by omega)).2 hB⟩
    -- the segment's highest digit isn't above the divisor's
    have hs0 : u.getD (j + (n + 2)) 0 ≤ v.getD (n + 1) 0 := by
      refine Int.not_lt.1 (fun hlt => ?_)
      have e1 := h.U_eq
      have e2 := h.V_eq
      have e3 := h.lt
      have e4 := h.V_lo.2
      have e5 := h.U_lo.1
      have p1 := pow_pos1 n
      have v2 := getD_ok W_pos h.ov n
      have u2 := getD_ok W_pos h.ou (j + n)
      have e3 : U u j n < 4294967296 * V v := e3
      have k1 : 4294967296 ^ n * (v.getD n 0 + 1) ≤ 4294967296 ^ n * 4294967296 := Int.mul_le_mul_of_nonneg_left (by omega) (by omega)
      have k2 : 4294967296 ^ n * (4294967296 * (v.getD (n + 1) 0 + 1)) ≤ 4294967296 ^ n * tp u j n := Int.mul_le_mul_of_nonneg_left (by unfold tp; omega) (by omega)
      have k3 : 0 ≤ 4294967296 ^ n * u.getD (j + n) 0 := Int.mul_nonneg (by omega) u2.1
      have k4 : V v = val 4294967296 (v.take n) + 4294967296 ^ n * v.getD n 0 + 4294967296 * (4294967296 ^ n * v.getD (n + 1) 0) := by rw [e2]; grind
      have k5 : U u j n = val 4294967296 ((seg u j (n + 3)).take n) + 4294967296 ^ n * u.getD (j + n) 0 + 4294967296 * (4294967296 ^ n * tp u j n) := by rw [e1]; grind
      have k6 : 4294967296 ^ n * (4294967296 * (v.getD (n + 1) 0 + 1)) = 4294967296 * (4294967296 ^ n * v.getD (n + 1) 0) + 4294967296 ^ n * 4294967296 := by grind
      rw [Int.mul_add, Int.mul_one] at k1
      omega
    have : tp u j n / v.getD (n + 1) 0 < 4294967298 := by
      refine Int.ediv_lt_of_lt_mul (by omega) ?_
      have : tp u j n ≤ v.getD (n + 1) 0 * 4294967296 + 4294967295 := by
        unfold tp
        have := Int.mul_le_mul_of_nonneg_right hs0 (show (0 : Int) ≤ 4294967296 by decide)
        omega
      omega
    omega
  obtain ⟨e1, S1, hE1, rfl, g, r, rfl, g0, g1, g2, g3⟩ := guess h _ _ hguess
  obtain ⟨e2, S2, hE2, rfl, c, b, x, l, rfl, hS⟩ := subLoop h g r ⟨g0, g1⟩
  obtain ⟨_, s2, s3, s4, s5, s6, s7, s8, s9, s10⟩ := hS
  have ett : IntKind.u64.wrap ((BitVec.ofInt 64 (IntKind.u64.wrap (IntKind.u64.wrap (rd u ((j + (n + 2) : Nat) : Int)) * 2 ^ 32)) ||| BitVec.ofInt 64 (IntKind.u64.wrap (rd u ((j + (n + 1) : Nat) : Int)))).toNat : Int) = tp u j n := by
    rw [rd_toNat, rd_toNat, Int.toNat_natCast, Int.toNat_natCast, wu64 hu0.1 (by omega), wu64 hu1.1 (by omega), wu64 (n := u.getD (j + (n + 2)) 0 * 2 ^ 32) (by omega) (by omega), or64' 32 hu1.1 (by omega) ⟨_, hu0.1, Int.mul_comm _ _⟩ (by omega)]
    unfold tp
    omega
  have ev1 : IntKind.u64.wrap (rd v ((n + 1 : Nat) : Int)) = v.getD (n + 1) 0 := by rw [rd_toNat, Int.toNat_natCast, wu64 hv1.1 (by omega)]
  have etd : (tp u j n).tdiv (v.getD (n + 1) 0) = tp u j n / v.getD (n + 1) 0 := Int.tdiv_eq_ediv_of_nonneg htp0
  have etm : (tp u j n).tmod (v.getD (n + 1) 0) = tp u j n % v.getD (n + 1) 0 := Int.tmod_eq_emod_of_nonneg htp0
  have hgd0 : 0 ≤ tp u j n / v.getD (n + 1) 0 := hguess.1
  have hgd1 := hguess.2.1
  have hx := getD_ok W_pos s3 (j + (n + 2))
  -- the last place
  obtain ⟨d, hd⟩ : ∃ d, (l.getD (j + (n + 2)) 0 - c - b) % 4294967296 = d := ⟨_, rfl⟩
  have hd0 : 0 ≤ d ∧ d < 4294967296 := by omega
  obtain ⟨k1, k2⟩ := set_same (l := l) (d := d) j (show j ≤ j + (n + 2) by omega) (show j + (n + 2) < j + (n + 3) by omega)
  have hlen : (l.set (j + (n + 2)) d).length = u.length := by rw [List.length_set]; exact s2
  have hok : okB 4294967296 (l.set (j + (n + 2)) d) = true := okB_set s3 hd0
  rw [List.take_of_length_le (by omega)] at s10
  have hgv : 4294967296 ^ j * (g * val 4294967296 v) = 4294967296 ^ j * (g * V v) := rfl
  have hval : ∀ b' : Int, l.getD (j + (n + 2)) 0 - c - b = d - 4294967296 * b' → val 4294967296 (l.set (j + (n + 2)) d) = val 4294967296 u + 4294967296 ^ j * (- (g * V v) + 4294967296 ^ (n + 3) * b') := by
    intro b' hb'
    rw [val_set _ _ _ _ (by omega), s10, show n + 2 + j = j + (n + 2) by omega]
    have e1 : (4294967296 : Int) ^ j * (-(g * V v) + 4294967296 ^ (n + 3) * b') = - (4294967296 ^ j * (g * V v)) + 4294967296 ^ (j + (n + 2)) * (4294967296 * b') := by
      have ea : (4294967296 : Int) ^ (j + (n + 2)) = 4294967296 ^ j * 4294967296 ^ (n + 2) := Int.pow_add ..
      have eb : (4294967296 : Int) ^ (n + 3) = 4294967296 ^ (n + 2) * 4294967296 := Int.pow_succ ..
      rw [ea, eb]; grind
    have e2 : d - l.getD (j + (n + 2)) 0 = 4294967296 * b' - (c + b) := by omega
    rw [e1, e2, Int.mul_sub]
    omega
  have hseg0 := val_nonneg W_pos (okB_seg hok j (n + 3))
  have hseg1 := val_lt W_pos (okB_seg hok j (n + 3))
  rw [seg_length (by omega)] at hseg1
  have hgen : ∀ l3 x12 x13, ∃ tab, (∀ C, TabOk T orc tab C) ∧ runTM T orc tab Tryd.f31 [.ints .u32 u, .ints .u32 v, .int .i64 j, .int .i64 (n + 2 : Nat)] =
      (bif b2i (decide (l.getD (j + (n + 2)) 0 < c + b)) == 0 then some (.gave (.ints .u32 (l.set (j + (n + 2)) d)) (.int .u32 g)) else (bif cdec (Ends T orc L2 D2 (st2 v j (n + 2 : Nat) u g r c l b 0 x 0 (l.set (j + (n + 2)) d)) (.exit 4) (st2 v j (n + 2 : Nat) u g r c l b x12 x x13 l3)) then (bif inB ((j + (n + 2) : Nat) : Int) l3.length then some (.gave (.ints .u32 (l3.set (j + (n + 2)) (IntKind.u32.wrap (l3.getD (j + (n + 2)) 0 + x12)))) (.int .u32 (IntKind.u32.wrap (IntKind.u64.wrap (g - 1))))) else none) else none)) := by
    intro l3 x12 x13
    refine ⟨_, tabOf_all _, (rest u v j (n + 2 : Nat) l3 x12 g r c l b x x13).trans ?_⟩
    rw [i1, i2, i4, ett, ev1, etd, etm, wu64 hgd0 (by omega), cdec_true hE1, cdec_true hE2, wu32 g0 (by omega), wu32 s6 (by omega)]
    have c1 : inB ((j + (n + 2) : Nat) : Int) u.length = true := inB_iff.2 (by omega)
    have c2 : inB ((j + (n + 1) : Nat) : Int) u.length = true := inB_iff.2 (by omega)
    have c3 : inB ((n + 1 : Nat) : Int) v.length = true := inB_iff.2 (by omega)
    have c4 : (!decide (v.getD (n + 1) 0 = 0)) = true := by rw [Bool.not_eq_true', decide_eq_false_iff_not]; omega
    have c5 : inB ((j + (n + 2) : Nat) : Int) l.length = true := inB_iff.2 (by omega)
    have e1 : rd l ((j + (n + 2) : Nat) : Int) = l.getD (j + (n + 2)) 0 := by rw [rd_toNat, Int.toNat_natCast]
    have c6 : (decide (0 ≤ l.getD (j + (n + 2)) 0) && decide (l.getD (j + (n + 2)) 0 < 4294967296) && decide (0 ≤ c) && decide (c < 4294967296) && decide (0 ≤ b) && decide (b ≤ 1)) = true := by
      simp only [Bool.and_eq_true, decide_eq_true_eq]; omega
    have e2 : rd l3 ((j + (n + 2) : Nat) : Int) = l3.getD (j + (n + 2)) 0 := by rw [rd_toNat, Int.toNat_natCast]
    simp only [c1, c2, c3, c4, c5, e1, c6, cond_true, Int.toNat_natCast, hd, e2]
    cases inB ((j + (n + 2) : Nat) : Int) l3.length <;> rfl
  by_cases hb : l.getD (j + (n + 2)) 0 < c + b
  · -- one too many
    have hv := hval 1 (by omega)
    have hs := h.seg_of hlen (k1.trans s4) (k2.trans s5) hv
    rw [Int.mul_one] at hs
    have hgq : g = U u j n / V v + 1 := by
      have h1 : U u j n < g * V v := by omega
      have h2 : ¬ g ≤ U u j n / V v := fun hle => by
        have := Int.mul_le_mul_of_nonneg_right hle (show 0 ≤ V v by omega)
        omega
      have h3 : ¬ U u j n / V v + 2 ≤ g := fun hle => by
        have := Int.mul_le_mul_of_nonneg_right hle (show 0 ≤ V v by omega)
        rw [Int.add_mul] at this
        rw [Int.add_mul] at q2
        omega
      omega
    obtain ⟨e3, S3, hE3, rfl, b3, x3, l3, rfl, _, a2, a3, a4, a5, a6, a7, a8⟩ := addLoop h g r c b x l (l.set (j + (n + 2)) d) _ hlen hok (k1.trans s4) (k2.trans s5) rfl
    obtain ⟨tab, htab, hrun⟩ := hgen l3 b3 x3
    refine ⟨tab, htab, hrun.trans ?_⟩
    have hne : (b2i (decide (l.getD (j + (n + 2)) 0 < c + b)) == 0) = false := by rw [LessMag.b2i_lt, if_pos hb]; rfl
    rw [bF hne, bT (cdec_true hE3), bT (inB_iff.2 (by omega))]
    have hy := getD_ok W_pos a3 (j + (n + 2))
    obtain ⟨d3, hd3⟩ : ∃ d3, IntKind.u32.wrap (l3.getD (j + (n + 2)) 0 + b3) = d3 := ⟨_, rfl⟩
    rw [hd3]
    rw [wu32_mod] at hd3
    have hd30 : 0 ≤ d3 ∧ d3 < 4294967296 := by omega
    obtain ⟨m1, m2⟩ := set_same (l := l3) (d := d3) j (show j ≤ j + (n + 2) by omega) (show j + (n + 2) < j + (n + 3) by omega)
    have hlen3 : (l3.set (j + (n + 2)) d3).length = u.length := by rw [List.length_set]; exact a2
    have hok3 : okB 4294967296 (l3.set (j + (n + 2)) d3) = true := okB_set a3 hd30
    rw [List.take_of_length_le (by omega)] at a8
    have hval3 : ∀ o : Int, l3.getD (j + (n + 2)) 0 + b3 = d3 + 4294967296 * o → val 4294967296 (l3.set (j + (n + 2)) d3) = val 4294967296 u + 4294967296 ^ j * (- (g * V v) + V v + 4294967296 ^ (n + 3) * (1 - o)) := by
      intro o ho
      rw [val_set _ _ _ _ (by omega), a8, hv, show n + 2 + j = j + (n + 2) by omega]
      have e1 : d3 - l3.getD (j + (n + 2)) 0 = b3 - 4294967296 * o := by omega
      have e2 : (4294967296 : Int) ^ (j + (n + 2)) = 4294967296 ^ j * 4294967296 ^ (n + 2) := Int.pow_add ..
      have e3 : (4294967296 : Int) ^ (n + 3) = 4294967296 ^ (n + 2) * 4294967296 := Int.pow_succ ..
      rw [e1, e2, e3]
      generalize (4294967296 : Int) ^ j = P
      generalize (4294967296 : Int) ^ (n + 2) = Q
      show _ + P * V v - _ + _ = _
      generalize V v = VV
      grind
    have hmod : U u j n - g * V v + V v = U u j n % V v := by
      have := Int.emod_add_mul_ediv (U u j n) (V v)
      rw [hgq, Int.add_mul, Int.mul_comm (U u j n / V v)]
      omega
    have hm0 := Int.emod_nonneg (U u j n) (show V v ≠ 0 by omega)
    have hs3 : val 4294967296 (seg (l3.set (j + (n + 2)) d3) j (n + 3)) = U u j n % V v := by
      have hr1 := val_lt W_pos (okB_seg hok3 j (n + 3))
      rw [seg_length (by omega)] at hr1
      by_cases ho : l3.getD (j + (n + 2)) 0 + b3 < 4294967296
      · have := h.seg_of hlen3 (m1.trans a4) (m2.trans a5) (hval3 0 (by omega))
        rw [Int.sub_zero, Int.mul_one] at this
        omega
      · have := h.seg_of hlen3 (m1.trans a4) (m2.trans a5) (hval3 1 (by omega))
        rw [Int.sub_self, Int.mul_zero] at this
        omega
    rw [h.row hlen3 hok3 (m1.trans a4) (m2.trans a5) hs3, wu64 (by omega) (by omega), wu32 (by omega) (by omega)]
    unfold digQ
    rw [hn, show n + 2 + 1 = n + 3 by omega]
    have : g - 1 = val 4294967296 (seg u j (n + 3)) / val 4294967296 v := by
      have : U u j n / V v = val 4294967296 (seg u j (n + 3)) / val 4294967296 v := rfl
      omega
    rw [this]
  · obtain ⟨tab, htab, hrun⟩ := hgen [] 0 0
    refine ⟨tab, htab, hrun.trans ?_⟩
    have hne : (b2i (decide (l.getD (j + (n + 2)) 0 < c + b)) == 0) = true := by rw [LessMag.b2i_lt, if_neg hb]; rfl
    rw [bT hne]
    have hs := h.seg_of hlen (k1.trans s4) (k2.trans s5) (hval 0 (by omega))
    rw [Int.mul_zero, Int.add_zero] at hs
    have hgq : g = U u j n / V v := by
      have h1 : ¬ U u j n / V v + 1 ≤ g := fun hle => by
        have := Int.mul_le_mul_of_nonneg_right hle (show 0 ≤ V v by omega)
        omega
      omega
    have hs3 : val 4294967296 (seg (l.set (j + (n + 2)) d) j (n + 3)) = U u j n % V v := by
      have := Int.emod_add_mul_ediv (U u j n) (V v)
      rw [hs, hgq, Int.mul_comm (U u j n / V v)]
      omega
    rw [h.row hlen hok (k1.trans s4) (k2.trans s5) hs3]
    unfold digQ
    rw [hn, show n + 2 + 1 = n + 3 by omega, hgq]
end
end Digit
theorem meets_digit : Meets Tryd.prog 31 ansDigit := by
  refine meets_runM T_ok (orc_ok (l := Digit.ans) ⟨meets_sub32, meets_add32, trivial⟩) mixed (fn := Tryd.f31) Tryd.func31 (by kernel_rfl) (fun args r h => ?_) (fun row rest x y h => ?_)
  · unfold ansDigit at h
    split at h <;> simp only [Option.some.injEq, Prod.mk.injEq, reduceCtorEq] at h
    · exact ⟨_, _, h.2.symm⟩
    · exact ⟨_, _, h.2.symm⟩
  · unfold ansDigit at h
    split at h
    · rename_i heq; cases heq
    · rename_i u v j n heq
      cases heq
      simp only [Option.some.injEq, Prod.mk.injEq, Res.gave.injEq, digOk, Bool.and_eq_true, few_iff, decide_eq_true_eq] at h
      obtain ⟨⟨⟨⟨⟨⟨⟨⟨⟨⟨hu, hv⟩, ou⟩, ov⟩, hj⟩, hn⟩, hn2⟩, hjl⟩, htop⟩, hlt⟩, rfl, rfl⟩ := h
      obtain ⟨j, rfl⟩ := Int.eq_ofNat_of_zero_le hj
      obtain ⟨k, hk⟩ : ∃ k, v.length = k + 2 := ⟨v.length - 2, by omega⟩
      rw [Int.toNat_natCast] at hjl hlt
      have hp : Digit.Pre u v j k := ⟨ou, ov, hu, hk, by omega, by rw [hk] at htop; exact htop, by rw [hk] at hlt; exact hlt⟩
      obtain ⟨tab, h1, h2⟩ := Digit.finish hp
      rw [hn, hk, Int.toNat_natCast]
      exact runM_tab (h1 _) h2
    · cases h
end Go.Abs
end
section
/- What arith.splitMag answers. -/
namespace Go.Abs
open Go.Proofs Go.Dig
theorem cmpZ_lt (x y : Int) : cmpZ x y < 0 ↔ x < y := by
  unfold cmpZ; split
  · omega
  · split <;> omega
theorem digU_length {u v : List Int} {j : Nat} (h : j + v.length + 1 ≤ u.length) : (digU u v j).length = u.length := by
  unfold digU
  rw [List.length_append, List.length_append, List.length_take, digN_length, List.length_drop]
  omega
namespace SplitMag
/-- What stands there while the digits are found. -/
structure Pre (v : List Int) (A : Int) (lu m : Nat) : Prop where
  ov : okB 4294967296 v = true
  hv : 2 ≤ v.length
  top : 2147483648 ≤ v.getD (v.length - 1) 0
  hlu : lu = m + v.length + 1
  few : lu ≤ 100000
def Inv (v : List Int) (A : Int) (lu m : Nat) (i : Nat) (l q : List Int) : Prop :=
  i ≤ m + 1 ∧ l.length = lu ∧ okB 4294967296 l = true ∧ q.length = m + 1 ∧ okB 4294967296 (q.drop i) = true ∧
  A = val 4294967296 l + val 4294967296 v * (4294967296 ^ i * val 4294967296 (q.drop i)) ∧ val 4294967296 l < val 4294967296 v * 4294967296 ^ i
section
variable {v : List Int} {A : Int} {lu m : Nat}
theorem Pre.V_pos (h : Pre v A lu m) : 0 < val 4294967296 v := by
  have h1 := last_ge W_two h.ov (fun h0 => by
    have h2 := h.top
    have h3 := h.hv
    rw [List.getLast?_eq_getElem?] at h0
    rw [List.getD_eq_getElem?_getD, h0] at h2
    simp at h2) (fun h0 => by have := h.hv; rw [h0] at this; simp at this)
  have := Int.pow_pos (n := 4294967296) (m := v.length - 1) (by decide)
  omega
theorem Pre.next (h : Pre v A lu m) {j : Nat} {l q : List Int} (hI : Inv v A lu m (j + 1) l q) :
    digOk l v j v.length = true ∧ (digU l v j).length = l.length ∧ Inv v A lu m j (digU l v j) (q.set j (digQ l v j)) := by
  obtain ⟨h1, h2, h3, h4, h5, h6, h7⟩ := hI
  have hV := h.V_pos
  have hlu := h.hlu
  have hf := h.few
  have hv2 := h.hv
  have hs := seg_val 4294967296 l j (v.length + 1) (by omega)
  have hp : (0 : Int) < 4294967296 ^ j := Int.pow_pos (by decide)
  have n1 := val_nonneg W_pos (okB_take h3 j)
  have n2 := val_nonneg W_pos (okB_seg h3 j (v.length + 1))
  have n3 := val_nonneg W_pos (okB_drop h3 (j + (v.length + 1)))
  have n4 := val_lt W_pos (okB_take h3 j)
  rw [List.length_take, Nat.min_eq_left (by omega)] at n4
  have n5 := val_lt W_pos h.ov
  have hp2 : (0 : Int) < 4294967296 ^ (j + (v.length + 1)) := Int.pow_pos (by decide)
  have e1 : val 4294967296 v * 4294967296 ^ (j + 1) = 4294967296 ^ j * (4294967296 * val 4294967296 v) := by rw [Int.pow_succ]; grind
  rw [e1] at h7
  generalize hsg : val 4294967296 (seg l j (v.length + 1)) = S at *
  generalize hVV : val 4294967296 v = V at *
  -- nothing stands above
  have hdrop : val 4294967296 (l.drop (j + (v.length + 1))) = 0 := by
    refine Int.le_antisymm (Int.not_lt.1 (fun hgt => ?_)) n3
    have k1 : 4294967296 ^ (j + (v.length + 1)) * 1 ≤ 4294967296 ^ (j + (v.length + 1)) * val 4294967296 (l.drop (j + (v.length + 1))) := Int.mul_le_mul_of_nonneg_left (by omega) (by omega)
    have k2 : (4294967296 : Int) ^ j * (4294967296 * V) ≤ 4294967296 ^ j * (4294967296 * 4294967296 ^ v.length) := Int.mul_le_mul_of_nonneg_left (Int.mul_le_mul_of_nonneg_left (by omega) (by decide)) (by omega)
    have k3 : (4294967296 : Int) ^ (j + (v.length + 1)) = 4294967296 ^ j * (4294967296 * 4294967296 ^ v.length) := by rw [Int.pow_add, Int.pow_succ, Int.mul_comm (4294967296 ^ v.length)]
    have k4 : 0 ≤ 4294967296 ^ j * S := Int.mul_nonneg (by omega) n2
    omega
  rw [hdrop, Int.mul_zero, Int.add_zero] at hs
  have hlt : S < 4294967296 * V := by
    refine Int.not_le.1 (fun hge => ?_)
    have := Int.mul_le_mul_of_nonneg_left hge (show (0 : Int) ≤ 4294967296 ^ j by omega)
    omega
  have hq0 : 0 ≤ S / V := Int.ediv_nonneg n2 (by omega)
  have hq1 : S / V < 4294967296 := Int.ediv_lt_of_lt_mul hV (by omega)
  have hr0 := Int.emod_nonneg S (show V ≠ 0 by omega)
  have hr1 := Int.emod_lt_of_pos S hV
  have hde := Int.emod_add_mul_ediv S V
  have hQ : digQ l v j = S / V := by unfold digQ; rw [hsg, hVV]
  have hlen : (digU l v j).length = l.length := digU_length (by omega)
  have hVB : V < 4294967296 ^ (v.length + 1) := by
    rw [Int.pow_succ]
    have : (4294967296 : Int) ^ v.length * 1 ≤ 4294967296 ^ v.length * 4294967296 := Int.mul_le_mul_of_nonneg_left (by decide) (Int.pow_nonneg (by decide))
    omega
  have hU : val 4294967296 (digU l v j) = val 4294967296 (l.take j) + 4294967296 ^ j * (S % V) := by
    unfold digU
    rw [hsg, hVV, val_append, val_append, List.length_append, List.length_take, Nat.min_eq_left (by omega), digN_length, val_digN W_pos _ _ hr0 (by omega), Nat.add_assoc j v.length 1, hdrop, Int.mul_zero, Int.add_zero]
  have hok : okB 4294967296 (digU l v j) = true := by
    unfold digU
    exact okB_app (okB_app (okB_take h3 j) (digN_ok W_pos _ _)) (okB_drop h3 _)
  refine ⟨?_, hlen, by omega, by omega, hok, by rw [List.length_set]; exact h4, ?_, ?_, ?_⟩
  · unfold digOk
    simp only [Bool.and_eq_true, few_iff, decide_eq_true_eq, Int.toNat_natCast]
    rw [hsg, hVV]
    have ht := h.top
    refine ⟨⟨⟨⟨⟨⟨⟨⟨⟨by omega, by omega⟩, h3⟩, h.ov⟩, by omega⟩, trivial⟩, by omega⟩, by omega⟩, ht⟩, hlt⟩
  · rw [drop_set_cons q _ (by omega), hQ]
    exact okB_cons.2 ⟨⟨hq0, hq1⟩, h5⟩
  · rw [drop_set_cons q _ (by omega), hQ, hU, h6, hs]
    simp only [val]
    rw [Int.pow_succ]
    generalize val 4294967296 (q.drop (j + 1)) = X
    generalize val 4294967296 (l.take j) = Y
    generalize (4294967296 : Int) ^ j = P
    have : P * S = P * (S % V + V * (S / V)) := by rw [hde]
    rw [this]
    generalize S / V = a
    generalize S % V = b
    grind
  · rw [hU, hVV]
    have : 4294967296 ^ j * (S % V + 1) ≤ 4294967296 ^ j * V := Int.mul_le_mul_of_nonneg_left (by omega) (by omega)
    rw [Int.mul_add, Int.mul_one] at this
    rw [Int.mul_comm V]
    omega
end
theorem loop (a b : List Int) (s : Nat) (A : Int) (m : Nat) (hs : 32 - blen (rd b (IntKind.i64.wrap ((b.length : Int) - 1))) = (s : Int)) (lu : Nat) (b0 : Bool) (l q : List Int)
    (hvl : ((leftL b s).take b.length).length = b.length) (hP : Pre ((leftL b s).take b.length) A lu m) (hI : Inv ((leftL b s).take b.length) A lu m (m + 1) l q) :
    ∃ e S1, Ends T orc L0 D0 (st0 a b m b0 l q) e S1 ∧ (e = .exit 0 ∧ ∃ x b1 l q, S1 = st0 a b x b1 l q ∧ Inv ((leftL b s).take b.length) A lu m 0 l q) := by
  have key := loop_inv4 (T := T) (orc := orc) (L := L0) (D := D0) (fun (i : Nat) b1 l q => st0 a b ((i : Int) - 1) b1 l q) (fun i b1 l q => Inv ((leftL b s).take b.length) A lu m i l q) (fun i b1 l q => i)
    (fun e S1 => e = .exit 0 ∧ ∃ x b1 l q, S1 = st0 a b x b1 l q ∧ Inv ((leftL b s).take b.length) A lu m 0 l q) isL0 ?_ (m + 1) b0 l q hI
  · rw [show (((m + 1 : Nat) : Int) - 1) = (m : Int) by omega] at key
    exact key
  · intro i b1 l q hI
    refine ⟨noTab, noTab_all, lands_of (round0 ..) ?_⟩
    rw [hs, Int.toNat_natCast]
    cases i with
    | zero =>
      simp only [lands_bif, lands_some, lands_none, Turns1, Turns2, Turns3, Turns4, Turns5, Turns6, Turns7, Turns8, eq_bif, Option.some.injEq, reduceCtorEq, cond_true, cond_false, Bool.eq_false_iff, ne_eq, inB_iff, decide_eq_true_eq, Bool.and_eq_true, Bool.or_eq_true, Bool.not_eq_true', beq_iff_eq, bne_iff_ne, true_and, and_true, true_implies, implies_true, not_true_eq_false, not_false_eq_true, false_implies, few_iff]
      exact ⟨fun h => absurd h (by omega), fun _ => ⟨_, _, _, _, rfl, hI⟩⟩
    | succ i =>
      obtain ⟨k1, k2, k3⟩ := hP.next hI
      have e0 : (((i + 1 : Nat) : Int) - 1) = (i : Int) := by omega
      have hq := hI.2.2.2.1
      have hi := hI.1
      have hfew := hP.few
      have hlu := hP.hlu
      have k2b : Nat.beq (digU l ((leftL b s).take b.length) i).length l.length = true := by rw [k2]; exact Nat.beq_refl _
      rw [e0]
      simp only [Int.toNat_natCast, k1, k2b, Bool.and_true, cond_true]
      simp only [lands_bif, lands_some, lands_none, Turns1, Turns2, Turns3, Turns4, Turns5, Turns6, Turns7, Turns8, eq_bif, Option.some.injEq, reduceCtorEq, cond_true, cond_false, Bool.eq_false_iff, ne_eq, inB_iff, decide_eq_true_eq, Bool.and_eq_true, Bool.or_eq_true, Bool.not_eq_true', beq_iff_eq, bne_iff_ne, true_and, and_true, true_implies, implies_true, not_true_eq_false, not_false_eq_true, false_implies, few_iff]
      repeat' (first | apply And.intro | intro _)
      all_goals try omega
      exact ⟨i, _, _, _, by rw [w64 (by omega) (by omega)], k3, by omega⟩
theorem shift_ok {b : List Int} (hb : cl 4294967296 b = true) (hv : 0 < val 4294967296 b) (h2 : 2 ≤ b.length) : ∃ s : Nat, s ≤ 31 ∧ 32 - blen (b.getD (b.length - 1) 0) = (s : Int) ∧
    (leftL b s).take b.length = digN 4294967296 b.length (val 4294967296 b * 2 ^ s) ∧ val 4294967296 b * 2 ^ s < 4294967296 ^ b.length ∧ 2147483648 * 4294967296 ^ (b.length - 1) ≤ val 4294967296 b * 2 ^ s := by
  have ob := cl_ok W_two hb
  have ht := getD_ok W_pos ob (b.length - 1)
  have hne : b.getD (b.length - 1) 0 ≠ 0 := by
    have hl := cl_last hb
    rw [List.getLast?_eq_getElem?] at hl
    intro h0
    rw [List.getD_eq_getElem?_getD, List.getElem?_eq_getElem (by omega)] at h0
    rw [List.getElem?_eq_getElem (by omega)] at hl
    exact hl (congrArg some h0)
  have hd : val 4294967296 b = val 4294967296 (b.take (b.length - 1)) + 4294967296 ^ (b.length - 1) * b.getD (b.length - 1) 0 := by
    have := val_take_succ 4294967296 b (b.length - 1)
    rw [show b.length - 1 + 1 = b.length by omega, List.take_of_length_le (Nat.le_refl _)] at this
    exact this
  have hlo0 := val_nonneg W_pos (okB_take ob (b.length - 1))
  have hlo1 := val_lt W_pos (okB_take ob (b.length - 1))
  rw [List.length_take, Nat.min_eq_left (by omega)] at hlo1
  obtain ⟨c1, c2, c3⟩ := blen_pow (show 0 < b.getD (b.length - 1) 0 by omega)
  generalize htt : b.getD (b.length - 1) 0 = t at *
  have hle : blen t ≤ 32 := by
    refine Int.not_lt.1 (fun hgt => ?_)
    have : (2 : Int) ^ 32 ≤ 2 ^ (blen t - 1).toNat := by
      obtain ⟨k, hk⟩ : ∃ k, (blen t - 1).toNat = 32 + k := ⟨(blen t - 1).toNat - 32, by omega⟩
      rw [hk, Int.pow_add]
      have : (0 : Int) < 2 ^ k := Int.pow_pos (by decide)
      have h6 : (2 : Int) ^ 32 * 1 ≤ 2 ^ 32 * 2 ^ k := Int.mul_le_mul_of_nonneg_left (by omega) (by decide)
      omega
    have e : (2 : Int) ^ 32 = 4294967296 := rfl
    omega
  obtain ⟨s, hs⟩ : ∃ s : Nat, 32 - blen t = (s : Int) := ⟨(32 - blen t).toNat, by omega⟩
  have hs31 : s ≤ 31 := by omega
  obtain ⟨p1, p2⟩ := two_pow_31 hs31
  have hb1 : (blen t).toNat = 32 - s := by omega
  have hb2 : (blen t - 1).toNat = 31 - s := by omega
  rw [hb1] at c3
  rw [hb2] at c2
  have e32 := two_pow_32 hs31
  have e31 : (2 : Int) ^ s * 2 ^ (31 - s) = 2147483648 := by rw [← Int.pow_add, show s + (31 - s) = 31 by omega]; rfl
  have d1 : 2 ^ s * (t + 1) ≤ 2 ^ s * 2 ^ (32 - s) := Int.mul_le_mul_of_nonneg_left (by omega) (by omega)
  have d2 : (2 : Int) ^ s * 2 ^ (31 - s) ≤ 2 ^ s * t := Int.mul_le_mul_of_nonneg_left c2 (by omega)
  rw [e32] at d1
  rw [e31] at d2
  have hP : (0 : Int) < 4294967296 ^ (b.length - 1) := Int.pow_pos (by decide)
  have hPl : (4294967296 : Int) ^ b.length = 4294967296 ^ (b.length - 1) * 4294967296 := by rw [← Int.pow_succ, show (b.length - 1).succ = b.length by omega]
  have g1 : val 4294967296 b * 2 ^ s < 4294967296 ^ b.length := by
    have q1 : (val 4294967296 b + 1) * 2 ^ s ≤ (4294967296 ^ (b.length - 1) * (t + 1)) * 2 ^ s := Int.mul_le_mul_of_nonneg_right (by rw [Int.mul_add, Int.mul_one]; omega) (by omega)
    have q2 : (4294967296 ^ (b.length - 1) * (t + 1)) * 2 ^ s ≤ 4294967296 ^ (b.length - 1) * 4294967296 := by
      have : (4294967296 ^ (b.length - 1) * (t + 1)) * 2 ^ s = 4294967296 ^ (b.length - 1) * (2 ^ s * (t + 1)) := by grind
      rw [this]
      exact Int.mul_le_mul_of_nonneg_left d1 (by omega)
    rw [Int.add_mul, Int.one_mul] at q1
    omega
  have g2 : 2147483648 * 4294967296 ^ (b.length - 1) ≤ val 4294967296 b * 2 ^ s := by
    have q1 : (4294967296 ^ (b.length - 1) * t) * 2 ^ s ≤ val 4294967296 b * 2 ^ s := Int.mul_le_mul_of_nonneg_right (by omega) (by omega)
    have q2 : 4294967296 ^ (b.length - 1) * 2147483648 ≤ 4294967296 ^ (b.length - 1) * (2 ^ s * t) := Int.mul_le_mul_of_nonneg_left d2 (by omega)
    have : (4294967296 ^ (b.length - 1) * t) * 2 ^ s = 4294967296 ^ (b.length - 1) * (2 ^ s * t) := by grind
    rw [Int.mul_comm 2147483648]
    omega
  refine ⟨s, hs31, hs, ?_, g1, g2⟩
  unfold leftL
  rw [Int.toNat_natCast, digN_succ W_pos, List.take_append_of_le_length (by rw [digN_length]; exact Nat.le_refl _), List.take_of_length_le (by rw [digN_length]; exact Nat.le_refl _)]
end SplitMag
theorem meets_splitMag : Meets Tryd.prog 22 ansSplitMag := by
  refine meets_fn (orc_ok (l := SplitMag.ans) ⟨meets_cmpMag, meets_part, meets_lz32, meets_left, meets_right, meets_digit, trivial⟩) Tryd.f22 Tryd.func22 (by kernel_rfl) (fun args r h => ?_)
  unfold ansSplitMag at h
  split at h
  · rename_i a b
    simp only [Option.some.injEq, Prod.mk.injEq, Bool.and_eq_true, decide_eq_true_eq] at h
    obtain ⟨⟨⟨⟨ha, hb⟩, hv⟩, hla⟩, rfl⟩ := h
    have oa := cl_ok W_two ha
    have ob := cl_ok W_two hb
    have la := (cl_iff.1 ha).1
    have lb := (cl_iff.1 hb).1
    have fa : few a = true := few_iff.2 la
    have fb : few b = true := few_iff.2 lb
    have va0 := val_nonneg W_pos oa
    refine ⟨rfl, ?_⟩
    by_cases hlt : val 4294967296 a < val 4294967296 b
    · refine ⟨_, tabOf_all _, (SplitMag.rest a b [] [] 0 false).trans ?_⟩
      rw [ha, hb, decide_eq_true ((cmpZ_lt _ _).2 hlt)]
      simp only [Bool.and_self, cond_true, splitQ, splitR, decide_eq_true hlt]
    · have hge : val 4294967296 b ≤ val 4294967296 a := by omega
      have hll : b.length ≤ a.length := Nat.not_lt.1 (fun h => by
        have := val_lt_of_length W_two oa ob (cl_last hb) h
        omega)
      have hbn : b ≠ [] := fun h => by rw [h] at hv; simp [val] at hv
      have hb0 : 0 < b.length := List.length_pos_iff.2 hbn
      by_cases h1 : b.length = 1
      · refine ⟨_, tabOf_all _, (SplitMag.rest a b [] [] 0 false).trans ?_⟩
        obtain ⟨d, rfl⟩ : ∃ d, b = [d] := by
          match b, h1 with
          | [d], _ => exact ⟨d, rfl⟩
        rw [val_one] at hlt hge hv
        have hd := okB_iff.1 ob d (by simp)
        rw [ha, hb, decide_eq_false (fun h => hlt (by have := (cmpZ_lt _ _).1 h; rw [val_one] at this; exact this)), fa, oa]
        have er : rd [d] 0 = d := rfl
        rw [er, decide_eq_true hv, decide_eq_true hd.2]
        simp only [splitQ, splitR, val_one, decide_eq_false hlt, List.length_singleton, digN]
        have hm0 := Int.emod_nonneg (val 4294967296 a) (show d ≠ 0 by omega)
        have hm1 := Int.emod_lt_of_pos (val 4294967296 a) hv
        rw [Int.emod_eq_of_lt hm0 (by omega)]
        rfl
      · have h2 : 2 ≤ b.length := by omega
        obtain ⟨s, hs31, hs, hvd, hb1, hb2⟩ := SplitMag.shift_ok hb hv h2
        obtain ⟨p1, p2⟩ := two_pow_31 hs31
        have ew : IntKind.i64.wrap ((b.length : Int) - 1) = ((b.length - 1 : Nat) : Int) := by rw [w64 (by omega) (by omega)]; omega
        have hs2 : 32 - blen (rd b (IntKind.i64.wrap ((b.length : Int) - 1))) = (s : Int) := by rw [ew, rd_toNat, Int.toNat_natCast]; exact hs
        have hvl : ((leftL b s).take b.length).length = b.length := by rw [hvd, digN_length]
        have hvb0 : 0 ≤ val 4294967296 b * 2 ^ s := Int.mul_nonneg (by omega) (by omega)
        have hvv : val 4294967296 ((leftL b s).take b.length) = val 4294967296 b * 2 ^ s := by rw [hvd, val_digN W_pos _ _ hvb0 hb1]
        have hvo : okB 4294967296 ((leftL b s).take b.length) = true := by rw [hvd]; exact digN_ok W_pos _ _
        have hA0 : 0 ≤ val 4294967296 a * 2 ^ s := Int.mul_nonneg va0 (by omega)
        have hA1 : val 4294967296 a * 2 ^ s < 4294967296 ^ a.length * 2 ^ s := Int.mul_lt_mul_of_pos_right (val_lt W_pos oa) (by omega)
        have hPa : (0 : Int) < 4294967296 ^ a.length := Int.pow_pos (by decide)
        have hA2 : val 4294967296 a * 2 ^ s < 4294967296 ^ (a.length + 1) := by
          rw [Int.pow_succ]
          have : (4294967296 : Int) ^ a.length * 2 ^ s ≤ 4294967296 ^ a.length * 4294967296 := Int.mul_le_mul_of_nonneg_left (by omega) (by omega)
          omega
        have hul : (leftL a s).length = a.length + 1 := by unfold leftL; rw [digN_length]
        have huo : okB 4294967296 (leftL a s) = true := by unfold leftL; exact digN_ok W_pos _ _
        have huv : val 4294967296 (leftL a s) = val 4294967296 a * 2 ^ s := by unfold leftL; rw [Int.toNat_natCast, val_digN W_pos _ _ hA0 hA2]
        have htop : 2147483648 ≤ ((leftL b s).take b.length).getD (((leftL b s).take b.length).length - 1) 0 := by
          rw [hvl]
          generalize (leftL b s).take b.length = v at *
          have hd : val 4294967296 v = val 4294967296 (v.take (b.length - 1)) + 4294967296 ^ (b.length - 1) * v.getD (b.length - 1) 0 := by
            have := val_take_succ 4294967296 v (b.length - 1)
            rw [show b.length - 1 + 1 = b.length by omega, List.take_of_length_le (by omega)] at this
            exact this
          have hlo1 := val_lt W_pos (okB_take hvo (b.length - 1))
          rw [List.length_take, Nat.min_eq_left (by omega)] at hlo1
          refine Int.not_lt.1 (fun hgt => ?_)
          have : 4294967296 ^ (b.length - 1) * (v.getD (b.length - 1) 0 + 1) ≤ 4294967296 ^ (b.length - 1) * 2147483648 := Int.mul_le_mul_of_nonneg_left (by omega) (Int.pow_nonneg (by decide))
          rw [Int.mul_add, Int.mul_one] at this
          rw [Int.mul_comm 2147483648] at hb2
          omega
        have hP : SplitMag.Pre ((leftL b s).take b.length) (val 4294967296 a * 2 ^ s) (a.length + 1) (a.length - b.length) := ⟨hvo, by omega, htop, by rw [hvl]; omega, by omega⟩
        have hI0 : SplitMag.Inv ((leftL b s).take b.length) (val 4294967296 a * 2 ^ s) (a.length + 1) (a.length - b.length) (a.length - b.length + 1) (leftL a s) (zeros (a.length - b.length + 1)) := by
          refine ⟨Nat.le_refl _, hul, huo, by simp, ?_, ?_, ?_⟩
          · rw [List.drop_of_length_le (by simp)]; rfl
          · rw [List.drop_of_length_le (by simp), huv]; simp [val]
          · rw [huv, hvv]
            have k1 : 2147483648 * 4294967296 ^ (b.length - 1) * 4294967296 ^ (a.length - b.length + 1) ≤ val 4294967296 b * 2 ^ s * 4294967296 ^ (a.length - b.length + 1) := Int.mul_le_mul_of_nonneg_right hb2 (Int.pow_nonneg (by decide))
            rw [Int.mul_assoc, ← Int.pow_add, show b.length - 1 + (a.length - b.length + 1) = a.length by omega] at k1
            have k2 : (4294967296 : Int) ^ a.length * 2 ^ s ≤ 4294967296 ^ a.length * 2147483648 := Int.mul_le_mul_of_nonneg_left p2 (by omega)
            rw [Int.mul_comm _ 2147483648] at k2
            omega
        obtain ⟨e1, S1, hE1, rfl, x, b1, l, q, rfl, _, r2, r3, r4, r5, r6, r7⟩ := SplitMag.loop a b s _ _ hs2 _ true _ _ hvl hP hI0
        rw [List.drop_zero] at r5 r6
        rw [Int.pow_zero, Int.one_mul, hvv] at r6
        rw [Int.pow_zero, Int.mul_one, hvv] at r7
        have rl0 := val_nonneg W_pos r3
        have hbs : 0 < val 4294967296 b * 2 ^ s := Int.mul_pos hv (by omega)
        have hq : val 4294967296 q = val 4294967296 a / val 4294967296 b := by
          have k1 : val 4294967296 a * 2 ^ s / (val 4294967296 b * 2 ^ s) = val 4294967296 a / val 4294967296 b := Int.mul_ediv_mul_of_pos_left _ _ (by omega)
          rw [← k1, r6, Int.add_mul_ediv_left _ _ (by omega), Int.ediv_eq_zero_of_lt rl0 r7, Int.zero_add]
        have hr : val 4294967296 l = val 4294967296 a % val 4294967296 b * 2 ^ s := by
          have k1 := Int.emod_add_mul_ediv (val 4294967296 a) (val 4294967296 b)
          rw [hq] at r6
          have k2 : (val 4294967296 a % val 4294967296 b + val 4294967296 b * (val 4294967296 a / val 4294967296 b)) * 2 ^ s = val 4294967296 l + val 4294967296 b * 2 ^ s * (val 4294967296 a / val 4294967296 b) := by rw [k1]; exact r6
          rw [Int.add_mul] at k2
          have k3 : val 4294967296 b * (val 4294967296 a / val 4294967296 b) * 2 ^ s = val 4294967296 b * 2 ^ s * (val 4294967296 a / val 4294967296 b) := by grind
          omega
        have hlt2 : val 4294967296 (l.take b.length) = val 4294967296 l := by
          have k1 : val 4294967296 l = val 4294967296 (l.take b.length) + 4294967296 ^ b.length * val 4294967296 (l.drop b.length) := by
            conv => lhs; rw [← List.take_append_drop b.length l]
            rw [val_append, List.length_take, Nat.min_eq_left (by omega)]
          have k2 := val_nonneg W_pos (okB_drop r3 b.length)
          have k3 := val_nonneg W_pos (okB_take r3 b.length)
          have k4 : val 4294967296 (l.drop b.length) = 0 := by
            refine Int.le_antisymm (Int.not_lt.1 (fun hgt => ?_)) k2
            have : (4294967296 : Int) ^ b.length * 1 ≤ 4294967296 ^ b.length * val 4294967296 (l.drop b.length) := Int.mul_le_mul_of_nonneg_left (by omega) (Int.pow_nonneg (by decide))
            omega
          rw [k4, Int.mul_zero, Int.add_zero] at k1
          exact k1.symm
        refine ⟨_, tabOf_all _, (SplitMag.rest a b q l x b1).trans ?_⟩
        have htl := getD_ok W_pos ob (b.length - 1)
        have em1 : IntKind.i64.wrap (((a.length + 1 : Nat) : Int) - (b.length : Int)) = ((a.length + 1 - b.length : Nat) : Int) := by rw [w64 (by omega) (by omega)]; omega
        have em2 : IntKind.i64.wrap (((a.length + 1 - b.length : Nat) : Int) - 1) = ((a.length - b.length : Nat) : Int) := by rw [w64 (by omega) (by omega)]; omega
        have em3 : IntKind.i64.wrap (((a.length - b.length : Nat) : Int) + 1) = ((a.length - b.length + 1 : Nat) : Int) := by rw [w64 (by omega) (by omega)]; omega
        have hlb2 : (leftL b s).length = b.length + 1 := by unfold leftL; rw [digN_length]
        have hc1 : decide (cmpZ (val 4294967296 a) (val 4294967296 b) < 0) = false := decide_eq_false (fun h => hlt ((cmpZ_lt _ _).1 h))
        have hc2 : ((b.length : Int) == 1) = false := by rw [beq_eq_false_iff_ne]; omega
        have hc3 : inB ((b.length - 1 : Nat) : Int) b.length = true := inB_iff.2 (by omega)
        have hft : few (l.take b.length) = true := few_iff.2 (by rw [List.length_take]; omega)
        rw [hs2, ew]
        simp only [Int.toNat_natCast, hvl, hul, em1, em2, em3, cdec_true hE1, ha, hb, hc1, hc2, hc3, fa, fb, oa, ob, hft, okB_take r3, hlb2, rd_toNat, decide_eq_true htl.1, decide_eq_true htl.2, decide_eq_true (show (0 : Int) ≤ (s : Int) by omega), decide_eq_true (show (s : Int) ≤ 31 by omega), decide_eq_true (show (b.length : Int) ≤ ((b.length + 1 : Nat) : Int) by omega), decide_eq_true (show (0 : Int) ≤ ((a.length - b.length + 1 : Nat) : Int) by omega), decide_eq_true (Int.le_refl ((a.length - b.length + 1 : Nat) : Int)), decide_eq_true (show (a.length - b.length + 1) * 4 ≤ 281474976710656 by omega), decide_eq_true (show (b.length : Int) ≤ (l.length : Int) by omega)]
        simp only [Bool.and_self, cond_true, cond_false, splitQ, splitR, decide_eq_false hlt]
        have hc4 : (b.length == 1) = false := by rw [beq_eq_false_iff_ne]; omega
        rw [hc4]
        simp only [cond_false]
        rw [show q = digN 4294967296 (a.length - b.length + 1) (val 4294967296 a / val 4294967296 b) from dig_eq W_pos r5 r4 hq]
        have : rightL (l.take b.length) (s : Int) = digN 4294967296 b.length (val 4294967296 a % val 4294967296 b) := by
          unfold rightL
          rw [hlt2, hr, Int.toNat_natCast, List.length_take, Nat.min_eq_left (by omega), Int.mul_ediv_cancel _ (by omega)]
        rw [this]
  · cases h
end Go.Abs
end
section
/- What arith's functions answer, in whole numbers: signs, bits, sums, products. -/
namespace Go.Abs
open Go.Proofs Go.Dig
theorem val_lb (z : Int) : val 4294967296 (lb 4294967296 z) = az z := lb_val W_two z
theorem num_lbW (z : Int) : num 4294967296 (sg z) (lb 4294967296 z) = z := num_lb W_two z
theorem okW_lb (z : Int) : okB 4294967296 (lb 4294967296 z) = true := lb_ok W_two z
theorem cnW (z : Int) : cn 4294967296 (sg z) (lb 4294967296 z) = decide (z.natAbs < Lim) := cn_lb W_two z
theorem clW {z : Int} (h : z.natAbs < Lim) : cl 4294967296 (lb 4294967296 z) = true := cl_lb h
theorem fewW {z : Int} (h : z.natAbs < Lim) : few (lb 4294967296 z) = true := few_lb h
theorem az_nonneg (z : Int) : 0 ≤ az z := by unfold az; omega
theorem meets_sign : Meets Tryd.prog 12 ansSign := by
  refine meets_fn noOrc_ok Tryd.f12 Tryd.func12 (by kernel_rfl) (fun args r h => ?_)
  unfold ansSign at h
  split at h
  · rename_i s l
    simp only [Option.some.injEq, Prod.mk.injEq] at h
    obtain ⟨h, rfl⟩ := h
    obtain ⟨z, rfl, rfl, hz⟩ := (cn_iff W_two).1 h
    refine ⟨rfl, _, noTab_all, (Sign.rest _ _).trans ?_⟩
    have hnil := lb_nil W_two (z := z)
    rw [num_lbW]
    unfold cmpZ
    by_cases h0 : z = 0
    · subst h0; rfl
    · have : ((lb 4294967296 z).length : Int) ≠ 0 := by
        intro h; exact h0 (hnil.1 (List.eq_nil_of_length_eq_zero (by omega)))
      have e1 : (((lb 4294967296 z).length : Int) == 0) = false := by rw [beq_eq_false_iff_ne]; exact this
      rw [e1]
      unfold sg
      by_cases h1 : z < 0
      · rw [decide_eq_true h1, if_pos h1]; rfl
      · rw [decide_eq_false h1, if_neg h1, if_pos (by omega)]; rfl
  · cases h
theorem okB_two {B x y : Int} (hx : 0 ≤ x ∧ x < B) (hy : 0 ≤ y ∧ y < B) : okB B [x, y] = true := okB_cons.2 ⟨hx, okB_one hy⟩
theorem meets_from : Meets Tryd.prog 4 ansFrom := by
  refine meets_fn (orc_ok (l := From.ans) ⟨meets_norm, trivial⟩) Tryd.f4 Tryd.func4 (by kernel_rfl) (fun args r h => ?_)
  unfold ansFrom at h
  split at h
  · rename_i n
    simp only [Option.some.injEq, Prod.mk.injEq, i64B, Bool.and_eq_true, decide_eq_true_eq] at h
    obtain ⟨⟨h0, h1⟩, rfl⟩ := h
    refine ⟨rfl, _, noTab_all, (From.rest n).trans ?_⟩
    have key : ∀ u : Int, 0 ≤ u → u ≤ 18446744073709551615 → okB 4294967296 [IntKind.u32.wrap u, IntKind.u32.wrap (u.fdiv (2 ^ 32))] = true ∧ val 4294967296 [IntKind.u32.wrap u, IntKind.u32.wrap (u.fdiv (2 ^ 32))] = u := by
      intro u u0 u1
      rw [fdiv32, wu32_mod, wu32_mod]
      refine ⟨okB_two (by omega) (by omega), ?_⟩
      simp only [val]
      omega
    by_cases hn : n < 0
    · have e1 : IntKind.u64.wrap (0 - IntKind.u64.wrap n) = -n := by rw [wu64_mod, wu64_mod]; omega
      obtain ⟨k1, k2⟩ := key (-n) (by omega) (by omega)
      rw [decide_eq_true hn, e1, k1]
      have : num 4294967296 true [IntKind.u32.wrap (-n), IntKind.u32.wrap ((-n).fdiv (2 ^ 32))] = n := by
        unfold num; rw [k2]; simp
      rw [this]
      rfl
    · have e1 : IntKind.u64.wrap n = n := wu64 (by omega) (by omega)
      obtain ⟨k1, k2⟩ := key n (by omega) (by omega)
      rw [decide_eq_false hn, e1, k1]
      have : num 4294967296 false [IntKind.u32.wrap n, IntKind.u32.wrap (n.fdiv (2 ^ 32))] = n := by
        unfold num; rw [k2]; simp
      rw [this]
      rfl
  · cases h
theorem meets_abs : Meets Tryd.prog 21 ansAbs := by
  refine meets_fn (orc_ok (l := Abs_.ans) ⟨meets_norm, trivial⟩) Tryd.f21 Tryd.func21 (by kernel_rfl) (fun args r h => ?_)
  unfold ansAbs at h
  split at h
  · rename_i s l
    simp only [Option.some.injEq, Prod.mk.injEq] at h
    obtain ⟨h, rfl⟩ := h
    obtain ⟨z, rfl, rfl, hz⟩ := (cn_iff W_two).1 h
    refine ⟨rfl, _, noTab_all, (Abs_.rest _ _).trans ?_⟩
    have : num 4294967296 false (lb 4294967296 z) = az z := by unfold num; rw [val_lb]; rfl
    rw [num_lbW, fewW hz, okW_lb, this]
    rfl
  · cases h
end Go.Abs
end
section
/- What arith's functions answer, in whole numbers: sums, products, quotients, common divisors. -/
namespace Go.Abs
open Go.Proofs Go.Dig
/-- The number of a sign and a list with a value. -/
theorem num_of {B : Int} {s : Bool} {l : List Int} {v : Int} (h : val B l = v) : num B s l = bif s then -v else v := by unfold num; rw [h]
theorem plusL_len (a b : List Int) : (plusL a b).length = max a.length b.length + 1 := digN_length ..
theorem lessL_len (a b : List Int) : (lessL a b).length = a.length := digN_length ..
theorem plusL_ok (a b : List Int) : okB 4294967296 (plusL a b) = true := digN_ok W_pos _ _
theorem lessL_ok (a b : List Int) : okB 4294967296 (lessL a b) = true := digN_ok W_pos _ _
theorem pow_mono {B : Int} (hB : 1 ≤ B) {m n : Nat} (h : m ≤ n) : B ^ m ≤ B ^ n := by
  obtain ⟨k, rfl⟩ : ∃ k, n = m + k := ⟨n - m, by omega⟩
  rw [Int.pow_add]
  have h1 : (0 : Int) < B ^ k := Int.pow_pos (by omega)
  have h2 : (0 : Int) ≤ B ^ m := Int.pow_nonneg (by omega)
  have : B ^ m * 1 ≤ B ^ m * B ^ k := Int.mul_le_mul_of_nonneg_left (by omega) h2
  omega
theorem plusL_val {a b : List Int} (ha : okB 4294967296 a = true) (hb : okB 4294967296 b = true) : val 4294967296 (plusL a b) = val 4294967296 a + val 4294967296 b := by
  have a0 := val_nonneg W_pos ha
  have b0 := val_nonneg W_pos hb
  have a1 := val_lt W_pos ha
  have b1 := val_lt W_pos hb
  have a2 := pow_mono (B := 4294967296) (by decide) (Nat.le_max_left a.length b.length)
  have b2 := pow_mono (B := 4294967296) (by decide) (Nat.le_max_right a.length b.length)
  unfold plusL
  refine val_digN W_pos _ _ (by omega) ?_
  rw [Int.pow_succ]
  have : (0 : Int) < 4294967296 ^ max a.length b.length := Int.pow_pos (by decide)
  omega
theorem lessL_val {a b : List Int} (ha : okB 4294967296 a = true) (hb : okB 4294967296 b = true) (h : val 4294967296 b ≤ val 4294967296 a) : val 4294967296 (lessL a b) = val 4294967296 a - val 4294967296 b := by
  have b0 := val_nonneg W_pos hb
  have a1 := val_lt W_pos ha
  exact val_digN W_pos _ _ (by omega) (by omega)
/-- Signs and amounts. -/
theorem sg_cases (z : Int) : (sg z = true ∧ z < 0 ∧ az z = -z) ∨ (sg z = false ∧ 0 ≤ z ∧ az z = z) := by
  unfold sg az
  by_cases h : z < 0
  · exact .inl ⟨decide_eq_true h, h, by omega⟩
  · exact .inr ⟨decide_eq_false h, by omega, by omega⟩
theorem lb_len_le {x y : Int} (h : az x ≤ az y) : (lb 4294967296 x).length ≤ (lb 4294967296 y).length := by
  refine Nat.not_lt.1 (fun hlt => ?_)
  have := val_lt_of_length W_two (okW_lb y) (okW_lb x) (lb_last _ _) hlt
  rw [val_lb, val_lb] at this
  omega
theorem meets_plus : Meets Tryd.prog 23 ansPlus := by
  refine meets_fn (orc_ok (l := Plus.ans) ⟨meets_norm, meets_cmpMag, meets_plusMag, meets_lessMag meets_sub32, trivial⟩) Tryd.f23 Tryd.func23 (by kernel_rfl) (fun args r h => ?_)
  unfold ansPlus at h
  split at h
  · rename_i s l t m
    simp only [Option.some.injEq, Prod.mk.injEq, Bool.and_eq_true] at h
    obtain ⟨⟨h, k⟩, rfl⟩ := h
    obtain ⟨x, rfl, rfl, hx⟩ := (cn_iff W_two).1 h
    obtain ⟨y, rfl, rfl, hy⟩ := (cn_iff W_two).1 k
    refine ⟨rfl, _, noTab_all, (Plus.rest _ _ _ _).trans ?_⟩
    have lx := lb_length hx
    have ly := lb_length hy
    have f1 : few (plusL (lb 4294967296 x) (lb 4294967296 y)) = true := few_iff.2 (by rw [plusL_len]; omega)
    have f2 : few (lessL (lb 4294967296 x) (lb 4294967296 y)) = true := few_iff.2 (by rw [lessL_len]; omega)
    have f3 : few (lessL (lb 4294967296 y) (lb 4294967296 x)) = true := few_iff.2 (by rw [lessL_len]; omega)
    have hge : cmpZ (az x) (az y) ≥ 0 ↔ az y ≤ az x := by have := cmpZ_lt (az x) (az y); omega
    rw [num_lbW, num_lbW]
    simp only [fewW hx, fewW hy, okW_lb, clW hx, clW hy, f1, f2, f3, plusL_ok, lessL_ok, val_lb, Bool.and_self, Bool.true_and, cond_true]
    by_cases hc : az y ≤ az x
    · have d1 : decide (cmpZ (az x) (az y) ≥ 0) = true := decide_eq_true (hge.2 hc)
      have e2 : val 4294967296 (lessL (lb 4294967296 x) (lb 4294967296 y)) = az x - az y := by rw [lessL_val (okW_lb x) (okW_lb y) (by rw [val_lb, val_lb]; exact hc), val_lb, val_lb]
      have e1 : val 4294967296 (plusL (lb 4294967296 x) (lb 4294967296 y)) = az x + az y := by rw [plusL_val (okW_lb x) (okW_lb y), val_lb, val_lb]
      rw [d1, decide_eq_true (lb_len_le hc), decide_eq_true hc, num_of e1, num_of e2]
      rcases sg_cases x with ⟨a1, a2, a3⟩ | ⟨a1, a2, a3⟩ <;> rcases sg_cases y with ⟨b1, b2, b3⟩ | ⟨b1, b2, b3⟩ <;> rw [a1, b1, a3, b3] <;> simp only [beq_self_eq_true, Bool.and_self, cond_true, cond_false, Bool.true_beq, Bool.false_beq, Bool.not_true, Bool.not_false] <;> congr 4 <;> omega
    · have d1 : decide (cmpZ (az x) (az y) ≥ 0) = false := decide_eq_false (fun h => hc (hge.1 h))
      have hc2 : az x ≤ az y := by omega
      have e2 : val 4294967296 (lessL (lb 4294967296 y) (lb 4294967296 x)) = az y - az x := by rw [lessL_val (okW_lb y) (okW_lb x) (by rw [val_lb, val_lb]; exact hc2), val_lb, val_lb]
      have e1 : val 4294967296 (plusL (lb 4294967296 x) (lb 4294967296 y)) = az x + az y := by rw [plusL_val (okW_lb x) (okW_lb y), val_lb, val_lb]
      rw [d1, decide_eq_true (lb_len_le hc2), decide_eq_true hc2, num_of e1, num_of e2]
      rcases sg_cases x with ⟨a1, a2, a3⟩ | ⟨a1, a2, a3⟩ <;> rcases sg_cases y with ⟨b1, b2, b3⟩ | ⟨b1, b2, b3⟩ <;> rw [a1, b1, a3, b3] <;> simp only [beq_self_eq_true, Bool.and_self, cond_true, cond_false, Bool.true_beq, Bool.false_beq, Bool.not_true, Bool.not_false] <;> congr 4 <;> omega
  · cases h
end Go.Abs
end
