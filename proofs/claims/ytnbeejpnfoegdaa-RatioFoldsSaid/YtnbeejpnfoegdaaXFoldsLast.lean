/- The row RatioFolds: whatever the arguments, the statement answers true, and what was there is as it was. No conditions. -/
import Derived.Test.YtnbeejpnfoegdaaXBase5
import Derived.WalkKit
import Derived.ProofKit
import Derived.OpenShut
import Derived.ShutString
import Derived.ChangeOld
import Derived.Carry
import Derived.SizedLaws
import Derived.SliceStrings
import Derived.Test.YtnbeejpnfoegdaaRows
set_option linter.unusedVariables false
set_option linter.unusedSimpArgs false
set_option linter.unnecessarySimpa false
set_option linter.unusedSectionVars false
section
/- From tables of answers to the given rows: a call that answers true leaves what was there; how an argument's datum is read. -/
namespace Go.Abs
open Go.RowKit Go.ChangeShapes Go.WideShapes Go.ChangeAt
theorem calls_true {P : Program} {f : Nat} {A : List AV → Option (Bool × Res)} (h : Meets P f A) {W : World} {args : List AV} {vs : List Value} (hA : A args = some (true, .val (.bool true))) (hr : RepL (fun k => k < W.heap.size) W args vs) : Calls P f vs.toArray W (fun e W' => e = .returned (.bool true) ∧ Below W.heap.size W W') := by
  obtain ⟨fn, h1, h2, h3, h4⟩ := h args _ hA (fun k => k < W.heap.size) W vs (fun k h => h) hr
  refine h4.mono fun e W' ⟨v, he, hw, F', _, hv⟩ => ?_
  cases hv
  exact ⟨he, ⟨hw.os, hw.tape, hw.output, hw.size, fun k hk => hw.block k hk (by omega)⟩⟩
section
variable {H : Type} {enc : TypeId × Value → H} {P : Program} {W : World} {b0 : Nat} {r : Reach} {t : TypeId} {v : Value} {d : DataW H} {ps : List MemPlace}
theorem arg_int {k : IntKind} (ht : P.underlying t = some (.int k)) (hval : Value.okWide P W r b0 t v) (hd : DataW.Trod enc P W 0 (fun _ => true) true t v d ps) : ∃ n : Int, (Lit.int k n).wf = true ∧ Rep (fun k => k < W.heap.size) W (.int k n) v := by
  obtain ⟨n, rfl, _, _, h⟩ := open_int ht hval hd
  exact ⟨n, h, .int k n⟩
theorem cell_lt {w : World} {a : Addr} {v : Value} (h : w.cell? a = some v) : a.block < w.heap.size := by
  rw [World.cell?] at h
  cases hb : w.heap[a.block]? with
  | none => rw [hb] at h; cases h
  | some x => exact (Array.getElem?_eq_some_iff.1 hb).1
theorem arg_strs {e : TypeId} (ht : P.underlying t = some (.slice e)) (he : P.underlying e = some .string) (hc : P.cellsOf e = 1) (hval : Value.okWide P W r b0 t v) (hd : DataW.Trod enc P W 0 (fun _ => true) true t v d ps) : ∃ l : List ByteArray, l.length ≤ maxLen ∧ Rep (fun k => k < W.heap.size) W (.rows 1 (l.map fun s => [.str s])) v := by
  obtain ⟨a, len, cap, rfl⟩ := okWide_slice ht hval
  obtain ⟨fuel, hf⟩ := hd
  rcases open_strings ht he hc hf with ⟨hcs, _⟩ | ⟨x, len', cap', ss, hcs, _, hl, hm, hs, _, hcell, _⟩
  · simp [Value.cells] at hcs
    obtain ⟨rfl, rfl, rfl⟩ := hcs
    refine ⟨[], Nat.zero_le _, ?_⟩
    exact .rows 1 [] none 0 (fun _ _ => .bool false) (Nat.le_refl _) (Nat.zero_le _) (fun i e h => by cases h) (fun i e h => by cases h) (fun i e j a h => by cases h)
  · simp [Value.cells] at hcs
    obtain ⟨rfl, rfl, rfl⟩ := hcs
    rw [if_pos rfl] at hs
    have hlen : (ss.take len).length = len := by rw [List.length_take]; omega
    have hat : ∀ (i : Nat) (e : List AV), ((ss.take len).map fun s => [AV.str s])[i]? = some e → i < len ∧ i < ss.length ∧ e = [.str (ss.getD i ByteArray.empty)] := fun i e h => by
      rw [List.getElem?_map, Option.map_eq_some_iff] at h
      obtain ⟨s, h1, rfl⟩ := h
      have hi := (List.getElem?_eq_some_iff.1 h1).1
      rw [hlen] at hi
      refine ⟨hi, by omega, ?_⟩
      rw [List.getElem?_take, if_pos hi] at h1
      rw [List.getD_eq_getElem?_getD, h1]; rfl
    have key := Rep.rows (F := fun k => k < W.heap.size) (w := W) 1 ((ss.take len).map fun s => [AV.str s]) (some x) cap (fun i _ => .string (ss.getD i ByteArray.empty)) (by rw [List.length_map, hlen]; exact hl) (by rw [List.length_map, hlen]; omega)
      (fun i e h => by obtain ⟨_, _, rfl⟩ := hat i e h; rfl)
      (fun i e h => by
        obtain ⟨h1, h2, rfl⟩ := hat i e h
        have hc0 := hcell i h2
        have hb := cell_lt (hcell i h2)
        rw [add_block] at hb
        refine ⟨x, rfl, hb, fun j hj => ⟨rfl, ?_⟩⟩
        rw [show i * 1 + j = i by omega]; exact hc0)
      (fun i e j a h h2 => by
        obtain ⟨_, _, rfl⟩ := hat i e h
        cases j with
        | zero => cases h2; exact .str _
        | succ j => cases h2)
    rw [List.length_map, hlen] at key
    exact ⟨ss.take len, by rw [hlen]; omega, key⟩
theorem trod_lt' (hd : DataW.Trod enc P W 0 (fun _ => true) true t v d ps) : ∀ x ∈ ps, x.block < W.heap.size := by
  obtain ⟨m, hm⟩ := hd; exact DataW.trod_lt m _ _ _ hm
theorem repL1 {F : Nat → Prop} {w : World} {a : AV} {v : Value} (h : Rep F w a v) : RepL F w [a] [v] := ⟨rfl, fun i a v h1 h2 => by cases i with | zero => cases h1; cases h2; exact h | succ i => cases h1⟩
theorem repL_cons {F : Nat → Prop} {w : World} {a : AV} {v : Value} {al : List AV} {vs : List Value} (h : Rep F w a v) (hl : RepL F w al vs) : RepL F w (a :: al) (v :: vs) := ⟨by simp [hl.1], fun i a v h1 h2 => by cases i with | zero => cases h1; cases h2; exact h | succ i => exact hl.2 i a v h1 h2⟩
end
end Go.Abs
end
section
namespace Go.Proofs.Ytnbeejpnfoegdaa.ratioFolds
open Go.ChangeShapes Go.WideShapes Go.ChangeAt Go.RowKit Go.Abs
theorem own : ownKnob Try.prog.godebug = none := by kernel_rfl
theorem laidOut : laidOutB Try.prog = true := by kernel_rfl
set_option maxRecDepth 100000 in
theorem lifted (os : Os) (started : os.Started) (H : Type) (enc : TypeId × Value → H) :
    ReturnsInHanded {} Try.checked os 7 .any (Rows.ratioFoldsSpec.pre6 enc Try.prog Try.f7 Rows.ratioFoldsRow.domain false) (Rows.ratioFoldsSpec.post enc Try.prog Try.f7 false true false false) := by
  refine returnsInHanded_of_change_sized (C := Try.checked) own started (by kernel_rfl) Try.func7
    (ChangeSpec.witness6 (enc := enc) (C := Try.checked) false ⟨#[], #[.slice none 0 0, .int .i64 0], []⟩ 8 (by kernel_rfl) (by kernel_rfl) (by kernel_rfl) (by kernel_rfl)) ?_
  intro W base args ds gs before hval0 hW hcnd hsz0 _
  have hval : ∀ (j : Nat) t v, Try.f7.params[j]? = some t → args[j]? = some v → Value.okWide Try.prog W .any base t v := hval0
  have hW' := hW
  obtain ⟨p, q, hA0, hV, rfl, hfz, hnd⟩ := hW
  have hA : DataW.TrodAll enc Try.prog W 0 (fun _ => true) true Try.f7.params.toList args.toList ds p := hA0
  rw [Try.params7] at hA hval
  obtain ⟨v0, vs0, d0, ds0, p0, q0, hargs, rfl, rfl, h0, r0⟩ := trodAll_cons hA
  obtain ⟨v1, vs1, d1, ds1, p1, q1, rfl, rfl, rfl, h1, r1⟩ := trodAll_cons r0
  obtain ⟨rfl, rfl, rfl⟩ := trodAll_nil r1
  obtain rfl : args = #[v0, v1] := by cases args; simp_all
  obtain ⟨rfl, rfl⟩ := trodVars_none hV
  obtain ⟨a0, w0, e0⟩ := arg_strs Try.underlying57 Try.underlying9 (by kernel_rfl) (hval 0 57 v0 rfl rfl) h0
  obtain ⟨a1, w1, e1⟩ := arg_int Try.underlying3 (hval 1 3 v1 rfl rfl) h1
  clear hA0 hval0 hsz0
  refine (calls_true law_qfolds (W := W) (vs := [v0, v1]) (by exact congrArg (fun b => some (b, Res.val (.bool true))) (isS_of _)) (repL_cons e0 (repL1 e1))).mono fun e W' ⟨he, bel⟩ => ?_
  subst he
  exact ⟨_, rfl, _, _, _, [], _, [], hW', trodAll_mk1 (shut_bool Try.underlying4 _), (trodAll_cons_mk (Below.trod laidOut (by kernel_rfl) (of_decide_eq_true (by kernel_rfl)) h0 bel (trod_lt' h0)) (trodAll_cons_mk (Below.trod laidOut (by kernel_rfl) (of_decide_eq_true (by kernel_rfl)) h1 bel (trod_lt' h1)) trodAll_mk0)), rfl, bel.frame _, fun h => by cases h⟩
theorem over : Rows.ratioFoldsRow.holds Try.pinned (OpenSpec.ofChange Rows.ratioFoldsSpec) :=
  OpenClaim.holds_of_wide 7 Try.f7 rfl rfl rfl rfl rfl rfl rfl ⟨rfl, rfl, rfl, rfl, rfl⟩ rfl rfl rfl rfl rfl (by kernel_rfl) Try.func7 (by kernel_rfl)
    (of_decide_eq_true (by kernel_rfl)) (by unfold Func.isWrapper; first | (rw [if_pos (by decide +kernel)]; kernel_rfl) | (rw [if_neg (by decide +kernel)]; exact ⟨rfl, rfl⟩))
    (fun os started H enc _ => lifted os started H enc)
theorem proved : Rows.RatioFoldsSaid := over
end Go.Proofs.Ytnbeejpnfoegdaa.ratioFolds
namespace Go.Proofs.Ytnbeejpnfoegdaa
/-- The row, under a short name, for the claim. -/
theorem ratioFolds_holds : Rows.RatioFoldsSaid := ratioFolds.proved
end Go.Proofs.Ytnbeejpnfoegdaa
end
