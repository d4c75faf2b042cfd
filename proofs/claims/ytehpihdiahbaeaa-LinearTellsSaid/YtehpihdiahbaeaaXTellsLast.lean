/- The row LinearTells: whatever the arguments, the statement answers true, and what was there is as it was. No conditions. -/
import Derived.Test.YtehpihdiahbaeaaXBase6
import Derived.WalkKit
import Derived.ProofKit
import Derived.OpenShut
import Derived.ShutString
import Derived.ChangeOld
import Derived.Carry
import Derived.SizedLaws
import Derived.SliceStrings
import Derived.DataReads
import Derived.DataElems
import Derived.ChangeSame
import Derived.Deep.Slices
import Derived.Deep.Strs
import Derived.Test.YtehpihdiahbaeaaRows
set_option linter.unusedVariables false
set_option linter.unusedSimpArgs false
set_option linter.unnecessarySimpa false
set_option linter.unusedSectionVars false
section
/- From tables of answers to the given rows: a call that answers true leaves what was there; how an argument's datum is read. -/
namespace Go.Abs
open Go.RowKit Go.ChangeShapes Go.WideShapes Go.ChangeAt
theorem calls_true {P : Program} {f : Nat} {A : List AV → Option (Bool × Res)} (h : Meets P f A) {W : World} {args : List AV} {vs : List Value} (hA : A args = some (true, .val (.bool true))) (hr : RepL (fun k => k < W.heap.size) W args vs) : Calls P f vs.toArray W (fun e W' => e = .returned (.bool true) ∧ Below W.heap.size W W') := by
  obtain ⟨fn, h1, h2, h3, h4⟩ := h args _ hA (fun k => k < W.heap.size) W vs (fun k h => h) hr
  refine h4.mono fun e W' ⟨v, he, hw, F', _, hv⟩ => ?_
  cases hv
  exact ⟨he, ⟨hw.os, hw.tape, hw.output, hw.size, fun k hk => hw.block k hk (by omega)⟩⟩
section
variable {H : Type} {enc : TypeId × Value → H} {P : Program} {W : World} {b0 : Nat} {r : Reach} {t : TypeId} {v : Value} {d : DataW H} {ps : List MemPlace}
theorem arg_int {k : IntKind} (ht : P.underlying t = some (.int k)) (hval : Value.okWide P W r b0 t v) (hd : DataW.Trod enc P W 0 (fun _ => true) true t v d ps) : ∃ n : Int, (Lit.int k n).wf = true ∧ Rep (fun k => k < W.heap.size) W (.int k n) v := by
  obtain ⟨n, rfl, _, _, h⟩ := open_int ht hval hd
  exact ⟨n, h, .int k n⟩
theorem cell_lt {w : World} {a : Addr} {v : Value} (h : w.cell? a = some v) : a.block < w.heap.size := by
  rw [World.cell?] at h
  cases hb : w.heap[a.block]? with
  | none => rw [hb] at h; cases h
  | some x => exact (Array.getElem?_eq_some_iff.1 hb).1
theorem i64B_of {n : Int} (h : (Lit.int .i64 n).wf = true) : i64B n = true := by
  rw [Lit.wf, Bool.and_eq_true, decide_eq_true_eq, decide_eq_true_eq] at h
  unfold i64B
  rw [Bool.and_eq_true, decide_eq_true_eq, decide_eq_true_eq]
  exact h
theorem trod_lt' (hd : DataW.Trod enc P W 0 (fun _ => true) true t v d ps) : ∀ x ∈ ps, x.block < W.heap.size := by
  obtain ⟨m, hm⟩ := hd; exact DataW.trod_lt m _ _ _ hm
theorem repL1 {F : Nat → Prop} {w : World} {a : AV} {v : Value} (h : Rep F w a v) : RepL F w [a] [v] := ⟨rfl, fun i a v h1 h2 => by cases i with | zero => cases h1; cases h2; exact h | succ i => cases h1⟩
theorem repL_cons {F : Nat → Prop} {w : World} {a : AV} {v : Value} {al : List AV} {vs : List Value} (h : Rep F w a v) (hl : RepL F w al vs) : RepL F w (a :: al) (v :: vs) := ⟨by simp [hl.1], fun i a v h1 h2 => by cases i with | zero => cases h1; cases h2; exact h | succ i => exact hl.2 i a v h1 h2⟩
end
end Go.Abs
end
section
/- How a list of parts, each a number and a text, is read out of an argument's datum. -/
namespace Go.Abs
open Go.RowKit Go.ChangeShapes Go.WideShapes Go.ChangeAt
section
variable {H : Type} {enc : TypeId × Value → H} {P : Program} {W : World} {base : Nat} {spare : Nat → Bool} {held : Bool}
/-- A struct of a number and a text. -/
structure IsMonoTy (P : Program) (e : TypeId) (f0 f1 : Field) : Prop where
  ty : P.underlying e = some (.struct #[f0, f1])
  t0 : P.underlying f0.type = some (.int .i64)
  t1 : P.underlying f1.type = some .string
  o0 : f0.offset = 0
  o1 : f1.offset = 1
  c0 : P.cellsOf f0.type = 1
  c1 : P.cellsOf f1.type = 1
  ce : P.cellsOf e = 2
theorem mono_cells {e : TypeId} {f0 f1 : Field} (hT : IsMonoTy P e f0 f1) {fuel : Nat} {cs : List Value} {x : DataW H × List MemPlace} (h : DataW.trod enc P W base spare held fuel e cs = some x) : ∃ (n : Int) (s : ByteArray), cs = [.int .i64 n, .string s] ∧ (Lit.int .i64 n).wf = true ∧ s.size ≤ maxLen := by
  obtain ⟨y0, y1, n, _, hl, k0, k1⟩ := trod_struct2 hT.ty h
  rw [hT.ce] at hl
  match cs, hl with
  | [a, b], _ =>
    rw [hT.o0, hT.c0] at k0
    rw [hT.o1, hT.c1] at k1
    have k0 : DataW.trod enc P W base spare held n f0.type [a] = some y0 := k0
    have k1 : DataW.trod enc P W base spare held n f1.type [b] = some y1 := k1
    obtain ⟨m, h1, _, h2⟩ := DataW.trod_int hT.t0 k0
    obtain ⟨s, h3, _, h4⟩ := DataW.trod_string hT.t1 k1
    cases h1
    cases h3
    exact ⟨m, s, rfl, h2, h4⟩
theorem monos_rep {t e : TypeId} {f0 f1 : Field} (hT : IsMonoTy P e f0 f1) (ht : P.underlying t = some (.slice e)) {fuel : Nat} {cs : List Value} {x : DataW H × List MemPlace} (h : DataW.trod enc P W base (fun _ => true) held fuel t cs = some x) :
    ∃ (l : List (Int × ByteArray)) (v : Value), cs = [v] ∧ (∀ p ∈ l, (Lit.int .i64 p.1).wf = true ∧ p.2.size ≤ maxLen) ∧ v.oneCell' = true ∧ Rep (fun k => k < W.heap.size) W (.rows 2 (l.map fun p => [.int .i64 p.1, .str p.2])) v := by
  rcases Go.Deep.open_slice ht h with ⟨rfl, _⟩ | ⟨a, len, cap, m, n, D, Pl, rfl, _, hl, hm, hmm, _, hx⟩
  · exact ⟨[], _, rfl, (fun p hp => by cases hp), rfl, .rows 2 [] none 0 (fun _ _ => .bool false) (Nat.le_refl _) (Nat.zero_le _) (fun i e h => by cases h) (fun i e h => by cases h) (fun i e j a h => by cases h)⟩
  · rw [if_pos rfl] at hmm
    have each : ∀ i, i < len → ∃ p : Int × ByteArray, (Lit.int .i64 p.1).wf = true ∧ p.2.size ≤ maxLen ∧ W.cell? (a.add (i * 2)) = some (.int .i64 p.1) ∧ W.cell? (a.add (i * 2 + 1)) = some (.string p.2) := fun i hi => by
      obtain ⟨cs', h1, h2⟩ := hx i (by omega)
      obtain ⟨k, s, rfl, h3, h4⟩ := mono_cells hT h2
      rw [hT.ce] at h1
      obtain ⟨_, _, h5⟩ := World.cells?_some h1
      have g0 := h5 0 (by omega)
      have g1 := h5 1 (by omega)
      rw [Addr.add_add] at g0 g1
      exact ⟨(k, s), h3, h4, g0, g1⟩
    obtain ⟨F, hF⟩ : ∃ F : Nat → Int × ByteArray, ∀ i, i < len → (Lit.int .i64 (F i).1).wf = true ∧ (F i).2.size ≤ maxLen ∧ W.cell? (a.add (i * 2)) = some (.int .i64 (F i).1) ∧ W.cell? (a.add (i * 2 + 1)) = some (.string (F i).2) :=
      ⟨fun i => if hi : i < len then Classical.choose (each i hi) else (0, ByteArray.empty), fun i hi => by simp only [dif_pos hi]; exact Classical.choose_spec (each i hi)⟩
    have hat : ∀ (i : Nat) (e : List AV), (((List.range len).map F).map fun p => [AV.int .i64 p.1, AV.str p.2])[i]? = some e → i < len ∧ e = [.int .i64 (F i).1, .str (F i).2] := fun i e he => by
      rw [List.getElem?_map, List.getElem?_map, Option.map_eq_some_iff] at he
      obtain ⟨p, h1, rfl⟩ := he
      rw [Option.map_eq_some_iff] at h1
      obtain ⟨j, h2, rfl⟩ := h1
      have hi := (List.getElem?_eq_some_iff.1 h2).1
      rw [List.length_range] at hi
      rw [List.getElem?_range hi] at h2
      cases h2
      exact ⟨hi, rfl⟩
    have key := Rep.rows (F := fun k => k < W.heap.size) (w := W) 2 (((List.range len).map F).map fun p => [AV.int .i64 p.1, AV.str p.2]) (some a) cap (fun i j => if j = 0 then .int .i64 (F i).1 else .string (F i).2) (by simp; exact hl) (by simp; omega)
      (fun i e h => by obtain ⟨_, rfl⟩ := hat i e h; rfl)
      (fun i e h => by
        obtain ⟨hi, rfl⟩ := hat i e h
        obtain ⟨_, _, g0, g1⟩ := hF i hi
        have hb := cell_lt g0
        rw [add_block] at hb
        refine ⟨a, rfl, hb, fun j hj => ?_⟩
        rcases (by omega : j = 0 ∨ j = 1) with rfl | rfl
        · exact ⟨rfl, g0⟩
        · exact ⟨rfl, g1⟩)
      (fun i e j b h h2 => by
        obtain ⟨hi, rfl⟩ := hat i e h
        match j, h2 with
        | 0, h2 => cases h2; exact .int _ _
        | 1, h2 => cases h2; exact .str _)
    have hlen : (((List.range len).map F).map fun p => [AV.int .i64 p.1, AV.str p.2]).length = len := by simp
    rw [hlen] at key
    refine ⟨(List.range len).map F, _, rfl, fun p hp => ?_, rfl, key⟩
    obtain ⟨i, hi, rfl⟩ := List.mem_map.1 hp
    rw [List.mem_range] at hi
    exact ⟨(hF i hi).1, (hF i hi).2.1⟩
theorem arg_monos {r : Reach} {b0 : Nat} {t e : TypeId} {f0 f1 : Field} (hT : IsMonoTy P e f0 f1) (ht : P.underlying t = some (.slice e)) {v : Value} {d : DataW H} {ps : List MemPlace} (hval : Value.okWide P W r b0 t v) (hd : DataW.Trod enc P W 0 (fun _ => true) true t v d ps) :
    ∃ l : List (Int × ByteArray), (∀ p ∈ l, (Lit.int .i64 p.1).wf = true ∧ p.2.size ≤ maxLen) ∧ Rep (fun k => k < W.heap.size) W (.rows 2 (l.map fun p => [.int .i64 p.1, .str p.2])) v := by
  obtain ⟨a, len, cap, rfl⟩ := okWide_slice ht hval
  obtain ⟨fuel, hf⟩ := hd
  obtain ⟨l, v', h1, h2, _, h3⟩ := monos_rep hT ht hf
  simp [Value.cells] at h1
  subst h1
  exact ⟨l, h2, h3⟩
/-- A struct of a list of parts and a text. -/
structure IsRowTy (P : Program) (t : TypeId) (g0 g1 : Field) (e : TypeId) : Prop where
  ty : P.underlying t = some (.struct #[g0, g1])
  t0 : P.underlying g0.type = some (.slice e)
  t1 : P.underlying g1.type = some .string
  o0 : g0.offset = 0
  o1 : g1.offset = 1
  c0 : P.cellsOf g0.type = 1
  c1 : P.cellsOf g1.type = 1
  ct : P.cellsOf t = 2
/-- A struct of a text, a list of texts and a number. -/
structure IsAskTy (P : Program) (t : TypeId) (g0 g1 g2 : Field) (e : TypeId) : Prop where
  ty : P.underlying t = some (.struct #[g0, g1, g2])
  t0 : P.underlying g0.type = some .string
  t1 : P.underlying g1.type = some (.slice e)
  te : P.underlying e = some .string
  t2 : P.underlying g2.type = some (.int .i64)
  o0 : g0.offset = 0
  o1 : g1.offset = 1
  o2 : g2.offset = 2
  c0 : P.cellsOf g0.type = 1
  c1 : P.cellsOf g1.type = 1
  c2 : P.cellsOf g2.type = 1
  ce : P.cellsOf e = 1
  ct : P.cellsOf t = 3
end
end Go.Abs
end
section
namespace Go.Proofs.Ytehpihdiahbaeaa.linearTells
open Go.ChangeShapes Go.WideShapes Go.ChangeAt Go.RowKit Go.Abs
theorem monoTy : IsMonoTy Try.prog 105 { name := "Var", type := 3, offset := 0, embedded := false, tag := "", pkgPath := "", byteOffset := 0 } { name := "Coef", type := 9, offset := 1, embedded := false, tag := "", pkgPath := "", byteOffset := 8 } := ⟨Try.underlying105, Try.underlying3, Try.underlying9, rfl, rfl, by kernel_rfl, by kernel_rfl, by kernel_rfl⟩
theorem rowTy : IsRowTy Try.prog 24 { name := "Sum", type := 22, offset := 0, embedded := false, tag := "", pkgPath := "", byteOffset := 0 } { name := "Most", type := 9, offset := 1, embedded := false, tag := "", pkgPath := "", byteOffset := 24 } 105 := ⟨Try.underlying24, Try.underlying22, Try.underlying9, rfl, rfl, by kernel_rfl, by kernel_rfl, by kernel_rfl⟩
theorem askTy : IsAskTy Try.prog 90 { name := "By", type := 9, offset := 0, embedded := false, tag := "", pkgPath := "", byteOffset := 0 } { name := "At", type := 57, offset := 1, embedded := false, tag := "", pkgPath := "", byteOffset := 16 } { name := "Var", type := 3, offset := 2, embedded := false, tag := "", pkgPath := "", byteOffset := 40 } 9 := ⟨Try.underlying90, Try.underlying9, Try.underlying57, Try.underlying9, Try.underlying3, rfl, rfl, rfl, by kernel_rfl, by kernel_rfl, by kernel_rfl, by kernel_rfl, by kernel_rfl⟩
theorem own : ownKnob Try.prog.godebug = none := by kernel_rfl
theorem laidOut : laidOutB Try.prog = true := by kernel_rfl
set_option maxRecDepth 100000 in
theorem lifted (os : Os) (started : os.Started) (H : Type) (enc : TypeId × Value → H) :
    ReturnsInHanded {} Try.checked os 7 .any (Rows.linearTellsSpec.pre6 enc Try.prog Try.f7 Rows.linearTellsRow.domain false) (Rows.linearTellsSpec.post enc Try.prog Try.f7 false true false false) := by
  refine returnsInHanded_of_change_sized (C := Try.checked) own started (by kernel_rfl) Try.func7
    (ChangeSpec.witness6 (enc := enc) (C := Try.checked) false ⟨#[], #[.slice none 0 0, .int .i64 0], []⟩ 8 (by kernel_rfl) (by kernel_rfl) (by kernel_rfl) (by kernel_rfl)) ?_
  intro W base args ds gs before hval0 hW hcnd hsz0 _
  have hval : ∀ (j : Nat) t v, Try.f7.params[j]? = some t → args[j]? = some v → Value.okWide Try.prog W .any base t v := hval0
  have hW' := hW
  obtain ⟨p, q, hA0, hV, rfl, hfz, hnd⟩ := hW
  have hA : DataW.TrodAll enc Try.prog W 0 (fun _ => true) true Try.f7.params.toList args.toList ds p := hA0
  rw [Try.params7] at hA hval
  obtain ⟨v0, vs0, d0, ds0, p0, q0, hargs, rfl, rfl, h0, r0⟩ := trodAll_cons hA
  obtain ⟨v1, vs1, d1, ds1, p1, q1, rfl, rfl, rfl, h1, r1⟩ := trodAll_cons r0
  obtain ⟨rfl, rfl, rfl⟩ := trodAll_nil r1
  obtain rfl : args = #[v0, v1] := by cases args; simp_all
  obtain ⟨rfl, rfl⟩ := trodVars_none hV
  obtain ⟨a0, w0, e0⟩ := arg_monos monoTy Try.underlying22 (hval 0 22 v0 rfl rfl) h0
  have c0 : isq (a0.map cP) = true := isq_iff.2 ⟨a0, fun p hp => i64B_of (w0 p hp).1, rfl⟩
  obtain ⟨a1, w1, e1⟩ := arg_int Try.underlying3 (hval 1 3 v1 rfl rfl) h1
  clear hA0 hval0 hsz0
  refine (calls_true law_tells (W := W) (vs := [v0, v1]) (by show some (isq _, _) = _; rw [c0]) (repL_cons e0 (repL1 e1))).mono fun e W' ⟨he, bel⟩ => ?_
  subst he
  exact ⟨_, rfl, _, _, _, [], _, [], hW', trodAll_mk1 (shut_bool Try.underlying4 _), (trodAll_cons_mk (Below.trod laidOut (by kernel_rfl) (of_decide_eq_true (by kernel_rfl)) h0 bel (trod_lt' h0)) (trodAll_cons_mk (Below.trod laidOut (by kernel_rfl) (of_decide_eq_true (by kernel_rfl)) h1 bel (trod_lt' h1)) trodAll_mk0)), rfl, bel.frame _, fun h => by cases h⟩
theorem over : Rows.linearTellsRow.holds Try.pinned (OpenSpec.ofChange Rows.linearTellsSpec) :=
  OpenClaim.holds_of_wide 7 Try.f7 rfl rfl rfl rfl rfl rfl rfl ⟨rfl, rfl, rfl, rfl, rfl⟩ rfl rfl rfl rfl rfl (by kernel_rfl) Try.func7 (by kernel_rfl)
    (of_decide_eq_true (by kernel_rfl)) (by unfold Func.isWrapper; first | (rw [if_pos (by decide +kernel)]; kernel_rfl) | (rw [if_neg (by decide +kernel)]; exact ⟨rfl, rfl⟩))
    (fun os started H enc _ => lifted os started H enc)
theorem proved : Rows.LinearTellsSaid := over
end Go.Proofs.Ytehpihdiahbaeaa.linearTells
namespace Go.Proofs.Ytehpihdiahbaeaa
/-- The row, under a short name, for the claim. -/
theorem linearTells_holds : Rows.LinearTellsSaid := linearTells.proved
end Go.Proofs.Ytehpihdiahbaeaa
end
