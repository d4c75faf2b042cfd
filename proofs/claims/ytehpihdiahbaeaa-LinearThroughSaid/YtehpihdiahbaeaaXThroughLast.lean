/- The row LinearThrough: whatever the arguments, the statement answers true, and what was there is as it was. No conditions. -/
import Derived.Test.YtehpihdiahbaeaaXBase5
import Derived.WalkKit
import Derived.ProofKit
import Derived.OpenShut
import Derived.ShutString
import Derived.ChangeOld
import Derived.Carry
import Derived.SizedLaws
import Derived.SliceStrings
import Derived.DataReads
import Derived.DataElems
import Derived.ChangeSame
import Derived.Deep.Slices
import Derived.Deep.Strs
import Derived.Test.YtehpihdiahbaeaaRows
set_option linter.unusedVariables false
set_option linter.unusedSimpArgs false
set_option linter.unnecessarySimpa false
set_option linter.unusedSectionVars false
section
/- From tables of answers to the given rows: a call that answers true leaves what was there; how an argument's datum is read. -/
namespace Go.Abs
open Go.RowKit Go.ChangeShapes Go.WideShapes Go.ChangeAt
theorem calls_true {P : Program} {f : Nat} {A : List AV → Option (Bool × Res)} (h : Meets P f A) {W : World} {args : List AV} {vs : List Value} (hA : A args = some (true, .val (.bool true))) (hr : RepL (fun k => k < W.heap.size) W args vs) : Calls P f vs.toArray W (fun e W' => e = .returned (.bool true) ∧ Below W.heap.size W W') := by
  obtain ⟨fn, h1, h2, h3, h4⟩ := h args _ hA (fun k => k < W.heap.size) W vs (fun k h => h) hr
  refine h4.mono fun e W' ⟨v, he, hw, F', _, hv⟩ => ?_
  cases hv
  exact ⟨he, ⟨hw.os, hw.tape, hw.output, hw.size, fun k hk => hw.block k hk (by omega)⟩⟩
section
variable {H : Type} {enc : TypeId × Value → H} {P : Program} {W : World} {b0 : Nat} {r : Reach} {t : TypeId} {v : Value} {d : DataW H} {ps : List MemPlace}
theorem cell_lt {w : World} {a : Addr} {v : Value} (h : w.cell? a = some v) : a.block < w.heap.size := by
  rw [World.cell?] at h
  cases hb : w.heap[a.block]? with
  | none => rw [hb] at h; cases h
  | some x => exact (Array.getElem?_eq_some_iff.1 hb).1
theorem i64B_of {n : Int} (h : (Lit.int .i64 n).wf = true) : i64B n = true := by
  rw [Lit.wf, Bool.and_eq_true, decide_eq_true_eq, decide_eq_true_eq] at h
  unfold i64B
  rw [Bool.and_eq_true, decide_eq_true_eq, decide_eq_true_eq]
  exact h
theorem trod_lt' (hd : DataW.Trod enc P W 0 (fun _ => true) true t v d ps) : ∀ x ∈ ps, x.block < W.heap.size := by
  obtain ⟨m, hm⟩ := hd; exact DataW.trod_lt m _ _ _ hm
theorem repL1 {F : Nat → Prop} {w : World} {a : AV} {v : Value} (h : Rep F w a v) : RepL F w [a] [v] := ⟨rfl, fun i a v h1 h2 => by cases i with | zero => cases h1; cases h2; exact h | succ i => cases h1⟩
theorem repL_cons {F : Nat → Prop} {w : World} {a : AV} {v : Value} {al : List AV} {vs : List Value} (h : Rep F w a v) (hl : RepL F w al vs) : RepL F w (a :: al) (v :: vs) := ⟨by simp [hl.1], fun i a v h1 h2 => by cases i with | zero => cases h1; cases h2; exact h | succ i => exact hl.2 i a v h1 h2⟩
end
end Go.Abs
end
section
/- How a list of parts, each a number and a text, is read out of an argument's datum. -/
namespace Go.Abs
open Go.RowKit Go.ChangeShapes Go.WideShapes Go.ChangeAt
section
variable {H : Type} {enc : TypeId × Value → H} {P : Program} {W : World} {base : Nat} {spare : Nat → Bool} {held : Bool}
/-- A struct of a number and a text. -/
structure IsMonoTy (P : Program) (e : TypeId) (f0 f1 : Field) : Prop where
  ty : P.underlying e = some (.struct #[f0, f1])
  t0 : P.underlying f0.type = some (.int .i64)
  t1 : P.underlying f1.type = some .string
  o0 : f0.offset = 0
  o1 : f1.offset = 1
  c0 : P.cellsOf f0.type = 1
  c1 : P.cellsOf f1.type = 1
  ce : P.cellsOf e = 2
theorem mono_cells {e : TypeId} {f0 f1 : Field} (hT : IsMonoTy P e f0 f1) {fuel : Nat} {cs : List Value} {x : DataW H × List MemPlace} (h : DataW.trod enc P W base spare held fuel e cs = some x) : ∃ (n : Int) (s : ByteArray), cs = [.int .i64 n, .string s] ∧ (Lit.int .i64 n).wf = true ∧ s.size ≤ maxLen := by
  obtain ⟨y0, y1, n, _, hl, k0, k1⟩ := trod_struct2 hT.ty h
  rw [hT.ce] at hl
  match cs, hl with
  | [a, b], _ =>
    rw [hT.o0, hT.c0] at k0
    rw [hT.o1, hT.c1] at k1
    have k0 : DataW.trod enc P W base spare held n f0.type [a] = some y0 := k0
    have k1 : DataW.trod enc P W base spare held n f1.type [b] = some y1 := k1
    obtain ⟨m, h1, _, h2⟩ := DataW.trod_int hT.t0 k0
    obtain ⟨s, h3, _, h4⟩ := DataW.trod_string hT.t1 k1
    cases h1
    cases h3
    exact ⟨m, s, rfl, h2, h4⟩
theorem monos_rep {t e : TypeId} {f0 f1 : Field} (hT : IsMonoTy P e f0 f1) (ht : P.underlying t = some (.slice e)) {fuel : Nat} {cs : List Value} {x : DataW H × List MemPlace} (h : DataW.trod enc P W base (fun _ => true) held fuel t cs = some x) :
    ∃ (l : List (Int × ByteArray)) (v : Value), cs = [v] ∧ (∀ p ∈ l, (Lit.int .i64 p.1).wf = true ∧ p.2.size ≤ maxLen) ∧ v.oneCell' = true ∧ Rep (fun k => k < W.heap.size) W (.rows 2 (l.map fun p => [.int .i64 p.1, .str p.2])) v := by
  rcases Go.Deep.open_slice ht h with ⟨rfl, _⟩ | ⟨a, len, cap, m, n, D, Pl, rfl, _, hl, hm, hmm, _, hx⟩
  · exact ⟨[], _, rfl, (fun p hp => by cases hp), rfl, .rows 2 [] none 0 (fun _ _ => .bool false) (Nat.le_refl _) (Nat.zero_le _) (fun i e h => by cases h) (fun i e h => by cases h) (fun i e j a h => by cases h)⟩
  · rw [if_pos rfl] at hmm
    have each : ∀ i, i < len → ∃ p : Int × ByteArray, (Lit.int .i64 p.1).wf = true ∧ p.2.size ≤ maxLen ∧ W.cell? (a.add (i * 2)) = some (.int .i64 p.1) ∧ W.cell? (a.add (i * 2 + 1)) = some (.string p.2) := fun i hi => by
      obtain ⟨cs', h1, h2⟩ := hx i (by omega)
      obtain ⟨k, s, rfl, h3, h4⟩ := mono_cells hT h2
      rw [hT.ce] at h1
      obtain ⟨_, _, h5⟩ := World.cells?_some h1
      have g0 := h5 0 (by omega)
      have g1 := h5 1 (by omega)
      rw [Addr.add_add] at g0 g1
      exact ⟨(k, s), h3, h4, g0, g1⟩
    obtain ⟨F, hF⟩ : ∃ F : Nat → Int × ByteArray, ∀ i, i < len → (Lit.int .i64 (F i).1).wf = true ∧ (F i).2.size ≤ maxLen ∧ W.cell? (a.add (i * 2)) = some (.int .i64 (F i).1) ∧ W.cell? (a.add (i * 2 + 1)) = some (.string (F i).2) :=
      ⟨fun i => if hi : i < len then Classical.choose (each i hi) else (0, ByteArray.empty), fun i hi => by simp only [dif_pos hi]; exact Classical.choose_spec (each i hi)⟩
    have hat : ∀ (i : Nat) (e : List AV), (((List.range len).map F).map fun p => [AV.int .i64 p.1, AV.str p.2])[i]? = some e → i < len ∧ e = [.int .i64 (F i).1, .str (F i).2] := fun i e he => by
      rw [List.getElem?_map, List.getElem?_map, Option.map_eq_some_iff] at he
      obtain ⟨p, h1, rfl⟩ := he
      rw [Option.map_eq_some_iff] at h1
      obtain ⟨j, h2, rfl⟩ := h1
      have hi := (List.getElem?_eq_some_iff.1 h2).1
      rw [List.length_range] at hi
      rw [List.getElem?_range hi] at h2
      cases h2
      exact ⟨hi, rfl⟩
    have key := Rep.rows (F := fun k => k < W.heap.size) (w := W) 2 (((List.range len).map F).map fun p => [AV.int .i64 p.1, AV.str p.2]) (some a) cap (fun i j => if j = 0 then .int .i64 (F i).1 else .string (F i).2) (by simp; exact hl) (by simp; omega)
      (fun i e h => by obtain ⟨_, rfl⟩ := hat i e h; rfl)
      (fun i e h => by
        obtain ⟨hi, rfl⟩ := hat i e h
        obtain ⟨_, _, g0, g1⟩ := hF i hi
        have hb := cell_lt g0
        rw [add_block] at hb
        refine ⟨a, rfl, hb, fun j hj => ?_⟩
        rcases (by omega : j = 0 ∨ j = 1) with rfl | rfl
        · exact ⟨rfl, g0⟩
        · exact ⟨rfl, g1⟩)
      (fun i e j b h h2 => by
        obtain ⟨hi, rfl⟩ := hat i e h
        match j, h2 with
        | 0, h2 => cases h2; exact .int _ _
        | 1, h2 => cases h2; exact .str _)
    have hlen : (((List.range len).map F).map fun p => [AV.int .i64 p.1, AV.str p.2]).length = len := by simp
    rw [hlen] at key
    refine ⟨(List.range len).map F, _, rfl, fun p hp => ?_, rfl, key⟩
    obtain ⟨i, hi, rfl⟩ := List.mem_map.1 hp
    rw [List.mem_range] at hi
    exact ⟨(hF i hi).1, (hF i hi).2.1⟩
theorem arg_monos {r : Reach} {b0 : Nat} {t e : TypeId} {f0 f1 : Field} (hT : IsMonoTy P e f0 f1) (ht : P.underlying t = some (.slice e)) {v : Value} {d : DataW H} {ps : List MemPlace} (hval : Value.okWide P W r b0 t v) (hd : DataW.Trod enc P W 0 (fun _ => true) true t v d ps) :
    ∃ l : List (Int × ByteArray), (∀ p ∈ l, (Lit.int .i64 p.1).wf = true ∧ p.2.size ≤ maxLen) ∧ Rep (fun k => k < W.heap.size) W (.rows 2 (l.map fun p => [.int .i64 p.1, .str p.2])) v := by
  obtain ⟨a, len, cap, rfl⟩ := okWide_slice ht hval
  obtain ⟨fuel, hf⟩ := hd
  obtain ⟨l, v', h1, h2, _, h3⟩ := monos_rep hT ht hf
  simp [Value.cells] at h1
  subst h1
  exact ⟨l, h2, h3⟩
/-- A struct of a list of parts and a text. -/
structure IsRowTy (P : Program) (t : TypeId) (g0 g1 : Field) (e : TypeId) : Prop where
  ty : P.underlying t = some (.struct #[g0, g1])
  t0 : P.underlying g0.type = some (.slice e)
  t1 : P.underlying g1.type = some .string
  o0 : g0.offset = 0
  o1 : g1.offset = 1
  c0 : P.cellsOf g0.type = 1
  c1 : P.cellsOf g1.type = 1
  ct : P.cellsOf t = 2
theorem strs_rep {t e : TypeId} (ht : P.underlying t = some (.slice e)) (he : P.underlying e = some .string) (hc : P.cellsOf e = 1) {fuel : Nat} {v : Value} {y : DataW H × List MemPlace} (hf : DataW.trod enc P W 0 (fun _ => true) held fuel t [v] = some y) :
    ∃ l : List ByteArray, v.oneCell' = true ∧ Rep (fun k => k < W.heap.size) W (.rows 1 (l.map fun s => [.str s])) v := by
  rcases open_strings ht he hc hf with ⟨hcs, _⟩ | ⟨x, len', cap', ss, hcs, _, hl, hm, hs, _, hcell, _⟩
  · simp at hcs
    subst hcs
    refine ⟨[], rfl, ?_⟩
    exact .rows 1 [] none 0 (fun _ _ => .bool false) (Nat.le_refl _) (Nat.zero_le _) (fun i e h => by cases h) (fun i e h => by cases h) (fun i e j a h => by cases h)
  · simp at hcs
    subst hcs
    rw [if_pos rfl] at hs
    have hlen : (ss.take len').length = len' := by rw [List.length_take]; omega
    have hat : ∀ (i : Nat) (e : List AV), ((ss.take len').map fun s => [AV.str s])[i]? = some e → i < len' ∧ i < ss.length ∧ e = [.str (ss.getD i ByteArray.empty)] := fun i e h => by
      rw [List.getElem?_map, Option.map_eq_some_iff] at h
      obtain ⟨s, h1, rfl⟩ := h
      have hi := (List.getElem?_eq_some_iff.1 h1).1
      rw [hlen] at hi
      refine ⟨hi, by omega, ?_⟩
      rw [List.getElem?_take, if_pos hi] at h1
      rw [List.getD_eq_getElem?_getD, h1]; rfl
    have key := Rep.rows (F := fun k => k < W.heap.size) (w := W) 1 ((ss.take len').map fun s => [AV.str s]) (some x) cap' (fun i _ => .string (ss.getD i ByteArray.empty)) (by rw [List.length_map, hlen]; exact hl) (by rw [List.length_map, hlen]; omega)
      (fun i e h => by obtain ⟨_, _, rfl⟩ := hat i e h; rfl)
      (fun i e h => by
        obtain ⟨h1, h2, rfl⟩ := hat i e h
        have hc0 := hcell i h2
        have hb := cell_lt (hcell i h2)
        rw [add_block] at hb
        refine ⟨x, rfl, hb, fun j hj => ⟨rfl, ?_⟩⟩
        rw [show i * 1 + j = i by omega]; exact hc0)
      (fun i e j a h h2 => by
        obtain ⟨_, _, rfl⟩ := hat i e h
        cases j with
        | zero => cases h2; exact .str _
        | succ j => cases h2)
    rw [List.length_map, hlen] at key
    exact ⟨ss.take len', rfl, key⟩
theorem rep_agg3 {F : Nat → Prop} {w : World} {a b c : AV} {u v x : Value} (h1 : Rep F w a u) (h2 : Rep F w b v) (h3 : Rep F w c x) (o1 : u.oneCell' = true) (o2 : v.oneCell' = true) (o3 : x.oneCell' = true) : Rep F w (.agg [a, b, c]) (.agg #[u, v, x]) := by
  refine .agg [a, b, c] #[u, v, x] rfl (fun y hy => ?_) (fun i y z hy hz => ?_)
  · have hy := Array.mem_def.1 hy
    simp at hy
    rcases hy with rfl | rfl | rfl
    · exact o1
    · exact o2
    · exact o3
  · match i, hy, hz with
    | 0, hy, hz => cases hy; cases hz; exact h1
    | 1, hy, hz => cases hy; cases hz; exact h2
    | 2, hy, hz => cases hy; cases hz; exact h3
/-- A struct of a text, a list of texts and a number. -/
structure IsAskTy (P : Program) (t : TypeId) (g0 g1 g2 : Field) (e : TypeId) : Prop where
  ty : P.underlying t = some (.struct #[g0, g1, g2])
  t0 : P.underlying g0.type = some .string
  t1 : P.underlying g1.type = some (.slice e)
  te : P.underlying e = some .string
  t2 : P.underlying g2.type = some (.int .i64)
  o0 : g0.offset = 0
  o1 : g1.offset = 1
  o2 : g2.offset = 2
  c0 : P.cellsOf g0.type = 1
  c1 : P.cellsOf g1.type = 1
  c2 : P.cellsOf g2.type = 1
  ce : P.cellsOf e = 1
  ct : P.cellsOf t = 3
theorem arg_ask {r : Reach} {b0 : Nat} {t e : TypeId} {g0 g1 g2 : Field} (hR : IsAskTy P t g0 g1 g2 e) {v : Value} {d : DataW H} {ps : List MemPlace} (hval : Value.okWide P W r b0 t v) (hd : DataW.Trod enc P W 0 (fun _ => true) true t v d ps) :
    ∃ (s : ByteArray) (l : List ByteArray) (n : Int), s.size ≤ maxLen ∧ (Lit.int .i64 n).wf = true ∧ Rep (fun k => k < W.heap.size) W (.agg [.str s, .rows 1 (l.map fun s => [.str s]), .int .i64 n]) v := by
  obtain ⟨cs, rfl, hs⟩ := okWide_struct hR.ty hval
  obtain ⟨fuel, hf⟩ := hd
  have hf : DataW.trod enc P W 0 (fun _ => true) true fuel t cs.toList = some (d, ps) := hf
  obtain ⟨y0, y1, y2, n, _, _, k0, k1, k2⟩ := Go.Deep.trod_struct3 hR.ty hf
  rw [hR.ct] at hs
  rw [hR.o0, hR.c0] at k0
  rw [hR.o1, hR.c1] at k1
  rw [hR.o2, hR.c2] at k2
  obtain ⟨u, v, x, rfl⟩ : ∃ u v x, cs = #[u, v, x] := by
    match cs, hs with
    | ⟨[u, v, x]⟩, _ => exact ⟨u, v, x, rfl⟩
  have k0 : DataW.trod enc P W 0 (fun _ => true) true n g0.type [u] = some y0 := k0
  have k1 : DataW.trod enc P W 0 (fun _ => true) true n g1.type [v] = some y1 := k1
  have k2 : DataW.trod enc P W 0 (fun _ => true) true n g2.type [x] = some y2 := k2
  obtain ⟨s, h5, _, h6⟩ := DataW.trod_string hR.t0 k0
  obtain ⟨l, h3, h4⟩ := strs_rep hR.t1 hR.te hR.ce k1
  obtain ⟨m, h7, _, h8⟩ := DataW.trod_int hR.t2 k2
  cases h5
  cases h7
  exact ⟨s, l, m, h6, h8, rep_agg3 (.str s) h4 (.int .i64 m) rfl h3 rfl⟩
end
end Go.Abs
end
section
namespace Go.Proofs.Ytehpihdiahbaeaa.linearThrough
open Go.ChangeShapes Go.WideShapes Go.ChangeAt Go.RowKit Go.Abs
theorem monoTy : IsMonoTy Try.prog 105 { name := "Var", type := 3, offset := 0, embedded := false, tag := "", pkgPath := "", byteOffset := 0 } { name := "Coef", type := 9, offset := 1, embedded := false, tag := "", pkgPath := "", byteOffset := 8 } := ⟨Try.underlying105, Try.underlying3, Try.underlying9, rfl, rfl, by kernel_rfl, by kernel_rfl, by kernel_rfl⟩
theorem rowTy : IsRowTy Try.prog 24 { name := "Sum", type := 22, offset := 0, embedded := false, tag := "", pkgPath := "", byteOffset := 0 } { name := "Most", type := 9, offset := 1, embedded := false, tag := "", pkgPath := "", byteOffset := 24 } 105 := ⟨Try.underlying24, Try.underlying22, Try.underlying9, rfl, rfl, by kernel_rfl, by kernel_rfl, by kernel_rfl⟩
theorem askTy : IsAskTy Try.prog 90 { name := "By", type := 9, offset := 0, embedded := false, tag := "", pkgPath := "", byteOffset := 0 } { name := "At", type := 57, offset := 1, embedded := false, tag := "", pkgPath := "", byteOffset := 16 } { name := "Var", type := 3, offset := 2, embedded := false, tag := "", pkgPath := "", byteOffset := 40 } 9 := ⟨Try.underlying90, Try.underlying9, Try.underlying57, Try.underlying9, Try.underlying3, rfl, rfl, rfl, by kernel_rfl, by kernel_rfl, by kernel_rfl, by kernel_rfl, by kernel_rfl⟩
theorem own : ownKnob Try.prog.godebug = none := by kernel_rfl
theorem laidOut : laidOutB Try.prog = true := by kernel_rfl
set_option maxRecDepth 100000 in
theorem lifted (os : Os) (started : os.Started) (H : Type) (enc : TypeId × Value → H) :
    ReturnsInHanded {} Try.checked os 12 .any (Rows.linearThroughSpec.pre6 enc Try.prog Try.f12 Rows.linearThroughRow.domain false) (Rows.linearThroughSpec.post enc Try.prog Try.f12 false true false false) := by
  refine returnsInHanded_of_change_sized (C := Try.checked) own started (by kernel_rfl) Try.func12
    (ChangeSpec.witness6 (enc := enc) (C := Try.checked) false ⟨#[], #[.slice none 0 0, .slice none 0 0, .agg #[.string ByteArray.empty, .slice none 0 0, .int .i64 0]], []⟩ 8 (by kernel_rfl) (by kernel_rfl) (by kernel_rfl) (by kernel_rfl)) ?_
  intro W base args ds gs before hval0 hW hcnd hsz0 _
  have hval : ∀ (j : Nat) t v, Try.f12.params[j]? = some t → args[j]? = some v → Value.okWide Try.prog W .any base t v := hval0
  have hW' := hW
  obtain ⟨p, q, hA0, hV, rfl, hfz, hnd⟩ := hW
  have hA : DataW.TrodAll enc Try.prog W 0 (fun _ => true) true Try.f12.params.toList args.toList ds p := hA0
  rw [Try.params12] at hA hval
  obtain ⟨v0, vs0, d0, ds0, p0, q0, hargs, rfl, rfl, h0, r0⟩ := trodAll_cons hA
  obtain ⟨v1, vs1, d1, ds1, p1, q1, rfl, rfl, rfl, h1, r1⟩ := trodAll_cons r0
  obtain ⟨v2, vs2, d2, ds2, p2, q2, rfl, rfl, rfl, h2, r2⟩ := trodAll_cons r1
  obtain ⟨rfl, rfl, rfl⟩ := trodAll_nil r2
  obtain rfl : args = #[v0, v1, v2] := by cases args; simp_all
  obtain ⟨rfl, rfl⟩ := trodVars_none hV
  obtain ⟨a0, w0, e0⟩ := arg_monos monoTy Try.underlying22 (hval 0 22 v0 rfl rfl) h0
  have c0 : isq (a0.map cP) = true := isq_iff.2 ⟨a0, fun p hp => i64B_of (w0 p hp).1, rfl⟩
  obtain ⟨a1, w1, e1⟩ := arg_monos monoTy Try.underlying22 (hval 1 22 v1 rfl rfl) h1
  have c1 : isq (a1.map cP) = true := isq_iff.2 ⟨a1, fun p hp => i64B_of (w1 p hp).1, rfl⟩
  obtain ⟨s2, a2, n2, z2, y2, e2⟩ := arg_ask askTy (hval 2 90 v2 rfl rfl) h2
  have c2 : isStrs (a2.map (fun s => [AV.str s])) = true := isStrs_iff.2 ⟨a2, rfl⟩
  clear hA0 hval0 hsz0
  refine (calls_true law_through (W := W) (vs := [v0, v1, v2]) (by show some (isq _ && isq _ && isStrs _, _) = _; rw [c0, c1, c2]; rfl) (repL_cons e0 (repL_cons e1 (repL1 e2)))).mono fun e W' ⟨he, bel⟩ => ?_
  subst he
  exact ⟨_, rfl, _, _, _, [], _, [], hW', trodAll_mk1 (shut_bool Try.underlying4 _), (trodAll_cons_mk (Below.trod laidOut (by kernel_rfl) (of_decide_eq_true (by kernel_rfl)) h0 bel (trod_lt' h0)) (trodAll_cons_mk (Below.trod laidOut (by kernel_rfl) (of_decide_eq_true (by kernel_rfl)) h1 bel (trod_lt' h1)) (trodAll_cons_mk (Below.trod laidOut (by kernel_rfl) (of_decide_eq_true (by kernel_rfl)) h2 bel (trod_lt' h2)) trodAll_mk0))), rfl, bel.frame _, fun h => by cases h⟩
theorem over : Rows.linearThroughRow.holds Try.pinned (OpenSpec.ofChange Rows.linearThroughSpec) :=
  OpenClaim.holds_of_wide 12 Try.f12 rfl rfl rfl rfl rfl rfl rfl ⟨rfl, rfl, rfl, rfl, rfl⟩ rfl rfl rfl rfl rfl (by kernel_rfl) Try.func12 (by kernel_rfl)
    (of_decide_eq_true (by kernel_rfl)) (by unfold Func.isWrapper; first | (rw [if_pos (by decide +kernel)]; kernel_rfl) | (rw [if_neg (by decide +kernel)]; exact ⟨rfl, rfl⟩))
    (fun os started H enc _ => lifted os started H enc)
theorem proved : Rows.LinearThroughSaid := over
end Go.Proofs.Ytehpihdiahbaeaa.linearThrough
namespace Go.Proofs.Ytehpihdiahbaeaa
/-- The row, under a short name, for the claim. -/
theorem linearThrough_holds : Rows.LinearThroughSaid := linearThrough.proved
end Go.Proofs.Ytehpihdiahbaeaa
end
