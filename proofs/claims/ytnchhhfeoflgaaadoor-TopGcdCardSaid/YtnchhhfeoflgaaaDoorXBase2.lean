/- What the rows of this seat rest on, part 2: an abstract machine for the model, proved sound, and the functions that the statements reach. No conditions. -/
import Derived.Test.YtnchhhfeoflgaaaDoorXBase1
import Derived.Great.BuildSlice
import Derived.Laws.Tables
import Derived.Orders
import Derived.LoopN
import Derived.Test.YtnchhhfeoflgaaaDoorProg
import Derived.IntWalk
import Derived.Laws.Bits64
set_option linter.unusedVariables false
set_option linter.unusedSimpArgs false
set_option linter.unnecessarySimpa false
set_option linter.unusedSectionVars false
section
/- An abstract machine for the model's code, part N: copies, literals. -/
namespace Go.Abs
open Go.RowKit
section
variable {P : Program} {T : Tbl} {N : Nat → Prop} {ρ : Operand → Value} {o : Oper} {G : Gh} {ob : List Ent} {w : World} {av : AV} {es' : List Ent}
theorem good_copy (hT : tblOk P T = true) (h : MOk N G ob w) {x y : Operand} {t u : Nat} (ho : o.op = .call { callee := .builtin .copy, args := #[x, y], argTypes := #[t, u] }) {ax ay : AV} (hx : AVOk G ob w ax (ρ x)) (hy : AVOk G ob w ay (ρ y)) {es : List Ent} (hes : EntsOf ob (keysOf [ax, ay]) es) (hnd : nodupB (keysOf [ax, ay]) = true)
    (he : effCopy T t u [ax, ay] es = some (true, av, es')) : es'.length = es.length ∧ Good P N ρ o G ob w (setEnts ob (keysOf [ax, ay]) es') av := by
  obtain ⟨cs, hcs⟩ := run_call_builtin (P := P) (ρ := ρ) (w := w) ho
  have hbt : ∀ v w', (Builtin.copy_ #[t, u] o.type #[ρ x, ρ y]).run P w = .ok v w' → (execOp ρ o).run P w = .ok (.value v) w' := by
    intro v w' hv
    rw [hcs]
    rw [show #[x, y].map ρ = #[ρ x, ρ y] by simp]
    simp only [Go.builtin, Sem.run_bind, hv, Result.andThen_ok, Sem.run_pure]
  unfold effCopy at he
  split at he
  · rename_i k j g b e es2 heq
    simp only [List.cons.injEq, and_true] at heq
    obtain ⟨rfl, rfl⟩ := heq
    have hes : EntsOf ob (k :: keysOf [ay]) (e :: es2) := hes
    have hnd : nodupB (k :: keysOf [ay]) = true := hnd
    obtain ⟨hk, hes2⟩ := ents_cons hes
    obtain ⟨hke, _⟩ := nodup_mem hnd
    obtain ⟨c, hc, he⟩ := Option.bind_eq_some_iff.1 he
    obtain ⟨c1, c2⟩ := celAt_some hc
    have hv : ρ x = G.ν k j := hx.2.2 e c hk c1 c2
    split at he
    · rename_i e0 k0 sz by_ hty
      obtain ⟨hu, ti, z, hi, hisz, hiby, hz0, hzs, hs0, hb0, hkk⟩ := ty_slice hT hty
      obtain ⟨hs1, hue, hzk⟩ := hkk _ rfl
      have hsz : (P.info? e0).map (·.size) = some 1 := by rw [hi]; simp [hisz, hs1]
      cases hown : c.own with
      | false => rw [hown] at he; cases he
      | true =>
        rw [hown] at he
        simp only [Bool.and_true, cond_true] at he
        obtain ⟨xr, hxr, he⟩ := Option.bind_eq_some_iff.1 he
        split at he
        · rename_i k1 l k2 m hcv
          cases hb : (k1 == k2) with
          | false => rw [hb] at he; cases he
          | true =>
            rw [hb] at he
            cases he
            obtain rfl := eq_of_beq hb
            have hO := (h.cel k e j c hk c1).1
            unfold CelOk at hO
            rw [if_pos hown, hcv] at hO
            obtain ⟨A, cc, h1, h2, h3, vs, h4, h5, h6, h7⟩ := vals_ownC rfl (asRow_at (rest := []) hT h hy (by simpa using hes2) hxr rfl)
            simp only [rowLen, rowSz, Nat.mul_one] at h1 h2 h3 h4
            show (setCel e j _ :: es2).length = (e :: es2).length ∧ Good P N ρ o G ob w (setEnts (ob.set k _) (keysOf [ay]) es2) _
            rw [setEnts_self (ents_set _ hes2 hke)]
            refine ⟨rfl, ?_⟩
            obtain ⟨_, o2⟩ := hO.row rfl
            -- nothing goes over
            have none_ : min m.length l.length = 0 → (∃ D dc, ρ x = .slice D l.length dc) → Good P N ρ o G ob w (ob.set k (setCel e j ⟨c.g, true, .ints k1 (m.take l.length ++ l.drop m.length)⟩)) (.int .i64 (min m.length l.length : Nat)) := by
              rintro h0 ⟨D, dc, hD⟩
              have hsame : m.take l.length ++ l.drop m.length = l := by
                rcases Nat.eq_zero_or_pos l.length with hl | hl
                · obtain rfl := List.eq_nil_of_length_eq_zero hl
                  simp
                · obtain rfl : m = [] := List.eq_nil_of_length_eq_zero (by omega)
                  simp
              rw [hsame, ← hcv]
              have hcc : (⟨c.g, true, c.v⟩ : Cel) = c := by cases c; simp only at hown; rw [hown]
              rw [hcc, cel_self c1, set_self hk, h0]
              refine .same h (v := goInt 0) (hbt _ _ ?_) (Rep.int _ _)
              rw [hD, h1]
              exact run_copy_none w t u o.type e0 D A l.length dc m.length cc hu hsz h0
            rcases o2 with ⟨o3, o4⟩ | ⟨b, cap, cur, te, mm, o3, o4, o5, o6, o7, o8, o9⟩
            · simp only [rowLen] at o4
              exact none_ (by omega) ⟨none, 0, by rw [hv, o3, o4]⟩
            · simp only [rowLen, rowSz, Nat.mul_one] at o3 o5 o7 o8
              by_cases h0 : min m.length l.length = 0
              · exact none_ h0 ⟨_, _, by rw [hv, o3]⟩
              · have hvl : 0 < vs.length := by omega
                obtain ⟨ad, hA, hcells⟩ := h6 hvl
                have hlen : (vs.take l.length).length = min m.length l.length := by simp [h4, Nat.min_comm]
                have hle : 0 + (vs.take l.length).length ≤ cur.size := by omega
                have hrun := run_copy_cells (P := P) w t u o.type e0 b 0 l.length cap ad m.length cc (vs.take l.length) hu hsz (by rw [hlen]) (fun j v hj => by
                  rw [List.getElem?_take] at hj
                  split at hj
                  · exact hcells j v hj
                  · cases hj) (fun j hj => by
                  simp only [World.cell?, o4]
                  rw [Array.getElem?_eq_getElem (by omega)]
                  rfl) (fun j hj => by
                  simp only [World.frozen?, o4]
                  rcases o8 with rfl | o8
                  · simp
                  · have : ¬ mm.1 ≤ j := by omega
                    simp [this]) (fun v hv => h5 v (List.mem_of_mem_take hv))
                obtain ⟨b1, b2, b3⟩ := h.bnd _ b (blkS hk c1 hown (by rw [o3]; rfl))
                obtain ⟨cur', s1, s2, s3, s4⟩ := setCells_heap b (vs.take l.length) 0 w cur o4 hle
                rw [hlen] at hrun
                refine ⟨_, _, G, .inl (hbt _ _ (by rw [hv, o3, h1, hA]; exact hrun)), MTo.cell h hk c1 true _ (setCells_to b3 _ _ w) rfl rfl (fun _ h => h) (fun _ h => .inl h) (fun q => ?_) (fun _ => ⟨hown, ?_, ?_⟩) ?_, Rep.int _ _⟩
                · by_cases hqb : q = b
                  · exact .inr ⟨hown, by rw [o3, hqb]; rfl, rfl⟩
                  · exact .inl (setCells_other _ _ _ _ _ hqb)
                · rw [hcv]
                  simp [rowLen]
                  omega
                · rw [hcv]; rfl
                · unfold CelOk
                  rw [if_pos rfl]
                  have hll : (m.take l.length ++ l.drop m.length).length = l.length := by simp; omega
                  refine .inl ⟨rfl, .inr ⟨b, cap, cur', te, mm, by simp only [rowLen]; rw [hll]; exact o3, s1, by simp only [rowLen]; omega, o6, by simp only [rowSz]; omega, by simp only [rowSz, Nat.mul_one]; exact o8, fun i n hi => ?_⟩⟩
                  by_cases hlt : i < (m.take l.length).length
                  · rw [List.getElem?_append_left hlt] at hi
                    have hil : i < l.length ∧ i < m.length := by simp at hlt; omega
                    rw [List.getElem?_take, if_pos hil.1] at hi
                    have := s4 i (.int k1 n) (by rw [List.getElem?_take, if_pos hil.1]; simpa using h7 i n hi)
                    simpa using this
                  · rw [List.getElem?_append_right (by omega)] at hi
                    have hml : m.length ≤ i := by
                      have := (List.getElem?_eq_some_iff.1 hi).1
                      simp at this hlt
                      omega
                    rw [s3 i (by rw [hlen]; omega)]
                    refine o9 i n ?_
                    rw [List.getElem?_drop] at hi
                    rw [← hi]
                    congr 1
                    simp at hlt ⊢
                    have := (List.getElem?_eq_some_iff.1 hi).1
                    omega
        · cases he
    · simp at he
  · cases he
theorem parts_zip {β : Type} (f : Operand → β) : ∀ (l : List (Nat × Operand)) (m : Nat), l.map (·.1) = List.range' m l.length → (l.map fun p => (p.1, f p.2)) = ((l.map fun p => f p.2).zipIdx m).map fun x => (x.2, x.1)
  | [], _, _ => rfl
  | p :: l, m, h => by
    simp only [List.map_cons, List.length_cons, List.range'_succ, List.cons.injEq] at h
    simp only [List.map_cons, List.zipIdx_cons, List.cons.injEq]
    exact ⟨by rw [h.1], parts_zip f l (m + 1) h.2⟩
theorem lit (hT : tblOk P T = true) (h : MOk N G ob w) (hN : ∀ b, w.heap.size ≤ b → N b) {t n d e sz by_ : Nat} {k : Option IntKind} (hty : tyAt T t = .slice e k sz by_) {parts : Array (Nat × Operand)} (ho : o.op = .buildSlice t n parts) {ed : Ent} (hed : ob[d]? = some ed) (hn : n ≤ 1000) (hsz : sz ≤ 1000) (his : parts.toList.map (·.1) = List.range n) (r : AV) (hr : isRow r = true) (hrn : rowLen r = n) (hrs : rowSz r = sz)
    (hv : ∀ v ∈ parts.toList.map (fun p => ρ p.2), v.cells.size = sz) (hrow : ∀ w' : World, (∀ q, G.F q → w'.heap[q]? = w.heap[q]?) → OwnC G.F w' r ((parts.toList.map fun p => ρ p.2).flatMap fun v => v.cells.toList).toArray) : Good P N ρ o G ob w (ob.set d (newRow ed r)) (.sl d 0 (ed.g + 1)) := by
  obtain ⟨hu, ti, z, hi, hisz, hiby, hz0, hzs, hs0, hb0, hkk⟩ := ty_slice hT hty
  have hlen : parts.toList.length = n := by
    have := congrArg List.length his
    simpa using this
  have hfill : ∀ cells : Array Value, cells.size = n * sz → Instr.fill (fun i => some (i * ti.size, ti.size)) cells (parts.map fun (i, x) => (i, ρ x)).toList = some ((parts.toList.map fun p => ρ p.2).flatMap fun v => v.cells.toList).toArray := by
    intro cells hc
    have := Great.fill_whole hs0 (parts.toList.map fun p => ρ p.2) cells hv (by rw [hc, List.length_map, hlen])
    rw [hisz, ← this]
    congr 1
    rw [Array.toList_map]
    exact parts_zip ρ parts.toList 0 (by rw [his, hlen, List.range_eq_range'])
  have hnsz : n * sz ≤ 1000 * 1000 := Nat.mul_le_mul hn hsz
  have hrun : (Instr.buildSlice t n (parts.map fun (i, x) => (i, ρ x))).run P w = .ok (.slice (some ⟨w.heap.size, 0, none⟩) n n) (w.alloc (.cells ((parts.toList.map fun p => ρ p.2).flatMap fun v => v.cells.toList).toArray e)) := by
    by_cases h0 : n * sz = 0
    · have hn0 : n = 0 := (Nat.mul_eq_zero.1 h0).resolve_right (by omega)
      subst hn0
      obtain rfl : parts = #[] := by
        have := List.eq_nil_of_length_eq_zero hlen
        simpa using this
      have hz : Array.map (fun (_ : Nat) => (default : Value)) (Array.range 0) = #[] := by apply Array.ext <;> simp
      simp [Instr.buildSlice, run_underlying' hu, run_sizeOf' hi, Instr.fill, Go.newRow, hz]
    · exact run_buildSlice w t e n _ _ ti z hu hi hz0 (by rw [hisz]; omega) (by rw [hisz]; exact h0) (hfill _ (by simp [hisz]))
  have hcs : ((parts.toList.map fun p => ρ p.2).flatMap fun v => v.cells.toList).toArray.size = n * sz := by
    rw [List.size_toArray, List.length_flatMap]
    have : ((parts.toList.map fun p => ρ p.2).map fun v => v.cells.toList.length) = List.replicate n sz := by
      rw [List.eq_replicate_iff]
      refine ⟨by simpa using hlen, fun b hb => ?_⟩
      obtain ⟨v, h1, rfl⟩ := List.mem_map.1 hb
      simpa using hv v h1
    rw [this]
    simp
  have hrun2 : (execOp ρ o).run P w = .ok (.value (.slice (some ⟨w.heap.size, 0, none⟩) n n)) (w.alloc (.cells ((parts.toList.map fun p => ρ p.2).flatMap fun v => v.cells.toList).toArray e)) := by
    simp only [execOp, ho, Sem.run_bind, hrun, Result.andThen_ok, Sem.run_pure]
  refine good_row h hN hed r _ (alloc_to w _) (fun b hb => Below.heap_alloc w _ b hb) ?_ (fun b hb => ?_) hrun2
  · exact .inl ⟨hr, .inr ⟨w.heap.size, n, _, e, (0, 0), by rw [hrn], heap_alloc_new w _, by omega, by simp only [maxLen]; omega, by rw [hcs, hrs], .inl rfl, hrow _ (fun q hq => Below.heap_alloc w _ q (h.frozen q hq))⟩⟩
  · simp only [Value.oblk, Value.ownBlock, Option.some.injEq] at hb
    subst hb
    simp
theorem good_sliceLit (hT : tblOk P T = true) (h : MOk N G ob w) (hN : ∀ b, w.heap.size ≤ b → N b) {t n d : Nat} {parts : Array (Nat × Operand)} (ho : o.op = .buildSlice t n parts) (hd : o.dst = some d) {tm : List AV} (hav : ∀ y, AVOk G ob w (opnd tm y) (ρ y)) {vs : List AV} (hvs : vs = parts.toList.map fun p => opnd tm p.2) {es : List Ent} (hes : EntsOf ob (keysOf vs ++ [d]) es)
    (he : effSliceLit T t n o.dst (parts.toList.map (·.1)) vs es = some (true, av, es')) : es'.length = es.length ∧ Good P N ρ o G ob w (setEnts ob (keysOf vs ++ [d]) es') av := by
  unfold effSliceLit at he
  rw [hd] at he
  split at he
  · rename_i d' ed hdd
    cases hdd
    have hkeys : keysOf vs ++ [d] = [d] := by
      have := hes.1
      have h0 : keysOf vs = [] := List.eq_nil_of_length_eq_zero (by simpa using this.symm)
      rw [h0]
      rfl
    rw [hkeys] at hes
    rw [hkeys]
    have hed := ents_one hes
    have at_ : ∀ (i : Nat) (a : AV), vs[i]? = some a → ∃ v, (parts.toList.map fun p => ρ p.2)[i]? = some v ∧ AVOk G ob w a v := by
      intro i a ha
      rw [hvs, List.getElem?_map] at ha
      obtain ⟨p, h1, h2⟩ := Option.map_eq_some_iff.1 ha
      exact ⟨ρ p.2, by rw [List.getElem?_map, h1]; rfl, by rw [← h2]; exact hav _⟩
    have back : ∀ v ∈ parts.toList.map (fun p => ρ p.2), ∃ a ∈ vs, AVOk G ob w a v := by
      intro v hv
      obtain ⟨p, h1, rfl⟩ := List.mem_map.1 hv
      exact ⟨_, by rw [hvs]; exact List.mem_map.2 ⟨p, h1, rfl⟩, hav p.2⟩
    cases hb : (parts.toList.map (·.1) == List.range n && Nat.beq vs.length n && Nat.ble n 1000) with
    | false => rw [hb] at he; cases he
    | true =>
      rw [hb] at he
      simp only [cond_true] at he
      rw [Bool.and_eq_true, Bool.and_eq_true] at hb
      obtain ⟨⟨hb1, hb2⟩, hb3⟩ := hb
      have his := eq_of_beq hb1
      have hn := Nat.eq_of_beq_eq_true hb2
      have hn3 := Nat.le_of_ble_eq_true hb3
      split at he
      · rename_i e k sz by_ hty
        have hs1 : sz = 1 := by
          obtain ⟨hu, ti, z, hi, hisz, hiby, hz0, hzs, hs0, hb0, hkk⟩ := ty_slice hT hty
          exact (hkk _ rfl).1
        cases hall : (vs.all (isIntK k)) with
        | false => rw [hall] at he; cases he
        | true =>
          rw [hall] at he
          cases he
          have hint : ∀ a ∈ vs, ∃ m, a = .int k m := by
            intro a ha
            have := List.all_eq_true.1 hall a ha
            unfold isIntK at this
            split at this
            · rename_i k' m
              exact ⟨m, by rw [eq_of_beq this]⟩
            · cases this
          refine ⟨rfl, ?_⟩
          rw [setEnts_one]
          have hone : ∀ v ∈ parts.toList.map (fun p => ρ p.2), v.cells = #[v] := by
            intro v hv
            obtain ⟨a, ha, hr⟩ := back v hv
            obtain ⟨m, rfl⟩ := hint a ha
            have := av_int hr
            rw [this]
            rfl
          refine lit hT h hN hty ho hed hn3 (by omega) his _ rfl (by simp [rowLen, hn]) (by rw [hs1]; rfl) (fun v hv => by rw [hone v hv, hs1]; rfl) (fun w' hw i m hi => ?_)
          rw [List.getElem?_map] at hi
          obtain ⟨a, ha, hm⟩ := Option.map_eq_some_iff.1 hi
          obtain ⟨v, hv1, hv2⟩ := at_ i a ha
          obtain ⟨m', rfl⟩ := hint a (List.mem_of_getElem? ha)
          simp only [intOf] at hm
          subst hm
          have := av_int hv2
          subst this
          simp only [List.getElem?_toArray]
          rw [Great.flat_get (s := 1) (by omega) _ (fun v hv => by rw [hone v hv]; rfl)]
          simp only [Nat.div_one, Nat.mod_one]
          rw [hv1]
          rfl
      · rename_i e sz by_ hty
        cases hall : (Nat.ble sz 1000 && vs.all (isPart sz)) with
        | false => rw [hall] at he; cases he
        | true =>
          rw [hall] at he
          cases he
          rw [Bool.and_eq_true] at hall
          have hsz := Nat.le_of_ble_eq_true hall.1
          have hs0 : 0 < sz := by
            obtain ⟨hu, ti, z, hi, hisz, hiby, hz0, hzs, hs0, hb0, hkk⟩ := ty_slice hT hty
            exact hs0
          have hagg : ∀ a ∈ vs, (∃ cs, a = .agg cs ∧ cs.length = sz) ∨ ∃ s, a = .str s ∧ sz = 1 := by
            intro a ha
            have := List.all_eq_true.1 hall.2 a ha
            unfold isPart at this
            split at this
            · rename_i cs
              rw [Bool.and_eq_true] at this
              exact .inl ⟨cs, rfl, Nat.eq_of_beq_eq_true this.1⟩
            · rename_i s
              exact .inr ⟨s, rfl, Nat.eq_of_beq_eq_true this⟩
            · cases this
          -- a part's cells
          have cells_ : ∀ a v, a ∈ vs → AVOk G ob w a v → v.cells.size = sz ∧ ∀ cs, partOf a = cs → cs.length = sz ∧ ∀ (j : Nat) (c : AV), cs[j]? = some c → ∃ u, v.cells[j]? = some u ∧ u.oneCell' = true ∧ Rep G.F w c u := by
            intro a v ha hr
            rcases hagg a ha with ⟨cs, rfl, hl⟩ | ⟨s, rfl, hl⟩
            · have hr : Rep G.F w (.agg cs) v := hr
              cases hr with
              | agg _ us h1 h2 h3 =>
                refine ⟨by simp [Value.cells, ← h1, hl], fun cs' hcs => ?_⟩
                cases hcs
                refine ⟨hl, fun j c hj => ?_⟩
                have hlt : j < us.size := by rw [← h1]; exact (List.getElem?_eq_some_iff.1 hj).1
                exact ⟨us[j], Array.getElem?_eq_getElem hlt, h2 _ (Array.getElem_mem hlt), h3 j c _ hj (Array.getElem?_eq_getElem hlt)⟩
            · have := av_str hr
              subst this
              refine ⟨by rw [hl]; rfl, fun cs' hcs => ?_⟩
              cases hcs
              refine ⟨by rw [hl]; rfl, fun j c hj => ?_⟩
              cases j with
              | zero =>
                cases hj
                exact ⟨.string s, rfl, rfl, Rep.str s⟩
              | succ j => simp [partOf] at hj
          have hvsz : ∀ v ∈ parts.toList.map (fun p => ρ p.2), v.cells.size = sz := by
            intro v hv
            obtain ⟨a, ha, hr⟩ := back v hv
            exact (cells_ a v ha hr).1
          refine ⟨rfl, ?_⟩
          rw [setEnts_one]
          refine lit hT h hN hty ho hed hn3 hsz his _ rfl (by simp [rowLen, hn]) rfl hvsz (fun w' hw i e' hi => ?_)
          rw [List.getElem?_map] at hi
          obtain ⟨a, ha, hm⟩ := Option.map_eq_some_iff.1 hi
          obtain ⟨v, hv1, hv2⟩ := at_ i a ha
          obtain ⟨q1, q2⟩ := (cells_ a v (List.mem_of_getElem? ha) hv2).2 e' hm
          refine ⟨q1, fun j c hj => ?_⟩
          obtain ⟨u, u1, u2, u3⟩ := q2 j c hj
          have hjlt : j < sz := by rw [← q1]; exact (List.getElem?_eq_some_iff.1 hj).1
          refine ⟨u, ?_, u2, u3.mono (fun _ h => h) hw⟩
          simp only [List.getElem?_toArray]
          rw [Great.flat_get hs0 _ hvsz, Nat.mul_comm i sz, Nat.mul_add_div hs0, Nat.div_eq_of_lt hjlt, Nat.mul_add_mod, Nat.mod_eq_of_lt hjlt, Nat.add_zero, hv1]
          exact u1
      · cases he
  · cases he
end
end Go.Abs
end
section
/- An abstract machine for the model's code, part O: what is handed on; structs; calls. -/
namespace Go.Abs
open Go.RowKit
theorem empty_rep {F : Nat → Prop} {w : World} (t : ATy) : Rep F w (emptyRow t) (.slice none 0 0) := by
  unfold emptyRow
  split
  · exact .ints _ [] none 0 (by simp) (by simp) (fun i n hi => by simp at hi)
  · exact .rows _ [] none 0 (fun _ _ => default) (by simp) (by simp) (fun i n hi => by simp at hi) (fun i n hi => by simp at hi) (fun i e j a hi => by simp at hi)
  · exact .top _
theorem fillNil_rep {F : Nat → Prop} {w : World} : ∀ (zs cs : List AV) (vs : List Value), cs.length = vs.length → (∀ (i : Nat) (a : AV) (v : Value), cs[i]? = some a → vs[i]? = some v → Rep F w a v) →
    (plain1.fillNil zs cs).length = vs.length ∧ ∀ (i : Nat) (a : AV) (v : Value), (plain1.fillNil zs cs)[i]? = some a → vs[i]? = some v → Rep F w a v
  | zs, [], vs, hl, h => by
    have : plain1.fillNil zs [] = [] := by unfold plain1.fillNil; split <;> simp_all
    rw [this]
    exact ⟨hl, h⟩
  | zs, c :: cs, [], hl, h => by simp at hl
  | zs, c :: cs, v :: vs, hl, h => by
    have h0 := h 0 c v rfl rfl
    have hr : ∀ (i : Nat) (a : AV) (u : Value), cs[i]? = some a → vs[i]? = some u → Rep F w a u := fun i a u h1 h2 => h (i + 1) a u (by simpa using h1) (by simpa using h2)
    have hl' : cs.length = vs.length := by simpa using hl
    have key : ∀ (zs' : List AV) (c' : AV), Rep F w c' v → plain1.fillNil zs (c :: cs) = c' :: plain1.fillNil zs' cs → (plain1.fillNil zs (c :: cs)).length = (v :: vs).length ∧ ∀ (i : Nat) (a : AV) (u : Value), (plain1.fillNil zs (c :: cs))[i]? = some a → (v :: vs)[i]? = some u → Rep F w a u := by
      intro zs' c' hc he
      obtain ⟨k1, k2⟩ := fillNil_rep zs' cs vs hl' hr
      rw [he]
      refine ⟨by simpa using k1, fun i a u h1 h2 => ?_⟩
      cases i with
      | zero => cases h1; cases h2; exact hc
      | succ i => exact k2 i a u (by simpa using h1) (by simpa using h2)
    cases zs with
    | nil => exact ⟨hl, h⟩
    | cons z zs =>
      by_cases hn : ∃ k, z = .ints k [] ∧ c = .nil
      · obtain ⟨k, rfl, rfl⟩ := hn
        refine key zs (.ints k []) ?_ rfl
        cases h0
        exact .ints _ [] none 0 (by simp) (by simp) (fun i n hi => by simp at hi)
      · by_cases hn2 : ∃ k, z = .rows k [] ∧ c = .nil
        · obtain ⟨k, rfl, rfl⟩ := hn2
          refine key zs (.rows k []) ?_ rfl
          cases h0
          exact .rows _ [] none 0 (fun _ _ => default) (by simp) (by simp) (fun i n hi => by simp at hi) (fun i n hi => by simp at hi) (fun i e j a hi => by simp at hi)
        · refine key zs c h0 ?_
          cases c <;> first | rfl | (cases z <;> first | rfl | (rename_i l; cases l <;> first | rfl | exact absurd ⟨_, rfl, rfl⟩ hn | exact absurd ⟨_, rfl, rfl⟩ hn2))
theorem plain_rep {F : Nat → Prop} {w : World} {T : Tbl} {t : Nat} {a : AV} {v : Value} (h : Rep F w a v) : Rep F w (plain1 T t a) v := by
  unfold plain1
  split
  · cases h
    exact empty_rep _
  · split
    · cases h with
      | agg _ vs hl h1 h2 =>
        obtain ⟨k1, k2⟩ := fillNil_rep (F := F) (w := w) _ _ vs.toList (by simpa using hl) (fun i a v i1 i2 => h2 i a v i1 (by simpa using i2))
        exact .agg _ vs (by simpa using k1) h1 (fun i a v i1 i2 => k2 i a v i1 (by simpa using i2))
    · exact .top _
  · exact h
  · exact .top _
  · exact .top _
  · exact .top _
  · exact .top _
  · exact h
section
variable {P : Program} {T : Tbl} {N : Nat → Prop} {ρ : Operand → Value} {o : Oper} {G : Gh} {ob : List Ent} {w : World} {av : AV} {es' : List Ent}
theorem frz_at {e e' : Ent} {j g : Nat} {v : AV} (h : frz e j g = some (v, e')) : ∃ c, cel e j = some c ∧ c.g = g ∧ v = c.v ∧ e' = setCel e j ⟨c.g, false, c.v⟩ := by
  unfold frz at h
  obtain ⟨c, hc, h2⟩ := Option.bind_eq_some_iff.1 h
  obtain ⟨c1, c2⟩ := celAt_some hc
  cases h2
  exact ⟨c, c1, c2, rfl, by rw [c2]⟩
/-- Values that are handed on: each is read from here on. -/
theorem hand_on {pl : Nat → AV → AV} (hpl : ∀ F w t a v, Rep F w a v → Rep F w (pl t a) v) : ∀ {vs : List AV} {us : List Value} {G : Gh} {ob : List Ent} {ks ts : List Nat} {es es' : List Ent} {r : List AV}, MOk N G ob w → vs.length = us.length → (∀ (i : Nat) (a : AV) (u : Value), vs[i]? = some a → us[i]? = some u → AVOk G ob w a u) →
    EntsOf ob (keysOf vs ++ ks) es → nodupB (keysOf vs ++ ks) = true → handOn pl vs ts es = some (r, es') → ∃ G' es1 es2, es = es1 ++ es2 ∧ EntsOf ob ks es2 ∧ es1.length = (keysOf vs).length ∧ ∃ es3, es' = es3 ++ es2 ∧ es3.length = es1.length ∧
      MTo N G ob w G' (setEnts ob (keysOf vs) es3) w ∧ r.length = us.length ∧ ∀ (i : Nat) (a : AV) (u : Value), r[i]? = some a → us[i]? = some u → Rep G'.F w a u
  | [], us, G, ob, ks, ts, es, es', r, h, hl, hav, hes, hnd, he => by
    have he : some (([] : List AV), es) = some (r, es') := he
    cases he
    refine ⟨G, [], es, rfl, by simpa [keysOf] using hes, rfl, [], rfl, rfl, .refl h, hl, fun i a u hi => by simp at hi⟩
  | v :: vs, [], _, _, _, _, _, _, _, _, hl, _, _, _, _ => by simp at hl
  | v :: vs, u :: us, G, ob, ks, ts, es, es', r, h, hl, hav, hes, hnd, he => by
    have h0 := hav 0 v u rfl rfl
    have hr : ∀ (i : Nat) (a : AV) (u : Value), vs[i]? = some a → us[i]? = some u → AVOk G ob w a u := fun i a u h1 h2 => hav (i + 1) a u (by simpa using h1) (by simpa using h2)
    have hl' : vs.length = us.length := by simpa using hl
    have other : (∀ k g o, v ≠ .ptr k g o) → (∀ k j g i o, v ≠ .elem k j g i o) → (∀ k j g, v ≠ .sl k j g) → (∀ f i j k l, v ≠ .clo f i j k l) → ∃ G' es1 es2, es = es1 ++ es2 ∧ EntsOf ob ks es2 ∧ es1.length = (keysOf (v :: vs)).length ∧ ∃ es3, es' = es3 ++ es2 ∧ es3.length = es1.length ∧
      MTo N G ob w G' (setEnts ob (keysOf (v :: vs)) es3) w ∧ r.length = (u :: us).length ∧ ∀ (i : Nat) (a : AV) (x : Value), r[i]? = some a → (u :: us)[i]? = some x → Rep G'.F w a x := by
      intro n1 n2 n3 n4
      have hk : keysOf (v :: vs) = keysOf vs := by
        cases v <;> first | rfl | exact absurd rfl (n1 _ _ _) | exact absurd rfl (n2 _ _ _ _ _) | exact absurd rfl (n3 _ _ _) | exact absurd rfl (n4 _ _ _ _ _)
      have hv : Rep G.F w v u := by
        cases v <;> first | exact h0 | exact absurd rfl (n1 _ _ _) | exact absurd rfl (n2 _ _ _ _ _) | exact absurd rfl (n3 _ _ _) | exact absurd rfl (n4 _ _ _ _ _)
      rw [hk] at hes hnd ⊢
      obtain ⟨t, ts', r2, es2, hts, h1, rfl, rfl⟩ : ∃ t ts' r2 es2, ts = t :: ts' ∧ handOn pl vs ts' es = some (r2, es2) ∧ r = pl t v :: r2 ∧ es' = es2 := by
        cases ts with
        | nil => cases v <;> first | (cases he; done) | exact absurd rfl (n3 _ _ _) | exact absurd rfl (n4 _ _ _ _ _)
        | cons t ts' =>
          have he : (handOn pl vs ts' es).bind (fun (r, es') => some (pl t v :: r, es')) = some (r, es') := by
            cases v <;> first | exact he | exact absurd rfl (n1 _ _ _) | exact absurd rfl (n2 _ _ _ _ _) | exact absurd rfl (n3 _ _ _) | exact absurd rfl (n4 _ _ _ _ _)
          obtain ⟨⟨r2, es2⟩, q1, q2⟩ := Option.bind_eq_some_iff.1 he
          cases q2
          exact ⟨t, ts', _, _, rfl, q1, rfl, rfl⟩
      obtain ⟨G', es1, es4, i1, i2, i3, es3, i4, i5, i6, i7, i8⟩ := hand_on hpl h hl' hr hes hnd h1
      refine ⟨G', es1, es4, i1, i2, i3, es3, i4, i5, i6, by simpa using i7, fun i a x h1 h2 => ?_⟩
      cases i with
      | zero => cases h1; cases h2; exact hpl _ _ _ _ _ (hv.mono i6.up i6.same)
      | succ i => exact i8 i a x (by simpa using h1) (by simpa using h2)
    cases v with
    | sl k j g =>
      cases ts with
      | nil => cases he
      | cons t ts =>
        cases es with
        | nil => cases he
        | cons e es =>
          have he : (frz e j g).bind (fun (v, e') => (handOn pl vs ts es).bind fun (r, es') => some (v :: r, e' :: es')) = some (r, es') := he
          obtain ⟨⟨x, e1⟩, q1, q2⟩ := Option.bind_eq_some_iff.1 he
          obtain ⟨⟨r2, es2⟩, q3, q4⟩ := Option.bind_eq_some_iff.1 q2
          cases q4
          obtain ⟨c, c1, c2, rfl, rfl⟩ := frz_at q1
          have hes : EntsOf ob (k :: (keysOf vs ++ ks)) (e :: es) := hes
          have hnd : nodupB (k :: (keysOf vs ++ ks)) = true := hnd
          obtain ⟨hk, hes2⟩ := ents_cons hes
          obtain ⟨hn1, hn2⟩ := nodup_mem hnd
          obtain ⟨G1, m1, hν, hrep⟩ := MTo.frz h hk c1
          have hv : u = G.ν k j := h0.2.2 e c hk c1 c2
          obtain ⟨G', es1, es4, i1, i2, i3, es3, i4, i5, i6, i7, i8⟩ := hand_on hpl m1.ok hl' (fun i a u h1 h2 => (hr i a u h1 h2).to m1) (ents_set _ hes2 hn1) hn2 q3
          subst i1
          refine ⟨G', e :: es1, es4, rfl, ?_, by rw [List.length_cons, i3]; rfl, _ :: es3, by rw [i4]; rfl, by rw [List.length_cons, List.length_cons, i5], m1.trans i6, by simpa using i7, fun i a x h1 h2 => ?_⟩
          · refine ⟨i2.1, fun i k' e' h1 h2 => ?_⟩
            refine hes2.2 (es1.length + i) k' e' ?_ ?_
            · rw [List.getElem?_append_right (by omega), i3, Nat.add_sub_cancel_left]; exact h1
            · rw [List.getElem?_append_right (by omega), Nat.add_sub_cancel_left]; exact h2
          · cases i with
            | zero =>
              cases h1; cases h2
              rw [hv]
              exact hrep.mono i6.up i6.same
            | succ i => exact i8 i a x (by simpa using h1) (by simpa using h2)
    | ptr => cases he
    | elem => cases he
    | clo => cases he
    | _ => exact other (fun _ _ _ => by simp) (fun _ _ _ _ _ => by simp) (fun _ _ _ => by simp) (fun _ _ _ _ _ => by simp)
end
end Go.Abs
end
section
/- An abstract machine for the model's code, part P: structs; calls. -/
namespace Go.Abs
open Go.RowKit
def CellsRep (F : Nat → Prop) (w : World) (cs : List AV) (vs : Array Value) : Prop := cs.length = vs.size ∧ ∀ (j : Nat) (a : AV) (v : Value), cs[j]? = some a → vs[j]? = some v → v.oneCell' = true ∧ Rep F w a v
theorem CellsRep.set {F : Nat → Prop} {w : World} {cs ns : List AV} {vs : Array Value} (h : CellsRep F w cs vs) {off : Nat} {us : List Value} (hl : ns.length = us.length) (hle : off + us.length ≤ cs.length) (hn : ∀ (j : Nat) (a : AV) (v : Value), ns[j]? = some a → us[j]? = some v → v.oneCell' = true ∧ Rep F w a v) :
    CellsRep F w (cs.take off ++ (ns ++ cs.drop (off + us.length))) ((us.zipIdx 0).foldl (fun cs (x : Value × Nat) => cs.setIfInBounds (off + x.2) x.1) vs) := by
  obtain ⟨h1, h2⟩ := h
  obtain ⟨g1, g2⟩ := Great.foldl_set off us 0 vs
  refine ⟨by rw [g1]; simp; omega, fun j a v ha hv => ?_⟩
  rw [g2 j] at hv
  simp only [Nat.add_zero] at hv
  by_cases hj : off ≤ j ∧ j < off + us.length ∧ j < vs.size
  · rw [if_pos hj] at hv
    rw [List.getElem?_append_right (by simp; omega), List.getElem?_append_left (by simp; omega)] at ha
    have : j - (cs.take off).length = j - off := by simp; omega
    rw [this] at ha
    exact hn _ a v ha hv
  · rw [if_neg hj] at hv
    have hjv := (Array.getElem?_eq_some_iff.1 hv).1
    by_cases hlt : j < off
    · rw [List.getElem?_append_left (by simp; omega), List.getElem?_take, if_pos hlt] at ha
      exact h2 j a v ha hv
    · rw [List.getElem?_append_right (by simp; omega), List.getElem?_append_right (by simp; omega), List.getElem?_drop] at ha
      have : off + us.length + (j - (cs.take off).length - ns.length) = j := by simp; omega
      rw [this] at ha
      exact h2 j a v ha hv
/-- The struct's parts go where 'lay' puts them. -/
theorem lay_fill {F : Nat → Prop} {w : World} {fs : List (Nat × Nat × Bool)} {place : Nat → Option (Nat × Nat)} (hp : ∀ i off sz ag, fs[i]? = some (off, sz, ag) → place i = some (off, sz)) : ∀ (is : List Nat) (ps cells cs : List AV) (us : List Value) (vs : Array Value), lay fs cells is ps = some cs → ps.length = us.length →
    (∀ (i : Nat) (a : AV) (u : Value), ps[i]? = some a → us[i]? = some u → Rep F w a u) → CellsRep F w cells vs → ∃ vs', Instr.fill place vs (is.zip us) = some vs' ∧ CellsRep F w cs vs'
  | [], ps, cells, cs, us, vs, h, hl, hr, hc => by
    cases ps with
    | nil => cases h; exact ⟨vs, rfl, hc⟩
    | cons p ps => cases h
  | i :: is, ps, cells, cs, us, vs, h, hl, hr, hc => by
    cases ps with
    | nil => cases h
    | cons p ps =>
      cases us with
      | nil => simp at hl
      | cons u us =>
        have h0 := hr 0 p u rfl rfl
        have hr' : ∀ (i : Nat) (a : AV) (u : Value), ps[i]? = some a → us[i]? = some u → Rep F w a u := fun i a u h1 h2 => hr (i + 1) a u (by simpa using h1) (by simpa using h2)
        have hl' : ps.length = us.length := by simpa using hl
        unfold lay at h
        split at h
        · rename_i off sz agg hfi
          have hpl := hp _ _ _ _ hfi
          have go : ∀ (ns : List AV) (cells' : List AV), ns.length = sz → u.cells.size = sz → off + sz ≤ cells.length → (∀ (j : Nat) (a : AV) (v : Value), ns[j]? = some a → u.cells.toList[j]? = some v → v.oneCell' = true ∧ Rep F w a v) → cells' = cells.take off ++ (ns ++ cells.drop (off + sz)) → lay fs cells' is ps = some cs →
              ∃ vs', Instr.fill place vs ((i :: is).zip (u :: us)) = some vs' ∧ CellsRep F w cs vs' := by
            intro ns cells' h1 h2 h3 h4 h5 h6
            have hc2 := hc.set (off := off) (us := u.cells.toList) (ns := ns) (by rw [h1]; simpa using h2.symm) (by simp [h2]; exact h3) h4
            rw [show u.cells.toList.length = sz by simpa using h2, ← h5] at hc2
            obtain ⟨vs', k1, k2⟩ := lay_fill hp is ps cells' cs us _ h6 hl' hr' hc2
            refine ⟨vs', ?_, k2⟩
            rw [List.zip_cons_cons]
            unfold Instr.fill
            rw [hpl]
            simp only
            rw [if_neg (by have := hc.1; simp; omega), ← k1]
            congr 1
            rw [← Array.foldl_toList, Array.toList_zipIdx]
          split at h
          · rename_i cs0
            cases hb : (agg && Nat.beq cs0.length sz && Nat.ble (off + sz) cells.length) with
            | false => rw [hb] at h; cases h
            | true =>
              rw [hb] at h
              simp only [Bool.and_eq_true] at hb
              have hsz := Nat.eq_of_beq_eq_true hb.1.2
              have hle := Nat.le_of_ble_eq_true hb.2
              cases h0 with
              | agg _ us' i1 i2 i3 =>
                refine go cs0 _ hsz (by simp [Value.cells]; omega) hle (fun j a v ha hv => ?_) rfl h
                have hv2 : us'[j]? = some v := by simpa [Value.cells] using hv
                exact ⟨i2 v (Array.mem_of_getElem? hv2), i3 j a v ha hv2⟩
          · cases hb : (!agg && Nat.beq sz 1 && (isCell p || isNil p) && Nat.blt off cells.length) with
            | false => rw [hb] at h; cases h
            | true =>
              rw [hb] at h
              simp only [Bool.and_eq_true] at hb
              have hsz := Nat.eq_of_beq_eq_true hb.1.1.2
              have hlt : off < cells.length := by simpa using hb.2
              have hone : u.oneCell' = true := by
                have := hb.1.2
                cases p <;> first | (cases this; done) | (cases h0 <;> rfl)
              refine go [p] (cells.set off p) (by rw [hsz]; rfl) (by rw [one_cells hone, hsz]; rfl) (by omega) (fun j a v ha hv => ?_) (by rw [set_eq_take _ _ _ hlt, hsz]; rfl) h
              rw [one_cells hone] at hv
              cases j with
              | zero => cases ha; cases hv; exact ⟨hone, h0⟩
              | succ j => simp at ha
        · cases h
section
variable {P : Program} {T : Tbl} {N : Nat → Prop} {ρ : Operand → Value} {o : Oper} {G : Gh} {ob : List Ent} {w : World} {av : AV} {es' : List Ent}
theorem places_ok {fields : List Field} {fs : List (Nat × Nat × Bool)} : (∀ (f off sz : Nat) (ag : Bool), fs[f]? = some (off, sz, ag) → ∃ fd j, fields[f]? = some fd ∧ fd.offset = off ∧ P.info? fd.type = some j ∧ j.size = sz) → fs.length = fields.length →
    ∃ places, fields.mapM (fun f => (P.info? f.type).map fun i => (f.offset, i.size)) = some places ∧ ∀ (f off sz : Nat) (ag : Bool), fs[f]? = some (off, sz, ag) → places[f]? = some (off, sz) := by
  induction fields generalizing fs with
  | nil =>
    intro h hl
    refine ⟨[], rfl, fun f off sz ag hf => ?_⟩
    obtain rfl : fs = [] := List.eq_nil_of_length_eq_zero hl
    simp at hf
  | cons fd fields ih =>
    intro h hl
    cases fs with
    | nil => simp at hl
    | cons x fs =>
      obtain ⟨off, sz, ag⟩ := x
      obtain ⟨fd', j, h1, h2, h3, h4⟩ := h 0 off sz ag rfl
      cases h1
      obtain ⟨places, h5, h6⟩ := ih (fs := fs) (fun f off sz ag hf => by
        obtain ⟨fd', j, k1, k2⟩ := h (f + 1) off sz ag (by simpa using hf)
        exact ⟨fd', j, by simpa using k1, k2⟩) (by simpa using hl)
      refine ⟨(off, sz) :: places, ?_, fun f off' sz' ag' hf => ?_⟩
      · simp only [List.mapM_cons, Option.bind_eq_bind, Option.pure_def, h3, Option.map_some, Option.bind_some, h5, h2, h4]
      · cases f with
        | zero => cases hf; rfl
        | succ f => simpa using h6 f off' sz' ag' (by simpa using hf)
theorem setEnts_app : ∀ {ks ks' : List Nat} {es es' : List Ent} {ob : List Ent}, es.length = ks.length → setEnts ob (ks ++ ks') (es ++ es') = setEnts (setEnts ob ks es) ks' es'
  | [], _, [], _, _, _ => rfl
  | k :: ks, ks', e :: es, es', ob, h => by
    simp only [List.cons_append, setEnts]
    exact setEnts_app (by simpa using h)
  | [], _, _ :: _, _, _, h => by simp at h
  | _ :: _, _, [], _, _, h => by simp at h
theorem setEnts_out : ∀ {ks : List Nat} {es : List Ent} {ob : List Ent} {k : Nat}, k ∉ ks → (setEnts ob ks es)[k]? = ob[k]?
  | [], es, ob, k, _ => by simp [setEnts]
  | k' :: ks, [], ob, k, _ => by simp [setEnts]
  | k' :: ks, e :: es, ob, k, h => by
    simp only [setEnts]
    rw [setEnts_out (fun hm => h (List.mem_cons_of_mem _ hm)), List.getElem?_set_ne (fun hkk => h (by rw [hkk]; exact List.mem_cons_self))]
theorem nodup_app {ks ks' : List Nat} (h : nodupB (ks ++ ks') = true) : ∀ k ∈ ks, k ∉ ks' := by
  induction ks with
  | nil => intro k hk; cases hk
  | cons k0 ks ih =>
    obtain ⟨h1, h2⟩ := nodup_mem h
    intro k hk hk'
    rcases List.mem_cons.1 hk with rfl | hk
    · exact h1 (List.mem_append_right _ hk')
    · exact ih h2 k hk hk'
theorem good_build (hT : tblOk P T = true) (h : MOk N G ob w) {t : Nat} {parts : Array (Nat × Operand)} (ho : o.op = .build t parts) {tm : List AV} (hav : ∀ y, AVOk G ob w (opnd tm y) (ρ y)) {vs : List AV} (hvs : vs = parts.toList.map fun p => opnd tm p.2) {ks : List Nat} {es : List Ent} (hes : EntsOf ob (keysOf vs ++ ks) es) (hnd : nodupB (keysOf vs ++ ks) = true)
    (he : effBuild T t (parts.toList.map (·.1)) vs es = some (true, av, es')) : es'.length = es.length ∧ Good P N ρ o G ob w (setEnts ob (keysOf vs ++ ks) es') av := by
  unfold effBuild at he
  split at he
  · rename_i fs size zero hty
    obtain ⟨⟨r, es1⟩, q1, he⟩ := Option.bind_eq_some_iff.1 he
    obtain ⟨cs, q2, he⟩ := Option.bind_eq_some_iff.1 he
    cases hb : Nat.beq cs.length size with
    | false => rw [hb] at he; cases he
    | true =>
      rw [hb] at he
      cases he
      obtain ⟨fields, ti, z, hu, hi, hisz, hzl, hz, hzo, hfl, hff⟩ := ty_struct hT hty
      have hat : ∀ (i : Nat) (a : AV) (u : Value), vs[i]? = some a → (parts.toList.map fun p => ρ p.2)[i]? = some u → AVOk G ob w a u := by
        intro i a u h1 h2
        rw [hvs, List.getElem?_map] at h1
        rw [List.getElem?_map] at h2
        obtain ⟨p, i1, i2⟩ := Option.map_eq_some_iff.1 h1
        rw [i1] at h2
        cases h2
        rw [← i2]
        exact hav p.2
      obtain ⟨G', e1, e2, i1, i2, i3, e3, i4, i5, i6, i7, i8⟩ := hand_on (pl := fun _ v => v) (fun _ _ _ _ _ h => h) h (by rw [hvs]; simp) hat hes hnd q1
      subst i1
      subst i4
      refine ⟨by simp [i5], ?_⟩
      have hset : setEnts ob (keysOf vs ++ ks) (e3 ++ e2) = setEnts ob (keysOf vs) e3 := by
        rw [setEnts_app (by omega)]
        refine setEnts_self ⟨i2.1, fun i k e h1 h2 => ?_⟩
        rw [setEnts_out (fun hm => nodup_app hnd k hm (List.mem_of_getElem? h1))]
        exact i2.2 i k e h1 h2
      rw [hset]
      obtain ⟨places, p1, p2⟩ := places_ok (P := P) (fields := fields.toList) (fs := fs) (fun f off sz ag hf => by
        obtain ⟨fd, j, k1, k2, k3, k4, _⟩ := hff f off sz ag hf
        exact ⟨fd, j, by simpa using k1, k2, k3, k4⟩) (by simpa using hfl)
      obtain ⟨y1, y2⟩ := zero_rep (F := G'.F) (w := w) hzo
      obtain ⟨vs', k1, k2⟩ := lay_fill (F := G'.F) (w := w) (place := (places.toArray[·]?)) (fun i off sz ag hf => by simpa using p2 i off sz ag hf) _ _ _ _ _ z q2 i7 i8 ⟨by unfold nilZero; rw [List.length_map, y1, Array.length_toList], fun j a v ha hv => y2 j a v ha (by simpa using hv)⟩
      have hbuilt : P.built t (parts.map fun (i, x) => (i, ρ x)).toList = some vs' := by
        unfold Program.built
        simp only [hi, hu, hz, p1, Value.cells]
        rw [← k1]
        congr 1
        rw [Array.toList_map, List.zip_map']
      refine ⟨.agg vs', w, G', .inl (by simp only [execOp, ho, Sem.run_bind, run_build w t _ vs' hbuilt, Result.andThen_ok, Sem.run_pure]), i6, ?_⟩
      exact Rep.agg cs vs' k2.1 (fun v hv => by
        obtain ⟨j, hj, rfl⟩ := Array.mem_iff_getElem.1 hv
        have hjc : j < cs.length := by rw [k2.1]; exact hj
        exact (k2.2 j cs[j] _ (List.getElem?_eq_getElem hjc) (Array.getElem?_eq_getElem hj)).1) (fun j a v h1 h2 => (k2.2 j a v h1 h2).2)
  · cases he
end
end Go.Abs
end
section
/- An abstract machine for the model's code, part Q: calls. -/
namespace Go.Abs
open Go.RowKit
theorem WTo.mono {N N' : Nat → Prop} {w w' : World} (h : WTo N w w') (hN : ∀ b, N b → N' b) : WTo N' w w' := ⟨h.os, h.tape, h.output, h.size, fun k hk hn => h.block k hk (fun h => hn (hN k h))⟩
/-- A function is entered, and hands back. -/
def Runs (P : Program) (g : Nat) (vs : List Value) (w : World) (R : Value → World → Prop) : Prop :=
  ∃ fn, P.funcs[g]? = some fn ∧ (fn.name == "runtime.NumGoroutine") = false ∧ fn.body.isNone = false ∧ Calls P g vs.toArray w (fun e w' => ∃ v, e = .returned v ∧ R v w')
/-- What is read more in the world behind a call. -/
structure Ups (F F' : Nat → Prop) (w w' : World) : Prop where
  up : ∀ k, F k → F' k
  new : ∀ k, F' k → F k ∨ w.heap.size ≤ k
  lt : ∀ k, F' k → k < w'.heap.size
/-- A cell as a table has it: a row of its own is wrapped. -/
def WCel (F : Nat → Prop) (w : World) (a : AV) (v : Value) : Prop := match a with
  | .tup [x] => Own F w x v
  | a => Rep F w a v
/-- The blocks of a variable's own rows. -/
def OldOwn (cs : List AV) (ν : Nat → Value) (q : Nat) : Prop := ∃ j x, cs[j]? = some (.tup [x]) ∧ (ν j).oblk = some q
/-- A variable in memory that a call may change. -/
structure VarOk (F : Nat → Prop) (w : World) (b : Nat) (cs : List AV) (ν : Nat → Value) : Prop where
  fresh : ¬ F b ∧ b < w.heap.size
  mem : ∃ cur t, w.heap[b]? = some (.cells cur t (0, 0)) ∧ cur.size = cs.length ∧ ∀ j, j < cs.length → cur[j]? = some (ν j)
  cel : ∀ (j : Nat) (a : AV), cs[j]? = some a → (ν j).oneCell' = true ∧ WCel F w a (ν j)
  own : ∀ q, OldOwn cs ν q → q ≠ b ∧ ¬ F q ∧ q < w.heap.size
  dist : ∀ (i j q : Nat) (x y : AV), cs[i]? = some (.tup [x]) → cs[j]? = some (.tup [y]) → (ν i).oblk = some q → (ν j).oblk = some q → i = j
/-- What is read more, where some blocks may be written. -/
structure Ups2 (N F F' : Nat → Prop) (w' : World) : Prop where
  up : ∀ k, F k → F' k
  new : ∀ k, F' k → F k ∨ N k
  lt : ∀ k, F' k → k < w'.heap.size
/-- A variable of one plain cell. -/
def CellOk (F : Nat → Prop) (w : World) (b : Nat) (x : AV) : Prop := ¬ F b ∧ b < w.heap.size ∧ flat1 x = true ∧ ∃ u t, w.heap[b]? = some (.cells #[u] t (0, 0)) ∧ Rep F w x u
/-- The arguments of a function that points at two variables, or gets such a function. -/
def CloShape (args : List AV) (vs : List Value) (rest : List AV) (us : List Value) (b1 b2 : Nat) (x1 x2 : AV) : Prop :=
  (args = rest ++ [x1, x2] ∧ vs = us ++ [.pointer (some ⟨b1, 0, none⟩), .pointer (some ⟨b2, 0, none⟩)]) ∨
    ∃ h, args = rest ++ [.fn h [x1, x2]] ∧ vs = us ++ [.func (.func h) #[] #[.pointer (some ⟨b1, 0, none⟩), .pointer (some ⟨b2, 0, none⟩)]]
def ResOk (F : Nat → Prop) (w : World) (r : Res) (args : List AV) (vs : List Value) (v : Value) (w' : World) : Prop :=
  match r with
  | .val a => WTo (fun b => w.heap.size ≤ b) w w' ∧ ∃ F', Ups F F' w w' ∧ Rep F' w' a v
  | .own x => WTo (fun b => w.heap.size ≤ b) w w' ∧ ∃ F', Ups F F' w w' ∧ Own F' w' x v ∧ ∀ b, v.oblk = some b → w.heap.size ≤ b ∧ b < w'.heap.size ∧ ¬ F' b
  | .gave x a => ∀ v0 us, vs = v0 :: us → WTo (fun b => w.heap.size ≤ b ∨ v0.oblk = some b) w w' ∧ ∃ F', Ups F F' w w' ∧ Own F' w' x v0 ∧ Rep F' w' a v
  | .upd cs' a => ∀ cs rest b us ν, args = .agg cs :: rest → vs = .pointer (some ⟨b, 0, none⟩) :: us → VarOk F w b cs ν → WTo (fun n => w.heap.size ≤ n ∨ n = b ∨ OldOwn cs ν n) w w' ∧
      ∃ F' ν', Ups2 (fun n => w.heap.size ≤ n ∨ n = b ∨ OldOwn cs ν n) F F' w' ∧ VarOk F' w' b cs' ν' ∧ (∀ q, OldOwn cs' ν' q → w.heap.size ≤ q ∨ OldOwn cs ν q) ∧ Rep F' w' a v
  | .took x => ∀ v0 us, vs = v0 :: us → WTo (fun b => w.heap.size ≤ b ∨ v0.oblk = some b) w w' ∧ ∃ F', Ups2 (fun b => w.heap.size ≤ b ∨ v0.oblk = some b) F F' w' ∧ Own F' w' x v ∧ ∀ b, v.oblk = some b → (w.heap.size ≤ b ∨ v0.oblk = some b) ∧ b < w'.heap.size ∧ ¬ F' b
  | .clo y1 y2 a => ∀ rest us b1 b2 x1 x2, CloShape args vs rest us b1 b2 x1 x2 → WTo (fun n => w.heap.size ≤ n ∨ n = b1 ∨ n = b2) w w' ∧ ∃ F', Ups2 (fun n => w.heap.size ≤ n ∨ n = b1 ∨ n = b2) F F' w' ∧ CellOk F' w' b1 y1 ∧ CellOk F' w' b2 y2 ∧ Rep F' w' a v
def ArgsOk (F : Nat → Prop) (w : World) (r : Res) (args : List AV) (vs : List Value) : Prop :=
  match r with
  | .gave _ _ => ∃ row rest v0 us, args = row :: rest ∧ vs = v0 :: us ∧ Own F w row v0 ∧ (∀ b, v0.oblk = some b → ¬ F b ∧ b < w.heap.size) ∧ RepL F w rest us
  | .took _ => ∃ row rest v0 us, args = row :: rest ∧ vs = v0 :: us ∧ Own F w row v0 ∧ (∀ b, v0.oblk = some b → ¬ F b ∧ b < w.heap.size) ∧ RepL F w rest us
  | .upd _ _ => ∃ cs rest b us ν, args = .agg cs :: rest ∧ vs = .pointer (some ⟨b, 0, none⟩) :: us ∧ VarOk F w b cs ν ∧ RepL F w rest us
  | .clo _ _ _ => ∃ rest us b1 b2 x1 x2, CloShape args vs rest us b1 b2 x1 x2 ∧ b1 ≠ b2 ∧ CellOk F w b1 x1 ∧ CellOk F w b2 x2 ∧ RepL F w rest us
  | _ => RepL F w args vs
/-- An oracle's answers are so. -/
def OrcOk (P : Program) (orc : Orc) : Prop := ∀ g args r, orc g args = some (true, r) → ∀ F w vs, (∀ k, F k → k < w.heap.size) → ArgsOk F w r args vs → Runs P g vs w (ResOk F w r args vs)
section
variable {P : Program} {T : Tbl} {N : Nat → Prop} {o : Oper} {G : Gh} {ob : List Ent} {w : World} {av : AV} {es' : List Ent}
/-- An operation goes on, whatever follows. -/
def Fine (P : Program) (N : Nat → Prop) (a : Act) (o : Oper) (G : Gh) (ob : List Ent) (w : World) (ob' : List Ent) (av : AV) : Prop :=
  ∀ (next : Act → World → Prop) (Q : Exit → Act → World → Prop), (∀ v w' G', MTo N G ob w G' ob' w' → AVOk G' ob' w' av v → next (a.put o.dst v) w') → o.wp P a w next Q
theorem Good.fine {a : Act} {ob' : List Ent} (h : Good P N a.eval o G ob w ob' av) : Fine P N a o G ob w ob' av := by
  intro next Q hn
  obtain ⟨v, w', G', h1, h2, h3⟩ := h
  unfold Oper.wp
  rcases h1 with h1 | ⟨h1, rfl⟩
  · rw [h1]; exact hn v w' G' h2 h3
  · rw [h1]; exact hn undef w' G' h2 h3
theorem ups_to {w' : World} (h : MOk N G ob w) (hN : ∀ b, w.heap.size ≤ b → N b) (hwt : WTo (fun b => w.heap.size ≤ b) w w') {F' : Nat → Prop} (hu : Ups G.F F' w w') : MTo N G ob w ⟨fun b => G.F b ∨ (F' b ∧ w.heap.size ≤ b), G.β, G.ν⟩ ob w' := by
  have m1 : MTo N G ob w G ob w' := MTo.grow h (hwt.mono hN) (fun b hb => hwt.block b hb (by omega))
  exact m1.trans (MTo.ice m1.ok _ (fun b hb => ⟨hu.lt b hb.1, hN b hb.2, fun p hp => by have := (h.bnd p b hp).2.1; omega⟩))
theorem ups_sub {w' : World} {F F' : Nat → Prop} (hu : Ups F F' w w') : ∀ b, F' b → F b ∨ (F' b ∧ w.heap.size ≤ b) := fun b hb => (hu.new b hb).imp id (fun h => ⟨hb, h⟩)
theorem keep_ent {ks : List Nat} {es es' : List Ent} (hes : EntsOf ob ks es) {d : Nat} (hd : d ∉ ks) {ed : Ent} (hdd : ob[d]? = some ed) : (setEnts ob ks es').set d ed = setEnts ob ks es' := set_self (by rw [setEnts_out hd]; exact hdd)
theorem run_call {a : Act} {c : Call} {fo : Operand} (ho : o.op = .call c) (hc : c.callee = .value fo) {f : Nat} {caps : Array Value} (hf : a.eval fo = .func (.func f) #[] caps) {R : Value → World → Prop} (h : Runs P f ((c.args.map a.eval).toList ++ caps.toList) w R) {next : Act → World → Prop} {Q : Exit → Act → World → Prop}
    (hn : ∀ v w', R v w' → next (a.put o.dst v) w') : o.wp P a w next Q := by
  obtain ⟨fn, h1, h2, h3, h4⟩ := h
  have hargs : ((c.args.map a.eval).toList ++ caps.toList).toArray = c.args.map a.eval ++ caps := by
    apply Array.ext'
    simp
  rw [hargs] at h4
  have hrun : (execOp a.eval o).run P w = .ok (.enter f (c.args.map a.eval ++ caps)) w := by
    have h2' : ¬ fn.name = "runtime.NumGoroutine" := by simpa using h2
    have h3' : ¬ fn.body = none := by intro hb; rw [hb] at h3; cases h3
    simp [execOp, ho, resolve, hc, hf, Deferred.ofValue, invoke, callFunc]
    rw [h1]
    simp [h2', h3']
  unfold Oper.wp
  rw [hrun, Oper.upon_enter]
  refine h4.mono ?_
  rintro e w' ⟨v, rfl, hR⟩
  exact hn v w' hR
theorem nodup_left {ks ks' : List Nat} (h : nodupB (ks ++ ks') = true) : nodupB ks = true := by
  induction ks with
  | nil => rfl
  | cons k ks ih =>
    obtain ⟨h1, h2⟩ := nodup_mem h
    unfold nodupB
    rw [Bool.and_eq_true]
    refine ⟨?_, ih h2⟩
    rw [Bool.not_eq_true']
    refine Bool.eq_false_iff.2 (fun hc => ?_)
    obtain ⟨x, hx, hb⟩ := List.any_eq_true.1 hc
    exact h1 (List.mem_append_left _ (by rw [Nat.eq_of_beq_eq_true hb]; exact hx))
theorem setEnts_set : ∀ {ks : List Nat} {es : List Ent} {ob : List Ent} {k : Nat} {e : Ent}, k ∉ ks → setEnts (ob.set k e) ks es = (setEnts ob ks es).set k e
  | [], es, ob, k, e, _ => by simp [setEnts]
  | k' :: ks, [], ob, k, e, _ => by simp [setEnts]
  | k' :: ks, e' :: es, ob, k, e, h => by
    simp only [setEnts]
    rw [List.set_comm _ _ (fun hkk => h (by rw [hkk]; exact List.mem_cons_self)), setEnts_set (fun hm => h (List.mem_cons_of_mem _ hm))]
theorem good_call {orc : Orc} (horc : OrcOk P orc) (h : MOk N G ob w) (hN : ∀ b, w.heap.size ≤ b → N b) {a : Act} {c : Call} {fo : Operand} {d : Nat} (ho : o.op = .call c) (hc : c.callee = .value fo) (hd : o.dst = some d) {tm : List AV} (hav : ∀ y, AVOk G ob w (opnd tm y) (a.eval y)) {vs : List AV} (hvs : vs = opnd tm fo :: c.args.toList.map (opnd tm)) {es : List Ent} (hes : EntsOf ob (keysOf vs ++ [d]) es) (hnd : nodupB (keysOf vs ++ [d]) = true)
    (he : effCall T orc c.argTypes.toList o.dst vs es = some (true, av, es')) : es'.length = es.length ∧ Fine P N a o G ob w (setEnts ob (keysOf vs ++ [d]) es') av := by
  unfold effCall at he
  rw [hd] at he
  split at he
  · rename_i f cap args d' ed hdd hl
    cases hdd
    simp only [List.cons.injEq] at hvs
    obtain ⟨hf1, hargs⟩ := hvs
    have hfo := hav fo
    rw [← hf1] at hfo
    have hfo : Rep G.F w (.fn f cap) (a.eval fo) := hfo
    obtain ⟨caps, hfv, hcl, hcr⟩ : ∃ caps, a.eval fo = .func (.func f) #[] caps ∧ cap.length = caps.size ∧ ∀ (i : Nat) (x : AV) (v : Value), cap[i]? = some x → caps[i]? = some v → Rep G.F w x v := by
      generalize a.eval fo = v at hfo
      cases hfo with
      | fn _ _ vs hl h => exact ⟨vs, rfl, hl, h⟩
    have hes : EntsOf ob (keysOf args ++ [d]) es := hes
    have hnd : nodupB (keysOf args ++ [d]) = true := hnd
    obtain ⟨l1, l2, l3⟩ := ents_last hes hl
    have hat : ∀ (i : Nat) (x : AV) (u : Value), args[i]? = some x → (c.args.map a.eval).toList[i]? = some u → AVOk G ob w x u := by
      intro i x u h1 h2
      rw [hargs, List.getElem?_map] at h1
      rw [Array.toList_map, List.getElem?_map] at h2
      obtain ⟨p, i1, i2⟩ := Option.map_eq_some_iff.1 h1
      rw [i1] at h2
      cases h2
      rw [← i2]
      exact hav p
    have hal : args.length = (c.args.map a.eval).toList.length := by rw [hargs]; simp
    have hdk : d ∉ keysOf args := fun hm => nodup_app hnd d hm (by simp)
    cases hm : isMut (orc f []) with
    | false =>
      rw [hm] at he
      simp only [cond_false] at he
      obtain ⟨⟨r, es1⟩, q1, he⟩ := Option.bind_eq_some_iff.1 he
      simp only at he
      obtain ⟨G1, e1, e2, i1, i2, i3, e3, i4, i5, i6, i7, i8⟩ := hand_on (ks := []) (fun _ _ _ _ _ h => plain_rep h) h hal hat (by simpa using l2) (by
        rw [List.append_nil]
        exact nodup_left hnd) q1
      have he2 : e2 = [] := List.eq_nil_of_length_eq_zero i2.1
      subst he2
      simp only [List.append_nil] at i1 i4
      subst i4
      have hcap : RepL G1.F w (r ++ cap) ((c.args.map a.eval).toList ++ caps.toList) := by
        refine ⟨by simp [i7, hcl], fun i x v h1 h2 => ?_⟩
        by_cases hlt : i < r.length
        · rw [List.getElem?_append_left hlt] at h1
          rw [List.getElem?_append_left (by omega)] at h2
          exact i8 i x v h1 h2
        · rw [List.getElem?_append_right (by omega)] at h1
          rw [List.getElem?_append_right (by omega), ← i7] at h2
          exact (hcr _ x v h1 (by simpa using h2)).mono i6.up i6.same
      have hlen3 : es1.length = (keysOf args).length := by rw [i5, i3]
      split at he
      · rename_i ok v hov
        cases he
        show (es1 ++ [ed]).length = es.length ∧ Fine P N a o G ob w (setEnts ob (keysOf args ++ [d]) (es1 ++ [ed])) _
        rw [setEnts_last hlen3.symm, keep_ent l2 hdk l3]
        refine ⟨by rw [l1]; simp [i5, i1], fun next Q hn => ?_⟩
        refine run_call ho hc hfv (horc _ _ _ hov _ _ _ i6.ok.frozen hcap) (fun v w' hR => ?_)
        obtain ⟨r1, F', r2, r3⟩ := hR
        exact hn v w' _ (i6.trans (ups_to i6.ok hN r1 r2)) (rep_av (r3.mono (ups_sub r2) (fun _ _ => rfl)))
      · rename_i ok x hov
        cases he
        show (es1 ++ [newRow ed x]).length = es.length ∧ Fine P N a o G ob w (setEnts ob (keysOf args ++ [d]) (es1 ++ [newRow ed x])) _
        rw [setEnts_last hlen3.symm]
        refine ⟨by rw [l1]; simp [i5, i1], fun next Q hn => ?_⟩
        refine run_call ho hc hfv (horc _ _ _ hov _ _ _ i6.ok.frozen hcap) (fun v w' hR => ?_)
        obtain ⟨r1, F', r2, r3, r4⟩ := hR
        have m2 := ups_to i6.ok hN r1 r2
        obtain ⟨G3, m3, _, hav3⟩ := MTo.row m2.ok (k := d) (e := ed) (by rw [setEnts_out hdk]; exact l3) x v (r3.mono (ups_sub r2) (fun _ _ => rfl) (fun _ _ => rfl)) (fun b hb => by
          obtain ⟨k1, k2, k3⟩ := r4 b hb
          exact ⟨hN b k1, k2, fun hF => hF.elim (fun h1 => by have := i6.ok.frozen b h1; omega) (fun h1 => k3 h1.1), fun p hp => by have := (i6.ok.bnd p b (hp : Blk G1 _ p b)).2.1; omega⟩)
        exact hn v w' G3 ((i6.trans m2).trans m3) hav3
      · cases he
    | true =>
      rw [hm] at he
      simp only [cond_true] at he
      have shape : ∃ k j g args2 t0 ts e es2, args = .sl k j g :: args2 ∧ c.argTypes.toList = t0 :: ts ∧ es = e :: es2 ∧ ((celAt e j g).bind fun c => bif c.own then ((handOn (plain1 T) args2 ts es2.dropLast).bind fun (r, es') => match orc f (c.v :: (r ++ cap)) with
      | some (ok, .gave x v) => some (ok && Nat.beq (rowLen x) (rowLen c.v) && Nat.beq (rowSz x) (rowSz c.v), v, setCel e j ⟨c.g, true, x⟩ :: (es' ++ [ed]))
      | _ => none) else none) = some (true, av, es') := by
        clear hes hnd l1 l2 hl hat hal hdk hargs
        split at he
        · exact ⟨_, _, _, _, _, _, _, _, rfl, by assumption, rfl, he⟩
        · cases he
      clear he
      obtain ⟨k, j, g, args2, t0, ts, e, es2, rfl, hts, rfl, he⟩ := shape
      · clear hts
        obtain ⟨cc, hcc, he⟩ := Option.bind_eq_some_iff.1 he
        cases hown : cc.own with
        | false => rw [hown] at he; cases he
        | true =>
          rw [hown] at he
          simp only [cond_true] at he
          obtain ⟨⟨r, es1⟩, q1, he⟩ := Option.bind_eq_some_iff.1 he
          simp only at he
          split at he
          · rename_i ok x v hov
            · simp only [Option.some.injEq, Prod.mk.injEq, Bool.and_eq_true] at he
              obtain ⟨⟨⟨rfl, hb1⟩, hb2⟩, rfl, rfl⟩ := he
              have hxl := Nat.eq_of_beq_eq_true hb1
              have hxs := Nat.eq_of_beq_eq_true hb2
              obtain ⟨y0, ys, hys⟩ : ∃ y0 ys, c.args.toList = y0 :: ys := by
                cases hca : c.args.toList with
                | nil => rw [hca] at hargs; cases hargs
                | cons y0 ys => exact ⟨y0, ys, rfl⟩
              rw [hys, List.map_cons, List.cons.injEq] at hargs
              obtain ⟨ha0, hargs⟩ := hargs
              have hx0 := hav y0
              rw [← ha0] at hx0
              have hes : EntsOf ob (k :: (keysOf args2 ++ [d])) (e :: es2) := hes
              have hnd : nodupB (k :: (keysOf args2 ++ [d])) = true := hnd
              obtain ⟨hk, hes2⟩ := ents_cons hes
              obtain ⟨hn1, hn2⟩ := nodup_mem hnd
              have hl2 : es2.getLast? = some ed := by
                have h0 := hes2.1
                cases es2 with
                | nil => simp at h0
                | cons e2 es2 => simpa using hl
              obtain ⟨l4, l5, _⟩ := ents_last hes2 hl2
              obtain ⟨c1, c2⟩ := celAt_some hcc
              have hv0 : a.eval y0 = G.ν k j := hx0.2.2 e cc hk c1 c2
              have hat2 : ∀ (i : Nat) (x : AV) (u : Value), args2[i]? = some x → (ys.map a.eval)[i]? = some u → AVOk G ob w x u := by
                intro i x u h1 h2
                rw [hargs, List.getElem?_map] at h1
                rw [List.getElem?_map] at h2
                obtain ⟨p, i1, i2⟩ := Option.map_eq_some_iff.1 h1
                rw [i1] at h2
                cases h2
                rw [← i2]
                exact hav p
              obtain ⟨G1, e1, e2, i1, i2, i3, e3, i4, i5, i6, i7, i8⟩ := hand_on (ks := []) (fun _ _ _ _ _ h => plain_rep h) h (by rw [hargs]; simp) hat2 (by simpa using l5) (by
                rw [List.append_nil]
                exact nodup_left hn2) q1
              have he2 : e2 = [] := List.eq_nil_of_length_eq_zero i2.1
              subst he2
              simp only [List.append_nil] at i1 i4
              subst i4
              have hkk : k ∉ keysOf args2 := fun hm => hn1 (List.mem_append_left _ hm)
              have hkd : k ≠ d := fun hm => hn1 (by simp [hm])
              have hk1 : (setEnts ob (keysOf args2) es1)[k]? = some e := by rw [setEnts_out hkk]; exact hk
              have hν1 : G1.ν k j = G.ν k j := by
                obtain ⟨_, h2, _⟩ := i6.ent k e e hk hk1
                obtain ⟨_, _, _, h3, _⟩ := h2 j cc c1 (h.cel k e j cc hk c1).2.2
                exact h3
              have hO := (i6.ok.cel k e j cc hk1 c1).1
              unfold CelOk at hO
              rw [if_pos hown] at hO
              have hcap : RepL G1.F w (r ++ cap) (ys.map a.eval ++ caps.toList) := by
                refine ⟨by simp only [List.length_append, i7, hcl, Array.length_toList], fun i x v h1 h2 => ?_⟩
                by_cases hlt : i < r.length
                · rw [List.getElem?_append_left hlt] at h1
                  rw [List.getElem?_append_left (by omega)] at h2
                  exact i8 i x v h1 h2
                · rw [List.getElem?_append_right (by omega)] at h1
                  rw [List.getElem?_append_right (by omega), ← i7] at h2
                  exact (hcr _ x v h1 (by simpa using h2)).mono i6.up i6.same
              have hlen3 : es1.length = (keysOf args2).length := by rw [i5, i3]
              have hvl : (c.args.map a.eval).toList ++ caps.toList = a.eval y0 :: (ys.map a.eval ++ caps.toList) := by
                rw [Array.toList_map, hys]; rfl
              have hlen5 : es2.length = es1.length + 1 := by rw [l4]; simp [i5, i1]
              refine ⟨by simp [hlen5], fun next Q hn => ?_⟩
              have hbl : ∀ b, (a.eval y0).oblk = some b → ¬ G1.F b ∧ b < w.heap.size ∧ N b := fun b hb => i6.ok.bnd _ b (blkS hk1 c1 hown (by rw [hν1, ← hv0]; exact hb))
              refine run_call ho hc hfv (horc _ _ _ hov G1.F w _ i6.ok.frozen ⟨_, _, _, _, rfl, hvl, by rw [hv0, ← hν1]; exact hO, fun b hb => ⟨(hbl b hb).1, (hbl b hb).2.1⟩, hcap⟩) (fun v' w' hR => ?_)
              obtain ⟨r1, F', r2, r3, r4⟩ := hR _ _ hvl
              -- the world but for that row
              have hmid : ∃ w1, WTo (fun b => w.heap.size ≤ b) w w1 ∧ WTo N w1 w' ∧ w1.heap.size = w'.heap.size ∧ ∀ q, (a.eval y0).oblk ≠ some q → w'.heap[q]? = w1.heap[q]? := by
                cases hb : (a.eval y0).oblk with
                | none => exact ⟨w', r1.mono (fun b hb2 => hb2.elim id (fun h => by rw [hb] at h; cases h)), .refl N w', rfl, fun _ _ => rfl⟩
                | some b0 =>
                  obtain ⟨z1, z2, z3⟩ := hbl b0 hb
                  refine ⟨{ w' with heap := w'.heap.setIfInBounds b0 w.heap[b0] }, ⟨r1.os, r1.tape, r1.output, by simpa using r1.size, fun q hq hnq => ?_⟩, ⟨rfl, rfl, rfl, by simp, fun q hq hnq => ?_⟩, by simp, fun q hq => ?_⟩
                  · by_cases hqb : q = b0
                    · subst hqb
                      have := r1.size
                      rw [Array.getElem?_setIfInBounds_self_of_lt (by omega), Array.getElem?_eq_getElem hq]
                    · rw [Array.getElem?_setIfInBounds_ne (Ne.symm hqb)]
                      exact r1.block q hq (fun h => h.elim (fun h => by omega) (fun h => hqb (by rw [hb] at h; exact (Option.some.inj h).symm)))
                  · rw [Array.getElem?_setIfInBounds_ne (fun h : b0 = q => hnq (by rw [← h]; exact z3))]
                  · rw [Array.getElem?_setIfInBounds_ne (fun h => hq (by rw [h]))]
              obtain ⟨w1, t1, t2, t3, t4⟩ := hmid
              have hu1 : Ups G1.F F' w w1 := ⟨r2.up, r2.new, fun k hk => by rw [t3]; exact r2.lt k hk⟩
              have m2 := ups_to i6.ok hN t1 hu1
              have m3 := MTo.cell (G' := ⟨fun b => G1.F b ∨ (F' b ∧ w.heap.size ≤ b), G1.β, G1.ν⟩) (w' := w') m2.ok hk1 c1 true x t2 rfl rfl (fun _ h => h) (fun _ h => .inl h) (fun q => by
                by_cases hq : (a.eval y0).oblk = some q
                · exact .inr ⟨hown, by show (G1.ν k j).oblk = some q; rw [hν1, ← hv0]; exact hq, rfl⟩
                · exact .inl (t4 q hq)) (fun _ => ⟨hown, hxl, hxs⟩) (by
                unfold CelOk
                rw [if_pos rfl]
                show Own _ w' x (G1.ν k j)
                rw [hν1, ← hv0]
                exact r3.mono (ups_sub r2) (fun _ _ => rfl) (fun _ _ => rfl))
              have hfin : setEnts ob (keysOf (AV.fn f cap :: AV.sl k j g :: args2) ++ [d]) (setCel e j ⟨cc.g, true, x⟩ :: (es1 ++ [ed])) = (setEnts ob (keysOf args2) es1).set k (setCel e j ⟨cc.g, true, x⟩) := by
                show setEnts (ob.set k _) (keysOf args2 ++ [d]) (es1 ++ [ed]) = _
                rw [setEnts_last hlen3.symm, setEnts_set hkk]
                exact set_self (by rw [List.getElem?_set_ne hkd, setEnts_out (fun hm => nodup_app hn2 d hm (by simp))]; exact l3)
              rw [hfin] at hn
              exact hn v' w' _ ((i6.trans m2).trans m3) (rep_av (r4.mono (ups_sub r2) (fun _ _ => rfl)))
          · cases he
  · cases he
theorem ofVal_un (k j g : Nat) (x : AV) (v : Value) : unSl k j g x (ofVal v) = ofVal v := by
  have h1 : ∀ v : Value, unSl k j g x (ofVal1 v) = ofVal1 v := by
    intro v
    unfold ofVal1
    split <;> rfl
  unfold ofVal
  split
  · rename_i cs
    cases cs.toList.all simpleV <;> rfl
  · exact h1 v
theorem opnd_un (k j g : Nat) (x : AV) (tm : List AV) (y : Operand) : opnd (tm.map (unSl k j g x)) y = unSl k j g x (opnd tm y) := by
  cases y with
  | tmp t =>
    simp only [opnd]
    rw [List.getD_eq_getElem?_getD, List.getElem?_map, List.getD_eq_getElem?_getD]
    cases tm[t]? <;> rfl
  | const v => exact (ofVal_un k j g x v).symm
  | func f => rfl
  | global n => rfl
theorem good_twice {orc : Orc} (horc : OrcOk P orc) (h : MOk N G ob w) (hN : ∀ b, w.heap.size ≤ b → N b) {a : Act} {c : Call} {fo : Operand} {d : Nat} (ho : o.op = .call c) (hc : c.callee = .value fo) (hd : o.dst = some d) {tm : List AV} (hav : ∀ y, AVOk G ob w (opnd tm y) (a.eval y)) {vs : List AV} (hvs : vs = opnd tm fo :: c.args.toList.map (opnd tm)) {es : List Ent} (hes : EntsOf ob ((keysOf vs).take 1 ++ [d]) es) (hnd : nodupB ((keysOf vs).take 1 ++ [d]) = true)
    (he : effTwice T orc c.argTypes.toList o.dst vs es = some (true, av, es')) : es'.length = es.length ∧ Fine P N a o G ob w (setEnts ob ((keysOf vs).take 1 ++ [d]) es') av := by
  unfold effTwice at he
  split at he
  · rename_i k j g e ed hfs
    obtain ⟨⟨v, e'⟩, hf, he⟩ := Option.bind_eq_some_iff.1 he
    simp only at he
    cases hb : (headIs k (keysOf vs) && (keysOf (vs.map (unSl k j g v))).isEmpty) with
    | false => rw [hb] at he; cases he
    | true =>
      rw [hb, cond_true] at he
      rw [Bool.and_eq_true] at hb
      obtain ⟨hb1, hb2⟩ := hb
      have hk1 : (keysOf vs).take 1 = [k] := by
        cases hk : keysOf vs with
        | nil => rw [hk] at hb1; cases hb1
        | cons a r =>
          rw [hk] at hb1
          rw [show a = k from Nat.eq_of_beq_eq_true hb1]
          rfl
      have hk2 : keysOf (vs.map (unSl k j g v)) = [] := List.isEmpty_iff.1 hb2
      rw [hk1] at hes hnd ⊢
      obtain ⟨hk, hes2⟩ := ents_cons (ks := [d]) hes
      obtain ⟨hn1, _⟩ := nodup_mem (ks := [d]) hnd
      have hkd : k ≠ d := fun hm => hn1 (by simp [hm])
      obtain ⟨x, hx1, hx2, rfl, rfl⟩ := frz_at hf
      obtain ⟨G', m, hν, hr⟩ := MTo.frz h hk hx1
      split at he
      · rename_i ok av' ed' hcall
        cases he
        have hav' : ∀ y, AVOk G' (ob.set k (setCel e j ⟨x.g, false, x.v⟩)) w (opnd (tm.map (unSl k j g x.v)) y) (a.eval y) := by
          intro y
          rw [opnd_un]
          have h0 := hav y
          generalize opnd tm y = z at h0
          cases z with
          | sl k' j' g' =>
            show AVOk G' _ w (bif Nat.beq k k' && Nat.beq j j' && Nat.beq g g' then x.v else .sl k' j' g') (a.eval y)
            cases hb : (Nat.beq k k' && Nat.beq j j' && Nat.beq g g') with
            | false => exact AVOk.to m h0
            | true =>
              rw [cond_true]
              rw [Bool.and_eq_true, Bool.and_eq_true] at hb
              obtain ⟨⟨b1, b2⟩, b3⟩ := hb
              obtain rfl := Nat.eq_of_beq_eq_true b1
              obtain rfl := Nat.eq_of_beq_eq_true b2
              obtain rfl := Nat.eq_of_beq_eq_true b3
              have h3 := h0.2.2 e x hk hx1 hx2
              rw [h3]
              exact rep_av hr
          | _ => exact AVOk.to m h0
        have hed : (ob.set k (setCel e j ⟨x.g, false, x.v⟩))[d]? = some ed := by rw [List.getElem?_set_ne hkd]; exact ents_one hes2
        have hvs' : vs.map (unSl k j g x.v) = opnd (tm.map (unSl k j g x.v)) fo :: c.args.toList.map (opnd (tm.map (unSl k j g x.v))) := by
          rw [hvs, List.map_cons, List.map_map, opnd_un]
          congr 1
          refine List.map_congr_left (fun y _ => ?_)
          rw [opnd_un]
          rfl
        obtain ⟨l1, hF⟩ := good_call horc m.ok hN ho hc hd hav' hvs' (es := [ed]) (by
          rw [hk2]
          refine ⟨rfl, fun i k' e2 h1 h2 => ?_⟩
          cases i with
          | zero => cases h1; cases h2; exact hed
          | succ i => simp at h1) (by rw [hk2]; rfl) hcall
        rw [hk2] at hF
        refine ⟨rfl, fun next Q hn => ?_⟩
        exact hF next Q (fun u w' G2 m2 hu => hn u w' G2 (m.trans m2) hu)
      · cases he
  · cases he
end
end Go.Abs
end
section
/- An abstract machine for the model's code, part Q2: calls that change a variable of the caller's. -/
namespace Go.Abs
open Go.RowKit
section
variable {P : Program} {T : Tbl} {N : Nat → Prop} {o : Oper} {G : Gh} {ob : List Ent} {w : World} {av : AV} {es' : List Ent}
theorem wcel_of {F : Nat → Prop} {c : Cel} {v : Value} (h : if c.own = true then Own F w c.v v else Rep F w c.v v) (hone : v.oneCell' = true) : WCel F w (wrapCel c) v := by
  unfold wrapCel
  cases ho : c.own with
  | true => rw [ho, if_pos rfl] at h; exact h
  | false =>
    rw [ho, if_neg (by decide)] at h
    show WCel F w c.v v
    generalize c.v = a at h
    cases h with
    | tup cs vs hl hr => cases hone
    | int k n => exact .int k n
    | bool b => exact .bool b
    | str s => exact .str s
    | ints k l A c hc hm h => exact .ints k l A c hc hm h
    | rows sz l A c vs hc hm hl h hr => exact .rows sz l A c vs hc hm hl h hr
    | nil => exact .nil
    | agg cs vs hl h1 h => exact .agg cs vs hl h1 h
    | fn f cap vs hl h => exact .fn f cap vs hl h
    | place cs ad vs hF h1 h => exact .place cs ad vs hF h1 h
    | smap l b hb h => exact .smap l b hb h
    | top v => exact .top v
theorem old_wrap {cs : List Cel} {ν : Nat → Value} {q : Nat} (h : OldOwn (cs.map wrapCel) ν q) (hc : ∀ c ∈ cs, c.own = false → ∀ x, c.v ≠ .tup [x]) : ∃ j c, cs[j]? = some c ∧ c.own = true ∧ (ν j).oblk = some q := by
  obtain ⟨j, x, h1, h2⟩ := h
  rw [List.getElem?_map, Option.map_eq_some_iff] at h1
  obtain ⟨c, h3, h4⟩ := h1
  refine ⟨j, c, h3, ?_, h2⟩
  cases ho : c.own with
  | true => rfl
  | false =>
    unfold wrapCel at h4
    rw [ho] at h4
    exact absurd h4 (hc c (List.mem_of_getElem? h3) ho x)
/-- A variable of the caller's, as a callee may have it. -/
theorem var_ok (h : MOk N G ob w) {k : Nat} {e : Ent} {cs : List Cel} (hk : ob[k]? = some e) (he : e.o = some (.var cs)) : VarOk G.F w (G.β k) (cs.map wrapCel) (G.ν k) ∧ (∀ q, OldOwn (cs.map wrapCel) (G.ν k) q → ∃ j, Blk G ob (k, j + 1) q) ∧ Blk G ob (k, 0) (G.β k) := by
  have hcel : ∀ (j : Nat) (c : Cel), cs[j]? = some c → cel e j = some c := fun j c hj => by unfold cel; rw [he]; exact hj
  have b0 : Blk G ob (k, 0) (G.β k) := ⟨e, hk, ⟨cs, he⟩, rfl⟩
  have hno : ∀ c ∈ cs, c.own = false → ∀ x, c.v ≠ .tup [x] := fun c hc ho x hx => by
    obtain ⟨j, hj⟩ := List.getElem?_of_mem hc
    obtain ⟨h1, h2, _⟩ := h.cel k e j c hk (hcel j c hj)
    unfold CelOk at h1
    rw [ho, if_neg (by decide), hx] at h1
    generalize G.ν k j = v at h1 h2
    cases h1
    cases h2
  have hold : ∀ q, OldOwn (cs.map wrapCel) (G.ν k) q → ∃ j, Blk G ob (k, j + 1) q := fun q hq => by
    obtain ⟨j, c, h1, h2, h3⟩ := old_wrap hq hno
    exact ⟨j, e, hk, c, hcel j c h1, h2, h3⟩
  refine ⟨⟨⟨(h.bnd _ _ b0).1, (h.bnd _ _ b0).2.1⟩, ?_, fun j a hj => ?_, fun q hq => ?_, fun i j q x y hi hj h1 h2 => ?_⟩, hold, b0⟩
  · obtain ⟨_, cur, t, h1, h2, h3⟩ := h.var k e cs hk he
    exact ⟨cur, t, h1, by rw [List.length_map]; exact h2, by rw [List.length_map]; exact h3⟩
  · rw [List.getElem?_map, Option.map_eq_some_iff] at hj
    obtain ⟨c, h1, rfl⟩ := hj
    obtain ⟨k1, k2, _⟩ := h.cel k e j c hk (hcel j c h1)
    exact ⟨k2, wcel_of k1 k2⟩
  · obtain ⟨j, hj⟩ := hold q hq
    obtain ⟨h1, h2, _⟩ := h.bnd _ _ hj
    exact ⟨fun hb => by have := h.dist _ _ _ hj (hb ▸ b0); simp at this, h1, h2⟩
  · have one : ∀ (i : Nat) (x : AV), (cs.map wrapCel)[i]? = some (.tup [x]) → (G.ν k i).oblk = some q → Blk G ob (k, i + 1) q := fun i x hi h1 => by
      rw [List.getElem?_map, Option.map_eq_some_iff] at hi
      obtain ⟨c, k1, k2⟩ := hi
      cases ho : c.own with
      | true => exact ⟨e, hk, c, hcel i c k1, ho, h1⟩
      | false =>
        unfold wrapCel at k2
        rw [ho] at k2
        exact absurd k2 (hno c (List.mem_of_getElem? k1) ho x)
    have := h.dist _ _ _ (one i x hi h1) (one j y hj h2)
    simpa using this
theorem unwrap_free {g : Nat} {a : AV} (h : ∀ x, a ≠ .tup [x]) : unwrapCel g a = ⟨g, false, a⟩ := by
  unfold unwrapCel
  split
  · rename_i v; exact absurd rfl (h v)
  · rfl
theorem wcel_free {F : Nat → Prop} {w : World} {a : AV} {v : Value} (h : ∀ x, a ≠ .tup [x]) (hw : WCel F w a v) : Rep F w a v := by
  unfold WCel at hw
  split at hw
  · rename_i x; exact absurd rfl (h x)
  · exact hw
/-- The changed variable stands in its entry. -/
theorem upd_to (h : MOk N G ob w) (hN : ∀ b, w.heap.size ≤ b → N b) {k : Nat} {e : Ent} {cs : List Cel} (hk : ob[k]? = some e) (he : e.o = some (.var cs)) {w' : World} {F' : Nat → Prop} {cs' : List AV} {ν' : Nat → Value}
    (r1 : WTo (fun n => w.heap.size ≤ n ∨ n = G.β k ∨ OldOwn (cs.map wrapCel) (G.ν k) n) w w') (r2 : Ups2 (fun n => w.heap.size ≤ n ∨ n = G.β k ∨ OldOwn (cs.map wrapCel) (G.ν k) n) G.F F' w') (r3 : VarOk F' w' (G.β k) cs' ν') (r4 : ∀ q, OldOwn cs' ν' q → w.heap.size ≤ q ∨ OldOwn (cs.map wrapCel) (G.ν k) q) :
    ∃ G', MTo N G ob w G' (ob.set k ⟨e.g + 1, e.pg, some (.var (cs'.map (unwrapCel (e.g + 1))))⟩) w' ∧ ∀ b, F' b → G'.F b := by
  obtain ⟨v1, v2, v3⟩ := var_ok h hk he
  -- a block that is not of this entry stays
  have keepF : ∀ q, G.F q → w'.heap[q]? = w.heap[q]? := fun q hq => r1.block q (h.frozen q hq) (fun hn => by
    rcases hn with hn | hn | hn
    · have := h.frozen q hq; omega
    · exact v1.fresh.1 (hn ▸ hq)
    · exact (v1.own q hn).2.1 hq)
  have notNu : ∀ p q, p.1 ≠ k → Blk G ob p q → ¬ (w.heap.size ≤ q ∨ q = G.β k ∨ OldOwn (cs.map wrapCel) (G.ν k) q) := fun p q hp hq hn => by
    rcases hn with hn | hn | hn
    · have := (h.bnd p q hq).2.1; omega
    · have := h.dist _ _ _ hq (hn ▸ v3); exact hp (by rw [this])
    · obtain ⟨j, hj⟩ := v2 q hn
      have := h.dist _ _ _ hq hj; exact hp (by rw [this])
  have keepB : ∀ p q, p.1 ≠ k → Blk G ob p q → w'.heap[q]? = w.heap[q]? := fun p q hp hq => r1.block q (h.bnd p q hq).2.1 (notNu p q hp hq)
  let e' : Ent := ⟨e.g + 1, e.pg, some (.var (cs'.map (unwrapCel (e.g + 1))))⟩
  let G' : Gh := ⟨fun b => G.F b ∨ (F' b ∧ (w.heap.size ≤ b ∨ b = G.β k ∨ OldOwn (cs.map wrapCel) (G.ν k) b)), G.β, fun i j => if i = k then ν' j else G.ν i j⟩
  have hkl : k < ob.length := (List.getElem?_eq_some_iff.1 hk).1
  have atk : (ob.set k e')[k]? = some e' := List.getElem?_set_self hkl
  have ato : ∀ i, i ≠ k → (ob.set k e')[i]? = ob[i]? := fun i hi => List.getElem?_set_ne (Ne.symm hi)
  have hF' : ∀ b, F' b → G'.F b := fun b hb => (r2.new b hb).imp id (fun hn => ⟨hb, hn⟩)
  have hNu : ∀ n, (w.heap.size ≤ n ∨ n = G.β k ∨ OldOwn (cs.map wrapCel) (G.ν k) n) → N n := fun n hn => by
    rcases hn with hn | hn | hn
    · exact hN n hn
    · exact hn ▸ (h.bnd _ _ v3).2.2
    · obtain ⟨j, hj⟩ := v2 n hn; exact (h.bnd _ _ hj).2.2
  have νo : ∀ i j, i ≠ k → G'.ν i j = G.ν i j := fun i j hi => if_neg hi
  have νk : ∀ j, G'.ν k j = ν' j := fun j => if_pos rfl
  have celk : ∀ j c, cel e' j = some c → ∃ a, cs'[j]? = some a ∧ c = unwrapCel (e.g + 1) a := fun j c hc => by
    have hc : (cs'.map (unwrapCel (e.g + 1)))[j]? = some c := hc
    rw [List.getElem?_map, Option.map_eq_some_iff] at hc
    obtain ⟨a, h1, h2⟩ := hc
    exact ⟨a, h1, h2.symm⟩
  have ownk : ∀ (a : AV), (unwrapCel (e.g + 1) a).own = true → ∃ x, a = .tup [x] ∧ (unwrapCel (e.g + 1) a).v = x := fun a ha => by
    unfold unwrapCel at ha ⊢
    split at ha
    · exact ⟨_, rfl, rfl⟩
    · cases ha
  have gk : ∀ a, (unwrapCel (e.g + 1) a).g = e.g + 1 := fun a => by unfold unwrapCel; split <;> rfl
  -- blocks behind it
  have blk' : ∀ p q, Blk G' (ob.set k e') p q → (p.1 ≠ k ∧ Blk G ob p q) ∨ (p = (k, 0) ∧ q = G.β k) ∨ (∃ j x, p = (k, j + 1) ∧ cs'[j]? = some (.tup [x]) ∧ (ν' j).oblk = some q) := by
    rintro ⟨i, j⟩ q ⟨e2, h1, h2⟩
    by_cases hi : i = k
    · subst hi
      rw [atk] at h1
      cases h1
      cases j with
      | zero => exact .inr (.inl ⟨rfl, h2.2⟩)
      | succ j =>
        obtain ⟨c, k1, k2, k3⟩ := h2
        obtain ⟨a, k4, rfl⟩ := celk j c k1
        obtain ⟨x, rfl, _⟩ := ownk a k2
        rw [νk] at k3
        exact .inr (.inr ⟨j, x, rfl, k4, k3⟩)
    · rw [ato i hi] at h1
      refine .inl ⟨hi, e2, h1, ?_⟩
      cases j with
      | zero => exact h2
      | succ j =>
        obtain ⟨c, k1, k2, k3⟩ := h2
        rw [νo i j hi] at k3
        exact ⟨c, k1, k2, k3⟩
  refine ⟨G', ⟨⟨?_, ?_, ?_, ?_, ?_⟩, by simp, ⟨r1.os, r1.tape, r1.output, r1.size, fun q hq hn => r1.block q hq (fun hh => hn (hNu q hh))⟩, fun b hb => .inl hb, fun b hb => hb.imp id (fun hh => hNu b hh.2), keepF, ?_⟩, hF'⟩
  · intro i e2 j c h1 h2
    by_cases hi : i = k
    · subst hi
      rw [atk] at h1
      cases h1
      obtain ⟨a, k4, rfl⟩ := celk j c h2
      obtain ⟨k5, k6⟩ := r3.cel j a k4
      rw [νk]
      refine ⟨?_, k5, by rw [gk]; exact Nat.le_refl _⟩
      by_cases hx : ∃ x, a = .tup [x]
      · obtain ⟨x, rfl⟩ := hx
        exact Own.mono (r := x) hF' (fun _ _ => rfl) (fun _ _ => rfl) k6
      · have hne : ∀ x, a ≠ .tup [x] := fun x hh => hx ⟨x, hh⟩
        rw [unwrap_free hne]
        exact Rep.mono hF' (fun _ _ => rfl) (wcel_free hne k6)
    · rw [ato i hi] at h1
      obtain ⟨k5, k6, k7⟩ := h.cel i e2 j c h1 h2
      rw [νo i j hi]
      refine ⟨?_, k6, k7⟩
      unfold CelOk at k5 ⊢
      cases ho : c.own with
      | true =>
        rw [ho, if_pos rfl] at k5
        rw [if_pos rfl]
        exact k5.mono (fun _ hb => .inl hb) keepF (fun b hb => keepB (i, j + 1) b hi ⟨e2, h1, c, h2, ho, hb⟩)
      | false =>
        rw [ho, if_neg (by decide)] at k5
        rw [if_neg (by decide)]
        exact k5.mono (fun _ hb => .inl hb) keepF
  · intro i e2 cs2 h1 h2
    by_cases hi : i = k
    · subst hi
      rw [atk] at h1
      cases h1
      cases h2
      obtain ⟨hpg, _⟩ := h.var i e cs hk he
      obtain ⟨cur, t, k1, k2, k3⟩ := r3.mem
      refine ⟨Nat.le_trans hpg (Nat.le_succ _), cur, t, k1, by rw [List.length_map]; exact k2, fun j hj => ?_⟩
      rw [List.length_map] at hj
      rw [νk]
      exact k3 j hj
    · rw [ato i hi] at h1
      obtain ⟨hpg, cur, t, k1, k2, k3⟩ := h.var i e2 cs2 h1 h2
      refine ⟨hpg, cur, t, ?_, k2, fun j hj => by rw [νo i j hi]; exact k3 j hj⟩
      rw [keepB (i, 0) _ hi ⟨e2, h1, ⟨cs2, h2⟩, rfl⟩]
      exact k1
  · intro p q b hp hq
    rcases blk' p b hp with ⟨p1, p2⟩ | ⟨rfl, p2⟩ | ⟨j, x, rfl, p2, p3⟩ <;> rcases blk' q b hq with ⟨q1, q2⟩ | ⟨rfl, q2⟩ | ⟨i, y, rfl, q2, q3⟩
    · exact h.dist p q b p2 q2
    · exact absurd (.inr (.inl q2)) (notNu p b p1 p2)
    · exact absurd ((r4 b ⟨i, y, q2, q3⟩).imp id (fun hh => .inr hh)) (notNu p b p1 p2)
    · exact absurd (.inr (.inl p2)) (notNu q _ q1 q2)
    · rfl
    · exact absurd p2 (r3.own _ ⟨i, y, q2, q3⟩).1
    · exact absurd ((r4 b ⟨j, x, p2, p3⟩).imp id (fun hh => .inr hh)) (notNu q b q1 q2)
    · exact absurd q2 (r3.own _ ⟨j, x, p2, p3⟩).1
    · rw [r3.dist j i b x y p2 q2 p3 q3]
  · intro p b hp
    rcases blk' p b hp with ⟨p1, p2⟩ | ⟨rfl, rfl⟩ | ⟨j, x, rfl, p2, p3⟩
    · obtain ⟨b1, b2, b3⟩ := h.bnd p b p2
      exact ⟨fun hh => hh.elim b1 (fun hh => notNu p b p1 p2 hh.2), Nat.lt_of_lt_of_le b2 r1.size, b3⟩
    · exact ⟨fun hh => hh.elim v1.fresh.1 (fun hh => r3.fresh.1 hh.1), r3.fresh.2, (h.bnd _ _ v3).2.2⟩
    · obtain ⟨o1, o2, o3⟩ := r3.own b ⟨j, x, p2, p3⟩
      have hb := r4 b ⟨j, x, p2, p3⟩
      refine ⟨fun hh => hh.elim (fun hg => ?_) (fun hh => o2 hh.1), o3, hNu b (hb.imp id (fun hh => .inr hh))⟩
      rcases hb with hb | hb
      · have := h.frozen b hg; omega
      · exact (v1.own b hb).2.1 hg
  · intro b hb
    rcases hb with hb | hb
    · exact Nat.lt_of_lt_of_le (h.frozen b hb) r1.size
    · exact r2.lt b hb.1
  · intro i e1 e2 h1 h2
    by_cases hi : i = k
    · subst hi
      rw [hk] at h1
      rw [atk] at h2
      cases h1
      cases h2
      refine ⟨Nat.le_succ _, fun j c' hc hg => ?_, fun cs2 h3 h4 => ⟨cs, he, rfl, rfl⟩⟩
      obtain ⟨a, _, rfl⟩ := celk j c' hc
      rw [gk] at hg
      omega
    · rw [ato i hi, h1] at h2
      cases h2
      exact ⟨Nat.le_refl _, fun j c' hc _ => ⟨c', hc, rfl, νo i j hi, fun hh => ⟨hh, rfl, rfl⟩⟩, fun cs2 h3 _ => ⟨cs2, h3, rfl, rfl⟩⟩
theorem good_upd {orc : Orc} (horc : OrcOk P orc) (h : MOk N G ob w) (hN : ∀ b, w.heap.size ≤ b → N b) {a : Act} {c : Call} {fo : Operand} {d : Nat} (ho : o.op = .call c) (hc : c.callee = .value fo) (hd : o.dst = some d) {tm : List AV} (hav : ∀ y, AVOk G ob w (opnd tm y) (a.eval y)) {vs : List AV} (hvs : vs = opnd tm fo :: c.args.toList.map (opnd tm)) {es : List Ent} (hes : EntsOf ob (keysOf vs ++ [d]) es) (hnd : nodupB (keysOf vs ++ [d]) = true)
    (he : effUpd T orc c.argTypes.toList o.dst vs es = some (true, av, es')) : es'.length = es.length ∧ Fine P N a o G ob w (setEnts ob (keysOf vs ++ [d]) es') av := by
  have shape : ∃ f cap k pg off args2 d' ed t0 ts e es2 cs, vs = .fn f cap :: .ptr k pg off :: args2 ∧ o.dst = some d' ∧ es.getLast? = some ed ∧ c.argTypes.toList = t0 :: ts ∧ es = e :: es2 ∧ e.o = some (.var cs) ∧ (bif Nat.beq off 0 && Nat.beq e.pg pg && cap.isEmpty then ((handOn (plain1 T) args2 ts es2.dropLast).bind fun (r, es') => match orc f (.agg (cs.map wrapCel) :: r) with
        | some (ok, .upd cs' v) => some (ok && Nat.beq cs'.length cs.length && cs'.all okWrap, v, ⟨e.g + 1, e.pg, some (.var (cs'.map (unwrapCel (e.g + 1))))⟩ :: (es' ++ [ed]))
        | _ => none) else none) = some (true, av, es') := by
    clear hvs hes hnd hd
    unfold effUpd at he
    split at he
    · rename_i h1 h2
      split at he
      · split at he
        · rename_i h3
          exact ⟨_, _, _, _, _, _, _, _, _, _, _, _, _, rfl, by assumption, by assumption, by assumption, rfl, h3, he⟩
        · cases he
      · cases he
    · cases he
  clear he
  obtain ⟨f, cap, k, pg, off, args2, d', ed, t0, ts, e, es2, cs, rfl, hdd, hl, hts, rfl, heo, he⟩ := shape
  rw [hd] at hdd
  cases hdd
  simp only [List.cons.injEq] at hvs
  obtain ⟨hf1, hargs⟩ := hvs
  cases hb : (Nat.beq off 0 && Nat.beq e.pg pg && cap.isEmpty) with
  | false => rw [hb] at he; cases he
  | true =>
  rw [hb] at he
  simp only [cond_true] at he
  rw [Bool.and_eq_true, Bool.and_eq_true] at hb
  obtain rfl := Nat.eq_of_beq_eq_true hb.1.1
  obtain rfl := Nat.eq_of_beq_eq_true hb.1.2
  obtain rfl := List.isEmpty_iff.1 hb.2
  obtain ⟨⟨r, es1⟩, q1, he⟩ := Option.bind_eq_some_iff.1 he
  simp only at he
  split at he
  · rename_i ok cs' v hov
    simp only [Option.some.injEq, Prod.mk.injEq, Bool.and_eq_true] at he
    obtain ⟨⟨⟨rfl, hb1⟩, hb2⟩, rfl, rfl⟩ := he
    have hfo := hav fo
    rw [← hf1] at hfo
    have hfo : Rep G.F w (.fn f []) (a.eval fo) := hfo
    obtain ⟨caps, hfv, hcl⟩ : ∃ caps, a.eval fo = .func (.func f) #[] caps ∧ caps.size = 0 := by
      generalize a.eval fo = v at hfo
      cases hfo with
      | fn _ _ vs hl h => exact ⟨vs, rfl, hl.symm⟩
    obtain rfl : caps = #[] := Array.eq_empty_of_size_eq_zero hcl
    obtain ⟨y0, ys, hys⟩ : ∃ y0 ys, c.args.toList = y0 :: ys := by
      cases hca : c.args.toList with
      | nil => rw [hca] at hargs; cases hargs
      | cons y0 ys => exact ⟨y0, ys, rfl⟩
    rw [hys, List.map_cons, List.cons.injEq] at hargs
    obtain ⟨ha0, hargs⟩ := hargs
    have hx0 := hav y0
    rw [← ha0] at hx0
    have hes : EntsOf ob (k :: (keysOf args2 ++ [d])) (e :: es2) := hes
    have hnd : nodupB (k :: (keysOf args2 ++ [d])) = true := hnd
    obtain ⟨hk, hes2⟩ := ents_cons hes
    obtain ⟨hn1, hn2⟩ := nodup_mem hnd
    have hl2 : es2.getLast? = some ed := by
      have h0 := hes2.1
      cases es2 with
      | nil => simp at h0
      | cons e2 es2 => simpa using hl
    obtain ⟨l4, l5, l6⟩ := ents_last hes2 hl2
    have hv0 : a.eval y0 = .pointer (some ⟨G.β k, 0, none⟩) := hx0.2 e cs hk heo rfl
    have hat2 : ∀ (i : Nat) (x : AV) (u : Value), args2[i]? = some x → (ys.map a.eval)[i]? = some u → AVOk G ob w x u := by
      intro i x u h1 h2
      rw [hargs, List.getElem?_map] at h1
      rw [List.getElem?_map] at h2
      obtain ⟨p, i1, i2⟩ := Option.map_eq_some_iff.1 h1
      rw [i1] at h2
      cases h2
      rw [← i2]
      exact hav p
    obtain ⟨G1, e1, e2, i1, i2, i3, e3, i4, i5, i6, i7, i8⟩ := hand_on (ks := []) (fun _ _ _ _ _ h => plain_rep h) h (by rw [hargs]; simp) hat2 (by simpa using l5) (by
      rw [List.append_nil]
      exact nodup_left hn2) q1
    have he2 : e2 = [] := List.eq_nil_of_length_eq_zero i2.1
    subst he2
    simp only [List.append_nil] at i1 i4
    subst i4
    have hkk : k ∉ keysOf args2 := fun hm => hn1 (List.mem_append_left _ hm)
    have hkd : k ≠ d := fun hm => hn1 (by simp [hm])
    have hdk : d ∉ keysOf args2 := fun hm => nodup_app hn2 d hm (by simp)
    have hk1 : (setEnts ob (keysOf args2) es1)[k]? = some e := by rw [setEnts_out hkk]; exact hk
    have hβ1 : G1.β k = G.β k := by
      obtain ⟨_, _, h3⟩ := i6.ent k e e hk hk1
      obtain ⟨_, _, _, h4⟩ := h3 cs heo (h.var k e cs hk heo).1
      exact h4
    obtain ⟨v1, v2, v3⟩ := var_ok i6.ok hk1 heo
    have hvl : (c.args.map a.eval).toList ++ (#[] : Array Value).toList = .pointer (some ⟨G1.β k, 0, none⟩) :: ys.map a.eval := by
      rw [Array.toList_map, hys, hβ1, ← hv0]; simp
    have hlen3 : es1.length = (keysOf args2).length := by rw [i5, i3]
    have hlen5 : es2.length = es1.length + 1 := by rw [l4]; simp [i5, i1]
    refine ⟨by simp [hlen5], fun next Q hn => ?_⟩
    refine run_call ho hc hfv (horc _ _ _ hov G1.F w _ i6.ok.frozen ⟨_, _, _, _, _, rfl, hvl, v1, ⟨i7, i8⟩⟩) (fun v' w' hR => ?_)
    obtain ⟨r1, F', ν', r2, r3, r4, r5⟩ := hR _ _ _ _ _ rfl hvl v1
    obtain ⟨G3, m3, hF3⟩ := upd_to i6.ok hN hk1 heo r1 r2 r3 r4
    have hend : setEnts ob (k :: (keysOf args2 ++ [d])) (⟨e.g + 1, e.pg, some (.var (cs'.map (unwrapCel (e.g + 1))))⟩ :: (es1 ++ [ed])) = (setEnts ob (keysOf args2) es1).set k ⟨e.g + 1, e.pg, some (.var (cs'.map (unwrapCel (e.g + 1))))⟩ := by
      show setEnts (ob.set k _) (keysOf args2 ++ [d]) (es1 ++ [ed]) = _
      rw [setEnts_last hlen3.symm, setEnts_set hkk]
      refine set_self ?_
      rw [List.getElem?_set_ne hkd, setEnts_out hdk]
      exact l6
    show next _ _
    exact hn v' w' G3 (hend ▸ (i6.trans m3)) (hend ▸ (rep_av (r5.mono hF3 (fun _ _ => rfl))))
  · cases he
/-- The world turns where nobody looks. -/
theorem MTo.side {Nu : Nat → Prop} {w' : World} (h : MOk N G ob w) (r1 : WTo Nu w w') (hNu : ∀ n, Nu n → N n) (hF : ∀ n, G.F n → ¬ Nu n) (hB : ∀ p n, Blk G ob p n → ¬ Nu n) : MTo N G ob w G ob w' := by
  have keepF : ∀ q, G.F q → w'.heap[q]? = w.heap[q]? := fun q hq => r1.block q (h.frozen q hq) (hF q hq)
  have keepB : ∀ p q, Blk G ob p q → w'.heap[q]? = w.heap[q]? := fun p q hq => r1.block q (h.bnd p q hq).2.1 (hB p q hq)
  refine ⟨⟨fun k e j c h1 h2 => ?_, fun k e cs h1 h2 => ?_, h.dist, fun p b hb => ?_, fun k hk => Nat.lt_of_lt_of_le (h.frozen k hk) r1.size⟩, rfl, ⟨r1.os, r1.tape, r1.output, r1.size, fun q hq hn => r1.block q hq (fun hh => hn (hNu q hh))⟩, fun _ hb => hb, fun _ hb => .inl hb, keepF, fun k e e' h1 h2 => by rw [h1] at h2; cases h2; exact EStep.refl G k e⟩
  · obtain ⟨k5, k6, k7⟩ := h.cel k e j c h1 h2
    refine ⟨?_, k6, k7⟩
    unfold CelOk at k5 ⊢
    cases ho : c.own with
    | true =>
      rw [ho, if_pos rfl] at k5
      rw [if_pos rfl]
      exact k5.mono (fun _ hb => hb) keepF (fun b hb => keepB (k, j + 1) b ⟨e, h1, c, h2, ho, hb⟩)
    | false =>
      rw [ho, if_neg (by decide)] at k5
      rw [if_neg (by decide)]
      exact k5.mono (fun _ hb => hb) keepF
  · obtain ⟨hpg, cur, t, k1, k2, k3⟩ := h.var k e cs h1 h2
    exact ⟨hpg, cur, t, by rw [keepB (k, 0) _ ⟨e, h1, ⟨cs, h2⟩, rfl⟩]; exact k1, k2, k3⟩
  · obtain ⟨b1, b2, b3⟩ := h.bnd p b hb
    exact ⟨b1, Nat.lt_of_lt_of_le b2 r1.size, b3⟩
/-- What a callee took and gave back, grown, stands in a new entry. -/
theorem took_to {old : Nat → Prop} (h : MOk N G ob w) (hN : ∀ b, w.heap.size ≤ b → N b) (hold : ∀ b, old b → N b ∧ ¬ G.F b ∧ ∀ p, ¬ Blk G ob p b) {d : Nat} {ed : Ent} (hd : ob[d]? = some ed) {w' : World} {F' : Nat → Prop} {x : AV} {v : Value}
    (r1 : WTo (fun b => w.heap.size ≤ b ∨ old b) w w') (r2 : Ups2 (fun b => w.heap.size ≤ b ∨ old b) G.F F' w') (r3 : Own F' w' x v) (r4 : ∀ b, v.oblk = some b → (w.heap.size ≤ b ∨ old b) ∧ b < w'.heap.size ∧ ¬ F' b) :
    ∃ G', MTo N G ob w G' (ob.set d (newRow ed x)) w' ∧ AVOk G' (ob.set d (newRow ed x)) w' (.sl d 0 (ed.g + 1)) v := by
  have hn1 : ∀ n, (w.heap.size ≤ n ∨ old n) → N n := fun n hn => hn.elim (hN n) (fun hh => (hold n hh).1)
  have hn2 : ∀ n, G.F n → ¬ (w.heap.size ≤ n ∨ old n) := fun n hf hn => hn.elim (fun hh => by have := h.frozen n hf; omega) (fun hh => (hold n hh).2.1 hf)
  have hn3 : ∀ p n, Blk G ob p n → ¬ (w.heap.size ≤ n ∨ old n) := fun p n hb hn => hn.elim (fun hh => by have := (h.bnd p n hb).2.1; omega) (fun hh => (hold n hh).2.2 p hb)
  have m1 := MTo.side h r1 hn1 hn2 hn3
  have m2 := MTo.ice m1.ok (fun b => F' b ∧ (w.heap.size ≤ b ∨ old b)) (fun b hb => ⟨r2.lt b hb.1, hn1 b hb.2, fun p hp => hn3 p b hp hb.2⟩)
  have sub : ∀ b, F' b → G.F b ∨ (F' b ∧ (w.heap.size ≤ b ∨ old b)) := fun b hb => (r2.new b hb).imp id (fun hh => ⟨hb, hh⟩)
  obtain ⟨G3, m3, _, hav3⟩ := MTo.row m2.ok (k := d) (e := ed) hd x v (r3.mono sub (fun _ _ => rfl) (fun _ _ => rfl)) (fun b hb => by
    obtain ⟨k1, k2, k3⟩ := r4 b hb
    exact ⟨hn1 b k1, k2, fun hF => hF.elim (fun h1 => hn2 b h1 k1) (fun h1 => k3 h1.1), fun p hp => hn3 p b hp k1⟩)
  exact ⟨G3, (m1.trans m2).trans m3, hav3⟩
theorem empty_own {F : Nat → Prop} {w : World} {ty : ATy} (h : isRow (emptyRow ty) = true) : Own F w (emptyRow ty) (.slice none 0 0) := by
  refine .inl ⟨h, .inl ⟨rfl, ?_⟩⟩
  cases ty <;> try rfl
  rename_i e k sz bs
  cases k <;> rfl
theorem good_took {orc : Orc} (horc : OrcOk P orc) (h : MOk N G ob w) (hN : ∀ b, w.heap.size ≤ b → N b) {a : Act} {c : Call} {fo : Operand} {d : Nat} (ho : o.op = .call c) (hc : c.callee = .value fo) (hd : o.dst = some d) {tm : List AV} (hav : ∀ y, AVOk G ob w (opnd tm y) (a.eval y)) {vs : List AV} (hvs : vs = opnd tm fo :: c.args.toList.map (opnd tm)) {es : List Ent} (hes : EntsOf ob (keysOf vs ++ [d]) es) (hnd : nodupB (keysOf vs ++ [d]) = true)
    (he : effTook T orc c.argTypes.toList o.dst vs es = some (true, av, es')) : es'.length = es.length ∧ Fine P N a o G ob w (setEnts ob (keysOf vs ++ [d]) es') av := by
  have shape : ∃ f cap a0 args2 ed t0 ts, vs = .fn f cap :: a0 :: args2 ∧ es.getLast? = some ed ∧ c.argTypes.toList = t0 :: ts ∧
      ((∃ k j g e es2, a0 = .sl k j g ∧ es = e :: es2 ∧ ((celAt e j g).bind fun c => bif c.own && cap.isEmpty then ((handOn (plain1 T) args2 ts es2.dropLast).bind fun (r, es') => match orc f (c.v :: r) with
      | some (ok, .took x) => some (ok, .sl d 0 (ed.g + 1), dropCel e j c :: (es' ++ [newRow ed x]))
      | _ => none) else none) = some (true, av, es')) ∨
      (a0 = .nil ∧ (bif isRow (emptyRow (tyAt T t0)) && cap.isEmpty then ((handOn (plain1 T) args2 ts es.dropLast).bind fun (r, es') => match orc f (emptyRow (tyAt T t0) :: r) with
      | some (ok, .took x) => some (ok, .sl d 0 (ed.g + 1), es' ++ [newRow ed x])
      | _ => none) else none) = some (true, av, es'))) := by
    clear hvs hes hnd
    unfold effTook at he
    rw [hd] at he
    split at he
    · rename_i h1 h2
      cases h1
      split at he
      · exact ⟨_, _, _, _, _, _, _, rfl, by assumption, by assumption, .inl ⟨_, _, _, _, _, rfl, rfl, he⟩⟩
      · exact ⟨_, _, _, _, _, _, _, rfl, by assumption, by assumption, .inr ⟨rfl, he⟩⟩
      · cases he
    · cases he
  clear he
  obtain ⟨f, cap, a0, args2, ed, t0, ts, rfl, hl, hts, hcase⟩ := shape
  simp only [List.cons.injEq] at hvs
  obtain ⟨hf1, hargs⟩ := hvs
  obtain ⟨y0, ys, hys⟩ : ∃ y0 ys, c.args.toList = y0 :: ys := by
    cases hca : c.args.toList with
    | nil => rw [hca] at hargs; cases hargs
    | cons y0 ys => exact ⟨y0, ys, rfl⟩
  rw [hys, List.map_cons, List.cons.injEq] at hargs
  obtain ⟨ha0, hargs⟩ := hargs
  have hx0 := hav y0
  rw [← ha0] at hx0
  have hfo := hav fo
  rw [← hf1] at hfo
  have hfo : Rep G.F w (.fn f cap) (a.eval fo) := hfo
  have hat2 : ∀ (i : Nat) (x : AV) (u : Value), args2[i]? = some x → (ys.map a.eval)[i]? = some u → AVOk G ob w x u := by
    intro i x u h1 h2
    rw [hargs, List.getElem?_map] at h1
    rw [List.getElem?_map] at h2
    obtain ⟨p, i1, i2⟩ := Option.map_eq_some_iff.1 h1
    rw [i1] at h2
    cases h2
    rw [← i2]
    exact hav p
  have hfun : cap.isEmpty = true → a.eval fo = .func (.func f) #[] #[] := fun hcap => by
    obtain rfl := List.isEmpty_iff.1 hcap
    generalize a.eval fo = v at hfo
    cases hfo with
    | fn _ _ vs hl h => rw [Array.eq_empty_of_size_eq_zero hl.symm]
  have hvl : (c.args.map a.eval).toList ++ (#[] : Array Value).toList = a.eval y0 :: ys.map a.eval := by
    rw [Array.toList_map, hys]; simp
  rcases hcase with ⟨k, j, g, e, es2, rfl, rfl, he⟩ | ⟨rfl, he⟩
  · obtain ⟨cc, hcc, he⟩ := Option.bind_eq_some_iff.1 he
    cases hb : (cc.own && cap.isEmpty) with
    | false => rw [hb] at he; cases he
    | true =>
    rw [hb] at he
    simp only [cond_true] at he
    rw [Bool.and_eq_true] at hb
    obtain ⟨hown, hcap⟩ := hb
    have hfv := hfun hcap
    obtain ⟨⟨r, es1⟩, q1, he⟩ := Option.bind_eq_some_iff.1 he
    simp only at he
    split at he
    · rename_i ok x hov
      simp only [Option.some.injEq, Prod.mk.injEq] at he
      obtain ⟨rfl, rfl, rfl⟩ := he
      have hes : EntsOf ob (k :: (keysOf args2 ++ [d])) (e :: es2) := hes
      have hnd : nodupB (k :: (keysOf args2 ++ [d])) = true := hnd
      obtain ⟨hk, hes2⟩ := ents_cons hes
      obtain ⟨hn1, hn2⟩ := nodup_mem hnd
      have hl2 : es2.getLast? = some ed := by
        have h0 := hes2.1
        cases es2 with
        | nil => simp at h0
        | cons e2 es2 => simpa using hl
      obtain ⟨l4, l5, l6⟩ := ents_last hes2 hl2
      obtain ⟨c1, c2⟩ := celAt_some hcc
      have hv0 : a.eval y0 = G.ν k j := hx0.2.2 e cc hk c1 c2
      obtain ⟨G1, e1, e2, i1, i2, i3, e3, i4, i5, i6, i7, i8⟩ := hand_on (ks := []) (fun _ _ _ _ _ h => plain_rep h) h (by rw [hargs]; simp) hat2 (by simpa using l5) (by
        rw [List.append_nil]
        exact nodup_left hn2) q1
      have he2 : e2 = [] := List.eq_nil_of_length_eq_zero i2.1
      subst he2
      simp only [List.append_nil] at i1 i4
      subst i4
      have hkk : k ∉ keysOf args2 := fun hm => hn1 (List.mem_append_left _ hm)
      have hkd : k ≠ d := fun hm => hn1 (by simp [hm])
      have hdk : d ∉ keysOf args2 := fun hm => nodup_app hn2 d hm (by simp)
      have hk1 : (setEnts ob (keysOf args2) es1)[k]? = some e := by rw [setEnts_out hkk]; exact hk
      have hd1 : (setEnts ob (keysOf args2) es1)[d]? = some ed := by rw [setEnts_out hdk]; exact l6
      have hν1 : G1.ν k j = G.ν k j := by
        obtain ⟨_, h2, _⟩ := i6.ent k e e hk hk1
        obtain ⟨_, _, _, h3, _⟩ := h2 j cc c1 (h.cel k e j cc hk c1).2.2
        exact h3
      have hO := (i6.ok.cel k e j cc hk1 c1).1
      unfold CelOk at hO
      rw [if_pos hown] at hO
      have hlen3 : es1.length = (keysOf args2).length := by rw [i5, i3]
      have hlen5 : es2.length = es1.length + 1 := by rw [l4]; simp [i5, i1]
      have hbl : ∀ b, (a.eval y0).oblk = some b → ¬ G1.F b ∧ b < w.heap.size ∧ N b := fun b hb => i6.ok.bnd _ b (blkS hk1 c1 hown (by rw [hν1, ← hv0]; exact hb))
      refine ⟨by simp [hlen5], fun next Q hn => ?_⟩
      refine run_call ho hc hfv (horc _ _ _ hov G1.F w _ i6.ok.frozen ⟨_, _, _, _, rfl, hvl, by rw [hv0, ← hν1]; exact hO, fun b hb => ⟨(hbl b hb).1, (hbl b hb).2.1⟩, ⟨i7, i8⟩⟩) (fun v' w' hR => ?_)
      obtain ⟨r1, F', r2, r3, r4⟩ := hR _ _ hvl
      have m1 := MTo.drop i6.ok hk1 c1
      have hd2 : ((setEnts ob (keysOf args2) es1).set k (dropCel e j cc))[d]? = some ed := by rw [List.getElem?_set_ne hkd]; exact hd1
      obtain ⟨G3, m3, hav3⟩ := took_to (old := fun b => (a.eval y0).oblk = some b) m1.ok hN (fun b hb => ⟨(hbl b hb).2.2, (hbl b hb).1, drop_blk i6.ok hk1 c1 hown (by rw [hν1, ← hv0]; exact hb)⟩) hd2 r1 r2 r3 r4
      have hend : setEnts ob (k :: (keysOf args2 ++ [d])) (dropCel e j cc :: (es1 ++ [newRow ed x])) = ((setEnts ob (keysOf args2) es1).set k (dropCel e j cc)).set d (newRow ed x) := by
        show setEnts (ob.set k _) (keysOf args2 ++ [d]) (es1 ++ [newRow ed x]) = _
        rw [setEnts_last hlen3.symm, setEnts_set hkk]
      show next _ _
      exact hn v' w' G3 (hend ▸ ((i6.trans m1).trans m3)) (hend ▸ hav3)
    · cases he
  · cases hb : (isRow (emptyRow (tyAt T t0)) && cap.isEmpty) with
    | false => rw [hb] at he; cases he
    | true =>
    rw [hb] at he
    simp only [cond_true] at he
    rw [Bool.and_eq_true] at hb
    obtain ⟨hrow, hcap⟩ := hb
    have hfv := hfun hcap
    obtain ⟨⟨r, es1⟩, q1, he⟩ := Option.bind_eq_some_iff.1 he
    simp only at he
    split at he
    · rename_i ok x hov
      simp only [Option.some.injEq, Prod.mk.injEq] at he
      obtain ⟨rfl, rfl, rfl⟩ := he
      have hes : EntsOf ob (keysOf args2 ++ [d]) es := hes
      have hnd : nodupB (keysOf args2 ++ [d]) = true := hnd
      obtain ⟨l4, l5, l6⟩ := ents_last hes hl
      have hv0 : a.eval y0 = .slice none 0 0 := by
        have hx0 : Rep G.F w .nil (a.eval y0) := hx0
        generalize a.eval y0 = v at hx0
        cases hx0
        rfl
      obtain ⟨G1, e1, e2, i1, i2, i3, e3, i4, i5, i6, i7, i8⟩ := hand_on (ks := []) (fun _ _ _ _ _ h => plain_rep h) h (by rw [hargs]; simp) hat2 (by simpa using l5) (by
        rw [List.append_nil]
        exact nodup_left hnd) q1
      have he2 : e2 = [] := List.eq_nil_of_length_eq_zero i2.1
      subst he2
      simp only [List.append_nil] at i1 i4
      subst i4
      have hdk : d ∉ keysOf args2 := fun hm => nodup_app hnd d hm (by simp)
      have hd1 : (setEnts ob (keysOf args2) es1)[d]? = some ed := by rw [setEnts_out hdk]; exact l6
      have hlen3 : es1.length = (keysOf args2).length := by rw [i5, i3]
      have hbl : ∀ b, ¬ (a.eval y0).oblk = some b := fun b hb => by rw [hv0] at hb; cases hb
      refine ⟨by rw [l4]; simp [i5, i1], fun next Q hn => ?_⟩
      refine run_call ho hc hfv (horc _ _ _ hov G1.F w _ i6.ok.frozen ⟨_, _, _, _, rfl, hvl, by rw [hv0]; exact empty_own hrow, fun b hb => absurd hb (hbl b), ⟨i7, i8⟩⟩) (fun v' w' hR => ?_)
      obtain ⟨r1, F', r2, r3, r4⟩ := hR _ _ hvl
      obtain ⟨G3, m3, hav3⟩ := took_to (old := fun b => (a.eval y0).oblk = some b) i6.ok hN (fun b hb => absurd hb (hbl b)) hd1 r1 r2 r3 r4
      have hend : setEnts ob (keysOf args2 ++ [d]) (es1 ++ [newRow ed x]) = (setEnts ob (keysOf args2) es1).set d (newRow ed x) := setEnts_last hlen3.symm
      show next _ _
      exact hn v' w' G3 (hend ▸ (i6.trans m3)) (hend ▸ hav3)
    · cases he
end
end Go.Abs
end
section
/- An abstract machine for the model's code, part Q3: functions that point at two variables of the caller's. -/
namespace Go.Abs
open Go.RowKit
section
variable {P : Program} {T : Tbl} {N : Nat → Prop} {o : Oper} {G : Gh} {ob : List Ent} {w : World} {av : AV} {es' : List Ent}
theorem flat1_one {F : Nat → Prop} {w : World} {x : AV} {u : Value} (hx : flat1 x = true) (h : Rep F w x u) : u.oneCell' = true := by
  cases h <;> first | rfl | (cases hx; done)
theorem flat1_rep' {F F' : Nat → Prop} {w w' : World} {x : AV} {u : Value} (hx : flat1 x = true) (h : Rep F w x u) : Rep F' w' x u := by
  cases h <;> first | (cases hx; done) | skip
  · exact .int _ _
  · exact .bool _
  · exact .str _
theorem oneCel_at {e : Ent} {g : Nat} {x : AV} (h : oneCel e g = some x) : ∃ c, e.o = some (.var [c]) ∧ e.pg = g ∧ c.own = false ∧ flat1 c.v = true ∧ x = c.v := by
  unfold oneCel at h
  split at h
  · rename_i c hc
    cases hb : (Nat.beq e.pg g && (!c.own && flat1 c.v)) with
    | false => rw [hb] at h; cases h
    | true =>
      rw [hb] at h
      cases h
      rw [Bool.and_eq_true, Bool.and_eq_true, Bool.not_eq_true'] at hb
      exact ⟨c, hc, Nat.eq_of_beq_eq_true hb.1, hb.2.1, hb.2.2, rfl⟩
  · cases h
/-- Such a variable, as a callee may have it. -/
theorem one_ok (h : MOk N G ob w) {k g : Nat} {e : Ent} {x : AV} (hk : ob[k]? = some e) (he : oneCel e g = some x) : CellOk G.F w (G.β k) x ∧ Blk G ob (k, 0) (G.β k) := by
  obtain ⟨c, h1, h2, h3, h4, rfl⟩ := oneCel_at he
  have b0 : Blk G ob (k, 0) (G.β k) := ⟨e, hk, ⟨[c], h1⟩, rfl⟩
  obtain ⟨_, cur, t, k1, k2, k3⟩ := h.var k e [c] hk h1
  have hc := (h.cel k e 0 c hk (by unfold cel; rw [h1]; rfl)).1
  unfold CelOk at hc
  rw [h3, if_neg (by decide)] at hc
  refine ⟨⟨(h.bnd _ _ b0).1, (h.bnd _ _ b0).2.1, h4, G.ν k 0, t, ?_, hc⟩, b0⟩
  rw [k1]
  have : cur = #[G.ν k 0] := by
    apply Array.ext'
    have h0 := k3 0 (by simp)
    have hs : cur.toList.length = 1 := by simpa using k2
    rw [← Array.getElem?_toList] at h0
    match hcur : cur.toList, hs with
    | [y], _ => rw [hcur] at h0; cases h0; rfl
  rw [this]
/-- Both variables have changed. -/
theorem clo_to (h : MOk N G ob w) (hN : ∀ b, w.heap.size ≤ b → N b) {k1 k2 g1 g2 : Nat} (hne : k1 ≠ k2) {e1 e2 : Ent} {x1 x2 : AV} (hk1 : ob[k1]? = some e1) (hk2 : ob[k2]? = some e2) (he1 : oneCel e1 g1 = some x1) (he2 : oneCel e2 g2 = some x2) {w' : World} {F' : Nat → Prop} {y1 y2 : AV}
    (r1 : WTo (fun n => w.heap.size ≤ n ∨ n = G.β k1 ∨ n = G.β k2) w w') (r2 : Ups2 (fun n => w.heap.size ≤ n ∨ n = G.β k1 ∨ n = G.β k2) G.F F' w') (r3 : CellOk F' w' (G.β k1) y1) (r4 : CellOk F' w' (G.β k2) y2) :
    ∃ G', MTo N G ob w G' ((ob.set k1 (setOne e1 y1)).set k2 (setOne e2 y2)) w' ∧ ∀ b, F' b → G'.F b := by
  obtain ⟨_, bk1⟩ := one_ok h hk1 he1
  obtain ⟨_, bk2⟩ := one_ok h hk2 he2
  obtain ⟨c1, o1, _⟩ := oneCel_at he1
  obtain ⟨c2, o2, _⟩ := oneCel_at he2
  obtain ⟨f1, _, hy1, u1, t1, m1, p1⟩ := r3
  obtain ⟨f2, _, hy2, u2, t2, m2, p2⟩ := r4
  have notNu : ∀ p q, p.1 ≠ k1 → p.1 ≠ k2 → Blk G ob p q → ¬ (w.heap.size ≤ q ∨ q = G.β k1 ∨ q = G.β k2) := fun p q hp1 hp2 hq hn => by
    rcases hn with hn | hn | hn
    · have := (h.bnd p q hq).2.1; omega
    · have := h.dist _ _ _ hq (hn ▸ bk1); exact hp1 (by rw [this])
    · have := h.dist _ _ _ hq (hn ▸ bk2); exact hp2 (by rw [this])
  have keepF : ∀ q, G.F q → w'.heap[q]? = w.heap[q]? := fun q hq => r1.block q (h.frozen q hq) (fun hn => by
    rcases hn with hn | hn | hn
    · have := h.frozen q hq; omega
    · exact (h.bnd _ _ bk1).1 (hn ▸ hq)
    · exact (h.bnd _ _ bk2).1 (hn ▸ hq))
  have keepB : ∀ p q, p.1 ≠ k1 → p.1 ≠ k2 → Blk G ob p q → w'.heap[q]? = w.heap[q]? := fun p q hp1 hp2 hq => r1.block q (h.bnd p q hq).2.1 (notNu p q hp1 hp2 hq)
  let G' : Gh := ⟨fun b => G.F b ∨ (F' b ∧ w.heap.size ≤ b), G.β, fun i j => if i = k1 then u1 else if i = k2 then u2 else G.ν i j⟩
  let ob' := (ob.set k1 (setOne e1 y1)).set k2 (setOne e2 y2)
  have l1 : k1 < ob.length := (List.getElem?_eq_some_iff.1 hk1).1
  have l2 : k2 < ob.length := (List.getElem?_eq_some_iff.1 hk2).1
  have at1 : ob'[k1]? = some (setOne e1 y1) := by
    show ((ob.set k1 (setOne e1 y1)).set k2 (setOne e2 y2))[k1]? = _
    rw [List.getElem?_set_ne (Ne.symm hne), List.getElem?_set_self l1]
  have at2 : ob'[k2]? = some (setOne e2 y2) := List.getElem?_set_self (by rw [List.length_set]; exact l2)
  have ato : ∀ i, i ≠ k1 → i ≠ k2 → ob'[i]? = ob[i]? := fun i hi1 hi2 => by
    show ((ob.set k1 (setOne e1 y1)).set k2 (setOne e2 y2))[i]? = _
    rw [List.getElem?_set_ne (Ne.symm hi2), List.getElem?_set_ne (Ne.symm hi1)]
  have hF' : ∀ b, F' b → G'.F b := fun b hb => by
    rcases r2.new b hb with hn | hn | hn | hn
    · exact .inl hn
    · exact .inr ⟨hb, hn⟩
    · exact absurd (hn ▸ hb) f1
    · exact absurd (hn ▸ hb) f2
  have hNu : ∀ n, (w.heap.size ≤ n ∨ n = G.β k1 ∨ n = G.β k2) → N n := fun n hn => by
    rcases hn with hn | hn | hn
    · exact hN n hn
    · exact hn ▸ (h.bnd _ _ bk1).2.2
    · exact hn ▸ (h.bnd _ _ bk2).2.2
  have ν1 : ∀ j, G'.ν k1 j = u1 := fun j => if_pos rfl
  have ν2 : ∀ j, G'.ν k2 j = u2 := fun j => (if_neg (Ne.symm hne)).trans (if_pos rfl)
  have νo : ∀ i j, i ≠ k1 → i ≠ k2 → G'.ν i j = G.ν i j := fun i j hi1 hi2 => (if_neg hi1).trans (if_neg hi2)
  have celk : ∀ {e : Ent} {y : AV} {j : Nat} {c : Cel}, cel (setOne e y) j = some c → c = ⟨e.g + 1, false, y⟩ := fun {e y j c} hc => by
    have hc : ([⟨e.g + 1, false, y⟩] : List Cel)[j]? = some c := hc
    cases j with
    | zero => cases hc; rfl
    | succ j => cases hc
  have blk' : ∀ p q, Blk G' ob' p q → Blk G ob p q := by
    rintro ⟨i, j⟩ q ⟨e, h1, h2⟩
    by_cases hi1 : i = k1
    · subst hi1
      rw [at1] at h1
      cases h1
      cases j with
      | zero => exact ⟨e1, hk1, ⟨_, o1⟩, h2.2⟩
      | succ j => obtain ⟨c, z1, z2, _⟩ := h2; rw [celk z1] at z2; cases z2
    · by_cases hi2 : i = k2
      · subst hi2
        rw [at2] at h1
        cases h1
        cases j with
        | zero => exact ⟨e2, hk2, ⟨_, o2⟩, h2.2⟩
        | succ j => obtain ⟨c, z1, z2, _⟩ := h2; rw [celk z1] at z2; cases z2
      · rw [ato i hi1 hi2] at h1
        refine ⟨e, h1, ?_⟩
        cases j with
        | zero => exact h2
        | succ j =>
          obtain ⟨c, z1, z2, z3⟩ := h2
          rw [νo i j hi1 hi2] at z3
          exact ⟨c, z1, z2, z3⟩
  refine ⟨G', ⟨⟨?_, ?_, ?_, ?_, ?_⟩, by simp [ob'], ⟨r1.os, r1.tape, r1.output, r1.size, fun q hq hn => r1.block q hq (fun hh => hn (hNu q hh))⟩, fun b hb => .inl hb, fun b hb => hb.imp id (fun hh => hN b hh.2), keepF, ?_⟩, hF'⟩
  · intro i e j c z1 z2
    by_cases hi1 : i = k1
    · subst hi1
      rw [at1] at z1
      cases z1
      rw [celk z2, ν1]
      exact ⟨flat1_rep' hy1 p1, flat1_one hy1 p1, Nat.le_refl _⟩
    · by_cases hi2 : i = k2
      · subst hi2
        rw [at2] at z1
        cases z1
        rw [celk z2, ν2]
        exact ⟨flat1_rep' hy2 p2, flat1_one hy2 p2, Nat.le_refl _⟩
      · rw [ato i hi1 hi2] at z1
        obtain ⟨z5, z6, z7⟩ := h.cel i e j c z1 z2
        rw [νo i j hi1 hi2]
        refine ⟨?_, z6, z7⟩
        unfold CelOk at z5 ⊢
        cases ho : c.own with
        | true =>
          rw [ho, if_pos rfl] at z5
          rw [if_pos rfl]
          exact z5.mono (fun _ hb => .inl hb) keepF (fun b hb => keepB (i, j + 1) b hi1 hi2 ⟨e, z1, c, z2, ho, hb⟩)
        | false =>
          rw [ho, if_neg (by decide)] at z5
          rw [if_neg (by decide)]
          exact z5.mono (fun _ hb => .inl hb) keepF
  · intro i e cs z1 z2
    by_cases hi1 : i = k1
    · subst hi1
      rw [at1] at z1
      cases z1
      cases z2
      obtain ⟨hpg, _⟩ := h.var i e1 _ hk1 o1
      exact ⟨Nat.le_trans hpg (Nat.le_succ _), #[u1], t1, m1, rfl, fun j hj => by
        have hj : j < 1 := hj
        obtain rfl : j = 0 := by omega
        rw [ν1]; rfl⟩
    · by_cases hi2 : i = k2
      · subst hi2
        rw [at2] at z1
        cases z1
        cases z2
        obtain ⟨hpg, _⟩ := h.var i e2 _ hk2 o2
        exact ⟨Nat.le_trans hpg (Nat.le_succ _), #[u2], t2, m2, rfl, fun j hj => by
          have hj : j < 1 := hj
          obtain rfl : j = 0 := by omega
          rw [ν2]; rfl⟩
      · rw [ato i hi1 hi2] at z1
        obtain ⟨hpg, cur, t, z3, z4, z5⟩ := h.var i e cs z1 z2
        refine ⟨hpg, cur, t, ?_, z4, fun j hj => by rw [νo i j hi1 hi2]; exact z5 j hj⟩
        rw [keepB (i, 0) _ hi1 hi2 ⟨e, z1, ⟨cs, z2⟩, rfl⟩]
        exact z3
  · exact fun p q b hp hq => h.dist p q b (blk' p b hp) (blk' q b hq)
  · intro p b hp
    obtain ⟨z1, z2, z3⟩ := h.bnd p b (blk' p b hp)
    exact ⟨fun hh => hh.elim z1 (fun hh => by have := hh.2; omega), Nat.lt_of_lt_of_le z2 r1.size, z3⟩
  · intro b hb
    rcases hb with hb | hb
    · exact Nat.lt_of_lt_of_le (h.frozen b hb) r1.size
    · exact r2.lt b hb.1
  · intro i e e' z1 z2
    by_cases hi1 : i = k1
    · subst hi1
      rw [hk1] at z1
      rw [at1] at z2
      cases z1
      cases z2
      refine ⟨Nat.le_succ _, fun j c' hc hg => ?_, fun cs2 z3 z4 => ⟨_, o1, rfl, rfl⟩⟩
      rw [celk hc] at hg
      exact absurd hg (Nat.not_succ_le_self _)
    · by_cases hi2 : i = k2
      · subst hi2
        rw [hk2] at z1
        rw [at2] at z2
        cases z1
        cases z2
        refine ⟨Nat.le_succ _, fun j c' hc hg => ?_, fun cs2 z3 z4 => ⟨_, o2, rfl, rfl⟩⟩
        rw [celk hc] at hg
        exact absurd hg (Nat.not_succ_le_self _)
      · rw [ato i hi1 hi2, z1] at z2
        cases z2
        exact ⟨Nat.le_refl _, fun j c' hc _ => ⟨c', hc, rfl, νo i j hi1 hi2, fun hh => ⟨hh, rfl, rfl⟩⟩, fun cs2 z3 _ => ⟨cs2, z3, rfl, rfl⟩⟩
theorem good_makeFunc (h : MOk N G ob w) {f : Fn} {first captured : Array Operand} {ρ : Operand → Value} {tm : List AV} (ho : o.op = .makeFunc f first captured) (hav : ∀ y, AVOk G ob w (opnd tm y) (ρ y))
    (he : effMakeFunc f first.size ((first.toList ++ captured.toList).map (opnd tm)) = some (true, av, es')) : es' = [] ∧ Good P N ρ o G ob w ob av := by
  unfold effMakeFunc at he
  split at he
  · rename_i g k1 g1 k2 g2 h1 h2
    cases he
    refine ⟨rfl, ?_⟩
    have hf : first = #[] := Array.eq_empty_of_size_eq_zero h1
    subst hf
    obtain ⟨x, y, hxy, hx, hy⟩ : ∃ x y, captured = #[x, y] ∧ opnd tm x = .ptr k1 g1 0 ∧ opnd tm y = .ptr k2 g2 0 := by
      have h2 : captured.toList.map (opnd tm) = [.ptr k1 g1 0, .ptr k2 g2 0] := by simpa using h2
      cases hc : captured.toList with
      | nil => rw [hc] at h2; cases h2
      | cons x l => cases l with
        | nil => rw [hc] at h2; simp at h2
        | cons y l => cases l with
          | cons _ _ => rw [hc] at h2; simp at h2
          | nil =>
            rw [hc] at h2
            simp only [List.map_cons, List.map_nil, List.cons.injEq, and_true] at h2
            exact ⟨x, y, by apply Array.ext'; exact hc, h2.1, h2.2⟩
    subst hxy
    have p1 := hav x
    rw [hx] at p1
    have p2 := hav y
    rw [hy] at p2
    refine .same h (v := .func (.func g) #[] #[ρ x, ρ y]) ?_ ⟨ρ x, ρ y, rfl, p1, p2⟩
    simp [execOp, ho, Instr.makeFunc]
  · cases he
theorem hand_noclo {pl : Nat → AV → AV} : ∀ {vs : List AV} {ts : List Nat} {es : List Ent} {z : List AV × List Ent}, handOn pl vs ts es = some z → cloOf vs = none
  | [], ts, es, z, h => rfl
  | v :: vs, ts, es, z, h => by
    have other : (∀ t ts', ts = t :: ts' → (handOn pl vs ts' es).bind (fun (r, es') => some (pl t v :: r, es')) = some z → cloOf vs = none) := fun t ts' _ he => by
      obtain ⟨q, q1, _⟩ := Option.bind_eq_some_iff.1 he
      exact hand_noclo q1
    cases v with
    | sl k j g =>
      cases ts with
      | nil => cases h
      | cons t ts =>
        cases es with
        | nil => cases h
        | cons e es =>
          have he : (frz e j g).bind (fun (v, e') => (handOn pl vs ts es).bind fun (r, es') => some (v :: r, e' :: es')) = some z := h
          obtain ⟨q, _, q2⟩ := Option.bind_eq_some_iff.1 he
          obtain ⟨q', q3, _⟩ := Option.bind_eq_some_iff.1 q2
          exact hand_noclo (vs := vs) q3
    | ptr => cases h
    | elem => cases h
    | clo => cases h
    | _ =>
      cases ts with
      | nil => cases h
      | cons t ts => exact other t ts rfl h
theorem clo_last : ∀ {vs : List AV} {f k1 g1 k2 g2 : Nat}, cloOf vs = none → cloOf (vs ++ [.clo f k1 g1 k2 g2]) = some (k1, k2)
  | [], _, _, _, _, _, _ => rfl
  | v :: vs, f, k1, g1, k2, g2, h => by
    have ih := clo_last (vs := vs) (f := f) (k1 := k1) (g1 := g1) (k2 := k2) (g2 := g2)
    cases v <;> first | exact ih h | cases h
theorem keys_clo {vs : List AV} {f k1 g1 k2 g2 : Nat} : keysOf (vs ++ [.clo f k1 g1 k2 g2]) = keysOf vs := by
  unfold keysOf
  rw [List.filterMap_append]
  simp
theorem effClo_none {orc : Orc} {ts : List Nat} {vs : List AV} {es : List Ent} {z : Bool × AV × List Ent} : ¬ effClo T orc ts none vs es = some z := by
  intro h
  unfold effClo at h
  split at h <;> first | (cases h; done) | contradiction
theorem clo_core {orc : Orc} (horc : OrcOk P orc) (h : MOk N G ob w) (hN : ∀ b, w.heap.size ≤ b → N b) {a : Act} {c : Call} {fo : Operand} {d : Nat} (ho : o.op = .call c) (hc : c.callee = .value fo) {f : Nat} {caps : Array Value} (hfv : a.eval fo = .func (.func f) #[] caps)
    {vs2 : List AV} {us2 : List Value} (hl : vs2.length = us2.length) (hat : ∀ (i : Nat) (x : AV) (u : Value), vs2[i]? = some x → us2[i]? = some u → AVOk G ob w x u) {k1 k2 g1 g2 : Nat} {e1 e2 ed : Ent} {es2 : List Ent} (hes : EntsOf ob (k1 :: k2 :: (keysOf vs2 ++ [d])) (e1 :: e2 :: es2)) (hnd : nodupB (k1 :: k2 :: (keysOf vs2 ++ [d])) = true) (hlast : es2.getLast? = some ed)
    {x1 x2 : AV} (hx1 : oneCel e1 g1 = some x1) (hx2 : oneCel e2 g2 = some x2) {r A : List AV} {ts : List Nat} {es1 : List Ent} (q1 : handOn (plain1 T) vs2 ts es2.dropLast = some (r, es1)) (hsh : CloShape A ((c.args.map a.eval).toList ++ caps.toList) r us2 (G.β k1) (G.β k2) x1 x2) {y1 y2 v : AV} (hov : orc f A = some (true, .clo y1 y2 v)) :
    (setOne e1 y1 :: setOne e2 y2 :: (es1 ++ [ed])).length = (e1 :: e2 :: es2).length ∧ Fine P N a o G ob w (setEnts ob (k1 :: k2 :: (keysOf vs2 ++ [d])) (setOne e1 y1 :: setOne e2 y2 :: (es1 ++ [ed]))) v := by
  obtain ⟨hk1, hes⟩ := ents_cons hes
  obtain ⟨hk2, hes2⟩ := ents_cons hes
  obtain ⟨hn1, hnd⟩ := nodup_mem hnd
  obtain ⟨hn2, hn3⟩ := nodup_mem hnd
  obtain ⟨l4, l5, l6⟩ := ents_last hes2 hlast
  have hne : k1 ≠ k2 := fun hh => hn1 (hh ▸ List.mem_cons_self)
  obtain ⟨G1, s1, s2, i1, i2, i3, s3, i4, i5, i6, i7, i8⟩ := hand_on (ks := []) (fun _ _ _ _ _ h => plain_rep h) h hl hat (by simpa using l5) (by
    rw [List.append_nil]
    exact nodup_left hn3) q1
  have he2 : s2 = [] := List.eq_nil_of_length_eq_zero i2.1
  subst he2
  simp only [List.append_nil] at i1 i4
  subst i4
  have k1k : k1 ∉ keysOf vs2 := fun hm => hn1 (List.mem_cons_of_mem _ (List.mem_append_left _ hm))
  have k2k : k2 ∉ keysOf vs2 := fun hm => hn2 (List.mem_append_left _ hm)
  have k1d : k1 ≠ d := fun hm => hn1 (by simp [hm])
  have k2d : k2 ≠ d := fun hm => hn2 (by simp [hm])
  have hdk : d ∉ keysOf vs2 := fun hm => nodup_app hn3 d hm (by simp)
  have b1 : (setEnts ob (keysOf vs2) es1)[k1]? = some e1 := by rw [setEnts_out k1k]; exact hk1
  have b2 : (setEnts ob (keysOf vs2) es1)[k2]? = some e2 := by rw [setEnts_out k2k]; exact hk2
  have β_ : ∀ {k g : Nat} {e : Ent} {x : AV}, ob[k]? = some e → (setEnts ob (keysOf vs2) es1)[k]? = some e → oneCel e g = some x → G1.β k = G.β k := fun {k g e x} z1 z2 z3 => by
    obtain ⟨cc, z4, _⟩ := oneCel_at z3
    obtain ⟨_, _, z5⟩ := i6.ent k e e z1 z2
    obtain ⟨_, _, _, z6⟩ := z5 _ z4 (h.var k e _ z1 z4).1
    exact z6
  have β1 := β_ hk1 b1 hx1
  have β2 := β_ hk2 b2 hx2
  rw [← β1, ← β2] at hsh
  obtain ⟨v1, w1⟩ := one_ok i6.ok b1 hx1
  obtain ⟨v2, w2⟩ := one_ok i6.ok b2 hx2
  have hlen3 : es1.length = (keysOf vs2).length := by rw [i5, i3]
  have hlen5 : es2.length = es1.length + 1 := by rw [l4]; simp [i5, i1]
  refine ⟨by simp [hlen5], fun next Q hn => ?_⟩
  refine run_call ho hc hfv (horc _ _ _ hov G1.F w _ i6.ok.frozen ⟨_, _, _, _, _, _, hsh, fun hh => hne (by have := i6.ok.dist _ _ _ w1 (hh ▸ w2); simpa using this), v1, v2, ⟨i7, i8⟩⟩) (fun v' w' hR => ?_)
  obtain ⟨r1, F', r2, r3, r4, r5⟩ := hR _ _ _ _ _ _ hsh
  obtain ⟨G3, m3, hF3⟩ := clo_to i6.ok hN hne b1 b2 hx1 hx2 r1 r2 r3 r4
  have hend : setEnts ob (k1 :: k2 :: (keysOf vs2 ++ [d])) (setOne e1 y1 :: setOne e2 y2 :: (es1 ++ [ed])) = ((setEnts ob (keysOf vs2) es1).set k1 (setOne e1 y1)).set k2 (setOne e2 y2) := by
    show setEnts ((ob.set k1 _).set k2 _) (keysOf vs2 ++ [d]) (es1 ++ [ed]) = _
    rw [setEnts_last hlen3.symm, setEnts_set k2k, setEnts_set k1k]
    refine set_self ?_
    rw [List.getElem?_set_ne k2d, List.getElem?_set_ne k1d, setEnts_out hdk]
    exact l6
  show next _ _
  exact hn v' w' G3 (hend ▸ (i6.trans m3)) (hend ▸ (rep_av (r5.mono hF3 (fun _ _ => rfl))))
theorem ptr_one {k g g' : Nat} {e : Ent} {x : AV} {v : Value} (hp : PtrOk G ob k g 0 v) (hk : ob[k]? = some e) (hx : oneCel e g = some x) : v = .pointer (some ⟨G.β k, 0, none⟩) := by
  obtain ⟨c, h1, h2, _⟩ := oneCel_at hx
  exact hp.2 e _ hk h1 h2
theorem good_clo {orc : Orc} (horc : OrcOk P orc) (h : MOk N G ob w) (hN : ∀ b, w.heap.size ≤ b → N b) {a : Act} {c : Call} {fo : Operand} {d : Nat} (ho : o.op = .call c) (hc : c.callee = .value fo) (hd : o.dst = some d) {tm : List AV} (hav : ∀ y, AVOk G ob w (opnd tm y) (a.eval y)) {vs : List AV} (hvs : vs = opnd tm fo :: c.args.toList.map (opnd tm)) {kk : Nat × Nat} (hclo : cloOf vs = some kk) {es : List Ent} (hes : EntsOf ob (kk.1 :: kk.2 :: (keysOf vs ++ [d])) es) (hnd : nodupB (kk.1 :: kk.2 :: (keysOf vs ++ [d])) = true)
    (he : effClo T orc c.argTypes.toList o.dst vs es = some (true, av, es')) : es'.length = es.length ∧ Fine P N a o G ob w (setEnts ob (kk.1 :: kk.2 :: (keysOf vs ++ [d])) es') av := by
  unfold effClo at he
  split at he
  · rename_i f k1 g1 k2 g2 args d' e1 e2 es2 hd2
    obtain rfl : (k1, k2) = kk := Option.some.inj hclo
    simp only [List.cons.injEq] at hvs
    obtain ⟨hf1, hargs⟩ := hvs
    split at he
    · rename_i ed hlast
      obtain ⟨x1, hx1, he⟩ := Option.bind_eq_some_iff.1 he
      obtain ⟨x2, hx2, he⟩ := Option.bind_eq_some_iff.1 he
      obtain ⟨⟨r, es1⟩, q1, he⟩ := Option.bind_eq_some_iff.1 he
      simp only at he
      split at he
      · rename_i ok y1 y2 v hov
        simp only [Option.some.injEq, Prod.mk.injEq, Bool.and_eq_true] at he
        obtain ⟨⟨rfl, _⟩, rfl, rfl⟩ := he
        have hfo := hav fo
        rw [← hf1] at hfo
        obtain ⟨v1, v2, hfv, p1, p2⟩ := hfo
        have hk1 := (ents_cons hes).1
        have hk2 := (ents_cons (ents_cons hes).2).1
        have e1v := ptr_one (g' := 0) p1 hk1 hx1
        have e2v := ptr_one (g' := 0) p2 hk2 hx2
        refine clo_core (vs2 := args) (us2 := c.args.toList.map a.eval) horc h hN ho hc hfv (by rw [hargs]; simp) (fun i x u z1 z2 => ?_) hes hnd hlast hx1 hx2 q1 (.inl ⟨rfl, ?_⟩) hov
        · rw [hargs, List.getElem?_map] at z1
          rw [List.getElem?_map] at z2
          obtain ⟨p, i1, i2⟩ := Option.map_eq_some_iff.1 z1
          rw [i1] at z2
          cases z2
          rw [← i2]
          exact hav p
        · rw [e1v, e2v, Array.toList_map]
      · cases he
    · cases he
  · rename_i f cap args d' e1 e2 es2 hd2
    simp only [List.cons.injEq] at hvs
    obtain ⟨hf1, hargs⟩ := hvs
    split at he
    · rename_i h' k1 g1 k2 g2 ed hl hlast
      cases hcap : cap.isEmpty with
      | false => rw [hcap] at he; cases he
      | true =>
      rw [hcap, cond_true] at he
      obtain rfl := List.isEmpty_iff.1 hcap
      obtain ⟨x1, hx1, he⟩ := Option.bind_eq_some_iff.1 he
      obtain ⟨x2, hx2, he⟩ := Option.bind_eq_some_iff.1 he
      obtain ⟨⟨r, es1⟩, q1, he⟩ := Option.bind_eq_some_iff.1 he
      simp only at he
      split at he
      · rename_i ok y1 y2 v hov
        simp only [Option.some.injEq, Prod.mk.injEq, Bool.and_eq_true] at he
        obtain ⟨⟨rfl, _⟩, rfl, rfl⟩ := he
        have hsplit : args = args.dropLast ++ [.clo h' k1 g1 k2 g2] := by
          obtain ⟨ys, hys⟩ := List.getLast?_eq_some_iff.1 hl
          rw [hys, List.dropLast_concat]
        have hnc := hand_noclo q1
        obtain rfl : (k1, k2) = kk := by
          have hclo : cloOf args = some kk := hclo
          rw [hsplit, clo_last hnc] at hclo
          exact Option.some.inj hclo
        have hkeys : keysOf (AV.fn f [] :: args) = keysOf args.dropLast := by
          show keysOf args = _
          rw [hsplit, keys_clo, ← hsplit]
        rw [hkeys] at hes hnd ⊢
        have hfo := hav fo
        rw [← hf1] at hfo
        have hfo : Rep G.F w (.fn f []) (a.eval fo) := hfo
        have hfv : a.eval fo = .func (.func f) #[] #[] := by
          generalize a.eval fo = v at hfo
          cases hfo with
          | fn _ _ vs hl h => rw [Array.eq_empty_of_size_eq_zero hl.symm]
        have hne : c.args.toList ≠ [] := by
          intro hh
          rw [hh] at hargs
          rw [hargs] at hl
          cases hl
        have hca : c.args.toList = c.args.toList.dropLast ++ [c.args.toList.getLast hne] := (List.dropLast_concat_getLast hne).symm
        have hmap : args.dropLast = c.args.toList.dropLast.map (opnd tm) ∧ AV.clo h' k1 g1 k2 g2 = opnd tm (c.args.toList.getLast hne) := by
          have h1 := hargs
          rw [hca, List.map_append, hsplit] at h1
          have h2 := List.append_inj' h1 rfl
          exact ⟨by simpa using h2.1, by simpa using h2.2⟩
        have hlv := hav (c.args.toList.getLast hne)
        rw [← hmap.2] at hlv
        obtain ⟨v1, v2, hfv2, p1, p2⟩ := hlv
        have hk1 := (ents_cons hes).1
        have hk2 := (ents_cons (ents_cons hes).2).1
        have e1v := ptr_one (g' := 0) p1 hk1 hx1
        have e2v := ptr_one (g' := 0) p2 hk2 hx2
        refine clo_core (vs2 := args.dropLast) (us2 := c.args.toList.dropLast.map a.eval) horc h hN ho hc hfv (by rw [hmap.1]; simp) (fun i x u z1 z2 => ?_) hes hnd hlast hx1 hx2 q1 (.inr ⟨h', rfl, ?_⟩) hov
        · rw [hmap.1, List.getElem?_map] at z1
          rw [List.getElem?_map] at z2
          obtain ⟨p, i1, i2⟩ := Option.map_eq_some_iff.1 z1
          rw [i1] at z2
          cases z2
          rw [← i2]
          exact hav p
        · rw [Array.toList_map, ← e1v, ← e2v, ← hfv2]
          have h1 : c.args.toList.map a.eval = c.args.toList.dropLast.map a.eval ++ [a.eval (c.args.toList.getLast hne)] := by
            conv => lhs; rw [hca]
            rw [List.map_append]; rfl
          simpa using h1
      · cases he
    · cases he
  · cases he
theorem good_makeMap {ρ : Operand → Value} (hT : tblOk P T = true) (h : MOk N G ob w) (hN : ∀ b, w.heap.size ≤ b → N b) {t d : Nat} (ho : o.op = .makeMap t none) (hd : o.dst = some d) {es : List Ent} (hes : EntsOf ob [d] es) (he : effMakeMap T t (some d) es = some (true, av, es')) :
    ∃ e', es' = [e'] ∧ Good P N ρ o G ob w (ob.set d e') av := by
  unfold effMakeMap at he
  split at he
  · rename_i d' ed hty hdd
    cases hdd
    cases he
    obtain ⟨k, e, h1, h2, h3, _⟩ := ty_smap hT hty
    refine ⟨_, rfl, good_row h hN (ents_one hes) (.smap []) (.map (some w.heap.size)) (alloc_to w _) (fun b hb => Below.heap_alloc w _ b hb) (.inr ⟨[], w.heap.size, rfl, rfl, (KV.iff h2 h3).2 (MapIs.made w)⟩) (fun b hb => ?_) ?_⟩
    · cases hb
      exact ⟨Nat.le_refl _, by simp⟩
    · simp [execOp, ho, Instr.makeMap, run_newObj_alloc, Result.andThen]
  · cases he
theorem own_map {F : Nat → Prop} {l : SMap} {v : Value} (h : Own F w (.smap l) v) : ∃ b, v = .map (some b) ∧ KV w b l := by
  rcases h with ⟨h, _⟩ | ⟨l', b, h1, h2, h3⟩
  · cases h
  · cases h1
    exact ⟨b, h2, h3⟩
theorem good_lookup {ρ : Operand → Value} (hT : tblOk P T = true) (h : MOk N G ob w) {t : Nat} {x y : Operand} {ok : Bool} (ho : o.op = .lookup t x y ok) {ax ay : AV} (hx : AVOk G ob w ax (ρ x)) (hy : AVOk G ob w ay (ρ y)) {es : List Ent} (hes : EntsOf ob (keysOf [ax, ay]) es) (he : effLookup T t ok [ax, ay] es = some (true, av, es')) :
    es' = es ∧ Good P N ρ o G ob w ob av := by
  unfold effLookup at he
  split at he
  · rename_i k j g s e hty hvs
    cases hvs
    obtain ⟨c, hc, he⟩ := Option.bind_eq_some_iff.1 he
    cases hown : c.own with
    | false => rw [hown] at he; cases he
    | true =>
      rw [hown, cond_true] at he
      split at he
      · rename_i l hl
        simp only [Option.some.injEq, Prod.mk.injEq, decide_eq_true_eq] at he
        obtain ⟨hs, rfl, rfl⟩ := he
        have hk : ob[k]? = some e := hes.2 0 k e rfl rfl
        obtain ⟨c1, c2⟩ := celAt_some hc
        have hv : ρ x = G.ν k j := hx.2.2 e c hk c1 c2
        have hO := (h.cel k e j c hk c1).1
        unfold CelOk at hO
        rw [if_pos hown, hl] at hO
        obtain ⟨b, hb, hkv⟩ := own_map hO
        obtain ⟨kt, et, h1, h2, h3, ⟨i4, h4, h5⟩, _⟩ := ty_smap hT hty
        have hrun := MapIs.look ((KV.iff h2 h3).1 hkv) h1 h2 h3 (run_zeroValue' h4 h5) (s := s) (by simp only [maxLen]; omega)
        refine ⟨rfl, .same h (v := .tuple #[.int .i64 ((look l s).getD 0), .bool (look l s).isSome]) ?_ ?_⟩
        · simp only [execOp, ho, hv, hb, av_str hy]
          simp [hrun]
        · exact Rep.tup _ _ rfl (fun i a v h1 h2 => by
            cases i with
            | zero => cases h1; cases h2; exact .int _ _
            | succ i => cases i with
              | zero => cases h1; cases h2; exact .bool _
              | succ i => cases h1)
      · cases he
  · cases he
theorem good_mapPut {ρ : Operand → Value} (hT : tblOk P T = true) (h : MOk N G ob w) {t : Nat} {x y z : Operand} (ho : o.op = .mapUpdate t x y z) {ax ay az : AV} (hx : AVOk G ob w ax (ρ x)) (hy : AVOk G ob w ay (ρ y)) (hz : AVOk G ob w az (ρ z)) {es : List Ent} (hes : EntsOf ob (keysOf [ax, ay, az]) es) (he : effMapPut T t [ax, ay, az] es = some (true, av, es')) :
    es'.length = es.length ∧ Good P N ρ o G ob w (setEnts ob (keysOf [ax, ay, az]) es') av := by
  unfold effMapPut at he
  split at he
  · rename_i k j g s n e hty hvs
    cases hvs
    obtain ⟨c, hc, he⟩ := Option.bind_eq_some_iff.1 he
    cases hown : c.own with
    | false => rw [hown] at he; cases he
    | true =>
      rw [hown, cond_true] at he
      split at he
      · rename_i l hl
        simp only [Option.some.injEq, Prod.mk.injEq, Bool.and_eq_true, decide_eq_true_eq] at he
        obtain ⟨⟨⟨hs, hll⟩, hn⟩, rfl, rfl⟩ := he
        have hk : ob[k]? = some e := hes.2 0 k e rfl rfl
        obtain ⟨c1, c2⟩ := celAt_some hc
        have hv : ρ x = G.ν k j := hx.2.2 e c hk c1 c2
        have hO := (h.cel k e j c hk c1).1
        unfold CelOk at hO
        rw [if_pos hown, hl] at hO
        obtain ⟨b, hb, hkv⟩ := own_map hO
        obtain ⟨kt, et, h1, h2, h3, _⟩ := ty_smap hT hty
        obtain ⟨w', hrun, hm, hg, hsame⟩ := MapIs.put ((KV.iff h2 h3).1 hkv) h1 h2 h3 (by simp only [maxLen]; omega) (s := s) (by simp only [maxLen]; omega) hn
        have hblk : (G.ν k j).oblk = some b := by rw [hb]; rfl
        have hbB := (h.bnd _ b (blkS hk c1 hown hblk))
        have m := MTo.cell (G' := G) (w' := w') h hk c1 true (.smap ((s, n) :: l)) ⟨hg.os, hg.tape, hg.output, hg.size, fun q hq hnq => hsame q (fun hqb => hnq (hqb ▸ hbB.2.2))⟩ rfl rfl (fun _ h => h) (fun _ h => .inl h) (fun q => by
          by_cases hqb : q = b
          · exact .inr ⟨hown, hqb ▸ hblk, rfl⟩
          · exact .inl (hsame q hqb)) (fun _ => ⟨hown, by rw [hl]; rfl, by rw [hl]; rfl⟩) (by
          unfold CelOk
          rw [if_pos rfl]
          exact .inr ⟨_, b, rfl, hb, (KV.iff h2 h3).2 hm⟩)
        refine ⟨rfl, ?_⟩
        show Good P N ρ o G ob w (setEnts ob [k] [setCel e j ⟨c.g, true, .smap ((s, n) :: l)⟩]) .top
        rw [setEnts_one]
        refine ⟨undef, w', G, .inr ⟨?_, rfl⟩, m, Rep.top _⟩
        simp only [execOp, ho, hv, hb, av_str hy, av_int hz]
        simp [hrun]
      · cases he
  · cases he
end
end Go.Abs
end
section
/- An abstract machine for the model's code, part R: steps. -/
namespace Go.Abs
open Go.RowKit
/-- An abstract state stands for one of the model's. -/
structure Holds (G : Gh) (S : St) (a : Act) (w : World) : Prop where
  len : S.tm.length = a.tmps.size
  defers : a.defers = []
  at_ : ∀ (i : Nat) (x : AV) (v : Value), S.tm[i]? = some x → a.tmps[i]? = some v → AVOk G S.ob w x v
theorem top_ok' {G : Gh} {ob : List Ent} {w : World} {v : Value} : AVOk G ob w .top v := Rep.top v
theorem ofVal1_rep {F : Nat → Prop} {w : World} (v : Value) : Rep F w (ofVal1 v) v := by
  unfold ofVal1
  split
  · exact .int _ _
  · exact .bool _
  · exact .str _
  · exact .nil
  · exact .top _
theorem ofVal_rep {F : Nat → Prop} {w : World} (v : Value) : Rep F w (ofVal v) v := by
  unfold ofVal
  split
  · rename_i cs
    cases hb : cs.toList.all simpleV with
    | false => exact .top _
    | true =>
      refine .agg _ cs (by simp) (fun v hv => ?_) (fun i x v h1 h2 => ?_)
      · have := List.all_eq_true.1 hb v (by simpa using hv)
        unfold simpleV at this
        split at this <;> first | rfl | cases this
      · rw [List.getElem?_map] at h1
        rw [← Array.getElem?_toList] at h2
        rw [h2] at h1
        cases h1
        exact ofVal1_rep v
  · exact ofVal1_rep _
theorem Holds.opnd {G : Gh} {S : St} {a : Act} {w : World} (h : Holds G S a w) (y : Operand) : AVOk G S.ob w (Abs.opnd S.tm y) (a.eval y) := by
  cases y with
  | tmp t =>
    show AVOk G S.ob w (S.tm.getD t .top) (a.tmps.getD t undef)
    by_cases ht : t < S.tm.length
    · rw [getD_at ht, Array.getD_eq_getD_getElem?, Array.getElem?_eq_getElem (by rw [← h.len]; exact ht)]
      exact h.at_ t _ _ (List.getElem?_eq_getElem ht) (Array.getElem?_eq_getElem (by rw [← h.len]; exact ht))
    · rw [List.getD_eq_getElem?_getD, List.getElem?_eq_none (Nat.le_of_not_lt ht)]
      exact top_ok'
  | const v =>
    have := ofVal_rep (F := G.F) (w := w) v
    exact rep_av this
  | global g => exact top_ok'
  | func f => exact Rep.fn f [] #[] rfl (fun i a v h => by simp at h)
section
variable {P : Program} {T : Tbl} {orc : Orc} {N : Nat → Prop} {o : Oper} {G : Gh} {S : St} {w : World} {av : AV} {es' : List Ent} {a : Act}
theorem ents_at {ks : List Nat} (h : (ks.all fun k => Nat.blt k S.ob.length) = true) : EntsOf S.ob ks (ks.map (entAt S.ob)) := by
  refine ⟨by simp, fun i k e h1 h2 => ?_⟩
  rw [List.getElem?_map, h1] at h2
  cases h2
  have hlt : k < S.ob.length := by
    have := List.all_eq_true.1 h k (List.mem_of_getElem? h1)
    simpa using this
  unfold entAt
  rw [getD_at hlt]
  exact List.getElem?_eq_getElem hlt
/-- One operation of the abstract machine is one of the model's. -/
theorem eff_ok (hT : tblOk P T = true) (horc : OrcOk P orc) (h : MOk N G S.ob w) (hN : ∀ b, w.heap.size ≤ b → N b) (hs : Holds G S a w) {ks : List Nat} (hks : acc o (o.op.operands.toList.map (Abs.opnd S.tm)) = ks) (hnd : nodupB ks = true) (hin : (ks.all fun k => Nat.blt k S.ob.length) = true) (hdst : dstOk o = true)
    (he : eff T orc o (o.op.operands.toList.map (Abs.opnd S.tm)) (ks.map (entAt S.ob)) = some (true, av, es')) : es'.length = ks.length ∧ Fine P N a o G S.ob w (setEnts S.ob ks es') av := by
  have hes := ents_at hin
  have hel : (ks.map (entAt S.ob)).length = ks.length := by simp
  generalize (ks.map (entAt S.ob)) = es at he hes hel
  have av_ := hs.opnd
  have nothing : es' = [] → ks = [] → Good P N a.eval o G S.ob w S.ob av → es'.length = ks.length ∧ Fine P N a o G S.ob w (setEnts S.ob ks es') av := by
    rintro rfl rfl h1
    exact ⟨rfl, h1.fine⟩
  have same : es' = es → Good P N a.eval o G S.ob w S.ob av → es'.length = ks.length ∧ Fine P N a o G S.ob w (setEnts S.ob ks es') av := by
    rintro rfl h1
    rw [setEnts_self hes]
    exact ⟨hel, h1.fine⟩
  have goes : es'.length = es.length ∧ Good P N a.eval o G S.ob w (setEnts S.ob ks es') av → es'.length = ks.length ∧ Fine P N a o G S.ob w (setEnts S.ob ks es') av := fun h1 => ⟨h1.1.trans hel, h1.2.fine⟩
  cases hop : o.op with
  | move x =>
    simp only [eff, acc, hop, Op.operands] at he hks
    obtain ⟨h1, h2⟩ : es' = [] ∧ av = Abs.opnd S.tm x := by simpa [and_comm, eq_comm] using he
    exact nothing h1 hks.symm (h2 ▸ Good.same h (by simp [execOp, hop]) (av_ x))
  | assign x =>
    cases hd : o.dst with
    | none => simp [dstOk, hop, hd] at hdst
    | some d =>
      simp only [eff, acc, hop, hd, Op.operands] at he hks
      have hks : keysOf [Abs.opnd S.tm x] ++ [d] = ks := hks
      subst hks
      exact goes (good_assign hT h hop hd (av_ x) hes hnd (by rw [hd]; exact he))
  | pick c x y =>
    simp only [eff, acc, hop, Op.operands] at he hks
    obtain ⟨h1, h2⟩ := good_pick (P := P) (N := N) h hop (av_ c) (av_ x) (av_ y) he
    exact nothing h1 hks.symm h2
  | alloc t =>
    simp only [eff, acc, hop, Op.operands] at he hks
    cases hd : o.dst with
    | none => rw [hd] at he; simp [effNew] at he
    | some d =>
      have hks : [d] = ks := by rw [hd] at hks; exact hks
      subst hks
      obtain ⟨ed, rfl⟩ : ∃ ed, es = [ed] := by
        cases es with
        | nil => simp at hel
        | cons ed es => cases es with
          | nil => exact ⟨ed, rfl⟩
          | cons _ _ => simp at hel
      obtain ⟨e', rfl, h2⟩ := good_alloc (P := P) (ρ := a.eval) hT h hN hop hd (ents_one hes) he
      exact ⟨rfl, by rw [setEnts_one]; exact h2.fine⟩
  | box t x =>
    simp only [eff, acc, hop, Op.operands] at he hks
    cases hd : o.dst with
    | none => rw [hd] at he; simp [effNew] at he
    | some d =>
      have hks : keysOf [Abs.opnd S.tm x] ++ [d] = ks := by rw [hd] at hks; exact hks
      subst hks
      exact goes (good_box hT h hN hop hd (av_ x) hes he)
  | build t parts =>
    simp only [eff, acc, hop, Op.operands] at he hks
    have hvs : ((parts.toList.map (·.2)).toArray.toList.map (Abs.opnd S.tm)) = parts.toList.map fun p => Abs.opnd S.tm p.2 := by simp
    rw [hvs] at he hks
    subst hks
    exact goes (good_build hT h hop av_ rfl hes hnd he)
  | buildSlice t n parts =>
    simp only [eff, acc, hop, Op.operands] at he hks
    cases hd : o.dst with
    | none => rw [hd] at he; simp [effSliceLit] at he
    | some d =>
      have hvs : ((parts.toList.map (·.2)).toArray.toList.map (Abs.opnd S.tm)) = parts.toList.map fun p => Abs.opnd S.tm p.2 := by simp
      rw [hvs] at he hks
      have hks : keysOf (parts.toList.map fun p => Abs.opnd S.tm p.2) ++ [d] = ks := by rw [hd] at hks; exact hks
      subst hks
      exact goes (good_sliceLit hT h hN hop hd av_ rfl hes he)
  | load t x =>
    simp only [eff, acc, hop, Op.operands] at he hks
    have hks : keysOf [Abs.opnd S.tm x] = ks := hks
    subst hks
    exact goes (good_load hT h hop (av_ x) hes he)
  | store t x y =>
    simp only [eff, acc, hop, Op.operands] at he hks
    have hks : keysOf [Abs.opnd S.tm x, Abs.opnd S.tm y] = ks := hks
    subst hks
    exact goes (good_store hT h hop (av_ x) (av_ y) hes hnd he)
  | nilCheck x =>
    simp only [eff, acc, hop, Op.operands] at he hks
    have hks : keysOf [Abs.opnd S.tm x] = ks := hks
    subst hks
    obtain ⟨h1, h2⟩ := good_nilCheck (P := P) (N := N) h hop (av_ x) hes he
    exact same h1 h2
  | binOp op ty x y ty' =>
    simp only [eff, acc, hop, Op.operands] at he hks
    obtain ⟨h1, h2⟩ := good_bin (P := P) (N := N) hT h hop (av_ x) (av_ y) he
    exact nothing h1 hks.symm h2
  | unOp op ty x =>
    simp only [eff, acc, hop, Op.operands] at he hks
    obtain ⟨h1, h2⟩ := good_un (P := P) (N := N) h hop (av_ x) he
    exact nothing h1 hks.symm h2
  | convert s t x =>
    cases hd : o.dst with
    | none => simp [dstOk, hop, hd] at hdst
    | some d =>
      simp only [eff, acc, hop, Op.operands] at he hks
      have hks : keysOf [Abs.opnd S.tm x] ++ [d] = ks := by rw [hd] at hks; exact hks
      subst hks
      exact goes (good_convert hT h hN hop hd (av_ x) hes he)
  | makeSlice t x y =>
    simp only [eff, acc, hop, Op.operands] at he hks
    have he : effMake T t o.dst [Abs.opnd S.tm x, Abs.opnd S.tm y] es = some (true, av, es') := he
    cases hd : o.dst with
    | none => rw [hd] at he; unfold effMake at he; split at he <;> first | (cases he; done) | (rename_i h1 _; cases h1)
    | some d =>
      have hks : keysOf [Abs.opnd S.tm x, Abs.opnd S.tm y] ++ [d] = ks := by rw [hd] at hks; exact hks
      subst hks
      obtain ⟨ed, rfl⟩ : ∃ ed, es = [ed] := by
        unfold effMake at he
        split at he
        · exact ⟨_, rfl⟩
        · cases he
      have hk0 : keysOf [Abs.opnd S.tm x, Abs.opnd S.tm y] = [] := List.eq_nil_of_length_eq_zero (by simpa using hel)
      rw [hk0] at hes ⊢
      obtain ⟨e', rfl, h2⟩ := good_make (P := P) (ρ := a.eval) hT h hN hop hd (av_ x) (av_ y) (ents_one hes) he
      exact ⟨rfl, by show Fine P N a o G S.ob w (setEnts S.ob [d] [e']) av; rw [setEnts_one]; exact h2.fine⟩
  | slice t x lo hi mx =>
    cases hd : o.dst with
    | none => simp [dstOk, hop, hd] at hdst
    | some d =>
      simp only [eff, acc, hop, Op.operands] at he hks
      cases mx with
      | some m => cases he
      | none =>
        have hl : (#[x] ++ lo.toArray ++ hi.toArray ++ (none : Option Operand).toArray).toList.map (Abs.opnd S.tm) = Abs.opnd S.tm x :: (lo.toList ++ hi.toList).map (Abs.opnd S.tm) := by
          cases lo <;> cases hi <;> simp
        rw [hl] at he hks
        have hks : keysOf (Abs.opnd S.tm x :: (lo.toList ++ hi.toList).map (Abs.opnd S.tm)) ++ [d] = ks := by rw [hd] at hks; exact hks
        subst hks
        exact goes (good_slice hT h hop hd (fun y _ => av_ y) hes hnd he)
  | fieldAddr t x f =>
    simp only [eff, acc, hop, Op.operands] at he hks
    have hks : keysFA [Abs.opnd S.tm x] = ks := hks
    subst hks
    obtain ⟨h1, h2⟩ := good_fieldAddr (P := P) (N := N) hT h hop (av_ x) hes he
    exact same h1 h2
  | field t x f =>
    simp only [eff, acc, hop, Op.operands] at he hks
    obtain ⟨h1, h2⟩ := good_field (P := P) (N := N) hT h hop (av_ x) he
    exact nothing h1 hks.symm h2
  | indexAddr t x y =>
    simp only [eff, acc, hop, Op.operands] at he hks
    have hks : keysOf [Abs.opnd S.tm x, Abs.opnd S.tm y] = ks := hks
    subst hks
    obtain ⟨h1, h2⟩ := good_indexAddr (P := P) (N := N) hT h hop (av_ x) (av_ y) hes he
    exact same h1 h2
  | index t x y =>
    simp only [eff, acc, hop, Op.operands] at he hks
    obtain ⟨h1, h2⟩ := good_index (P := P) (N := N) hT h hop (av_ x) (av_ y) he
    exact nothing h1 hks.symm h2
  | makeFunc f first captured =>
    simp only [eff, acc, hop, Op.operands] at he hks
    obtain ⟨h1, h2⟩ := good_makeFunc (P := P) (N := N) h hop av_ (by simpa using he)
    exact nothing h1 hks.symm h2
  | makeMap t r =>
    cases r with
    | some r => simp [eff, hop] at he
    | none =>
      cases hd : o.dst with
      | none => simp [eff, hop, hd, effMakeMap] at he
      | some d =>
        simp only [eff, acc, hop, Op.operands, hd] at he hks
        have hks : [d] = ks := by simpa [keysOf] using hks
        subst hks
        obtain ⟨e', rfl, h2⟩ := good_makeMap (P := P) (ρ := a.eval) hT h hN hop hd hes he
        exact ⟨rfl, by rw [setEnts_one]; exact h2.fine⟩
  | lookup t x y ok =>
    simp only [eff, acc, hop, Op.operands] at he hks
    have hks : keysOf [Abs.opnd S.tm x, Abs.opnd S.tm y] = ks := by simpa using hks
    subst hks
    obtain ⟨h1, h2⟩ := good_lookup (P := P) (N := N) hT h hop (av_ x) (av_ y) hes (by simpa using he)
    exact same h1 h2
  | mapUpdate t x y z =>
    simp only [eff, acc, hop, Op.operands] at he hks
    have hks : keysOf [Abs.opnd S.tm x, Abs.opnd S.tm y, Abs.opnd S.tm z] = ks := by simpa using hks
    subst hks
    exact goes (good_mapPut (P := P) (N := N) hT h hop (av_ x) (av_ y) (av_ z) hes (by simpa using he))
  | extract x i =>
    simp only [eff, acc, hop, Op.operands] at he hks
    obtain ⟨h1, h2⟩ := good_extract (P := P) (N := N) h hop (av_ x) he
    exact nothing h1 hks.symm h2
  | call c =>
    obtain ⟨callee, args, argTypes⟩ := c
    cases callee with
    | value fo =>
      simp only [eff, acc, hop, Op.operands, Call.operands] at he hks
      cases hd : o.dst with
      | none =>
        rw [hd] at he
        cases hclo : cloOf ((#[fo] ++ args).toList.map (Abs.opnd S.tm)) with
        | some kk => rw [hclo] at he; exact absurd he effClo_none
        | none =>
        rw [hclo] at he
        simp only at he
        cases hb : nodupK (keysOf ((#[fo] ++ args).toList.map (Abs.opnd S.tm)) ++ (none : Option Tmp).toList) with
        | true =>
          rw [hb, cond_true] at he
          generalize Nat.beq (kindCall orc _) 2 = b2 at he
          generalize Nat.beq (kindCall orc _) 3 = b3 at he
          cases b2 with
          | true => rw [cond_true] at he; unfold effUpd at he; split at he <;> first | (cases he; done) | (rename_i h1 _; cases h1)
          | false =>
            rw [cond_false] at he
            cases b3 with
            | true => rw [cond_true] at he; unfold effTook at he; split at he <;> first | (cases he; done) | (rename_i h1 _; cases h1)
            | false => rw [cond_false] at he; unfold effCall at he; split at he <;> first | (cases he; done) | (rename_i h1 _; cases h1)
        | false =>
          rw [hb, cond_false] at he
          unfold effTwice at he
          split at he
          · obtain ⟨⟨v, e'⟩, _, he⟩ := Option.bind_eq_some_iff.1 he
            simp only at he
            generalize (headIs _ _ && _) = b at he
            cases b with
            | false => cases he
            | true =>
              simp only [cond_true] at he
              split at he
              · rename_i hcall
                unfold effCall at hcall; split at hcall <;> first | (cases hcall; done) | (rename_i h1 _; cases h1)
              · cases he
          · cases he
      | some d =>
        have hvs : (#[fo] ++ args).toList.map (Abs.opnd S.tm) = Abs.opnd S.tm fo :: args.toList.map (Abs.opnd S.tm) := by simp
        rw [hvs] at he hks
        rw [hd] at hks
        cases hclo : cloOf (Abs.opnd S.tm fo :: args.toList.map (Abs.opnd S.tm)) with
        | some kk =>
          rw [hclo] at he hks
          have hks : kk.1 :: kk.2 :: (keysOf (Abs.opnd S.tm fo :: args.toList.map (Abs.opnd S.tm)) ++ [d]) = ks := hks
          subst hks
          obtain ⟨h1, h2⟩ := good_clo horc h hN hop rfl hd av_ rfl hclo hes hnd (by rw [hd] at he ⊢; exact he)
          exact ⟨h1.trans hel, h2⟩
        | none =>
        rw [hclo] at he hks
        simp only at he hks
        cases hb : nodupK (keysOf (Abs.opnd S.tm fo :: args.toList.map (Abs.opnd S.tm)) ++ (some d).toList) with
        | true =>
          rw [hd, hb, cond_true] at he
          rw [hb, cond_true] at hks
          have hks : keysOf (Abs.opnd S.tm fo :: args.toList.map (Abs.opnd S.tm)) ++ [d] = ks := hks
          subst hks
          generalize Nat.beq (kindCall orc _) 2 = b2 at he
          generalize Nat.beq (kindCall orc _) 3 = b3 at he
          cases b2 with
          | true =>
            rw [cond_true] at he
            obtain ⟨h1, h2⟩ := good_upd horc h hN hop rfl hd av_ rfl hes hnd (by rw [hd]; exact he)
            exact ⟨h1.trans hel, h2⟩
          | false =>
            rw [cond_false] at he
            cases b3 with
            | true =>
              rw [cond_true] at he
              obtain ⟨h1, h2⟩ := good_took horc h hN hop rfl hd av_ rfl hes hnd (by rw [hd]; exact he)
              exact ⟨h1.trans hel, h2⟩
            | false =>
              rw [cond_false] at he
              obtain ⟨h1, h2⟩ := good_call horc h hN hop rfl hd av_ rfl hes hnd (by rw [hd]; exact he)
              exact ⟨h1.trans hel, h2⟩
        | false =>
          rw [hd, hb, cond_false] at he
          rw [hb, cond_false] at hks
          have hks : (keysOf (Abs.opnd S.tm fo :: args.toList.map (Abs.opnd S.tm))).take 1 ++ [d] = ks := hks
          subst hks
          obtain ⟨h1, h2⟩ := good_twice horc h hN hop rfl hd av_ rfl hes hnd (by rw [hd]; exact he)
          exact ⟨h1.trans hel, h2⟩
    | invoke r n => simp [eff, hop] at he
    | builtin b =>
      have hvs : (#[] ++ args).toList.map (Abs.opnd S.tm) = args.toList.map (Abs.opnd S.tm) := by simp
      have one_ : ∀ {β : Type} {l : Array β} {x : β}, l.toList = [x] → l = #[x] := by
        intro β l x hl
        apply Array.ext'
        simpa using hl
      have two_ : ∀ {β : Type} {l : Array β} {x y : β}, l.toList = [x, y] → l = #[x, y] := by
        intro β l x y hl
        apply Array.ext'
        simpa using hl
      have args1 : (∃ v, args.toList.map (Abs.opnd S.tm) = [v]) → ∃ x, args = #[x] := by
        rintro ⟨v, hv⟩
        cases hl : args.toList with
        | nil => rw [hl] at hv; cases hv
        | cons x l => cases l with
          | nil => exact ⟨x, one_ hl⟩
          | cons _ _ => rw [hl] at hv; simp at hv
      have args2 : (∃ v u, args.toList.map (Abs.opnd S.tm) = [v, u]) → ∃ x y, args = #[x, y] := by
        rintro ⟨v, u, hv⟩
        cases hl : args.toList with
        | nil => rw [hl] at hv; cases hv
        | cons x l => cases l with
          | nil => rw [hl] at hv; simp at hv
          | cons y l => cases l with
            | nil => exact ⟨x, y, two_ hl⟩
            | cons _ _ => rw [hl] at hv; simp at hv
      cases b with
      | len =>
        simp only [eff, acc, hop, Op.operands, Call.operands] at he hks
        rw [hvs] at he hks
        split at he
        · rename_i t ht
          obtain ⟨x, rfl⟩ := args1 (by unfold effLen at he; split at he <;> first | exact ⟨_, by assumption⟩ | cases he)
          obtain rfl := one_ ht
          subst hks
          obtain ⟨h1, h2⟩ := good_len (P := P) (N := N) hT h hop (av_ x) (es := es) (by simpa using hes) (by simpa using he)
          exact same h1 h2
        · cases he
      | min =>
        simp only [eff, acc, hop, Op.operands, Call.operands] at he hks
        rw [hvs] at he hks
        obtain ⟨x, y, rfl⟩ := args2 (by unfold effMin at he; split at he <;> first | exact ⟨_, _, by assumption⟩ | cases he)
        subst hks
        obtain ⟨h1, h2⟩ := good_min (P := P) (N := N) h false hop (av_ x) (av_ y) (es := es) (by simpa using he)
        exact same h1 h2
      | max =>
        simp only [eff, acc, hop, Op.operands, Call.operands] at he hks
        rw [hvs] at he hks
        obtain ⟨x, y, rfl⟩ := args2 (by unfold effMin at he; split at he <;> first | exact ⟨_, _, by assumption⟩ | cases he)
        subst hks
        obtain ⟨h1, h2⟩ := good_min (P := P) (N := N) h true hop (av_ x) (av_ y) (es := es) (by simpa using he)
        exact same h1 h2
      | append =>
        simp only [eff, acc, hop, Op.operands, Call.operands] at he hks
        rw [hvs] at he hks
        split at he
        · rename_i t u ht
          obtain ⟨x, y, rfl⟩ := args2 (by unfold effAppend at he; split at he <;> first | exact ⟨_, _, rfl⟩ | exact ⟨_, _, by assumption⟩ | cases he)
          obtain rfl := two_ ht
          cases hd : o.dst with
          | none => rw [hd] at he; unfold effAppend at he; split at he <;> first | (cases he; done) | (rename_i h1; cases h1)
          | some d =>
            have hks : keysOf [Abs.opnd S.tm x, Abs.opnd S.tm y] ++ [d] = ks := by rw [hd] at hks; simpa using hks
            subst hks
            exact goes (good_append hT h hN hop hd (av_ x) (av_ y) hes hnd (by simpa using he))
        · cases he
      | copy =>
        simp only [eff, acc, hop, Op.operands, Call.operands] at he hks
        rw [hvs] at he hks
        split at he
        · rename_i t u ht
          obtain ⟨x, y, rfl⟩ := args2 (by unfold effCopy at he; split at he <;> first | exact ⟨_, _, rfl⟩ | exact ⟨_, _, by assumption⟩ | cases he)
          obtain rfl := two_ ht
          have hks : keysOf [Abs.opnd S.tm x, Abs.opnd S.tm y] = ks := by simpa using hks
          subst hks
          exact goes (good_copy hT h hop (av_ x) (av_ y) hes hnd (by simpa using he))
        · cases he
      | _ => simp [eff, hop] at he
  | _ => simp [eff, hop] at he
end
end Go.Abs
end
section
/- An abstract machine for the model's code, part S: regions. -/
namespace Go.Abs
open Go.RowKit
/-- Is an operation wanted, by its guard? -/
def want (ops : List Oper) (o : Oper) (tm : List AV) : Option Bool :=
  match o.guard with
  | none => some true
  | some (j, b') => match (ops[j]?).bind (·.dst) with
    | some t => match tm.getD t .top with
      | .bool b => some (b == b')
      | .tup [] => some false
      | _ => none
    | none => none
/-- What an operation does. -/
def Did (T : Tbl) (orc : Orc) (ops : List Oper) (o : Oper) (S : St) (ks : List Nat) (v : AV) (es : List Ent) : Prop :=
  (want ops o S.tm = some true ∧ acc o (o.op.operands.toList.map (opnd S.tm)) = ks ∧ nodupB ks = true ∧ (ks.all fun k => Nat.blt k S.ob.length) = true ∧ dstOk o = true ∧ eff T orc o (o.op.operands.toList.map (opnd S.tm)) (ks.map (entAt S.ob)) = some (true, v, es)) ∨
  (want ops o S.tm = some false ∧ ks = [] ∧ v = .tup [] ∧ es = [])
def After (o : Oper) (S : St) (ks : List Nat) (v : AV) (es : List Ent) : St := ⟨setTm S.tm o.dst v, setEnts S.ob ks es⟩
theorem fix_self {tm : List AV} {t : Nat} {b : Bool} (h : tm.getD t .top = .bool b) : tm.set t (.bool b) = tm := by
  rw [List.getD_eq_getElem?_getD] at h
  cases ht : tm[t]? with
  | none => rw [ht] at h; cases h
  | some x =>
    rw [ht] at h
    have h : x = .bool b := h
    subst h
    obtain ⟨h1, h2⟩ := List.getElem?_eq_some_iff.1 ht
    rw [← h2]
    exact List.set_getElem_self h1
theorem fixB_self {tm : List AV} {c : Operand} {b : Bool} (h : opnd tm c = .bool b) : fixB tm c b = tm := by
  cases c with
  | tmp t => exact fix_self h
  | _ => rfl
theorem pick_some {o : Oper} {tm : List AV} {b : Bool} {c x y : Operand} (h : pickOf o tm = some (b, c, x, y)) : o.op = .pick c x y ∧ opnd tm c = .bool b := by
  unfold pickOf at h
  split at h
  · rename_i ho
    split at h
    · rename_i hb
      cases h
      exact ⟨ho, hb⟩
    · cases h
  · cases h
theorem step_did {R : Type} {T : Tbl} {orc : Orc} {ops : List Oper} {o : Oper} {S : St} {K : St → Option R} {r : R} (hw : want ops o S.tm = some true) (h : stepK T orc o S K = some r) : ∃ ks v es, Did T orc ops o S ks v es ∧ K (After o S ks v es) = some r := by
  unfold stepK at h
  split at h
  · rename_i b c x y hp
    obtain ⟨ho, hc⟩ := pick_some hp
    have key : ∀ v, v = (bif b then opnd S.tm x else opnd S.tm y) → Did T orc ops o S [] v [] := by
      intro v hv
      refine .inl ⟨hw, ?_, rfl, rfl, ?_, ?_⟩
      · simp [acc, ho]
      · simp [dstOk, ho]
      · simp [eff, ho, Op.operands, hc, effPick, hv]
    cases b with
    | true =>
      rw [cond_true, fixB_self hc] at h
      exact ⟨[], _, [], key _ rfl, h⟩
    | false =>
      rw [cond_false, fixB_self hc] at h
      exact ⟨[], _, [], key _ rfl, h⟩
  · simp only at h
    generalize hks : acc o (o.op.operands.toList.map (opnd S.tm)) = ks at h
    cases hb : (nodupB ks && ks.all (fun k => Nat.blt k S.ob.length) && dstOk o) with
    | false => rw [hb] at h; cases h
    | true =>
      rw [hb] at h
      simp only [cond_true] at h
      rw [Bool.and_eq_true, Bool.and_eq_true] at hb
      split at h
      · rename_i ok v es heff
        cases ok with
        | false => cases h
        | true => exact ⟨ks, v, es, .inl ⟨hw, hks, hb.1.1, hb.1.2, hb.2, heff⟩, h⟩
      · cases h
theorem oper_did {R : Type} {T : Tbl} {orc : Orc} {ops : List Oper} {o : Oper} {S : St} {K : St → Option R} {r : R} (h : operK T orc ops o S K = some r) : ∃ ks v es, Did T orc ops o S ks v es ∧ K (After o S ks v es) = some r := by
  unfold operK at h
  split at h
  · rename_i hg
    exact step_did (by unfold want; rw [hg]) h
  · rename_i j b' hg
    split at h
    · rename_i t ht
      split at h
      · rename_i b hb
        have key : guardK T orc o b' S b K = some r → ∃ ks v es, Did T orc ops o S ks v es ∧ K (After o S ks v es) = some r := by
          intro h
          unfold guardK at h
          cases hbb : (b == b') with
          | true =>
            rw [hbb] at h
            exact step_did (by unfold want; rw [hg]; simp only [ht, hb, hbb]) h
          | false =>
            rw [hbb] at h
            exact ⟨[], .tup [], [], .inr ⟨by unfold want; rw [hg]; simp only [ht, hb, hbb], rfl, rfl, rfl⟩, h⟩
        have hfix := fix_self hb
        cases b with
        | true =>
          rw [cond_true, hfix] at h
          exact key h
        | false =>
          rw [cond_false, hfix] at h
          exact key h
      · rename_i hb
        refine ⟨[], .tup [], [], .inr ⟨by unfold want; rw [hg]; simp only [ht, hb], rfl, rfl, rfl⟩, h⟩
      · cases h
    · cases h
/-- The abstract state stands for the model's, in a call that began at w0. -/
structure Call0 where
  N : Nat → Prop
  F : Nat → Prop
  w : World
  fix : List (Nat × Value)
structure Sim (c : Call0) (S : St) (a : Act) (w : World) : Prop where
  ex : ∃ G, MOk c.N G S.ob w ∧ Holds G S a w ∧ (∀ k, c.F k → G.F k) ∧ (∀ k, G.F k → c.F k ∨ c.N k)
  to : WTo c.N c.w w
  fix : ∀ p ∈ c.fix, a.tmps[p.1]? = some p.2
structure Call0.Ok (c : Call0) : Prop where
  new : ∀ b, c.w.heap.size ≤ b → c.N b
  old : ∀ k, c.F k → k < c.w.heap.size ∧ ¬ c.N k
theorem setTm_length (tm : List AV) (d : Option Tmp) (v : AV) : (setTm tm d v).length = tm.length := by
  cases d <;> simp [setTm]
theorem put_size (a : Act) (d : Option Tmp) (v : Value) : (a.put d v).tmps.size = a.tmps.size ∧ (a.put d v).defers = a.defers := by
  cases d <;> simp [Act.put]
theorem Holds.put {G : Gh} {S : St} {a : Act} {w : World} (h : Holds G S a w) {d : Option Tmp} {v : AV} {u : Value} (hv : AVOk G S.ob w v u) : Holds G ⟨setTm S.tm d v, S.ob⟩ (a.put d u) w := by
  refine ⟨by rw [setTm_length, (put_size a d u).1]; exact h.len, (put_size a d u).2.trans h.defers, fun i x y h1 h2 => ?_⟩
  cases d with
  | none => exact h.at_ i x y h1 h2
  | some d =>
    simp only [setTm, Act.put] at h1 h2
    by_cases hi : d = i
    · subst hi
      have hlt := (List.getElem?_eq_some_iff.1 h1).1
      rw [List.length_set] at hlt
      rw [List.getElem?_set_self hlt] at h1
      rw [Array.getElem?_setIfInBounds_self_of_lt (by rw [← h.len]; exact hlt)] at h2
      cases h1
      cases h2
      exact hv
    · rw [List.getElem?_set_ne hi] at h1
      rw [Array.getElem?_setIfInBounds_ne hi] at h2
      exact h.at_ i x y h1 h2
theorem Holds.to {N : Nat → Prop} {G G' : Gh} {S : St} {ob' : List Ent} {a : Act} {w w' : World} (h : Holds G S a w) (m : MTo N G S.ob w G' ob' w') : Holds G' ⟨S.tm, ob'⟩ a w' :=
  ⟨h.len, h.defers, fun i x v h1 h2 => (h.at_ i x v h1 h2).to m⟩
section
variable {P : Program} {T : Tbl} {orc : Orc} {c : Call0} {S : St} {w : World} {a : Act}
theorem Sim.wanted {G : Gh} (h : Holds G S a w) {ops : Array Oper} {o : Oper} {b : Bool} (hw : want ops.toList o S.tm = some b) : Region.wanted o (yielded ops a.tmps) = b := by
  unfold want at hw
  unfold Region.wanted
  cases hg : o.guard with
  | none => rw [hg] at hw; cases hw; rfl
  | some p =>
    obtain ⟨j, b'⟩ := p
    rw [hg] at hw
    simp only at hw ⊢
    split at hw
    · rename_i t ht
      have ht2 : (ops[j]?).bind (·.dst) = some t := by simpa using ht
      unfold yielded
      rw [ht2]
      simp only [Option.bind_some]
      by_cases hlt : t < S.tm.length
      · have hlt2 : t < a.tmps.size := by rw [← h.len]; exact hlt
        have hat := h.at_ t S.tm[t] a.tmps[t] (List.getElem?_eq_getElem hlt) (Array.getElem?_eq_getElem hlt2)
        rw [getD_at hlt] at hw
        rw [Array.getElem?_eq_getElem hlt2]
        split at hw
        · rename_i b0 hb0
          rw [hb0] at hat
          rw [av_bool hat]
          cases hw
          cases b0 <;> cases b' <;> rfl
        · rename_i hb0
          rw [hb0] at hat
          have hat : Rep G.F w (.tup []) a.tmps[t] := hat
          generalize a.tmps[t] = v at hat
          cases hat with
          | tup _ vs hl _ =>
            cases hw
            rfl
        · cases hw
      · rw [List.getD_eq_getElem?_getD, List.getElem?_eq_none (Nat.le_of_not_lt hlt)] at hw
        cases hw
    · cases hw
theorem put_zero {d : Option Tmp} {v u : Value} {k : Nat} (hd : d ≠ some k) (h : a.tmps[k]? = some u) : (a.put d v).tmps[k]? = some u := by
  cases d with
  | none => exact h
  | some d =>
    show (a.tmps.setIfInBounds d v)[k]? = some u
    rw [Array.getElem?_setIfInBounds_ne (fun h0 => hd (by rw [h0]))]
    exact h
theorem did_ok (hT : tblOk P T = true) (horc : OrcOk P orc) (hc : c.Ok) {ops : Array Oper} {o : Oper} {ks : List Nat} {v : AV} {es : List Ent} (hd : Did T orc ops.toList o S ks v es) (hs : Sim c S a w) {i : Nat} (hi : ops[i]? = some o) (hz : ∀ p ∈ c.fix, o.dst ≠ some p.1) {Q : Exit → Act → World → Prop} {K : Act → World → Prop}
    (hK : ∀ a' w', Sim c (After o S ks v es) a' w' → K a' w') : wpOp P ops Q i K a w := by
  obtain ⟨⟨G, h1, h2, h3, h4⟩, h5, h6⟩ := hs
  have hfix : ∀ (u : Value), ∀ p ∈ c.fix, (a.put o.dst u).tmps[p.1]? = some p.2 := fun u p hp => put_zero (hz p hp) (h6 p hp)
  unfold wpOp
  rw [hi]
  simp only
  rcases hd with ⟨d1, d2, d3, d4, d5, d6⟩ | ⟨d1, rfl, rfl, rfl⟩
  · rw [Sim.wanted h2 d1]
    simp only [if_true]
    left
    obtain ⟨e1, e2⟩ := eff_ok (N := c.N) hT horc h1 (fun b hb => hc.new b (Nat.le_trans h5.size hb)) h2 d2 d3 d4 d5 d6
    refine e2 K Q (fun v' w' G' m hav => hK _ _ ⟨⟨G', m.ok, (h2.to m).put hav, fun k hk => m.up k (h3 k hk), fun k hk => (m.new k hk).elim (h4 k) .inr⟩, h5.trans m.world, hfix v'⟩)
  · rw [Sim.wanted h2 d1]
    simp only [Bool.false_eq_true, if_false]
    refine hK _ _ ⟨⟨G, h1, h2.put ?_, h3, h4⟩, h5, hfix undef⟩
    exact Rep.tup [] #[] rfl (fun i a v h => by simp at h)
theorem ops_ok (hT : tblOk P T = true) (horc : OrcOk P orc) (hc : c.Ok) {ops : Array Oper} (hz : ∀ p ∈ c.fix, ∀ o ∈ ops.toList, o.dst ≠ some p.1) {R : Type} {K : St → Option R} {r : R} {Q : Exit → Act → World → Prop} (hK : ∀ S' a' w', K S' = some r → Sim c S' a' w' → Q .normal a' w') :
    ∀ (l : List Oper) (i : Nat) (S : St) (a : Act) (w : World), l = ops.toList.drop i → opsK T orc ops.toList l S K = some r → Sim c S a w → wpOps P ops Q (List.range' i l.length) a w
  | [], i, S, a, w, hl, h, hs => hK S a w h hs
  | o :: l, i, S, a, w, hl, h, hs => by
    obtain ⟨ks, v, es, h1, h2⟩ := oper_did h
    rw [List.length_cons, List.range'_succ, wpOps_cons]
    have hi : ops[i]? = some o := by
      have : (ops.toList.drop i)[0]? = some o := by rw [← hl]; rfl
      simpa using this
    refine did_ok hT horc hc h1 hs hi (fun p hp => hz p hp o (List.mem_of_getElem? (by simpa using hi))) (fun a' w' hs' => ops_ok hT horc hc hz hK l (i + 1) _ a' w' ?_ h2 hs')
    rw [← List.drop_drop, ← hl]
    rfl
theorem region_ok (hT : tblOk P T = true) (horc : OrcOk P orc) (hc : c.Ok) {id : Nat} {ops : Array Oper} (hz : ∀ p ∈ c.fix, ∀ o ∈ ops.toList, o.dst ≠ some p.1) {R : Type} {K : St → Option R} {r : R} {Q : Exit → Act → World → Prop} (hK : ∀ S' a' w', K S' = some r → Sim c S' a' w' → Q .normal a' w') (h : opsK T orc ops.toList ops.toList S K = some r) (hs : Sim c S a w) : (Code.region id ops false).wp P Q a w := by
  refine wp_region ?_
  have := ops_ok hT horc hc hz hK ops.toList 0 S a w (by simp) h hs
  rwa [Array.length_toList, ← List.range_eq_range'] at this
end
end Go.Abs
end
section
/- An abstract machine for the model's code, part T: regions without order. -/
namespace Go.Abs
open Go.RowKit
section
variable {P : Program} {T : Tbl} {orc : Orc} {S : St}
theorem memB_iff {n : Nat} : ∀ {l : List Nat}, memB n l = true ↔ n ∈ l
  | [] => by simp [memB]
  | a :: l => by
    unfold memB
    rw [Bool.or_eq_true, memB_iff (l := l), List.mem_cons]
    constructor
    · rintro (h | h)
      · exact .inl (Nat.eq_of_beq_eq_true h).symm
      · exact .inr h
    · rintro (rfl | h)
      · exact .inl (Nat.beq_refl n)
      · exact .inr h
theorem calm_eff {o : Oper} (hc : calm o = true) {vs : List AV} {es es' : List Ent} {ok : Bool} {v : AV} (h : eff T orc o vs es = some (ok, v, es')) : es' = es := by
  unfold calm at hc
  split at hc
  · rename_i ho
    simp only [eff, ho] at h
    unfold effIndexAddr at h
    repeat' split at h
    all_goals first
      | (cases h; done)
      | skip
    · obtain ⟨c, _, h⟩ := Option.bind_eq_some_iff.1 h
      cases hb : (isRow c.v && Nat.beq (rowSz c.v) _) with
      | false => rw [hb] at h; cases h
      | true =>
        rw [hb] at h
        simp only [cond_true] at h
        cases ho : c.own with
        | true => rw [ho] at h; cases h; rfl
        | false =>
          rw [ho] at h
          obtain ⟨_, _, h⟩ := Option.bind_eq_some_iff.1 h
          cases h
          rfl
    · rename_i sz _ _ _ _ _ _ _
      cases hb : (isRow _ && Nat.beq (rowSz _) _) with
      | false => rw [hb] at h; cases h
      | true =>
        rw [hb] at h
        obtain ⟨_, _, h⟩ := Option.bind_eq_some_iff.1 h
        cases h
        rfl
  · rename_i ho
    simp only [eff, ho] at h
    unfold effFieldAddr at h
    repeat' split at h
    all_goals first
      | (cases h; done)
      | skip
    · cases h; rfl
    · cases hb : elemOk _ _ _ with
      | false => rw [hb] at h; cases h
      | true => rw [hb] at h; cases h; rfl
    · cases h; rfl
  · rename_i ho
    simp only [eff, ho] at h
    unfold effNilCheck at h
    repeat' split at h
    all_goals first
      | (cases h; done)
      | (cases h; rfl)
      | skip
    · cases hb : ptrOk _ _ with
      | false => rw [hb] at h; cases h
      | true => rw [hb] at h; cases h; rfl
    · cases hb : elemOk _ _ _ with
      | false => rw [hb] at h; cases h
      | true => rw [hb] at h; cases h; rfl
  · rename_i ho
    simp only [eff, ho] at h
    split at h
    · unfold effLen at h
      repeat' split at h
      all_goals first
        | (cases h; done)
        | (cases h; rfl)
        | skip
      · obtain ⟨r, _, h⟩ := Option.bind_eq_some_iff.1 h
        cases hb : isRow r with
        | false => rw [hb] at h; cases h
        | true => rw [hb] at h; cases h; rfl
      · obtain ⟨r, _, h⟩ := Option.bind_eq_some_iff.1 h
        cases h
    · cases h
  · cases hc
theorem load_calm {t : Nat} {a : AV} {es es' : List Ent} {ok : Bool} {v : AV} (ha : match a with | .elem .. => True | .place _ => True | .ptr .. => isOne (tyAt T t) = true | _ => False) (h : effLoad T t [a] es = some (ok, v, es')) : es' = es := by
  cases a <;> first | (cases ha; done) | skip
  · have ha : isOne (tyAt T t) = true := ha
    unfold effLoad at h
    simp only at h
    unfold effLoad0 at h
    simp only at h
    split at h
    · split at h
      · generalize Nat.beq _ _ = b at h
        cases b with
        | false => cases h
        | true =>
          simp only [cond_true] at h
          split at h
          · rename_i hty
            rw [hty] at ha
            cases ha
          · generalize isTy (tyAt T t) = b at h
            cases b with
            | false => cases h
            | true =>
              simp only [cond_true] at h
              split at h
              · cases h; rfl
              · cases h
      · cases h
    · cases h
  · unfold effLoad at h
    simp only at h
    split at h
    · obtain ⟨c, _, h⟩ := Option.bind_eq_some_iff.1 h
      cases ho : c.own with
      | false => rw [ho] at h; cases h
      | true =>
        rw [ho] at h
        simp only [cond_true] at h
        split at h
        · obtain ⟨cs, _, h⟩ := Option.bind_eq_some_iff.1 h
          generalize (Nat.beq _ 0 && Nat.beq _ (rowSz c.v) && Nat.beq _ _) = b at h
          cases b with
          | false => cases h
          | true => cases h; rfl
        · generalize (isTy (tyAt T t) && Nat.blt _ (rowSz c.v)) = b at h
          cases b with
          | false => cases h
          | true =>
            simp only [cond_true] at h
            obtain ⟨v, _, h⟩ := Option.bind_eq_some_iff.1 h
            cases h
            rfl
    · cases h
  · unfold effLoad at h
    simp only at h
    split at h
    · generalize Nat.beq _ _ = b at h
      cases b with
      | false => cases h
      | true => cases h; rfl
    · cases h; rfl
theorem calmV_eff {o : Oper} {vs : List AV} (hc : calmV T o vs = true) {es es' : List Ent} {ok : Bool} {v : AV} (h : eff T orc o vs es = some (ok, v, es')) : es' = es := by
  unfold calmV at hc
  rcases Bool.or_eq_true _ _ ▸ hc with hc | hc
  · exact calm_eff hc h
  · cases hop : o.op <;> rw [hop] at hc <;> first | (simp at hc; done) | skip
    rename_i t x
    unfold eff at h
    rw [hop] at h
    have h : effLoad T t vs es = some (ok, v, es') := h
    clear hop
    cases vs with
    | nil => simp at hc
    | cons a vs =>
      cases vs with
      | nil => cases a <;> first | (simp at hc; done) | exact load_calm hc h | exact load_calm trivial h
      | cons _ _ => cases a <;> simp at hc
theorem freeze_free : ∀ {o n : Nat} {cs : List Cel}, (cs.all fun c => !c.own) = true → freezeFrom o n cs = cs
  | 0, 0, [], _ => rfl
  | 0, _ + 1, [], _ => rfl
  | _ + 1, _, [], _ => rfl
  | o + 1, n, c :: cs, h => by
    rw [List.all_cons, Bool.and_eq_true] at h
    unfold freezeFrom
    rw [freeze_free h.2]
  | 0, n + 1, c :: cs, h => by
    rw [List.all_cons, Bool.and_eq_true] at h
    unfold freezeFrom
    rw [freeze_free h.2]
    obtain ⟨g, own, v⟩ := c
    cases own with
    | false => rfl
    | true => cases h.1
  | 0, 0, c :: cs, _ => rfl
theorem calmE_eff {o : Oper} {vs : List AV} {es es' : List Ent} {ok : Bool} {v : AV} (hc : calmE T o vs es = true) (h : eff T orc o vs es = some (ok, v, es')) : es' = es := by
  unfold calmE at hc
  rcases Bool.or_eq_true _ _ ▸ hc with hc | hc
  · exact calmV_eff hc h
  · split at hc
    · rename_i t y k pg off e hop _
      split at hc
      · rename_i cs he
        unfold eff at h
        rw [hop] at h
        have h : effLoad0 T t [.ptr k pg off] [e] = some (ok, v, es') := h
        unfold effLoad0 at h
        simp only at h
        rw [he] at h
        simp only at h
        generalize Nat.beq e.pg pg = b at h
        cases b with
        | false => cases h
        | true =>
          simp only [cond_true] at h
          split at h
          · generalize Nat.ble _ _ = b at h
            cases b with
            | false => cases h
            | true =>
              simp only [cond_true] at h
              cases h
              rw [freeze_free hc, ← he]
          · generalize isTy _ = b at h
            cases b with
            | false => cases h
            | true =>
              simp only [cond_true] at h
              split at h
              · cases h; rfl
              · cases h
      · cases hc
    · cases hc
/-- Two states that an operation cannot tell apart. -/
structure Like (ops : List Oper) (o : Oper) (S S' : St) : Prop where
  tm : ∀ t ∈ slotsOf ops o, S'.tm.getD t .top = S.tm.getD t .top
  len : S'.ob.length = S.ob.length
theorem Like.opnd {ops : List Oper} {o : Oper} {S S' : St} (h : Like ops o S S') : o.op.operands.toList.map (Abs.opnd S'.tm) = o.op.operands.toList.map (Abs.opnd S.tm) := by
  apply List.map_congr_left
  intro y hy
  cases y with
  | tmp t =>
    refine h.tm t ?_
    unfold slotsOf
    exact List.mem_append_left _ (List.mem_filterMap.2 ⟨_, hy, rfl⟩)
  | _ => rfl
theorem Like.want {ops : List Oper} {o : Oper} {S S' : St} (h : Like ops o S S') : Abs.want ops o S'.tm = Abs.want ops o S.tm := by
  unfold Abs.want
  cases hg : o.guard with
  | none => rfl
  | some p =>
    obtain ⟨j, b⟩ := p
    simp only
    cases hd : (ops[j]?).bind (·.dst) with
    | none => rfl
    | some t =>
      simp only
      rw [h.tm t (by unfold slotsOf; rw [hg]; exact List.mem_append_right _ (by simp [hd]))]
theorem Like.fp {ops : List Oper} {o : Oper} {S S' : St} (h : Like ops o S S') (i : Nat) (he : ∀ k ∈ (fpOf T ops i o S).ks, entAt S'.ob k = entAt S.ob k) : fpOf T ops i o S' = fpOf T ops i o S := by
  have e : (acc o (o.op.operands.toList.map (Abs.opnd S.tm))).map (entAt S'.ob) = (acc o (o.op.operands.toList.map (Abs.opnd S.tm))).map (entAt S.ob) := List.map_congr_left he
  unfold fpOf
  rw [h.opnd, e]
theorem Like.did {ops : List Oper} {o : Oper} {S S' : St} (h : Like ops o S S') {ks : List Nat} {v : AV} {es : List Ent} (hk : ∀ k ∈ ks, entAt S'.ob k = entAt S.ob k) (hd : Did T orc ops o S ks v es) : Did T orc ops o S' ks v es := by
  unfold Did at hd ⊢
  rw [h.want, h.opnd, h.len]
  have : ks.map (entAt S'.ob) = ks.map (entAt S.ob) := List.map_congr_left hk
  rw [this]
  exact hd
theorem setEnts_length : ∀ (ks : List Nat) (es ob : List Ent), (setEnts ob ks es).length = ob.length
  | [], _, _ => by simp [setEnts]
  | _ :: _, [], _ => by simp [setEnts]
  | k :: ks, e :: es, ob => by
    simp only [setEnts]
    rw [setEnts_length]
    simp
theorem setEnts_comm : ∀ {ks : List Nat} {es : List Ent} {ks' : List Nat} {es' : List Ent} {ob : List Ent}, (∀ k ∈ ks, k ∉ ks') → setEnts (setEnts ob ks es) ks' es' = setEnts (setEnts ob ks' es') ks es
  | [], _, _, _, _, _ => by simp [setEnts]
  | _ :: _, [], _, _, _, _ => by simp [setEnts]
  | k :: ks, e :: es, ks', es', ob, h => by
    simp only [setEnts]
    rw [setEnts_comm (fun k hk => h k (List.mem_cons_of_mem _ hk)), setEnts_set (h k List.mem_cons_self)]
theorem did_keys {ops : List Oper} {o : Oper} {ks : List Nat} {v : AV} {es : List Ent} (hd : Did T orc ops o S ks v es) (i : Nat) : ∀ k ∈ ks, k ∈ (fpOf T ops i o S).ks := by
  rcases hd with ⟨_, h, _⟩ | ⟨_, rfl, _⟩
  · intro k hk
    show k ∈ acc o _
    rw [h]
    exact hk
  · intro k hk
    cases hk
theorem did_calm {ops : List Oper} {o : Oper} {ks : List Nat} {v : AV} {es : List Ent} (hd : Did T orc ops o S ks v es) (hc : calmE T o (o.op.operands.toList.map (opnd S.tm)) ((acc o (o.op.operands.toList.map (opnd S.tm))).map (entAt S.ob)) = true) : setEnts S.ob ks es = S.ob := by
  rcases hd with ⟨_, hk, _, h1, _, h2⟩ | ⟨_, rfl, _, rfl⟩
  · rw [hk] at hc
    rw [calmE_eff hc h2]
    exact setEnts_self (ents_at h1)
  · rfl
theorem setTm_get {tm : List AV} {d : Option Tmp} {v : AV} {t : Nat} (h : ∀ d', d = some d' → d' ≠ t) : (setTm tm d v).getD t .top = tm.getD t .top := by
  cases d with
  | none => rfl
  | some d =>
    simp only [setTm]
    rw [List.getD_eq_getElem?_getD, List.getElem?_set_ne (h d rfl), List.getD_eq_getElem?_getD]
theorem off_mem {d : Option Nat} {l : List Nat} (h : offB d l = true) : ∀ d', d = some d' → d' ∉ l := by
  rintro d' rfl hm
  simp only [offB] at h
  rw [memB_iff.2 hm] at h
  cases h
theorem setTm_comm {tm : List AV} {d d' : Option Tmp} {v v' : AV} (h : ∀ x, d = some x → d' ≠ some x) : setTm (setTm tm d v) d' v' = setTm (setTm tm d' v') d v := by
  cases d with
  | none => rfl
  | some d => cases d' with
    | none => rfl
    | some d' =>
      simp only [setTm]
      exact List.set_comm _ _ (fun he => h d rfl (by rw [he]))
/-- Two operations that lie apart may change places. -/
theorem swap {ops : List Oper} {oj oi : Oper} {j i : Nat} {kj ki : List Nat} {vj vi : AV} {ej ei : List Ent} (hj : Did T orc ops oj S kj vj ej) (hi : Did T orc ops oi (After oj S kj vj ej) ki vi ei) (hap : apart (fpOf T ops j oj S) (fpOf T ops i oi (After oj S kj vj ej)) = true) :
    Did T orc ops oi S ki vi ei ∧ fpOf T ops i oi (After oj S kj vj ej) = fpOf T ops i oi S ∧ Did T orc ops oj (After oi S ki vi ei) kj vj ej ∧ fpOf T ops j oj (After oi S ki vi ei) = fpOf T ops j oj S ∧ After oj (After oi S ki vi ei) kj vj ej = After oi (After oj S kj vj ej) ki vi ei := by
  unfold apart at hap
  rw [Bool.and_eq_true, Bool.and_eq_true, Bool.and_eq_true] at hap
  obtain ⟨⟨⟨p1, p2⟩, p3⟩, p4⟩ := hap
  have q1 : ∀ d, oj.dst = some d → d ∉ slotsOf ops oi := off_mem p1
  have q2 : ∀ d, oi.dst = some d → d ∉ slotsOf ops oj := off_mem p2
  have q3 : ∀ d, oj.dst = some d → oi.dst ≠ some d := fun d hd he => off_mem p3 d hd (by show d ∈ oi.dst.toList; rw [he]; simp)
  have L1 : Like ops oi (After oj S kj vj ej) S := ⟨fun t ht => (setTm_get (fun d hd he => q1 d hd (he ▸ ht))).symm, (setEnts_length _ _ _).symm⟩
  have hki := did_keys hi i
  have hkj := did_keys hj j
  have L2 : Like ops oj S (After oi S ki vi ei) := ⟨fun t ht => setTm_get (fun d hd he => q2 d hd (he ▸ ht)), setEnts_length _ _ _⟩
  have tms : setTm (setTm S.tm oi.dst vi) oj.dst vj = setTm (setTm S.tm oj.dst vj) oi.dst vi := (setTm_comm q3).symm
  cases hw : ((fpOf T ops j oj S).wr || (fpOf T ops i oi (After oj S kj vj ej)).wr) with
  | true =>
    rw [hw] at p4
    have disj : ∀ k ∈ kj, k ∉ ki := by
      intro k h1 h2
      have h3 := List.all_eq_true.1 (show _ = true from p4) k (hkj k h1)
      rw [memB_iff.2 (hki k h2)] at h3
      cases h3
    have e1 : ∀ k ∈ ki, entAt S.ob k = entAt (setEnts S.ob kj ej) k := fun k hk => by
      unfold entAt
      rw [List.getD_eq_getElem?_getD, List.getD_eq_getElem?_getD, setEnts_out (fun hm => disj k hm hk)]
    have e2 : ∀ k ∈ kj, entAt (setEnts S.ob ki ei) k = entAt S.ob k := fun k hk => by
      unfold entAt
      rw [List.getD_eq_getElem?_getD, List.getD_eq_getElem?_getD, setEnts_out (disj k hk)]
    have dis2 : ∀ k ∈ (fpOf T ops j oj S).ks, k ∉ (fpOf T ops i oi (After oj S kj vj ej)).ks := by
      intro k h1 h2
      have h3 := List.all_eq_true.1 (show _ = true from p4) k h1
      rw [memB_iff.2 h2] at h3
      cases h3
    have f1 : ∀ k ∈ (fpOf T ops i oi (After oj S kj vj ej)).ks, entAt S.ob k = entAt (setEnts S.ob kj ej) k := fun k hk => by
      unfold entAt
      rw [List.getD_eq_getElem?_getD, List.getD_eq_getElem?_getD, setEnts_out (fun hm => dis2 k (hkj k hm) hk)]
    have f2 : ∀ k ∈ (fpOf T ops j oj S).ks, entAt (setEnts S.ob ki ei) k = entAt S.ob k := fun k hk => by
      unfold entAt
      rw [List.getD_eq_getElem?_getD, List.getD_eq_getElem?_getD, setEnts_out (fun hm => dis2 k hk (hki k hm))]
    refine ⟨L1.did e1 hi, (L1.fp i f1).symm, L2.did e2 hj, L2.fp j f2, ?_⟩
    unfold After
    simp only
    rw [tms, setEnts_comm (fun k hk hk' => disj k hk' hk)]
  | false =>
    rw [Bool.or_eq_false_iff] at hw
    have c1 : calmE T oj (oj.op.operands.toList.map (opnd S.tm)) ((acc oj (oj.op.operands.toList.map (opnd S.tm))).map (entAt S.ob)) = true := by
      have : (!calmE T oj (oj.op.operands.toList.map (opnd S.tm)) ((acc oj (oj.op.operands.toList.map (opnd S.tm))).map (entAt S.ob))) = false := hw.1
      rw [Bool.not_eq_false'] at this
      exact this
    have e1 : setEnts S.ob kj ej = S.ob := did_calm hj c1
    have c2 : calmE T oi (oi.op.operands.toList.map (opnd S.tm)) ((acc oi (oi.op.operands.toList.map (opnd S.tm))).map (entAt S.ob)) = true := by
      have : (!calmE T oi (oi.op.operands.toList.map (opnd (After oj S kj vj ej).tm)) ((acc oi (oi.op.operands.toList.map (opnd (After oj S kj vj ej).tm))).map (entAt (setEnts S.ob kj ej)))) = false := hw.2
      rw [← L1.opnd, e1, Bool.not_eq_false'] at this
      exact this
    have hi2 : Did T orc ops oi S ki vi ei := L1.did (fun k hk => by show entAt S.ob k = entAt (setEnts S.ob kj ej) k; rw [e1]) hi
    have e2 : setEnts S.ob ki ei = S.ob := did_calm hi2 c2
    have hj2 : Did T orc ops oj (After oi S ki vi ei) kj vj ej := L2.did (fun k hk => by show entAt (setEnts S.ob ki ei) k = entAt S.ob k; rw [e2]) hj
    refine ⟨hi2, (L1.fp i (fun k _ => by show entAt S.ob k = entAt (setEnts S.ob kj ej) k; rw [e1])).symm, hj2, L2.fp j (fun k _ => by show entAt (setEnts S.ob ki ei) k = entAt S.ob k; rw [e2]), ?_⟩
    unfold After
    simp only
    rw [tms, e2, e1, e2]
/-- A run of operations, each with what it reads and writes. -/
def Runs' (T : Tbl) (orc : Orc) (ops : List Oper) : List FP → St → St → Prop
  | [], S, S' => S = S'
  | f :: r, S, S' => ∃ o ks v es, ops[f.i]? = some o ∧ f = fpOf T ops f.i o S ∧ Did T orc ops o S ks v es ∧ Runs' T orc ops r (After o S ks v es) S'
/-- What lies apart from all that stands before it may come first. -/
theorem bubble {ops : List Oper} : ∀ {pre : List FP} {f : FP} {r : List FP} {S S' : St}, Runs' T orc ops (pre ++ f :: r) S S' → (∀ g ∈ pre, apart g f = true) → Runs' T orc ops (f :: (pre ++ r)) S S'
  | [], _, _, _, _, h, _ => h
  | g :: pre, f, r, S, S', h, ha => by
    obtain ⟨o, ks, v, es, h1, h2, h3, h4⟩ := h
    obtain ⟨oi, ki, vi, ei, i1, i2, i3, i4⟩ := bubble (pre := pre) (f := f) (r := r) h4 (fun g hg => ha g (List.mem_cons_of_mem _ hg))
    have hap := ha g List.mem_cons_self
    rw [h2, i2] at hap
    obtain ⟨s1, s2, s3, s4, s5⟩ := swap h3 i3 hap
    exact ⟨oi, ki, vi, ei, i1, i2.trans s2, s1, o, ks, v, es, h1, h2.trans s4.symm, s3, by rw [s5]; exact i4⟩
section
variable {c : Call0}
/-- The pairs that must lie in order, or apart. -/
def Pairs (ops : List Oper) : List FP → Prop
  | [] => True
  | f :: r => (∀ g ∈ r, okPair ops f g = true) ∧ Pairs ops r
theorem Pairs.drop {ops : List Oper} {pre r : List FP} {f : FP} : Pairs ops (pre ++ f :: r) → Pairs ops (pre ++ r) := by
  induction pre with
  | nil => exact fun h => h.2
  | cons g pre ih =>
    rintro ⟨h1, h2⟩
    refine ⟨fun x hx => h1 x ?_, ih h2⟩
    rcases List.mem_append.1 hx with hx | hx
    · exact List.mem_append_left _ hx
    · exact List.mem_append_right _ (List.mem_cons_of_mem _ hx)
theorem Pairs.before {ops : List Oper} {pre r : List FP} {f : FP} : Pairs ops (pre ++ f :: r) → ∀ g ∈ pre, okPair ops g f = true := by
  induction pre with
  | nil => intro _ g hg; cases hg
  | cons x pre ih =>
    rintro ⟨h1, h2⟩ g hg
    rcases List.mem_cons.1 hg with rfl | hg
    · exact h1 f (List.mem_append_right _ List.mem_cons_self)
    · exact ih h2 g hg
/-- What stands ahead of each. -/
def afOf (ops : Array Oper) (i : Nat) : List Nat := ((ops[i]?).map fun o => o.after.toList.filterMap fun e => bif Region.binds .any e then some e.on else none).getD []
theorem any_ok (hT : tblOk P T = true) (horc : OrcOk P orc) (hc : c.Ok) {ops : Array Oper} (hz : ∀ p ∈ c.fix, ∀ o ∈ ops.toList, o.dst ≠ some p.1) {Q : Exit → Act → World → Prop} {S' : St} (hK : ∀ a' w', Sim c S' a' w' → Q .normal a' w') :
    ∀ (fuel : Nat) (listed : Array Bool) (R : List FP) (S : St) (a : Act) (w : World), listed.size = ops.size → R.length ≤ fuel → (∀ i, i < ops.size → (listed[i]? = some false ↔ ∃ f ∈ R, f.i = i)) → (∀ f ∈ R, f.i < ops.size ∧ f.af = afOf ops f.i ∧ ∀ j ∈ f.af, j < f.i) → R.Pairwise (fun f g => f.i < g.i) → Pairs ops.toList R → (∀ j, listed[j]? = some true → ∀ k ∈ afOf ops j, listed[k]? = some true) →
      Runs' T orc ops.toList R S S' → Sim c S a w → wpAny P .any ops Q fuel listed a w := by
  intro fuel
  induction fuel with
  | zero =>
    intro listed R S a w h1 h2 h3 h4 h5 h6 hcl h7 h8
    obtain rfl : R = [] := List.eq_nil_of_length_eq_zero (by omega)
    refine ⟨?_, hK a w (by have h7 : S = S' := h7; rw [← h7]; exact h8)⟩
    unfold Region.ready
    rw [List.filter_eq_nil_iff]
    intro i hi
    have hi := List.mem_range.1 hi
    have hl : listed.getD i true = true := by
      have := (h3 i hi).1
      rw [Array.getD_eq_getD_getElem?, Array.getElem?_eq_getElem (by omega)]
      cases hb : listed[i]'(by omega) with
      | true => rfl
      | false =>
        obtain ⟨f, hf, _⟩ := this (by rw [Array.getElem?_eq_getElem (by omega), hb])
        cases hf
    rw [hl]
    simp
  | succ fuel ih =>
    intro listed R S a w h1 h2 h3 h4 h5 h6 hcl h7 h8
    have isReady : ∀ i, i ∈ Region.ready .any ops listed ↔ i < ops.size ∧ listed[i]? = some false ∧ ∀ j ∈ afOf ops i, listed[j]? = some true := by
      intro i
      unfold Region.ready
      rw [List.mem_filter, List.mem_range]
      constructor
      · rintro ⟨hi, hb⟩
        rw [Bool.and_eq_true] at hb
        obtain ⟨b1, b2⟩ := hb
        refine ⟨hi, ?_, fun j hj => ?_⟩
        · rw [Array.getD_eq_getD_getElem?, Array.getElem?_eq_getElem (by omega)] at b1
          rw [Array.getElem?_eq_getElem (by omega)]
          simpa using b1
        · unfold afOf at hj
          rw [Array.getElem?_eq_getElem hi] at hj b2
          simp only [Option.map_some, Option.getD_some] at hj b2
          obtain ⟨e, he1, he2⟩ := List.mem_filterMap.1 hj
          cases hbe : Region.binds .any e with
          | false => rw [hbe] at he2; cases he2
          | true =>
            rw [hbe] at he2
            cases he2
            have := (Array.all_eq_true_iff_forall_mem.1 b2) e (by simpa using he1)
            rw [hbe] at this
            simp only [Bool.not_true, Bool.false_or] at this
            rw [Array.getD_eq_getD_getElem?] at this
            cases hl : listed[e.on]? with
            | none => rw [hl] at this; cases this
            | some b => rw [hl] at this; simpa using this
      · rintro ⟨hi, b1, b2⟩
        refine ⟨hi, ?_⟩
        rw [Bool.and_eq_true]
        refine ⟨by rw [Array.getD_eq_getD_getElem?, b1]; rfl, ?_⟩
        rw [Array.getElem?_eq_getElem hi]
        simp only [Option.map_some, Option.getD_some]
        refine Array.all_eq_true_iff_forall_mem.2 (fun e he => ?_)
        cases hbe : Region.binds .any e with
        | false => rfl
        | true =>
          have := b2 e.on (by
            unfold afOf
            rw [Array.getElem?_eq_getElem hi]
            simp only [Option.map_some, Option.getD_some]
            exact List.mem_filterMap.2 ⟨e, by simpa using he, by rw [hbe]; rfl⟩)
          rw [Array.getD_eq_getD_getElem?, this]
          rfl
    refine ⟨fun hr => ?_, fun i hi => ?_⟩
    · cases R with
      | nil => exact hK a w (by have h7 : S = S' := h7; rw [← h7]; exact h8)
      | cons f R =>
        exfalso
        obtain ⟨f1, f2, f3⟩ := h4 f List.mem_cons_self
        have : f.i ∈ Region.ready .any ops listed := by
          refine (isReady _).2 ⟨f1, (h3 _ f1).2 ⟨f, List.mem_cons_self, rfl⟩, fun j hj => ?_⟩
          rw [← f2] at hj
          have hjf := f3 j hj
          have hjs : j < listed.size := by omega
          rw [Array.getElem?_eq_getElem hjs]
          cases hb : listed[j] with
          | true => rfl
          | false =>
            obtain ⟨g, hg, hgi⟩ := (h3 j (by omega)).1 (by rw [Array.getElem?_eq_getElem hjs, hb])
            rcases List.mem_cons.1 hg with rfl | hg
            · omega
            · have := (List.pairwise_cons.1 h5).1 g hg
              omega
        rw [hr] at this
        cases this
    · obtain ⟨r1, r2, r3⟩ := (isReady i).1 hi
      obtain ⟨f, hf, rfl⟩ := (h3 i r1).1 r2
      obtain ⟨pre, post, rfl⟩ := List.append_of_mem hf
      obtain ⟨f1, f2, f3⟩ := h4 f hf
      have hap : ∀ g ∈ pre, apart g f = true := by
        intro g hg
        have h9 := h6.before g hg
        unfold okPair at h9
        rw [Bool.or_eq_true, Bool.or_eq_true] at h9
        have hafL : ∀ k j, j ∈ afL ops.toList k → j ∈ afOf ops k := by
          intro k j hm
          unfold afL at hm
          unfold afOf
          rw [← Array.getElem?_toList]
          cases ho : ops.toList[k]? with
          | none => rw [ho] at hm; cases hm
          | some o => rw [ho] at hm; exact hm
        have hre : ∀ (n : Nat) (j : Nat) (l : List Nat), (∀ k ∈ l, listed[k]? = some true) → reachB ops.toList n j l = true → listed[j]? = some true := by
          intro n
          induction n with
          | zero => intro j l hl h; exact hl j (memB_iff.1 h)
          | succ n ih =>
            intro j l hl h
            unfold reachB at h
            rw [Bool.or_eq_true] at h
            rcases h with h | h
            · exact hl j (memB_iff.1 h)
            · obtain ⟨k, hk, hm⟩ := List.any_eq_true.1 h
              exact ih j _ (fun m hm2 => hcl k (hl k hk) m (hafL k m hm2)) hm
        have h9 : g.i ∈ f.af ∨ apart g f = true ∨ reachB ops.toList 6 g.i f.af = true := by
          rcases h9 with h9 | h9 | h9
          · exact .inl (memB_iff.1 h9)
          · exact .inr (.inl h9)
          · exact .inr (.inr h9)
        rcases h9 with h9 | h9 | h9
        · exfalso
          have hgi := h9
          rw [f2] at hgi
          have hl := r3 _ hgi
          have hgs := (h4 g (List.mem_append_left _ hg)).1
          have := (h3 g.i hgs).2 ⟨g, List.mem_append_left _ hg, rfl⟩
          rw [hl] at this
          cases this
        · exact h9
        · exfalso
          rw [f2] at h9
          have hl := hre 6 g.i _ (fun k hk => r3 k hk) h9
          have hgs := (h4 g (List.mem_append_left _ hg)).1
          have := (h3 g.i hgs).2 ⟨g, List.mem_append_left _ hg, rfl⟩
          rw [hl] at this
          cases this
      obtain ⟨o, ks, v, es, k1, k2, k3, k4⟩ := bubble h7 hap
      have hne : ∀ g ∈ pre ++ post, g.i ≠ f.i := by
        intro g hg he
        rw [List.pairwise_append] at h5
        rcases List.mem_append.1 hg with hg | hg
        · have := h5.2.2 g hg f List.mem_cons_self; omega
        · have := (List.pairwise_cons.1 h5.2.1).1 g hg; omega
      have hsub : ∀ g ∈ pre ++ post, g ∈ pre ++ f :: post := by
        intro g hg
        rcases List.mem_append.1 hg with hg | hg
        · exact List.mem_append_left _ hg
        · exact List.mem_append_right _ (List.mem_cons_of_mem _ hg)
      refine did_ok hT horc hc k3 h8 (by simpa using k1) (fun p hp => hz p hp o (List.mem_of_getElem? k1)) (fun a' w' hs' => ih _ (pre ++ post) _ a' w' (by simpa using h1) ?_ (fun i hi => ?_) (fun g hg => h4 g (hsub g hg)) ?_ h6.drop (fun j hj k hk => ?_) k4 hs')
      · simp at h2 ⊢
        omega
      · by_cases hif : f.i = i
        · subst hif
          rw [Array.getElem?_setIfInBounds_self_of_lt (by omega)]
          constructor
          · intro h; cases h
          · rintro ⟨g, hg, he⟩; exact absurd he (hne g hg)
        · rw [Array.getElem?_setIfInBounds_ne hif, h3 i hi]
          constructor
          · rintro ⟨g, hg, he⟩
            refine ⟨g, ?_, he⟩
            rcases List.mem_append.1 hg with hg | hg
            · exact List.mem_append_left _ hg
            · rcases List.mem_cons.1 hg with rfl | hg
              · exact absurd he hif
              · exact List.mem_append_right _ hg
          · rintro ⟨g, hg, he⟩
            exact ⟨g, hsub g hg, he⟩
      · rw [List.pairwise_append] at h5 ⊢
        refine ⟨h5.1, (List.pairwise_cons.1 h5.2.1).2, fun x hx y hy => h5.2.2 x hx y (List.mem_cons_of_mem _ hy)⟩
      · have keep : ∀ k : Nat, listed[k]? = some true → (listed.setIfInBounds f.i true)[k]? = some true := by
          intro k hk
          by_cases hki : f.i = k
          · subst hki; rw [Array.getElem?_setIfInBounds_self_of_lt (by omega)]
          · rw [Array.getElem?_setIfInBounds_ne hki]; exact hk
        by_cases hji : f.i = j
        · subst hji
          exact keep k (r3 k hk)
        · rw [Array.getElem?_setIfInBounds_ne hji] at hj
          exact keep k (hcl j hj k hk)
/-- What the abstract machine has looked at. -/
theorem opsD_runs {R : Type} {ops : List Oper} {K : St → Option R} {r : R} : ∀ (l : List Oper) (i : Nat) (fs : List FP) (S : St), l = ops.drop i → opsD T orc ops i l fs S K = some r → ∃ fs' S', Runs' T orc ops fs' S S' ∧ K S' = some r ∧ fs'.map (·.i) = List.range' i l.length ∧ Pairs ops fs' ∧ (∀ f ∈ fs, ∀ g ∈ fs', okPair ops f g = true) ∧
    ∀ f ∈ fs', f.i < ops.length ∧ f.af = afOf ops.toArray f.i ∧ ∀ j ∈ f.af, j < f.i
  | [], i, fs, S, hl, h => ⟨[], S, rfl, h, rfl, trivial, (fun _ _ g hg => by cases hg), (fun _ hf => by cases hf)⟩
  | o :: l, i, fs, S, hl, h => by
    unfold opsD at h
    cases hb : (((fpOf T ops i o S).af.all fun j => Nat.blt j i) && fs.all fun f => okPair ops f (fpOf T ops i o S)) with
    | false => rw [hb] at h; cases h
    | true =>
      rw [hb] at h
      simp only [cond_true] at h
      rw [Bool.and_eq_true] at hb
      obtain ⟨ks, v, es, d1, d2⟩ := oper_did h
      have hi : ops[i]? = some o := by
        have : (ops.drop i)[0]? = some o := by rw [← hl]; rfl
        simpa using this
      obtain ⟨fs', S', q1, q2, q3, q4, q5, q6⟩ := opsD_runs l (i + 1) (fpOf T ops i o S :: fs) _ (by rw [← List.drop_drop, ← hl]; rfl) d2
      refine ⟨fpOf T ops i o S :: fs', S', ⟨o, ks, v, es, hi, rfl, d1, q1⟩, q2, ?_, ⟨fun g hg => q5 _ List.mem_cons_self g hg, q4⟩, fun f hf g hg => ?_, fun f hf => ?_⟩
      · rw [List.map_cons, q3, List.length_cons, List.range'_succ]; rfl
      · rcases List.mem_cons.1 hg with rfl | hg
        · exact List.all_eq_true.1 hb.2 f hf
        · exact q5 f (List.mem_cons_of_mem _ hf) g hg
      · rcases List.mem_cons.1 hf with rfl | hf
        · refine ⟨(List.getElem?_eq_some_iff.1 hi).1, ?_, fun j hj => by
          show j < i
          simpa using List.all_eq_true.1 hb.1 j hj⟩
          unfold afOf
          show (fpOf T ops i o S).af = ((ops.toArray[i]?).map _).getD []
          rw [List.getElem?_toArray, hi]
          rfl
        · exact q6 f hf
theorem region_any_ok (hT : tblOk P T = true) (horc : OrcOk P orc) (hmix : P.follows .mixedOrders = true) (hc : c.Ok) {id : Nat} {ops : Array Oper} (hz : ∀ p ∈ c.fix, ∀ o ∈ ops.toList, o.dst ≠ some p.1) {R : Type} {K : St → Option R} {r : R} {Q : Exit → Act → World → Prop} (hK : ∀ S' a' w', K S' = some r → Sim c S' a' w' → Q .normal a' w') {a : Act} {w : World} (h : opsD T orc ops.toList 0 ops.toList [] S K = some r) (hs : Sim c S a w) : (Code.region id ops true).wp P Q a w := by
  obtain ⟨fs', S', q1, q2, q3, q4, q5, q6⟩ := opsD_runs ops.toList 0 [] S (by simp) h
  refine wp_region_any hmix (any_ok hT horc hc hz (S' := S') (fun a' w' hs' => hK S' a' w' q2 hs') ops.size _ fs' S a _ (by simp) ?_ (fun i hi => ?_) (fun f hf => by simpa using q6 f hf) ?_ q4 (fun j hj => ?_) q1 ?_)
  · have := congrArg List.length q3
    simp at this
    omega
  · rw [Array.getElem?_replicate, if_pos hi]
    refine ⟨fun _ => ?_, fun _ => rfl⟩
    have : i ∈ fs'.map (·.i) := by rw [q3, List.mem_range']; exact ⟨i, by simpa using hi, by omega⟩
    obtain ⟨f, hf, he⟩ := List.mem_map.1 this
    exact ⟨f, hf, he⟩
  · have : (fs'.map (·.i)).Pairwise (· < ·) := by rw [q3]; exact List.pairwise_lt_range'
    exact List.pairwise_map.1 this
  · rw [Array.getElem?_replicate] at hj
    split at hj <;> cases hj
  · obtain ⟨⟨G, h1, h2, h3, h4⟩, h5, h6⟩ := hs
    have hwt : WTo c.N w { w with drawn := w.drawn + 1 } := ⟨rfl, rfl, rfl, Nat.le_refl _, fun _ _ _ => rfl⟩
    have m := MTo.grow h1 hwt (fun _ _ => rfl)
    exact ⟨⟨G, m.ok, h2.to m, h3, h4⟩, h5.trans hwt, h6⟩
end
end
end Go.Abs
end
section
/- An abstract machine for the model's code, part U: code. -/
namespace Go.Abs
open Go.RowKit
section
variable {P : Program} {T : Tbl} {orc : Orc} {c : Call0} {S : St} {w : World} {a : Act}
theorem normTm_at (D : List Nat) (ob : List Ent) : ∀ (tm : List AV) (i k : Nat), (normTm D ob i tm)[k]? = (tm[k]?).map fun v => bif memB (i + k) D then normAV D ob v else .top
  | [], i, k => by simp [normTm]
  | v :: tm, i, k => by
    cases k with
    | zero => simp [normTm]
    | succ k =>
      simp only [normTm, List.getElem?_cons_succ]
      rw [normTm_at D ob tm (i + 1) k, show i + 1 + k = i + (k + 1) by omega]
theorem normOb_at (D : List Nat) : ∀ (ob : List Ent) (i k : Nat), (normOb D i ob)[k]? = (ob[k]?).map fun e => bif memB (i + k) D then normEnt e else ⟨0, 0, none⟩
  | [], i, k => by simp [normOb]
  | v :: tm, i, k => by
    cases k with
    | zero => simp [normOb]
    | succ k =>
      simp only [normOb, List.getElem?_cons_succ]
      rw [normOb_at D tm (i + 1) k, show i + 1 + k = i + (k + 1) by omega]
theorem normTm_length (D : List Nat) (ob : List Ent) : ∀ (tm : List AV) (i : Nat), (normTm D ob i tm).length = tm.length
  | [], _ => rfl
  | v :: tm, i => by simp [normTm, normTm_length D ob tm]
theorem normEnt_g (e : Ent) : (normEnt e).g = 0 ∧ (normEnt e).pg = 0 := by
  unfold normEnt
  split <;> exact ⟨rfl, rfl⟩
theorem normEnt_cel {e : Ent} {j : Nat} {x : Cel} (h : cel (normEnt e) j = some x) : ∃ y, cel e j = some y ∧ x = ⟨0, y.own, y.v⟩ := by
  unfold normEnt at h
  unfold cel at h ⊢
  cases ho : e.o with
  | none => rw [ho] at h; cases h
  | some o =>
    cases o with
    | row y =>
      rw [ho] at h
      simp only at h ⊢
      by_cases hj : j = 0
      · rw [if_pos hj] at h ⊢; cases h; exact ⟨y, rfl, rfl⟩
      · rw [if_neg hj] at h; cases h
    | var cs =>
      rw [ho] at h
      simp only at h ⊢
      rw [List.getElem?_map] at h
      obtain ⟨y, h1, h2⟩ := Option.map_eq_some_iff.1 h
      exact ⟨y, h1, h2.symm⟩
theorem normEnt_var {e : Ent} {cs : List Cel} (h : (normEnt e).o = some (.var cs)) : ∃ cs0, e.o = some (.var cs0) ∧ cs.length = cs0.length := by
  unfold normEnt at h
  cases ho : e.o with
  | none => rw [ho] at h; cases h
  | some o =>
    cases o with
    | row y => rw [ho] at h; cases h
    | var cs0 => rw [ho] at h; cases h; exact ⟨cs0, rfl, by simp⟩
theorem normOb_cases {D : List Nat} {ob : List Ent} {k : Nat} {e : Ent} (h : (normOb D 0 ob)[k]? = some e) : ∃ e0, ob[k]? = some e0 ∧ ((memB k D = true ∧ e = normEnt e0) ∨ e = ⟨0, 0, none⟩) := by
  rw [normOb_at] at h
  obtain ⟨e0, h1, h2⟩ := Option.map_eq_some_iff.1 h
  rw [Nat.zero_add] at h2
  refine ⟨e0, h1, ?_⟩
  cases hm : memB k D with
  | true => rw [hm] at h2; exact .inl ⟨rfl, h2.symm⟩
  | false => rw [hm] at h2; exact .inr h2.symm
theorem norm_blk {G : Gh} {D : List Nat} {ob : List Ent} {p : Nat × Nat} {b : Nat} (h : Blk G (normOb D 0 ob) p b) : Blk G ob p b := by
  obtain ⟨k, q⟩ := p
  obtain ⟨e, h1, h2⟩ := h
  obtain ⟨e0, h3, h4⟩ := normOb_cases h1
  refine ⟨e0, h3, ?_⟩
  rcases h4 with ⟨_, rfl⟩ | rfl
  · cases q with
    | zero =>
      obtain ⟨⟨cs, h5⟩, h6⟩ := h2
      obtain ⟨cs0, h7, _⟩ := normEnt_var h5
      exact ⟨⟨cs0, h7⟩, h6⟩
    | succ q =>
      obtain ⟨x, h5, h6, h7⟩ := h2
      obtain ⟨y, h8, rfl⟩ := normEnt_cel h5
      exact ⟨y, h8, h6, h7⟩
  · cases q with
    | zero => obtain ⟨⟨cs, h5⟩, _⟩ := h2; cases h5
    | succ q => obtain ⟨x, h5, _⟩ := h2; cases h5
theorem norm_ok {N : Nat → Prop} {G : Gh} {ob : List Ent} (D : List Nat) (h : MOk N G ob w) : MOk N G (normOb D 0 ob) w := by
  refine ⟨fun k e j x hk hx => ?_, fun k e cs hk hx => ?_, fun p q b h1 h2 => h.dist p q b (norm_blk h1) (norm_blk h2), fun p b hb => h.bnd p b (norm_blk hb), h.frozen⟩
  · obtain ⟨e0, h3, h4⟩ := normOb_cases hk
    rcases h4 with ⟨_, rfl⟩ | rfl
    · obtain ⟨y, h5, rfl⟩ := normEnt_cel hx
      obtain ⟨i1, i2, i3⟩ := h.cel k e0 j y h3 h5
      exact ⟨i1, i2, Nat.zero_le _⟩
    · cases hx
  · obtain ⟨e0, h3, h4⟩ := normOb_cases hk
    rcases h4 with ⟨_, rfl⟩ | rfl
    · obtain ⟨cs0, h5, h6⟩ := normEnt_var hx
      obtain ⟨_, cur, t, i1, i2, i3⟩ := h.var k e0 cs0 h3 h5
      refine ⟨by rw [(normEnt_g e0).1, (normEnt_g e0).2]; exact Nat.le_refl _, cur, t, i1, by omega, fun j hj => i3 j (by omega)⟩
    · cases hx
theorem norm_av {G : Gh} {ob : List Ent} (D : List Nat) {v : AV} {u : Value} (h : AVOk G ob w v u) : AVOk G (normOb D 0 ob) w (normAV D ob v) u := by
  cases v with
  | sl k j g =>
    simp only [normAV]
    split
    · rename_i x hx
      cases hm : memB k D with
      | false => exact top_ok'
      | true =>
        obtain ⟨h0, ⟨e, h1, h2⟩, h3⟩ := h
        have he : entAt ob k = e := by unfold entAt; rw [List.getD_eq_getElem?_getD, h1]; rfl
        rw [he] at hx
        obtain ⟨c1, c2⟩ := celAt_some hx
        refine ⟨h0, ⟨normEnt e, ?_, Nat.zero_le _⟩, fun e' y hk hy hg => ?_⟩
        · rw [normOb_at, h1, Nat.zero_add]; simp [hm]
        · obtain ⟨e0, h5, h6⟩ := normOb_cases hk
          rw [h1] at h5
          cases h5
          exact h3 e x h1 c1 c2
    · exact top_ok'
  | ptr k g off =>
    simp only [normAV]
    split
    · rename_i cs hcs
      cases hb : (Nat.beq (entAt ob k).pg g && memB k D) with
      | false => exact top_ok'
      | true =>
        rw [Bool.and_eq_true] at hb
        obtain ⟨⟨⟨e, h1, h2⟩, hbb⟩, h3⟩ := h
        have he : entAt ob k = e := by unfold entAt; rw [List.getD_eq_getElem?_getD, h1]; rfl
        rw [he] at hcs hb
        refine ⟨⟨⟨normEnt e, ?_, Nat.zero_le _⟩, hbb⟩, fun e' cs' hk hy hg => h3 e cs h1 hcs (Nat.eq_of_beq_eq_true hb.1)⟩
        rw [normOb_at, h1, Nat.zero_add]; simp [hb.2]
    · exact top_ok'
  | elem => exact top_ok'
  | clo f k1 g1 k2 g2 =>
    simp only [normAV]
    split
    · rename_i c1 c2 hc1 hc2
      cases hb : ((Nat.beq (entAt ob k1).pg g1 && memB k1 D) && (Nat.beq (entAt ob k2).pg g2 && memB k2 D)) with
      | false => exact top_ok'
      | true =>
        rw [Bool.and_eq_true, Bool.and_eq_true, Bool.and_eq_true] at hb
        obtain ⟨v1, v2, rfl, p1, p2⟩ := h
        have one : ∀ {k g : Nat} {v : Value} {cs : List Cel}, PtrOk G ob k g 0 v → (entAt ob k).o = some (.var cs) → Nat.beq (entAt ob k).pg g = true → memB k D = true → PtrOk G (normOb D 0 ob) k 0 0 v := by
          intro k g v cs h hcs hb1 hb2
          obtain ⟨⟨⟨e, h1, h2⟩, hbb⟩, h3⟩ := h
          have he : entAt ob k = e := by unfold entAt; rw [List.getD_eq_getElem?_getD, h1]; rfl
          rw [he] at hcs hb1
          refine ⟨⟨⟨normEnt e, ?_, Nat.zero_le _⟩, hbb⟩, fun e' cs' hk hy hg => h3 e cs h1 hcs (Nat.eq_of_beq_eq_true hb1)⟩
          rw [normOb_at, h1, Nat.zero_add]; simp [hb2]
        exact ⟨v1, v2, rfl, one p1 hc1 hb.1.1 hb.1.2, one p2 hc2 hb.2.1 hb.2.2⟩
    · exact top_ok'
  | int => exact h
  | bool => exact h
  | str => exact h
  | ints => exact h
  | rows => exact h
  | nil => exact h
  | agg => exact h
  | tup => exact h
  | place => exact h
  | fn => exact h
  | smap => exact h
  | top => exact h
theorem Sim.norm (h : Sim c S a w) (D : List Nat) : Sim c (norm D S) a w := by
  obtain ⟨⟨G, h1, h2, h3, h4⟩, h5, h6⟩ := h
  refine ⟨⟨G, norm_ok D h1, ⟨(normTm_length _ _ _ _).trans h2.len, h2.defers, fun i x v hx hv => ?_⟩, h3, h4⟩, h5, h6⟩
  have hx : (normTm D S.ob 0 S.tm)[i]? = some x := hx
  rw [normTm_at] at hx
  obtain ⟨y, h7, h8⟩ := Option.map_eq_some_iff.1 hx
  rw [Nat.zero_add] at h8
  cases hm : memB i D with
  | true =>
    rw [hm] at h8
    rw [← h8]
    exact norm_av D (h2.at_ i y v h7 hv)
  | false =>
    rw [hm] at h8
    rw [← h8]
    exact top_ok'
theorem scrubTm_at {G : Gh} {ob : List Ent} : ∀ (ops : List Oper) (tm : List AV) (tmps : Array Value), (∀ (i : Nat) (x : AV) (v : Value), tm[i]? = some x → tmps[i]? = some v → AVOk G ob w x v) → ∀ (i : Nat) (x : AV) (v : Value), (scrubTm ops tm)[i]? = some x → tmps[i]? = some v → AVOk G ob w x v
  | [], tm, tmps, h => h
  | o :: r, tm, tmps, h => by
    unfold scrubTm
    split
    · rename_i t _ _
      refine scrubTm_at r _ tmps (fun i x v hx hv => ?_)
      by_cases hi : t = i
      · subst hi
        rw [List.getElem?_set_self' ] at hx
        cases ht : tm[t]? with
        | none => rw [ht] at hx; cases hx
        | some y => rw [ht] at hx; cases hx; exact top_ok'
      · rw [List.getElem?_set_ne hi] at hx
        exact h i x v hx hv
    · exact scrubTm_at r tm tmps h
theorem scrubTm_length : ∀ (ops : List Oper) (tm : List AV), (scrubTm ops tm).length = tm.length
  | [], tm => rfl
  | o :: r, tm => by
    unfold scrubTm
    split
    · rw [scrubTm_length r, List.length_set]
    · exact scrubTm_length r tm
theorem Sim.scrub (h : Sim c S a w) (ops : List Oper) : Sim c (Abs.scrub ops S) a w := by
  obtain ⟨⟨G, h1, h2, h3, h4⟩, h5, h6⟩ := h
  exact ⟨⟨G, h1, ⟨(scrubTm_length _ _).trans h2.len, h2.defers, scrubTm_at ops S.tm a.tmps h2.at_⟩, h3, h4⟩, h5, h6⟩
def exOf : Ex → Exit
  | .normal => .normal
  | .exit i => .exit i
  | .ret => .ret
def ZeroOk (c : Call0) (C : Code) : Prop := ∀ p ∈ c.fix, noAt p.1 C = true
theorem zero_ops {c : Call0} {id : Nat} {ops : Array Oper} {d : Bool} (h : ZeroOk c (.region id ops d)) : ∀ p ∈ c.fix, ∀ o ∈ ops.toList, o.dst ≠ some p.1 := by
  intro p hp o ho hd
  have := List.all_eq_true.1 (h p hp) o ho
  rw [hd] at this
  simp at this
theorem zero_and {c : Call0} {C A B : Code} (hn : ∀ k, noAt k C = (noAt k A && noAt k B)) (h : ZeroOk c C) : ZeroOk c A ∧ ZeroOk c B := by
  have h2 : ∀ p ∈ c.fix, noAt p.1 A = true ∧ noAt p.1 B = true := fun p hp => by
    have := h p hp
    rwa [hn, Bool.and_eq_true] at this
  exact ⟨fun p hp => (h2 p hp).1, fun p hp => (h2 p hp).2⟩
theorem noZero_at : ∀ (C : Code), noZero C = true → noAt 0 C = true := by
  intro C
  induction C with
  | region id ops d =>
    intro h
    refine List.all_eq_true.2 (fun o ho => ?_)
    have := List.all_eq_true.1 h o ho
    cases hd : o.dst with
    | none => rfl
    | some d =>
      rw [hd] at this
      cases d with
      | zero => cases this
      | succ d => rfl
  | seq a b iha ihb =>
    intro h
    have h : (noZero a && noZero b) = true := h
    show (noAt 0 a && noAt 0 b) = true
    rw [Bool.and_eq_true] at h ⊢
    exact ⟨iha h.1, ihb h.2⟩
  | cond c a b iha ihb =>
    intro h
    have h : (noZero a && noZero b) = true := h
    show (noAt 0 a && noAt 0 b) = true
    rw [Bool.and_eq_true] at h ⊢
    exact ⟨iha h.1, ihb h.2⟩
  | block id a ih => exact fun h => ih h
  | loop a ih => exact fun h => ih h
  | _ => intro h; rfl
/-- What the abstract machine does, the model does. -/
theorem den_code {R : Type} {r : R} (hT : tblOk P T = true) (horc : OrcOk P orc) (hmix : P.follows .mixedOrders = true) (hc : c.Ok) {again : Code → List Nat → St → (Ex → St → Option R) → Option R}
    (hag : ∀ (b : Code) (D : List Nat) (S : St) (K : Ex → St → Option R) (a : Act) (w : World) (Q : Exit → Act → World → Prop), again (.loop b) D S K = some r → ZeroOk c (.loop b) → Sim c S a w → (∀ e S' a' w', K e S' = some r → Sim c S' a' w' → Q (exOf e) a' w') → (Code.loop b).wp P Q a w) :
    ∀ (C : Code) (S : St) (K : Ex → St → Option R) (a : Act) (w : World) (Q : Exit → Act → World → Prop), denC T orc again C S K = some r → ZeroOk c C → Sim c S a w → (∀ e S' a' w', K e S' = some r → Sim c S' a' w' → Q (exOf e) a' w') → C.wp P Q a w := by
  intro C
  induction C with
  | skip => intro S K a w Q h hz hs hK; exact wp_skip (hK .normal S a w h hs)
  | region id ops draw =>
    intro S K a w Q h hz hs hK
    cases draw with
    | true => exact region_any_ok hT horc hmix hc (zero_ops hz) (fun S' a' w' h1 hs' => hK .normal (scrub ops.toList S') a' w' h1 (hs'.scrub _)) h hs
    | false => exact region_ok hT horc hc (zero_ops hz) (fun S' a' w' h1 hs' => hK .normal (scrub ops.toList S') a' w' h1 (hs'.scrub _)) h hs
  | seq x y ihx ihy =>
    intro S K a w Q h hz hs hK
    obtain ⟨z1, z2⟩ := zero_and (fun _ => rfl) hz
    refine wp_seq (ihx S _ a w _ h z1 hs (fun e S' a' w' h1 hs' => ?_))
    cases e with
    | normal => exact ihy S' K a' w' Q h1 z2 hs' hK
    | exit i => exact hK _ S' a' w' h1 hs'
    | ret => exact hK _ S' a' w' h1 hs'
  | cond x y z ihy ihz =>
    intro S K a w Q h hz hs hK
    obtain ⟨z1, z2⟩ := zero_and (fun _ => rfl) hz
    unfold denC at h
    split at h
    · rename_i t ht
      obtain ⟨G, h1, h2, h3, h4⟩ := hs.ex
      have hv := h2.opnd x
      rw [ht] at hv
      cases t with
      | true => exact wp_cond_true (av_bool hv) (ihy S K a w Q h z1 hs hK)
      | false => exact wp_cond_false (av_bool hv) (ihz S K a w Q h z2 hs hK)
    · cases h
  | block id x ih =>
    intro S K a w Q h hz hs hK
    refine wp_block (ih S _ a w _ h hz hs (fun e S' a' w' h1 hs' => ?_))
    cases e with
    | normal => exact hK _ S' a' w' h1 hs'
    | ret => exact hK _ S' a' w' h1 hs'
    | exit i =>
      simp only at h1
      show Exit.inBlock id Q (.exit i) a' w'
      unfold Exit.inBlock
      cases hb : Nat.beq i id with
      | true =>
        rw [hb] at h1
        have hi := Nat.eq_of_beq_eq_true hb
        simp only [hi, if_true]
        exact hK .normal S' a' w' h1 hs'
      | false =>
        rw [hb] at h1
        have hi : i ≠ id := fun he => by rw [he, Nat.beq_refl] at hb; cases hb
        simp only [hi, if_false]
        exact hK (.exit i) S' a' w' h1 hs'
  | exit id => intro S K a w Q h hz hs hK; exact wp_exit (hK (.exit id) S a w h hs)
  | ret => intro S K a w Q h hz hs hK; exact wp_ret (hK .ret S a w h hs)
  | loop b ih => intro S K a w Q h hz hs hK; exact hag b _ _ K a w Q h hz (hs.norm _) hK
  | _ => intro S K a w Q h; simp [denC] at h
theorem den_loop {R : Type} {r : R} (hT : tblOk P T = true) (horc : OrcOk P orc) (hmix : P.follows .mixedOrders = true) (hc : c.Ok) : ∀ (n : Nat) (b : Code) (D : List Nat) (S : St) (K : Ex → St → Option R) (a : Act) (w : World) (Q : Exit → Act → World → Prop), den T orc n (.loop b) D S K = some r → ZeroOk c (.loop b) → Sim c S a w → (∀ e S' a' w', K e S' = some r → Sim c S' a' w' → Q (exOf e) a' w') → Code.rounds P b Q n a w
  | 0, b, D, S, K, a, w, Q, h, _, _, _ => by cases h
  | n + 1, b, D, S, K, a, w, Q, h, hz, hs, hK => by
    rw [rounds_succ]
    have h : round T orc (den T orc n) (.loop b) D S K = some r := h
    unfold round at h
    refine den_code hT horc hmix hc (fun b D S K a w Q h1 hz1 hs1 hK1 => wp_loop_rounds n (den_loop hT horc hmix hc n b D S K a w Q h1 hz1 hs1 hK1)) b S _ a w _ h hz hs (fun e S' a' w' h1 hs' => ?_)
    cases e with
    | normal => exact den_loop hT horc hmix hc n b D _ K a' w' Q h1 hz (hs'.norm D) hK
    | exit i => exact hK _ _ a' w' h1 (hs'.norm D)
    | ret => exact hK _ _ a' w' h1 (hs'.norm D)
end
end Go.Abs
end
section
/- An abstract machine for the model's code, part V: functions. -/
namespace Go.Abs
open Go.RowKit
def resSem (tmps : Array Value) : ResultVar → Sem Value
  | .tmp t => pure (tmps.getD t undef)
  | .cell a t => do loadVar t (← asAddr (tmps.getD a undef))
theorem run_results {P : Program} {fn : Func} {tmps : Array Value} {w : World} {us : List Value} (hl : fn.results.toList.length = us.length) (h : ∀ (i : Nat) (r : ResultVar) (u : Value), fn.results.toList[i]? = some r → us[i]? = some u → (resSem tmps r).run P w = .ok u w) :
    (Go.results fn tmps).run P w = .ok (match us with | [u] => u | us => .tuple us.toArray) w := by
  have key : ∀ (rs : List ResultVar) (us : List Value), rs.length = us.length → (∀ (i : Nat) (r : ResultVar) (u : Value), rs[i]? = some r → us[i]? = some u → (resSem tmps r).run P w = .ok u w) → (rs.mapM (resSem tmps)).run P w = .ok us w := by
    intro rs
    induction rs with
    | nil =>
      intro us hl h
      obtain rfl : us = [] := List.eq_nil_of_length_eq_zero hl.symm
      simp
    | cons r rs ih =>
      intro us hl h
      cases us with
      | nil => simp at hl
      | cons u us =>
        have h0 := h 0 r u rfl rfl
        have h1 := ih us (by simpa using hl) (fun i r u h1 h2 => h (i + 1) r u (by simpa using h1) (by simpa using h2))
        simp [List.mapM_cons, h0, h1]
  have hres : Go.results fn tmps = (do
      let vs ← fn.results.mapM (resSem tmps)
      pure (if h : vs.size = 1 then vs[0] else .tuple vs)) := rfl
  rw [hres, Array.mapM_eq_mapM_toList]
  simp only [Sem.run_bind, Sem.run_map, key _ us hl h, Result.andThen_ok, Sem.run_pure]
  cases us with
  | nil => simp
  | cons u us => cases us with
    | nil => simp
    | cons u2 us => simp
section
variable {P : Program} {T : Tbl} {orc : Orc} {S : St} {w : World} {a : Act} {N : Nat → Prop} {G : Gh}
/-- A block of a row of one's own. -/
def OwnB (G : Gh) (ob : List Ent) (b : Nat) : Prop := ∃ k j, Blk G ob (k, j + 1) b
theorem own_frozen {ob : List Ent} (h : MOk N G ob w) {k j : Nat} {e : Ent} {x : Cel} (hk : ob[k]? = some e) (hx : cel e j = some x) : Rep (fun b => G.F b ∨ OwnB G ob b) w x.v (G.ν k j) := by
  have h1 := (h.cel k e j x hk hx).1
  unfold CelOk at h1
  cases ho : x.own with
  | true =>
    rw [if_pos ho] at h1
    exact h1.rep (fun _ h => .inl h) (fun b hb => .inr ⟨_, _, blkS hk hx ho hb⟩)
  | false =>
    rw [ho] at h1
    have h1 : Rep G.F w x.v (G.ν k j) := h1
    exact h1.mono (fun _ h => .inl h) (fun _ _ => rfl)
def ResIs (G : Gh) (ob : List Ent) (w : World) (r : Res) (v : Value) : Prop :=
  match r with
  | .val x => Rep (fun b => G.F b ∨ OwnB G ob b) w x v
  | .own x => Own G.F w x v ∧ Rep (fun b => G.F b ∨ OwnB G ob b) w x v ∧ ∀ b, v.oblk = some b → ∃ p, Blk G ob p b
  | .gave _ _ => False
  | .upd _ _ => False
  | .took _ => False
  | .clo .. => False
theorem res_of (hT : tblOk P T = true) (h : MOk N G S.ob w) (hs : Holds G S a w) {rv : ResultVar} {ty : Nat} {r : Res} (hr : resOf T S rv ty = some r) : ∃ v, (resSem a.tmps rv).run P w = .ok v w ∧ ResIs G S.ob w r v := by
  have ent_ : ∀ {k : Nat} {e : Ent}, S.ob[k]? = some e → entAt S.ob k = e := by
    intro k e hk
    unfold entAt
    rw [List.getD_eq_getElem?_getD, hk]
    rfl
  have cell_ : ∀ {k j : Nat} {e : Ent} {x : Cel} {v : Value}, S.ob[k]? = some e → cel e j = some x → v = G.ν k j → ResIs G S.ob w (bif x.own then .own x.v else .val x.v) v := by
    rintro k j e x v hk hx rfl
    have h1 := (h.cel k e j x hk hx).1
    have h2 := own_frozen h hk hx
    unfold CelOk at h1
    cases ho : x.own with
    | true =>
      rw [if_pos ho] at h1
      exact ⟨h1, h2, fun b hb => ⟨_, blkS hk hx ho hb⟩⟩
    | false => exact h2
  cases rv with
  | tmp t =>
    have hv := hs.opnd (.tmp t)
    have hv : AVOk G S.ob w (S.tm.getD t .top) (a.tmps.getD t undef) := hv
    refine ⟨_, rfl, ?_⟩
    simp only [resOf] at hr
    split at hr
    · rename_i k j g heq
      rw [heq] at hv
      obtain ⟨x, hx, hr⟩ := Option.bind_eq_some_iff.1 hr
      cases hr
      obtain ⟨h0, ⟨e, h1, h2⟩, h3⟩ := hv
      rw [ent_ h1] at hx
      obtain ⟨c1, c2⟩ := celAt_some hx
      exact cell_ h1 c1 (h3 e x h1 c1 c2)
    · cases hr
    · cases hr
    · cases hr
    · cases hr
    · cases hr
    · rename_i n1 n2 n3 n4 n5 n6
      cases hr
      have hv : Rep G.F w (S.tm.getD t .top) (a.tmps.getD t undef) := by
        generalize S.tm.getD t .top = v at hv n1 n2 n3 n4 n5 n6
        cases v <;> first | exact hv | exact absurd rfl (n1 _ _ _) | exact absurd rfl (n2 _ _ _) | exact absurd rfl (n3 _ _ _ _ _) | exact absurd rfl (n6 _ _ _ _ _)
      exact plain_rep (hv.mono (fun _ h => Or.inl h) (fun _ _ => rfl))
  | cell t ct =>
    have hv := hs.opnd (.tmp t)
    have hv : AVOk G S.ob w (S.tm.getD t .top) (a.tmps.getD t undef) := hv
    simp only [resOf] at hr
    split at hr
    · rename_i k g heq
      rw [heq] at hv
      split at hr
      · rename_i cs hcs
        cases hb : Nat.beq (entAt S.ob k).pg g with
        | false => rw [hb] at hr; cases hr
        | true =>
          rw [hb] at hr
          simp only [cond_true] at hr
          obtain ⟨⟨⟨e, h1, h2⟩, _⟩, h3⟩ := hv
          rw [ent_ h1] at hcs hb
          have hptr := h3 e cs h1 hcs (Nat.eq_of_beq_eq_true hb)
          obtain ⟨_, cur, te, i1, i2, i3⟩ := h.var k e cs h1 hcs
          have hcell : ∀ j, j < cs.length → w.cell? ((⟨G.β k, 0, none⟩ : Addr).add j) = some (G.ν k j) := by
            intro j hj
            rw [at_zero]
            simpa [World.cell?, i1] using i3 j hj
          have hc : ∀ (j : Nat) (x : Cel), cs[j]? = some x → cel e j = some x := fun j x hx => by unfold cel; rw [hcs]; exact hx
          have hsem : ∀ v, (loadVar ct ⟨G.β k, 0, none⟩).run P w = .ok v w → (resSem a.tmps (.cell t ct)).run P w = .ok v w := by
            intro v hv
            simp only [resSem]
            rw [hptr]
            simp [asAddr, hv]
          split at hr
          · rename_i fs n z hty
            cases hn : Nat.beq n cs.length with
            | false => rw [hn] at hr; cases hr
            | true =>
              rw [hn] at hr
              cases hr
              have hn := Nat.eq_of_beq_eq_true hn
              obtain ⟨ha, i, hi, hin⟩ := ty_agg hT hty
              refine ⟨_, hsem _ (run_loadVar_agg (vs := (List.range cs.length).map (G.ν k)) ha hi (by simp; omega) (fun j v hj => ?_)), ?_⟩
              · rw [List.getElem?_map] at hj
                obtain ⟨q, hq, rfl⟩ := Option.map_eq_some_iff.1 hj
                obtain ⟨q1, q2⟩ := List.getElem?_eq_some_iff.1 hq
                simp at q1 q2
                subst q2
                exact hcell j q1
              · refine plain_rep (rep_agg_of _ _ (by simp) (fun j x v hx hj => ?_))
                rw [List.getElem?_map] at hj hx
                obtain ⟨q, hq, rfl⟩ := Option.map_eq_some_iff.1 hj
                obtain ⟨y, hy, rfl⟩ := Option.map_eq_some_iff.1 hx
                obtain ⟨q1, q2⟩ := List.getElem?_eq_some_iff.1 hq
                simp at q1 q2
                subst q2
                exact ⟨(h.cel k e j y h1 (hc j y hy)).2.1, own_frozen h h1 (hc j y hy)⟩
          · rename_i hns
            cases ho : isOne (tyAt T ct) with
            | false => rw [ho] at hr; cases hr
            | true =>
              rw [ho] at hr
              simp only [cond_true] at hr
              split at hr
              · rename_i x
                cases hr
                have hag : aggB P ct = some false := ty_scalar hT (by
                  cases ht : tyAt T ct <;> rw [ht] at ho <;> first | rfl | cases ho) hns
                refine ⟨_, hsem _ (run_loadVar_one hag (by simpa [Addr.add] using hcell 0 (by simp))), ?_⟩
                have := cell_ h1 (hc 0 x rfl) rfl
                cases hox : x.own with
                | true => rw [hox] at this; exact this
                | false => rw [hox] at this; exact plain_rep this
              · cases hr
      · cases hr
    · cases hr
theorem res_vals (hT : tblOk P T = true) (h : MOk N G S.ob w) (hs : Holds G S a w) : ∀ (rs : List ResultVar) (ts : List Nat) (l : List AV), resVals T S rs ts = some l → ∃ us : List Value, rs.length = us.length ∧ l.length = us.length ∧ (∀ (i : Nat) (r : ResultVar) (u : Value), rs[i]? = some r → us[i]? = some u → (resSem a.tmps r).run P w = .ok u w) ∧
    ∀ (i : Nat) (x : AV) (u : Value), l[i]? = some x → us[i]? = some u → Rep (fun b => G.F b ∨ OwnB G S.ob b) w x u
  | [], ts, l, hr => by
    cases ts with
    | nil => cases hr; exact ⟨[], rfl, rfl, (fun i r u h => by simp at h), (fun i r u h => by simp at h)⟩
    | cons _ _ => cases hr
  | rv :: rs, ts, l, hr => by
    cases ts with
    | nil => cases hr
    | cons t ts =>
      unfold resVals at hr
      have fin : ∀ (r : Res) (x : AV) (l' : List AV), resOf T S rv t = some r → (∀ v, ResIs G S.ob w r v → Rep (fun b => G.F b ∨ OwnB G S.ob b) w x v) → resVals T S rs ts = some l' → l = x :: l' → ∃ us : List Value, (rv :: rs).length = us.length ∧ l.length = us.length ∧ (∀ (i : Nat) (r : ResultVar) (u : Value), (rv :: rs)[i]? = some r → us[i]? = some u → (resSem a.tmps r).run P w = .ok u w) ∧
          ∀ (i : Nat) (x : AV) (u : Value), l[i]? = some x → us[i]? = some u → Rep (fun b => G.F b ∨ OwnB G S.ob b) w x u := by
        rintro r x l' h1 h2 h3 rfl
        obtain ⟨v, h4, h5⟩ := res_of hT h hs h1
        obtain ⟨us, i1, i2, i3, i4⟩ := res_vals hT h hs rs ts l' h3
        refine ⟨v :: us, by simp [i1], by simp [i2], fun i r u h6 h7 => ?_, fun i x' u h6 h7 => ?_⟩
        · cases i with
          | zero => cases h6; cases h7; exact h4
          | succ i => exact i3 i r u (by simpa using h6) (by simpa using h7)
        · cases i with
          | zero => cases h6; cases h7; exact h2 v h5
          | succ i => exact i4 i x' u (by simpa using h6) (by simpa using h7)
      split at hr
      · rename_i v hv
        obtain ⟨l', h1, h2⟩ := Option.bind_eq_some_iff.1 hr
        cases h2
        exact fin _ v l' hv (fun _ h => h) h1 rfl
      · rename_i v hv
        obtain ⟨l', h1, h2⟩ := Option.bind_eq_some_iff.1 hr
        cases h2
        exact fin _ v l' hv (fun _ h => h.2.1) h1 rfl
      · cases hr
theorem results_ok (hT : tblOk P T = true) (h : MOk N G S.ob w) (hs : Holds G S a w) {fn : Func} {r : Res} (hr : results T fn S = some r) : ∃ v, (Go.results fn a.tmps).run P w = .ok v w ∧ ResIs G S.ob w r v := by
  unfold results at hr
  split at hr
  · rename_i rv t h1 h2
    obtain ⟨v, h3, h4⟩ := res_of hT h hs hr
    refine ⟨v, run_results (us := [v]) (by rw [h1]; rfl) (fun i r u h5 h6 => ?_), h4⟩
    rw [h1] at h5
    cases i with
    | zero => cases h5; cases h6; exact h3
    | succ i => simp at h5
  · rename_i rs ts hne
    obtain ⟨l, h1, h2⟩ := Option.bind_eq_some_iff.1 hr
    cases h2
    obtain ⟨us, i1, i2, i3, i4⟩ := res_vals hT h hs _ _ l h1
    have hu : us.length ≠ 1 := by
      intro hu
      have h3 : fn.results.toList.length = 1 := i1.trans hu
      have h4 : fn.resultTypes.toList.length = 1 := by
        cases h5 : fn.results.toList with
        | nil => rw [h5] at h3; cases h3
        | cons x xs => cases h6 : fn.resultTypes.toList with
          | nil => rw [h5, h6] at h1; cases h1
          | cons y ys =>
            cases xs with
            | nil =>
              cases ys with
              | nil => rfl
              | cons y2 ys =>
                rw [h5, h6] at h1
                unfold resVals at h1
                split at h1
                · obtain ⟨_, h7, _⟩ := Option.bind_eq_some_iff.1 h1; cases h7
                · obtain ⟨_, h7, _⟩ := Option.bind_eq_some_iff.1 h1; cases h7
                · cases h1
            | cons _ _ => rw [h5] at h3; simp at h3
      obtain ⟨x, hx⟩ := List.length_eq_one_iff.1 h3
      obtain ⟨y, hy⟩ := List.length_eq_one_iff.1 h4
      exact hne x y hx hy
    refine ⟨.tuple us.toArray, ?_, ?_⟩
    · have := run_results (P := P) (w := w) (us := us) i1 i3
      rw [this]
      cases us with
      | nil => rfl
      | cons u us => cases us with
        | nil => exact absurd rfl hu
        | cons _ _ => rfl
    · refine Rep.tup l us.toArray (by simpa using i2) (fun i x v h3 h4 => i4 i x v h3 (by simpa using h4))
/-- A function's answer by the abstract machine is its answer. -/
theorem run_ok (hT : tblOk P T = true) (horc : OrcOk P orc) (hmix : P.follows .mixedOrders = true) {f n : Nat} {fn : Func} (hf : P.funcs[f]? = some fn) (hnm : (fn.name == "runtime.NumGoroutine") = false) {args : List AV} {r : Res} (hr : run T orc n fn args = some r)
    (F : Nat → Prop) (w : World) (vs : List Value) (hF : ∀ k, F k → k < w.heap.size) (hav : RepL F w args vs) : Runs P f vs w (ResOk F w r args vs) := by
  unfold run at hr
  split at hr
  · rename_i C hb
    refine ⟨fn, hf, hnm, by rw [hb]; rfl, ?_⟩
    let c : Call0 := ⟨fun b => w.heap.size ≤ b, F, w, []⟩
    have hc : c.Ok := ⟨fun _ h => h, fun k hk => ⟨hF k hk, by have := hF k hk; show ¬ (w.heap.size ≤ k); omega⟩⟩
    have hlen : args.length = vs.length := hav.1
    have hs0 : Sim c (start fn args) { tmps := vs.toArray ++ Array.replicate (fn.ntmps - vs.toArray.size) undef, defers := [] } w := by
      refine ⟨⟨⟨F, fun _ => 0, fun _ _ => undef⟩, ⟨fun k e j x hk hx => ?_, fun k e cs hk hx => ?_, fun p q b hp => ?_, fun p b hp => ?_, hF⟩, ⟨by simp [start, hlen], rfl, fun i x v hx hv => ?_⟩, fun _ h => h, fun _ h => .inl h⟩, .refl _ w, fun v0 hv => by cases hv⟩
      · obtain rfl := (List.mem_replicate.1 (List.mem_of_getElem? hk)).2
        cases hx
      · obtain rfl := (List.mem_replicate.1 (List.mem_of_getElem? hk)).2
        cases hx
      · obtain ⟨e, hk, h2⟩ := hp
        obtain rfl := (List.mem_replicate.1 (List.mem_of_getElem? hk)).2
        split at h2
        · obtain ⟨⟨cs, h3⟩, _⟩ := h2; cases h3
        · obtain ⟨x, h3, _⟩ := h2; cases h3
      · obtain ⟨e, hk, h2⟩ := hp
        obtain rfl := (List.mem_replicate.1 (List.mem_of_getElem? hk)).2
        split at h2
        · obtain ⟨⟨cs, h3⟩, _⟩ := h2; cases h3
        · obtain ⟨x, h3, _⟩ := h2; cases h3
      · have hx : (args ++ List.replicate (fn.ntmps - args.length) AV.top)[i]? = some x := hx
        by_cases hi : i < args.length
        · rw [List.getElem?_append_left hi] at hx
          rw [Array.getElem?_append_left (by simp; omega)] at hv
          exact rep_av (hav.2 i x v hx (by simpa using hv))
        · rw [List.getElem?_append_right (by omega)] at hx
          obtain rfl := (List.mem_replicate.1 (List.mem_of_getElem? hx)).2
          exact top_ok'
    refine calls_of_wp hf hb (den_code hT horc hmix hc (fun b D S K a w Q h1 hz1 hs1 hK1 => wp_loop_rounds n (den_loop hT horc hmix hc n b D S K a w Q h1 hz1 hs1 hK1)) C _ _ _ _ _ hr (fun _ h => by cases h) hs0 (fun e S' a' w' h1 hs' => ?_))
    have fin : results T fn S' = some r → a'.defers = [] ∧ ∃ v, (Go.results fn a'.tmps).run P w' = .ok v w' ∧ ∃ v', (Ending.returned v) = .returned v' ∧ ResOk F w r args vs v' w' := by
      intro hres
      obtain ⟨⟨G, m1, m2, m3, m4⟩, m5, _⟩ := hs'
      obtain ⟨v, h2, h3⟩ := results_ok hT m1 m2 hres
      refine ⟨m2.defers, v, h2, v, rfl, ?_⟩
      have ups1 : Ups F (fun b => G.F b ∨ OwnB G S'.ob b) w w' := by
        refine ⟨fun k hk => .inl (m3 k hk), fun k hk => ?_, fun k hk => ?_⟩
        · rcases hk with hk | ⟨k0, j0, hp⟩
          · exact m4 k hk
          · exact .inr (m1.bnd _ k hp).2.2
        · rcases hk with hk | ⟨k0, j0, hp⟩
          · exact m1.frozen k hk
          · exact (m1.bnd _ k hp).2.1
      cases r with
      | val x => exact ⟨m5, _, ups1, h3⟩
      | own x => exact ⟨m5, G.F, ⟨m3, m4, m1.frozen⟩, h3.1, fun b hb => by
          obtain ⟨p, hp⟩ := h3.2.2 b hb
          obtain ⟨k1, k2, k3⟩ := m1.bnd p b hp
          exact ⟨k3, k2, k1⟩⟩
      | gave _ _ => exact h3.elim
      | upd _ _ => exact h3.elim
      | took _ => exact h3.elim
      | clo _ => exact h3.elim
    cases e with
    | normal => exact fin h1
    | ret => exact fin h1
    | exit i => cases h1
  · cases hr
end
end Go.Abs
end
section
/- An abstract machine for the model's code, part W: functions that give a row back; tables of answers. -/
namespace Go.Abs
open Go.RowKit
theorem flat1_rep {F F' : Nat → Prop} {w w' : World} {y : AV} {u : Value} (hy : flat1 y = true) (h : Rep F w y u) : Rep F' w' y u := by
  cases h <;> first | (cases hy; done) | skip
  · exact .int _ _
  · exact .bool _
  · exact .str _
theorem flat_rep {F F' : Nat → Prop} {w w' : World} {y : AV} {u : Value} (hy : flat y = true) (h : Rep F w y u) : Rep F' w' y u := by
  unfold flat at hy
  split at hy
  · rename_i vs
    cases h with
    | tup _ us hl hr => exact .tup vs us hl (fun i a v h1 h2 => flat1_rep (List.all_eq_true.1 hy a (List.mem_of_getElem? h1)) (hr i a v h1 h2))
  · exact flat1_rep hy h
section
variable {P : Program} {T : Tbl} {orc : Orc}
theorem runM_ok (hT : tblOk P T = true) (horc : OrcOk P orc) (hmix : P.follows .mixedOrders = true) {f n : Nat} {fn : Func} (hf : P.funcs[f]? = some fn) (hnm : (fn.name == "runtime.NumGoroutine") = false) {args : List AV} {x y : AV} (hr : runM T orc n fn args = some (.gave x y))
    (F : Nat → Prop) (w : World) (vs : List Value) (hF : ∀ k, F k → k < w.heap.size) (hav : ArgsOk F w (.gave x y) args vs) : Runs P f vs w (ResOk F w (.gave x y) args vs) := by
  obtain ⟨row, rest, v0, us, rfl, rfl, hown, hbl, hrest⟩ := hav
  unfold runM at hr
  split at hr
  · rename_i C row' args' hb heq
    cases heq
    cases hz : noZero C with
    | false => rw [hz] at hr; cases hr
    | true =>
    rw [hz] at hr
    simp only [cond_true] at hr
    refine ⟨fn, hf, hnm, by rw [hb]; rfl, ?_⟩
    let c : Call0 := ⟨fun b => w.heap.size ≤ b ∨ v0.oblk = some b, F, w, [(0, v0)]⟩
    have hc : c.Ok := ⟨fun _ h => .inl h, fun k hk => ⟨hF k hk, fun h => h.elim (fun h => by have := hF k hk; omega) (fun h => (hbl k h).1 hk)⟩⟩
    have hlen : rest.length = us.length := hrest.1
    let G : Gh := ⟨F, fun _ => 0, fun _ _ => v0⟩
    have ent0 : ∀ {k : Nat} {e : Ent}, (startM fn row rest).ob[k]? = some e → (k = 0 ∧ e = ⟨1, 0, some (.row ⟨1, true, row⟩)⟩) ∨ e = ⟨0, 0, none⟩ := by
      intro k e hk
      cases k with
      | zero => cases hk; exact .inl ⟨rfl, rfl⟩
      | succ k =>
        have hk : (List.replicate (fn.ntmps - 1) (⟨0, 0, none⟩ : Ent))[k]? = some e := by simpa [startM] using hk
        exact .inr (List.mem_replicate.1 (List.mem_of_getElem? hk)).2
    have blk_ : ∀ p b, Blk G (startM fn row rest).ob p b → p = (0, 1) ∧ v0.oblk = some b := by
      rintro ⟨k, q⟩ b ⟨e, hk, h2⟩
      rcases ent0 hk with ⟨rfl, rfl⟩ | rfl
      · cases q with
        | zero => obtain ⟨⟨cs, h3⟩, _⟩ := h2; cases h3
        | succ q =>
          obtain ⟨z, h3, h4, h5⟩ := h2
          unfold cel at h3
          simp only at h3
          by_cases hq : q = 0
          · subst hq; exact ⟨rfl, h5⟩
          · rw [if_neg hq] at h3; cases h3
      · cases q with
        | zero => obtain ⟨⟨cs, h3⟩, _⟩ := h2; cases h3
        | succ q => obtain ⟨z, h3, _⟩ := h2; cases h3
    have hs0 : Sim c (startM fn row rest) { tmps := (v0 :: us).toArray ++ Array.replicate (fn.ntmps - (v0 :: us).toArray.size) undef, defers := [] } w := by
      refine ⟨⟨G, ⟨fun k e j z hk hz => ?_, fun k e cs hk hx => ?_, fun p q b hp hq => ?_, fun p b hp => ?_, hF⟩, ⟨by simp [startM, hlen]; omega, rfl, fun i z v hx hv => ?_⟩, fun _ h => h, fun _ h => .inl h⟩, .refl _ w, fun v hv => ?_⟩
      · rcases ent0 hk with ⟨rfl, rfl⟩ | rfl
        · unfold cel at hz
          simp only at hz
          by_cases hj : j = 0
          · rw [if_pos hj] at hz
            cases hz
            exact ⟨by unfold CelOk; rw [if_pos rfl]; exact hown, hown.one, Nat.le_refl _⟩
          · rw [if_neg hj] at hz; cases hz
        · cases hz
      · rcases ent0 hk with ⟨rfl, rfl⟩ | rfl <;> cases hx
      · rw [(blk_ p b hp).1, (blk_ q b hq).1]
      · have := (blk_ p b hp).2
        exact ⟨(hbl b this).1, (hbl b this).2, .inr this⟩
      · cases i with
        | zero =>
          have hx : some (AV.sl 0 0 1) = some z := hx
          cases hx
          have hv : v0 = v := by
            rw [Array.getElem?_append_left (by simp)] at hv
            simpa using hv
          subst hv
          exact ⟨hown.one, ⟨_, rfl, Nat.le_refl _⟩, fun e z _ _ _ => rfl⟩
        | succ i =>
          have hx : (rest ++ List.replicate (fn.ntmps - (rest.length + 1)) AV.top)[i]? = some z := by simpa [startM] using hx
          by_cases hi : i < rest.length
          · rw [List.getElem?_append_left hi] at hx
            rw [Array.getElem?_append_left (by simp; omega)] at hv
            exact rep_av (hrest.2 i z v hx (by simpa using hv))
          · rw [List.getElem?_append_right (by omega)] at hx
            obtain rfl := (List.mem_replicate.1 (List.mem_of_getElem? hx)).2
            exact top_ok'
      · obtain rfl : v = (0, v0) := List.mem_singleton.1 hv
        show ((v0 :: us).toArray ++ Array.replicate (fn.ntmps - (v0 :: us).toArray.size) undef)[0]? = some v0
        rw [Array.getElem?_append_left (by simp)]
        simp
    refine calls_of_wp hf hb (den_code hT horc hmix hc (fun b D S K a w Q h1 hz1 hs1 hK1 => wp_loop_rounds n (den_loop hT horc hmix hc n b D S K a w Q h1 hz1 hs1 hK1)) C _ _ _ _ _ hr (fun p hp => by obtain rfl : p = (0, v0) := List.mem_singleton.1 hp; exact noZero_at C hz) hs0 (fun e S' a' w' h1 hs' => ?_))
    have fin : resultM T fn S' = some (.gave x y) → a'.defers = [] ∧ ∃ v, (Go.results fn a'.tmps).run P w' = .ok v w' ∧ ∃ v', (Ending.returned v) = .returned v' ∧ ResOk F w (.gave x y) (row :: rest) (v0 :: us) v' w' := by
      intro hres
      obtain ⟨⟨G, m1, m2, m3, m4⟩, m5, m6⟩ := hs'
      unfold resultM at hres
      split at hres
      · rename_i k j g tm v htm hv
        obtain ⟨z, hz1, hz2⟩ := Option.bind_eq_some_iff.1 hres
        cases hzf : (z.own && flat v) with
        | false => rw [hzf] at hz2; cases hz2
        | true =>
          rw [hzf] at hz2
          cases hz2
          rw [Bool.and_eq_true] at hzf
          obtain ⟨hzo, hfl⟩ := hzf
          obtain ⟨u, h2, h3⟩ := results_ok hT m1 m2 hv
          refine ⟨m2.defers, u, h2, u, rfl, ?_⟩
          intro v0' us' he
          cases he
          have hat := m2.at_ 0 _ v0 (by rw [htm]; rfl) (m6 (0, v0) (List.mem_singleton.2 rfl))
          obtain ⟨_, ⟨e, e1, e2⟩, e3⟩ := hat
          have hent : entAt S'.ob k = e := by unfold entAt; rw [List.getD_eq_getElem?_getD, e1]; rfl
          rw [hent] at hz1
          obtain ⟨c1, c2⟩ := celAt_some hz1
          have hv0 := e3 e z e1 c1 c2
          have hO := (m1.cel k e j z e1 c1).1
          unfold CelOk at hO
          rw [if_pos hzo, ← hv0] at hO
          have hp0 : ∀ b, v0.oblk = some b → Blk G S'.ob (k, j + 1) b := fun b hb => blkS e1 c1 hzo (by rw [← hv0]; exact hb)
          refine ⟨m5, G.F, ⟨m3, fun k' hk => ?_, m1.frozen⟩, hO, flat_rep hfl h3⟩
          rcases m4 k' hk with h4 | h4 | h4
          · exact .inl h4
          · exact .inr h4
          · exact absurd hk ((m1.bnd _ k' (hp0 k' h4)).1)
      · cases hres
    cases e with
    | normal => exact fin h1
    | ret => exact fin h1
    | exit i => cases h1
  · cases hr
/-- A function answers as a table says. -/
def Meets (P : Program) (f : Nat) (A : List AV → Option (Bool × Res)) : Prop := ∀ args r, A args = some (true, r) → ∀ F w vs, (∀ k, F k → k < w.heap.size) → ArgsOk F w r args vs → Runs P f vs w (ResOk F w r args vs)
abbrev Ans := List (Nat × (List AV → Option (Bool × Res)))
def orcOf : Ans → Orc
  | [], _, _ => none
  | (f, A) :: l, g, args => bif Nat.beq f g then A args else orcOf l g args
def MeetsAll (P : Program) : Ans → Prop
  | [] => True
  | (f, A) :: l => Meets P f A ∧ MeetsAll P l
theorem orc_ok : ∀ {l : Ans}, MeetsAll P l → OrcOk P (orcOf l)
  | [], _, g, args, r, h => by cases h
  | (f, A) :: l, ⟨h1, h2⟩, g, args, r, h => by
    unfold orcOf at h
    cases hb : Nat.beq f g with
    | true =>
      rw [hb] at h
      obtain rfl := Nat.eq_of_beq_eq_true hb
      exact h1 args r h
    | false =>
      rw [hb] at h
      exact orc_ok h2 g args r h
def notGave : Res → Bool
  | .gave .. => false
  | .upd .. => false
  | .took .. => false
  | .clo .. => false
  | _ => true
theorem meets_run (hT : tblOk P T = true) (horc : OrcOk P orc) (hmix : P.follows .mixedOrders = true) {f : Nat} {fn : Func} (hf : P.funcs[f]? = some fn) (hnm : (fn.name == "runtime.NumGoroutine") = false) {A : List AV → Option (Bool × Res)}
    (h : ∀ args r, A args = some (true, r) → notGave r = true ∧ ∃ n, run T orc n fn args = some r) : Meets P f A := by
  intro args r hA F w vs hF hav
  obtain ⟨h1, n, h2⟩ := h args r hA
  refine run_ok hT horc hmix hf hnm h2 F w vs hF ?_
  cases r with
  | val => exact hav
  | own => exact hav
  | gave => cases h1
  | upd => cases h1
  | took => cases h1
  | clo => cases h1
theorem meets_runM (hT : tblOk P T = true) (horc : OrcOk P orc) (hmix : P.follows .mixedOrders = true) {f : Nat} {fn : Func} (hf : P.funcs[f]? = some fn) (hnm : (fn.name == "runtime.NumGoroutine") = false) {A : List AV → Option (Bool × Res)}
    (h0 : ∀ args r, A args = some (true, r) → ∃ x y, r = .gave x y) (h : ∀ row rest x y, A (row :: rest) = some (true, .gave x y) → ∃ n, runM T orc n fn (row :: rest) = some (.gave x y)) : Meets P f A := by
  intro args r hA F w vs hF hav
  obtain ⟨x, y, rfl⟩ := h0 args r hA
  obtain ⟨row, rest, v0, us, rfl, rfl, hav2⟩ := hav
  obtain ⟨n, h2⟩ := h row rest x y hA
  exact runM_ok hT horc hmix hf hnm h2 F w _ hF ⟨row, rest, v0, us, rfl, rfl, hav2⟩
end
end Go.Abs
end
section
/- An abstract machine for the model's code, part X: where code ends; words for states and loops. -/
namespace Go.Abs
section
variable {T : Tbl} {orc : Orc}
/-- Whatever follows: the loop comes to this end. -/
def Ends (T : Tbl) (orc : Orc) (L : Code) (D : List Nat) (S : St) (e : Ex) (S1 : St) : Prop :=
  ∃ n0, ∀ n, n0 ≤ n → ∀ (R : Type) (K : Ex → St → Option R) (r : R), K e S1 = some r → den T orc n L D S K = some r
def EndsC (T : Tbl) (orc : Orc) (C : Code) (S : St) (e : Ex) (S1 : St) : Prop :=
  ∃ n0, ∀ n, n0 ≤ n → ∀ (R : Type) (K : Ex → St → Option R) (r : R), K e S1 = some r → denC T orc (den T orc n) C S K = some r
abbrev Tab := Code → List Nat → St → Option (Bool × Ex × St)
def againT {R : Type} (tab : Tab) (C : Code) (D : List Nat) (S : St) (K : Ex → St → Option R) : Option R :=
  match tab C D S with
  | some (ok, e, S1) => bif ok then K e S1 else none
  | none => none
def noTab : Tab := fun _ _ _ => none
/-- The loops of a piece of code, as they stand in the text. -/
def loopsOf : Code → List Code
  | .seq a b => loopsOf a ++ loopsOf b
  | .cond _ a b => loopsOf a ++ loopsOf b
  | .block _ a => loopsOf a
  | .loop a => .loop a :: loopsOf a
  | _ => []
def TabOk (T : Tbl) (orc : Orc) (tab : Tab) (C : Code) : Prop := ∀ L ∈ loopsOf C, ∀ D S e S1, tab L D S = some (true, e, S1) → Ends T orc L D S e S1
/-- Where a piece of code ends, its loops by a table. -/
def go (T : Tbl) (orc : Orc) (tab : Tab) (C : Code) (S : St) : Option (Ex × St) := denC T orc (againT tab) C S fun e S' => some (e, S')
theorem step_to {R : Type} {o : Oper} {S : St} {K : St → Option R} {r : R} (h : stepK T orc o S K = some r) : ∃ S1, K S1 = some r ∧ ∀ (R' : Type) (K' : St → Option R'), stepK T orc o S K' = K' S1 := by
  unfold stepK at h ⊢
  split at h
  · rename_i b c x y hp
    cases b with
    | true => exact ⟨_, h, fun R' K' => rfl⟩
    | false => exact ⟨_, h, fun R' K' => rfl⟩
  · simp only at h ⊢
    cases hb : (nodupB (acc o (o.op.operands.toList.map (opnd S.tm))) && (acc o (o.op.operands.toList.map (opnd S.tm))).all (fun k => Nat.blt k S.ob.length) && dstOk o) with
    | false => rw [hb] at h; cases h
    | true =>
      rw [hb] at h
      simp only [cond_true] at h ⊢
      split at h
      · rename_i ok v es heff
        cases ok with
        | false => cases h
        | true => exact ⟨_, h, fun R' K' => rfl⟩
      · cases h
theorem guard_to {R : Type} {o : Oper} {wt b : Bool} {S : St} {K : St → Option R} {r : R} (h : guardK T orc o wt S b K = some r) : ∃ S1, K S1 = some r ∧ ∀ (R' : Type) (K' : St → Option R'), guardK T orc o wt S b K' = K' S1 := by
  unfold guardK at h ⊢
  cases hb : (b == wt) with
  | true => rw [hb] at h; exact step_to h
  | false => rw [hb] at h; exact ⟨_, h, fun R' K' => rfl⟩
theorem oper_to {R : Type} {ops : List Oper} {o : Oper} {S : St} {K : St → Option R} {r : R} (h : operK T orc ops o S K = some r) : ∃ S1, K S1 = some r ∧ ∀ (R' : Type) (K' : St → Option R'), operK T orc ops o S K' = K' S1 := by
  unfold operK at h ⊢
  split at h
  · exact step_to h
  · split at h
    · split at h
      · rename_i b hb
        cases b with
        | true => exact guard_to h
        | false => exact guard_to h
      · exact ⟨_, h, fun R' K' => rfl⟩
      · cases h
    · cases h
theorem ops_to {R : Type} {ops : List Oper} : ∀ {l : List Oper} {S : St} {K : St → Option R} {r : R}, opsK T orc ops l S K = some r → ∃ S1, K S1 = some r ∧ ∀ (R' : Type) (K' : St → Option R'), opsK T orc ops l S K' = K' S1
  | [], S, K, r, h => ⟨S, h, fun _ _ => rfl⟩
  | o :: l, S, K, r, h => by
    obtain ⟨S1, h1, h2⟩ := oper_to h
    obtain ⟨S2, h3, h4⟩ := ops_to h1
    exact ⟨S2, h3, fun R' K' => (h2 R' _).trans (h4 R' K')⟩
theorem opsD_to {R : Type} {ops : List Oper} : ∀ {l : List Oper} {i : Nat} {fs : List FP} {S : St} {K : St → Option R} {r : R}, opsD T orc ops i l fs S K = some r → ∃ S1, K S1 = some r ∧ ∀ (R' : Type) (K' : St → Option R'), opsD T orc ops i l fs S K' = K' S1
  | [], i, fs, S, K, r, h => ⟨S, h, fun _ _ => rfl⟩
  | o :: l, i, fs, S, K, r, h => by
    unfold opsD at h ⊢
    cases hb : (((fpOf T ops i o S).af.all fun j => Nat.blt j i) && fs.all fun f => okPair ops f (fpOf T ops i o S)) with
    | false => rw [hb] at h; cases h
    | true =>
      rw [hb] at h
      simp only [cond_true] at h ⊢
      obtain ⟨S1, h1, h2⟩ := oper_to h
      obtain ⟨S2, h3, h4⟩ := opsD_to h1
      exact ⟨S2, h3, fun R' K' => (h2 R' _).trans (h4 R' K')⟩
theorem ends_tab {R : Type} {tab : Tab} : ∀ {C : Code} {S : St} {K : Ex → St → Option R} {r : R}, TabOk T orc tab C → denC T orc (againT tab) C S K = some r → ∃ e S1, K e S1 = some r ∧ EndsC T orc C S e S1 := by
  intro C
  induction C with
  | skip => intro S K r ht h; exact ⟨_, _, h, 0, fun n _ R K r hK => hK⟩
  | region id ops draw =>
    intro S K r ht h
    cases draw with
    | true =>
      obtain ⟨S1, h1, h2⟩ := opsD_to (K := fun S' => K .normal (scrub ops.toList S')) h
      exact ⟨.normal, _, h1, 0, fun n _ R K' r hK => (h2 R (fun S' => K' .normal (scrub ops.toList S'))).trans hK⟩
    | false =>
      obtain ⟨S1, h1, h2⟩ := ops_to (K := fun S' => K .normal (scrub ops.toList S')) h
      exact ⟨.normal, _, h1, 0, fun n _ R K' r hK => (h2 R (fun S' => K' .normal (scrub ops.toList S'))).trans hK⟩
  | seq x y ihx ihy =>
    intro S K r ht h
    obtain ⟨e1, S1, h1, n1, h2⟩ := ihx (fun L hL => ht L (List.mem_append_left _ hL)) h
    cases e1 with
    | normal =>
      obtain ⟨e2, S2, h3, n2, h4⟩ := ihy (fun L hL => ht L (List.mem_append_right _ hL)) h1
      exact ⟨e2, S2, h3, max n1 n2, fun n hn R K' r hK => h2 n (by omega) R _ r (h4 n (by omega) R K' r hK)⟩
    | exit i => exact ⟨.exit i, S1, h1, n1, fun n hn R K' r hK => h2 n hn R _ r hK⟩
    | ret => exact ⟨.ret, S1, h1, n1, fun n hn R K' r hK => h2 n hn R _ r hK⟩
  | cond x y z ihy ihz =>
    intro S K r ht h
    unfold denC at h
    split at h
    · rename_i t hx
      have e0 : ∀ (R' : Type) (n : Nat) (K' : Ex → St → Option R'), denC T orc (den T orc n) (.cond x y z) S K' = (bif t then denC T orc (den T orc n) y S K' else denC T orc (den T orc n) z S K') := by
        intro R' n K'
        rw [denC, hx]
      cases t with
      | true =>
        obtain ⟨e1, S1, h1, n1, h2⟩ := ihy (fun L hL => ht L (List.mem_append_left _ hL)) h
        exact ⟨e1, S1, h1, n1, fun n hn R K' r hK => (e0 R n K').trans (h2 n hn R K' r hK)⟩
      | false =>
        obtain ⟨e1, S1, h1, n1, h2⟩ := ihz (fun L hL => ht L (List.mem_append_right _ hL)) h
        exact ⟨e1, S1, h1, n1, fun n hn R K' r hK => (e0 R n K').trans (h2 n hn R K' r hK)⟩
    · cases h
  | block id x ih =>
    intro S K r ht h
    obtain ⟨e1, S1, h1, n1, h2⟩ := ih ht h
    cases e1 with
    | normal => exact ⟨.normal, S1, h1, n1, fun n hn R K' r hK => h2 n hn R _ r hK⟩
    | ret => exact ⟨.ret, S1, h1, n1, fun n hn R K' r hK => h2 n hn R _ r hK⟩
    | exit i =>
      simp only at h1
      cases hb : Nat.beq i id with
      | true =>
        rw [hb] at h1
        exact ⟨.normal, S1, h1, n1, fun n hn R K' r hK => h2 n hn R _ r (by simp only [hb]; exact hK)⟩
      | false =>
        rw [hb] at h1
        exact ⟨.exit i, S1, h1, n1, fun n hn R K' r hK => h2 n hn R _ r (by simp only [hb]; exact hK)⟩
  | exit id => intro S K r ht h; exact ⟨_, _, h, 0, fun n _ R K r hK => hK⟩
  | ret => intro S K r ht h; exact ⟨_, _, h, 0, fun n _ R K r hK => hK⟩
  | loop b ih =>
    intro S K r ht h
    have h : againT tab (.loop b) (domFrom 0 S.tm) (norm (domFrom 0 S.tm) S) K = some r := h
    unfold againT at h
    split at h
    · rename_i ok e S1 htab
      cases ok with
      | false => cases h
      | true =>
        obtain ⟨n1, h1⟩ := ht _ List.mem_cons_self _ _ _ _ htab
        exact ⟨e, S1, h, n1, fun n hn R K' r hK => h1 n hn R K' r hK⟩
    · cases h
  | _ => intro S K r ht h; simp [denC] at h
theorem noTab_ok (C : Code) : TabOk T orc noTab C := fun _ _ _ _ _ _ h => by cases h
noncomputable def cdec (p : Prop) : Bool := @decide p (Classical.propDecidable p)
theorem cdec_true {p : Prop} (h : p) : cdec p = true := @decide_eq_true p (Classical.propDecidable p) h
theorem cdec_iff {p : Prop} (h : cdec p = true) : p := @of_decide_eq_true p (Classical.propDecidable p) h
/-- A loop's first region. -/
def tagC : Code → Nat
  | .region id _ _ => id
  | .seq a _ => tagC a
  | .cond _ a _ => tagC a
  | .block _ a => tagC a
  | .loop a => tagC a
  | _ => 0
/-- What kinds of values stand in the slots. -/
def kindV : AV → Nat
  | .int .. => 1
  | .bool _ => 2
  | .str _ => 3
  | .ints .. => 4
  | .rows .. => 5
  | .nil => 6
  | .agg _ => 7
  | .tup _ => 8
  | .ptr .. => 9
  | .sl .. => 10
  | .elem .. => 11
  | .place _ => 12
  | .fn .. => 13
  | .clo .. => 15
  | .smap _ => 0
  | .top => 14
def fpr : Nat → List AV → Nat
  | h, [] => h
  | h, v :: l => fpr (h * 16 + kindV v) l
/-- A table of loops' ends, each known by its first region and the kinds of what the slots hold there. -/
noncomputable def tabOf (T : Tbl) (orc : Orc) : List (Nat × Nat × Ex × St) → Tab
  | [], _, _, _ => none
  | (g, p, e, S1) :: r, L, D, S => bif Nat.beq g (tagC L) && Nat.beq p (fpr 0 S.tm) then some (cdec (Ends T orc L D S e S1), e, S1) else tabOf T orc r L D S
theorem tabOf_ok : ∀ (l : List (Nat × Nat × Ex × St)) (C : Code), TabOk T orc (tabOf T orc l) C
  | [], C, _, _, _, _, _, _, h => by cases h
  | (g, p, e', S') :: r, C, L, hL, D, S, e, S1, h => by
    unfold tabOf at h
    cases hb : (Nat.beq g (tagC L) && Nat.beq p (fpr 0 S.tm)) with
    | true =>
      rw [hb] at h
      simp only [cond_true, Option.some.injEq, Prod.mk.injEq] at h
      obtain ⟨h1, rfl, rfl⟩ := h
      exact cdec_iff h1
    | false =>
      rw [hb] at h
      exact tabOf_ok r C L hL D S e S1 h
/-- A loop's round, its state as it stands at the next. -/
def goL (T : Tbl) (orc : Orc) (tab : Tab) (D : List Nat) (C : Code) (S : St) : Option (Ex × St) := match C with
  | .loop a => denC T orc (againT tab) a S fun e S' => some (e, norm D S')
  | _ => none
theorem ends_next {tab : Tab} {a : Code} {D : List Nat} {S S' S1 : St} {e : Ex} (ht : TabOk T orc tab a) (h : goL T orc tab D (.loop a) S = some (.normal, S')) (hn : Ends T orc (.loop a) D S' e S1) : Ends T orc (.loop a) D S e S1 := by
  obtain ⟨e', S2, h1, n1, h2⟩ := ends_tab ht h
  obtain ⟨n2, h3⟩ := hn
  cases h1
  refine ⟨max n1 n2 + 1, fun n hn R K r hK => ?_⟩
  obtain ⟨m, rfl⟩ : ∃ m, n = m + 1 := ⟨n - 1, by omega⟩
  exact h2 m (by omega) R _ r (h3 m (by omega) R K r hK)
theorem ends_exit {tab : Tab} {a : Code} {D : List Nat} {S S' : St} {i : Nat} (ht : TabOk T orc tab a) (h : goL T orc tab D (.loop a) S = some (.exit i, S')) : Ends T orc (.loop a) D S (.exit i) S' := by
  obtain ⟨e', S2, h1, n1, h2⟩ := ends_tab ht h
  cases h1
  refine ⟨n1 + 1, fun n hn R K r hK => ?_⟩
  obtain ⟨m, rfl⟩ : ∃ m, n = m + 1 := ⟨n - 1, by omega⟩
  exact h2 m (by omega) R _ r hK
theorem ends_ret {tab : Tab} {a : Code} {D : List Nat} {S S' : St} (ht : TabOk T orc tab a) (h : goL T orc tab D (.loop a) S = some (.ret, S')) : Ends T orc (.loop a) D S .ret S' := by
  obtain ⟨e', S2, h1, n1, h2⟩ := ends_tab ht h
  cases h1
  refine ⟨n1 + 1, fun n hn R K r hK => ?_⟩
  obtain ⟨m, rfl⟩ : ∃ m, n = m + 1 := ⟨n - 1, by omega⟩
  exact h2 m (by omega) R _ r hK
def bodyC (fn : Func) : Code := match fn.body with
  | some c => c
  | none => .skip
/-- A function's answer, its loops by a table. -/
def runT (T : Tbl) (orc : Orc) (tab : Tab) (fn : Func) (args : List AV) : Option Res :=
  match fn.body with
  | some c => denC T orc (againT tab) c (start fn args) fun
    | .normal, S => results T fn S
    | .ret, S => results T fn S
    | _, _ => none
  | none => none
theorem run_tab {tab : Tab} {fn : Func} {args : List AV} {r : Res} (ht : TabOk T orc tab (bodyC fn)) (h : runT T orc tab fn args = some r) : ∃ n, run T orc n fn args = some r := by
  unfold runT at h
  unfold run
  unfold bodyC at ht
  cases hb : fn.body with
  | none => rw [hb] at h; cases h
  | some c =>
    rw [hb] at h ht
    obtain ⟨e, S1, h1, n, h2⟩ := ends_tab ht h
    exact ⟨n, h2 n (Nat.le_refl _) _ _ r h1⟩
def runTM (T : Tbl) (orc : Orc) (tab : Tab) (fn : Func) (args : List AV) : Option Res :=
  match fn.body, args with
  | some c, row :: args => bif noZero c then denC T orc (againT tab) c (startM fn row args) fun
    | .normal, S => resultM T fn S
    | .ret, S => resultM T fn S
    | _, _ => none
    else none
  | _, _ => none
theorem runM_tab {tab : Tab} {fn : Func} {args : List AV} {r : Res} (ht : TabOk T orc tab (bodyC fn)) (h : runTM T orc tab fn args = some r) : ∃ n, runM T orc n fn args = some r := by
  unfold runTM at h
  unfold runM
  unfold bodyC at ht
  cases hb : fn.body with
  | none => rw [hb] at h; cases h
  | some c =>
    rw [hb] at h ht
    cases args with
    | nil => cases h
    | cons row args =>
      simp only at h ⊢
      cases hz : noZero c with
      | false => rw [hz] at h; cases h
      | true =>
        rw [hz] at h
        obtain ⟨e, S1, h1, n, h2⟩ := ends_tab ht h
        exact ⟨n, h2 n (Nat.le_refl _) _ _ r h1⟩
end
/-- Where a round comes to. -/
def Lands {α : Type} (x : Option (Ex × α)) (Q : Ex → α → Prop) : Prop := ∃ e S, x = some (e, S) ∧ Q e S
theorem lands_some {α : Type} {e : Ex} {S : α} {Q : Ex → α → Prop} : Lands (some (e, S)) Q ↔ Q e S := ⟨fun ⟨_, _, h, hq⟩ => by cases h; exact hq, fun h => ⟨_, _, rfl, h⟩⟩
theorem lands_none {α : Type} {Q : Ex → α → Prop} : Lands none Q ↔ False := ⟨fun ⟨_, _, h, _⟩ => (Option.some_ne_none _ h.symm).elim, fun h => False.elim h⟩
theorem lands_bif {α : Type} {c : Bool} {x y : Option (Ex × α)} {Q : Ex → α → Prop} : Lands (bif c then x else y) Q ↔ (c = true → Lands x Q) ∧ (c = false → Lands y Q) := by
  cases c <;> simp
theorem lands_of {α : Type} {x y : Option (Ex × α)} {Q : Ex → α → Prop} (h : x = y) (hy : Lands y Q) : Lands x Q := by rw [h]; exact hy
theorem eq_bif {α : Type} {c : Bool} {x y : Option α} {r : α} : (bif c then x else y) = some r ↔ (c = true → x = some r) ∧ (c = false → y = some r) := by
  cases c <;> simp
/-- What a round must do: go on with something less, or end well. -/
def Turns {σ : Type} (st : σ → St) (I : σ → Prop) (m : σ → Nat) (Q : Ex → St → Prop) (n : Nat) : Ex → St → Prop
  | .normal, S => ∃ s, S = st s ∧ I s ∧ m s < n
  | e, S => Q e S
/-- A loop by an invariant. -/
theorem loop_inv {T : Tbl} {orc : Orc} {σ : Type} (st : σ → St) (I : σ → Prop) (m : σ → Nat) (Q : Ex → St → Prop) {L : Code} {D : List Nat} (hL : ∃ a, L = .loop a)
    (hr : ∀ s, I s → ∃ tab, (∀ C, TabOk T orc tab C) ∧ Lands (goL T orc tab D L (st s)) (Turns st I m Q (m s))) (s : σ) (hI : I s) : ∃ e S1, Ends T orc L D (st s) e S1 ∧ Q e S1 := by
  obtain ⟨a, rfl⟩ := hL
  suffices h : ∀ n s, m s < n → I s → ∃ e S1, Ends T orc (.loop a) D (st s) e S1 ∧ Q e S1 from h (m s + 1) s (Nat.lt_succ_self _) hI
  intro n
  induction n with
  | zero => intro s hs; omega
  | succ n ih =>
    intro s hs hI
    obtain ⟨tab, ht, e, S, h1, h2⟩ := hr s hI
    cases e with
    | normal =>
      obtain ⟨s', rfl, h3, h4⟩ := h2
      obtain ⟨e, S1, h5, h6⟩ := ih s' (by omega) h3
      exact ⟨e, S1, ends_next (ht _) h1 h5, h6⟩
    | exit i => exact ⟨_, S, ends_exit (ht _) h1, h2⟩
    | ret => exact ⟨_, S, ends_ret (ht _) h1, h2⟩
def Turns1 {α : Type} (st : α → St) (I : α → Prop) (m : α → Nat) (Q : Ex → St → Prop) (n : Nat) : Ex → St → Prop
  | .normal, S => ∃ u0, S = st u0 ∧ I u0 ∧ m u0 < n
  | e, S => Q e S
theorem loop_inv1 {T : Tbl} {orc : Orc} {α : Type} (st : α → St) (I : α → Prop) (m : α → Nat) (Q : Ex → St → Prop) {L : Code} {D : List Nat} (hL : ∃ a, L = .loop a)
    (hr : ∀ u0, I u0 → ∃ tab, (∀ C, TabOk T orc tab C) ∧ Lands (goL T orc tab D L (st u0)) (Turns1 st I m Q (m u0))) (u0 : α) (hI : I u0) : ∃ e S1, Ends T orc L D (st u0) e S1 ∧ Q e S1 := by
  refine loop_inv (σ := α) (fun s => st s) (fun s => I s) (fun s => m s) Q hL (fun s hs => ?_) u0 hI
  obtain ⟨tab, h1, e, S, h2, h3⟩ := hr _ hs
  refine ⟨tab, h1, e, S, h2, ?_⟩
  cases e with
  | normal =>
    obtain ⟨u0, h4, h5, h6⟩ := h3
    exact ⟨u0, h4, h5, h6⟩
  | exit i => exact h3
  | ret => exact h3
def Turns2 {α β : Type} (st : α → β → St) (I : α → β → Prop) (m : α → β → Nat) (Q : Ex → St → Prop) (n : Nat) : Ex → St → Prop
  | .normal, S => ∃ u0 u1, S = st u0 u1 ∧ I u0 u1 ∧ m u0 u1 < n
  | e, S => Q e S
theorem loop_inv2 {T : Tbl} {orc : Orc} {α β : Type} (st : α → β → St) (I : α → β → Prop) (m : α → β → Nat) (Q : Ex → St → Prop) {L : Code} {D : List Nat} (hL : ∃ a, L = .loop a)
    (hr : ∀ u0 u1, I u0 u1 → ∃ tab, (∀ C, TabOk T orc tab C) ∧ Lands (goL T orc tab D L (st u0 u1)) (Turns2 st I m Q (m u0 u1))) (u0 : α) (u1 : β) (hI : I u0 u1) : ∃ e S1, Ends T orc L D (st u0 u1) e S1 ∧ Q e S1 := by
  refine loop_inv (σ := α × β) (fun s => st s.1 s.2) (fun s => I s.1 s.2) (fun s => m s.1 s.2) Q hL (fun s hs => ?_) (u0, u1) hI
  obtain ⟨tab, h1, e, S, h2, h3⟩ := hr _ _ hs
  refine ⟨tab, h1, e, S, h2, ?_⟩
  cases e with
  | normal =>
    obtain ⟨u0, u1, h4, h5, h6⟩ := h3
    exact ⟨(u0, u1), h4, h5, h6⟩
  | exit i => exact h3
  | ret => exact h3
def Turns3 {α β γ : Type} (st : α → β → γ → St) (I : α → β → γ → Prop) (m : α → β → γ → Nat) (Q : Ex → St → Prop) (n : Nat) : Ex → St → Prop
  | .normal, S => ∃ u0 u1 u2, S = st u0 u1 u2 ∧ I u0 u1 u2 ∧ m u0 u1 u2 < n
  | e, S => Q e S
theorem loop_inv3 {T : Tbl} {orc : Orc} {α β γ : Type} (st : α → β → γ → St) (I : α → β → γ → Prop) (m : α → β → γ → Nat) (Q : Ex → St → Prop) {L : Code} {D : List Nat} (hL : ∃ a, L = .loop a)
    (hr : ∀ u0 u1 u2, I u0 u1 u2 → ∃ tab, (∀ C, TabOk T orc tab C) ∧ Lands (goL T orc tab D L (st u0 u1 u2)) (Turns3 st I m Q (m u0 u1 u2))) (u0 : α) (u1 : β) (u2 : γ) (hI : I u0 u1 u2) : ∃ e S1, Ends T orc L D (st u0 u1 u2) e S1 ∧ Q e S1 := by
  refine loop_inv (σ := α × β × γ) (fun s => st s.1 s.2.1 s.2.2) (fun s => I s.1 s.2.1 s.2.2) (fun s => m s.1 s.2.1 s.2.2) Q hL (fun s hs => ?_) (u0, u1, u2) hI
  obtain ⟨tab, h1, e, S, h2, h3⟩ := hr _ _ _ hs
  refine ⟨tab, h1, e, S, h2, ?_⟩
  cases e with
  | normal =>
    obtain ⟨u0, u1, u2, h4, h5, h6⟩ := h3
    exact ⟨(u0, u1, u2), h4, h5, h6⟩
  | exit i => exact h3
  | ret => exact h3
def Turns4 {α β γ δ : Type} (st : α → β → γ → δ → St) (I : α → β → γ → δ → Prop) (m : α → β → γ → δ → Nat) (Q : Ex → St → Prop) (n : Nat) : Ex → St → Prop
  | .normal, S => ∃ u0 u1 u2 u3, S = st u0 u1 u2 u3 ∧ I u0 u1 u2 u3 ∧ m u0 u1 u2 u3 < n
  | e, S => Q e S
theorem loop_inv4 {T : Tbl} {orc : Orc} {α β γ δ : Type} (st : α → β → γ → δ → St) (I : α → β → γ → δ → Prop) (m : α → β → γ → δ → Nat) (Q : Ex → St → Prop) {L : Code} {D : List Nat} (hL : ∃ a, L = .loop a)
    (hr : ∀ u0 u1 u2 u3, I u0 u1 u2 u3 → ∃ tab, (∀ C, TabOk T orc tab C) ∧ Lands (goL T orc tab D L (st u0 u1 u2 u3)) (Turns4 st I m Q (m u0 u1 u2 u3))) (u0 : α) (u1 : β) (u2 : γ) (u3 : δ) (hI : I u0 u1 u2 u3) : ∃ e S1, Ends T orc L D (st u0 u1 u2 u3) e S1 ∧ Q e S1 := by
  refine loop_inv (σ := α × β × γ × δ) (fun s => st s.1 s.2.1 s.2.2.1 s.2.2.2) (fun s => I s.1 s.2.1 s.2.2.1 s.2.2.2) (fun s => m s.1 s.2.1 s.2.2.1 s.2.2.2) Q hL (fun s hs => ?_) (u0, u1, u2, u3) hI
  obtain ⟨tab, h1, e, S, h2, h3⟩ := hr _ _ _ _ hs
  refine ⟨tab, h1, e, S, h2, ?_⟩
  cases e with
  | normal =>
    obtain ⟨u0, u1, u2, u3, h4, h5, h6⟩ := h3
    exact ⟨(u0, u1, u2, u3), h4, h5, h6⟩
  | exit i => exact h3
  | ret => exact h3
def Turns5 {α β γ δ ε : Type} (st : α → β → γ → δ → ε → St) (I : α → β → γ → δ → ε → Prop) (m : α → β → γ → δ → ε → Nat) (Q : Ex → St → Prop) (n : Nat) : Ex → St → Prop
  | .normal, S => ∃ u0 u1 u2 u3 u4, S = st u0 u1 u2 u3 u4 ∧ I u0 u1 u2 u3 u4 ∧ m u0 u1 u2 u3 u4 < n
  | e, S => Q e S
def Turns6 {α β γ δ ε ζ : Type} (st : α → β → γ → δ → ε → ζ → St) (I : α → β → γ → δ → ε → ζ → Prop) (m : α → β → γ → δ → ε → ζ → Nat) (Q : Ex → St → Prop) (n : Nat) : Ex → St → Prop
  | .normal, S => ∃ u0 u1 u2 u3 u4 u5, S = st u0 u1 u2 u3 u4 u5 ∧ I u0 u1 u2 u3 u4 u5 ∧ m u0 u1 u2 u3 u4 u5 < n
  | e, S => Q e S
def Turns7 {α β γ δ ε ζ η : Type} (st : α → β → γ → δ → ε → ζ → η → St) (I : α → β → γ → δ → ε → ζ → η → Prop) (m : α → β → γ → δ → ε → ζ → η → Nat) (Q : Ex → St → Prop) (n : Nat) : Ex → St → Prop
  | .normal, S => ∃ u0 u1 u2 u3 u4 u5 u6, S = st u0 u1 u2 u3 u4 u5 u6 ∧ I u0 u1 u2 u3 u4 u5 u6 ∧ m u0 u1 u2 u3 u4 u5 u6 < n
  | e, S => Q e S
def Turns8 {α β γ δ ε ζ η θ : Type} (st : α → β → γ → δ → ε → ζ → η → θ → St) (I : α → β → γ → δ → ε → ζ → η → θ → Prop) (m : α → β → γ → δ → ε → ζ → η → θ → Nat) (Q : Ex → St → Prop) (n : Nat) : Ex → St → Prop
  | .normal, S => ∃ u0 u1 u2 u3 u4 u5 u6 u7, S = st u0 u1 u2 u3 u4 u5 u6 u7 ∧ I u0 u1 u2 u3 u4 u5 u6 u7 ∧ m u0 u1 u2 u3 u4 u5 u6 u7 < n
  | e, S => Q e S
theorem noTab_all {T : Tbl} {orc : Orc} : ∀ C, TabOk T orc noTab C := noTab_ok
theorem tabOf_all {T : Tbl} {orc : Orc} (l : List (Nat × Nat × Ex × St)) : ∀ C, TabOk T orc (tabOf T orc l) C := tabOf_ok l
/-- Empty slots, and empty entries, ahead of a list. -/
def tops : Nat → List AV → List AV
  | 0, l => l
  | n + 1, l => .top :: tops n l
def nos : Nat → List Ent → List Ent
  | 0, l => l
  | n + 1, l => ⟨0, 0, none⟩ :: nos n l
/-- A row of one's own; rows that are read, and other cells, of a variable. -/
def rowE (r : AV) : Ent := ⟨0, 0, some (.row ⟨0, true, r⟩)⟩
def varE (cs : List (Bool × AV)) : Ent := ⟨0, 0, some (.var (cs.map fun c => ⟨0, c.1, c.2⟩))⟩
def lp (fn : Func) (i : Nat) : Code := (loopsOf (bodyC fn)).getD i .skip
end Go.Abs
end
section
/- Numbers by their digits, the lowest first: plain mathematics, no program. -/
namespace Go.Dig
/-- The number of some digits. -/
def val (B : Int) : List Int → Int
  | [] => 0
  | d :: l => d + B * val B l
/-- All digits are digits. -/
def okB (B : Int) (l : List Int) : Bool := l.all fun d => decide (0 ≤ d) && decide (d < B)
/-- So many digits of a number. -/
def digN (B : Int) : Nat → Int → List Int
  | 0, _ => []
  | n + 1, v => v % B :: digN B n (v / B)
/-- No nought at the end. -/
def strip : List Int → List Int
  | [] => []
  | d :: l => match strip l with
    | [] => if d = 0 then [] else [d]
    | e :: m => d :: e :: m
/-- A number's digits. -/
def limbs (B : Int) (v : Int) : List Int := strip (digN B (v.toNat.log2 + 1) v)
theorem okB_iff {B : Int} {l : List Int} : okB B l = true ↔ ∀ d ∈ l, 0 ≤ d ∧ d < B := by
  unfold okB
  rw [List.all_eq_true]
  constructor
  · intro h d hd
    have := h d hd
    simpa using this
  · intro h d hd
    simpa using h d hd
theorem okB_cons {B d : Int} {l : List Int} : okB B (d :: l) = true ↔ (0 ≤ d ∧ d < B) ∧ okB B l = true := by
  rw [okB_iff, okB_iff]
  constructor
  · intro h
    exact ⟨h d List.mem_cons_self, fun e he => h e (List.mem_cons_of_mem _ he)⟩
  · rintro ⟨h1, h2⟩ e he
    rcases List.mem_cons.1 he with rfl | he
    · exact h1
    · exact h2 e he
theorem okB_append {B : Int} {l m : List Int} : okB B (l ++ m) = true ↔ okB B l = true ∧ okB B m = true := by
  rw [okB_iff, okB_iff, okB_iff]
  constructor
  · intro h
    exact ⟨fun d hd => h d (List.mem_append_left _ hd), fun d hd => h d (List.mem_append_right _ hd)⟩
  · rintro ⟨h1, h2⟩ d hd
    rcases List.mem_append.1 hd with hd | hd
    · exact h1 d hd
    · exact h2 d hd
theorem val_nonneg {B : Int} (hB : 0 < B) : ∀ {l : List Int}, okB B l = true → 0 ≤ val B l
  | [], _ => Int.le_refl _
  | d :: l, h => by
    obtain ⟨h1, h2⟩ := okB_cons.1 h
    have := val_nonneg hB h2
    have h3 : 0 ≤ B * val B l := Int.mul_nonneg (Int.le_of_lt hB) this
    simp only [val]
    omega
theorem val_lt {B : Int} (hB : 0 < B) : ∀ {l : List Int}, okB B l = true → val B l < B ^ l.length
  | [], _ => by simp [val]
  | d :: l, h => by
    obtain ⟨h1, h2⟩ := okB_cons.1 h
    have h3 : val B l + 1 ≤ B ^ l.length := val_lt hB h2
    have h4 : B * (val B l + 1) ≤ B * B ^ l.length := Int.mul_le_mul_of_nonneg_left h3 (Int.le_of_lt hB)
    rw [Int.mul_add, Int.mul_one] at h4
    simp only [val, List.length_cons, Int.pow_succ]
    rw [Int.mul_comm (B ^ l.length) B]
    omega
theorem val_append (B : Int) : ∀ (l m : List Int), val B (l ++ m) = val B l + B ^ l.length * val B m
  | [], m => by simp [val]
  | d :: l, m => by
    simp only [List.cons_append, val, val_append B l m, List.length_cons, Int.pow_succ]
    rw [Int.mul_add, Int.mul_comm (B ^ l.length) B, Int.mul_assoc, Int.add_assoc]
theorem digN_length (B : Int) : ∀ (n : Nat) (v : Int), (digN B n v).length = n
  | 0, _ => rfl
  | n + 1, v => by simp [digN, digN_length B n]
theorem digN_ok {B : Int} (hB : 0 < B) : ∀ (n : Nat) (v : Int), okB B (digN B n v) = true
  | 0, _ => rfl
  | n + 1, v => okB_cons.2 ⟨⟨Int.emod_nonneg _ (by omega), Int.emod_lt_of_pos _ hB⟩, digN_ok hB n _⟩
theorem val_digN {B : Int} (hB : 0 < B) : ∀ (n : Nat) (v : Int), 0 ≤ v → v < B ^ n → val B (digN B n v) = v
  | 0, v, h0, h1 => by
    simp at h1
    simp [digN, val]
    omega
  | n + 1, v, h0, h1 => by
    simp only [digN, val]
    have h2 : 0 ≤ v / B := Int.ediv_nonneg h0 (Int.le_of_lt hB)
    have h3 : v / B < B ^ n := Int.ediv_lt_of_lt_mul hB (by rw [Int.pow_succ] at h1; exact h1)
    rw [val_digN hB n _ h2 h3]
    exact Int.emod_add_mul_ediv v B
theorem digN_val {B : Int} (hB : 0 < B) : ∀ (l : List Int), okB B l = true → digN B l.length (val B l) = l
  | [], _ => rfl
  | d :: l, h => by
    obtain ⟨h1, h2⟩ := okB_cons.1 h
    simp only [List.length_cons, digN, val]
    have e1 : (d + B * val B l) % B = d := by
      rw [Int.add_mul_emod_self_left]
      exact Int.emod_eq_of_lt h1.1 h1.2
    have e2 : (d + B * val B l) / B = val B l := by
      rw [Int.add_mul_ediv_left _ _ (by omega), Int.ediv_eq_zero_of_lt h1.1 h1.2, Int.zero_add]
    rw [e1, e2, digN_val hB l h2]
theorem digN_add (B : Int) (hB : 0 < B) : ∀ (m n : Nat) (v : Int), digN B (m + n) v = digN B m v ++ digN B n (v / B ^ m)
  | 0, n, v => by simp [digN]
  | m + 1, n, v => by
    rw [show m + 1 + n = (m + n) + 1 by omega]
    simp only [digN, List.cons_append, digN_add B hB m n]
    rw [Int.pow_succ, Int.mul_comm, Int.ediv_ediv_of_nonneg (Int.le_of_lt hB)]
theorem digN_zero (B : Int) : ∀ n, digN B n 0 = List.replicate n 0
  | 0 => rfl
  | n + 1 => by simp [digN, digN_zero B n, List.replicate_succ]
theorem val_replicate (B : Int) : ∀ n, val B (List.replicate n 0) = 0
  | 0 => rfl
  | n + 1 => by simp [List.replicate_succ, val, val_replicate B n]
theorem strip_zero : ∀ (l : List Int), strip (l ++ [0]) = strip l
  | [] => by simp [strip]
  | d :: l => by
    simp only [List.cons_append, strip]
    rw [strip_zero l]
theorem strip_zeros (l : List Int) : ∀ n, strip (l ++ List.replicate n 0) = strip l
  | 0 => by simp
  | n + 1 => by
    rw [List.replicate_succ', ← List.append_assoc, strip_zero, strip_zeros l n]
theorem strip_val (B : Int) : ∀ (l : List Int), val B (strip l) = val B l
  | [] => rfl
  | d :: l => by
    have ih := strip_val B l
    simp only [strip]
    cases hs : strip l with
    | nil =>
      rw [hs] at ih
      simp only [val] at ih ⊢
      split
      · rename_i hd
        rw [hd, ← ih]
        simp [val]
      · simp [val, ← ih]
    | cons e m =>
      rw [hs] at ih
      simp only [val] at ih ⊢
      rw [← ih]
theorem strip_ok {B : Int} : ∀ {l : List Int}, okB B l = true → okB B (strip l) = true
  | [], _ => rfl
  | d :: l, h => by
    obtain ⟨h1, h2⟩ := okB_cons.1 h
    have ih := strip_ok h2
    simp only [strip]
    cases hs : strip l with
    | nil =>
      simp only
      split
      · rfl
      · exact okB_cons.2 ⟨h1, rfl⟩
    | cons e m =>
      rw [hs] at ih
      exact okB_cons.2 ⟨h1, ih⟩
theorem strip_length : ∀ (l : List Int), (strip l).length ≤ l.length
  | [] => Nat.le_refl _
  | d :: l => by
    have ih := strip_length l
    simp only [strip]
    cases hs : strip l with
    | nil =>
      simp only
      split <;> simp
    | cons e m =>
      rw [hs] at ih
      simpa using ih
theorem strip_last : ∀ (l : List Int), (strip l).getLast? ≠ some 0
  | [] => by simp [strip]
  | d :: l => by
    have ih := strip_last l
    simp only [strip]
    cases hs : strip l with
    | nil =>
      simp only
      split
      · simp
      · rename_i hd
        simpa using hd
    | cons e m =>
      rw [hs] at ih
      simpa [List.getLast?_cons_cons] using ih
theorem strip_of_last : ∀ (l : List Int), l.getLast? ≠ some 0 → strip l = l
  | [], _ => rfl
  | [d], h => by
    simp at h
    simp [strip, h]
  | d :: e :: l, h => by
    have ih := strip_of_last (e :: l) (by simpa [List.getLast?_cons_cons] using h)
    rw [strip, ih]
theorem strip_digN {B : Int} (hB : 0 < B) {m n : Nat} {v : Int} (h0 : 0 ≤ v) (hm : v < B ^ m) (hmn : m ≤ n) : strip (digN B n v) = strip (digN B m v) := by
  obtain ⟨k, rfl⟩ : ∃ k, n = m + k := ⟨n - m, by omega⟩
  rw [digN_add B hB, Int.ediv_eq_zero_of_lt h0 hm, digN_zero, strip_zeros]
theorem limbs_of {B : Int} (hB : 2 ≤ B) {n : Nat} {v : Int} (h0 : 0 ≤ v) (hn : v < B ^ n) : strip (digN B n v) = limbs B v := by
  unfold limbs
  have hb : v < B ^ (v.toNat.log2 + 1) := by
    have h1 : v.toNat < 2 ^ (v.toNat.log2 + 1) := Nat.lt_log2_self
    have h2 : v < 2 ^ (v.toNat.log2 + 1) := by
      have : (v.toNat : Int) < ((2 ^ (v.toNat.log2 + 1) : Nat) : Int) := by exact_mod_cast h1
      rw [Int.toNat_of_nonneg h0] at this
      simpa using this
    refine Int.lt_of_lt_of_le h2 ?_
    generalize v.toNat.log2 + 1 = k
    induction k with
    | zero => simp
    | succ k ih =>
      rw [Int.pow_succ, Int.pow_succ]
      exact Int.mul_le_mul ih hB (by omega) (Int.pow_nonneg (by omega))
  rcases Nat.le_total n (v.toNat.log2 + 1) with h | h
  · exact (strip_digN (by omega) h0 hn h).symm
  · exact strip_digN (by omega) h0 hb h
theorem limbs_strip {B : Int} (hB : 2 ≤ B) {l : List Int} (h : okB B l = true) : strip l = limbs B (val B l) := by
  have h1 := val_nonneg (by omega) h
  have h2 := val_lt (by omega) h
  rw [← limbs_of hB h1 h2, digN_val (by omega) l h]
theorem limbs_ok {B : Int} (hB : 0 < B) (v : Int) : okB B (limbs B v) = true := strip_ok (digN_ok hB _ _)
theorem limbs_last (B v : Int) : (limbs B v).getLast? ≠ some 0 := strip_last _
theorem limbs_val {B : Int} (hB : 2 ≤ B) {v : Int} (h : 0 ≤ v) : val B (limbs B v) = v := by
  have hv : v < B ^ (v.toNat + 1) := by
    have : ∀ k : Nat, (k : Int) < B ^ (k + 1) := by
      intro k
      induction k with
      | zero => rw [Int.pow_succ, Int.pow_zero]; omega
      | succ k ih =>
        rw [Int.pow_succ]
        have : B ^ (k + 1) * 2 ≤ B ^ (k + 1) * B := Int.mul_le_mul_of_nonneg_left hB (Int.pow_nonneg (by omega))
        omega
    have := this v.toNat
    rwa [Int.toNat_of_nonneg h] at this
  rw [← limbs_of hB h hv, strip_val, val_digN (by omega) _ _ h hv]
theorem limbs_length {B : Int} (hB : 2 ≤ B) {v : Int} {n : Nat} (h : 0 ≤ v) (hn : v < B ^ n) : (limbs B v).length ≤ n := by
  rw [← limbs_of hB h hn]
  exact Nat.le_trans (strip_length _) (by rw [digN_length]; exact Nat.le_refl _)
theorem limbs_nil {B : Int} (hB : 2 ≤ B) {v : Int} (h : 0 ≤ v) : limbs B v = [] ↔ v = 0 := by
  constructor
  · intro h1
    have := limbs_val hB h
    rw [h1] at this
    exact this.symm
  · rintro rfl
    rw [← limbs_of hB (n := 0) (by omega) (by simp)]
    rfl
theorem limbs_self {B : Int} (hB : 2 ≤ B) {l : List Int} (h : okB B l = true) (hl : l.getLast? ≠ some 0) : limbs B (val B l) = l := by
  rw [← limbs_strip hB h, strip_of_last l hl]
end Go.Dig
end
section
/- The program's types as the abstract machine knows them; numbers by sign and digits; small laws. -/
namespace Go.Abs
open Go.Proofs Go.Dig
abbrev T : Tbl := [(2, .int .i64),
  (3, .int .i64),
  (4, .bool),
  (5, .int .u8),
  (6, .int .u8),
  (7, .struct [(0, 1, false), (1, 1, false), (2, 1, false), (3, 1, false)] 4 [.int .i64 0, .int .i64 0, .bool false, .int .u8 0]),
  (8, .struct [(0, 1, false), (1, 1, false), (2, 1, false), (3, 1, false)] 4 [.int .i64 0, .int .i64 0, .bool false, .int .u8 0]),
  (9, .string),
  (10, .string),
  (11, .string),
  (12, .int .u64),
  (13, .struct [(0, 1, false), (1, 1, false)] 2 [.str ⟨#[]⟩, .int .u64 0]),
  (14, .struct [(0, 1, false), (1, 1, false)] 2 [.str ⟨#[]⟩, .int .u64 0]),
  (21, .int .i32),
  (22, .slice 43 (some .u32) 1 4),
  (23, .struct [(0, 1, false), (1, 1, false)] 2 [.bool false, .ints .u32 []]),
  (24, .struct [(0, 1, false), (1, 1, false)] 2 [.bool false, .ints .u32 []]),
  (29, .int .i64),
  (32, .slice 3 (some .i64) 1 8),
  (41, .int .u64),
  (43, .int .u32),
  (44, .int .u64),
  (45, .slice 5 (some .u8) 1 1),
  (48, .smap),
  (49, .slice 59 none 2 40),
  (50, .slice 62 none 2 16),
  (51, .slice 32 none 1 24),
  (52, .slice 73 none 3 24),
  (58, .struct [(0, 1, false), (1, 1, false)] 2 [.str ⟨#[]⟩, .ints .i64 []]),
  (59, .struct [(0, 1, false), (1, 1, false)] 2 [.str ⟨#[]⟩, .ints .i64 []]),
  (64, .struct [(0, 1, false), (1, 1, false), (2, 1, false)] 3 [.int .i64 0, .int .i64 0, .int .i64 0]),
  (65, .struct [(0, 1, false), (1, 1, false), (2, 1, false)] 3 [.int .i64 0, .int .i64 0, .int .i64 0]),
  (66, .slice 65 none 3 24),
  (72, .struct [(0, 1, false), (1, 1, false), (2, 1, false)] 3 [.int .i64 0, .int .i64 0, .bool false]),
  (73, .struct [(0, 1, false), (1, 1, false), (2, 1, false)] 3 [.int .i64 0, .int .i64 0, .bool false]),
  (100, .int .u8),
  (101, .int .u8),
  (104, .int .i32),
  (105, .int .i32)]
theorem T_ok : tblOk Tryd.prog T = true := by kernel_rfl
theorem mixed : Tryd.prog.follows .mixedOrders = true := by kernel_rfl
/-- A list of no more than so many. -/
def few (l : List Int) : Bool := decide (l.length ≤ 100000)
theorem few_iff {l : List Int} : few l = true ↔ l.length ≤ 100000 := by simp [few]
abbrev u64 := IntKind.u64
theorem w64 {n : Int} (h0 : -9223372036854775808 ≤ n) (h1 : n ≤ 9223372036854775807) : IntKind.i64.wrap n = n := IntWalk.i64_in n ⟨h0, h1⟩
theorem wu64 {n : Int} (h0 : 0 ≤ n) (h1 : n ≤ 18446744073709551615) : IntKind.u64.wrap n = n := IntWalk.u64_in n ⟨h0, h1⟩
theorem wu32 {n : Int} (h0 : 0 ≤ n) (h1 : n ≤ 4294967295) : IntKind.u32.wrap n = n := IntWalk.u32_in n ⟨h0, h1⟩
theorem wu32_mod (n : Int) : IntKind.u32.wrap n = n % 4294967296 := IntKind.wrap_u32 n
theorem wu64_mod (n : Int) : IntKind.u64.wrap n = n % 18446744073709551616 := IntKind.wrap_u64 n
theorem bT {α : Type} {c : Bool} {x y : α} (h : c = true) : (bif c then x else y) = x := by rw [h]; rfl
theorem bF {α : Type} {c : Bool} {x y : α} (h : c = false) : (bif c then x else y) = y := by rw [h]; rfl
theorem inB_iff {i : Int} {n : Nat} : inB i n = true ↔ 0 ≤ i ∧ i < n := by
  unfold inB; simp
/-- A number's sign; its digits; the number of a sign and digits. -/
def sg (z : Int) : Bool := decide (z < 0)
def lb (B z : Int) : List Int := limbs B z.natAbs
def num (B : Int) (s : Bool) (l : List Int) : Int := bif s then - val B l else val B l
abbrev N (B z : Int) : Int := num B (sg z) (lb B z)
abbrev R (z : Int) : AV := .agg [.bool (sg z), .ints .u32 (lb 4294967296 z)]
abbrev M (z : Int) : AV := .agg [.bool (sg z), .ints .i64 (lb 10 z)]
/-- So many noughts. -/
abbrev zeros (n : Nat) : List Int := List.replicate n 0
/-- Nothing is called. -/
abbrev noOrc : Orc := fun _ _ => none
theorem noOrc_ok : OrcOk Tryd.prog noOrc := fun _ _ _ h => by cases h
theorem meets_fn {orc : Orc} (horc : OrcOk Tryd.prog orc) {f : Nat} (fn : Func) (hf : Tryd.prog.funcs[f]? = some fn) (hnm : (fn.name == "runtime.NumGoroutine") = false) {A : List AV → Option (Bool × Res)}
    (h : ∀ args r, A args = some (true, r) → notGave r = true ∧ ∃ tab, (∀ C, TabOk T orc tab C) ∧ runT T orc tab fn args = some r) : Meets Tryd.prog f A := by
  refine meets_run T_ok horc mixed hf hnm (fun args r hA => ?_)
  obtain ⟨h1, tab, h2, h3⟩ := h args r hA
  exact ⟨h1, run_tab (h2 _) h3⟩
end Go.Abs
end
section
/- Small laws for rounds: wraps, reads, digits of parts of lists. -/
namespace Go.Abs
open Go.Dig
theorem wi64 (n : Int) : IntKind.i64.wrap n = (n + 9223372036854775808) % 18446744073709551616 - 9223372036854775808 := IntKind.wrap_i64 n
theorem rd_toNat (l : List Int) (i : Int) : rd l i = l.getD i.toNat 0 := of_eq_true (eq_self (rd l i))
theorem getD_ok {B : Int} (hB : 0 < B) {l : List Int} (h : okB B l = true) (i : Nat) : 0 ≤ l.getD i 0 ∧ l.getD i 0 < B := by
  rw [List.getD_eq_getElem?_getD]
  cases hi : l[i]? with
  | none => simpa using hB
  | some d => exact okB_iff.1 h d (List.mem_of_getElem? hi)
theorem take_succ_getD (l : List Int) {i : Nat} (h : i < l.length) : l.take (i + 1) = l.take i ++ [l.getD i 0] := by
  rw [List.take_add_one, List.getD_eq_getElem?_getD, List.getElem?_eq_getElem h]
  rfl
theorem val_one (B d : Int) : val B [d] = d := by simp [val]
theorem val_take_succ (B : Int) (l : List Int) (i : Nat) : val B (l.take (i + 1)) = val B (l.take i) + B ^ i * l.getD i 0 := by
  by_cases h : i < l.length
  · rw [take_succ_getD l h, val_append, val_one, List.length_take, Nat.min_eq_left (by omega)]
  · rw [List.take_of_length_le (by omega), List.take_of_length_le (by omega), List.getD_eq_getElem?_getD, List.getElem?_eq_none (by omega)]
    simp
theorem take_set_succ (l : List Int) {i : Nat} (d : Int) (h : i < l.length) : (l.set i d).take (i + 1) = l.take i ++ [d] := by
  rw [List.take_add_one, List.getElem?_set_self h, List.take_set_of_le (Nat.le_refl _)]
  rfl
theorem okB_take {B : Int} {l : List Int} (h : okB B l = true) (i : Nat) : okB B (l.take i) = true := okB_iff.2 fun d hd => okB_iff.1 h d (List.mem_of_mem_take hd)
theorem okB_one {B d : Int} (h : 0 ≤ d ∧ d < B) : okB B [d] = true := okB_iff.2 fun e he => by rw [List.mem_singleton.1 he]; exact h
theorem okB_app {B : Int} {l m : List Int} (h : okB B l = true) (k : okB B m = true) : okB B (l ++ m) = true := okB_append.2 ⟨h, k⟩
/-- A list of digits is its number's digits. -/
theorem dig_eq {B : Int} (hB : 0 < B) {l : List Int} {n : Nat} {v : Int} (h : okB B l = true) (hl : l.length = n) (hv : val B l = v) : l = digN B n v := by
  rw [← hl, ← hv, digN_val hB l h]
theorem okB_zeros {B : Int} (hB : 0 < B) (n : Nat) : okB B (zeros n) = true := okB_iff.2 fun d hd => by
  rw [(List.mem_replicate.1 hd).2]; exact ⟨Int.le_refl _, hB⟩
theorem wi_succ {i : Nat} (h : i < 4611686018427387904) : IntKind.i64.wrap ((i : Int) + 1) = ((i + 1 : Nat) : Int) := by
  rw [wi64]; omega
theorem wi_pred {i : Nat} (h : i < 4611686018427387904) : IntKind.i64.wrap (((i + 1 : Nat) : Int) - 1) = (i : Int) := by
  rw [wi64]; omega
theorem fdiv32 (x : Int) : x.fdiv (2 ^ 32) = x / 4294967296 := Int.fdiv_eq_ediv_of_nonneg x (by decide)
theorem set_next {B : Int} {l : List Int} {i : Nat} {d : Int} (hi : i < l.length) (h : okB B (l.take i) = true) (hd : 0 ≤ d ∧ d < B) :
    okB B ((l.set i d).take (i + 1)) = true ∧ val B ((l.set i d).take (i + 1)) = val B (l.take i) + B ^ i * d ∧ (l.set i d).length = l.length := by
  rw [take_set_succ l d hi]
  refine ⟨okB_app h (okB_one hd), ?_, List.length_set⟩
  rw [val_append, val_one, List.length_take, Nat.min_eq_left (by omega)]
/-- One place more of a sum. -/
theorem carry_step (B P V S c d c' t : Int) (h : V + P * c = S) (k : c + t = d + B * c') : V + P * d + P * B * c' = S + P * t := by
  grind
/-- The order of two numbers. -/
def cmpZ (x y : Int) : Int := if x < y then -1 else if x > y then 1 else 0
end Go.Abs
end
section
/- What arith's functions answer, in whole numbers: the tables (proved in the texts behind). -/
namespace Go.Abs
open Go.Dig
/-- How many binary digits. -/
def blen (n : Int) : Int := if n = 0 then 0 else (n.toNat.log2 : Int) + 1
/-- No number is as large as this. -/
def Lim : Nat := 10 ^ 10000
/-- Sign and digits as they are of a number that isn't too large. -/
def cn (B : Int) (s : Bool) (l : List Int) : Bool := decide (s = sg (num B s l)) && decide (l = lb B (num B s l)) && decide ((num B s l).natAbs < Lim)
/-- Digits as they are. -/
def cl (B : Int) (l : List Int) : Bool := few l && decide (l = limbs B (val B l)) && decide (0 ≤ val B l)
def i64B (n : Int) : Bool := decide (-9223372036854775808 ≤ n) && decide (n ≤ 9223372036854775807)
/-- A number that is held, or nought and the error's number. -/
def fits (z : Int) : Bool := decide (z.natAbs < 2 ^ 1024)
def hz (z : Int) : Int := bif fits z then z else 0
def he (z : Int) : Int := bif fits z then 0 else 11
/-- Quotient, rest, error of a division. -/
def dq (x y : Int) : Int := if y = 0 then 0 else x.fdiv y
def dr (x y : Int) : Int := if y = 0 then 0 else x.fmod y
def dc (y : Int) : Int := if y = 0 then 12 else 0
def gz (x y : Int) : Int := (Int.gcd x y : Int)
def az (x : Int) : Int := (x.natAbs : Int)
/-- A small number, or nought. -/
def sz (x : Int) : Int := bif i64B x then x else 0
def pc (x n : Int) : Int := if n < 0 then 1 else he (x ^ n.toNat)
/-- A number's text. -/
def dig (l : List Int) : List Int := l.reverse.map (· + 48)
def txtL (z : Int) : List Int := if z = 0 then [48] else (if z < 0 then [45] else []) ++ dig (limbs 10 z.natAbs)
def txt (z : Int) : ByteArray := strOf (txtL z)
/-- A text of a number: its digits, is it one, its number. -/
def isDig (c : Int) : Bool := decide (48 ≤ c) && decide (c ≤ 57)
def hasNeg (l : List Int) : Bool := match l with
  | c :: _ => c == 45
  | [] => false
def digs (l : List Int) : List Int := bif hasNeg l then l.drop 1 else l
def form (l : List Int) : Bool := !(digs l).isEmpty && !((digs l).getD 0 0 == 48 && (decide ((digs l).length > 1) || hasNeg l)) && (digs l).all isDig
def dval (l : List Int) : Int := val 10 (l.reverse.map (· - 48))
def tval (l : List Int) : Int := bif hasNeg l then - dval (digs l) else dval (digs l)
/-- What is read of a text. -/
def rv (s : ByteArray) : Int := bif form (bytesOf s) then hz (tval (bytesOf s)) else 0
def leftL (l : List Int) (sh : Int) : List Int := digN 4294967296 (l.length + 1) (val 4294967296 l * 2 ^ sh.toNat)
def rightL (l : List Int) (sh : Int) : List Int := digN 4294967296 l.length (val 4294967296 l / 2 ^ sh.toNat)
def plusL (a b : List Int) : List Int := digN 4294967296 (max a.length b.length + 1) (val 4294967296 a + val 4294967296 b)
def lessL (a b : List Int) : List Int := digN 4294967296 a.length (val 4294967296 a - val 4294967296 b)
def b2i (c : Bool) : Int := bif c then 1 else 0
def ansSub32 : List AV → Option (Bool × Res)
  | [.int .u32 x, .int .u32 y, .int .u32 b] => some (decide (0 ≤ x) && decide (x < 4294967296) && decide (0 ≤ y) && decide (y < 4294967296) && decide (0 ≤ b) && decide (b ≤ 1), .val (.tup [.int .u32 ((x - y - b) % 4294967296), .int .u32 (b2i (decide (x < y + b)))]))
  | _ => none
def ansAdd32 : List AV → Option (Bool × Res)
  | [.int .u32 x, .int .u32 y, .int .u32 b] => some (decide (0 ≤ x) && decide (x < 4294967296) && decide (0 ≤ y) && decide (y < 4294967296) && decide (0 ≤ b) && decide (b ≤ 1), .val (.tup [.int .u32 ((x + y + b) % 4294967296), .int .u32 (b2i (decide (4294967296 ≤ x + y + b)))]))
  | _ => none
def ansLen32 : List AV → Option (Bool × Res)
  | [.int .u32 n] => some (decide (0 ≤ n) && decide (n < 4294967296), .val (.int .i64 (blen n)))
  | _ => none
def ansLz32 : List AV → Option (Bool × Res)
  | [.int .u32 n] => some (decide (0 ≤ n) && decide (n < 4294967296), .val (.int .i64 (32 - blen n)))
  | _ => none
def ansNorm : List AV → Option (Bool × Res)
  | [.bool s, .ints .u32 l] => some (few l && okB 4294967296 l, .val (R (num 4294967296 s l)))
  | _ => none
def ansFrom : List AV → Option (Bool × Res)
  | [.int .i64 n] => some (i64B n, .val (R n))
  | _ => none
def ansPart : List AV → Option (Bool × Res)
  | [.ints .u32 l, .int .u32 m] => some (few l && okB 4294967296 l && decide (0 < m) && decide (m < 4294967296), .val (.tup [.ints .u32 (limbs 4294967296 (val 4294967296 l / m)), .int .u32 (val 4294967296 l % m)]))
  | _ => none
def ansText : List AV → Option (Bool × Res)
  | [.agg [.bool s, .ints .u32 l]] => some (cn 4294967296 s l, .val (.str (txt (num 4294967296 s l))))
  | _ => none
def ansSign : List AV → Option (Bool × Res)
  | [.agg [.bool s, .ints .u32 l]] => some (cn 4294967296 s l, .val (.int .i64 (cmpZ (num 4294967296 s l) 0)))
  | _ => none
def ansAbs : List AV → Option (Bool × Res)
  | [.agg [.bool s, .ints .u32 l]] => some (cn 4294967296 s l, .val (R (az (num 4294967296 s l))))
  | _ => none
def ansCmpMag : List AV → Option (Bool × Res)
  | [.ints .u32 a, .ints .u32 b] => some (cl 4294967296 a && cl 4294967296 b, .val (.int .i64 (cmpZ (val 4294967296 a) (val 4294967296 b))))
  | _ => none
def ansPlusMag : List AV → Option (Bool × Res)
  | [.ints .u32 a, .ints .u32 b] => some (few a && few b && okB 4294967296 a && okB 4294967296 b, .own (.ints .u32 (plusL a b)))
  | _ => none
def ansLessMag : List AV → Option (Bool × Res)
  | [.ints .u32 a, .ints .u32 b] => some (few a && few b && okB 4294967296 a && okB 4294967296 b && decide (b.length ≤ a.length) && decide (val 4294967296 b ≤ val 4294967296 a), .own (.ints .u32 (lessL a b)))
  | _ => none
def ansPlus : List AV → Option (Bool × Res)
  | [.agg [.bool s, .ints .u32 l], .agg [.bool t, .ints .u32 m]] => some (cn 4294967296 s l && cn 4294967296 t m, .val (R (num 4294967296 s l + num 4294967296 t m)))
  | _ => none
def splitQ (a b : List Int) : List Int := bif decide (val 4294967296 a < val 4294967296 b) then [] else bif b.length == 1 then limbs 4294967296 (val 4294967296 a / val 4294967296 b) else digN 4294967296 (a.length - b.length + 1) (val 4294967296 a / val 4294967296 b)
def splitR (a b : List Int) : List Int := bif decide (val 4294967296 a < val 4294967296 b) then a else digN 4294967296 b.length (val 4294967296 a % val 4294967296 b)
def ansSplitMag : List AV → Option (Bool × Res)
  | [.ints .u32 a, .ints .u32 b] => some (cl 4294967296 a && cl 4294967296 b && decide (0 < val 4294967296 b) && decide (a.length ≤ 50000), .val (.tup [.ints .u32 (splitQ a b), .ints .u32 (splitR a b)]))
  | _ => none
def ansLeft : List AV → Option (Bool × Res)
  | [.ints .u32 l, .int .i64 sh] => some (few l && okB 4294967296 l && decide (0 ≤ sh) && decide (sh ≤ 31), .own (.ints .u32 (leftL l sh)))
  | _ => none
def ansRight : List AV → Option (Bool × Res)
  | [.ints .u32 l, .int .i64 sh] => some (few l && okB 4294967296 l && decide (0 ≤ sh) && decide (sh ≤ 31), .own (.ints .u32 (rightL l sh)))
  | _ => none
/-- A place's digit of the quotient: the part of u that is looked at, and what is put there. -/
def seg (u : List Int) (j n : Nat) : List Int := (u.drop j).take n
def digQ (u v : List Int) (j : Nat) : Int := val 4294967296 (seg u j (v.length + 1)) / val 4294967296 v
def digU (u v : List Int) (j : Nat) : List Int := u.take j ++ digN 4294967296 (v.length + 1) (val 4294967296 (seg u j (v.length + 1)) % val 4294967296 v) ++ u.drop (j + v.length + 1)
def digOk (u v : List Int) (j n : Int) : Bool := few u && few v && okB 4294967296 u && okB 4294967296 v && decide (0 ≤ j) && decide (n = v.length) && decide (2 ≤ v.length) && decide (j.toNat + v.length + 1 ≤ u.length) && decide (2147483648 ≤ v.getD (v.length - 1) 0) && decide (val 4294967296 (seg u j.toNat (v.length + 1)) < 4294967296 * val 4294967296 v)
def ansDigit : List AV → Option (Bool × Res)
  | [] => some (true, .gave .top .top)
  | [.ints .u32 u, .ints .u32 v, .int .i64 j, .int .i64 n] => some (digOk u v j n, .gave (.ints .u32 (digU u v j.toNat)) (.int .u32 (digQ u v j.toNat)))
  | _ => none
def ansDiv : List AV → Option (Bool × Res)
  | [.agg [.bool s, .ints .u32 l], .agg [.bool t, .ints .u32 m]] => some (cn 4294967296 s l && cn 4294967296 t m, .val (.tup [R (dq (num 4294967296 s l) (num 4294967296 t m)), R (dr (num 4294967296 s l) (num 4294967296 t m)), .int .i64 (dc (num 4294967296 t m))]))
  | _ => none
def ansGcd : List AV → Option (Bool × Res)
  | [.agg [.bool s, .ints .u32 l], .agg [.bool t, .ints .u32 m]] => some (cn 4294967296 s l && cn 4294967296 t m, .val (R (gz (num 4294967296 s l) (num 4294967296 t m))))
  | _ => none
end Go.Abs
end
