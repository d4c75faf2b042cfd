/- What the rows of this seat rest on, part 3: an abstract machine for the model, proved sound, and the functions that the statements reach. No conditions. -/
import Derived.Test.YtnchhhfeoflgaaaDoorXBase2
import Derived.OrdersHeld
import Derived.Tactics
import Derived.StillTail
import Derived.Shelf.LaysM
import Derived.Shelf.Strconv.Itoa3
import Derived.Ground.Names2Prog
import Derived.Shelf.Slices.Clone
import Derived.Test.YtnchhhfeoflgaaaDoorProg
import Derived.Lib.ItoaLen
import Derived.LoopN
set_option linter.unusedVariables false
set_option linter.unusedSimpArgs false
set_option linter.unnecessarySimpa false
set_option linter.unusedSectionVars false
section
/- Walking by exact values, part a: frames, operations in a row, code, regions that draw. -/
namespace Go.Gr
open Go.Abs (Runs)
abbrev Fn := Nat → Value
def up (f : Fn) (d : Nat) (v : Value) : Fn := fun t => bif Nat.beq t d then v else f t
def upo (f : Fn) : Option Nat → Value → Fn
  | none, _ => f
  | some d, v => up f d v
def evf (f : Fn) : Operand → Value
  | .tmp t => f t
  | .const v => v
  | .global g => .pointer (some ⟨g, 0, none⟩)
  | .func g => .func (.func g) #[] #[]
theorem up_self {f : Fn} {d : Nat} {v : Value} (h : f d = v) : up f d v = f := by
  funext t
  unfold up
  cases hb : Nat.beq t d with
  | true => rw [Nat.eq_of_beq_eq_true hb, cond_true, h]
  | false => rfl
/-- The frame's slots hold these values. -/
structure Fr (n : Nat) (f : Fn) (a : Act) : Prop where
  size : a.tmps.size = n
  defs : a.defers = []
  ev : ∀ t, a.tmps.getD t undef = f t
theorem Fr.eval {n : Nat} {f : Fn} {a : Act} (h : Fr n f a) : a.eval = evf f := by
  funext x
  cases x with
  | tmp t => exact h.ev t
  | _ => rfl
theorem Fr.put {n : Nat} {f : Fn} {a : Act} (h : Fr n f a) {d : Option Nat} (hd : ∀ x, d = some x → x < n) (v : Value) : Fr n (upo f d v) (a.put d v) := by
  cases d with
  | none => exact h
  | some d =>
    refine ⟨by simp [Act.put, h.size], by simp [Act.put, h.defs], fun t => ?_⟩
    have hlt := hd d rfl
    have h0 := h.ev t
    rw [Array.getD_eq_getD_getElem?] at h0
    simp only [Act.put, upo, up]
    rw [Array.getD_eq_getD_getElem?]
    cases hb : Nat.beq t d with
    | true =>
      obtain rfl := Nat.eq_of_beq_eq_true hb
      rw [Array.getElem?_setIfInBounds_self_of_lt (by rw [h.size]; exact hlt)]
      rfl
    | false =>
      rw [Array.getElem?_setIfInBounds_ne (fun he => by rw [he, Nat.beq_refl] at hb; cases hb)]
      exact h0
def dOk (n : Nat) : Option Nat → Bool
  | none => true
  | some d => Nat.blt d n
theorem dOk_lt {n : Nat} {d : Option Nat} (h : dOk n d = true) : ∀ x, d = some x → x < n := by
  rintro x rfl
  simpa [dOk, Nat.blt_eq] using h
abbrev QT := Exit → Fn → World → Prop
def QF (n : Nat) (Q : QT) : Exit → Act → World → Prop := fun e a w => ∃ f, Fr n f a ∧ Q e f w
section
variable {P : Program} {n : Nat} {ops : Array Oper} {Q : QT} {f : Fn} {w : World} {o : Oper} {l : List Oper}
/-- Operations, one behind the other. -/
def WL (P : Program) (n : Nat) (ops : Array Oper) (Q : QT) (l : List Oper) (f : Fn) (w : World) : Prop := ∀ a, Fr n f a → wpList P ops (QF n Q) l a w
theorem WL.nil (h : Q .normal f w) : WL P n ops Q [] f w := fun a ha => ⟨f, ha, h⟩
theorem wanted_none (hg : o.guard = none) (a : Act) : Region.wanted o (yielded ops a.tmps) = true := by simp [Region.wanted, hg]
/-- An operation that gives a value. -/
theorem WL.val (hg : o.guard = none) (hd : dOk n o.dst = true) {v : Value} {w' : World} (hx : (execOp (evf f) o).run P w = .ok (.value v) w') (h : WL P n ops Q l (upo f o.dst v) w') : WL P n ops Q (o :: l) f w := by
  intro a ha
  unfold wpList
  rw [wanted_none hg, if_pos rfl]
  refine .inl ?_
  unfold Oper.wp
  rw [ha.eval, hx]
  exact h _ (ha.put (dOk_lt hd) v)
theorem WL.skip (hg : o.guard = none) (hd : o.dst = none) {w' : World} (hx : (execOp (evf f) o).run P w = .ok .skip w') (h : WL P n ops Q l f w') : WL P n ops Q (o :: l) f w := by
  intro a ha
  unfold wpList
  rw [wanted_none hg, if_pos rfl]
  refine .inl ?_
  unfold Oper.wp
  rw [ha.eval, hx, Oper.upon_skip, hd]
  exact h _ ha
/-- A call. -/
theorem WL.call (hg : o.guard = none) (hd : dOk n o.dst = true) {c : Call} {g : Nat} (ho : o.op = .call c) (hc : c.callee = .value (.func g)) {R : Value → World → Prop} (hr : Runs P g (c.args.toList.map (evf f)) w R) (h : ∀ v w', R v w' → WL P n ops Q l (upo f o.dst v) w') : WL P n ops Q (o :: l) f w := by
  intro a ha
  unfold wpList
  rw [wanted_none hg, if_pos rfl]
  refine .inl (Abs.run_call (R := R) ho hc (f := g) (caps := #[]) rfl ?_ (fun v w' hv => h v w' hv _ (ha.put (dOk_lt hd) v)))
  have : (c.args.map a.eval).toList ++ (#[] : Array Value).toList = c.args.toList.map (evf f) := by simp [ha.eval]
  rw [this]
  exact hr
def slotOf (ops : Array Oper) (j : Nat) : Option Nat := (ops[j]?).bind (·.dst)
theorem yielded_at {a : Act} (ha : Fr n f a) {j t : Nat} (hs : slotOf ops j = some t) (ht : Nat.blt t n = true) : yielded ops a.tmps j = match f t with | .bool b => some b | _ => none := by
  have hlt : t < a.tmps.size := by rw [ha.size]; simpa [Nat.blt_eq] using ht
  have h0 := ha.ev t
  rw [Array.getD_eq_getD_getElem?, Array.getElem?_eq_getElem hlt] at h0
  unfold slotOf at hs
  unfold yielded
  rw [hs]
  simp only [Option.bind_some, Array.getElem?_eq_getElem hlt]
  rw [← h0]
  simp only [Option.getD_some]
  cases a.tmps[t] <;> rfl
/-- Under a guard that is met. -/
theorem WL.gval {j t : Nat} {b : Bool} (hg : o.guard = some (j, b)) (hs : slotOf ops j = some t) (ht : Nat.blt t n = true) (hb : f t = .bool b) (hd : dOk n o.dst = true) {v : Value} {w' : World} (hx : (execOp (evf f) o).run P w = .ok (.value v) w') (h : WL P n ops Q l (upo f o.dst v) w') : WL P n ops Q (o :: l) f w := by
  intro a ha
  unfold wpList
  have hw : Region.wanted o (yielded ops a.tmps) = true := by
    unfold Region.wanted
    rw [hg]
    simp only
    rw [yielded_at ha hs ht, hb]
    cases b <;> rfl
  rw [hw, if_pos rfl]
  refine .inl ?_
  unfold Oper.wp
  rw [ha.eval, hx]
  exact h _ (ha.put (dOk_lt hd) v)
theorem WL.gcall {j t : Nat} {b : Bool} (hg : o.guard = some (j, b)) (hs : slotOf ops j = some t) (ht : Nat.blt t n = true) (hb : f t = .bool b) (hd : dOk n o.dst = true) {c : Call} {g : Nat} (ho : o.op = .call c) (hc : c.callee = .value (.func g)) {R : Value → World → Prop} (hr : Runs P g (c.args.toList.map (evf f)) w R) (h : ∀ v w', R v w' → WL P n ops Q l (upo f o.dst v) w') : WL P n ops Q (o :: l) f w := by
  intro a ha
  unfold wpList
  have hw : Region.wanted o (yielded ops a.tmps) = true := by
    unfold Region.wanted
    rw [hg]
    simp only
    rw [yielded_at ha hs ht, hb]
    cases b <;> rfl
  rw [hw, if_pos rfl]
  refine .inl (Abs.run_call (R := R) ho hc (f := g) (caps := #[]) rfl ?_ (fun v w' hv => h v w' hv _ (ha.put (dOk_lt hd) v)))
  have : (c.args.map a.eval).toList ++ (#[] : Array Value).toList = c.args.toList.map (evf f) := by simp [ha.eval]
  rw [this]
  exact hr
/-- Under a guard that isn't met. -/
theorem WL.gskip {j t : Nat} {b : Bool} (hg : o.guard = some (j, b)) (hs : slotOf ops j = some t) (ht : Nat.blt t n = true) (hb : f t = .bool !b) (hd : dOk n o.dst = true) (h : WL P n ops Q l (upo f o.dst undef) w) : WL P n ops Q (o :: l) f w := by
  intro a ha
  unfold wpList
  have hw : Region.wanted o (yielded ops a.tmps) = false := by
    unfold Region.wanted
    rw [hg]
    simp only
    rw [yielded_at ha hs ht, hb]
    cases b <;> rfl
  rw [hw, if_neg (by decide)]
  exact h _ (ha.put (dOk_lt hd) undef)
/-- Code. -/
def WC (P : Program) (n : Nat) (C : Code) (Q : QT) (f : Fn) (w : World) : Prop := ∀ a, Fr n f a → C.wp P (QF n Q) a w
def thenF (K : Fn → World → Prop) (Q : QT) : QT
  | .normal, f, w => K f w
  | e, f, w => Q e f w
def blockF (id : Nat) (Q : QT) : QT
  | .exit i, f, w => bif Nat.beq i id then Q .normal f w else Q (.exit i) f w
  | e, f, w => Q e f w
theorem WC.mono {C : Code} {Q' : QT} (hq : ∀ e f w, Q e f w → Q' e f w) (h : WC P n C Q f w) : WC P n C Q' f w := fun a ha => Code.wp_mono (fun e a w ⟨f, h1, h2⟩ => ⟨f, h1, hq _ _ _ h2⟩) (h a ha)
theorem WC.skip (h : Q .normal f w) : WC P n .skip Q f w := fun a ha => wp_skip ⟨f, ha, h⟩
theorem WC.ret (h : Q .ret f w) : WC P n .ret Q f w := fun a ha => wp_ret ⟨f, ha, h⟩
theorem WC.exit {id : Nat} (h : Q (.exit id) f w) : WC P n (.exit id) Q f w := fun a ha => wp_exit ⟨f, ha, h⟩
theorem WC.seq {x y : Code} (h : WC P n x (thenF (WC P n y Q) Q) f w) : WC P n (x.seq y) Q f w := by
  intro a ha
  refine wp_seq (Code.wp_mono (fun e a w hq => ?_) (h a ha))
  obtain ⟨f, h1, h2⟩ := hq
  cases e with
  | normal => exact h2 a h1
  | _ => exact ⟨f, h1, h2⟩
theorem WC.block {id : Nat} {x : Code} (h : WC P n x (blockF id Q) f w) : WC P n (.block id x) Q f w := by
  intro a ha
  refine wp_block (Code.wp_mono (fun e a w hq => ?_) (h a ha))
  obtain ⟨f, h1, h2⟩ := hq
  cases e with
  | exit i =>
    show if i = id then QF n Q .normal a w else QF n Q (.exit i) a w
    unfold blockF at h2
    simp only at h2
    by_cases hi : i = id
    · rw [if_pos hi]
      rw [hi, Nat.beq_refl] at h2
      exact ⟨f, h1, h2⟩
    · rw [if_neg hi]
      have : Nat.beq i id = false := by cases hb : Nat.beq i id with | false => rfl | true => exact absurd (Nat.eq_of_beq_eq_true hb) hi
      rw [this] at h2
      exact ⟨f, h1, h2⟩
  | _ => exact ⟨f, h1, h2⟩
theorem WC.cond {c : Operand} {x y : Code} {t : Bool} (hc : evf f c = .bool t) (h1 : t = true → WC P n x Q f w) (h2 : t = false → WC P n y Q f w) : WC P n (.cond c x y) Q f w := fun a ha =>
  wp_cond_split (t := t) (by rw [ha.eval]; exact hc) (fun ht => h1 ht a ha) (fun ht => h2 ht a ha)
theorem WC.condT {c : Operand} {x y : Code} (hc : evf f c = .bool true) (h : WC P n x Q f w) : WC P n (.cond c x y) Q f w := fun a ha => wp_cond_true (by rw [ha.eval]; exact hc) (h a ha)
theorem WC.condF {c : Operand} {x y : Code} (hc : evf f c = .bool false) (h : WC P n y Q f w) : WC P n (.cond c x y) Q f w := fun a ha => wp_cond_false (by rw [ha.eval]; exact hc) (h a ha)
theorem WC.loop {x : Code} (I : Nat → Fn → World → Prop) {m : Nat} (h0 : I m f w) (hr : ∀ m f w, I m f w → WC P n x (thenF (fun f w => ∃ m', m' < m ∧ I m' f w) Q) f w) : WC P n (.loop x) Q f w := by
  intro a ha
  refine wp_loop (fun a w => ∃ m f, Fr n f a ∧ I m f w) (fun a w => Classical.epsilon fun k => (∃ f, Fr n f a ∧ I k f w) ∧ ∀ k', (∃ f, Fr n f a ∧ I k' f w) → k ≤ k') ⟨m, f, ha, h0⟩ ?_
  rintro a w ⟨m1, f1, hf1, hI1⟩
  have least : ∀ (p : Nat → Prop) (k : Nat), p k → ∃ j, p j ∧ ∀ i, p i → j ≤ i := by
    intro p k
    induction k using Nat.strongRecOn with
    | _ k ih =>
      intro hk
      by_cases h : ∃ j, j < k ∧ p j
      · obtain ⟨j, hj, hp⟩ := h; exact ih j hj hp
      · exact ⟨k, hk, fun i hi => Nat.le_of_not_lt fun hlt => h ⟨i, hlt, hi⟩⟩
  obtain ⟨k, hk⟩ := least (fun k => ∃ f, Fr n f a ∧ I k f w) m1 ⟨f1, hf1, hI1⟩
  have hsp := Classical.epsilon_spec (p := fun k => (∃ f, Fr n f a ∧ I k f w) ∧ ∀ k', (∃ f, Fr n f a ∧ I k' f w) → k ≤ k') ⟨k, hk⟩
  generalize hE : (Classical.epsilon fun k => (∃ f, Fr n f a ∧ I k f w) ∧ ∀ k', (∃ f, Fr n f a ∧ I k' f w) → k ≤ k') = E at hsp ⊢
  obtain ⟨⟨f2, hf2, hI2⟩, _⟩ := hsp
  refine Code.wp_mono (fun e a' w' hq => ?_) (hr E f2 w hI2 a hf2)
  obtain ⟨f3, h3, h4⟩ := hq
  cases e with
  | normal =>
    obtain ⟨m', hm', hI'⟩ := h4
    refine ⟨⟨m', f3, h3, hI'⟩, ?_⟩
    have hsp2 := Classical.epsilon_spec (p := fun k => (∃ f, Fr n f a' ∧ I k f w') ∧ ∀ k', (∃ f, Fr n f a' ∧ I k' f w') → k ≤ k') (by
      obtain ⟨k2, hk2⟩ := least (fun k => ∃ f, Fr n f a' ∧ I k f w') m' ⟨f3, h3, hI'⟩
      exact ⟨k2, hk2⟩)
    exact Nat.lt_of_le_of_lt (hsp2.2 m' ⟨f3, h3, hI'⟩) hm'
  | _ => exact ⟨f3, h3, h4⟩
theorem WC.region {id : Nat} {l : List Oper} (h : WL P n l.toArray Q l f w) : WC P n (.region id l.toArray false) Q f w := fun a ha => wp_region_lit (h a ha)
/-- A region that draws its order: whatever comes up next; S holds behind each. -/
def WH (P : Program) (n : Nat) (ops : Array Oper) (Q : QT) (S : World → Prop) (fuel : Nat) (listed : Array Bool) (f : Fn) (w : World) : Prop := ∀ a, Fr n f a → wpAnyH P .any ops (QF n Q) S fuel listed a w
theorem WC.any {id : Nat} {ops : Array Oper} (S : World → Prop) (hm : P.follows .mixedOrders = true) (h : WH P n ops Q S ops.size (Array.replicate ops.size false) f w.drew) : WC P n (.region id ops true) Q f w := fun a ha => wp_region_held (S := S) hm (h a ha)
theorem WH.take {S : World → Prop} {fuel i : Nat} {listed : Array Bool} (hi : ops[i]? = some o) (hg : o.guard = none) (hd : dOk n o.dst = true) (hs : Region.noSelect ops = true) (hf : Region.free .any ops listed i = true) (hr : (Region.ready .any ops listed).contains i = true)
    (hQ : ∀ c f w, ¬ Q (.panic c) f w) {v : Value} (hx : ∀ w, S w → (execOp (evf f) o).run P w = .ok (.value v) w) (hS : S w) (h : WH P n ops Q S fuel (listed.setIfInBounds i true) (upo f o.dst v) w) : WH P n ops Q S (fuel + 1) listed f w := fun a ha =>
  wpAnyH_take hi hs hf hr (fun c a w ⟨f, _, h2⟩ => absurd h2 (hQ c f w)) (.inl ⟨wanted_none hg a, fun w hw => by rw [ha.eval]; exact hx w hw⟩) hS (h _ (ha.put (dOk_lt hd) v))
theorem WH.oneVal {S : World → Prop} {fuel i : Nat} {listed : Array Bool} (hr : Region.ready .any ops listed = [i]) (hi : ops[i]? = some o) (hg : o.guard = none) (hd : dOk n o.dst = true) {v : Value} {w' : World} (hx : (execOp (evf f) o).run P w = .ok (.value v) w') (hS : S w')
    (h : WH P n ops Q S fuel (listed.setIfInBounds i true) (upo f o.dst v) w') : WH P n ops Q S (fuel + 1) listed f w := by
  intro a ha
  refine wpAnyH_all hr (by simp) (fun j hj => ?_)
  obtain rfl := List.mem_singleton.1 hj
  unfold wpOp
  rw [hi]
  simp only
  rw [wanted_none hg, if_pos rfl]
  refine .inl ?_
  unfold Oper.wp
  rw [ha.eval, hx]
  exact ⟨hS, h _ (ha.put (dOk_lt hd) v)⟩
theorem WH.oneSkip {S : World → Prop} {fuel i : Nat} {listed : Array Bool} (hr : Region.ready .any ops listed = [i]) (hi : ops[i]? = some o) (hg : o.guard = none) (hd : o.dst = none) {w' : World} (hx : (execOp (evf f) o).run P w = .ok .skip w') (hS : S w')
    (h : WH P n ops Q S fuel (listed.setIfInBounds i true) f w') : WH P n ops Q S (fuel + 1) listed f w := by
  intro a ha
  refine wpAnyH_all hr (by simp) (fun j hj => ?_)
  obtain rfl := List.mem_singleton.1 hj
  unfold wpOp
  rw [hi]
  simp only
  rw [wanted_none hg, if_pos rfl]
  refine .inl ?_
  unfold Oper.wp
  rw [ha.eval, hx, Oper.upon_skip, hd]
  exact ⟨hS, h _ ha⟩
theorem WH.oneCall {S : World → Prop} {fuel i : Nat} {listed : Array Bool} (hr : Region.ready .any ops listed = [i]) (hi : ops[i]? = some o) (hg : o.guard = none) (hd : dOk n o.dst = true) {c : Call} {g : Nat} (ho : o.op = .call c) (hc : c.callee = .value (.func g)) {R : Value → World → Prop} (hrn : Runs P g (c.args.toList.map (evf f)) w R)
    (h : ∀ v w', R v w' → S w' ∧ WH P n ops Q S fuel (listed.setIfInBounds i true) (upo f o.dst v) w') : WH P n ops Q S (fuel + 1) listed f w := by
  intro a ha
  refine wpAnyH_all hr (by simp) (fun j hj => ?_)
  obtain rfl := List.mem_singleton.1 hj
  unfold wpOp
  rw [hi]
  simp only
  rw [wanted_none hg, if_pos rfl]
  refine .inl (Abs.run_call (R := R) ho hc (f := g) (caps := #[]) rfl ?_ (fun v w' hv => ⟨(h v w' hv).1, (h v w' hv).2 _ (ha.put (dOk_lt hd) v)⟩))
  have : (c.args.map a.eval).toList ++ (#[] : Array Value).toList = c.args.toList.map (evf f) := by simp [ha.eval]
  rw [this]
  exact hrn
theorem WH.done {S : World → Prop} {fuel : Nat} {listed : Array Bool} (hr : Region.ready .any ops listed = []) (h : Q .normal f w) : WH P n ops Q S fuel listed f w := fun a ha => wpAnyH_done hr ⟨f, ha, h⟩ fuel
/-- A function's frame as it is entered. -/
def initF (args : List Value) : Fn := fun t => args.getD t undef
theorem init_fr {args : Array Value} {k : Nat} : Fr (args.size + k) (initF args.toList) { tmps := args ++ Array.replicate k undef, defers := [] } := by
  refine ⟨by simp, rfl, fun t => ?_⟩
  show (args ++ Array.replicate k undef).getD t undef = args.toList.getD t undef
  rw [Array.getD_eq_getD_getElem?, List.getD_eq_getElem?_getD]
  by_cases ht : t < args.size
  · rw [Array.getElem?_append_left ht]; simp
  · rw [Array.getElem?_append_right (by omega), List.getElem?_eq_none (by simpa using ht)]
    rw [Array.getElem?_replicate]
    split <;> rfl
/-- What a function hands back. -/
def resF (f : Fn) : List ResultVar → Option (List Value)
  | [] => some []
  | .tmp t :: r => (resF f r).map (f t :: ·)
  | _ => none
theorem runs_of {g : Nat} {fn : Func} {C : Code} {vs : List Value} {R : Value → World → Prop} (hf : P.funcs[g]? = some fn) (hnm : (fn.name == "runtime.NumGoroutine") = false) (hb : fn.body = some C) (hn : Nat.ble vs.length fn.ntmps = true)
    (h : WC P fn.ntmps C (fun e f w => (e = .normal ∨ e = .ret) ∧ ∃ us, resF f fn.results.toList = some us ∧ R (match us with | [u] => u | us => .tuple us.toArray) w) (initF vs) w) : Runs P g vs w R := by
  refine ⟨fn, hf, hnm, by rw [hb]; rfl, calls_of_wp hf hb ?_⟩
  have hle : vs.toArray.size ≤ fn.ntmps := by simpa using Nat.le_of_ble_eq_true hn
  have hfr : Fr fn.ntmps (initF vs) { tmps := vs.toArray ++ Array.replicate (fn.ntmps - vs.toArray.size) undef, defers := [] } := by
    have := init_fr (args := vs.toArray) (k := fn.ntmps - vs.toArray.size)
    rw [show vs.toArray.size + (fn.ntmps - vs.toArray.size) = fn.ntmps by omega] at this
    simpa using this
  refine Code.wp_mono (fun e a w hq => ?_) (h _ hfr)
  obtain ⟨f, h1, h2, us, h3, h4⟩ := hq
  have key : ∀ (rs : List ResultVar) (us : List Value), resF f rs = some us → rs.length = us.length ∧ ∀ (i : Nat) (r : ResultVar) (u : Value), rs[i]? = some r → us[i]? = some u → (Abs.resSem a.tmps r).run P w = .ok u w := by
    intro rs
    induction rs with
    | nil => intro us h; cases h; exact ⟨rfl, fun i r u h => by simp at h⟩
    | cons r rs ih =>
      intro us h
      cases r with
      | tmp t =>
        simp only [resF, Option.map_eq_some_iff] at h
        obtain ⟨us', h5, rfl⟩ := h
        obtain ⟨i1, i2⟩ := ih us' h5
        refine ⟨by simp [i1], fun i r u h6 h7 => ?_⟩
        cases i with
        | zero =>
          cases h6
          cases h7
          simp only [Abs.resSem, Sem.run_pure]
          rw [h1.ev t]
        | succ i => exact i2 i r u (by simpa using h6) (by simpa using h7)
      | cell a t => cases h
  obtain ⟨k1, k2⟩ := key _ _ h3
  have hrun := Abs.run_results (P := P) (fn := fn) (tmps := a.tmps) (w := w) k1 k2
  rcases us with _ | ⟨u, _ | ⟨u2, us⟩⟩ <;> rcases h2 with rfl | rfl <;> exact ⟨h1.defs, _, hrun, _, rfl, h4⟩
end
end Go.Gr
end
section
/- Walking by exact values, part b: memory in chunks, each its own blocks. -/
namespace Go.Gr
open Go.Abs (WTo)
/-- Names of chunks: the graph's variable, its fields' rows and maps, the rows inside its rows, what is local. -/
inductive Loc
  | g
  | f (j : Nat)
  | c (i : Nat)
  | u (i : Nat)
  | a (i : Nat)
  | x (i : Nat)
  | t
  deriving DecidableEq
def hblk : Value → Option Nat
  | .slice (some a) _ _ => some a.block
  | _ => none
inductive Ch
  | no
  | row (v : Value) (n sz : Nat) (xs : List Value)
  | var (b : Nat) (xs : List Value)
  | map (b : Nat) (l : Abs.SMap)
  | raw (b : Nat) (o : Obj)
def Ch.blk : Ch → Option Nat
  | .no => none
  | .row v _ _ _ => hblk v
  | .var b _ => some b
  | .map b _ => some b
  | .raw b _ => some b
/-- A row of n elements of sz cells each. -/
def RowOk (w : World) (v : Value) (n sz : Nat) (xs : List Value) : Prop :=
  xs.length = n * sz ∧ (∀ x ∈ xs, x.oneCell' = true) ∧ ((v = .slice none 0 0 ∧ n = 0) ∨ ∃ b s cap cur t m, v = .slice (some ⟨b, s, none⟩) n cap ∧ w.heap[b]? = some (.cells cur t m) ∧ n ≤ cap ∧ cap ≤ maxLen ∧ s + cap * sz ≤ cur.size ∧ (m = (0, 0) ∨ s + cap * sz ≤ m.1) ∧ ∀ i, i < n * sz → cur[s + i]? = xs[i]?)
def Ch.ok (w : World) : Ch → Prop
  | .no => True
  | .row v n sz xs => RowOk w v n sz xs
  | .var b xs => ∃ t, w.heap[b]? = some (.cells xs.toArray t (0, 0))
  | .map b l => Abs.KV w b l
  | .raw b o => w.heap[b]? = some o
theorem RowOk.len {w : World} {v : Value} {n sz : Nat} {xs : List Value} (h : RowOk w v n sz xs) : ∃ A c, v = .slice A n c := by
  obtain ⟨_, _, ⟨rfl, rfl⟩ | ⟨b, s, cap, cur, t, m, rfl, _⟩⟩ := h
  · exact ⟨_, _, rfl⟩
  · exact ⟨_, _, rfl⟩
theorem Ch.lt {w : World} {c : Ch} (h : c.ok w) {b : Nat} (hb : c.blk = some b) : b < w.heap.size := by
  cases c with
  | no => cases hb
  | row v n sz xs =>
    obtain ⟨_, _, ⟨rfl, _⟩ | ⟨b', s, cap, cur, t, m, rfl, h1, _⟩⟩ := h
    · cases hb
    · cases hb
      exact (Array.getElem?_eq_some_iff.1 h1).1
  | var b' xs =>
    cases hb
    obtain ⟨t, h⟩ := h
    exact (Array.getElem?_eq_some_iff.1 h).1
  | map b' l =>
    cases hb
    obtain ⟨es, clock, h, _⟩ := h
    exact (Array.getElem?_eq_some_iff.1 h).1
  | raw b' o =>
    cases hb
    exact (Array.getElem?_eq_some_iff.1 h).1
theorem Ch.kept {w w' : World} {c : Ch} (hb : ∀ b, c.blk = some b → w'.heap[b]? = w.heap[b]?) (h : c.ok w) : c.ok w' := by
  cases c with
  | no => trivial
  | row v n sz xs =>
    obtain ⟨h1, h2, ⟨rfl, h3⟩ | ⟨b', s, cap, cur, t, m, rfl, h3, h4⟩⟩ := h
    · exact ⟨h1, h2, .inl ⟨rfl, h3⟩⟩
    · exact ⟨h1, h2, .inr ⟨b', s, cap, cur, t, m, rfl, (hb b' rfl).trans h3, h4⟩⟩
  | var b' xs =>
    obtain ⟨t, h⟩ := h
    exact ⟨t, (hb b' rfl).trans h⟩
  | map b' l => exact Abs.KV.kept h (hb b' rfl)
  | raw b' o => exact (hb b' rfl).trans h
def upd (L : Loc → Ch) (l : Loc) (c : Ch) : Loc → Ch := fun l' => if l' = l then c else L l'
@[simp] theorem upd_same (L : Loc → Ch) (l : Loc) (c : Ch) : upd L l c l = c := if_pos rfl
theorem upd_ne (L : Loc → Ch) {l l' : Loc} (c : Ch) (h : l' ≠ l) : upd L l c l' = L l' := if_neg h
/-- The world's own chunks, in a call that began at w0 and may write B's blocks. -/
structure Hp (w0 : World) (B : Nat → Prop) (w : World) (L : Loc → Ch) : Prop where
  ok : ∀ l, (L l).ok w
  inj : ∀ l l' b, (L l).blk = some b → (L l').blk = some b → l = l'
  own : ∀ l b, (L l).blk = some b → B b ∨ w0.heap.size ≤ b
  to : WTo (fun b => B b ∨ w0.heap.size ≤ b) w0 w
section
variable {w0 w w' : World} {B : Nat → Prop} {L : Loc → Ch}
theorem Hp.lt (H : Hp w0 B w L) {l : Loc} {b : Nat} (hb : (L l).blk = some b) : b < w.heap.size := Ch.lt (H.ok l) hb
/-- From a world to the next: only the block of one chunk may change, and what is new. -/
structure Stp (w w' : World) (q : Option Nat) : Prop where
  os : w'.os = w.os
  tape : w'.tape = w.tape
  output : w'.output = w.output
  size : w.heap.size ≤ w'.heap.size
  same : ∀ b, b < w.heap.size → q ≠ some b → w'.heap[b]? = w.heap[b]?
theorem Stp.refl (w : World) (q : Option Nat) : Stp w w q := ⟨rfl, rfl, rfl, Nat.le_refl _, fun _ _ _ => rfl⟩
theorem Hp.step (H : Hp w0 B w L) (l : Loc) (c : Ch) (s : Stp w w' (L l).blk) (hc : c.ok w') (hb : ∀ b, c.blk = some b → (L l).blk = some b ∨ w.heap.size ≤ b) : Hp w0 B w' (upd L l c) := by
  refine ⟨fun l' => ?_, fun l1 l2 b h1 h2 => ?_, fun l' b h => ?_, ?_⟩
  · unfold upd
    split
    · exact hc
    · rename_i hl
      refine Ch.kept (fun b h => s.same b (H.lt h) (fun h2 => hl (H.inj l' l b h h2))) (H.ok l')
  · unfold upd at h1 h2
    split at h1 <;> split at h2
    · rename_i e1 e2; rw [e1, e2]
    · rename_i e1 e2
      rcases hb b h1 with h3 | h3
      · exact absurd (H.inj l2 l b h2 h3) e2
      · have := H.lt h2; omega
    · rename_i e1 e2
      rcases hb b h2 with h3 | h3
      · exact absurd (H.inj l1 l b h1 h3) e1
      · have := H.lt h1; omega
    · exact H.inj l1 l2 b h1 h2
  · unfold upd at h
    split at h
    · rcases hb b h with h3 | h3
      · exact H.own l b h3
      · exact .inr (Nat.le_trans H.to.size h3)
    · exact H.own l' b h
  · refine ⟨s.os.trans H.to.os, s.tape.trans H.to.tape, s.output.trans H.to.output, Nat.le_trans H.to.size s.size, fun b h1 h2 => ?_⟩
    rw [← H.to.block b h1 h2]
    exact s.same b (Nat.lt_of_lt_of_le h1 H.to.size) (fun h3 => h2 (H.own l b h3))
/-- Chunks are let go, or named anew. -/
theorem Hp.sub (H : Hp w0 B w L) {L' : Loc → Ch} (σ : Loc → Loc) (h : ∀ l, L' l = .no ∨ L' l = L (σ l)) (hi : ∀ l l' b, (L' l).blk = some b → (L' l').blk = some b → σ l = σ l' → l = l') : Hp w0 B w L' := by
  refine ⟨fun l => ?_, fun l l' b h1 h2 => ?_, fun l b hb => ?_, H.to⟩
  · rcases h l with h1 | h1
    · rw [h1]; trivial
    · rw [h1]; exact H.ok _
  · have e1 : L' l = L (σ l) := (h l).resolve_left (fun h3 => by rw [h3] at h1; cases h1)
    have e2 : L' l' = L (σ l') := (h l').resolve_left (fun h3 => by rw [h3] at h2; cases h2)
    refine hi l l' b h1 h2 ?_
    rw [e1] at h1
    rw [e2] at h2
    exact H.inj _ _ b h1 h2
  · have e1 : L' l = L (σ l) := (h l).resolve_left (fun h3 => by rw [h3] at hb; cases hb)
    rw [e1] at hb
    exact H.own _ b hb
theorem Hp.drop (H : Hp w0 B w L) (l : Loc) : Hp w0 B w (upd L l .no) := H.step l .no (.refl w _) trivial (fun b h => by cases h)
/-- A chunk goes to another name. -/
theorem Hp.move (H : Hp w0 B w L) {l l' : Loc} (hne : l ≠ l') (hl' : L l' = .no) : Hp w0 B w (upd (upd L l .no) l' (L l)) := by
  refine H.sub (fun m => if m = l' then l else m) (fun m => ?_) (fun m m' b h1 h2 h3 => ?_)
  · by_cases hm : m = l'
    · subst hm; right; rw [upd_same, if_pos rfl]
    · rw [upd_ne _ _ hm, if_neg hm]
      by_cases hm2 : m = l
      · subst hm2; left; rw [upd_same]
      · right; rw [upd_ne _ _ hm2]
  · by_cases hm : m = l' <;> by_cases hm' : m' = l'
    · rw [hm, hm']
    · rw [if_pos hm, if_neg hm'] at h3
      subst h3
      rw [upd_ne _ _ hm', upd_same] at h2
      cases h2
    · rw [if_neg hm, if_pos hm'] at h3
      subst h3
      rw [upd_ne _ _ hm, upd_same] at h1
      cases h1
    · rw [if_neg hm, if_neg hm'] at h3; exact h3
theorem Hp.eq (H : Hp w0 B w L) {L' : Loc → Ch} (h : ∀ l, L' l = L l) : Hp w0 B w L' := by
  have : L' = L := funext h
  rw [this]; exact H
theorem Hp.drew (H : Hp w0 B w L) : Hp w0 B w.drew L :=
  ⟨fun l => Ch.kept (fun _ _ => rfl) (H.ok l), H.inj, H.own, ⟨H.to.os, H.to.tape, H.to.output, H.to.size, H.to.block⟩⟩
/-- Of a call: what is its own, of what the caller has; the rest stays. -/
theorem Hp.call (H : Hp w0 B w L) {L1 L2 : Loc → Ch} (σ : Loc → Bool) (h1 : ∀ l, L1 l = if σ l = true then L l else .no) (K : Hp w (fun b => ∃ l, (L1 l).blk = some b) w' L2) (h2 : ∀ l, σ l = false → L2 l = .no) : Hp w0 B w' (fun l => if σ l = true then L2 l else L l) := by
  have old : ∀ l b, σ l = false → (L l).blk = some b → w'.heap[b]? = w.heap[b]? := fun l b hs hb => by
    refine K.to.block b (H.lt hb) ?_
    rintro (⟨l', h3⟩ | h3)
    · rw [h1] at h3
      by_cases hs' : σ l' = true
      · rw [if_pos hs'] at h3
        have := H.inj l l' b hb h3
        rw [this, hs'] at hs; cases hs
      · rw [if_neg hs'] at h3; cases h3
    · have := H.lt hb; omega
  have from_ : ∀ l b, (L2 l).blk = some b → (∃ l', σ l' = true ∧ (L l').blk = some b) ∨ w.heap.size ≤ b := fun l b hb => by
    rcases K.own l b hb with ⟨l', h3⟩ | h3
    · left
      rw [h1] at h3
      by_cases hs' : σ l' = true
      · rw [if_pos hs'] at h3; exact ⟨l', hs', h3⟩
      · rw [if_neg hs'] at h3; cases h3
    · exact .inr h3
  refine ⟨fun l => ?_, fun l l' b e1 e2 => ?_, fun l b e => ?_, ?_⟩
  · by_cases hs : σ l = true
    · rw [if_pos hs]; exact K.ok l
    · rw [if_neg hs]; exact Ch.kept (fun b hb => old l b (by simpa using hs) hb) (H.ok l)
  · by_cases hs : σ l = true <;> by_cases hs' : σ l' = true
    · rw [if_pos hs] at e1; rw [if_pos hs'] at e2; exact K.inj l l' b e1 e2
    · rw [if_pos hs] at e1; rw [if_neg hs'] at e2
      rcases from_ l b e1 with ⟨m, hm, hb⟩ | hb
      · have := H.inj m l' b hb e2; rw [this] at hm; exact absurd hm hs'
      · have := H.lt e2; omega
    · rw [if_neg hs] at e1; rw [if_pos hs'] at e2
      rcases from_ l' b e2 with ⟨m, hm, hb⟩ | hb
      · have := H.inj m l b hb e1; rw [this] at hm; exact absurd hm hs
      · have := H.lt e1; omega
    · rw [if_neg hs] at e1; rw [if_neg hs'] at e2; exact H.inj l l' b e1 e2
  · by_cases hs : σ l = true
    · rw [if_pos hs] at e
      rcases from_ l b e with ⟨m, hm, hb⟩ | hb
      · exact H.own m b hb
      · exact .inr (Nat.le_trans H.to.size hb)
    · rw [if_neg hs] at e; exact H.own l b e
  · refine ⟨K.to.os.trans H.to.os, K.to.tape.trans H.to.tape, K.to.output.trans H.to.output, Nat.le_trans H.to.size K.to.size, fun b h3 h4 => ?_⟩
    rw [← H.to.block b h3 h4]
    refine K.to.block b (Nat.lt_of_lt_of_le h3 H.to.size) ?_
    rintro (⟨l, h5⟩ | h5)
    · rw [h1] at h5
      by_cases hs : σ l = true
      · rw [if_pos hs] at h5; exact h4 (H.own l b h5)
      · rw [if_neg hs] at h5; cases h5
    · have := H.to.size; omega
/-- A callee's own blocks, as a call begins. -/
theorem Hp.begin (H : Hp w0 B w L) {L1 : Loc → Ch} (σ : Loc → Bool) (h1 : ∀ l, L1 l = if σ l = true then L l else .no) : Hp w (fun b => ∃ l, (L1 l).blk = some b) w L1 := by
  refine ⟨fun l => ?_, fun l l' b e1 e2 => ?_, fun l b e => .inl ⟨l, e⟩, .refl _ w⟩
  · rw [h1]
    split
    · exact H.ok l
    · trivial
  · rw [h1] at e1 e2
    split at e1
    · split at e2
      · exact H.inj l l' b e1 e2
      · cases e2
    · cases e1
end
end Go.Gr
end
section
/- Walking by exact values, part c: what each operation does. -/
namespace Go.Gr
open Go.Abs (WTo tyAt ty_slice T_ok aggB)
open Go.Proofs
noncomputable abbrev P : Program := Tryd.prog
noncomputable abbrev T : Abs.Tbl := Abs.T
/-- An address some cells behind a slice's. -/
def adr (v : Value) (k : Nat) : Addr := match v with
  | .slice (some a) _ _ => a.add k
  | _ => ⟨0, 0, none⟩
theorem add_add' (a : Addr) (m n : Nat) : (a.add m).add n = a.add (m + n) := by
  unfold Addr.add
  by_cases hm : m = 0
  · subst hm; simp
  · by_cases hn : n = 0
    · subst hn; simp
    · rw [if_neg hm, if_neg hn, if_neg (by omega)]; simp [Nat.add_assoc]
theorem RowOk.adr_add {w : World} {v : Value} {n sz : Nat} {xs : List Value} (h : RowOk w v n sz xs) (hn : 0 < n) (k m : Nat) : (adr v k).add m = adr v (k + m) := by
  obtain ⟨_, _, ⟨rfl, rfl⟩ | ⟨b, s, cap, cur, t, mm, rfl, _⟩⟩ := h
  · omega
  · exact add_add' _ _ _
theorem RowOk.cell {w : World} {v : Value} {n sz : Nat} {xs : List Value} (h : RowOk w v n sz xs) {k : Nat} {x : Value} (hx : xs[k]? = some x) : w.cell? (adr v k) = some x := by
  obtain ⟨h1, _, ⟨rfl, rfl⟩ | ⟨b, s, cap, cur, t, mm, rfl, h2, _, _, _, _, h3⟩⟩ := h
  · have := (List.getElem?_eq_some_iff.1 hx).1; rw [h1] at this; omega
  · have hk : k < n * sz := by rw [← h1]; exact (List.getElem?_eq_some_iff.1 hx).1
    unfold adr
    simp only
    rw [Abs.at_off]
    simp only [World.cell?, h2]
    have := h3 k hk
    rw [hx] at this
    simpa using this
section
variable {w : World} {ρ : Operand → Value} {o : Oper}
theorem x_move {x : Operand} (ho : o.op = .move x) {v : Value} (hv : ρ x = v) : (execOp ρ o).run P w = .ok (.value v) w := by simp [execOp, ho, hv]
theorem x_assign {x : Operand} (ho : o.op = .assign x) {v : Value} (hv : ρ x = v) : (execOp ρ o).run P w = .ok (.value v) w := by simp [execOp, ho, hv]
theorem x_nilc {x : Operand} (ho : o.op = .nilCheck x) {a : Addr} (hv : ρ x = .pointer (some a)) : (execOp ρ o).run P w = .ok (.value (.pointer (some a))) w := by simp [execOp, ho, hv]
def fieldOff (P : Program) (t f : Nat) : Option Nat := match P.underlying t with
  | some (.struct fields) => match fields[f]? with
    | some fd => match P.info? fd.type with
      | some i => bif Nat.blt 0 i.size then some fd.offset else none
      | none => none
    | none => none
  | _ => none
theorem x_field {t k : Nat} {x : Operand} (ho : o.op = .fieldAddr t x k) {a : Addr} (hv : ρ x = .pointer (some a)) {off : Nat} (hf : fieldOff P t k = some off) {a' : Addr} (ha : a.add off = a') : (execOp ρ o).run P w = .ok (.value (.pointer (some a'))) w := by
  unfold fieldOff at hf
  split at hf
  · rename_i fields hu
    split at hf
    · rename_i fd hfd
      split at hf
      · rename_i i hi
        cases hb : Nat.blt 0 i.size with
        | false => rw [hb] at hf; cases hf
        | true =>
          rw [hb] at hf
          cases hf
          have hpos : 0 < i.size := by simpa [Nat.blt_eq] using hb
          simp only [execOp, ho, Instr.fieldAt, Sem.run_bind, Abs.run_underlying' hu, Result.andThen_ok, hv, Instr.sureAddr, Sem.run_pure, hfd, Abs.fieldPlace_run hi hpos, ha]
      · cases hf
    · cases hf
  · cases hf
theorem x_load {t : Nat} {x : Operand} (ho : o.op = .load t x) {a : Addr} (hv : ρ x = .pointer (some a)) (ht : aggB P t = some false) {v : Value} (hc : w.cell? a = some v) : (execOp ρ o).run P w = .ok (.value v) w :=
  Abs.run_load_op ho hv (Abs.run_loadVar_one ht hc)
theorem x_loadA {t : Nat} {x : Operand} (ho : o.op = .load t x) {a : Addr} (hv : ρ x = .pointer (some a)) (ht : aggB P t = some true) {i : TypeInfo} (hi : P.info? t = some i) {vs : List Value} (hl : vs.length = i.size) (hc : ∀ (j : Nat) (v : Value), vs[j]? = some v → w.cell? (a.add j) = some v) : (execOp ρ o).run P w = .ok (.value (.agg vs.toArray)) w :=
  Abs.run_load_op ho hv (Abs.run_loadVar_agg ht hi hl hc)
theorem x_index {t e sz by_ : Nat} {k : Option IntKind} (hty : tyAt T t = .slice e k sz by_) {x y : Operand} (ho : o.op = .indexAddr t x y) {v : Value} {n : Nat} {xs : List Value} (hr : RowOk w v n sz xs) (hx : ρ x = v) {ki : IntKind} {i : Nat} (hy : ρ y = .int ki (i : Int)) (hi : i < n) :
    (execOp ρ o).run P w = .ok (.value (.pointer (some (adr v (i * sz))))) w := by
  obtain ⟨_, _, ⟨rfl, rfl⟩ | ⟨b, s, cap, cur, te, mm, rfl, _⟩⟩ := hr
  · omega
  · have := Abs.run_indexAddr (P := P) (w := w) T_ok hty ho hx hy (by omega) (by omega)
    rw [this]
    rfl
theorem x_len {t e sz by_ : Nat} {k : Option IntKind} (hty : tyAt T t = .slice e k sz by_) {x : Operand} (ho : o.op = .call { callee := .builtin .len, args := #[x], argTypes := #[t] }) {A : Option Addr} {n c : Nat} (hx : ρ x = .slice A n c) : (execOp ρ o).run P w = .ok (.value (.int .i64 (n : Int))) w := by
  obtain ⟨cs, hcs⟩ := Abs.run_call_builtin (P := P) (ρ := ρ) (w := w) ho
  rw [hcs]
  simp [Go.builtin, Builtin.len_, Abs.run_underlying' (ty_slice T_ok hty).1, hx, goInt]
def avV : Abs.AV → Value
  | .int k n => .int k n
  | .bool b => .bool b
  | _ => undef
theorem x_arith {op : BinOp} {ty ty' : Nat} {x y : Operand} (ho : o.op = .binOp op ty x y ty') {k : IntKind} {a b : Int} (h1 : ρ x = .int k a) (h2 : ρ y = .int k b) {av : Abs.AV} (hb : Abs.arith op k a b = some (true, av)) : (execOp ρ o).run P w = .ok (.value (avV av)) w := by
  have hg : ∀ w : World, (eqGuard op ty x y (ρ x) (ρ y)).run P w = .ok () w := by intro w; rw [h1, h2]; simp [eqGuard]
  unfold Abs.arith at hb
  cases op
  all_goals first
    | (cases hb; done)
    | (simp only [Option.some.injEq, Prod.mk.injEq, true_and, Bool.not_eq_true', decide_eq_false_iff_not] at hb
       first
       | (obtain rfl := hb
          simp only [execOp, ho, Sem.run_bind, hg, Result.andThen_ok]
          rw [h1, h2]
          simp [binOp, Op.intArith, Op.intBits, Op.intCmp, avV]
          done)
       | (obtain ⟨hb1, rfl⟩ := hb
          simp only [execOp, ho, Sem.run_bind, hg, Result.andThen_ok]
          rw [h1, h2]
          simp [binOp, Op.intDiv, hb1, avV]
          done))
theorem x_not {ty : Nat} {x : Operand} (ho : o.op = .unOp .not ty x) {b : Bool} (hx : ρ x = .bool b) : (execOp ρ o).run P w = .ok (.value (.bool !b)) w := by simp [execOp, ho, hx, Op.unary]
theorem x_pick {c x y : Operand} (ho : o.op = .pick c x y) {b : Bool} (hc : ρ c = .bool b) {v : Value} (hv : (bif b then ρ x else ρ y) = v) : (execOp ρ o).run P w = .ok (.value v) w := by
  subst hv
  cases b <;> simp [execOp, ho, hc, asBool]
theorem x_extract {x : Operand} {i : Nat} (ho : o.op = .extract x i) {vs : Array Value} (hx : ρ x = .tuple vs) {v : Value} (hv : vs[i]? = some v) : (execOp ρ o).run P w = .ok (.value v) w := by
  obtain ⟨hi, rfl⟩ := Array.getElem?_eq_some_iff.1 hv
  simp [execOp, ho, hx, Instr.extract, hi]
theorem x_build {t : Nat} {parts : Array (Nat × Operand)} (ho : o.op = .build t parts) {cells : Array Value} (h : P.built t (parts.map fun (i, x) => (i, ρ x)).toList = some cells) : (execOp ρ o).run P w = .ok (.value (.agg cells)) w := by
  simp only [execOp, ho, Sem.run_bind, run_build w t _ cells h, Result.andThen_ok, Sem.run_pure]
theorem x_lookup {x y : Operand} (ho : o.op = .lookup 48 x y true) {b : Nat} {l : Abs.SMap} (hm : Abs.KV w b l) (hx : ρ x = .map (some b)) {s : ByteArray} (hy : ρ y = .string s) (hs : s.size ≤ maxLen) : (execOp ρ o).run P w = .ok (.value (.tuple #[.int .i64 ((Abs.look l s).getD 0), .bool (Abs.look l s).isSome])) w := by
  obtain ⟨k, e, h1, h2, h3, ⟨i, h4, h5⟩, _⟩ := Abs.ty_smap T_ok (t := 48) rfl
  have := Abs.MapIs.look ((Abs.KV.iff h2 h3).1 hm) h1 h2 h3 (Abs.run_zeroValue' h4 h5) hs
  simp only [execOp, ho, hx, hy, Sem.run_bind, this, Result.andThen_ok, Sem.run_pure]
theorem run_ptr_nil' (d ty : Nat) {q : TypeId} (hu : P.underlying ty = some (.pointer q)) (a : Addr) : (Op.equalIn (d + 1) ty (.pointer (some a)) (.pointer none)).run P w = .ok false w := by
  simp [Op.equalIn, Abs.run_underlying' hu]
theorem run_ptr_nil (ty : Nat) {q : TypeId} (hu : P.underlying ty = some (.pointer q)) (a : Addr) : (Op.equal ty (.pointer (some a)) (.pointer none)).run P w = .ok false w := run_ptr_nil' 9999 ty hu a
theorem x_ptrNe {x : Operand} {ty ty' : Nat} (ho : o.op = .binOp .neq ty x (.const (.pointer none)) ty') (hu : P.underlying ty = some (.pointer 54)) {a : Addr} (hx : ρ x = .pointer (some a)) (hc : ρ (.const (.pointer none)) = .pointer none) : (execOp ρ o).run P w = .ok (.value (.bool true)) w := by
  simp [execOp, ho, hx, hc, eqGuard, binOp, run_ptr_nil ty hu]
theorem x_ptrEq {x : Operand} {ty ty' : Nat} (ho : o.op = .binOp .eql ty x (.const (.pointer none)) ty') (hu : P.underlying ty = some (.pointer 54)) {a : Addr} (hx : ρ x = .pointer (some a)) (hc : ρ (.const (.pointer none)) = .pointer none) : (execOp ρ o).run P w = .ok (.value (.bool false)) w := by
  simp [execOp, ho, hx, hc, eqGuard, binOp, run_ptr_nil ty hu]
/-- A slice is cut at its front. -/
theorem x_cut {t e sz by_ : Nat} {k : Option IntKind} (hty : tyAt T t = .slice e k sz by_) {x : Operand} (ho : o.op = .slice t x (some (.const (.int .i64 1))) none none) {v : Value} {n : Nat} {xs : List Value} (hr : RowOk w v n sz xs) (hx : ρ x = v) (hc : ρ (.const (.int .i64 1)) = .int .i64 1) (hn : 1 ≤ n) :
    ∃ v', (execOp ρ o).run P w = .ok (.value v') w ∧ RowOk w v' (n - 1) sz (xs.drop sz) ∧ hblk v' = hblk v := by
  obtain ⟨h1, h2, ⟨rfl, rfl⟩ | ⟨b, s, cap, cur, te, mm, rfl, h3, h4, h5, h6, h7, h8⟩⟩ := hr
  · omega
  · have hb : (Instr.sliceBounds true n cap ((some (Operand.const (.int .i64 1))).map ρ) ((none : Option Operand).map ρ) none).run P w = .ok (1, n, cap) w := by
      simp [Instr.sliceBounds, Instr.sliceBound, hc, asIntOf, show ¬ ((n : Int) < 1) by omega, hn]
    have hrun := Abs.run_slice_rows T_ok hty ho hx hb
    refine ⟨_, hrun, ?_, ?_⟩
    · have hlen : (xs.drop sz).length = (n - 1) * sz := by
        rw [List.length_drop, h1, Nat.sub_mul, Nat.one_mul]
      refine ⟨hlen, fun x hx => h2 x (List.mem_of_mem_drop hx), ?_⟩
      by_cases hcap : cap = 1
      · subst hcap
        obtain rfl : n = 1 := by omega
        rw [if_pos rfl]
        exact .inr ⟨b, s, 0, cur, te, mm, rfl, h3, by omega, by simp [maxLen], by omega, h7.imp id (fun h => by omega), fun i hi => by omega⟩
      · rw [if_neg hcap]
        have hsz : cap * sz = sz + (cap - 1) * sz := by
          rw [Nat.sub_mul, Nat.one_mul]
          have : 1 * sz ≤ cap * sz := Nat.mul_le_mul_right _ (by omega)
          omega
        have hnz : n * sz = sz + (n - 1) * sz := by
          rw [Nat.sub_mul, Nat.one_mul]
          have : 1 * sz ≤ n * sz := Nat.mul_le_mul_right _ (by omega)
          omega
        refine .inr ⟨b, s + sz, cap - 1, cur, te, mm, ?_, h3, by omega, by omega, by omega, h7.imp id (fun h => by omega), fun i hi => ?_⟩
        · simp [Abs.at_off]
        · rw [Nat.add_assoc, h8 (sz + i) (by omega), List.getElem?_drop]
    · unfold hblk
      by_cases hcap : cap = 1
      · rw [if_pos hcap]
      · rw [if_neg hcap]; simp [Abs.add_block]
end
end Go.Gr
end
section
/- Walking by exact values, part a2: regions that draw their order, up to a store that waits for all. -/
namespace Go.Gr
open Go.Abs (Runs)
section
variable {P : Program} {ops : Array Oper} {Q : Exit → Act → World → Prop} {md : Region.Mode} {S : World → Prop}
/-- Whatever comes up of the first n, S holds behind each; then L. -/
def wpAnyT (P : Program) (md : Region.Mode) (ops : Array Oper) (Q : Exit → Act → World → Prop) (S : World → Prop) (n : Nat) (L : Array Bool → Act → World → Prop) : Nat → Array Bool → Act → World → Prop
  | 0, listed, a, w => L listed a w
  | f + 1, listed, a, w => Region.ready md ops listed ≠ [] ∧ ∀ i ∈ Region.ready md ops listed, i < n ∧ wpOp P ops Q i (fun a' w' => S w' ∧ wpAnyT P md ops Q S n L f (listed.setIfInBounds i true) a' w') a w
theorem wpAny_of_T {n g : Nat} {L : Array Bool → Act → World → Prop} (hL : ∀ listed a w, L listed a w → wpAny P md ops Q g listed a w) :
    ∀ (f : Nat) (listed : Array Bool) (a : Act) (w : World), wpAnyT P md ops Q S n L f listed a w → wpAny P md ops Q (f + g) listed a w
  | 0, listed, a, w, h => by rw [Nat.zero_add]; exact hL _ _ _ h
  | f + 1, listed, a, w, h => by
    rw [show f + 1 + g = (f + g) + 1 by omega]
    exact ⟨fun h0 => absurd h0 h.1, fun i hi => wpOp_mono (fun a' w' h' => wpAny_of_T hL f _ a' w' h'.2) (h.2 i hi).2⟩
theorem wpAnyT_first {n i : Nat} {oi : Oper} {v : Value} {L : Array Bool → Act → World → Prop} (hi : ops[i]? = some oi) (hsel : ∀ (j : Nat) (o : Oper) cs b, ops[j]? = some o → o.op ≠ .select cs b)
    (hs : Region.sinkB md ops n = true) (hc : Region.chainB md ops n = true) (hn : n < ops.size) (hin : i < n)
    (hdone : ∀ listed a w, L listed a w → ∀ j ∈ Region.ready md ops listed, n ≤ j)
    (hQ : ∀ c a w, Q (.panic c) (a.put oi.dst v) w → Q (.panic c) a w) :
    ∀ (f : Nat) (listed : Array Bool) (a : Act) (w : World), HeadInv md ops n listed →
      (∀ j oj, ops[j]? = some oj → j ≠ i → listed.getD j true = false → (∀ e ∈ oj.after, Region.binds md e = true → e.on ≠ i) → oi.apart ops oj = true) →
      i ∈ Region.ready md ops listed → YieldsIf P ops S oi v a → S w →
      wpAnyT P md ops Q S n L f (listed.setIfInBounds i true) (a.put oi.dst v) w → wpAnyT P md ops Q S n L (f + 1) listed a w := by
  intro f
  induction f with
  | zero =>
    intro listed a w inv _ hr hy hS H
    have hun := (mem_ready.1 hr).1
    refine ⟨fun h => (by rw [h] at hr; cases hr), fun j hj => ?_⟩
    have hjn : j < n := by
      rcases Nat.lt_or_ge j n with h | h
      · exact h
      · exact absurd hj (tail_waits hs hc hn inv _ i rfl hin hun j h)
    refine ⟨hjn, ?_⟩
    by_cases hji : j = i
    · subst hji; exact hy.wpOp hi hS ⟨hS, H⟩
    · have := hdone _ _ _ H j (ready_mono hj hji)
      omega
  | succ f ih =>
    intro listed a w inv hfree hr hy hS H
    have hun := (mem_ready.1 hr).1
    refine ⟨fun h => (by rw [h] at hr; cases hr), fun j hj => ?_⟩
    have hjn : j < n := by
      rcases Nat.lt_or_ge j n with h | h
      · exact h
      · exact absurd hj (tail_waits hs hc hn inv _ i rfl hin hun j h)
    refine ⟨hjn, ?_⟩
    by_cases hji : j = i
    · subst hji; exact hy.wpOp hi hS ⟨hS, H⟩
    · have h1 := (H.2 j (ready_mono hj hji)).2
      obtain ⟨hjun, oj, hoj, hall⟩ := mem_ready.1 hj
      have hnot : ∀ e ∈ oj.after, Region.binds md e = true → e.on ≠ i := fun e he hb heq => by
        have h1 := hall e he hb
        rw [heq, getD_both hun] at h1
        cases h1
      have h2 := wpOp_putIf hoj (hfree j oj hoj hji hjun hnot) (fun cs b => hsel i oi cs b hi) (fun cs b => hsel j oj cs b hoj) hQ hy h1
      have hfree' : ∀ k ok, ops[k]? = some ok → k ≠ i → (listed.setIfInBounds j true).getD k true = false →
          (∀ e ∈ ok.after, Region.binds md e = true → e.on ≠ i) → oi.apart ops ok = true := fun k ok hk hki hun hno => by
        refine hfree k ok hk hki ?_ hno
        by_cases hjk : j = k
        · subst hjk; exact hjun
        · rw [getD_set_ne true hjk] at hun; exact hun
      refine wpOp_mono (fun a' w' h3 => ⟨h3.2.1, ih (listed.setIfInBounds j true) a' w' (inv.set hj hjn) hfree' (ready_mono hr (Ne.symm hji)) h3.1 h3.2.1 ?_⟩) h2
      rw [Array.setIfInBounds_comm _ _ hji]
      exact h3.2.2
end
section
variable {P : Program} {n : Nat} {l : List Oper} {Q : QT} {f : Fn} {w : World} {o : Oper} {S : World → Prop} {m : Nat}
def tailB (l : List Oper) (m : Nat) : Bool := Region.noSelect l.toArray && decide (m < l.toArray.size) && Region.sinkB .any l.toArray m && Region.chainB .any l.toArray m
/-- The head of such a region: the first m, then the rest in a row. -/
def WT (P : Program) (n : Nat) (l : List Oper) (Q : QT) (S : World → Prop) (m fuel : Nat) (listed : Array Bool) (f : Fn) (w : World) : Prop := HeadInv .any l.toArray m listed → ∀ a, Fr n f a →
  wpAnyT P .any l.toArray (QF n Q) S m (fun listed' a' w' => Region.seqB .any l.toArray (l.length - m) m listed' = true ∧ wpList P l.toArray (QF n Q) (l.drop m) a' w') fuel listed a w
theorem WC.anyT {id : Nat} (m : Nat) (S : World → Prop) (hm : P.follows .mixedOrders = true) (hB : tailB l m = true) (h : WT P n l Q S m m (Array.replicate l.length false) f w.drew) : WC P n (.region id l.toArray true) Q f w := by
  intro a ha
  unfold tailB at hB
  simp only [Bool.and_eq_true, decide_eq_true_eq] at hB
  obtain ⟨⟨⟨hsel, hn⟩, hs⟩, hc⟩ := hB
  have hn' : m < l.length := by simpa using hn
  have inv0 : HeadInv .any l.toArray m (Array.replicate l.length false) :=
    ⟨by simp, fun j oj _ hl => (by rw [getD_replicate_false] at hl; cases hl), fun t _ ht => getD_in (by simpa using ht) (getD_replicate_false _ _)⟩
  have H := h inv0 a ha
  refine wp_region_any hm ?_
  have := wpAny_of_T (g := l.length - m) (fun listed a' w' hL => by
    have := wpAny_of_seq (md := .any) (P := P) (Q' := QF n Q) (l.drop m) m listed a' w' (fun j => by simp [List.getElem?_drop]) (by rw [List.length_drop]; exact hL.1) hL.2
    rwa [List.length_drop] at this) _ _ _ _ H
  rw [show m + (l.length - m) = l.toArray.size by simp; omega] at this
  simpa using this
theorem WT.take {fuel i : Nat} {listed : Array Bool} (hB : tailB l m = true) (hi : l[i]? = some o) (hg : o.guard = none) {d : Nat} (hdd : o.dst = some d) (hd : Nat.blt d n = true) (him : Nat.blt i m = true) (hf : Region.free .any l.toArray listed i = true) (hr : (Region.ready .any l.toArray listed).contains i = true)
    (hQ : ∀ c f w, ¬ Q (.panic c) f w) {v : Value} (hx : ∀ w, S w → (execOp (evf f) o).run P w = .ok (.value v) w) (hS : S w) (h : WT P n l Q S m fuel (listed.setIfInBounds i true) (up f d v) w) : WT P n l Q S m (fuel + 1) listed f w := by
  intro inv a ha
  unfold tailB at hB
  simp only [Bool.and_eq_true, decide_eq_true_eq] at hB
  obtain ⟨⟨⟨hsel, hn⟩, hs⟩, hc⟩ := hB
  have hi' : l.toArray[i]? = some o := by simpa using hi
  have him' : i < m := by simpa [Nat.blt_eq] using him
  have hr' : i ∈ Region.ready .any l.toArray listed := by simpa using hr
  have hput := ha.put (d := o.dst) (dOk_lt (by rw [hdd]; exact hd)) v
  refine wpAnyT_first (v := v) hi' (Region.noSelect_spec hsel) hs hc hn him' (fun listed a w hL => seqB_ready hL.1) (fun c a w ⟨f, _, h2⟩ => absurd h2 (hQ c f w)) fuel listed a w inv (Region.free_spec hi' hf) hr' (.inl ⟨wanted_none hg a, fun w hw => by rw [ha.eval]; exact hx w hw⟩) hS ?_
  refine h (inv.set hr' him') _ ?_
  rw [hdd] at hput ⊢
  exact hput
theorem WT.oneVal {fuel i : Nat} {listed : Array Bool} (him : Nat.blt i m = true) (hr : Region.ready .any l.toArray listed = [i]) (hi : l[i]? = some o) (hg : o.guard = none) {d : Nat} (hdd : o.dst = some d) (hd : Nat.blt d n = true) {v : Value} {w' : World} (hx : (execOp (evf f) o).run P w = .ok (.value v) w') (hS : S w')
    (h : WT P n l Q S m fuel (listed.setIfInBounds i true) (up f d v) w') : WT P n l Q S m (fuel + 1) listed f w := by
  intro inv a ha
  have him' : i < m := by simpa [Nat.blt_eq] using him
  have hput := ha.put (d := o.dst) (dOk_lt (by rw [hdd]; exact hd)) v
  refine ⟨by rw [hr]; simp, fun j hj => ?_⟩
  have hr' := hj
  rw [hr] at hj
  obtain rfl := List.mem_singleton.1 hj
  refine ⟨him', ?_⟩
  unfold wpOp
  have hi' : l.toArray[j]? = some o := by simpa using hi
  rw [hi']
  simp only
  rw [wanted_none hg, if_pos rfl]
  refine .inl ?_
  unfold Oper.wp
  rw [ha.eval, hx]
  refine ⟨hS, h (inv.set hr' him') _ ?_⟩
  rw [hdd] at hput ⊢
  exact hput
theorem WT.oneCall {fuel i : Nat} {listed : Array Bool} (him : Nat.blt i m = true) (hr : Region.ready .any l.toArray listed = [i]) (hi : l[i]? = some o) (hg : o.guard = none) {d : Nat} (hdd : o.dst = some d) (hd : Nat.blt d n = true) {c : Call} {g : Nat} (ho : o.op = .call c) (hc : c.callee = .value (.func g)) {R : Value → World → Prop} (hrn : Runs P g (c.args.toList.map (evf f)) w R)
    (h : ∀ v w', R v w' → S w' ∧ WT P n l Q S m fuel (listed.setIfInBounds i true) (up f d v) w') : WT P n l Q S m (fuel + 1) listed f w := by
  intro inv a ha
  have him' : i < m := by simpa [Nat.blt_eq] using him
  refine ⟨by rw [hr]; simp, fun j hj => ?_⟩
  have hr' := hj
  rw [hr] at hj
  obtain rfl := List.mem_singleton.1 hj
  refine ⟨him', ?_⟩
  unfold wpOp
  have hi' : l.toArray[j]? = some o := by simpa using hi
  rw [hi']
  simp only
  rw [wanted_none hg, if_pos rfl]
  refine .inl (Abs.run_call (R := R) ho hc (f := g) (caps := #[]) rfl ?_ (fun v w' hv => ⟨(h v w' hv).1, (h v w' hv).2 (inv.set hr' him') _ ?_⟩))
  · have : (c.args.map a.eval).toList ++ (#[] : Array Value).toList = c.args.toList.map (evf f) := by simp [ha.eval]
    rw [this]
    exact hrn
  · have hput := ha.put (d := o.dst) (dOk_lt (by rw [hdd]; exact hd)) v
    rw [hdd] at hput ⊢
    exact hput
theorem WT.tail {listed : Array Bool} (hq : Region.seqB .any l.toArray (l.length - m) m listed = true) (h : WL P n l.toArray Q (l.drop m) f w) : WT P n l Q S m 0 listed f w := fun _ a ha => ⟨hq, h a ha⟩
/-- The same in a row, told by the slot. -/
theorem WL.vald {ops : Array Oper} (hg : o.guard = none) {d : Nat} (hdd : o.dst = some d) (hd : Nat.blt d n = true) {v : Value} {w' : World} (hx : (execOp (evf f) o).run P w = .ok (.value v) w') (h : WL P n ops Q l (up f d v) w') : WL P n ops Q (o :: l) f w :=
  WL.val hg (by rw [hdd]; exact hd) hx (by rw [hdd]; exact h)
theorem WL.gvald {ops : Array Oper} {j t : Nat} {b : Bool} (hg : o.guard = some (j, b)) (hs : slotOf ops j = some t) (ht : Nat.blt t n = true) (hb : f t = .bool b) {d : Nat} (hdd : o.dst = some d) (hd : Nat.blt d n = true) {v : Value} {w' : World} (hx : (execOp (evf f) o).run P w = .ok (.value v) w') (h : WL P n ops Q l (up f d v) w') : WL P n ops Q (o :: l) f w :=
  WL.gval hg hs ht hb (by rw [hdd]; exact hd) hx (by rw [hdd]; exact h)
theorem WL.gskipd {ops : Array Oper} {j t : Nat} {b : Bool} (hg : o.guard = some (j, b)) (hs : slotOf ops j = some t) (ht : Nat.blt t n = true) (hb : f t = .bool !b) {d : Nat} (hdd : o.dst = some d) (hd : Nat.blt d n = true) (h : WL P n ops Q l (up f d undef) w) : WL P n ops Q (o :: l) f w :=
  WL.gskip hg hs ht hb (by rw [hdd]; exact hd) (by rw [hdd]; exact h)
theorem WL.calld {ops : Array Oper} (hg : o.guard = none) {d : Nat} (hdd : o.dst = some d) (hd : Nat.blt d n = true) {c : Call} {g : Nat} (ho : o.op = .call c) (hc : c.callee = .value (.func g)) {R : Value → World → Prop} (hr : Runs P g (c.args.toList.map (evf f)) w R) (h : ∀ v w', R v w' → WL P n ops Q l (up f d v) w') : WL P n ops Q (o :: l) f w :=
  WL.call hg (by rw [hdd]; exact hd) ho hc hr (fun v w' hv => by rw [hdd]; exact h v w' hv)
theorem WL.gcalld {ops : Array Oper} {j t : Nat} {b : Bool} (hg : o.guard = some (j, b)) (hs : slotOf ops j = some t) (ht : Nat.blt t n = true) (hb : f t = .bool b) {d : Nat} (hdd : o.dst = some d) (hd : Nat.blt d n = true) {c : Call} {g : Nat} (ho : o.op = .call c) (hc : c.callee = .value (.func g)) {R : Value → World → Prop} (hr : Runs P g (c.args.toList.map (evf f)) w R) (h : ∀ v w', R v w' → WL P n ops Q l (up f d v) w') : WL P n ops Q (o :: l) f w :=
  WL.gcall hg hs ht hb (by rw [hdd]; exact hd) ho hc hr (fun v w' hv => by rw [hdd]; exact h v w' hv)
theorem WH.taked {ops : Array Oper} {fuel i : Nat} {listed : Array Bool} (hs : Region.noSelect ops = true) (hi : ops[i]? = some o) (hg : o.guard = none) {d : Nat} (hdd : o.dst = some d) (hd : Nat.blt d n = true) (hf : Region.free .any ops listed i = true) (hr : (Region.ready .any ops listed).contains i = true)
    (hQ : ∀ c f w, ¬ Q (.panic c) f w) {v : Value} (hx : ∀ w, S w → (execOp (evf f) o).run P w = .ok (.value v) w) (hS : S w) (h : WH P n ops Q S fuel (listed.setIfInBounds i true) (up f d v) w) : WH P n ops Q S (fuel + 1) listed f w :=
  WH.take hi hg (by rw [hdd]; exact hd) hs hf hr hQ hx hS (by rw [hdd]; exact h)
theorem WH.oneCalld {ops : Array Oper} {fuel i : Nat} {listed : Array Bool} (hr : Region.ready .any ops listed = [i]) (hi : ops[i]? = some o) (hg : o.guard = none) {d : Nat} (hdd : o.dst = some d) (hd : Nat.blt d n = true) {c : Call} {g : Nat} (ho : o.op = .call c) (hc : c.callee = .value (.func g)) {R : Value → World → Prop} (hrn : Runs P g (c.args.toList.map (evf f)) w R)
    (h : ∀ v w', R v w' → S w' ∧ WH P n ops Q S fuel (listed.setIfInBounds i true) (up f d v) w') : WH P n ops Q S (fuel + 1) listed f w :=
  WH.oneCall hr hi hg (by rw [hdd]; exact hd) ho hc hrn (fun v w' hv => by rw [hdd]; exact h v w' hv)
end
end Go.Gr
end
section
/- Walking by exact values, part d: operations that change memory. -/
namespace Go.Gr
open Go.Abs (WTo tyAt ty_slice T_ok aggB)
open Go.RowKit
/-- What is appended, out of a chunk. -/
theorem RowOk.src {w : World} {v : Value} {n sz : Nat} {xs : List Value} (h : RowOk w v n sz xs) {t e by_ : Nat} {k : Option IntKind} (hty : tyAt T t = .slice e k sz by_) : Src P sz t v n xs w := by
  have hu := (ty_slice T_ok hty).1
  have h0 := h
  obtain ⟨h1, h2, ⟨rfl, rfl⟩ | ⟨b, s, cap, cur, te, m, rfl, h3, h4⟩⟩ := h
  · obtain rfl : xs = [] := List.eq_nil_of_length_eq_zero (by omega)
    exact Src.ofNil w hu 0
  · exact Src.ofSlice w hu _ n cap xs h1 (fun j u hj => h0.cell hj) h2
theorem Stp.alloc (w : World) (o : Obj) (q : Option Nat) : Stp w (w.alloc o) q := ⟨rfl, rfl, rfl, by simp, fun b hb _ => Below.heap_alloc w o b hb⟩
theorem run_append {t u e sz by_ : Nat} {k : Option IntKind} (hty : tyAt T t = .slice e k sz by_) {w : World} {v : Value} {n : Nat} {xs : List Value} (hr : RowOk w v n sz xs) {vx : Value} {m : Nat} {news : List Value} (hs : Src P sz u vx m news w) (hby : (n + m) * by_ ≤ 140737488355328) :
    ∃ v' w', (Builtin.append_ #[t, u] t #[v, vx]).run P w = .ok v' w' ∧ RowOk w' v' (n + m) sz (xs ++ news) ∧ Stp w w' (hblk v) ∧ ∀ b, hblk v' = some b → hblk v = some b ∨ w.heap.size ≤ b := by
  obtain ⟨hu, ti, z, hi, hisz, hiby, hz0, hzs, hs0, hb0, _⟩ := ty_slice T_ok hty
  have hs' : Src P ti.size u vx m news w := by rw [hisz]; exact hs
  have hnl : news.length = m * sz := hs.newsLen
  have hneed1 : n + m ≤ 140737488355328 := Nat.le_trans (Nat.le_mul_of_pos_right _ hb0) hby
  obtain ⟨h1, h2, h3⟩ := hr
  have hone : ∀ x ∈ xs ++ news, x.oneCell' = true := fun x hx => (List.mem_append.1 hx).elim (h2 x) (hs.one x)
  have hlen : (xs ++ news).length = (n + m) * sz := by rw [List.length_append, h1, hnl, Nat.add_mul]
  have grow : ∀ (base : Option Addr) (cap : Nat), v = .slice base n cap → cap < n + m → (Builtin.firstCells ti.size n (.slice base n cap)).run P w.drew = .ok xs.toArray w.drew →
      ∃ v' w', (Builtin.append_ #[t, u] t #[v, vx]).run P w = .ok v' w' ∧ RowOk w' v' (n + m) sz (xs ++ news) ∧ Stp w w' (hblk v) ∧ ∀ b, hblk v' = some b → hblk v = some b ∨ w.heap.size ≤ b := by
    intro base cap hv hlt hfc
    have hrun := run_append_grow_src (P := P) w t u t e ti z hu hi hz0 base n cap xs hfc vx m news hs' hlt (by omega) (by rw [hiby]; exact growslice_fits hlt hby)
    have hcap := grownCap_ge w (n + m) cap e
    have hcap2 := grownCap_le_maxLen w (n + m) cap e (by simp only [maxLen]; omega)
    generalize hC : grownCap w (n + m) cap e = C at hrun hcap hcap2
    refine ⟨_, _, by rw [hv]; exact hrun, ⟨hlen, hone, .inr ⟨w.heap.size, 0, C, _, e, (0, 0), rfl, heap_alloc_new w.drew _, hcap, hcap2, ?_, .inl rfl, fun i hi => ?_⟩⟩, ⟨rfl, rfl, rfl, by simp, fun b hb _ => ?_⟩, fun b hb => .inr ?_⟩
    · simp only [Array.size_append, List.size_toArray, size_zeroCells, hlen, hzs]
      have : C * sz = (n + m) * sz + (C - (n + m)) * sz := by rw [← Nat.add_mul]; congr 1; omega
      omega
    · rw [Nat.zero_add, Array.getElem?_append_left (by rw [List.size_toArray, hlen]; exact hi)]
      simp
    · exact Below.heap_alloc w.drew _ b (by simpa using hb)
    · cases hb; exact Nat.le_refl _
  rcases h3 with ⟨hv, hn⟩ | ⟨b, s, cap, cur, te, mm, hv, hg, i1, i2, i3, i4, i5⟩
  · subst hn
    obtain rfl : xs = [] := List.eq_nil_of_length_eq_zero (by omega)
    by_cases hm0 : m = 0
    · subst hm0
      obtain rfl : news = [] := List.eq_nil_of_length_eq_zero (by rw [hnl, Nat.zero_mul])
      refine ⟨.slice none 0 0, w, ?_, ⟨by simp, (fun x hx => by cases hx), .inl ⟨rfl, rfl⟩⟩, .refl w _, fun b hb => by cases hb⟩
      have hc := hs'.cells
      rw [hv]
      rcases hs'.kind with ⟨e', hk⟩ | hk <;> simp [Builtin.append_, run_underlying hu, run_underlying hk, sizeOf, typeInfo, hi, hs'.len, hc]
    · exact grow none 0 hv (by omega) (run_firstCells_none w.drew _ _ _ _)
  · by_cases hfit : n + m ≤ cap
    · have hle : (n + m) * sz ≤ cap * sz := Nat.mul_le_mul_right _ hfit
      have hnm : (n + m) * sz = n * sz + m * sz := Nat.add_mul _ _ _
      have hcell : ∀ j, j < news.length → (w.cell? ⟨b, s + n * ti.size + j, none⟩).isSome = true := by
        intro j hj
        simp only [World.cell?, hg, hisz]
        rw [Array.getElem?_eq_getElem (by omega)]
        rfl
      have hfr : ∀ j, j < news.length → w.frozen? ⟨b, s + n * ti.size + j, none⟩ = false := by
        intro j hj
        simp only [World.frozen?, hg, hisz]
        rcases i4 with rfl | i4
        · simp
        · have : ¬ mm.1 ≤ s + n * sz + j := by omega
          simp [this]
      have hrun := run_append_room_src (P := P) w t u t e ti hu hi b s n cap vx m news hs' hfit hcell hfr
      rw [hisz] at hrun
      obtain ⟨cur', s1, s2, s3, s4⟩ := Abs.setCells_heap b news (s + n * sz) w cur hg (by omega)
      obtain ⟨t1, t2, t3, t4⟩ := Abs.setCells_size b news (s + n * sz) w
      refine ⟨_, _, by rw [hv]; exact hrun, ⟨hlen, hone, .inr ⟨b, s, cap, cur', te, mm, rfl, s1, hfit, i2, by omega, i4, fun i hi => ?_⟩⟩, ⟨t2, t3, t4, by omega, fun q hq hne => Abs.setCells_other b _ _ w q (fun h => hne (by rw [hv, h]; rfl))⟩, fun q hq => .inl (by rw [hv]; exact hq)⟩
      by_cases hi2 : i < n * sz
      · rw [s3 (s + i) (.inl (by omega)), i5 i hi2, List.getElem?_append_left (by omega)]
      · rw [List.getElem?_append_right (by omega)]
        have hj : i - xs.length < news.length := by omega
        have := s4 (i - xs.length) _ (List.getElem?_eq_getElem hj)
        rw [List.getElem?_eq_getElem hj, ← this]
        congr 1
        omega
    · refine grow (some ⟨b, s, none⟩) cap hv (by omega) (run_firstCells_some w.drew _ _ _ _ _ _ (by rw [h1, hisz]) (fun j x hj => ?_))
      have := RowOk.cell (w := w) ⟨h1, h2, .inr ⟨b, s, cap, cur, te, mm, hv, hg, i1, i2, i3, i4, i5⟩⟩ hj
      rw [hv] at this
      exact this
section
variable {w0 w : World} {B : Nat → Prop} {L : Loc → Ch} {ρ : Operand → Value} {o : Oper}
theorem Hp.row (H : Hp w0 B w L) {l : Loc} {v : Value} {n sz : Nat} {xs : List Value} (hl : L l = .row v n sz xs) : RowOk w v n sz xs := by
  have := H.ok l
  rw [hl] at this
  exact this
theorem Hp.var (H : Hp w0 B w L) {l : Loc} {b : Nat} {xs : List Value} (hl : L l = .var b xs) : ∃ t, w.heap[b]? = some (.cells xs.toArray t (0, 0)) := by
  have := H.ok l
  rw [hl] at this
  exact this
theorem Hp.map (H : Hp w0 B w L) {l : Loc} {b : Nat} {m : Abs.SMap} (hl : L l = .map b m) : Abs.KV w b m := by
  have := H.ok l
  rw [hl] at this
  exact this
theorem var_cell {b : Nat} {xs : List Value} (h : (Ch.var b xs).ok w) {k : Nat} {x : Value} (hx : xs[k]? = some x) : w.cell? ⟨b, k, none⟩ = some x := by
  obtain ⟨t, h⟩ := h
  simp [World.cell?, h, hx]
/-- append to a row of one's own. -/
theorem h_append (H : Hp w0 B w L) {l : Loc} {v : Value} {n sz : Nat} {xs : List Value} (hl : L l = .row v n sz xs) {t u e by_ : Nat} {k : Option IntKind} (hty : tyAt T t = .slice e k sz by_) {x y : Operand} (ho : o.op = .call { callee := .builtin .append, args := #[x, y], argTypes := #[t, u] }) (hot : o.type = t) (hx : ρ x = v) {m : Nat} {news : List Value} (hs : Src P sz u (ρ y) m news w) (hby : (n + m) * by_ ≤ 140737488355328) :
    ∃ v' w', (execOp ρ o).run P w = .ok (.value v') w' ∧ Hp w0 B w' (upd L l (.row v' (n + m) sz (xs ++ news))) := by
  obtain ⟨cs, hcs⟩ := Abs.run_call_builtin (P := P) (ρ := ρ) (w := w) ho
  obtain ⟨v', w', h1, h2, h3, h4⟩ := run_append hty (H.row hl) hs hby
  refine ⟨v', w', ?_, H.step l _ (by rw [hl]; exact h3) h2 (fun b hb => by rw [hl]; exact h4 b hb)⟩
  rw [hcs]
  simp [Go.builtin, hx, hot, h1]
/-- A store into a row of one's own. -/
theorem h_store (H : Hp w0 B w L) {l : Loc} {v : Value} {n sz : Nat} {xs : List Value} (hl : L l = .row v n sz xs) {t : Nat} {x y : Operand} (ho : o.op = .store t x y) {k : Nat} (hx : ρ x = .pointer (some (adr v k))) {i : TypeInfo} (hi : P.info? t = some i) {ys : List Value} (hy : (ρ y).cells.toList = ys) (hsz : ys.length = i.size) (hk : k + ys.length ≤ n * sz) (h1 : ∀ u ∈ ys, u.oneCell' = true) (hpos : 0 < ys.length) :
    ∃ w', (execOp ρ o).run P w = .ok .skip w' ∧ Hp w0 B w' (upd L l (.row v n sz (xs.take k ++ (ys ++ xs.drop (k + ys.length))))) := by
  obtain ⟨r1, r2, ⟨rfl, rfl⟩ | ⟨b, s, cap, cur, te, mm, rfl, hg, i1, i2, i3, i4, i5⟩⟩ := H.row hl
  · omega
  have hcs : n * sz ≤ cap * sz := Nat.mul_le_mul_right _ i1
  have hrun := Abs.run_stores (P := P) (vs := ys) (o := s + k) hg (by omega) (i4.imp id (fun h => by omega)) h1
  obtain ⟨cur', s1, s2, s3, s4⟩ := Abs.setCells_heap b ys (s + k) w cur hg (by omega)
  obtain ⟨t1, t2, t3, t4⟩ := Abs.setCells_size b ys (s + k) w
  have hadr : adr (.slice (some ⟨b, s, none⟩) n cap) k = ⟨b, s + k, none⟩ := Abs.at_off b s k
  refine ⟨_, Abs.run_store_op ho hx hi (by rw [← hsz, ← hy]; simp) (by rw [hy, hadr]; exact hrun), H.step l _ ⟨t2, t3, t4, by omega, fun q hq hne => Abs.setCells_other b _ _ w q (fun h => hne (by rw [hl, h]; rfl))⟩ ?_ (fun q hq => by rw [hl]; exact .inl hq)⟩
  refine ⟨by simp only [List.length_append, List.length_take, List.length_drop]; omega, fun u hu => ?_, .inr ⟨b, s, cap, cur', te, mm, rfl, s1, i1, i2, by omega, i4, fun i hi => ?_⟩⟩
  · rcases List.mem_append.1 hu with hu | hu
    · exact r2 u (List.mem_of_mem_take hu)
    · rcases List.mem_append.1 hu with hu | hu
      · exact h1 u hu
      · exact r2 u (List.mem_of_mem_drop hu)
  · by_cases h5 : i < k
    · rw [s3 (s + i) (.inl (by omega)), i5 i hi, List.getElem?_append_left (by rw [List.length_take]; omega), List.getElem?_take, if_pos h5]
    · rw [List.getElem?_append_right (by rw [List.length_take]; omega), List.length_take, Nat.min_eq_left (by omega)]
      by_cases h6 : i - k < ys.length
      · rw [List.getElem?_append_left h6]
        have := s4 (i - k) _ (List.getElem?_eq_getElem h6)
        rw [List.getElem?_eq_getElem h6, ← this]
        congr 1
        omega
      · rw [List.getElem?_append_right (by omega), List.getElem?_drop, s3 (s + i) (.inr (by omega)), i5 i hi]
        congr 1
        omega
/-- A store into a variable of one's own. -/
theorem h_storeV (H : Hp w0 B w L) {l : Loc} {b : Nat} {xs : List Value} (hl : L l = .var b xs) {t : Nat} {x y : Operand} (ho : o.op = .store t x y) {k : Nat} (hx : ρ x = .pointer (some ⟨b, k, none⟩)) {i : TypeInfo} (hi : P.info? t = some i) {ys : List Value} (hy : (ρ y).cells.toList = ys) (hsz : ys.length = i.size) (hk : k + ys.length ≤ xs.length) (h1 : ∀ u ∈ ys, u.oneCell' = true) :
    ∃ w', (execOp ρ o).run P w = .ok .skip w' ∧ Hp w0 B w' (upd L l (.var b (xs.take k ++ (ys ++ xs.drop (k + ys.length))))) := by
  obtain ⟨te, hg⟩ := H.var hl
  have hrun := Abs.run_stores (P := P) (vs := ys) (o := k) hg (by simp; omega) (.inl rfl) h1
  obtain ⟨cur', s1, s2, s3, s4⟩ := Abs.setCells_heap b ys k w xs.toArray hg (by simp; omega)
  obtain ⟨t1, t2, t3, t4⟩ := Abs.setCells_size b ys k w
  refine ⟨_, Abs.run_store_op ho hx hi (by rw [← hsz, ← hy]; simp) (by rw [hy]; exact hrun), H.step l _ ⟨t2, t3, t4, by omega, fun q hq hne => Abs.setCells_other b _ _ w q (fun h => hne (by rw [hl, h]; rfl))⟩ ⟨te, ?_⟩ (fun q hq => by rw [hl]; exact .inl hq)⟩
  have hcur : cur' = (xs.take k ++ (ys ++ xs.drop (k + ys.length))).toArray := by
    apply Array.ext_getElem?
    intro i
    have e : ∀ (l : List Value) (i : Nat), l.toArray[i]? = l[i]? := fun l i => by simp
    rw [e (xs.take k ++ (ys ++ xs.drop (k + ys.length))) i]
    by_cases h5 : i < k
    · rw [s3 i (.inl h5), List.getElem?_append_left (by rw [List.length_take]; omega), List.getElem?_take, if_pos h5]; simp
    · rw [List.getElem?_append_right (by rw [List.length_take]; omega), List.length_take, Nat.min_eq_left (by omega)]
      by_cases h6 : i - k < ys.length
      · rw [List.getElem?_append_left h6]
        have := s4 (i - k) _ (List.getElem?_eq_getElem h6)
        rw [List.getElem?_eq_getElem h6, ← this]
        congr 1
        omega
      · rw [List.getElem?_append_right (by omega), List.getElem?_drop, s3 i (.inr (by omega))]
        simp only [List.getElem?_toArray]
        congr 1
        omega
  rw [s1, hcur]
/-- A fresh variable. -/
theorem Hp.new (H : Hp w0 B w L) {l : Loc} (hl : L l = .no) (xs : List Value) (t : TypeId) : Hp w0 B (w.alloc (.cells xs.toArray t (0, 0))) (upd L l (.var w.heap.size xs)) :=
  H.step l _ (by rw [hl]; exact .alloc w _ _) ⟨t, heap_alloc_new w _⟩ (fun b hb => .inr (by cases hb; exact Nat.le_refl _))
theorem h_alloc (H : Hp w0 B w L) {l : Loc} (hl : L l = .no) {t : Nat} (ho : o.op = .alloc t) {i : TypeInfo} {z : Value} (hi : P.info? t = some i) (hz : i.zero = some z) :
    ∃ w', (execOp ρ o).run P w = .ok (.value (.pointer (some ⟨w.heap.size, 0, none⟩))) w' ∧ Hp w0 B w' (upd L l (.var w.heap.size z.cells.toList)) := by
  have := H.new hl z.cells.toList t
  refine ⟨_, ?_, this⟩
  simp [execOp, ho, Instr.alloc, Abs.run_zeroValue' hi hz, Go.newVar, Go.newRow]
theorem h_box (H : Hp w0 B w L) {l : Loc} (hl : L l = .no) {t : Nat} {x : Operand} (ho : o.op = .box t x) {xs : List Value} (hx : ρ x = .agg xs.toArray) :
    ∃ w', (execOp ρ o).run P w = .ok (.value (.pointer (some ⟨w.heap.size, 0, none⟩))) w' ∧ Hp w0 B w' (upd L l (.var w.heap.size xs)) := by
  have := H.new hl xs t
  refine ⟨_, ?_, this⟩
  simp [execOp, ho, hx, Instr.box, Go.newVar, Go.newRow, Value.cells]
theorem h_makeMap (H : Hp w0 B w L) {l : Loc} (hl : L l = .no) (ho : o.op = .makeMap 48 none) :
    ∃ w', (execOp ρ o).run P w = .ok (.value (.map (some w.heap.size))) w' ∧ Hp w0 B w' (upd L l (.map w.heap.size [])) := by
  obtain ⟨k, e, h1, h2, h3, _⟩ := Abs.ty_smap T_ok (t := 48) rfl
  refine ⟨w.alloc (.map #[] 0), ?_, H.step l _ (by rw [hl]; exact .alloc w _ _) ((Abs.KV.iff h2 h3).2 (Abs.MapIs.made w)) (fun b hb => .inr (by cases hb; exact Nat.le_refl _))⟩
  simp [execOp, ho, Instr.makeMap, Abs.run_underlying' h1]
theorem h_mapPut (H : Hp w0 B w L) {l : Loc} {b : Nat} {m : Abs.SMap} (hl : L l = .map b m) {x y z : Operand} (ho : o.op = .mapUpdate 48 x y z) (hx : ρ x = .map (some b)) {s : ByteArray} (hy : ρ y = .string s) {n : Int} (hz : ρ z = .int .i64 n) (hm : m.length < maxLen) (hs : s.size ≤ maxLen) (hn : (Lit.int .i64 n).wf = true) :
    ∃ w', (execOp ρ o).run P w = .ok .skip w' ∧ Hp w0 B w' (upd L l (.map b ((s, n) :: m))) := by
  obtain ⟨k, e, h1, h2, h3, _⟩ := Abs.ty_smap T_ok (t := 48) rfl
  obtain ⟨w', i1, i2, i3, i4⟩ := Abs.MapIs.put ((Abs.KV.iff h2 h3).1 (H.map hl)) h1 h2 h3 hm hs hn
  refine ⟨w', ?_, H.step l _ ⟨?_, ?_, ?_, ?_, fun q hq hne => i4 q (fun h => hne (by rw [hl, h]; rfl))⟩ ((Abs.KV.iff h2 h3).2 i2) (fun q hq => by rw [hl]; exact .inl hq)⟩
  · simp only [execOp, ho, hx, hy, hz, Sem.run_bind, i1, Result.andThen_ok, Sem.run_pure]
  · exact i3.os
  · exact i3.tape
  · exact i3.output
  · exact i3.size
/-- A row laid out of its elements. -/
theorem h_lit (H : Hp w0 B w L) {l : Loc} (hl : L l = .no) {t e sz by_ n : Nat} {k : Option IntKind} (hty : tyAt T t = .slice e k sz by_) {parts : Array (Nat × Operand)} (ho : o.op = .buildSlice t n parts) (hn : n ≤ 1000) (hn0 : 0 < n) (hsz : sz ≤ 1000) (his : parts.toList.map (·.1) = List.range n) (hv : ∀ v ∈ parts.toList.map (fun p => ρ p.2), v.cells.size = sz) {xs : List Value} (hxs : ((parts.toList.map fun p => ρ p.2).flatMap fun v => v.cells.toList) = xs) (h1 : ∀ u ∈ xs, u.oneCell' = true) :
    ∃ w', (execOp ρ o).run P w = .ok (.value (.slice (some ⟨w.heap.size, 0, none⟩) n n)) w' ∧ Hp w0 B w' (upd L l (.row (.slice (some ⟨w.heap.size, 0, none⟩) n n) n sz xs)) := by
  obtain ⟨hu, ti, z, hi, hisz, hiby, hz0, hzs, hs0, hb0, hkk⟩ := ty_slice T_ok hty
  have hlen : parts.toList.length = n := by
    have := congrArg List.length his
    simpa using this
  have hnsz : n * sz ≤ 1000 * 1000 := Nat.mul_le_mul hn hsz
  have hfill : Instr.fill (fun i => some (i * ti.size, ti.size)) ((Array.range (n * ti.size)).map (z.cells[· % z.cells.size]!)) (parts.map fun (i, x) => (i, ρ x)).toList = some xs.toArray := by
    have := Great.fill_whole hs0 (parts.toList.map fun p => ρ p.2) ((Array.range (n * ti.size)).map (z.cells[· % z.cells.size]!)) hv (by rw [List.length_map, hlen]; simp [hisz])
    rw [hisz] at this ⊢
    rw [← hxs, ← this]
    congr 1
    rw [Array.toList_map]
    exact Abs.parts_zip ρ parts.toList 0 (by rw [his, hlen, List.range_eq_range'])
  have hxl : xs.length = n * sz := by
    rw [← hxs, List.length_flatMap]
    have : ((parts.toList.map fun p => ρ p.2).map fun v => v.cells.toList.length) = List.replicate n sz := by
      rw [List.eq_replicate_iff]
      refine ⟨by simpa using hlen, fun b hb => ?_⟩
      obtain ⟨v, i1, rfl⟩ := List.mem_map.1 hb
      simpa using hv v i1
    rw [this]
    simp
  have hpos : 0 < n * sz := Nat.mul_pos hn0 hs0
  have hrun := run_buildSlice (P := P) w t e n (parts.map fun (i, x) => (i, ρ x)) _ ti z hu hi hz0 (by rw [hisz]; omega) (by rw [hisz]; omega) hfill
  refine ⟨w.alloc (.cells xs.toArray e), by simp only [execOp, ho, Sem.run_bind, hrun, Result.andThen_ok, Sem.run_pure], H.step l _ (by rw [hl]; exact .alloc w _ _) ?_ (fun b hb => .inr (by cases hb; exact Nat.le_refl _))⟩
  exact ⟨hxl, h1, .inr ⟨w.heap.size, 0, n, _, e, (0, 0), rfl, heap_alloc_new w _, Nat.le_refl _, by simp only [maxLen]; omega, by simp [hxl], .inl rfl, fun i hi => by simp⟩⟩
end
end Go.Gr
end
section
/- Two functions of the library, by the contracts of the shelf (laid by the kit's own program): strconv.Itoa, slices.Clone. -/
namespace Go.Proofs
open Go.Shelf
def Tryd.laysM171_ren : Go.Shelf.Ren := ⟨fun | 171 => 24 | 243 => 35 | 246 => 39 | 283 => 40 | 284 => 41 | 285 => 42 | 286 => 43 | 129 => 45 | 317 => 44 | 318 => 46 | 319 => 47 | 320 => 48 | 337 => 49 | 338 => 50 | n => n, fun | 3 => 3 | 9 => 9 | 2 => 2 | 4 => 4 | 171 => 83 | 0 => 0 | 53 => 41 | 37 => 45 | 5 => 5 | 173 => 86 | 212 => 89 | 51 => 43 | 20 => 20 | 213 => 90 | 46 => 44 | 232 => 93 | 233 => 94 | n => n, fun | 17 => 0 | 18 => 1 | 19 => 2 | n => n⟩
theorem Tryd.laysM171 : Go.Proofs.LaysM.n171 Tryd.prog Tryd.laysM171_ren := {
  mixed := by kernel_rfl
  f129 := Tryd.func45.trans (congrArg some (by kernel_rfl))
  f171 := Tryd.func24.trans (congrArg some (by kernel_rfl))
  f243 := Tryd.func35.trans (congrArg some (by kernel_rfl))
  f246 := Tryd.func39.trans (congrArg some (by kernel_rfl))
  f283 := Tryd.func40.trans (congrArg some (by kernel_rfl))
  f284 := Tryd.func41.trans (congrArg some (by kernel_rfl))
  f285 := Tryd.func42.trans (congrArg some (by kernel_rfl))
  f286 := Tryd.func43.trans (congrArg some (by kernel_rfl))
  f317 := Tryd.func44.trans (congrArg some (by kernel_rfl))
  f318 := Tryd.func46.trans (congrArg some (by kernel_rfl))
  f319 := Tryd.func47.trans (congrArg some (by kernel_rfl))
  f320 := Tryd.func48.trans (congrArg some (by kernel_rfl))
  f337 := Tryd.func49.trans (congrArg some (by kernel_rfl))
  f338 := Tryd.func50.trans (congrArg some (by kernel_rfl))
  t0 := Tryd.underlying0
  a0 := Tryd.isAgg0
  z0 := Tryd.sizeOf0
  v0 := Tryd.zeroValue0
  t2 := Tryd.underlying2
  a2 := Tryd.isAgg2
  z2 := Tryd.sizeOf2
  v2 := Tryd.zeroValue2
  t3 := Tryd.underlying3
  a3 := Tryd.isAgg3
  z3 := Tryd.sizeOf3
  v3 := Tryd.zeroValue3
  t4 := Tryd.underlying4
  a4 := Tryd.isAgg4
  z4 := Tryd.sizeOf4
  v4 := Tryd.zeroValue4
  t5 := Tryd.underlying5
  a5 := Tryd.isAgg5
  z5 := Tryd.sizeOf5
  v5 := Tryd.zeroValue5
  t9 := Tryd.underlying9
  a9 := Tryd.isAgg9
  z9 := Tryd.sizeOf9
  v9 := Tryd.zeroValue9
  t20 := Tryd.underlying20
  a20 := Tryd.isAgg20
  z20 := Tryd.sizeOf20
  v20 := Tryd.zeroValue20
  t37 := Tryd.underlying45
  a37 := Tryd.isAgg45
  z37 := Tryd.sizeOf45
  v37 := Tryd.zeroValue45
  t46 := Tryd.underlying44
  a46 := Tryd.isAgg44
  z46 := Tryd.sizeOf44
  v46 := Tryd.zeroValue44
  t51 := Tryd.underlying43
  a51 := Tryd.isAgg43
  z51 := Tryd.sizeOf43
  v51 := Tryd.zeroValue43
  t53 := Tryd.underlying41
  a53 := Tryd.isAgg41
  z53 := Tryd.sizeOf41
  v53 := Tryd.zeroValue41
  t171 := Tryd.underlying83
  a171 := Tryd.isAgg83
  z171 := Tryd.sizeOf83
  v171 := Tryd.zeroValue83
  t173 := Tryd.underlying86
  a173 := Tryd.isAgg86
  z173 := Tryd.sizeOf86
  v173 := Tryd.zeroValue86
  t212 := Tryd.underlying89
  a212 := Tryd.isAgg89
  z212 := Tryd.sizeOf89
  v212 := Tryd.zeroValue89
  t213 := Tryd.underlying90
  a213 := Tryd.isAgg90
  z213 := Tryd.sizeOf90
  t232 := Tryd.underlying93
  a232 := Tryd.isAgg93
  z232 := Tryd.sizeOf93
  v232 := Tryd.zeroValue93
  t233 := Tryd.underlying94
  a233 := Tryd.isAgg94
  z233 := Tryd.sizeOf94
  v233 := Tryd.zeroValue94
  g17 := by kernel_rfl
  g18 := by kernel_rfl
  g19 := by kernel_rfl
  i0 := by kernel_rfl
  i2 := by kernel_rfl
  i3 := by kernel_rfl
  i4 := by kernel_rfl
  i5 := by kernel_rfl
  i9 := by kernel_rfl
  i20 := by kernel_rfl
  i37 := by kernel_rfl
  i46 := by kernel_rfl
  i51 := by kernel_rfl
  i53 := by kernel_rfl
  i171 := by kernel_rfl
  i173 := by kernel_rfl
  i212 := by kernel_rfl
  i232 := by kernel_rfl
  i233 := by kernel_rfl
  m17 := by kernel_rfl
  m18 := by kernel_rfl
  m19 := by kernel_rfl }
open Go.RowKit Go.Sort Go.Lib in
/-- strconv.Itoa at any int, where the world holds its table of powers: the shelf's contract, laid over this program. -/
theorem Tryd.strconv_Itoa (n : Int) (h0 : -9223372036854775808 ≤ n) (h1 : n ≤ 9223372036854775807) (w : World) (htab : Lib.TabIs Tryd.prog w "internal/strconv.uint64pow10" .u64 Lib.pow10Tab) :
    Calls Tryd.prog 24 #[.int .i64 n] w fun e w' => e = .returned (.string ⟨(Lib.itoa n).toArray⟩) ∧ ∃ k os, w' = grow (w.drewN k) os := Any.strconv_Itoa Tryd.laysM171 n h0 h1 w htab
def Tryd.laysNm215_ren : Go.Shelf.Ren := ⟨fun | 15 => 16 | n => n, fun | 22 => 32 | 3 => 3 | 4 => 4 | n => n, fun | n => n⟩
theorem Tryd.laysNm215 : Go.Proofs.Lays2.n15 Tryd.prog Tryd.laysNm215_ren := {
  mixed := by kernel_rfl
  f15 := Tryd.func16.trans (congrArg some (by kernel_rfl))
  t3 := Tryd.underlying3
  a3 := Tryd.isAgg3
  z3 := Tryd.sizeOf3
  v3 := Tryd.zeroValue3
  t4 := Tryd.underlying4
  a4 := Tryd.isAgg4
  z4 := Tryd.sizeOf4
  v4 := Tryd.zeroValue4
  t22 := Tryd.underlying32
  a22 := Tryd.isAgg32
  z22 := Tryd.sizeOf32
  v22 := Tryd.zeroValue32
  i3 := by kernel_rfl }
open Go.RowKit Go.Lib in
/-- slices.Clone of a row of integers that is not nil: the shelf's contract, laid over this program. -/
theorem Tryd.slices_Clone_int (b off n c : Nat) (zs : List Int) (w : World) (hz : n ≤ zs.length) (hbig : n * 8 ≤ 140737488355328) (hc : ∀ j, j < zs.length → w.cell? ⟨b, off + j, none⟩ = some (.int .i64 (zs.getD j 0))) :
    Calls Tryd.prog 16 #[.slice (some ⟨b, off, none⟩) n c] w fun e w' => ∃ v', e = .returned v' ∧ w'.ownsRow w.heap.size 3 1 v' n ((zs.take n).map (Value.int .i64)) ∧ v' ≠ .slice none 0 0 ∧ Below w.heap.size w w' := Any.slices_Clone_int Tryd.laysNm215 b off n c zs w hz hbig hc
open Go.RowKit Go.Lib in
/-- slices.Clone of nil. -/
theorem Tryd.slices_Clone_int_nil (n c : Nat) (w : World) :
    Calls Tryd.prog 16 #[.slice none n c] w fun e w' => e = .returned (.slice none 0 0) ∧ w' = w := Any.slices_Clone_int_nil Tryd.laysNm215 n c w
end Go.Proofs
end
section
/- Walking by exact values, part e: small words for walks; what the library gives; a term as it is written. -/
namespace Go.Gr
open Go.Abs (WTo tyAt ty_slice T_ok aggB Runs)
open Go.Proofs
/-- What some slots hold. -/
def At (f : Fn) : List (Nat × Value) → Prop
  | [] => True
  | p :: l => f p.1 = p.2 ∧ At f l
def ups (f : Fn) : List (Nat × Value) → Fn
  | [] => f
  | p :: l => up (ups f l) p.1 p.2
theorem At.ups : ∀ {l : List (Nat × Value)} {f : Fn}, At f l → Gr.ups f l = f
  | [], f, _ => rfl
  | p :: l, f, ⟨h1, h2⟩ => by unfold Gr.ups; rw [At.ups h2]; exact up_self h1
theorem At.ex {l : List (Nat × Value)} {f : Fn} (h : At f l) : ∃ f0, f = Gr.ups f0 l := ⟨f, h.ups.symm⟩
section
variable {w : World} {ρ : Operand → Value} {o : Oper}
theorem x_arithw {op : BinOp} {ty ty' : Nat} {x y : Operand} (ho : o.op = .binOp op ty x y ty') {a b : Int} (h1 : ρ x = .int .i64 a) (h2 : ρ y = .int .i64 b) {r z : Int} (hb : Abs.arith op .i64 a b = some (true, .int .i64 r)) (hz : r = z) : (execOp ρ o).run P w = .ok (.value (.int .i64 z)) w := by
  rw [← hz]; exact x_arith ho h1 h2 hb
theorem x_sadd {ty ty' : Nat} {x y : Operand} (ho : o.op = .binOp .add ty x y ty') {a b : ByteArray} (h1 : ρ x = .string a) (h2 : ρ y = .string b) (h : a.size + b.size ≤ 9223372036854775807) : (execOp ρ o).run P w = .ok (.value (.string (a ++ b))) w := by
  have hg : ∀ w : World, (eqGuard .add ty x y (ρ x) (ρ y)).run P w = .ok () w := by intro w; rw [h1, h2]; simp [eqGuard]
  simp only [execOp, ho, Sem.run_bind, hg, Result.andThen_ok]
  rw [h1, h2]
  simp [binOp, run_string_add_sum w a b h]
theorem x_lenS {x : Operand} (ho : o.op = .call { callee := .builtin .len, args := #[x], argTypes := #[9] }) {s : ByteArray} (hx : ρ x = .string s) : (execOp ρ o).run P w = .ok (.value (.int .i64 (s.size : Int))) w := by
  obtain ⟨cs, hcs⟩ := Abs.run_call_builtin (P := P) (ρ := ρ) (w := w) ho
  rw [hcs]
  simp [Go.builtin, Builtin.len_, Abs.run_underlying' (Abs.ty_string T_ok (t := 9) rfl), hx, goInt]
theorem x_lenR {t e sz by_ : Nat} {k : Option IntKind} (hty : tyAt T t = .slice e k sz by_) {x : Operand} (ho : o.op = .call { callee := .builtin .len, args := #[x], argTypes := #[t] }) {v : Value} {n sz' : Nat} {xs : List Value} (hr : RowOk w v n sz' xs) (hx : ρ x = v) : (execOp ρ o).run P w = .ok (.value (.int .i64 (n : Int))) w := by
  obtain ⟨A, c, rfl⟩ := hr.len
  exact x_len hty ho hx
end
theorem RowOk.kept {w w' : World} {v : Value} {n sz : Nat} {xs : List Value} (h : RowOk w v n sz xs) (hs : Stp w w' none) : RowOk w' v n sz xs :=
  Ch.kept (c := .row v n sz xs) (fun b hb => hs.same b (Ch.lt (c := .row v n sz xs) h hb) (by simp)) h
theorem Stp.trans {w w' w'' : World} {q : Option Nat} (h : Stp w w' q) (h' : Stp w' w'' q) : Stp w w'' q :=
  ⟨h'.os.trans h.os, h'.tape.trans h.tape, h'.output.trans h.output, Nat.le_trans h.size h'.size, fun b hb hq => (h'.same b (Nat.lt_of_lt_of_le hb h.size) hq).trans (h.same b hb hq)⟩
theorem Stp.drew {w w' : World} {q : Option Nat} (h : Stp w w' q) : Stp w w'.drew q := ⟨h.os, h.tape, h.output, h.size, h.same⟩
/-- What is new only. -/
theorem Hp.grow {w0 w w' : World} {B : Nat → Prop} {L : Loc → Ch} (H : Hp w0 B w L) (s : Stp w w' none) : Hp w0 B w' L :=
  ⟨fun l => Ch.kept (fun b hb => s.same b (H.lt hb) (by simp)) (H.ok l), H.inj, H.own, ⟨s.os.trans H.to.os, s.tape.trans H.to.tape, s.output.trans H.to.output, Nat.le_trans H.to.size s.size, fun b h1 h2 => (s.same b (Nat.lt_of_lt_of_le h1 H.to.size) (by simp)).trans (H.to.block b h1 h2)⟩⟩
/-- The library's table of powers. -/
abbrev Tab (w : World) : Prop := Lib.TabIs P w "internal/strconv.uint64pow10" .u64 Lib.pow10Tab
theorem gtab : P.globalNamed "internal/strconv.uint64pow10" = some 0 := by kernel_rfl
theorem Tab.kept {w w' : World} (h : Tab w) (hb : w'.heap[0]? = w.heap[0]?) : Tab w' := by
  unfold Tab Lib.TabIs World.var? at *
  rw [gtab] at *
  simp only [Option.bind_some] at *
  rw [hb]
  exact h
theorem Tab.lt {w : World} (h : Tab w) : 0 < w.heap.size := by
  unfold Tab Lib.TabIs World.var? at h
  rw [gtab] at h
  simp only [Option.bind_some] at h
  split at h
  · rename_i cs e m hh
    exact (Array.getElem?_eq_some_iff.1 hh).1
  · cases h
theorem Tab.on {w w' : World} (h : Tab w) (s : Stp w w' none) : Tab w' := h.kept (s.same _ h.lt (by simp))
def itoaB (n : Int) : ByteArray := ⟨(Lib.itoa n).toArray⟩
theorem itoaB_size (n : Int) (h0 : -9223372036854775808 ≤ n) (h1 : n ≤ 9223372036854775807) : (itoaB n).size ≤ 21 := by
  have := Lib.itoa_length_le n h0 h1
  simpa [itoaB, ByteArray.size] using this
theorem runs_itoa {w : World} (n : Int) (h0 : -9223372036854775808 ≤ n) (h1 : n ≤ 9223372036854775807) (ht : Tab w) : Runs P 24 [.int .i64 n] w (fun v w' => v = .string (itoaB n) ∧ Stp w w' none) := by
  refine ⟨_, Tryd.func24, by kernel_rfl, by kernel_rfl, ?_⟩
  refine (Tryd.strconv_Itoa n h0 h1 w ht).mono ?_
  rintro e w' ⟨rfl, k, os, rfl⟩
  refine ⟨_, rfl, rfl, ⟨rfl, rfl, rfl, ?_, fun b hb _ => ?_⟩⟩
  · simp [Go.Sort.grow]
  · show ((w.drewN k).heap ++ os)[b]? = w.heap[b]?
    have hb' : b < (w.drewN k).heap.size := by simpa using hb
    rw [Array.getElem?_append_left hb']
    simp
theorem runs_clone {w : World} {v : Value} {n : Nat} {xs : List Int} (hr : RowOk w v n 1 (xs.map (Value.int .i64))) (hn : n * 8 ≤ 140737488355328) : Runs P 16 [v] w (fun v' w' => RowOk w' v' n 1 (xs.map (Value.int .i64)) ∧ Stp w w' none ∧ ∀ b, hblk v' = some b → w.heap.size ≤ b) := by
  refine ⟨_, Tryd.func16, by kernel_rfl, by kernel_rfl, ?_⟩
  have hr0 := hr
  obtain ⟨h1, h2, ⟨rfl, rfl⟩ | ⟨b, s, cap, cur, t, m, rfl, h3, h4, h5, h6, h7, h8⟩⟩ := hr
  · refine (Tryd.slices_Clone_int_nil 0 0 w).mono ?_
    rintro e w' ⟨rfl, rfl⟩
    exact ⟨_, rfl, hr0, .refl _ _, fun b hb => by cases hb⟩
  · have hl : xs.length = n := by simpa using h1
    refine (Tryd.slices_Clone_int b s n cap xs w (by omega) hn (fun j hj => ?_)).mono ?_
    · have hx : (xs.map (Value.int .i64))[j]? = some (.int .i64 (xs.getD j 0)) := by
        rw [List.getElem?_map, List.getElem?_eq_getElem hj, List.getD_eq_getElem?_getD, List.getElem?_eq_getElem hj]; rfl
      have := hr0.cell hx
      unfold adr at this
      simpa [Abs.at_off] using this
    · rintro e w' ⟨v', rfl, ⟨i1, i2⟩, _, hb⟩
      refine ⟨v', rfl, ⟨h1, h2, ?_⟩, ⟨hb.os, hb.tape, hb.output, hb.size, fun q hq _ => hb.block q hq⟩, ?_⟩
      · rcases i2 with ⟨rfl, i3⟩ | ⟨g, cap', cur', rfl, i3, i4, i5, i6, i7, i8⟩
        · exact .inl ⟨rfl, i3⟩
        · refine .inr ⟨g, 0, cap', cur', 3, (0, 0), rfl, i4, i5, i6, by omega, .inl rfl, fun i hi => ?_⟩
          have : (cur'.toList.take (n * 1))[i]? = (List.map (Value.int .i64) (xs.take n))[i]? := by rw [i8]
          rw [List.getElem?_take, if_pos hi] at this
          rw [Nat.zero_add]
          rw [List.take_of_length_le (by omega)] at this
          simpa using this
      · intro q hq
        rcases i2 with ⟨rfl, i3⟩ | ⟨g, cap', cur', rfl, i3, i4, i5, i6, i7, i8⟩
        · cases hq
        · cases hq; exact i3
end Go.Gr
end
section
/- Walking by exact values: a term as it is written. -/
set_option maxRecDepth 10000
namespace Go.Gr
open Go.Abs (WTo tyAt ty_slice T_ok aggB Runs)
open Go.Proofs
def keyFrom (out : ByteArray) (l : List Int) : ByteArray := l.foldl (fun o a => o ++ ((⟨#[44]⟩ : ByteArray) ++ itoaB a)) out
def keyS (f : ByteArray) (l : List Int) : ByteArray := keyFrom ((itoaB f.size ++ ⟨#[58]⟩) ++ f) l
theorem keyFrom_succ {out : ByteArray} {l : List Int} {i : Nat} (h : l[i]? = some (l.getD i 0)) : keyFrom out (l.take (i + 1)) = keyFrom out (l.take i) ++ ((⟨#[44]⟩ : ByteArray) ++ itoaB (l.getD i 0)) := by
  unfold keyFrom
  rw [List.take_add_one, h, List.foldl_append]
  rfl
theorem keyFrom_size : ∀ (out : ByteArray) (l : List Int), (∀ a ∈ l, -9223372036854775808 ≤ a ∧ a ≤ 9223372036854775807) → (keyFrom out l).size ≤ out.size + 22 * l.length
  | out, [], _ => Nat.le_refl _
  | out, a :: l, h => by
    have h1 := keyFrom_size (out ++ ((⟨#[44]⟩ : ByteArray) ++ itoaB a)) l (fun b hb => h b (List.mem_cons_of_mem _ hb))
    have h2 := h a List.mem_cons_self
    have h3 := itoaB_size a h2.1 h2.2
    have e1 : (out ++ ((⟨#[44]⟩ : ByteArray) ++ itoaB a)).size = out.size + (1 + (itoaB a).size) := by
      rw [ByteArray.size_append, ByteArray.size_append]; rfl
    rw [e1] at h1
    simp only [List.length_cons]
    have : (keyFrom out (a :: l)).size = (keyFrom (out ++ ((⟨#[44]⟩ : ByteArray) ++ itoaB a)) l).size := rfl
    omega
theorem map_at {l : List Int} {i : Nat} {a : Int} (h : l[i]? = some a) : (l.map (Value.int .i64))[i * 1]? = some (.int .i64 a) := by rw [Nat.mul_one, List.getElem?_map, h]; rfl
theorem col_size : (⟨#[58]⟩ : ByteArray).size = 1 := rfl
theorem com_size : (⟨#[44]⟩ : ByteArray).size = 1 := rfl
theorem runs_key {w : World} (f : ByteArray) (hf : f.size ≤ 100) {v : Value} {n : Nat} (l : List Int) (hr : RowOk w v n 1 (l.map (Value.int .i64))) (hn : n ≤ 1000) (hl : ∀ a ∈ l, -9223372036854775808 ≤ a ∧ a ≤ 9223372036854775807) (ht : Tab w) : Runs P 15 [.string f, v] w (fun u w' => u = .string (keyS f l) ∧ Stp w w' none) := by
  have hln : l.length = n := by simpa using hr.1
  refine runs_of Tryd.func15 (by kernel_rfl) rfl rfl ?_
  refine WC.seq (WC.region ?_)
  refine WL.vald rfl rfl rfl (v := (.string (⟨#[]⟩))) (x_assign rfl rfl) ?_
  refine WL.nil ?_
  refine WC.seq (WC.region ?_)
  refine WL.vald rfl rfl rfl (v := (.string (f))) (x_move rfl rfl) ?_
  refine WL.vald rfl rfl rfl (v := (.int .i64 (((f).size : Int)))) (x_lenS rfl rfl) ?_
  refine WL.calld rfl rfl rfl rfl rfl (runs_itoa _ (by omega) (by omega) ht) ?_
  rintro _ w1 ⟨rfl, s1⟩
  have z1 := itoaB_size f.size (by omega) (by omega)
  refine WL.vald rfl rfl rfl (v := (.string ((itoaB f.size) ++ ⟨#[58]⟩))) (x_sadd rfl rfl rfl (by simp only [ByteArray.size_append, col_size, com_size]; omega)) ?_
  refine WL.vald rfl rfl rfl (v := (.string (f))) (x_move rfl rfl) ?_
  refine WL.vald rfl rfl rfl (v := (.string (((itoaB f.size) ++ ⟨#[58]⟩) ++ f))) (x_sadd rfl rfl rfl (by simp only [ByteArray.size_append, col_size, com_size]; omega)) ?_
  refine WL.vald rfl rfl rfl (v := (.string (((itoaB f.size) ++ ⟨#[58]⟩) ++ f))) (x_assign rfl rfl) ?_
  refine WL.nil ?_
  refine WC.seq (WC.seq (WC.region ?_))
  refine WL.vald rfl rfl rfl (v := (v)) (x_move rfl rfl) ?_
  refine WL.vald rfl rfl rfl (v := (.int .i64 (((n : Nat) : Int)))) (x_lenR rfl rfl (hr.kept s1) rfl) ?_
  refine WL.vald rfl rfl rfl (v := (.int .i64 (0))) (x_move rfl rfl) ?_
  refine WL.nil ?_
  refine WC.block (WC.loop (fun m F W => ∃ i, m = n - i ∧ i ≤ n ∧ At F [(14, v), (15, .int .i64 (n : Int)), (16, .int .i64 (i : Int)), (5, .string (keyFrom ((itoaB f.size ++ ⟨#[58]⟩) ++ f) (l.take i)))] ∧ Stp w W none) (m := n) ⟨0, rfl, Nat.zero_le _, ⟨rfl, rfl, rfl, rfl, trivial⟩, s1⟩ ?_)
  rintro m F W ⟨i, rfl, hi, hF, sW⟩
  obtain ⟨F, rfl⟩ := hF.ex
  refine WC.seq (WC.region ?_)
  refine WL.vald rfl rfl rfl (v := (.bool (decide ((i : Int) < (n : Int))))) (x_arith rfl rfl rfl (av := .bool (decide ((i : Int) < (n : Int)))) rfl) ?_
  refine WL.nil ?_
  refine WC.seq ?_
  refine WC.cond (t := decide ((i : Int) < n)) rfl (fun hlt => ?_) (fun hlt => ?_)
  · have hlt : i < n := by simpa using hlt
    refine WC.skip ?_
    refine WC.seq (WC.block (WC.seq (WC.region ?_)))
    have hli : l[i]? = some (l.getD i 0) := by rw [List.getD_eq_getElem?_getD, List.getElem?_eq_getElem (by omega)]; rfl
    refine WL.vald rfl rfl rfl (v := (.pointer (some (adr (v) (i * 1))))) (x_index (i := i) rfl rfl (hr.kept sW) rfl rfl (hlt)) ?_
    refine WL.vald rfl rfl rfl (v := (.int .i64 (l.getD i 0))) (x_load rfl rfl (by kernel_rfl) (RowOk.cell (hr.kept sW) (map_at hli))) ?_
    refine WL.vald rfl rfl rfl (v := (.int .i64 (l.getD i 0))) (x_assign rfl rfl) ?_
    refine WL.nil ?_
    refine WC.region ?_
    have hb := hl _ (List.mem_of_getElem? hli)
    refine WL.vald rfl rfl rfl (v := (.string (keyFrom ((itoaB f.size ++ ⟨#[58]⟩) ++ f) (l.take i)))) (x_move rfl rfl) ?_
    refine WL.vald rfl rfl rfl (v := (.int .i64 (l.getD i 0))) (x_move rfl rfl) ?_
    refine WL.calld rfl rfl rfl rfl rfl (runs_itoa _ hb.1 hb.2 (ht.on sW)) ?_
    rintro _ w2 ⟨rfl, s2⟩
    have z2 := itoaB_size _ hb.1 hb.2
    have z3 := keyFrom_size ((itoaB f.size ++ ⟨#[58]⟩) ++ f) (l.take i) (fun a ha => hl a (List.mem_of_mem_take ha))
    have z4 : ((itoaB f.size ++ ⟨#[58]⟩) ++ f).size ≤ 200 := by simp only [ByteArray.size_append, col_size, com_size]; omega
    have z5 : (l.take i).length ≤ 1000 := by rw [List.length_take]; omega
    refine WL.vald rfl rfl rfl (v := (.string (⟨#[44]⟩ ++ (itoaB (l.getD i 0))))) (x_sadd rfl rfl rfl (by simp only [ByteArray.size_append, col_size, com_size]; omega)) ?_
    refine WL.vald rfl rfl rfl (v := (.string ((keyFrom ((itoaB f.size ++ ⟨#[58]⟩) ++ f) (l.take i)) ++ (⟨#[44]⟩ ++ (itoaB (l.getD i 0)))))) (x_sadd rfl rfl rfl (by simp only [ByteArray.size_append, col_size, com_size]; omega)) ?_
    refine WL.vald rfl rfl rfl (v := (.string ((keyFrom ((itoaB f.size ++ ⟨#[58]⟩) ++ f) (l.take i)) ++ (⟨#[44]⟩ ++ (itoaB (l.getD i 0)))))) (x_assign rfl rfl) ?_
    refine WL.nil ?_
    refine WC.region ?_
    refine WL.vald rfl rfl rfl (v := (.int .i64 ((i : Int) + 1))) (x_arithw (z := (i : Int) + 1) rfl rfl rfl rfl (Abs.w64 (by omega) (by omega))) ?_
    refine WL.vald rfl rfl rfl (v := (.int .i64 ((i : Int) + 1))) (x_move rfl rfl) ?_
    refine WL.nil ⟨n - (i + 1), by omega, i + 1, rfl, hlt, ⟨rfl, rfl, rfl, ?_, trivial⟩, sW.trans s2⟩
    show Value.string _ = Value.string _
    rw [keyFrom_succ hli]
  · have hge : i = n := by have := of_decide_eq_false hlt; omega
    subst hge
    refine WC.exit ?_
    refine WC.seq (WC.region ?_)
    rw [List.take_of_length_le (by omega)]
    refine WL.vald rfl rfl rfl (v := (.string (keyS f l))) (x_move rfl rfl) ?_
    refine WL.vald rfl rfl rfl (v := (.string (keyS f l))) (x_assign rfl rfl) ?_
    refine WL.nil ?_
    exact WC.ret ⟨.inr rfl, _, rfl, rfl, sW⟩
end Go.Gr
end
section
/- Congruence closure on a chain of terms, in plain mathematics: no program in sight. -/
namespace Go.Euf
/-- A table, changed at one place. -/
def put (f : Nat → Option Nat) (r u : Nat) : Nat → Option Nat := fun z => if z = r then some u else f z
/-- The terms with an argument of a class that moves: what the signatures' table is behind it, and what follows. -/
def mv (rt : Nat → Nat) : List Nat → (Nat → Option Nat) → (Nat → Option Nat) × List (Nat × Nat)
  | [], sg => (sg, [])
  | u :: us, sg => match sg (rt (u - 1)) with
    | some o => if o = u then mv rt us sg else if rt o = rt u then mv rt us sg else ((mv rt us sg).1, (u, o) :: (mv rt us sg).2)
    | none => mv rt us (put sg (rt (u - 1)) u)
theorem mv_keep (rt : Nat → Nat) : ∀ (us : List Nat) (sg : Nat → Option Nat) (r o : Nat), sg r = some o → (mv rt us sg).1 r = some o
  | [], sg, r, o, h => h
  | u :: us, sg, r, o, h => by
    unfold mv
    split
    · split
      · exact mv_keep rt us sg r o h
      · split
        · exact mv_keep rt us sg r o h
        · exact mv_keep rt us sg r o h
    · rename_i hn
      refine mv_keep rt us _ r o ?_
      unfold put
      by_cases hr : r = rt (u - 1)
      · rw [hr, hn] at h; cases h
      · rw [if_neg hr]; exact h
theorem mv_new (rt : Nat → Nat) : ∀ (us : List Nat) (sg : Nat → Option Nat) (r o : Nat), (mv rt us sg).1 r = some o → sg r = some o ∨ (o ∈ us ∧ rt (o - 1) = r)
  | [], sg, r, o, h => .inl h
  | u :: us, sg, r, o, h => by
    have step : ∀ sg', (mv rt us sg').1 r = some o → sg' r = some o ∨ (o ∈ u :: us ∧ rt (o - 1) = r) := fun sg' h' => (mv_new rt us sg' r o h').imp id (fun ⟨h1, h2⟩ => ⟨List.mem_cons_of_mem _ h1, h2⟩)
    unfold mv at h
    split at h
    · split at h
      · exact step _ h
      · split at h
        · exact step _ h
        · exact step _ h
    · rcases step _ h with h1 | h1
      · unfold put at h1
        by_cases hr : r = rt (u - 1)
        · rw [if_pos hr] at h1
          cases h1
          exact .inr ⟨List.mem_cons_self, hr.symm⟩
        · rw [if_neg hr] at h1; exact .inl h1
      · exact .inr h1
theorem mv_each (rt : Nat → Nat) : ∀ (us : List Nat) (sg : Nat → Option Nat) (u : Nat), u ∈ us → ∃ o, (mv rt us sg).1 (rt (u - 1)) = some o ∧ (rt o = rt u ∨ (u, o) ∈ (mv rt us sg).2)
  | u0 :: us, sg, u, h => by
    rcases List.mem_cons.1 h with rfl | h
    · unfold mv
      split
      · rename_i o ho
        split
        · rename_i he; subst he
          exact ⟨o, mv_keep rt us sg _ o ho, .inl rfl⟩
        · split
          · rename_i he; exact ⟨o, mv_keep rt us sg _ o ho, .inl he⟩
          · exact ⟨o, mv_keep rt us sg _ o ho, .inr List.mem_cons_self⟩
      · exact ⟨u, mv_keep rt us _ _ u (if_pos rfl), .inl rfl⟩
    · unfold mv
      split
      · split
        · exact mv_each rt us sg u h
        · split
          · exact mv_each rt us sg u h
          · obtain ⟨o, h1, h2⟩ := mv_each rt us sg u h
            exact ⟨o, h1, h2.imp id (List.mem_cons_of_mem _)⟩
      · exact mv_each rt us _ u h
theorem mv_out (rt : Nat → Nat) : ∀ (us : List Nat) (sg : Nat → Option Nat) (p : Nat × Nat), p ∈ (mv rt us sg).2 → p.1 ∈ us ∧ (mv rt us sg).1 (rt (p.1 - 1)) = some p.2
  | [], sg, p, h => by cases h
  | u :: us, sg, p, h => by
    have step : ∀ sg', p ∈ (mv rt us sg').2 → p.1 ∈ u :: us ∧ (mv rt us sg').1 (rt (p.1 - 1)) = some p.2 := fun sg' h' => (mv_out rt us sg' p h').imp (List.mem_cons_of_mem _) id
    unfold mv at h ⊢
    split at h
    · rename_i o ho
      split at h
      · rename_i he
        rw [if_pos he]
        exact step _ h
      · rename_i he
        rw [if_neg he]
        split at h
        · rename_i he2
          rw [if_pos he2]
          exact step _ h
        · rename_i he2
          rw [if_neg he2]
          rcases List.mem_cons.1 h with rfl | h
          · exact ⟨List.mem_cons_self, mv_keep rt us sg _ o ho⟩
          · exact step _ h
    · exact step _ h
theorem mv_len (rt : Nat → Nat) : ∀ (us : List Nat) (sg : Nat → Option Nat), (mv rt us sg).2.length ≤ us.length
  | [], sg => Nat.le_refl 0
  | u :: us, sg => by
    unfold mv
    split
    · split
      · exact Nat.le_succ_of_le (mv_len rt us sg)
      · split
        · exact Nat.le_succ_of_le (mv_len rt us sg)
        · exact Nat.succ_le_succ (mv_len rt us sg)
    · exact Nat.le_succ_of_le (mv_len rt us _)
/-- The same by the classes, or by what is to be done. -/
inductive Eqv (rt : Nat → Nat) (T : List (Nat × Nat)) : Nat → Nat → Prop
  | rt {a b : Nat} : rt a = rt b → Eqv rt T a b
  | pair {a b : Nat} : (a, b) ∈ T → Eqv rt T a b
  | symm {a b : Nat} : Eqv rt T a b → Eqv rt T b a
  | trans {a b c : Nat} : Eqv rt T a b → Eqv rt T b c → Eqv rt T a c
theorem Eqv.nil {rt : Nat → Nat} {a b : Nat} (h : Eqv rt [] a b) : rt a = rt b := by
  generalize hT : ([] : List (Nat × Nat)) = T at h
  induction h with
  | rt h => exact h
  | pair h => subst hT; cases h
  | symm _ ih => exact ih.symm
  | trans _ _ ih1 ih2 => exact ih1.trans ih2
theorem Eqv.to {rt rt' : Nat → Nat} {T T' : List (Nat × Nat)} {a b : Nat} (h : Eqv rt T a b) (h1 : ∀ a b, rt a = rt b → rt' a = rt' b) (h2 : ∀ a b, (a, b) ∈ T → Eqv rt' T' a b) : Eqv rt' T' a b := by
  induction h with
  | rt h => exact .rt (h1 _ _ h)
  | pair h => exact h2 _ _ h
  | symm _ ih => exact .symm ih
  | trans _ _ ih1 ih2 => exact .trans ih1 ih2
/-- A graph of a chain of L terms, with pairs to be done; E: a relation that holds of all that is the same. -/
structure Inv (L : Nat) (E : Nat → Nat → Prop) (rt : Nat → Nat) (us : Nat → List Nat) (sg : Nat → Option Nat) (T : List (Nat × Nat)) : Prop where
  root : ∀ z, z < L → rt z < L ∧ rt (rt z) = rt z
  uses : ∀ i, i + 1 < L → i + 1 ∈ us (rt i)
  used : ∀ r u, u ∈ us r → 1 ≤ u ∧ u < L ∧ rt (u - 1) = r
  once : ∀ r, (us r).Nodup
  sign : ∀ r u, sg r = some u → 1 ≤ u ∧ u < L ∧ (rt r = r → rt (u - 1) = r)
  same : ∀ i, i + 1 < L → ∃ u, sg (rt i) = some u ∧ Eqv rt T u (i + 1)
  todo : ∀ p ∈ T, p.1 < L ∧ p.2 < L ∧ E p.1 p.2
  sound : ∀ z, z < L → E (rt z) z
/-- x's class goes into y's. -/
def joinR (rt : Nat → Nat) (x y : Nat) : Nat → Nat := fun z => if rt z = x then y else rt z
def joinU (us : Nat → List Nat) (x y : Nat) : Nat → List Nat := fun r => if r = x then [] else if r = y then us y ++ us x else us r
theorem Inv.skip {L : Nat} {E : Nat → Nat → Prop} {rt : Nat → Nat} {us : Nat → List Nat} {sg : Nat → Option Nat} {a b : Nat} {T : List (Nat × Nat)} (h : Inv L E rt us sg ((a, b) :: T)) (hab : rt a = rt b) : Inv L E rt us sg T :=
  ⟨h.root, h.uses, h.used, h.once, h.sign, fun i hi => by
    obtain ⟨u, h1, h2⟩ := h.same i hi
    refine ⟨u, h1, h2.to (fun _ _ h => h) (fun c d hm => ?_)⟩
    rcases List.mem_cons.1 hm with hm | hm
    · cases hm; exact .rt hab
    · exact .pair hm, fun p hp => h.todo p (List.mem_cons_of_mem _ hp), h.sound⟩
theorem Inv.join {L : Nat} {E : Nat → Nat → Prop} (hE : ∀ i j, E i j → E (i + 1) (j + 1)) (hs : ∀ i j, E i j → E j i) (ht : ∀ i j k, E i j → E j k → E i k) {rt : Nat → Nat} {us : Nat → List Nat} {sg : Nat → Option Nat} {a b : Nat} {T : List (Nat × Nat)} (h : Inv L E rt us sg ((a, b) :: T)) {x y : Nat} (hxy : x ≠ y) (hor : (x = rt a ∧ y = rt b) ∨ (x = rt b ∧ y = rt a)) :
    Inv L E (joinR rt x y) (joinU us x y) (mv (joinR rt x y) (us x) sg).1 (T ++ (mv (joinR rt x y) (us x) sg).2) := by
  obtain ⟨ta, tb, tE⟩ := h.todo (a, b) List.mem_cons_self
  have ha := h.root a ta
  have hb := h.root b tb
  have hx : x < L ∧ rt x = x := by rcases hor with ⟨h1, _⟩ | ⟨h1, _⟩ <;> rw [h1] <;> assumption
  have hy : y < L ∧ rt y = y := by rcases hor with ⟨_, h1⟩ | ⟨_, h1⟩ <;> rw [h1] <;> assumption
  have Exy : E x y := by
    have h1 := h.sound a ta
    have h2 := h.sound b tb
    have h3 : E (rt a) (rt b) := ht _ _ _ h1 (ht _ _ _ tE (hs _ _ h2))
    rcases hor with ⟨e1, e2⟩ | ⟨e1, e2⟩
    · rw [e1, e2]; exact h3
    · rw [e1, e2]; exact hs _ _ h3
  -- the new roots
  have jx : ∀ z, rt z = x → joinR rt x y z = y := fun z hz => if_pos hz
  have jo : ∀ z, rt z ≠ x → joinR rt x y z = rt z := fun z hz => if_neg hz
  have jsame : ∀ c d, rt c = rt d → joinR rt x y c = joinR rt x y d := fun c d hcd => by unfold joinR; rw [hcd]
  have jy : joinR rt x y y = y := by rw [jo y (by rw [hy.2]; exact fun hh => hxy hh.symm)]; exact hy.2
  have jab : joinR rt x y a = joinR rt x y b := by
    rcases hor with ⟨e1, e2⟩ | ⟨e1, e2⟩
    · rw [jx a e1.symm, jo b (by rw [← e2]; exact fun hh => hxy hh.symm), ← e2]
    · rw [jx b e1.symm, jo a (by rw [← e2]; exact fun hh => hxy hh.symm), ← e2]
  have hroot : ∀ z, z < L → joinR rt x y z < L ∧ joinR rt x y (joinR rt x y z) = joinR rt x y z := fun z hz => by
    by_cases hzx : rt z = x
    · rw [jx z hzx]; exact ⟨hy.1, jy⟩
    · rw [jo z hzx]
      obtain ⟨h1, h2⟩ := h.root z hz
      exact ⟨h1, by rw [jo (rt z) (by rw [h2]; exact hzx), h2]⟩
  have hux : ∀ u ∈ us x, joinR rt x y (u - 1) = y := fun u hu => jx _ (h.used x u hu).2.2
  have keep := mv_keep (joinR rt x y) (us x) sg
  have new := mv_new (joinR rt x y) (us x) sg
  have each := mv_each (joinR rt x y) (us x) sg
  have out := mv_out (joinR rt x y) (us x) sg
  have sgn : ∀ r u, (mv (joinR rt x y) (us x) sg).1 r = some u → 1 ≤ u ∧ u < L ∧ (joinR rt x y r = r → joinR rt x y (u - 1) = r) := fun r u hu => by
    rcases new r u hu with h1 | ⟨h1, h2⟩
    · obtain ⟨k1, k2, k3⟩ := h.sign r u h1
      refine ⟨k1, k2, fun hr => ?_⟩
      have hrx : rt r ≠ x := fun hh => by
        rw [jx r hh] at hr
        rw [← hr, hy.2] at hh
        exact hxy hh.symm
      rw [jo r hrx] at hr
      have := k3 hr
      rw [jo _ (by rw [this]; rw [hr] at hrx; exact hrx), this]
    · obtain ⟨k1, k2, _⟩ := h.used x u h1
      exact ⟨k1, k2, fun _ => h2⟩
  refine ⟨hroot, fun i hi => ?_, fun r u hu => ?_, fun r => ?_, sgn, fun i hi => ?_, fun p hp => ?_, fun z hz => ?_⟩
  · have h1 := h.uses i hi
    by_cases hix : rt i = x
    · rw [jx i hix]
      unfold joinU
      rw [if_neg (fun hh => hxy hh.symm), if_pos rfl, List.mem_append]
      exact .inr (hix ▸ h1)
    · rw [jo i hix]
      unfold joinU
      rw [if_neg hix]
      by_cases hiy : rt i = y
      · rw [if_pos hiy, List.mem_append]; exact .inl (hiy ▸ h1)
      · rw [if_neg hiy]; exact h1
  · unfold joinU at hu
    by_cases hrx : r = x
    · rw [if_pos hrx] at hu; cases hu
    · rw [if_neg hrx] at hu
      by_cases hry : r = y
      · rw [if_pos hry, List.mem_append] at hu
        rcases hu with hu | hu
        · obtain ⟨k1, k2, k3⟩ := h.used y u hu
          refine ⟨k1, k2, ?_⟩
          rw [jo _ (by rw [k3]; exact fun hh => hxy hh.symm), k3, hry]
        · obtain ⟨k1, k2, k3⟩ := h.used x u hu
          exact ⟨k1, k2, by rw [jx _ k3, hry]⟩
      · rw [if_neg hry] at hu
        obtain ⟨k1, k2, k3⟩ := h.used r u hu
        exact ⟨k1, k2, by rw [jo _ (by rw [k3]; exact hrx), k3]⟩
  · unfold joinU
    by_cases hrx : r = x
    · rw [if_pos hrx]; exact List.nodup_nil
    · rw [if_neg hrx]
      by_cases hry : r = y
      · rw [if_pos hry]
        refine List.nodup_append.2 ⟨h.once y, h.once x, fun u hu v hv huv => ?_⟩
        subst huv
        exact hxy ((h.used x u hv).2.2.symm.trans (h.used y u hu).2.2)
      · rw [if_neg hry]; exact h.once r
  · obtain ⟨u, h1, h2⟩ := h.same i hi
    have conv : ∀ {c d}, Eqv rt ((a, b) :: T) c d → Eqv (joinR rt x y) (T ++ (mv (joinR rt x y) (us x) sg).2) c d := fun hh => hh.to jsame (fun c d hm => by
      rcases List.mem_cons.1 hm with hm | hm
      · cases hm; exact .rt jab
      · exact .pair (List.mem_append_left _ hm))
    by_cases hix : rt i = x
    · have hm : i + 1 ∈ us x := hix ▸ h.uses i hi
      obtain ⟨o, k1, k2⟩ := each (i + 1) hm
      refine ⟨o, k1, ?_⟩
      rcases k2 with k2 | k2
      · exact .rt k2
      · exact .symm (.pair (List.mem_append_right _ k2))
    · rw [jo i hix]
      exact ⟨u, keep _ _ h1, conv h2⟩
  · rcases List.mem_append.1 hp with hp | hp
    · exact h.todo p (List.mem_cons_of_mem _ hp)
    · obtain ⟨k1, k2⟩ := out p hp
      obtain ⟨u1, u2, u3⟩ := h.used x p.1 k1
      have hj := hux p.1 k1
      rw [hj] at k2
      obtain ⟨v1, v2, v3⟩ := sgn y p.2 k2
      refine ⟨u2, v2, ?_⟩
      have hv := v3 jy
      -- both arguments are like y
      have sound' : ∀ z, z < L → E (joinR rt x y z) z := fun z hz => by
        by_cases hzx : rt z = x
        · rw [jx z hzx]
          exact ht _ _ _ (hs _ _ Exy) (hzx ▸ h.sound z hz)
        · rw [jo z hzx]; exact h.sound z hz
      have e1 := sound' (p.1 - 1) (by omega)
      have e2 := sound' (p.2 - 1) (by omega)
      rw [hj] at e1
      rw [hv] at e2
      have e3 := hE _ _ (ht _ _ _ (hs _ _ e1) e2)
      rwa [Nat.sub_add_cancel u1, Nat.sub_add_cancel v1] at e3
  · by_cases hzx : rt z = x
    · rw [jx z hzx]
      exact ht _ _ _ (hs _ _ Exy) (hzx ▸ h.sound z hz)
    · rw [jo z hzx]; exact h.sound z hz
/-- When nothing is to be done, the classes go through the function. -/
theorem Inv.cong {L : Nat} {E : Nat → Nat → Prop} {rt : Nat → Nat} {us : Nat → List Nat} {sg : Nat → Option Nat} (h : Inv L E rt us sg []) {i j : Nat} (hi : i + 1 < L) (hj : j + 1 < L) (hij : rt i = rt j) : rt (i + 1) = rt (j + 1) := by
  obtain ⟨u, h1, h2⟩ := h.same i hi
  obtain ⟨v, h3, h4⟩ := h.same j hj
  rw [hij, h3] at h1
  cases h1
  exact h2.nil.symm.trans h4.nil
theorem shift {L : Nat} {rt : Nat → Nat} (hc : ∀ i j, i + 1 < L → j + 1 < L → rt i = rt j → rt (i + 1) = rt (j + 1)) {i j : Nat} (hij : rt i = rt j) : ∀ t, i + t < L → j + t < L → rt (i + t) = rt (j + t)
  | 0, _, _ => hij
  | t + 1, h1, h2 => hc (i + t) (j + t) (by omega) (by omega) (shift hc hij t (by omega) (by omega))
theorem sub_zero {L : Nat} {rt : Nat → Nat} (hc : ∀ i j, i + 1 < L → j + 1 < L → rt i = rt j → rt (i + 1) = rt (j + 1)) {p q : Nat} (hq : q < L) (hpq : p ≤ q) (h1 : rt p = rt 0) (h2 : rt q = rt 0) : rt (q - p) = rt 0 := by
  have := shift hc h1 (q - p) (by omega) (by omega)
  rw [Nat.add_sub_cancel' hpq, Nat.zero_add] at this
  exact this.symm.trans h2
theorem gcd_zero {L : Nat} {rt : Nat → Nat} (hc : ∀ i j, i + 1 < L → j + 1 < L → rt i = rt j → rt (i + 1) = rt (j + 1)) : ∀ (s n m : Nat), n + m ≤ s → n < L → m < L → rt n = rt 0 → rt m = rt 0 → rt (Nat.gcd n m) = rt 0 := by
  intro s
  induction s with
  | zero =>
    intro n m hs hn hm h1 h2
    obtain rfl : n = 0 := by omega
    obtain rfl : m = 0 := by omega
    rfl
  | succ s ih =>
    intro n m hs hn hm h1 h2
    by_cases hn0 : n = 0
    · subst hn0; rw [Nat.gcd_zero_left]; exact h2
    by_cases hm0 : m = 0
    · subst hm0; rw [Nat.gcd_zero_right]; exact h1
    by_cases hnm : n ≤ m
    · have h3 := sub_zero hc hm hnm h1 h2
      have h4 := ih n (m - n) (by omega) hn (by omega) h1 h3
      rwa [Nat.gcd_sub_self_right hnm] at h4
    · have hmn : m ≤ n := by omega
      have h3 := sub_zero hc hn hmn h2 h1
      have h4 := ih (n - m) m (by omega) (by omega) hm h3 h2
      rwa [Nat.gcd_sub_self_left hmn] at h4
theorem mul_zero' {L : Nat} {rt : Nat → Nat} (hc : ∀ i j, i + 1 < L → j + 1 < L → rt i = rt j → rt (i + 1) = rt (j + 1)) {d : Nat} (hd : rt d = rt 0) : ∀ c, c * d < L → rt (c * d) = rt 0
  | 0, _ => by rw [Nat.zero_mul]
  | c + 1, h => by
    rw [Nat.succ_mul] at h ⊢
    have ih := mul_zero' hc hd c (by omega)
    have := shift hc ih d h (by omega)
    rw [Nat.zero_add] at this
    exact this.trans hd
theorem kgcd {L n m k : Nat} {us : Nat → List Nat} {sg : Nat → Option Nat} {rt : Nat → Nat} (h : Inv L (fun i j => i % Nat.gcd n m = j % Nat.gcd n m) rt us sg []) (hn : n < L) (hm : m < L) (hk : k < L) (h1 : rt n = rt 0) (h2 : rt m = rt 0) : rt k = rt 0 ↔ k % Nat.gcd n m = 0 := by
  have hc : ∀ i j, i + 1 < L → j + 1 < L → rt i = rt j → rt (i + 1) = rt (j + 1) := fun i j hi hj => h.cong hi hj
  refine ⟨fun hk0 => ?_, fun hk0 => ?_⟩
  · have e1 := h.sound k hk
    have e2 := h.sound 0 (by omega)
    rw [hk0] at e1
    have : k % Nat.gcd n m = 0 % Nat.gcd n m := e1.symm.trans e2
    rwa [Nat.zero_mod] at this
  · have hg := gcd_zero hc (n + m) n m (Nat.le_refl _) hn hm h1 h2
    obtain ⟨c, hcd⟩ := Nat.dvd_of_mod_eq_zero hk0
    rw [Nat.mul_comm] at hcd
    rw [hcd]
    exact mul_zero' hc hg c (hcd ▸ hk)
/-- The chain before any equation. -/
theorem start (L : Nat) (E : Nat → Nat → Prop) (hr : ∀ i, E i i) : Inv L E (fun z => z) (fun r => if r + 1 < L then [r + 1] else []) (fun r => if r + 1 < L then some (r + 1) else none) [] := by
  refine ⟨fun z hz => ⟨hz, rfl⟩, fun i hi => ?_, fun r u hu => ?_, fun r => ?_, fun r u hu => ?_, fun i hi => ?_, (fun p hp => by cases hp), fun z _ => hr z⟩
  · rw [if_pos hi]; exact List.mem_singleton.2 rfl
  · by_cases h : r + 1 < L
    · rw [if_pos h] at hu
      obtain rfl := List.mem_singleton.1 hu
      exact ⟨by omega, h, by simp⟩
    · rw [if_neg h] at hu; cases hu
  · split
    · simp
    · exact List.nodup_nil
  · by_cases h : r + 1 < L
    · rw [if_pos h] at hu
      cases hu
      exact ⟨by omega, h, fun _ => by simp⟩
    · rw [if_neg h] at hu; cases hu
  · exact ⟨i + 1, if_pos hi, .rt rfl⟩
end Go.Euf
end
section
/- Parents and edges of a graph of a chain, in plain mathematics: roots are found, ways are turned about. -/
namespace Go.Euf
open Classical
/-- The list of the parents leads to the roots. -/
def Par (L : Nat) (rt : Nat → Nat) (par : List Int) : Prop := par.length = L ∧ ∃ h : Nat → Nat, ∀ z, z < L → ∃ p : Nat, par[z]? = some (p : Int) ∧ p < L ∧ rt p = rt z ∧ (rt z = z ↔ p = z) ∧ (p ≠ z → h p < h z)
theorem Par.start (L : Nat) : Par L (fun z => z) ((List.range L).map fun (z : Nat) => (z : Int)) := by
  refine ⟨by simp, fun _ => 0, fun z hz => ⟨z, ?_, hz, rfl, by simp, fun h => absurd rfl h⟩⟩
  rw [List.getElem?_map, List.getElem?_range hz]; rfl
theorem Par.join {L : Nat} {rt : Nat → Nat} {par : List Int} (h : Par L rt par) {x y : Nat} (hx : x < L ∧ rt x = x) (hy : y < L ∧ rt y = y) (hxy : x ≠ y) : Par L (joinR rt x y) (par.set x (y : Int)) := by
  obtain ⟨hl, g, hg⟩ := h
  refine ⟨by rw [List.length_set]; exact hl, fun z => if rt z = x then g z + (g y + 1) else g z, fun z hz => ?_⟩
  obtain ⟨p, h1, h2, h3, h4, h5⟩ := hg z hz
  by_cases hzx : z = x
  · subst hzx
    refine ⟨y, List.getElem?_set_self (by omega), hy.1, ?_, ?_, fun _ => ?_⟩
    · unfold joinR
      rw [if_neg (by rw [hy.2]; exact fun hh => hxy hh.symm), if_pos hx.2, hy.2]
    · unfold joinR
      rw [if_pos hx.2]
    · show (if rt y = z then g y + (g y + 1) else g y) < (if rt z = z then g z + (g y + 1) else g z)
      rw [if_neg (by rw [hy.2]; exact fun hh => hxy hh.symm), if_pos hx.2]; omega
  · refine ⟨p, by rw [List.getElem?_set_ne (Ne.symm hzx)]; exact h1, h2, ?_, ?_, fun hp => ?_⟩
    · unfold joinR; rw [h3]
    · unfold joinR
      by_cases hr : rt z = x
      · rw [if_pos hr]
        refine ⟨fun hh => ?_, fun hh => ?_⟩
        · rw [← hh, hy.2] at hr; exact absurd hr.symm hxy
        · have := h4.2 hh; rw [this] at hr; exact absurd hr hzx
      · rw [if_neg hr]; exact h4
    · have := h5 hp
      show (if rt p = x then g p + (g y + 1) else g p) < (if rt z = x then g z + (g y + 1) else g z)
      rw [h3]
      split <;> omega
/-- An edge: where it leads, why, and whether there is one. -/
abbrev E3 := Int × Int × Bool
/-- The edges lead on within a class, and end. -/
def Fo (L : Nat) (rt : Nat → Nat) (es : List E3) (g : Nat → Nat) : Prop := es.length = L ∧ ∀ z e, es[z]? = some e → e.2.2 = true → ∃ t : Nat, e.1 = (t : Int) ∧ t < L ∧ rt t = rt z ∧ g t < g z
theorem Fo.start (L : Nat) (rt : Nat → Nat) : Fo L rt (List.replicate L (0, 0, false)) (fun _ => 0) :=
  ⟨by simp, fun z e he hs => by rw [(List.mem_replicate.1 (List.mem_of_getElem? he)).2] at hs; cases hs⟩
/-- What 'turn' does, in so many steps at most. -/
def turnL : Nat → List E3 → Nat → E3 → List E3
  | 0, es, _, _ => es
  | n + 1, es, a, last => bif (es.getD a (0, 0, false)).2.2 then turnL n (es.set a last) (es.getD a (0, 0, false)).1.toNat ((a : Int), (es.getD a (0, 0, false)).2.1, true) else es.set a last
theorem turnL_length : ∀ (n : Nat) (es : List E3) (a : Nat) (last : E3), (turnL n es a last).length = es.length
  | 0, es, a, last => rfl
  | n + 1, es, a, last => by
    unfold turnL
    cases (es.getD a (0, 0, false)).2.2 with
    | true => rw [cond_true, turnL_length n, List.length_set]
    | false => rw [cond_false, List.length_set]
/-- A way along the edges. -/
inductive Reach (es : List E3) : Nat → Nat → Prop
  | here (z : Nat) : Reach es z z
  | step {z w t : Nat} {e : E3} : es[z]? = some e → e.2.2 = true → e.1 = (w : Int) → Reach es w t → Reach es z t
theorem Reach.le {L : Nat} {rt : Nat → Nat} {es : List E3} {r : Nat → Nat} (h : Fo L rt es r) {z t : Nat} (hr : Reach es z t) : r t ≤ r z := by
  induction hr with
  | here z => exact Nat.le_refl _
  | step h1 h2 h3 _ ih =>
    obtain ⟨t', k1, _, _, k4⟩ := h.2 _ _ h1 h2
    rw [k1] at h3
    have := Int.ofNat.inj h3
    subst this
    omega
theorem Reach.lab {es : List E3} {c : Nat → Prop} (hc : ∀ (z : Nat) (e : E3), es[z]? = some e → e.2.2 = true → ∀ w : Nat, e.1 = (w : Int) → (c z ↔ c w)) {z t : Nat} (h : Reach es z t) (hz : c z) : c t := by
  induction h with
  | here z => exact hz
  | step l1 l2 l3 _ ih => exact ih ((hc _ _ l1 l2 _ l3).1 hz)
/-- A way is turned about, step by step: all behind a hangs on the start (c), and what lies ahead doesn't. -/
theorem turn_ok {L : Nat} {rt : Nat → Nat} : ∀ (n : Nat) (es : List E3) (a : Nat) (last : E3) (r : Nat → Nat) (c : Nat → Prop), a < L → Fo L rt (es.set a last) r →
    (∀ z e, (es.set a last)[z]? = some e → e.2.2 = true → ∀ w : Nat, e.1 = (w : Int) → (c z ↔ c w)) → c a →
    (∀ e, es[a]? = some e → e.2.2 = true → ∃ t : Nat, e.1 = (t : Int) ∧ t < L ∧ rt t = rt a ∧ ¬ c t ∧ r t < n) →
    ∃ r', Fo L rt (turnL (n + 1) es a last) r' ∧ ∀ z, c z → (turnL (n + 1) es a last)[z]? = (es.set a last)[z]? := by
  intro n
  induction n with
  | zero =>
    intro es a last r c ha hF hc hca hn
    have hl : es.length = L := by have := hF.1; rwa [List.length_set] at this
    have he : es[a]? = some (es.getD a (0, 0, false)) := by rw [List.getElem?_eq_getElem (by omega), List.getD_eq_getElem?_getD, List.getElem?_eq_getElem (by omega)]; rfl
    have hf : (es.getD a (0, 0, false)).2.2 = false := by
      cases hb : (es.getD a (0, 0, false)).2.2 with
      | false => rfl
      | true => obtain ⟨t, _, _, _, _, h5⟩ := hn _ he hb; omega
    unfold turnL
    rw [hf, cond_false]
    exact ⟨r, hF, fun z _ => rfl⟩
  | succ n ih =>
    intro es a last r c ha hF hc hca hn
    have hl : es.length = L := by have := hF.1; rwa [List.length_set] at this
    have he : es[a]? = some (es.getD a (0, 0, false)) := by rw [List.getElem?_eq_getElem (by omega), List.getD_eq_getElem?_getD, List.getElem?_eq_getElem (by omega)]; rfl
    unfold turnL
    cases hb : (es.getD a (0, 0, false)).2.2 with
    | false =>
      rw [cond_false]
      exact ⟨r, hF, fun z _ => rfl⟩
    | true =>
      rw [cond_true]
      obtain ⟨t, h1, h2, h3, h4, h5⟩ := hn _ he hb
      rw [h1, Int.toNat_natCast]
      have hta : t ≠ a := fun hh => h4 (hh ▸ hca)
      generalize hes1 : es.set a last = F at *
      have hFl : F.length = L := hF.1
      let s : Nat → Prop := fun z => Reach F z t
      have acyc : ∀ e, F[t]? = some e → e.2.2 = true → ∃ t' : Nat, e.1 = (t' : Int) ∧ t' < L ∧ rt t' = rt t ∧ r t' < r t := fun e k1 k2 => hF.2 t e k1 k2
      have sstep : ∀ (z : Nat) (e : E3) (w : Nat), z ≠ t → F[z]? = some e → e.2.2 = true → e.1 = (w : Int) → (s z ↔ s w) := fun z e w hz k1 k2 k3 => by
        refine ⟨fun hs => ?_, fun hs => .step k1 k2 k3 hs⟩
        have hs : Reach F z t := hs
        cases hs with
        | here => exact absurd rfl hz
        | step l1 l2 l3 l4 =>
          rw [k1] at l1
          cases l1
          rw [k3] at l3
          have := Int.ofNat.inj l3
          subst this
          exact l4
      have sa : ¬ s a := fun hs => h4 (Reach.lab hc hs hca)
      have st : s t := .here t
      let r1 : Nat → Nat := fun z => if s z then r z + (r a + 1) else r z
      have r1s : ∀ z, s z → r1 z = r z + (r a + 1) := fun z hz => if_pos hz
      have r1n : ∀ z, ¬ s z → r1 z = r z := fun z hz => if_neg hz
      have hset : ∀ z, z ≠ t → (F.set t ((a : Int), (es.getD a (0, 0, false)).2.1, true))[z]? = F[z]? := fun z hz => List.getElem?_set_ne (Ne.symm hz)
      have hsett : (F.set t ((a : Int), (es.getD a (0, 0, false)).2.1, true))[t]? = some ((a : Int), (es.getD a (0, 0, false)).2.1, true) := List.getElem?_set_self (by omega)
      refine Exists.elim (ih F t ((a : Int), (es.getD a (0, 0, false)).2.1, true) r1 (fun z => c z ∨ s z) h2 ⟨by rw [List.length_set]; exact hFl, fun z e k1 k2 => ?_⟩ (fun z e k1 k2 w k3 => ?_) (.inr st) (fun e k1 k2 => ?_)) (fun r' hf => ⟨r', hf.1, fun z hz => ?_⟩)
      · by_cases hz : z = t
        · subst hz
          rw [hsett] at k1
          cases k1
          refine ⟨a, rfl, ha, h3.symm, ?_⟩
          rw [r1n a sa, r1s z st]; omega
        · rw [hset z hz] at k1
          obtain ⟨w, l1, l2, l3, l4⟩ := hF.2 z e k1 k2
          refine ⟨w, l1, l2, l3, ?_⟩
          have := sstep z e w hz k1 k2 l1
          by_cases hsz : s z
          · rw [r1s z hsz, r1s w (this.1 hsz)]; omega
          · rw [r1n z hsz, r1n w (fun hh => hsz (this.2 hh))]; exact l4
      · by_cases hz : z = t
        · subst hz
          rw [hsett] at k1
          cases k1
          have := Int.ofNat.inj k3
          subst this
          exact ⟨fun _ => .inl hca, fun _ => .inr st⟩
        · rw [hset z hz] at k1
          have l1 := hc z e k1 k2 w k3
          have l2 := sstep z e w hz k1 k2 k3
          exact ⟨fun hh => hh.imp l1.1 l2.1, fun hh => hh.imp l1.2 l2.2⟩
      · obtain ⟨t', l1, l2, l3, l4⟩ := acyc e k1 k2
        have hs' : ¬ s t' := fun hh => by have := Reach.le hF hh; omega
        refine ⟨t', l1, l2, l3, fun hh => hh.elim (fun h6 => h4 ((hc t e k1 k2 t' l1).2 h6)) hs', ?_⟩
        rw [r1n t' hs']; omega
      · rw [hf.2 z (.inl hz), hset z (fun hh => h4 (hh ▸ hz))]
/-- A node's way is turned, then it leads over to another class. -/
theorem turn_join {L : Nat} {rt : Nat → Nat} {es : List E3} {r : Nat → Nat} (h : Fo L rt es r) {a b : Nat} (ha : a < L) (hb : b < L) (hab : rt a ≠ rt b) {x y : Nat} (hor : (x = rt a ∧ y = rt b) ∨ (x = rt b ∧ y = rt a)) (n : Nat) (hn : ∀ z, z < L → r z ≤ n) (why : Int) :
    ∃ r', Fo L (joinR rt x y) ((turnL (n + 1) es a (0, 0, false)).set a ((b : Int), why, true)) r' := by
  have hl := h.1
  have hF0 : Fo L rt (es.set a (0, 0, false)) r := ⟨by rw [List.length_set]; exact hl, fun z e k1 k2 => by
    by_cases hz : z = a
    · subst hz
      rw [List.getElem?_set_self (by omega)] at k1
      cases k1
      cases k2
    · rw [List.getElem?_set_ne (Ne.symm hz)] at k1
      exact h.2 z e k1 k2⟩
  obtain ⟨r', f1, f2⟩ := turn_ok (rt := rt) n es a (0, 0, false) r (fun z => Reach (es.set a (0, 0, false)) z a) ha hF0 (fun z e k1 k2 w k3 => by
    refine ⟨fun hs => ?_, fun hs => .step k1 k2 k3 hs⟩
    have hs : Reach _ z a := hs
    cases hs with
    | here =>
      rw [List.getElem?_set_self (by omega)] at k1
      cases k1
      cases k2
    | step l1 l2 l3 l4 =>
      rw [k1] at l1
      cases l1
      rw [k3] at l3
      have := Int.ofNat.inj l3
      subst this
      exact l4) (.here a) (fun e k1 k2 => by
    obtain ⟨t, l1, l2, l3, l4⟩ := h.2 a e k1 k2
    refine ⟨t, l1, l2, l3, fun hs => ?_, by have := hn a ha; omega⟩
    have := Reach.le hF0 hs
    omega)
  have same : ∀ c d, rt c = rt d → joinR rt x y c = joinR rt x y d := fun c d hcd => by unfold joinR; rw [hcd]
  have jab : joinR rt x y a = joinR rt x y b := by
    unfold joinR
    rcases hor with ⟨e1, e2⟩ | ⟨e1, e2⟩
    · rw [if_pos e1.symm, if_neg (by rw [e1]; exact fun hh => hab hh.symm), e2]
    · rw [if_pos e1.symm, if_neg (by rw [e1]; exact hab), e2]
  refine ⟨fun z => if rt z = rt a then r' z + (r' b + 1) else r' z, by rw [List.length_set]; exact f1.1, fun z e k1 k2 => ?_⟩
  by_cases hz : z = a
  · subst hz
    rw [List.getElem?_set_self (by rw [f1.1]; exact ha)] at k1
    cases k1
    refine ⟨b, rfl, hb, jab.symm, ?_⟩
    show (if rt b = rt z then _ else _) < (if rt z = rt z then _ else _)
    rw [if_neg (fun hh => hab hh.symm), if_pos rfl]; omega
  · rw [List.getElem?_set_ne (Ne.symm hz)] at k1
    obtain ⟨t, l1, l2, l3, l4⟩ := f1.2 z e k1 k2
    refine ⟨t, l1, l2, same t z l3, ?_⟩
    show (if rt t = rt a then _ else _) < (if rt z = rt a then _ else _)
    rw [l3]
    split <;> omega
end Go.Euf
end
section
/- Walking by exact values, part f: a graph in memory. -/
namespace Go.Gr
open Go.Abs (WTo tyAt ty_slice T_ok aggB Runs)
open Go.Proofs
open Go.Euf (E3)
/-- A graph: what it holds, and by which values. -/
structure GS where
  gb : Nat
  b1 : Nat
  b6 : Nat
  h0 : Value
  h2 : Value
  h3 : Value
  h4 : Value
  h5 : Value
  h7 : Value
  nodes : List (ByteArray × Value × List Int)
  ne : Nat
  eqs : List Value
  par : List Int
  cls : List (Value × Nat × List Value)
  uses : List (Value × List Int)
  edges : List E3
  wh : Abs.SMap
  sg : Abs.SMap
  tb : Obj
def ints (l : List Int) : List Value := l.map (Value.int .i64)
def e3c (e : E3) : List Value := [.int .i64 e.1, .int .i64 e.2.1, .bool e.2.2]
def ndc (n : ByteArray × Value × List Int) : List Value := [.string n.1, n.2.1]
def GS.flds (S : GS) : List Value := [S.h0, .map (some S.b1), S.h2, S.h3, S.h4, S.h5, .map (some S.b6), S.h7]
def clsC : Option (Value × Nat × List Value) → Ch
  | some c => .row c.1 c.2.1 1 c.2.2
  | none => .no
def useC : Option (Value × List Int) → Ch
  | some c => .row c.1 c.2.length 1 (ints c.2)
  | none => .no
def argC : Option (ByteArray × Value × List Int) → Ch
  | some c => .row c.2.1 c.2.2.length 1 (ints c.2.2)
  | none => .no
def layF (S : GS) : Nat → Ch
  | 0 => .row S.h0 S.nodes.length 2 (S.nodes.flatMap ndc)
  | 1 => .map S.b1 S.wh
  | 2 => .row S.h2 S.ne 2 S.eqs
  | 3 => .row S.h3 S.par.length 1 (ints S.par)
  | 4 => .row S.h4 S.cls.length 1 (S.cls.map (·.1))
  | 5 => .row S.h5 S.uses.length 1 (S.uses.map (·.1))
  | 6 => .map S.b6 S.sg
  | 7 => .row S.h7 S.edges.length 3 (S.edges.flatMap e3c)
  | _ => .no
/-- Where it lies. -/
def lay (S : GS) : Loc → Ch
  | .g => .var S.gb S.flds
  | .f j => layF S j
  | .c i => clsC S.cls[i]?
  | .u i => useC S.uses[i]?
  | .a i => argC S.nodes[i]?
  | .x _ => .no
  | .t => .raw 0 S.tb
def isG : Loc → Bool
  | .x _ => false
  | _ => true
/-- The library's table is in the world, whatever else is. -/
def TabO (o : Obj) : Prop := ∀ w : World, w.heap[0]? = some o → Tab w
theorem tabO_of {w : World} (h : Tab w) : ∃ o, w.heap[0]? = some o ∧ TabO o := by
  refine ⟨w.heap[0]'h.lt, Array.getElem?_eq_getElem h.lt, fun w' hw => ?_⟩
  exact h.kept (hw.trans (Array.getElem?_eq_getElem h.lt).symm)
theorem flat_at {α : Type} {c : α → List Value} {k : Nat} (hc : ∀ a, (c a).length = k) : ∀ (l : List α) (i : Nat) (a : α) (j : Nat), l[i]? = some a → j < k → (l.flatMap c)[i * k + j]? = (c a)[j]?
  | [], i, a, j, h, _ => by simp at h
  | b :: l, 0, a, j, h, hj => by
    cases h
    rw [List.flatMap_cons, Nat.zero_mul, Nat.zero_add, List.getElem?_append_left (by rw [hc]; exact hj)]
  | b :: l, i + 1, a, j, h, hj => by
    rw [List.flatMap_cons, List.getElem?_append_right (by rw [hc, Nat.succ_mul]; omega), hc, Nat.succ_mul, show i * k + k + j - k = i * k + j by omega]
    exact flat_at hc l i a j (by simpa using h) hj
theorem ints_at {l : List Int} {i : Nat} {a : Int} (h : l[i]? = some a) : (ints l)[i * 1]? = some (.int .i64 a) := map_at h
theorem fst_at {α β : Type} {l : List (α × β)} {i : Nat} {a : α × β} (h : l[i]? = some a) : (l.map (·.1))[i * 1]? = some a.1 := by rw [Nat.mul_one, List.getElem?_map, h]; rfl
theorem nd0_at {l : List (ByteArray × Value × List Int)} {i : Nat} {a : ByteArray × Value × List Int} (h : l[i]? = some a) : (l.flatMap ndc)[i * 2]? = some (.string a.1) := by
  have := flat_at (c := ndc) (k := 2) (fun _ => rfl) l i a 0 h (by omega)
  simpa [ndc] using this
theorem nd1_at {l : List (ByteArray × Value × List Int)} {i : Nat} {a : ByteArray × Value × List Int} (h : l[i]? = some a) : (l.flatMap ndc)[i * 2 + 1]? = some a.2.1 := by
  have := flat_at (c := ndc) (k := 2) (fun _ => rfl) l i a 1 h (by omega)
  simpa [ndc] using this
theorem e3_at {l : List E3} {i : Nat} {a : E3} (h : l[i]? = some a) (j : Nat) (hj : j < 3) : (l.flatMap e3c)[i * 3 + j]? = (e3c a)[j]? := flat_at (c := e3c) (k := 3) (fun _ => rfl) l i a j h hj
end Go.Gr
end
section
/- Walking by exact values: the one that stands for a node's class. -/
set_option maxRecDepth 10000
namespace Go.Gr
open Go.Abs (WTo tyAt ty_slice T_ok aggB Runs)
open Go.Proofs
open Go.Euf (E3 Par)
theorem runs_root {w : World} {S : GS} (hv : (Ch.var S.gb S.flds).ok w) (hr : RowOk w S.h3 S.par.length 1 (ints S.par)) {Ln : Nat} {rt : Nat → Nat} (hp : Par Ln rt S.par) {a : Nat} (ha : a < Ln) : Runs P 20 [.pointer (some ⟨S.gb, 0, none⟩), .int .i64 (a : Int)] w (fun v w' => v = .int .i64 (rt a : Int) ∧ w' = w) := by
  obtain ⟨hlen, h, hh⟩ := hp
  refine runs_of Tryd.func20 (by kernel_rfl) rfl rfl ?_
  refine WC.seq (WC.region ?_)
  refine WL.vald rfl rfl rfl (v := (.int .i64 (0))) (x_assign rfl rfl) ?_
  refine WL.nil ?_
  refine WC.seq (WC.block (WC.loop (fun m F W => ∃ z : Nat, m = h z ∧ z < Ln ∧ rt z = rt a ∧ At F [(0, .pointer (some ⟨S.gb, 0, none⟩)), (1, .int .i64 (z : Int))] ∧ W = w) (m := h a) ⟨a, rfl, ha, rfl, ⟨rfl, rfl, trivial⟩, rfl⟩ ?_))
  rintro m F W ⟨z, rfl, hz, hrz, hF, rfl⟩
  obtain ⟨F, rfl⟩ := hF.ex
  obtain ⟨p, p1, p2, p3, p4, p5⟩ := hh z hz
  refine WC.seq (WC.seq (WC.region ?_))
  refine WL.vald rfl rfl rfl (v := (.pointer (some ⟨S.gb, 0, none⟩))) (x_move rfl rfl) ?_
  refine WL.vald rfl rfl rfl (v := (.pointer (some ⟨S.gb, 0, none⟩))) (x_nilc rfl rfl) ?_
  refine WL.vald rfl rfl rfl (v := (.pointer (some ⟨S.gb, 3, none⟩))) (x_field rfl rfl (off := 3) (by kernel_rfl) rfl) ?_
  refine WL.vald rfl rfl rfl (v := (S.h3)) (x_load rfl rfl (by kernel_rfl) (var_cell (hv) rfl)) ?_
  refine WL.vald rfl rfl rfl (v := (.int .i64 ((z : Int)))) (x_move rfl rfl) ?_
  refine WL.vald rfl rfl rfl (v := (.pointer (some (adr (S.h3) (z * 1))))) (x_index (i := z) rfl rfl (hr) rfl rfl (by omega)) ?_
  refine WL.vald rfl rfl rfl (v := (.int .i64 ((p : Int)))) (x_load rfl rfl (by kernel_rfl) (RowOk.cell (hr) (ints_at p1))) ?_
  refine WL.vald rfl rfl rfl (v := (.int .i64 ((z : Int)))) (x_move rfl rfl) ?_
  refine WL.vald rfl rfl rfl (v := (.bool (((p : Int)) != ((z : Int))))) (x_arith (a := (p : Int)) (b := (z : Int)) rfl rfl rfl (av := .bool (((p : Int)) != ((z : Int)))) rfl) ?_
  refine WL.nil ?_
  refine WC.cond (t := ((p : Int) != (z : Int))) rfl (fun hlt => ?_) (fun hlt => ?_)
  · have hne : p ≠ z := by simp only [bne_iff_ne, ne_eq] at hlt; omega
    refine WC.skip (WC.block (WC.region ?_))
    refine WL.vald rfl rfl rfl (v := (.pointer (some ⟨S.gb, 0, none⟩))) (x_move rfl rfl) ?_
    refine WL.vald rfl rfl rfl (v := (.pointer (some ⟨S.gb, 0, none⟩))) (x_nilc rfl rfl) ?_
    refine WL.vald rfl rfl rfl (v := (.pointer (some ⟨S.gb, 3, none⟩))) (x_field rfl rfl (off := 3) (by kernel_rfl) rfl) ?_
    refine WL.vald rfl rfl rfl (v := (S.h3)) (x_load rfl rfl (by kernel_rfl) (var_cell (hv) rfl)) ?_
    refine WL.vald rfl rfl rfl (v := (.int .i64 ((z : Int)))) (x_move rfl rfl) ?_
    refine WL.vald rfl rfl rfl (v := (.pointer (some (adr (S.h3) (z * 1))))) (x_index (i := z) rfl rfl (hr) rfl rfl (by omega)) ?_
    refine WL.vald rfl rfl rfl (v := (.int .i64 ((p : Int)))) (x_load rfl rfl (by kernel_rfl) (RowOk.cell (hr) (ints_at p1))) ?_
    refine WL.vald rfl rfl rfl (v := (.int .i64 ((p : Int)))) (x_assign rfl rfl) ?_
    exact WL.nil ⟨h p, p5 hne, p, rfl, p2, p3.trans hrz, ⟨rfl, rfl, trivial⟩, rfl⟩
  · have heq : p = z := by simp only [bne_eq_false_iff_eq] at hlt; omega
    have hrt : rt a = z := by rw [← hrz]; exact p4.2 heq
    refine WC.exit (WC.seq (WC.region ?_))
    refine WL.vald rfl rfl rfl (v := (.int .i64 ((z : Int)))) (x_move rfl rfl) ?_
    refine WL.vald rfl rfl rfl (v := (.int .i64 ((z : Int)))) (x_assign rfl rfl) ?_
    refine WL.nil ?_
    exact WC.ret ⟨.inr rfl, [.int .i64 (z : Int)], rfl, by rw [hrt], rfl⟩
end Go.Gr
end
section
/- Walking by exact values: rules for operations that change memory; loops of a few rounds. -/
namespace Go.Gr
open Go.Abs (WTo tyAt ty_slice T_ok aggB Runs)
open Go.Proofs
open Go.RowKit
section
variable {n : Nat} {Q : QT} {f : Fn} {w : World}
/-- So many rounds at most. -/
def WR (n : Nat) (x : Code) (Q : QT) (k : Nat) (f : Fn) (w : World) : Prop := ∀ a, Fr n f a → Code.rounds P x (QF n Q) k a w
theorem WR.succ {x : Code} {k : Nat} (h : WC P n x (thenF (WR n x Q k) Q) f w) : WR n x Q (k + 1) f w := by
  intro a ha
  rw [rounds_succ]
  refine Code.wp_mono (fun e a w hq => ?_) (h a ha)
  obtain ⟨f, h1, h2⟩ := hq
  cases e with
  | normal => exact h2 a h1
  | _ => exact ⟨f, h1, h2⟩
theorem WC.rounds {x : Code} (k : Nat) (h : WR n x Q k f w) : WC P n (.loop x) Q f w := fun a ha => wp_loop_rounds k (h a ha)
end
theorem Hp.emp {w : World} : Hp w (fun _ => False) w (fun _ => .no) := ⟨fun _ => trivial, (fun l l' b h => by cases h), (fun l b h => by cases h), .refl _ w⟩
theorem Hp.stp {w0 w : World} {L : Loc → Ch} (H : Hp w0 (fun _ => False) w L) : Stp w0 w none := ⟨H.to.os, H.to.tape, H.to.output, H.to.size, fun b hb _ => H.to.block b hb (by rintro (h | h); exact h; omega)⟩
theorem Ch.stay {w w' : World} {c : Ch} (h : c.ok w) (s : Stp w w' none) : c.ok w' := Ch.kept (fun b hb => s.same b (Ch.lt h hb) (by simp)) h
section
variable {n : Nat} {Q : QT} {f : Fn} {w0 w : World} {B : Nat → Prop} {L : Loc → Ch} {ops : Array Oper} {o : Oper} {rest : List Oper}
theorem h_make (H : Hp w0 B w L) {l : Loc} (hl : L l = .no) {ρ : Operand → Value} {x y : Operand} (ho : o.op = .makeSlice 32 x y) {k : Nat} (hx : ρ x = .int .i64 (k : Int)) (hy : ρ y = .int .i64 (k : Int)) (hk : k ≤ 1000) :
    ∃ w', (execOp ρ o).run P w = .ok (.value (.slice (some ⟨w.heap.size, 0, none⟩) k k)) w' ∧ Hp w0 B w' (upd L l (.row (.slice (some ⟨w.heap.size, 0, none⟩) k k) k 1 (List.replicate k (.int .i64 0)))) := by
  have hty : tyAt T 32 = .slice 3 (some .i64) 1 8 := rfl
  obtain ⟨hu, ti, z, hi, hsz, hby, hz, hzs, hs0, hb0, hkk⟩ := ty_slice T_ok hty
  obtain ⟨hs1, hue, hzk⟩ := hkk .i64 rfl
  have hrun := run_make (P := P) w 32 3 ti z hu hi hz .i64 .i64 (k : Int) (k : Int) (by omega) (by omega) (by rw [hby]; omega) (by omega)
  have e1 : ((k : Int)).toNat = k := Int.toNat_natCast k
  rw [e1] at hrun
  refine ⟨w.alloc (.cells (madeCells z.cells (k * ti.size)) 3), ?_, H.step l _ (by rw [hl]; exact .alloc w _ _) ?_ (fun b hb => .inr (by cases hb; exact Nat.le_refl _))⟩
  · simp only [execOp, ho, hx, hy, Sem.run_bind, hrun, Result.andThen_ok, Sem.run_pure]
  · refine ⟨by simp, (fun u hu => by rw [(List.mem_replicate.1 hu).2]; rfl), .inr ⟨w.heap.size, 0, k, _, 3, (0, 0), rfl, heap_alloc_new w _, Nat.le_refl _, by simp only [maxLen]; omega, by simp [size_madeCells, hsz], .inl rfl, fun i hi => ?_⟩⟩
    have hik : i < k := by simpa using hi
    simp [madeCells, hzk, Value.cells, hsz, hik, Nat.mod_one]
theorem WL.allocH (H : Hp w0 B w L) (l : Loc) (hl : L l = .no) (hg : o.guard = none) {d : Nat} (hdd : o.dst = some d) (hd : Nat.blt d n = true) {t : Nat} (ho : o.op = .alloc t) {z : Value} (hz : (P.info? t).bind (·.zero) = some z)
    (h : ∀ w', Hp w0 B w' (upd L l (.var w.heap.size z.cells.toList)) → WL P n ops Q rest (up f d (.pointer (some ⟨w.heap.size, 0, none⟩))) w') : WL P n ops Q (o :: rest) f w := by
  obtain ⟨i, hi, hz⟩ := Option.bind_eq_some_iff.1 hz
  obtain ⟨w', h1, h2⟩ := h_alloc (ρ := evf f) H hl ho hi hz
  exact WL.vald hg hdd hd h1 (h w' h2)
theorem x_loadS {ρ : Operand → Value} {t : Nat} {x : Operand} (ho : o.op = .load t x) {a : Addr} (hv : ρ x = .pointer (some a)) (ht : aggB P t = some true) {vs : List Value} (hi : (P.info? t).map (·.size) = some vs.length) (hc : ∀ (j : Nat) (v : Value), vs[j]? = some v → w.cell? (a.add j) = some v) : (execOp ρ o).run P w = .ok (.value (.agg vs.toArray)) w := by
  obtain ⟨i, hi, hsz⟩ := Option.map_eq_some_iff.1 hi
  exact x_loadA ho hv ht hi hsz.symm hc
theorem RowOk.cells {w : World} {v : Value} {n sz : Nat} {xs : List Value} (h : RowOk w v n sz xs) (hn : 0 < n) {k : Nat} {ys : List Value} (hx : ∀ (j : Nat) (u : Value), ys[j]? = some u → xs[k + j]? = some u) : ∀ (j : Nat) (u : Value), ys[j]? = some u → w.cell? ((adr v k).add j) = some u := by
  intro j u hj
  rw [h.adr_add hn]
  exact h.cell (hx j u hj)
theorem var_cells {w : World} {b : Nat} {xs : List Value} (h : (Ch.var b xs).ok w) : ∀ (j : Nat) (u : Value), xs[j]? = some u → w.cell? ((⟨b, 0, none⟩ : Addr).add j) = some u := by
  intro j u hj
  rw [Abs.at_zero]
  exact var_cell h hj
theorem WL.storeH (H : Hp w0 B w L) {l : Loc} {v : Value} {m sz : Nat} {xs : List Value} (hl : L l = .row v m sz xs) (hg : o.guard = none) (hd : o.dst = none) {t : Nat} {x y : Operand} (ho : o.op = .store t x y) {k : Nat} (hx : evf f x = .pointer (some (adr v k))) {ys : List Value} (hy : (evf f y).cells.toList = ys) (hi : (P.info? t).map (·.size) = some ys.length) (hk : k + ys.length ≤ m * sz) (h1 : ∀ u ∈ ys, u.oneCell' = true) (hpos : 0 < ys.length)
    (h : ∀ w', Hp w0 B w' (upd L l (.row v m sz (xs.take k ++ (ys ++ xs.drop (k + ys.length))))) → WL P n ops Q rest f w') : WL P n ops Q (o :: rest) f w := by
  obtain ⟨i, hi, hsz⟩ := Option.map_eq_some_iff.1 hi
  obtain ⟨w', e1, e2⟩ := h_store (ρ := evf f) H hl ho hx hi hy hsz.symm hk h1 hpos
  exact WL.skip hg hd e1 (h w' e2)
theorem WL.storeVH (H : Hp w0 B w L) {l : Loc} {b : Nat} {xs : List Value} (hl : L l = .var b xs) (hg : o.guard = none) (hd : o.dst = none) {t : Nat} {x y : Operand} (ho : o.op = .store t x y) {k : Nat} (hx : evf f x = .pointer (some ⟨b, k, none⟩)) {ys : List Value} (hy : (evf f y).cells.toList = ys) (hi : (P.info? t).map (·.size) = some ys.length) (hk : k + ys.length ≤ xs.length) (h1 : ∀ u ∈ ys, u.oneCell' = true)
    (h : ∀ w', Hp w0 B w' (upd L l (.var b (xs.take k ++ (ys ++ xs.drop (k + ys.length))))) → WL P n ops Q rest f w') : WL P n ops Q (o :: rest) f w := by
  obtain ⟨i, hi, hsz⟩ := Option.map_eq_some_iff.1 hi
  obtain ⟨w', e1, e2⟩ := h_storeV (ρ := evf f) H hl ho hx hi hy hsz.symm hk h1
  exact WL.skip hg hd e1 (h w' e2)
theorem WL.makeH (H : Hp w0 B w L) (l : Loc) (hl : L l = .no) (hg : o.guard = none) {d : Nat} (hdd : o.dst = some d) (hd : Nat.blt d n = true) {x y : Operand} (ho : o.op = .makeSlice 32 x y) {k : Nat} (hx : evf f x = .int .i64 (k : Int)) (hy : evf f y = .int .i64 (k : Int)) (hk : k ≤ 1000)
    (h : ∀ w', Hp w0 B w' (upd L l (.row (.slice (some ⟨w.heap.size, 0, none⟩) k k) k 1 (List.replicate k (.int .i64 0)))) → WL P n ops Q rest (up f d (.slice (some ⟨w.heap.size, 0, none⟩) k k)) w') : WL P n ops Q (o :: rest) f w := by
  obtain ⟨w', h1, h2⟩ := h_make (ρ := evf f) H hl ho hx hy hk
  exact WL.vald hg hdd hd h1 (h w' h2)
theorem WL.litH (H : Hp w0 B w L) (l : Loc) (hl : L l = .no) (hg : o.guard = none) {d : Nat} (hdd : o.dst = some d) (hd : Nat.blt d n = true) {t e sz by_ m : Nat} {k : Option IntKind} (hty : tyAt T t = .slice e k sz by_) {parts : Array (Nat × Operand)} (ho : o.op = .buildSlice t m parts) (hn : Nat.ble m 1000 = true) (hn0 : Nat.blt 0 m = true) (hsz : Nat.ble sz 1000 = true) (his : parts.toList.map (·.1) = List.range m) {xs : List Value} (hxs : ((parts.toList.map fun p => evf f p.2).flatMap fun v => v.cells.toList) = xs) (hv : ∀ v ∈ parts.toList.map (fun p => evf f p.2), v.cells.size = sz) (h1 : ∀ u ∈ xs, u.oneCell' = true)
    (h : ∀ w', Hp w0 B w' (upd L l (.row (.slice (some ⟨w.heap.size, 0, none⟩) m m) m sz xs)) → WL P n ops Q rest (up f d (.slice (some ⟨w.heap.size, 0, none⟩) m m)) w') : WL P n ops Q (o :: rest) f w := by
  obtain ⟨w', e1, e2⟩ := h_lit (ρ := evf f) H hl hty ho (Nat.le_of_ble_eq_true hn) (by simpa [Nat.blt_eq] using hn0) (Nat.le_of_ble_eq_true hsz) his hv hxs h1
  exact WL.vald hg hdd hd e1 (h w' e2)
theorem WL.appendH (H : Hp w0 B w L) {l : Loc} {v : Value} {m sz : Nat} {xs : List Value} (hl : L l = .row v m sz xs) (hg : o.guard = none) {d : Nat} (hdd : o.dst = some d) (hd : Nat.blt d n = true) {t u e by_ : Nat} {k : Option IntKind} (hty : tyAt T t = .slice e k sz by_) {x y : Operand} (ho : o.op = .call { callee := .builtin .append, args := #[x, y], argTypes := #[t, u] }) (hot : o.type = t) (hx : evf f x = v) {j : Nat} {news : List Value} {vy : Value} (hyv : evf f y = vy) (hs : Src P sz u vy j news w) (hby : (m + j) * by_ ≤ 140737488355328)
    (h : ∀ v' w', Hp w0 B w' (upd L l (.row v' (m + j) sz (xs ++ news))) → WL P n ops Q rest (up f d v') w') : WL P n ops Q (o :: rest) f w := by
  obtain ⟨v', w', e1, e2⟩ := h_append (ρ := evf f) H hl hty ho hot hx (by rw [hyv]; exact hs) hby
  exact WL.vald hg hdd hd e1 (h v' w' e2)
theorem WL.mapPutH (H : Hp w0 B w L) {l : Loc} {b : Nat} {m : Abs.SMap} (hl : L l = .map b m) (hg : o.guard = none) (hd : o.dst = none) {x y z : Operand} (ho : o.op = .mapUpdate 48 x y z) (hx : evf f x = .map (some b)) {s : ByteArray} (hy : evf f y = .string s) {k : Int} (hz : evf f z = .int .i64 k) (hm : m.length < maxLen) (hs : s.size ≤ maxLen) (hn : (Lit.int .i64 k).wf = true)
    (h : ∀ w', Hp w0 B w' (upd L l (.map b ((s, k) :: m))) → WL P n ops Q rest f w') : WL P n ops Q (o :: rest) f w := by
  obtain ⟨w', e1, e2⟩ := h_mapPut (ρ := evf f) H hl ho hx hy hz hm hs hn
  exact WL.skip hg hd e1 (h w' e2)
theorem WL.makeMapH (H : Hp w0 B w L) (l : Loc) (hl : L l = .no) (hg : o.guard = none) {d : Nat} (hdd : o.dst = some d) (hd : Nat.blt d n = true) (ho : o.op = .makeMap 48 none)
    (h : ∀ w', Hp w0 B w' (upd L l (.map w.heap.size [])) → WL P n ops Q rest (up f d (.map (some w.heap.size))) w') : WL P n ops Q (o :: rest) f w := by
  obtain ⟨w', e1, e2⟩ := h_makeMap (ρ := evf f) H hl ho
  exact WL.vald hg hdd hd e1 (h w' e2)
theorem WL.boxH (H : Hp w0 B w L) (l : Loc) (hl : L l = .no) (hg : o.guard = none) {d : Nat} (hdd : o.dst = some d) (hd : Nat.blt d n = true) {t : Nat} {x : Operand} (ho : o.op = .box t x) {xs : List Value} (hx : evf f x = .agg xs.toArray)
    (h : ∀ w', Hp w0 B w' (upd L l (.var w.heap.size xs)) → WL P n ops Q rest (up f d (.pointer (some ⟨w.heap.size, 0, none⟩))) w') : WL P n ops Q (o :: rest) f w := by
  obtain ⟨w', e1, e2⟩ := h_box (ρ := evf f) H hl ho hx
  exact WL.vald hg hdd hd e1 (h w' e2)
theorem WL.cutH (H : Hp w0 B w L) {l : Loc} {v : Value} {m sz : Nat} {xs : List Value} (hl : L l = .row v m sz xs) (hg : o.guard = none) {d : Nat} (hdd : o.dst = some d) (hd : Nat.blt d n = true) {t e by_ : Nat} {k : Option IntKind} (hty : tyAt T t = .slice e k sz by_) {x : Operand} (ho : o.op = .slice t x (some (.const (.int .i64 1))) none none) (hx : evf f x = v) (hm : 1 ≤ m)
    (h : ∀ v', Hp w0 B w (upd L l (.row v' (m - 1) sz (xs.drop sz))) → WL P n ops Q rest (up f d v') w) : WL P n ops Q (o :: rest) f w := by
  obtain ⟨v', e1, e2, e3⟩ := x_cut (ρ := evf f) hty ho (H.row hl) hx rfl hm
  exact WL.vald hg hdd hd e1 (h v' (H.step l _ (.refl w _) e2 (fun b hb => .inl (by rw [hl]; show hblk v = some b; rw [← e3]; exact hb))))
end
section
variable {n : Nat} {Q : QT} {f : Fn} {w0 w : World} {B : Nat → Prop} {L : Loc → Ch} {ops : List Oper} {o : Oper} {S : World → Prop} {mm fuel i : Nat} {listed : Array Bool}
theorem WT.litH (H : Hp w0 B w L) (l : Loc) (hl : L l = .no) (him : Nat.blt i mm = true) (hr : Region.ready .any ops.toArray listed = [i]) (hi : ops[i]? = some o) (hg : o.guard = none) {d : Nat} (hdd : o.dst = some d) (hd : Nat.blt d n = true) {t e sz by_ m : Nat} {k : Option IntKind} (hty : tyAt T t = .slice e k sz by_) {parts : Array (Nat × Operand)} (ho : o.op = .buildSlice t m parts) (hn : Nat.ble m 1000 = true) (hn0 : Nat.blt 0 m = true) (hsz : Nat.ble sz 1000 = true) (his : parts.toList.map (·.1) = List.range m) {xs : List Value} (hxs : ((parts.toList.map fun p => evf f p.2).flatMap fun v => v.cells.toList) = xs) (hv : ∀ v ∈ parts.toList.map (fun p => evf f p.2), v.cells.size = sz) (h1 : ∀ u ∈ xs, u.oneCell' = true)
    (h : ∀ w', Hp w0 B w' (upd L l (.row (.slice (some ⟨w.heap.size, 0, none⟩) m m) m sz xs)) → S w' ∧ WT P n ops Q S mm fuel (listed.setIfInBounds i true) (up f d (.slice (some ⟨w.heap.size, 0, none⟩) m m)) w') : WT P n ops Q S mm (fuel + 1) listed f w := by
  obtain ⟨w', e1, e2⟩ := h_lit (ρ := evf f) H hl hty ho (Nat.le_of_ble_eq_true hn) (by simpa [Nat.blt_eq] using hn0) (Nat.le_of_ble_eq_true hsz) his hv hxs h1
  exact WT.oneVal him hr hi hg hdd hd e1 (h w' e2).1 (h w' e2).2
theorem WT.appendH (H : Hp w0 B w L) {l : Loc} {v : Value} {m sz : Nat} {xs : List Value} (hl : L l = .row v m sz xs) (him : Nat.blt i mm = true) (hr : Region.ready .any ops.toArray listed = [i]) (hi : ops[i]? = some o) (hg : o.guard = none) {d : Nat} (hdd : o.dst = some d) (hd : Nat.blt d n = true) {t u e by_ : Nat} {k : Option IntKind} (hty : tyAt T t = .slice e k sz by_) {x y : Operand} (ho : o.op = .call { callee := .builtin .append, args := #[x, y], argTypes := #[t, u] }) (hot : o.type = t) (hx : evf f x = v) {j : Nat} {news : List Value} {vy : Value} (hyv : evf f y = vy) (hs : Src P sz u vy j news w) (hby : (m + j) * by_ ≤ 140737488355328)
    (h : ∀ v' w', Hp w0 B w' (upd L l (.row v' (m + j) sz (xs ++ news))) → S w' ∧ WT P n ops Q S mm fuel (listed.setIfInBounds i true) (up f d v') w') : WT P n ops Q S mm (fuel + 1) listed f w := by
  obtain ⟨v', w', e1, e2⟩ := h_append (ρ := evf f) H hl hty ho hot hx (by rw [hyv]; exact hs) hby
  exact WT.oneVal him hr hi hg hdd hd e1 (h v' w' e2).1 (h v' w' e2).2
end
end Go.Gr
end
section
/- Walking by exact values: a term by what its arguments are like. -/
set_option maxRecDepth 10000
namespace Go.Gr
open Go.Abs (WTo tyAt ty_slice T_ok aggB Runs)
open Go.Proofs
open Go.Euf (E3 Par)
theorem RowOk.nil {w : World} {sz : Nat} : RowOk w (.slice none 0 0) 0 sz [] := ⟨by simp, (fun x h => by cases h), .inl ⟨rfl, rfl⟩⟩
theorem exc_size : (⟨#[33]⟩ : ByteArray).size = 1 := rfl
theorem keyS_size (f : ByteArray) (hf : f.size ≤ 100) (l : List Int) (hl : l.length ≤ 10) (h : ∀ a ∈ l, -9223372036854775808 ≤ a ∧ a ≤ 9223372036854775807) : (keyS f l).size ≤ 400 := by
  have h1 := keyFrom_size ((itoaB f.size ++ ⟨#[58]⟩) ++ f) l h
  have h2 := itoaB_size f.size (by omega) (by omega)
  simp only [ByteArray.size_append, col_size] at h1
  unfold keyS
  omega
def sigS (fn : ByteArray) (a : Nat) : ByteArray := (keyS fn [] ++ ⟨#[33]⟩) ++ itoaB (a : Int)
theorem one_nil : ∀ u ∈ ([] : List Value), u.oneCell' = true := fun u hu => by cases hu
theorem one_cons {x : Value} {l : List Value} (h : x.oneCell' = true) (t : ∀ u ∈ l, u.oneCell' = true) : ∀ u ∈ x :: l, u.oneCell' = true := fun u hu => (List.mem_cons.1 hu).elim (fun e => e ▸ h) (t u)
theorem runs_sigA {w : World} {S : GS} (hv : (Ch.var S.gb S.flds).ok w) (hr : RowOk w S.h0 S.nodes.length 2 (S.nodes.flatMap ndc)) {a : Nat} {fn : ByteArray} {va : Value} (hn : S.nodes[a]? = some (fn, va, [])) (har : RowOk w va 0 1 []) (hva : va.oneCell' = true) (hfn : fn.size ≤ 100) (hal : a ≤ 1000000) (ht : Tab w) : Runs P 25 [.pointer (some ⟨S.gb, 0, none⟩), .int .i64 (a : Int)] w (fun v w' => v = .string (sigS fn a) ∧ Stp w w' none) := by
  have H0 := Hp.emp (w := w)
  refine runs_of Tryd.func25 (by kernel_rfl) rfl rfl ?_
  refine WC.seq (WC.region ?_)
  refine WL.vald rfl rfl rfl (v := (.string (⟨#[]⟩))) (x_assign rfl rfl) ?_
  refine WL.nil ?_
  have hlt := (List.getElem?_eq_some_iff.1 hn).1
  refine WC.seq (WC.region ?_)
  refine WL.vald rfl rfl rfl (v := (.pointer (some ⟨S.gb, 0, none⟩))) (x_move rfl rfl) ?_
  refine WL.vald rfl rfl rfl (v := (.pointer (some ⟨S.gb, 0, none⟩))) (x_nilc rfl rfl) ?_
  refine WL.vald rfl rfl rfl (v := (.pointer (some ⟨S.gb, 0, none⟩))) (x_field rfl rfl (off := 0) (by kernel_rfl) rfl) ?_
  refine WL.vald rfl rfl rfl (v := (S.h0)) (x_load rfl rfl (by kernel_rfl) (var_cell ((Ch.stay hv H0.stp)) rfl)) ?_
  refine WL.vald rfl rfl rfl (v := (.int .i64 ((a : Int)))) (x_move rfl rfl) ?_
  refine WL.vald rfl rfl rfl (v := (.pointer (some (adr (S.h0) (a * 2))))) (x_index (i := a) rfl rfl ((hr.kept H0.stp)) rfl rfl (hlt)) ?_
  refine WL.vald rfl rfl rfl (v := .agg #[.string fn, va]) (x_loadS rfl rfl (by kernel_rfl) (vs := [.string fn, va]) (by kernel_rfl) (RowOk.cells hr (by omega) (fun j u hj => ?_))) ?_
  · match j, hj with
    | 0, hj => cases hj; exact nd0_at hn
    | 1, hj => cases hj; exact nd1_at hn
  refine WL.allocH H0 (.x 0) rfl rfl rfl rfl rfl (z := .agg #[.string ⟨#[]⟩, .slice none 0 0]) (by kernel_rfl) ?_
  intro w1 H1
  refine WL.storeVH H1 (l := .x 0) rfl rfl rfl rfl (k := 0) rfl (ys := [(.string (fn)), (va)]) rfl (by kernel_rfl) (Nat.le_of_ble_eq_true rfl) (one_cons rfl (one_cons hva one_nil)) ?_
  intro w2 H2
  refine WL.nil ?_
  refine WC.seq (WC.seq (WC.region ?_))
  refine WL.vald rfl rfl rfl (v := (.pointer (some ⟨w.heap.size, 1, none⟩))) (x_field rfl rfl (off := 1) (by kernel_rfl) rfl) ?_
  refine WL.vald rfl rfl rfl (v := (va)) (x_load rfl rfl (by kernel_rfl) (var_cell (H2.ok (.x 0)) rfl)) ?_
  refine WL.vald rfl rfl rfl (v := (.int .i64 (((0 : Nat) : Int)))) (x_lenR rfl rfl ((har.kept H2.stp)) rfl) ?_
  refine WL.vald rfl rfl rfl (v := (.bool ((((0 : Nat) : Int)) == (0)))) (x_arith (a := ((0 : Nat) : Int)) (b := 0) rfl rfl rfl (av := .bool ((((0 : Nat) : Int)) == (0))) rfl) ?_
  refine WL.nil ?_
  refine WC.condT rfl (WC.seq (WC.region ?_))
  refine WL.vald rfl rfl rfl (v := (.pointer (some ⟨w.heap.size, 0, none⟩))) (x_field rfl rfl (off := 0) (by kernel_rfl) rfl) ?_
  refine WL.vald rfl rfl rfl (v := (.string (fn))) (x_load rfl rfl (by kernel_rfl) (var_cell (H2.ok (.x 0)) rfl)) ?_
  refine WL.calld rfl rfl rfl rfl rfl (runs_key fn hfn [] (v := .slice none 0 0) (n := 0) RowOk.nil (by omega) (fun a ha => by cases ha) (ht.on H2.stp)) ?_
  rintro _ w8 ⟨rfl, s8⟩
  have z1 := keyS_size fn hfn [] (by simp) (fun a ha => by cases ha)
  refine WL.vald rfl rfl rfl (v := (.string ((keyS fn []) ++ ⟨#[33]⟩))) (x_sadd rfl rfl rfl (by rw [exc_size]; omega)) ?_
  refine WL.vald rfl rfl rfl (v := (.int .i64 ((a : Int)))) (x_move rfl rfl) ?_
  refine WL.calld rfl rfl rfl rfl rfl (runs_itoa _ (by omega) (by omega) ((ht.on H2.stp).on s8)) ?_
  rintro _ w9 ⟨rfl, s9⟩
  have z2 := itoaB_size (a : Int) (by omega) (by omega)
  refine WL.vald rfl rfl rfl (v := (.string (((keyS fn []) ++ ⟨#[33]⟩) ++ (itoaB (a : Int))))) (x_sadd rfl rfl rfl (by rw [ByteArray.size_append, exc_size]; omega)) ?_
  refine WL.vald rfl rfl rfl (v := (.string (((keyS fn []) ++ ⟨#[33]⟩) ++ (itoaB (a : Int))))) (x_assign rfl rfl) ?_
  refine WL.nil ?_
  exact WC.ret ⟨.inr rfl, [.string (sigS fn a)], rfl, rfl, (H2.stp.trans s8).trans s9⟩
theorem runs_sigB {w : World} {S : GS} (hv : (Ch.var S.gb S.flds).ok w) (hr : RowOk w S.h0 S.nodes.length 2 (S.nodes.flatMap ndc)) {a i : Nat} {fn : ByteArray} {va : Value} (hn : S.nodes[a]? = some (fn, va, [(i : Int)])) (har : RowOk w va 1 1 (ints [(i : Int)])) (hva : va.oneCell' = true) (hfn : fn.size ≤ 100) (hp3 : RowOk w S.h3 S.par.length 1 (ints S.par)) {Ln : Nat} {rt : Nat → Nat} (hp : Par Ln rt S.par) (hi : i < Ln) (hrl : rt i ≤ 1000000) (ht : Tab w) : Runs P 25 [.pointer (some ⟨S.gb, 0, none⟩), .int .i64 (a : Int)] w (fun v w' => v = .string (keyS fn [(rt i : Int)]) ∧ Stp w w' none) := by
  have H0 := Hp.emp (w := w)
  refine runs_of Tryd.func25 (by kernel_rfl) rfl rfl ?_
  refine WC.seq (WC.region ?_)
  refine WL.vald rfl rfl rfl (v := (.string (⟨#[]⟩))) (x_assign rfl rfl) ?_
  refine WL.nil ?_
  have hlt := (List.getElem?_eq_some_iff.1 hn).1
  refine WC.seq (WC.region ?_)
  refine WL.vald rfl rfl rfl (v := (.pointer (some ⟨S.gb, 0, none⟩))) (x_move rfl rfl) ?_
  refine WL.vald rfl rfl rfl (v := (.pointer (some ⟨S.gb, 0, none⟩))) (x_nilc rfl rfl) ?_
  refine WL.vald rfl rfl rfl (v := (.pointer (some ⟨S.gb, 0, none⟩))) (x_field rfl rfl (off := 0) (by kernel_rfl) rfl) ?_
  refine WL.vald rfl rfl rfl (v := (S.h0)) (x_load rfl rfl (by kernel_rfl) (var_cell ((Ch.stay hv H0.stp)) rfl)) ?_
  refine WL.vald rfl rfl rfl (v := (.int .i64 ((a : Int)))) (x_move rfl rfl) ?_
  refine WL.vald rfl rfl rfl (v := (.pointer (some (adr (S.h0) (a * 2))))) (x_index (i := a) rfl rfl ((hr.kept H0.stp)) rfl rfl (hlt)) ?_
  refine WL.vald rfl rfl rfl (v := .agg #[.string fn, va]) (x_loadS rfl rfl (by kernel_rfl) (vs := [.string fn, va]) (by kernel_rfl) (RowOk.cells hr (by omega) (fun j u hj => ?_))) ?_
  · match j, hj with
    | 0, hj => cases hj; exact nd0_at hn
    | 1, hj => cases hj; exact nd1_at hn
  refine WL.allocH H0 (.x 0) rfl rfl rfl rfl rfl (z := .agg #[.string ⟨#[]⟩, .slice none 0 0]) (by kernel_rfl) ?_
  intro w1 H1
  refine WL.storeVH H1 (l := .x 0) rfl rfl rfl rfl (k := 0) rfl (ys := [(.string (fn)), (va)]) rfl (by kernel_rfl) (Nat.le_of_ble_eq_true rfl) (one_cons rfl (one_cons hva one_nil)) ?_
  intro w2 H2
  refine WL.nil ?_
  refine WC.seq (WC.seq (WC.region ?_))
  refine WL.vald rfl rfl rfl (v := (.pointer (some ⟨w.heap.size, 1, none⟩))) (x_field rfl rfl (off := 1) (by kernel_rfl) rfl) ?_
  refine WL.vald rfl rfl rfl (v := (va)) (x_load rfl rfl (by kernel_rfl) (var_cell (H2.ok (.x 0)) rfl)) ?_
  refine WL.vald rfl rfl rfl (v := (.int .i64 (((1 : Nat) : Int)))) (x_lenR rfl rfl ((har.kept H2.stp)) rfl) ?_
  refine WL.vald rfl rfl rfl (v := (.bool ((((1 : Nat) : Int)) == (0)))) (x_arith (a := ((1 : Nat) : Int)) (b := 0) rfl rfl rfl (av := .bool ((((1 : Nat) : Int)) == (0))) rfl) ?_
  refine WL.nil ?_
  refine WC.condF rfl (WC.skip ?_)
  refine WC.seq (WC.region ?_)
  refine WL.vald rfl rfl rfl (v := (.pointer (some ⟨w.heap.size, 1, none⟩))) (x_field rfl rfl (off := 1) (by kernel_rfl) rfl) ?_
  refine WL.vald rfl rfl rfl (v := (va)) (x_load rfl rfl (by kernel_rfl) (var_cell (H2.ok (.x 0)) rfl)) ?_
  refine WL.vald rfl rfl rfl (v := (.int .i64 (((1 : Nat) : Int)))) (x_lenR rfl rfl ((har.kept H2.stp)) rfl) ?_
  refine WL.makeH H2 (.x 1) rfl rfl rfl rfl rfl (k := 1) rfl rfl (by omega) ?_
  intro w5 H5
  refine WL.vald rfl rfl rfl (v := (.slice (some ⟨w2.heap.size, 0, none⟩) 1 1)) (x_assign rfl rfl) ?_
  refine WL.nil ?_
  refine WC.seq (WC.seq (WC.region ?_))
  refine WL.vald rfl rfl rfl (v := (.pointer (some ⟨w.heap.size, 1, none⟩))) (x_field rfl rfl (off := 1) (by kernel_rfl) rfl) ?_
  refine WL.vald rfl rfl rfl (v := (va)) (x_load rfl rfl (by kernel_rfl) (var_cell (H5.ok (.x 0)) rfl)) ?_
  refine WL.vald rfl rfl rfl (v := (.int .i64 (((1 : Nat) : Int)))) (x_lenR rfl rfl ((har.kept H5.stp)) rfl) ?_
  refine WL.vald rfl rfl rfl (v := (.int .i64 (0))) (x_move rfl rfl) ?_
  refine WL.nil ?_
  refine WC.block (WC.rounds 2 (WR.succ ?_))
  refine WC.seq (WC.region ?_)
  refine WL.vald rfl rfl rfl (v := (.bool (decide (0 < ((1 : Nat) : Int))))) (x_arith rfl rfl rfl (av := .bool (decide (0 < ((1 : Nat) : Int)))) rfl) ?_
  refine WL.nil ?_
  refine WC.seq (WC.condT rfl (WC.skip ?_))
  refine WC.seq (WC.block (WC.seq (WC.region ?_)))
  refine WL.vald rfl rfl rfl (v := (.int .i64 (0))) (x_move rfl rfl) ?_
  refine WL.vald rfl rfl rfl (v := (.pointer (some (adr (va) (0 * 1))))) (x_index (i := 0) rfl rfl ((har.kept H5.stp)) rfl rfl (by omega)) ?_
  refine WL.vald rfl rfl rfl (v := (.int .i64 ((i : Int)))) (x_load rfl rfl (by kernel_rfl) (RowOk.cell ((har.kept H5.stp)) (rfl))) ?_
  refine WL.vald rfl rfl rfl (v := (.int .i64 (0))) (x_assign rfl rfl) ?_
  refine WL.vald rfl rfl rfl (v := (.int .i64 ((i : Int)))) (x_assign rfl rfl) ?_
  refine WL.nil (WC.region ?_)
  refine WL.vald rfl rfl rfl (v := (.slice (some ⟨w2.heap.size, 0, none⟩) 1 1)) (x_move rfl rfl) ?_
  refine WL.vald rfl rfl rfl (v := (.int .i64 (0))) (x_move rfl rfl) ?_
  refine WL.vald rfl rfl rfl (v := (.pointer (some ⟨S.gb, 0, none⟩))) (x_move rfl rfl) ?_
  refine WL.vald rfl rfl rfl (v := (.int .i64 ((i : Int)))) (x_move rfl rfl) ?_
  refine WL.calld rfl rfl rfl rfl rfl (runs_root (Ch.stay hv H5.stp) (hp3.kept H5.stp) hp hi) ?_
  rintro _ _ ⟨rfl, rfl⟩
  refine WL.vald rfl rfl rfl (v := (.pointer (some (adr (.slice (some ⟨w2.heap.size, 0, none⟩) 1 1) (0 * 1))))) (x_index (i := 0) rfl rfl ((H5.row (l := .x 1) rfl)) rfl rfl (by omega)) ?_
  refine WL.storeH H5 (l := .x 1) rfl rfl rfl rfl (k := 0 * 1) rfl (ys := [.int .i64 (rt i : Int)]) rfl (by kernel_rfl) (Nat.le_of_ble_eq_true rfl) (one_cons rfl one_nil) (Nat.le_of_ble_eq_true rfl) ?_
  intro w6 H6
  refine WL.nil (WC.region ?_)
  refine WL.vald rfl rfl rfl (v := (.int .i64 (1))) (x_arithw (z := 1) rfl rfl rfl rfl (rfl)) ?_
  refine WL.vald rfl rfl rfl (v := (.int .i64 (1))) (x_move rfl rfl) ?_
  refine WL.nil ?_
  refine WR.succ ?_
  refine WC.seq (WC.region ?_)
  refine WL.vald rfl rfl rfl (v := (.bool (decide (1 < ((1 : Nat) : Int))))) (x_arith rfl rfl rfl (av := .bool (decide (1 < ((1 : Nat) : Int)))) rfl) ?_
  refine WL.nil ?_
  refine WC.seq (WC.condF rfl (WC.exit ?_))
  refine WC.seq (WC.region ?_)
  refine WL.vald rfl rfl rfl (v := (.pointer (some ⟨w.heap.size, 0, none⟩))) (x_field rfl rfl (off := 0) (by kernel_rfl) rfl) ?_
  refine WL.vald rfl rfl rfl (v := (.string (fn))) (x_load rfl rfl (by kernel_rfl) (var_cell (H6.ok (.x 0)) rfl)) ?_
  refine WL.vald rfl rfl rfl (v := (.slice (some ⟨w2.heap.size, 0, none⟩) 1 1)) (x_move rfl rfl) ?_
  refine WL.calld rfl rfl rfl rfl rfl (runs_key fn hfn [(rt i : Int)] (n := 1) (H6.row (l := .x 1) rfl) (by omega) (fun a ha => by obtain rfl := List.mem_singleton.1 ha; omega) (ht.on H6.stp)) ?_
  rintro _ w8 ⟨rfl, s8⟩
  refine WL.vald rfl rfl rfl (v := (.string (keyS fn [(rt i : Int)]))) (x_assign rfl rfl) ?_
  refine WL.nil ?_
  exact WC.ret ⟨.inr rfl, [.string (keyS fn [(rt i : Int)])], rfl, rfl, H6.stp.trans s8⟩
end Go.Gr
end
section
/- Walking by exact values: chunks named by cases. -/
namespace Go.Gr
open Go.Abs (WTo tyAt ty_slice T_ok aggB Runs)
open Go.Proofs
open Go.Euf (E3 Par)
theorem loc_cases {p : Loc → Prop} (hg : p .g) (h0 : p (.f 0)) (h1 : p (.f 1)) (h2 : p (.f 2)) (h3 : p (.f 3)) (h4 : p (.f 4)) (h5 : p (.f 5)) (h6 : p (.f 6)) (h7 : p (.f 7)) (h8 : ∀ n, p (.f (n + 8))) (hc : ∀ i, p (.c i)) (hu : ∀ i, p (.u i)) (ha : ∀ i, p (.a i))
    (x0 : p (.x 0)) (x1 : p (.x 1)) (x2 : p (.x 2)) (x3 : p (.x 3)) (x4 : ∀ n, p (.x (n + 4))) (ht : p .t) : ∀ l, p l
  | .g => hg
  | .f 0 => h0 | .f 1 => h1 | .f 2 => h2 | .f 3 => h3 | .f 4 => h4 | .f 5 => h5 | .f 6 => h6 | .f 7 => h7 | .f (n + 8) => h8 n
  | .c i => hc i | .u i => hu i | .a i => ha i
  | .x 0 => x0 | .x 1 => x1 | .x 2 => x2 | .x 3 => x3 | .x (n + 4) => x4 n
  | .t => ht
theorem noPanic {c : List PanicEntry} {q : Prop} (h : (Exit.panic c = .normal ∨ Exit.panic c = .ret) ∧ q) : False := by
  rcases h.1 with h | h <;> cases h
theorem e3c_one {e : E3} : ∀ u ∈ e3c e, u.oneCell' = true := one_cons rfl (one_cons rfl (one_cons rfl one_nil))
theorem flat_set {α : Type} {c : α → List Value} {k : Nat} (hc : ∀ a, (c a).length = k) : ∀ (l : List α) (i : Nat) (a : α), i < l.length → (l.flatMap c).take (i * k) ++ (c a ++ (l.flatMap c).drop (i * k + (c a).length)) = (l.set i a).flatMap c
  | [], i, a, h => by simp at h
  | b :: l, 0, a, h => by
    rw [List.set_cons_zero, List.flatMap_cons, List.flatMap_cons, Nat.zero_mul, Nat.zero_add, hc, List.take_zero, List.nil_append, List.drop_append, hc, Nat.sub_self, List.drop_zero, List.drop_of_length_le (by rw [hc]; omega), List.nil_append]
  | b :: l, i + 1, a, h => by
    have ih := flat_set hc l i a (by simpa using h)
    rw [List.set_cons_succ, List.flatMap_cons, List.flatMap_cons, ← ih, Nat.succ_mul]
    rw [List.take_append, List.drop_append, hc, hc, List.take_of_length_le (by rw [hc]; omega), List.drop_of_length_le (by rw [hc]; omega), List.nil_append, List.append_assoc]
    rw [hc] at *
    congr 3
    · congr 1; omega
    · congr 1; congr 1; omega
theorem ints_set (l : List Int) (i : Nat) (a : Int) (h : i < l.length) : (ints l).take (i * 1) ++ ([Value.int .i64 a] ++ (ints l).drop (i * 1 + 1)) = ints (l.set i a) := by
  unfold ints
  rw [Nat.mul_one, List.map_set, List.set_eq_take_append_cons_drop, if_pos (by simpa using h)]
  rfl
theorem map_set1 (l : List Value) (i : Nat) (a : Value) (h : i < l.length) : l.take (i * 1) ++ ([a] ++ l.drop (i * 1 + 1)) = l.set i a := by
  rw [Nat.mul_one, List.set_eq_take_append_cons_drop, if_pos h]
  rfl
end Go.Gr
end
section
/- Walking by exact values: the edges from a node on are turned about. -/
set_option maxRecDepth 10000
namespace Go.Gr
open Go.Abs (WTo tyAt ty_slice T_ok aggB Runs)
open Go.Proofs
open Go.Euf (E3 Par Fo turnL)
theorem mixedP : P.follows .mixedOrders = true := Abs.mixed
theorem runs_turn {w : World} {B : Nat → Prop} {S : GS} (H : Hp w B w (lay S)) {Ln : Nat} {rt : Nat → Nat} {r : Nat → Nat} (hfo : Fo Ln rt S.edges r) {a k : Nat} (ha : a < Ln) (hk : ∀ z, z < Ln → r z ≤ k) : Runs P 26 [.pointer (some ⟨S.gb, 0, none⟩), .int .i64 (a : Int)] w (fun v w' => Hp w B w' (lay { S with edges := turnL (k + 1) S.edges a (0, 0, false) })) := by
  refine runs_of Tryd.func26 (by kernel_rfl) rfl rfl ?_
  refine WC.seq (WC.region ?_)
  refine WL.allocH H (.x 0) rfl rfl rfl rfl rfl (z := .agg #[.int .i64 0, .int .i64 0, .bool false]) (by kernel_rfl) ?_
  intro w1 H1
  refine WL.nil ?_
  have K0 : Hp w B w1 (upd (lay { S with edges := S.edges }) (.x 0) (.var w.heap.size (e3c (0, 0, false)))) := H1
  generalize hlb : w.heap.size = lb at K0 ⊢
  refine WC.block (WC.loop (fun m F W => ∃ (z : Nat) (es : List E3) (last : E3), z < Ln ∧ es.length = Ln ∧ r z ≤ m ∧ (∀ y e, r y ≤ r z → es[y]? = some e → e.2.2 = true → ∃ t : Nat, e.1 = (t : Int) ∧ t < Ln ∧ r t < r y) ∧ turnL (m + 1) es z last = turnL (k + 1) S.edges a (0, 0, false) ∧ At F [(0, .pointer (some ⟨S.gb, 0, none⟩)), (1, .int .i64 (z : Int)), (4, .pointer (some ⟨lb, 0, none⟩))] ∧ Hp w B W (upd (lay { S with edges := es }) (.x 0) (.var lb (e3c last)))) (m := k) ⟨a, S.edges, (0, 0, false), ha, hfo.1, hk a ha, fun y e _ h1 h2 => ?_, rfl, ⟨rfl, rfl, rfl, trivial⟩, K0⟩ ?_)
  · obtain ⟨t, t1, t2, _, t4⟩ := hfo.2 y e h1 h2
    exact ⟨t, t1, t2, t4⟩
  rintro m F W ⟨z, es, last, hz, hel, hrz, hD, hT, hF, H⟩
  obtain ⟨F, rfl⟩ := hF.ex
  have hez : es[z]? = some (es.getD z (0, 0, false)) := by rw [List.getD_eq_getElem?_getD, List.getElem?_eq_getElem (by omega)]; rfl
  generalize hee : es.getD z (0, 0, false) = ed at hez
  refine WC.block (WC.seq (WC.region ?_))
  refine WL.vald rfl rfl rfl (v := (.pointer (some ⟨S.gb, 0, none⟩))) (x_move rfl rfl) ?_
  refine WL.vald rfl rfl rfl (v := (.pointer (some ⟨S.gb, 0, none⟩))) (x_nilc rfl rfl) ?_
  refine WL.vald rfl rfl rfl (v := (.pointer (some ⟨S.gb, 7, none⟩))) (x_field rfl rfl (off := 7) (by kernel_rfl) rfl) ?_
  refine WL.vald rfl rfl rfl (v := (S.h7)) (x_load rfl rfl (by kernel_rfl) (var_cell (H.ok (.g)) rfl)) ?_
  refine WL.vald rfl rfl rfl (v := (.int .i64 ((z : Int)))) (x_move rfl rfl) ?_
  refine WL.vald rfl rfl rfl (v := (.pointer (some (adr (S.h7) (z * 3))))) (x_index (i := z) rfl rfl ((H.row (l := .f 7) rfl)) rfl rfl (by rw [hel]; exact hz)) ?_
  refine WL.vald rfl rfl rfl (v := .agg #[.int .i64 ed.1, .int .i64 ed.2.1, .bool ed.2.2]) (x_loadS rfl rfl (by kernel_rfl) (vs := [.int .i64 ed.1, .int .i64 ed.2.1, .bool ed.2.2]) (by kernel_rfl) (RowOk.cells (H.row (l := .f 7) rfl) (by show 0 < es.length; omega) (fun j u hj => ?_))) ?_
  · have hj3 : j < 3 := (List.getElem?_eq_some_iff.1 hj).1
    exact (e3_at hez j hj3).trans hj
  refine WL.allocH H (.x 1) rfl rfl rfl rfl rfl (z := .agg #[.int .i64 0, .int .i64 0, .bool false]) (by kernel_rfl) ?_
  intro w2 H2
  refine WL.storeVH H2 (l := .x 1) rfl rfl rfl rfl (k := 0) rfl (ys := [(.int .i64 (ed.1)), (.int .i64 (ed.2.1)), (.bool (ed.2.2))]) rfl (by kernel_rfl) (Nat.le_of_ble_eq_true rfl) (one_cons rfl (one_cons rfl (one_cons rfl one_nil))) ?_
  intro w3 H3
  refine WL.nil (WC.seq (WC.anyT 7 (fun u => u = w3.drew) mixedP (by kernel_rfl) ?_))
  have Hd := H3.drew
  refine WT.take (i := 0) (by kernel_rfl) rfl rfl rfl rfl (by kernel_rfl) (by kernel_rfl) (by kernel_rfl) (fun c f w h => noPanic h) (v := (.pointer (some ⟨S.gb, 0, none⟩))) (fun u hu => by subst hu; exact x_move rfl rfl) rfl ?_
  refine WT.take (i := 1) (by kernel_rfl) rfl rfl rfl rfl (by kernel_rfl) (by kernel_rfl) (by kernel_rfl) (fun c f w h => noPanic h) (v := (.pointer (some ⟨S.gb, 0, none⟩))) (fun u hu => by subst hu; exact x_nilc rfl rfl) rfl ?_
  refine WT.take (i := 2) (by kernel_rfl) rfl rfl rfl rfl (by kernel_rfl) (by kernel_rfl) (by kernel_rfl) (fun c f w h => noPanic h) (v := (.pointer (some ⟨S.gb, 7, none⟩))) (fun u hu => by subst hu; exact x_field rfl rfl (off := 7) (by kernel_rfl) rfl) rfl ?_
  refine WT.take (i := 3) (by kernel_rfl) rfl rfl rfl rfl (by kernel_rfl) (by kernel_rfl) (by kernel_rfl) (fun c f w h => noPanic h) (v := (S.h7)) (fun u hu => by subst hu; exact x_load rfl rfl (by kernel_rfl) (var_cell (Hd.ok (.g)) rfl)) rfl ?_
  refine WT.take (i := 4) (by kernel_rfl) rfl rfl rfl rfl (by kernel_rfl) (by kernel_rfl) (by kernel_rfl) (fun c f w h => noPanic h) (v := (.int .i64 ((z : Int)))) (fun u hu => by subst hu; exact x_move rfl rfl) rfl ?_
  refine WT.take (i := 5) (by kernel_rfl) rfl rfl rfl rfl (by kernel_rfl) (by kernel_rfl) (by kernel_rfl) (fun c f w h => noPanic h) (v := (.agg #[(.int .i64 (last.1)), (.int .i64 (last.2.1)), (.bool (last.2.2))])) (fun u hu => by subst hu; exact x_loadS rfl rfl (by kernel_rfl) (vs := e3c last) (by kernel_rfl) (var_cells (Hd.ok (.x 0)))) rfl ?_
  refine WT.take (i := 6) (by kernel_rfl) rfl rfl rfl rfl (by kernel_rfl) (by kernel_rfl) (by kernel_rfl) (fun c f w h => noPanic h) (v := (.pointer (some (adr (S.h7) (z * 3))))) (fun u hu => by subst hu; exact x_index (i := z) rfl rfl ((Hd.row (l := .f 7) rfl)) rfl rfl (by rw [hel]; exact hz)) rfl ?_
  refine WT.tail (by kernel_rfl) ?_
  refine WL.storeH Hd (l := .f 7) rfl rfl rfl rfl (k := z * 3) rfl (ys := e3c last) rfl (by kernel_rfl) (by show z * 3 + 3 ≤ es.length * 3; omega) e3c_one (Nat.le_of_ble_eq_true rfl) ?_
  intro w3 H3
  refine WL.nil ?_
  have hset := flat_set (c := e3c) (k := 3) (fun _ => rfl) es z last (by omega)
  have H3 := H3.eq (L' := upd (upd (lay { S with edges := es.set z last }) (.x 0) (.var lb (e3c last))) (.x 1) (.var W.heap.size (e3c ed))) (loc_cases rfl rfl rfl rfl rfl rfl rfl rfl (by show Ch.row _ _ _ _ = Ch.row _ _ _ _; rw [List.length_set]; congr 1; exact hset.symm) (fun _ => rfl) (fun _ => rfl) (fun _ => rfl) (fun _ => rfl) rfl rfl rfl rfl (fun _ => rfl) rfl)
  refine WC.seq (WC.seq (WC.region ?_))
  refine WL.vald rfl rfl rfl (v := (.pointer (some ⟨W.heap.size, 2, none⟩))) (x_field rfl rfl (off := 2) (by kernel_rfl) rfl) ?_
  refine WL.vald rfl rfl rfl (v := (.bool (ed.2.2))) (x_load rfl rfl (by kernel_rfl) (var_cell (H3.ok (.x 1)) rfl)) ?_
  refine WL.vald rfl rfl rfl (v := (.bool (!(ed.2.2)))) (x_not rfl rfl) ?_
  refine WL.nil ?_
  refine WC.cond (t := !ed.2.2) rfl (fun hb => ?_) (fun hb => ?_)
  · have hb : ed.2.2 = false := by simpa using hb
    refine WC.ret ⟨.inr rfl, [], rfl, ?_⟩
    have hT1 : turnL (m + 1) es z last = es.set z last := by unfold turnL; rw [hee, hb]; rfl
    rw [← hT, hT1]
    exact ((H3.drop (.x 1)).drop (.x 0)).eq (loc_cases rfl rfl rfl rfl rfl rfl rfl rfl rfl (fun _ => rfl) (fun _ => rfl) (fun _ => rfl) (fun _ => rfl) rfl rfl rfl rfl (fun _ => rfl) rfl)
  · have hb : ed.2.2 = true := by simpa using hb
    obtain ⟨t, t1, t2, t3⟩ := hD z ed (Nat.le_refl _) hez hb
    refine WC.skip (WC.seq (WC.region ?_))
    refine WL.vald rfl rfl rfl (v := (.int .i64 ((z : Int)))) (x_move rfl rfl) ?_
    refine WL.vald rfl rfl rfl (v := (.pointer (some ⟨W.heap.size, 1, none⟩))) (x_field rfl rfl (off := 1) (by kernel_rfl) rfl) ?_
    refine WL.vald rfl rfl rfl (v := (.int .i64 (ed.2.1))) (x_load rfl rfl (by kernel_rfl) (var_cell (H3.ok (.x 1)) rfl)) ?_
    refine WL.vald rfl rfl rfl (v := (.agg #[(.int .i64 ((z : Int))), (.int .i64 (ed.2.1)), (.bool (true))])) (x_build rfl (by kernel_rfl)) ?_
    refine WL.storeVH H3 (l := .x 0) rfl rfl rfl rfl (k := 0) rfl (ys := e3c ((z : Int), ed.2.1, true)) rfl (by kernel_rfl) (Nat.le_of_ble_eq_true rfl) e3c_one ?_
    intro w4 H4
    refine WL.nil (WC.region ?_)
    have H4 := H4.eq (L' := upd (upd (lay { S with edges := es.set z last }) (.x 0) (.var lb (e3c ((z : Int), ed.2.1, true)))) (.x 1) (.var W.heap.size (e3c ed))) (loc_cases rfl rfl rfl rfl rfl rfl rfl rfl rfl (fun _ => rfl) (fun _ => rfl) (fun _ => rfl) (fun _ => rfl) rfl rfl rfl rfl (fun _ => rfl) rfl)
    refine WL.vald rfl rfl rfl (v := (.pointer (some ⟨W.heap.size, 0, none⟩))) (x_field rfl rfl (off := 0) (by kernel_rfl) rfl) ?_
    refine WL.vald rfl rfl rfl (v := (.int .i64 (ed.1))) (x_load rfl rfl (by kernel_rfl) (var_cell (H4.ok (.x 1)) rfl)) ?_
    refine WL.vald rfl rfl rfl (v := (.int .i64 (ed.1))) (x_assign rfl rfl) ?_
    refine WL.nil ⟨m - 1, by omega, t, es.set z last, ((z : Int), ed.2.1, true), t2, by rw [List.length_set]; exact hel, by omega, fun y e hy he hs => ?_, ?_, ⟨rfl, by show Value.int .i64 ed.1 = _; rw [t1], rfl, trivial⟩, (H4.drop (.x 1)).eq (loc_cases rfl rfl rfl rfl rfl rfl rfl rfl rfl (fun _ => rfl) (fun _ => rfl) (fun _ => rfl) (fun _ => rfl) rfl rfl rfl rfl (fun _ => rfl) rfl)⟩
    · rw [List.getElem?_set_ne (fun hzy => by subst hzy; omega)] at he
      exact hD y e (by omega) he hs
    · rw [← hT, show m - 1 + 1 = m by omega]
      conv => rhs; unfold turnL
      rw [hee, hb, cond_true, t1, Int.toNat_natCast]
end Go.Gr
end
section
/- Walking by exact values: the chain's terms as they are written; small words. -/
namespace Go.Gr
open Go.Abs (WTo tyAt ty_slice T_ok aggB Runs)
open Go.Proofs
open Go.Euf (E3 Par)
section
variable {w : World} {ρ : Operand → Value} {o : Oper}
theorem x_arithb {op : BinOp} {ty ty' : Nat} {x y : Operand} (ho : o.op = .binOp op ty x y ty') {a b : Int} (h1 : ρ x = .int .i64 a) (h2 : ρ y = .int .i64 b) {r z : Bool} (hb : Abs.arith op .i64 a b = some (true, .bool r)) (hz : r = z) : (execOp ρ o).run P w = .ok (.value (.bool z)) w := by
  rw [← hz]; exact x_arith ho h1 h2 hb
theorem x_lookS {x y : Operand} (ho : o.op = .lookup 48 x y true) {b : Nat} {l : Abs.SMap} (hm : Abs.KV w b l) (hx : ρ x = .map (some b)) {s : ByteArray} (hy : ρ y = .string s) (hs : s.size ≤ maxLen) {k : Int} (hk : Abs.look l s = some k) : (execOp ρ o).run P w = .ok (.value (.tuple #[.int .i64 k, .bool true])) w := by
  rw [x_lookup ho hm hx hy hs, hk]; rfl
theorem x_lookN {x y : Operand} (ho : o.op = .lookup 48 x y true) {b : Nat} {l : Abs.SMap} (hm : Abs.KV w b l) (hx : ρ x = .map (some b)) {s : ByteArray} (hy : ρ y = .string s) (hs : s.size ≤ maxLen) (hk : Abs.look l s = none) : (execOp ρ o).run P w = .ok (.value (.tuple #[.int .i64 0, .bool false])) w := by
  rw [x_lookup ho hm hx hy hs, hk]; rfl
end
theorem RowOk.one {w : World} {v : Value} {n sz : Nat} {xs : List Value} (h : RowOk w v n sz xs) : v.oneCell' = true := by
  obtain ⟨A, c, rfl⟩ := h.len; rfl
/-- The functions' names. -/
abbrev fF : ByteArray := ⟨#[102]⟩
abbrev fA : ByteArray := ⟨#[97]⟩
def KS (r : Nat) : ByteArray := keyS fF [(r : Int)]
def decVal (l : List UInt8) : Nat := l.foldl (fun a d => a * 10 + (d.toNat - 48)) 0
theorem decVal_digits : ∀ u : Nat, decVal (Lib.decDigits u) = u := by
  intro u
  induction u using Nat.strongRecOn with
  | _ u ih =>
    have one : ∀ k, k < 10 → (UInt8.ofNat (48 + k)).toNat - 48 = k := fun k hk => by
      rw [UInt8.toNat_ofNat']
      omega
    unfold Lib.decDigits
    split
    · rename_i h
      show 0 * 10 + ((UInt8.ofNat (48 + u)).toNat - 48) = u
      rw [one u h]; omega
    · rename_i h
      unfold decVal
      rw [List.foldl_append]
      have h1 := ih (u / 10) (by omega)
      unfold decVal at h1
      rw [h1]
      show u / 10 * 10 + ((UInt8.ofNat (48 + u % 10)).toNat - 48) = u
      rw [one _ (Nat.mod_lt _ (by omega))]
      omega
theorem itoaB_inj {a b : Nat} (h : itoaB (a : Int) = itoaB (b : Int)) : a = b := by
  unfold itoaB Lib.itoa at h
  rw [if_neg (by omega), if_neg (by omega), Int.toNat_natCast, Int.toNat_natCast] at h
  injection h with h
  have h := congrArg Array.toList h
  simp only at h
  rw [← decVal_digits a, ← decVal_digits b, h]
theorem ba_right {a b c : ByteArray} (h : a ++ b = a ++ c) : b = c := by
  have h := congrArg (fun x : ByteArray => x.data.toList) h
  simp only [ByteArray.data_append, Array.toList_append] at h
  have h := List.append_cancel_left h
  cases b with
  | mk b => cases c with
    | mk c => simp only at h; rw [Array.ext' h]
theorem KS_inj {a b : Nat} (h : KS a = KS b) : a = b := by
  have h : ((itoaB fF.size ++ ⟨#[58]⟩) ++ fF) ++ ((⟨#[44]⟩ : ByteArray) ++ itoaB (a : Int)) = ((itoaB fF.size ++ ⟨#[58]⟩) ++ fF) ++ ((⟨#[44]⟩ : ByteArray) ++ itoaB (b : Int)) := h
  exact itoaB_inj (ba_right (ba_right h))
theorem KS_size (r : Nat) (hr : r ≤ 1000000) : (KS r).size ≤ 400 := keyS_size fF (by decide) _ (by simp) (fun a ha => by obtain rfl := List.mem_singleton.1 ha; omega)
/-- The signatures' table, by the roots. -/
def Sgn (m : Abs.SMap) (sg : Nat → Option Nat) : Prop := ∀ r, Abs.look m (KS r) = (sg r).map fun n : Nat => (n : Int)
theorem Sgn.put {m : Abs.SMap} {sg : Nat → Option Nat} (h : Sgn m sg) (r u : Nat) : Sgn ((KS r, (u : Int)) :: m) (Euf.put sg r u) := by
  intro z
  unfold Abs.look Euf.put
  by_cases hz : z = r
  · subst hz
    rw [if_pos rfl, decide_eq_true rfl]; rfl
  · rw [if_neg hz, decide_eq_false (fun he => hz (KS_inj he).symm), cond_false]
    exact h z
theorem Sgn.same {m : Abs.SMap} {sg : Nat → Option Nat} (h : Sgn m sg) {r u : Nat} (hu : sg r = some u) : Sgn ((KS r, (u : Int)) :: m) sg := by
  intro z
  unfold Abs.look
  by_cases hz : z = r
  · subst hz
    rw [decide_eq_true rfl, hu]; rfl
  · rw [decide_eq_false (fun he => hz (KS_inj he).symm), cond_false]
    exact h z
/-- The terms behind the first: f of the one before. -/
def Chn (S : GS) (Ln : Nat) : Prop := S.nodes.length = Ln ∧ ∀ u : Nat, u + 1 < Ln → ∃ va, S.nodes[u + 1]? = some (fF, va, [(u : Int)])
def pc (p : Nat × Nat) : List Value := [.int .i64 (p.1 : Int), .int .i64 (p.2 : Int), .int .i64 (-1)]
theorem pc_one {p : Nat × Nat} : ∀ u ∈ pc p, u.oneCell' = true := one_cons rfl (one_cons rfl (one_cons rfl one_nil))
end Go.Gr
end
section
/- Walking by exact values: the terms with an argument of a class that moves. -/
set_option maxRecDepth 10000
namespace Go.Gr
open Go.Abs (WTo tyAt ty_slice T_ok aggB Runs)
open Go.Proofs
open Go.Euf (E3 Par)
theorem wf64 {n : Int} (h : -9223372036854775808 ≤ n ∧ n ≤ 9223372036854775807) : (Lit.int .i64 n).wf = true := by
  simp [Lit.wf, IntKind.min, IntKind.max, IntKind.signed, IntKind.bits, h.1, h.2]
theorem set_two (l : List Value) {y x : Nat} (hy : y < l.length) (hx : x < l.length) (a b : Value) : (l.set y a).set x b = (l.take (y * 1) ++ ([a] ++ l.drop (y * 1 + [a].length))).take (x * 1) ++ ([b] ++ (l.take (y * 1) ++ ([a] ++ l.drop (y * 1 + [a].length))).drop (x * 1 + [b].length)) := by
  have e1 : l.take (y * 1) ++ ([a] ++ l.drop (y * 1 + [a].length)) = l.set y a := map_set1 l y a hy
  rw [e1]
  exact (map_set1 _ x b (by rw [List.length_set]; exact hx)).symm
section
variable {rt : Nat → Nat} {us : List Nat} {sg : Nat → Option Nat} {j o : Nat}
theorem mv_nil : Euf.mv rt [] sg = (sg, []) := rfl
theorem mv_none (h : sg (rt j) = none) : Euf.mv rt ((j + 1) :: us) sg = Euf.mv rt us (Euf.put sg (rt j) (j + 1)) := by
  conv => lhs; unfold Euf.mv
  rw [Nat.add_sub_cancel, h]
theorem mv_self (h : sg (rt j) = some (j + 1)) : Euf.mv rt ((j + 1) :: us) sg = Euf.mv rt us sg := by
  conv => lhs; unfold Euf.mv
  rw [Nat.add_sub_cancel, h]
  exact if_pos rfl
theorem mv_same (h : sg (rt j) = some o) (ho : o ≠ j + 1) (hr : rt o = rt (j + 1)) : Euf.mv rt ((j + 1) :: us) sg = Euf.mv rt us sg := by
  conv => lhs; unfold Euf.mv
  rw [Nat.add_sub_cancel, h]
  simp only
  rw [if_neg ho, if_pos hr]
theorem mv_more (h : sg (rt j) = some o) (ho : o ≠ j + 1) (hr : ¬ rt o = rt (j + 1)) : Euf.mv rt ((j + 1) :: us) sg = ((Euf.mv rt us sg).1, (j + 1, o) :: (Euf.mv rt us sg).2) := by
  conv => lhs; unfold Euf.mv
  rw [Nat.add_sub_cancel, h]
  simp only
  rw [if_neg ho, if_neg hr]
end
theorem put_lt {sg : Nat → Option Nat} {Ln : Nat} (h : ∀ r o, sg r = some o → o < Ln) {r u : Nat} (hu : u < Ln) : ∀ r' o, Euf.put sg r u r' = some o → o < Ln := by
  intro r' o ho
  unfold Euf.put at ho
  split at ho
  · cases ho; exact hu
  · exact h r' o ho
theorem cells_one {x : Value} {k : Nat} (h : x.cells.size = k) : ∀ v ∈ [x], v.cells.size = k := fun v hv => by rw [List.mem_singleton.1 hv]; exact h
theorem cells1 {w : World} {v : Value} {n sz : Nat} {xs : List Value} (h : RowOk w v n sz xs) : v.cells.toList = [v] := by
  obtain ⟨A, c, rfl⟩ := h.len; rfl
theorem runs_moved {w : World} {B : Nat → Prop} {S : GS} (H : Hp w B w (lay S)) {Ln : Nat} {rt : Nat → Nat} {sg : Nat → Option Nat} (hc : Chn S Ln) (hp : Par Ln rt S.par) (hrl : ∀ z, z < Ln → rt z < Ln) (hL : Ln ≤ 1000000) (hs : Sgn S.sg sg) (hsl : ∀ r o, sg r = some o → o < Ln) (hsz : S.sg.length ≤ 1000000000) (ht : TabO S.tb)
    {x y : Nat} {vx vy : Value} {ux : List Nat} {uy : List Int} (hx : S.uses[x]? = some (vx, ux.map fun n : Nat => (n : Int))) (hy : S.uses[y]? = some (vy, uy)) (hxy : x ≠ y) (hux : ∀ u ∈ ux, 1 ≤ u ∧ u < Ln) (hxl : ux.length ≤ 1000000) (hyl : uy.length ≤ 1000000) :
    Runs P 27 [.pointer (some ⟨S.gb, 0, none⟩), .int .i64 (x : Int), .int .i64 (y : Int)] w (fun v w' => ∃ (vy2 : Value) (m2 : Abs.SMap), Sgn m2 (Euf.mv rt ux sg).1 ∧ m2.length ≤ S.sg.length + ux.length ∧ Hp w B w' (upd (lay { S with uses := (S.uses.set y (vy2, uy ++ ux.map fun n : Nat => (n : Int))).set x (.slice none 0 0, []), sg := m2 }) (.x 3) (.row v (Euf.mv rt ux sg).2.length 3 ((Euf.mv rt ux sg).2.flatMap pc)))) := by
  have huxc : lay S (.u x) = .row vx ux.length 1 (ints (ux.map fun n : Nat => (n : Int))) := by show useC S.uses[x]? = _; rw [hx]; show Ch.row _ _ _ _ = _; rw [List.length_map]
  have hxlt := (List.getElem?_eq_some_iff.1 hx).1
  have hylt := (List.getElem?_eq_some_iff.1 hy).1
  have H0 : Hp w B w (upd (lay { S with sg := S.sg }) (.x 3) (.row (.slice none 0 0) 0 3 ([].flatMap pc))) := H.step (.x 3) _ (.refl w _) RowOk.nil (fun b hb => by cases hb)
  refine runs_of Tryd.func27 (by kernel_rfl) rfl rfl ?_
  refine WC.seq (WC.region ?_)
  refine WL.vald rfl rfl rfl (v := (.slice none 0 0)) (x_assign rfl rfl) ?_
  refine WL.nil (WC.seq (WC.region ?_))
  refine WL.vald rfl rfl rfl (v := (.slice none 0 0)) (x_assign rfl rfl) ?_
  refine WL.nil (WC.seq (WC.seq (WC.region ?_)))
  refine WL.vald rfl rfl rfl (v := (.pointer (some ⟨S.gb, 0, none⟩))) (x_move rfl rfl) ?_
  refine WL.vald rfl rfl rfl (v := (.pointer (some ⟨S.gb, 0, none⟩))) (x_nilc rfl rfl) ?_
  refine WL.vald rfl rfl rfl (v := (.pointer (some ⟨S.gb, 5, none⟩))) (x_field rfl rfl (off := 5) (by kernel_rfl) rfl) ?_
  refine WL.vald rfl rfl rfl (v := (S.h5)) (x_load rfl rfl (by kernel_rfl) (var_cell (H0.ok (.g)) rfl)) ?_
  refine WL.vald rfl rfl rfl (v := (.int .i64 ((x : Int)))) (x_move rfl rfl) ?_
  refine WL.vald rfl rfl rfl (v := (.pointer (some (adr (S.h5) (x * 1))))) (x_index (i := x) rfl rfl ((H0.row (l := .f 5) rfl)) rfl rfl (hxlt)) ?_
  refine WL.vald rfl rfl rfl (v := (vx)) (x_load rfl rfl (by kernel_rfl) (RowOk.cell ((H0.row (l := .f 5) rfl)) (fst_at hx))) ?_
  refine WL.vald rfl rfl rfl (v := (.int .i64 (((ux.length : Nat) : Int)))) (x_lenR rfl rfl ((H0.row (l := .u x) huxc)) rfl) ?_
  refine WL.vald rfl rfl rfl (v := (.int .i64 (0))) (x_move rfl rfl) ?_
  refine WL.nil ?_
  refine WC.block (WC.loop (fun m F W => ∃ (i : Nat) (sgi : Nat → Option Nat) (outp : List (Nat × Nat)) (mi : Abs.SMap) (ov : Value), m = ux.length - i ∧ i ≤ ux.length ∧ (Euf.mv rt ux sg).1 = (Euf.mv rt (ux.drop i) sgi).1 ∧ (Euf.mv rt ux sg).2 = outp ++ (Euf.mv rt (ux.drop i) sgi).2 ∧ Sgn mi sgi ∧ (∀ r o, sgi r = some o → o < Ln) ∧ mi.length ≤ S.sg.length + i ∧ outp.length ≤ i ∧ At F [(0, .pointer (some ⟨S.gb, 0, none⟩)), (1, .int .i64 (x : Int)), (2, .int .i64 (y : Int)), (7, ov), (19, vx), (20, .int .i64 ((ux.length : Nat) : Int)), (21, .int .i64 (i : Int))] ∧ Hp w B W (upd (lay { S with sg := mi }) (.x 3) (.row ov outp.length 3 (outp.flatMap pc)))) (m := ux.length) ⟨0, sg, [], S.sg, .slice none 0 0, rfl, Nat.zero_le _, rfl, rfl, hs, hsl, Nat.le_refl _, Nat.le_refl _, ⟨rfl, rfl, rfl, rfl, rfl, rfl, rfl, trivial⟩, H0⟩ ?_)
  rintro m F W ⟨i, sgi, outp, mi, ov, rfl, hi, hm1, hm2, hsi, hso, hml, hol, hF, H⟩
  obtain ⟨F, rfl⟩ := hF.ex
  refine WC.seq (WC.region ?_)
  refine WL.vald rfl rfl rfl (v := (.bool (decide ((i : Int) < ((ux.length : Nat) : Int))))) (x_arith rfl rfl rfl (av := .bool (decide ((i : Int) < ((ux.length : Nat) : Int)))) rfl) ?_
  refine WL.nil (WC.seq ?_)
  refine WC.cond (t := decide ((i : Int) < ((ux.length : Nat) : Int))) rfl (fun hlt => ?_) (fun hlt => ?_)
  · have hlt : i < ux.length := by simpa using hlt
    obtain ⟨j, hj⟩ : ∃ j, ux[i]? = some (j + 1) := ⟨ux[i] - 1, by rw [List.getElem?_eq_getElem hlt]; have := (hux _ (List.getElem_mem hlt)).1; congr 1; omega⟩
    have hjL := (hux _ (List.mem_of_getElem? hj)).2
    have hdrop : ux.drop i = (j + 1) :: ux.drop (i + 1) := by rw [← List.getElem_cons_drop hlt]; congr 1; rw [List.getElem?_eq_getElem hlt] at hj; exact Option.some.inj hj
    obtain ⟨va, hn⟩ := hc.2 j hjL
    have hna : lay S (.a (j + 1)) = .row va 1 1 (ints [(j : Int)]) := by show argC S.nodes[j + 1]? = _; rw [hn]; rfl
    rw [hdrop] at hm1 hm2
    refine WC.skip (WC.seq (WC.block (WC.seq (WC.region ?_))))
    refine WL.vald rfl rfl rfl (v := (.pointer (some (adr (vx) (i * 1))))) (x_index (i := i) rfl rfl ((H.row (l := .u x) huxc)) rfl rfl (hlt)) ?_
    refine WL.vald rfl rfl rfl (v := (.int .i64 (((j + 1 : Nat) : Int)))) (x_load rfl rfl (by kernel_rfl) (RowOk.cell ((H.row (l := .u x) huxc)) (ints_at (by rw [List.getElem?_map, hj]; rfl)))) ?_
    refine WL.vald rfl rfl rfl (v := (.int .i64 (((j + 1 : Nat) : Int)))) (x_assign rfl rfl) ?_
    refine WL.nil (WC.seq (WC.region ?_))
    refine WL.vald rfl rfl rfl (v := (.pointer (some ⟨S.gb, 0, none⟩))) (x_move rfl rfl) ?_
    refine WL.vald rfl rfl rfl (v := (.int .i64 (((j + 1 : Nat) : Int)))) (x_move rfl rfl) ?_
    refine WL.calld rfl rfl rfl rfl rfl (runs_sigB (S := S) (H.ok .g) (H.row (l := .f 0) rfl) hn (H.row (l := .a (j + 1)) hna) (H.row (l := .a (j + 1)) hna).one (by decide) (H.row (l := .f 3) rfl) hp (by omega) (by have := hrl j (by omega); omega) (ht _ (H.ok .t))) ?_
    rintro _ w5 ⟨rfl, s5⟩
    have H5 := H.grow s5
    refine WL.vald rfl rfl rfl (v := (.string (KS (rt j)))) (x_assign rfl rfl) ?_
    refine WL.nil ?_
    have hks := KS_size (rt j) (by have := hrl j (by omega); omega)
    rcases hsg : sgi (rt j) with _ | o
    · have hlk : Abs.look mi (KS (rt j)) = none := by rw [hsi, hsg]; rfl
      rw [mv_none hsg] at hm1 hm2
      refine WC.seq (WC.region ?_)
      refine WL.vald rfl rfl rfl (v := (.pointer (some ⟨S.gb, 0, none⟩))) (x_move rfl rfl) ?_
      refine WL.vald rfl rfl rfl (v := (.pointer (some ⟨S.gb, 0, none⟩))) (x_nilc rfl rfl) ?_
      refine WL.vald rfl rfl rfl (v := (.pointer (some ⟨S.gb, 6, none⟩))) (x_field rfl rfl (off := 6) (by kernel_rfl) rfl) ?_
      refine WL.vald rfl rfl rfl (v := (.map (some (S.b6)))) (x_load rfl rfl (by kernel_rfl) (var_cell (H5.ok (.g)) rfl)) ?_
      refine WL.vald rfl rfl rfl (v := (.string (KS (rt j)))) (x_move rfl rfl) ?_
      refine WL.vald rfl rfl rfl (v := (.tuple #[(.int .i64 (0)), (.bool (false))])) (x_lookN rfl (H5.map (l := .f 6) rfl) rfl rfl (by simp only [maxLen]; omega) hlk) ?_
      refine WL.vald rfl rfl rfl (v := (.tuple #[(.int .i64 (0)), (.bool (false))])) (x_move rfl rfl) ?_
      refine WL.vald rfl rfl rfl (v := (.int .i64 (0))) (x_extract rfl rfl rfl) ?_
      refine WL.vald rfl rfl rfl (v := (.bool (false))) (x_extract rfl rfl rfl) ?_
      refine WL.vald rfl rfl rfl (v := (.int .i64 (0))) (x_assign rfl rfl) ?_
      refine WL.vald rfl rfl rfl (v := (.bool (false))) (x_assign rfl rfl) ?_
      refine WL.nil (WC.seq (WC.region ?_))
      refine WL.vald rfl rfl rfl (v := (.bool (false))) (x_move rfl rfl) ?_
      refine WL.vald rfl rfl rfl (v := (.bool (false))) (x_move rfl rfl) ?_
      refine WL.gskipd rfl rfl rfl rfl rfl rfl ?_
      refine WL.gskipd rfl rfl rfl rfl rfl rfl ?_
      refine WL.gskipd rfl rfl rfl rfl rfl rfl ?_
      refine WL.vald rfl rfl rfl (v := (.bool (false))) (x_pick rfl rfl rfl) ?_
      refine WL.nil (WC.condF rfl (WC.region ?_))
      refine WL.vald rfl rfl rfl (v := (.pointer (some ⟨S.gb, 0, none⟩))) (x_move rfl rfl) ?_
      refine WL.vald rfl rfl rfl (v := (.pointer (some ⟨S.gb, 0, none⟩))) (x_nilc rfl rfl) ?_
      refine WL.vald rfl rfl rfl (v := (.pointer (some ⟨S.gb, 6, none⟩))) (x_field rfl rfl (off := 6) (by kernel_rfl) rfl) ?_
      refine WL.vald rfl rfl rfl (v := (.map (some (S.b6)))) (x_load rfl rfl (by kernel_rfl) (var_cell (H5.ok (.g)) rfl)) ?_
      refine WL.vald rfl rfl rfl (v := (.string (KS (rt j)))) (x_move rfl rfl) ?_
      refine WL.vald rfl rfl rfl (v := (.int .i64 (((j + 1 : Nat) : Int)))) (x_move rfl rfl) ?_
      refine WL.mapPutH H5 (l := .f 6) rfl rfl rfl rfl rfl rfl rfl (by simp only [maxLen]; omega) (by simp only [maxLen]; omega) (wf64 (by omega)) ?_
      intro w6 H6
      refine WL.nil (WC.region ?_)
      have H6 := H6.eq (L' := upd (lay { S with sg := (KS (rt j), ((j + 1 : Nat) : Int)) :: mi }) (.x 3) (.row ov outp.length 3 (outp.flatMap pc))) (loc_cases rfl rfl rfl rfl rfl rfl rfl rfl rfl (fun _ => rfl) (fun _ => rfl) (fun _ => rfl) (fun _ => rfl) rfl rfl rfl rfl (fun _ => rfl) rfl)
      refine WL.vald rfl rfl rfl (v := (.int .i64 (((i + 1 : Nat) : Int)))) (x_arithw (z := ((i + 1 : Nat) : Int)) rfl rfl rfl rfl ((Abs.w64 (by omega) (by omega)).trans (by omega))) ?_
      refine WL.vald rfl rfl rfl (v := (.int .i64 (((i + 1 : Nat) : Int)))) (x_move rfl rfl) ?_
      exact WL.nil ⟨ux.length - (i + 1), by omega, i + 1, Euf.put sgi (rt j) (j + 1), outp, (KS (rt j), ((j + 1 : Nat) : Int)) :: mi, ov, rfl, hlt, hm1, hm2, hsi.put _ _, put_lt hso (by omega), by rw [List.length_cons]; omega, by omega, ⟨rfl, rfl, rfl, rfl, rfl, rfl, rfl, trivial⟩, H6⟩
    · have hlk : Abs.look mi (KS (rt j)) = some (o : Int) := by rw [hsi, hsg]; rfl
      have hoL := hso _ _ hsg
      refine WC.seq (WC.region ?_)
      refine WL.vald rfl rfl rfl (v := (.pointer (some ⟨S.gb, 0, none⟩))) (x_move rfl rfl) ?_
      refine WL.vald rfl rfl rfl (v := (.pointer (some ⟨S.gb, 0, none⟩))) (x_nilc rfl rfl) ?_
      refine WL.vald rfl rfl rfl (v := (.pointer (some ⟨S.gb, 6, none⟩))) (x_field rfl rfl (off := 6) (by kernel_rfl) rfl) ?_
      refine WL.vald rfl rfl rfl (v := (.map (some (S.b6)))) (x_load rfl rfl (by kernel_rfl) (var_cell (H5.ok (.g)) rfl)) ?_
      refine WL.vald rfl rfl rfl (v := (.string (KS (rt j)))) (x_move rfl rfl) ?_
      refine WL.vald rfl rfl rfl (v := (.tuple #[(.int .i64 ((o : Int))), (.bool (true))])) (x_lookS rfl (H5.map (l := .f 6) rfl) rfl rfl (by simp only [maxLen]; omega) hlk) ?_
      refine WL.vald rfl rfl rfl (v := (.tuple #[(.int .i64 ((o : Int))), (.bool (true))])) (x_move rfl rfl) ?_
      refine WL.vald rfl rfl rfl (v := (.int .i64 ((o : Int)))) (x_extract rfl rfl rfl) ?_
      refine WL.vald rfl rfl rfl (v := (.bool (true))) (x_extract rfl rfl rfl) ?_
      refine WL.vald rfl rfl rfl (v := (.int .i64 ((o : Int)))) (x_assign rfl rfl) ?_
      refine WL.vald rfl rfl rfl (v := (.bool (true))) (x_assign rfl rfl) ?_
      refine WL.nil (WC.seq (WC.region ?_))
      by_cases hoj : o = j + 1
      · rw [mv_self (hsg.trans (congrArg some hoj))] at hm1 hm2
        refine WL.vald rfl rfl rfl (v := (.bool (true))) (x_move rfl rfl) ?_
        refine WL.vald rfl rfl rfl (v := (.bool (true))) (x_move rfl rfl) ?_
        refine WL.gvald rfl rfl rfl rfl rfl rfl (v := (.int .i64 ((o : Int)))) (x_move rfl rfl) ?_
        refine WL.gvald rfl rfl rfl rfl rfl rfl (v := (.int .i64 (((j + 1 : Nat) : Int)))) (x_move rfl rfl) ?_
        refine WL.gvald rfl rfl rfl rfl rfl rfl (v := (.bool (false))) (x_arithb (z := false) rfl rfl rfl rfl (by rw [hoj]; simp)) ?_
        refine WL.vald rfl rfl rfl (v := (.bool (false))) (x_pick rfl rfl rfl) ?_
        refine WL.nil (WC.condF rfl (WC.region ?_))
        refine WL.vald rfl rfl rfl (v := (.pointer (some ⟨S.gb, 0, none⟩))) (x_move rfl rfl) ?_
        refine WL.vald rfl rfl rfl (v := (.pointer (some ⟨S.gb, 0, none⟩))) (x_nilc rfl rfl) ?_
        refine WL.vald rfl rfl rfl (v := (.pointer (some ⟨S.gb, 6, none⟩))) (x_field rfl rfl (off := 6) (by kernel_rfl) rfl) ?_
        refine WL.vald rfl rfl rfl (v := (.map (some (S.b6)))) (x_load rfl rfl (by kernel_rfl) (var_cell (H5.ok (.g)) rfl)) ?_
        refine WL.vald rfl rfl rfl (v := (.string (KS (rt j)))) (x_move rfl rfl) ?_
        refine WL.vald rfl rfl rfl (v := (.int .i64 (((j + 1 : Nat) : Int)))) (x_move rfl rfl) ?_
        refine WL.mapPutH H5 (l := .f 6) rfl rfl rfl rfl rfl rfl rfl (by simp only [maxLen]; omega) (by simp only [maxLen]; omega) (wf64 (by omega)) ?_
        intro w6 H6
        refine WL.nil (WC.region ?_)
        have H6 := H6.eq (L' := upd (lay { S with sg := (KS (rt j), ((j + 1 : Nat) : Int)) :: mi }) (.x 3) (.row ov outp.length 3 (outp.flatMap pc))) (loc_cases rfl rfl rfl rfl rfl rfl rfl rfl rfl (fun _ => rfl) (fun _ => rfl) (fun _ => rfl) (fun _ => rfl) rfl rfl rfl rfl (fun _ => rfl) rfl)
        refine WL.vald rfl rfl rfl (v := (.int .i64 (((i + 1 : Nat) : Int)))) (x_arithw (z := ((i + 1 : Nat) : Int)) rfl rfl rfl rfl ((Abs.w64 (by omega) (by omega)).trans (by omega))) ?_
        refine WL.vald rfl rfl rfl (v := (.int .i64 (((i + 1 : Nat) : Int)))) (x_move rfl rfl) ?_
        exact WL.nil ⟨ux.length - (i + 1), by omega, i + 1, sgi, outp, (KS (rt j), ((j + 1 : Nat) : Int)) :: mi, ov, rfl, hlt, hm1, hm2, hsi.same (by rw [hsg, hoj]), hso, by rw [List.length_cons]; omega, by omega, ⟨rfl, rfl, rfl, rfl, rfl, rfl, rfl, trivial⟩, H6⟩
      · skip
        refine WL.vald rfl rfl rfl (v := (.bool (true))) (x_move rfl rfl) ?_
        refine WL.vald rfl rfl rfl (v := (.bool (true))) (x_move rfl rfl) ?_
        refine WL.gvald rfl rfl rfl rfl rfl rfl (v := (.int .i64 ((o : Int)))) (x_move rfl rfl) ?_
        refine WL.gvald rfl rfl rfl rfl rfl rfl (v := (.int .i64 (((j + 1 : Nat) : Int)))) (x_move rfl rfl) ?_
        refine WL.gvald rfl rfl rfl rfl rfl rfl (v := (.bool (true))) (x_arithb (z := true) rfl rfl rfl rfl (by simp only [bne_iff_ne]; omega)) ?_
        refine WL.vald rfl rfl rfl (v := (.bool (true))) (x_pick rfl rfl rfl) ?_
        refine WL.nil (WC.condT rfl (WC.seq (WC.region ?_)))
        by_cases hro : rt o = rt (j + 1)
        · rw [mv_same hsg hoj hro] at hm1 hm2
          refine WL.vald rfl rfl rfl (v := (.pointer (some ⟨S.gb, 0, none⟩))) (x_move rfl rfl) ?_
          refine WL.vald rfl rfl rfl (v := (.int .i64 ((o : Int)))) (x_move rfl rfl) ?_
          refine WL.calld rfl rfl rfl rfl rfl (runs_root (S := S) (H5.ok .g) (H5.row (l := .f 3) rfl) hp (a := o) (hoL)) ?_
          rintro _ _ ⟨rfl, rfl⟩
          refine WL.vald rfl rfl rfl (v := (.pointer (some ⟨S.gb, 0, none⟩))) (x_move rfl rfl) ?_
          refine WL.vald rfl rfl rfl (v := (.int .i64 (((j + 1 : Nat) : Int)))) (x_move rfl rfl) ?_
          refine WL.calld rfl rfl rfl rfl rfl (runs_root (S := S) (H5.ok .g) (H5.row (l := .f 3) rfl) hp (a := j + 1) (hjL)) ?_
          rintro _ _ ⟨rfl, rfl⟩
          refine WL.vald rfl rfl rfl (v := (.bool (false))) (x_arithb (z := false) rfl rfl rfl rfl (by rw [hro]; simp)) ?_
          refine WL.nil (WC.condF rfl (WC.skip (WC.region ?_)))
          refine WL.vald rfl rfl rfl (v := (.int .i64 (((i + 1 : Nat) : Int)))) (x_arithw (z := ((i + 1 : Nat) : Int)) rfl rfl rfl rfl ((Abs.w64 (by omega) (by omega)).trans (by omega))) ?_
          refine WL.vald rfl rfl rfl (v := (.int .i64 (((i + 1 : Nat) : Int)))) (x_move rfl rfl) ?_
          exact WL.nil ⟨ux.length - (i + 1), by omega, i + 1, sgi, outp, mi, ov, rfl, hlt, hm1, hm2, hsi, hso, by omega, by omega, ⟨rfl, rfl, rfl, rfl, rfl, rfl, rfl, trivial⟩, H5⟩
        · rw [mv_more hsg hoj hro] at hm1 hm2
          refine WL.vald rfl rfl rfl (v := (.pointer (some ⟨S.gb, 0, none⟩))) (x_move rfl rfl) ?_
          refine WL.vald rfl rfl rfl (v := (.int .i64 ((o : Int)))) (x_move rfl rfl) ?_
          refine WL.calld rfl rfl rfl rfl rfl (runs_root (S := S) (H5.ok .g) (H5.row (l := .f 3) rfl) hp (a := o) (hoL)) ?_
          rintro _ _ ⟨rfl, rfl⟩
          refine WL.vald rfl rfl rfl (v := (.pointer (some ⟨S.gb, 0, none⟩))) (x_move rfl rfl) ?_
          refine WL.vald rfl rfl rfl (v := (.int .i64 (((j + 1 : Nat) : Int)))) (x_move rfl rfl) ?_
          refine WL.calld rfl rfl rfl rfl rfl (runs_root (S := S) (H5.ok .g) (H5.row (l := .f 3) rfl) hp (a := j + 1) (hjL)) ?_
          rintro _ _ ⟨rfl, rfl⟩
          refine WL.vald rfl rfl rfl (v := (.bool (true))) (x_arithb (z := true) rfl rfl rfl rfl (by simp only [bne_iff_ne, ne_eq]; omega)) ?_
          refine WL.nil (WC.condT rfl (WC.region ?_))
          refine WL.vald rfl rfl rfl (v := (ov)) (x_move rfl rfl) ?_
          refine WL.vald rfl rfl rfl (v := (.int .i64 (((j + 1 : Nat) : Int)))) (x_move rfl rfl) ?_
          refine WL.vald rfl rfl rfl (v := (.int .i64 ((o : Int)))) (x_move rfl rfl) ?_
          refine WL.vald rfl rfl rfl (v := (.agg #[(.int .i64 (((j + 1 : Nat) : Int))), (.int .i64 ((o : Int))), (.int .i64 (-1))])) (x_build rfl (by kernel_rfl)) ?_
          refine WL.litH H5 (.x 1) rfl rfl rfl rfl (t := 66) rfl rfl rfl rfl rfl rfl (xs := pc (j + 1, o)) rfl (cells_one rfl) pc_one ?_
          intro w6 H6
          refine WL.appendH H6 (l := .x 3) rfl rfl rfl rfl (t := 66) rfl rfl rfl rfl rfl ((H6.row (l := .x 1) rfl).src (t := 66) rfl) (by omega) ?_
          intro ov2 w7 H7
          refine WL.vald rfl rfl rfl (v := (ov2)) (x_assign rfl rfl) ?_
          refine WL.nil (WC.region ?_)
          have H8 := (H7.drop (.x 1)).eq (L' := upd (lay { S with sg := mi }) (.x 3) (.row ov2 (outp ++ [(j + 1, o)]).length 3 ((outp ++ [(j + 1, o)]).flatMap pc))) (loc_cases rfl rfl rfl rfl rfl rfl rfl rfl rfl (fun _ => rfl) (fun _ => rfl) (fun _ => rfl) (fun _ => rfl) rfl rfl rfl (by show Ch.row _ _ _ _ = Ch.row _ _ _ _; rw [List.length_append, List.flatMap_append]; rfl) (fun _ => rfl) rfl)
          refine WL.vald rfl rfl rfl (v := (.int .i64 (((i + 1 : Nat) : Int)))) (x_arithw (z := ((i + 1 : Nat) : Int)) rfl rfl rfl rfl ((Abs.w64 (by omega) (by omega)).trans (by omega))) ?_
          refine WL.vald rfl rfl rfl (v := (.int .i64 (((i + 1 : Nat) : Int)))) (x_move rfl rfl) ?_
          exact WL.nil ⟨ux.length - (i + 1), by omega, i + 1, sgi, outp ++ [(j + 1, o)], mi, ov2, rfl, hlt, hm1, by rw [hm2]; simp, hsi, hso, by omega, by rw [List.length_append]; simp; omega, ⟨rfl, rfl, rfl, rfl, rfl, rfl, rfl, trivial⟩, H8⟩
  · have hge : i = ux.length := by have := of_decide_eq_false hlt; omega
    subst hge
    rw [List.drop_of_length_le (Nat.le_refl _)] at hm1 hm2
    rw [mv_nil] at hm1 hm2
    simp only [List.append_nil] at hm1 hm2
    have huyc : lay S (.u y) = .row vy uy.length 1 (ints uy) := by show useC S.uses[y]? = _; rw [hy]; rfl
    have Hd := H.drew
    refine WC.exit (WC.seq (WC.anyT 21 (fun u => (Ch.var S.gb S.flds).ok u ∧ RowOk u S.h5 S.uses.length 1 (S.uses.map (·.1))) mixedP (by kernel_rfl) ?_))
    refine WT.take (i := 0) (by kernel_rfl) rfl rfl rfl rfl (by kernel_rfl) (by kernel_rfl) (by kernel_rfl) (fun c f w h => noPanic h) (v := (.pointer (some ⟨S.gb, 0, none⟩))) (fun u hS => x_move rfl rfl) ⟨Hd.ok .g, Hd.row (l := .f 5) rfl⟩ ?_
    refine WT.take (i := 1) (by kernel_rfl) rfl rfl rfl rfl (by kernel_rfl) (by kernel_rfl) (by kernel_rfl) (fun c f w h => noPanic h) (v := (.pointer (some ⟨S.gb, 0, none⟩))) (fun u hS => x_nilc rfl rfl) ⟨Hd.ok .g, Hd.row (l := .f 5) rfl⟩ ?_
    refine WT.take (i := 2) (by kernel_rfl) rfl rfl rfl rfl (by kernel_rfl) (by kernel_rfl) (by kernel_rfl) (fun c f w h => noPanic h) (v := (.pointer (some ⟨S.gb, 5, none⟩))) (fun u hS => x_field rfl rfl (off := 5) (by kernel_rfl) rfl) ⟨Hd.ok .g, Hd.row (l := .f 5) rfl⟩ ?_
    refine WT.take (i := 3) (by kernel_rfl) rfl rfl rfl rfl (by kernel_rfl) (by kernel_rfl) (by kernel_rfl) (fun c f w h => noPanic h) (v := (S.h5)) (fun u hS => x_load rfl rfl (by kernel_rfl) (var_cell (hS.1) rfl)) ⟨Hd.ok .g, Hd.row (l := .f 5) rfl⟩ ?_
    refine WT.take (i := 4) (by kernel_rfl) rfl rfl rfl rfl (by kernel_rfl) (by kernel_rfl) (by kernel_rfl) (fun c f w h => noPanic h) (v := (.int .i64 ((y : Int)))) (fun u hS => x_move rfl rfl) ⟨Hd.ok .g, Hd.row (l := .f 5) rfl⟩ ?_
    refine WT.take (i := 5) (by kernel_rfl) rfl rfl rfl rfl (by kernel_rfl) (by kernel_rfl) (by kernel_rfl) (fun c f w h => noPanic h) (v := (.pointer (some ⟨S.gb, 0, none⟩))) (fun u hS => x_move rfl rfl) ⟨Hd.ok .g, Hd.row (l := .f 5) rfl⟩ ?_
    refine WT.take (i := 6) (by kernel_rfl) rfl rfl rfl rfl (by kernel_rfl) (by kernel_rfl) (by kernel_rfl) (fun c f w h => noPanic h) (v := (.pointer (some ⟨S.gb, 0, none⟩))) (fun u hS => x_nilc rfl rfl) ⟨Hd.ok .g, Hd.row (l := .f 5) rfl⟩ ?_
    refine WT.take (i := 7) (by kernel_rfl) rfl rfl rfl rfl (by kernel_rfl) (by kernel_rfl) (by kernel_rfl) (fun c f w h => noPanic h) (v := (.pointer (some ⟨S.gb, 5, none⟩))) (fun u hS => x_field rfl rfl (off := 5) (by kernel_rfl) rfl) ⟨Hd.ok .g, Hd.row (l := .f 5) rfl⟩ ?_
    refine WT.take (i := 8) (by kernel_rfl) rfl rfl rfl rfl (by kernel_rfl) (by kernel_rfl) (by kernel_rfl) (fun c f w h => noPanic h) (v := (S.h5)) (fun u hS => x_load rfl rfl (by kernel_rfl) (var_cell (hS.1) rfl)) ⟨Hd.ok .g, Hd.row (l := .f 5) rfl⟩ ?_
    refine WT.take (i := 9) (by kernel_rfl) rfl rfl rfl rfl (by kernel_rfl) (by kernel_rfl) (by kernel_rfl) (fun c f w h => noPanic h) (v := (.int .i64 ((y : Int)))) (fun u hS => x_move rfl rfl) ⟨Hd.ok .g, Hd.row (l := .f 5) rfl⟩ ?_
    refine WT.take (i := 10) (by kernel_rfl) rfl rfl rfl rfl (by kernel_rfl) (by kernel_rfl) (by kernel_rfl) (fun c f w h => noPanic h) (v := (.pointer (some (adr (S.h5) (y * 1))))) (fun u hS => x_index (i := y) rfl rfl (hS.2) rfl rfl (hylt)) ⟨Hd.ok .g, Hd.row (l := .f 5) rfl⟩ ?_
    refine WT.take (i := 11) (by kernel_rfl) rfl rfl rfl rfl (by kernel_rfl) (by kernel_rfl) (by kernel_rfl) (fun c f w h => noPanic h) (v := (vy)) (fun u hS => x_load rfl rfl (by kernel_rfl) (RowOk.cell (hS.2) (fst_at hy))) ⟨Hd.ok .g, Hd.row (l := .f 5) rfl⟩ ?_
    refine WT.take (i := 12) (by kernel_rfl) rfl rfl rfl rfl (by kernel_rfl) (by kernel_rfl) (by kernel_rfl) (fun c f w h => noPanic h) (v := (.pointer (some ⟨S.gb, 0, none⟩))) (fun u hS => x_move rfl rfl) ⟨Hd.ok .g, Hd.row (l := .f 5) rfl⟩ ?_
    refine WT.take (i := 13) (by kernel_rfl) rfl rfl rfl rfl (by kernel_rfl) (by kernel_rfl) (by kernel_rfl) (fun c f w h => noPanic h) (v := (.pointer (some ⟨S.gb, 0, none⟩))) (fun u hS => x_nilc rfl rfl) ⟨Hd.ok .g, Hd.row (l := .f 5) rfl⟩ ?_
    refine WT.take (i := 14) (by kernel_rfl) rfl rfl rfl rfl (by kernel_rfl) (by kernel_rfl) (by kernel_rfl) (fun c f w h => noPanic h) (v := (.pointer (some ⟨S.gb, 5, none⟩))) (fun u hS => x_field rfl rfl (off := 5) (by kernel_rfl) rfl) ⟨Hd.ok .g, Hd.row (l := .f 5) rfl⟩ ?_
    refine WT.take (i := 15) (by kernel_rfl) rfl rfl rfl rfl (by kernel_rfl) (by kernel_rfl) (by kernel_rfl) (fun c f w h => noPanic h) (v := (S.h5)) (fun u hS => x_load rfl rfl (by kernel_rfl) (var_cell (hS.1) rfl)) ⟨Hd.ok .g, Hd.row (l := .f 5) rfl⟩ ?_
    refine WT.take (i := 16) (by kernel_rfl) rfl rfl rfl rfl (by kernel_rfl) (by kernel_rfl) (by kernel_rfl) (fun c f w h => noPanic h) (v := (.int .i64 ((x : Int)))) (fun u hS => x_move rfl rfl) ⟨Hd.ok .g, Hd.row (l := .f 5) rfl⟩ ?_
    refine WT.take (i := 17) (by kernel_rfl) rfl rfl rfl rfl (by kernel_rfl) (by kernel_rfl) (by kernel_rfl) (fun c f w h => noPanic h) (v := (.pointer (some (adr (S.h5) (x * 1))))) (fun u hS => x_index (i := x) rfl rfl (hS.2) rfl rfl (hxlt)) ⟨Hd.ok .g, Hd.row (l := .f 5) rfl⟩ ?_
    refine WT.take (i := 18) (by kernel_rfl) rfl rfl rfl rfl (by kernel_rfl) (by kernel_rfl) (by kernel_rfl) (fun c f w h => noPanic h) (v := (vx)) (fun u hS => x_load rfl rfl (by kernel_rfl) (RowOk.cell (hS.2) (fst_at hx))) ⟨Hd.ok .g, Hd.row (l := .f 5) rfl⟩ ?_
    refine WT.appendH Hd (l := .u y) huyc (i := 19) rfl (by kernel_rfl) rfl rfl rfl rfl (t := 32) rfl rfl rfl rfl rfl ((Hd.row (l := .u x) huxc).src (t := 32) rfl) (by omega) ?_
    intro vy2 w6 H6
    refine ⟨⟨H6.ok .g, H6.row (l := .f 5) rfl⟩, ?_⟩
    refine WT.take (i := 20) (by kernel_rfl) rfl rfl rfl rfl (by kernel_rfl) (by kernel_rfl) (by kernel_rfl) (fun c f w h => noPanic h) (v := (.pointer (some (adr (S.h5) (y * 1))))) (fun u hS => x_index (i := y) rfl rfl (hS.2) rfl rfl (hylt)) ⟨H6.ok .g, H6.row (l := .f 5) rfl⟩ ?_
    refine WT.tail (by kernel_rfl) ?_
    refine WL.storeH H6 (l := .f 5) rfl rfl rfl rfl (k := y * 1) rfl (ys := [vy2]) (cells1 (H6.row (l := .u y) (upd_same _ _ _))) (by kernel_rfl) (by show y * 1 + 1 ≤ S.uses.length * 1; omega) (one_cons (H6.row (l := .u y) (upd_same _ _ _)).one one_nil) (Nat.le_of_ble_eq_true rfl) ?_
    intro w7 H7
    refine WL.nil (WC.seq (WC.region ?_))
    have H8 := H7.step (l := .u x) (.row (.slice none 0 0) 0 1 []) (.refl w7 _) RowOk.nil (fun b hb => by cases hb)
    refine WL.vald rfl rfl rfl (v := (.pointer (some ⟨S.gb, 0, none⟩))) (x_move rfl rfl) ?_
    refine WL.vald rfl rfl rfl (v := (.pointer (some ⟨S.gb, 0, none⟩))) (x_nilc rfl rfl) ?_
    refine WL.vald rfl rfl rfl (v := (.pointer (some ⟨S.gb, 5, none⟩))) (x_field rfl rfl (off := 5) (by kernel_rfl) rfl) ?_
    refine WL.vald rfl rfl rfl (v := (S.h5)) (x_load rfl rfl (by kernel_rfl) (var_cell (H8.ok (.g)) rfl)) ?_
    refine WL.vald rfl rfl rfl (v := (.int .i64 ((x : Int)))) (x_move rfl rfl) ?_
    refine WL.vald rfl rfl rfl (v := (.pointer (some (adr (S.h5) (x * 1))))) (x_index (i := x) rfl rfl ((H8.row (l := .f 5) rfl)) rfl rfl (hxlt)) ?_
    refine WL.storeH H8 (l := .f 5) rfl rfl rfl rfl (k := x * 1) rfl (ys := [.slice none 0 0]) rfl (by kernel_rfl) (by show x * 1 + 1 ≤ S.uses.length * 1; omega) (one_cons rfl one_nil) (Nat.le_of_ble_eq_true rfl) ?_
    intro w9 H9
    refine WL.nil (WC.seq (WC.region ?_))
    refine WL.vald rfl rfl rfl (v := (ov)) (x_move rfl rfl) ?_
    refine WL.vald rfl rfl rfl (v := (ov)) (x_assign rfl rfl) ?_
    refine WL.nil (WC.ret ⟨.inr rfl, [ov], rfl, vy2, mi, by rw [hm1]; exact hsi, hml, ?_⟩)
    rw [hm2]
    refine H9.eq ?_
    refine loc_cases rfl rfl rfl rfl rfl rfl ?_ rfl rfl (fun _ => rfl) (fun _ => rfl) (fun z => ?_) (fun _ => rfl) rfl rfl rfl rfl (fun _ => rfl) rfl
    · show Ch.row _ _ _ _ = Ch.row _ _ _ _
      simp only [List.length_set, List.map_set]
      congr 1
      exact set_two _ (by simpa using hylt) (by simpa using hxlt) _ _
    · show useC ((S.uses.set y (vy2, uy ++ ux.map fun n : Nat => (n : Int))).set x (.slice none 0 0, []))[z]? = _
      by_cases hzx : z = x
      · subst hzx
        rw [List.getElem?_set_self (by rw [List.length_set]; exact hxlt)]
        exact (upd_same _ _ _).symm
      · rw [List.getElem?_set_ne (Ne.symm hzx), upd_ne _ _ (by simp), upd_ne _ _ (by simpa using hzx), upd_ne _ _ (by simp)]
        by_cases hzy : z = y
        · subst hzy
          rw [List.getElem?_set_self hylt, upd_same]
          show Ch.row _ _ _ _ = Ch.row _ _ _ _
          rw [List.length_append, List.length_map]; congr 1; unfold ints; rw [List.map_append]
        · rw [List.getElem?_set_ne (Ne.symm hzy), upd_ne _ _ (by simpa using hzy), upd_ne _ _ (by simp)]
          rfl
end Go.Gr
end
section
/- Walking by exact values: what a graph of a chain is, between the steps of a merge. -/
namespace Go.Gr
open Go.Abs (WTo tyAt ty_slice T_ok aggB Runs)
open Go.Proofs
open Go.Euf (E3 Par Fo Inv Eqv joinR joinU mv turnL)
theorem countP_lt {p q : Nat → Bool} : ∀ {l : List Nat} {x : Nat}, (∀ z ∈ l, q z = true → p z = true) → x ∈ l → p x = true → q x = false → l.countP q < l.countP p
  | [], x, _, h, _, _ => by cases h
  | a :: l, x, hq, h, hp, hn => by
    have le : ∀ {l : List Nat}, (∀ z ∈ l, q z = true → p z = true) → l.countP q ≤ l.countP p := fun {l} h => List.countP_mono_left h
    rw [List.countP_cons, List.countP_cons]
    rcases List.mem_cons.1 h with rfl | h
    · rw [hp, hn]
      have := le (l := l) (fun z hz => hq z (List.mem_cons_of_mem _ hz))
      simp; omega
    · have ih := countP_lt (fun z hz => hq z (List.mem_cons_of_mem _ hz)) h hp hn
      have ha := hq a List.mem_cons_self
      cases hqa : q a with
      | false => simp; omega
      | true => rw [ha hqa]; simp; omega
/-- How many classes there are. -/
def cnt (Ln : Nat) (rt : Nat → Nat) : Nat := (List.range Ln).countP fun z => decide (rt z = z)
theorem cnt_le (Ln : Nat) (rt : Nat → Nat) : cnt Ln rt ≤ Ln := by
  have := List.countP_le_length (p := fun z => decide (rt z = z)) (l := List.range Ln)
  rwa [List.length_range] at this
theorem cnt_join {Ln : Nat} {rt : Nat → Nat} {x y : Nat} (hx : x < Ln ∧ rt x = x) (hy : y < Ln ∧ rt y = y) (hxy : x ≠ y) : cnt Ln (joinR rt x y) + 1 ≤ cnt Ln rt := by
  refine countP_lt (x := x) (fun z hz h => ?_) (List.mem_range.2 hx.1) (decide_eq_true hx.2) (decide_eq_false ?_)
  · have h := of_decide_eq_true h
    unfold joinR at h
    split at h
    · rename_i hz2
      subst h
      exact absurd (hy.2.symm.trans hz2) (Ne.symm hxy)
    · exact decide_eq_true h
  · unfold joinR
    rw [if_pos hx.2]
    exact Ne.symm hxy
theorem nodup_len : ∀ (l m : List Nat), l.Nodup → (∀ a ∈ l, a ∈ m) → l.length ≤ m.length
  | [], m, _, _ => Nat.zero_le _
  | a :: l, m, hn, hs => by
    have ha := hs a List.mem_cons_self
    rw [List.nodup_cons] at hn
    have ih := nodup_len l (m.erase a) hn.2 (fun b hb => (List.mem_erase_of_ne (fun h => hn.1 (by rw [← h]; exact hb))).2 (hs b (List.mem_cons_of_mem _ hb)))
    rw [List.length_erase_of_mem ha] at ih
    have := List.length_pos_of_mem ha
    simp only [List.length_cons]
    omega
theorem sum_set : ∀ (l : List Nat) (i v a : Nat), l[i]? = some a → (l.set i v).sum + a = l.sum + v
  | [], i, v, a, h => by simp at h
  | b :: l, 0, v, a, h => by cases h; simp; omega
  | b :: l, i + 1, v, a, h => by
    have ih := sum_set l i v a (by simpa using h)
    simp only [List.set_cons_succ, List.sum_cons]
    omega
theorem two_le {l : List Nat} {x y a b : Nat} (hx : l[x]? = some a) (hy : l[y]? = some b) (hxy : x ≠ y) : a + b ≤ l.sum := by
  have h1 := sum_set l x 0 a hx
  have h2 := sum_set (l.set x 0) y 0 b (by rw [List.getElem?_set_ne hxy]; exact hy)
  omega
theorem sum_two {l : List Nat} {x y a b : Nat} (hx : l[x]? = some a) (hy : l[y]? = some b) (hxy : x ≠ y) : ((l.set y (b + a)).set x 0).sum = l.sum := by
  have h1 := sum_set l y (b + a) b hy
  have h2 := sum_set (l.set y (b + a)) x 0 a (by rw [List.getElem?_set_ne (Ne.symm hxy)]; exact hx)
  omega
theorem rank_le (r : Nat → Nat) : ∀ n, ∃ k, ∀ z, z < n → r z ≤ k
  | 0 => ⟨0, fun z hz => by omega⟩
  | n + 1 => by
    obtain ⟨k, hk⟩ := rank_le r n
    refine ⟨max k (r n), fun z hz => ?_⟩
    by_cases h : z = n
    · subst h; omega
    · have := hk z (by omega); omega
abbrev toI (l : List Nat) : List Int := l.map fun n : Nat => (n : Int)
structure GI (Ln : Nat) (E : Nat → Nat → Prop) (A : Nat) (S : GS) (rt : Nat → Nat) (us : Nat → List Nat) (sg : Nat → Option Nat) (T : List (Nat × Nat)) : Prop where
  inv : Inv Ln E rt us sg T
  chn : Chn S Ln
  par : Par Ln rt S.par
  fo : ∃ r, Fo Ln rt S.edges r
  cls : S.cls.length = Ln
  sum : (S.cls.map (·.2.1)).sum ≤ Ln
  usl : S.uses.length = Ln
  uses : ∀ z, z < Ln → ∃ v, S.uses[z]? = some (v, toI (us z))
  sgn : Sgn S.sg sg
  big : S.sg.length + (Ln + 1) * cnt Ln rt ≤ A
  tab : TabO S.tb
/-- An equivalence that goes on with congruence. -/
structure Cong (E : Nat → Nat → Prop) : Prop where
  up : ∀ i j, E i j → E (i + 1) (j + 1)
  symm : ∀ i j, E i j → E j i
  trans : ∀ i j k, E i j → E j k → E i k
section
variable {Ln : Nat} {E : Nat → Nat → Prop} {A : Nat} {S : GS} {rt : Nat → Nat} {us : Nat → List Nat} {sg : Nat → Option Nat} {T : List (Nat × Nat)} {a b : Nat}
theorem GI.skip (h : GI Ln E A S rt us sg ((a, b) :: T)) (hab : rt a = rt b) : GI Ln E A S rt us sg T :=
  ⟨h.inv.skip hab, h.chn, h.par, h.fo, h.cls, h.sum, h.usl, h.uses, h.sgn, h.big, h.tab⟩
theorem Eqv.skip {c d : Nat} (h : Eqv rt ((a, b) :: T) c d) (hab : rt a = rt b) : Eqv rt T c d :=
  h.to (fun _ _ h => h) (fun c d hm => by
    rcases List.mem_cons.1 hm with hm | hm
    · cases hm; exact .rt hab
    · exact .pair hm)
theorem joinR_both {x y pa pb : Nat} (hx : x = rt pa) (hy : y = rt pb) (hxy : x ≠ y) : joinR rt x y pa = joinR rt x y pb := by
  unfold joinR
  rw [if_pos hx.symm, if_neg (by rw [← hy]; exact Ne.symm hxy), hy]
theorem Eqv.join {c d x y pa pb : Nat} {M : List (Nat × Nat)} (h : Eqv rt ((a, b) :: T) c d) (hx : x = rt pa) (hy : y = rt pb) (hxy : x ≠ y) (hp : (pa = a ∧ pb = b) ∨ (pa = b ∧ pb = a)) : Eqv (joinR rt x y) (T ++ M) c d :=
  h.to (fun c d h => by unfold joinR; rw [h]) (fun c d hm => by
    rcases List.mem_cons.1 hm with hm | hm
    · cases hm
      have := joinR_both (rt := rt) hx hy hxy
      rcases hp with ⟨rfl, rfl⟩ | ⟨rfl, rfl⟩
      · exact .rt this
      · exact .rt this.symm
    · exact .pair (List.mem_append_left _ hm))
theorem GI.roots (h : GI Ln E A S rt us sg T) {z : Nat} (hz : z < Ln) : rt z < Ln ∧ rt (rt z) = rt z := h.inv.root z hz
theorem GI.us_lt (h : GI Ln E A S rt us sg T) (z : Nat) : ∀ u ∈ us z, 1 ≤ u ∧ u < Ln := fun u hu => ⟨(h.inv.used z u hu).1, (h.inv.used z u hu).2.1⟩
theorem GI.us_len (h : GI Ln E A S rt us sg T) (z : Nat) : (us z).length ≤ Ln := by
  have := nodup_len (us z) (List.range Ln) (h.inv.once z) (fun u hu => List.mem_range.2 (h.us_lt z u hu).2)
  rwa [List.length_range] at this
theorem GI.sg_lt (h : GI Ln E A S rt us sg T) : ∀ r o, sg r = some o → o < Ln := fun r o ho => (h.inv.sign r o ho).2.1
theorem GI.join (hE : Cong E) (h : GI Ln E A S rt us sg ((a, b) :: T)) {x y pa pb : Nat} (hx : x = rt pa) (hy : y = rt pb) (hxy : x ≠ y) (hp : (pa = a ∧ pb = b) ∨ (pa = b ∧ pb = a)) {r : Nat → Nat} (hfo : Fo Ln rt S.edges r) {k : Nat} (hk : ∀ z, z < Ln → r z ≤ k) (why : Int)
    {vcx vcy : Value} {lx ly : Nat} {xx xy : List Value} (hcx : S.cls[x]? = some (vcx, lx, xx)) (hcy : S.cls[y]? = some (vcy, ly, xy)) (vc2 vu2 : Value) {m2 : Abs.SMap} (hm : Sgn m2 (mv (joinR rt x y) (us x) sg).1) (hml : m2.length ≤ S.sg.length + (us x).length) :
    GI Ln E A { S with edges := (turnL (k + 1) S.edges pa (0, 0, false)).set pa ((pb : Int), why, true), par := S.par.set x (y : Int), cls := (S.cls.set y (vc2, ly + lx, xy ++ xx)).set x (.slice none 0 0, 0, []), uses := (S.uses.set y (vu2, toI (us y) ++ toI (us x))).set x (.slice none 0 0, []), sg := m2 } (joinR rt x y) (joinU us x y) (mv (joinR rt x y) (us x) sg).1 (T ++ (mv (joinR rt x y) (us x) sg).2) := by
  obtain ⟨ta, tb, _⟩ := h.inv.todo (a, b) List.mem_cons_self
  have hpaL : pa < Ln := by rcases hp with ⟨rfl, _⟩ | ⟨rfl, _⟩ <;> assumption
  have hpbL : pb < Ln := by rcases hp with ⟨_, rfl⟩ | ⟨_, rfl⟩ <;> assumption
  have rx : x < Ln ∧ rt x = x := by rw [hx]; exact h.roots hpaL
  have ry : y < Ln ∧ rt y = y := by rw [hy]; exact h.roots hpbL
  have hor : (x = rt a ∧ y = rt b) ∨ (x = rt b ∧ y = rt a) := by
    rcases hp with ⟨rfl, rfl⟩ | ⟨rfl, rfl⟩
    · exact .inl ⟨hx, hy⟩
    · exact .inr ⟨hx, hy⟩
  have hc := cnt_join rx ry hxy
  have hul := h.us_len x
  refine ⟨h.inv.join hE.up hE.symm hE.trans hxy hor, h.chn, h.par.join rx ry hxy, Euf.turn_join hfo hpaL hpbL (by rw [← hx, ← hy]; exact hxy) (.inl ⟨hx, hy⟩) k hk why, ?_, ?_, ?_, fun z hz => ?_, hm, ?_, h.tab⟩
  · simp only [List.length_set]; exact h.cls
  · have h1 : (S.cls.map (·.2.1))[x]? = some lx := by rw [List.getElem?_map, hcx]; rfl
    have h2 : (S.cls.map (·.2.1))[y]? = some ly := by rw [List.getElem?_map, hcy]; rfl
    have := sum_two h1 h2 hxy
    simp only [List.map_set]
    rw [this]
    exact h.sum
  · simp only [List.length_set]; exact h.usl
  · show ∃ v, ((S.uses.set y (vu2, toI (us y) ++ toI (us x))).set x (.slice none 0 0, []))[z]? = some (v, toI (joinU us x y z))
    unfold joinU
    by_cases hzx : z = x
    · subst hzx
      rw [if_pos rfl, List.getElem?_set_self (by rw [List.length_set, h.usl]; exact hz)]
      exact ⟨_, rfl⟩
    · rw [if_neg hzx, List.getElem?_set_ne (Ne.symm hzx)]
      by_cases hzy : z = y
      · subst hzy
        rw [if_pos rfl, List.getElem?_set_self (by rw [h.usl]; exact hz)]
        exact ⟨vu2, by rw [toI, toI, toI, List.map_append]⟩
      · rw [if_neg hzy, List.getElem?_set_ne (Ne.symm hzy)]
        exact h.uses z hz
  · show m2.length + (Ln + 1) * cnt Ln (joinR rt x y) ≤ A
    have hb := h.big
    have e1 : (Ln + 1) * (cnt Ln (joinR rt x y) + 1) ≤ (Ln + 1) * cnt Ln rt := Nat.mul_le_mul_left _ hc
    rw [Nat.mul_succ] at e1
    omega
end
end Go.Gr
end
section
/- Walking by exact values: a call's own chunks, inside its caller's. -/
namespace Go.Gr
open Go.Abs (WTo tyAt ty_slice T_ok aggB Runs)
open Go.Proofs
def ownG (S : GS) : Nat → Prop := fun b => ∃ l, (lay S l).blk = some b
def isG3 : Loc → Bool
  | .x 3 => true
  | .x _ => false
  | _ => true
section
variable {w0 w w' : World} {B : Nat → Prop} {L : Loc → Ch} {S S' : GS} {c : Ch}
theorem lay_x (S : GS) {l : Loc} (h : isG l = false) : lay S l = .no := by
  cases l with
  | x i => rfl
  | _ => cases h
theorem isG3_x {l : Loc} (h : isG3 l = false) : isG l = false := by
  cases l with
  | x i => rfl
  | _ => cases h
theorem Hp.begG (H : Hp w0 B w L) (hL : ∀ l, isG l = true → L l = lay S l) : Hp w (ownG S) w (lay S) := by
  refine H.begin isG (fun l => ?_)
  cases h : isG l with
  | true => rw [if_pos rfl, hL l h]
  | false => rw [if_neg (by simp), lay_x S h]
theorem Hp.retG (H : Hp w0 B w L) (hL : ∀ l, isG l = true → L l = lay S l) (K : Hp w (ownG S) w' (lay S')) : Hp w0 B w' (fun l => if isG l = true then lay S' l else L l) := by
  refine H.call (L1 := lay S) isG (fun l => ?_) K (fun l h => lay_x S' h)
  cases h : isG l with
  | true => rw [if_pos rfl, hL l h]
  | false => rw [if_neg (by simp), lay_x S h]
theorem Hp.retG3 (H : Hp w0 B w L) (hL : ∀ l, isG l = true → L l = lay S l) (h3 : L (.x 3) = .no) (K : Hp w (ownG S) w' (upd (lay S') (.x 3) c)) : Hp w0 B w' (fun l => if isG3 l = true then upd (lay S') (.x 3) c l else L l) := by
  refine H.call (L1 := lay S) isG3 (fun l => ?_) K (fun l h => ?_)
  · cases h : isG3 l with
    | true =>
      rw [if_pos rfl]
      cases hg : isG l with
      | true => exact (hL l hg).symm
      | false =>
        have : l = .x 3 := by
          cases l with
          | x i =>
            by_cases hi : i = 3
            · rw [hi]
            · exfalso
              unfold isG3 at h
              split at h
              · rename_i he; injection he with he; exact hi he
              · cases h
              · rename_i h1 h2; exact h2 i rfl
          | _ => cases hg
        subst this
        rw [h3]; rfl
    | false => rw [if_neg (by simp), lay_x S (isG3_x h)]
  · rw [upd_ne _ _ (fun he => by subst he; cases h), lay_x S' (isG3_x h)]
end
/-- Two chunks of one's own beside a graph. -/
abbrev LX (S : GS) (c0 c1 : Ch) : Loc → Ch := upd (upd (lay S) (.x 0) c0) (.x 1) c1
theorem LX_g (S : GS) (c0 c1 : Ch) : ∀ l, isG l = true → LX S c0 c1 l = lay S l := loc_cases (fun _ => rfl) (fun _ => rfl) (fun _ => rfl) (fun _ => rfl) (fun _ => rfl) (fun _ => rfl) (fun _ => rfl) (fun _ => rfl) (fun _ => rfl) (fun _ _ => rfl) (fun _ _ => rfl) (fun _ _ => rfl) (fun _ _ => rfl) (fun h => by cases h) (fun h => by cases h) (fun h => by cases h) (fun h => by cases h) (fun _ h => by cases h) (fun _ => rfl)
abbrev T3 := Nat × Nat × Int
def pw (t : T3) : List Value := [.int .i64 (t.1 : Int), .int .i64 (t.2.1 : Int), .int .i64 t.2.2]
def pr (t : T3) : Nat × Nat := (t.1, t.2.1)
theorem pw_one {t : T3} : ∀ u ∈ pw t, u.oneCell' = true := one_cons rfl (one_cons rfl (one_cons rfl one_nil))
def p3 (p : Nat × Nat) : T3 := (p.1, p.2, -1)
theorem pc_p3 (l : List (Nat × Nat)) : l.flatMap pc = (l.map p3).flatMap pw := by
  rw [List.flatMap_map]; rfl
theorem pr_p3 (l : List (Nat × Nat)) : (l.map p3).map pr = l := by
  rw [List.map_map]
  exact (List.map_congr_left (fun p _ => rfl)).trans (List.map_id l)
section
variable {n : Nat} {Q : QT} {f : Fn} {w : World} {P : Program}
theorem WC.seqM {x y : Code} (M : Fn → World → Prop) (h1 : WC P n x (thenF M Q) f w) (h2 : ∀ f w, M f w → WC P n y Q f w) : WC P n (x.seq y) Q f w :=
  WC.seq (h1.mono (fun e f w h => by
    cases e with
    | normal => exact h2 f w h
    | _ => exact h))
theorem WC.anyk {id : Nat} {ops : Array Oper} (k : Nat) (S : World → Prop) (hm : P.follows .mixedOrders = true) (hk : ops.size = k) (h : WH P n ops Q S k (Array.replicate k false) f w.drew) : WC P n (.region id ops true) Q f w := by
  subst hk
  exact WC.any S hm h
end
end Go.Gr
end
section
/- Walking by exact values: pairs that are the same, and what follows. -/
set_option maxRecDepth 10000
namespace Go.Gr
open Go.Abs (WTo tyAt ty_slice T_ok aggB Runs)
open Go.Proofs
open Go.Euf (E3 Par Fo Inv Eqv joinR joinU mv turnL)
theorem runs_merge {w : World} {B : Nat → Prop} {S0 : GS} {T0 : List T3} {tv0 : Value} (H : Hp w B w (upd (lay S0) (.x 0) (.row tv0 T0.length 3 (T0.flatMap pw)))) {Ln A : Nat} {E : Nat → Nat → Prop} (hE : Cong E) {rt0 : Nat → Nat} {us0 : Nat → List Nat} {sg0 : Nat → Option Nat} (hG : GI Ln E A S0 rt0 us0 sg0 (T0.map pr)) (hL : Ln ≤ 1000) (hA : A ≤ 100000000) (hm0 : T0.length + (Ln + 1) * cnt Ln rt0 ≤ 3000000) :
    Runs P 19 [.pointer (some ⟨S0.gb, 0, none⟩), tv0] w (fun v w' => ∃ (S : GS) (rt : Nat → Nat) (us : Nat → List Nat) (sg : Nat → Option Nat), GI Ln E A S rt us sg [] ∧ (S.gb = S0.gb ∧ S.ne = S0.ne ∧ S.tb = S0.tb) ∧ (∀ c d, Eqv rt0 (T0.map pr) c d → rt c = rt d) ∧ Hp w B w' (lay S)) := by
  refine runs_of Tryd.func19 (by kernel_rfl) rfl rfl ?_
  refine WC.block (WC.loop (fun m F W => ∃ (S : GS) (rt : Nat → Nat) (us : Nat → List Nat) (sg : Nat → Option Nat) (T : List T3) (tv : Value), T.length + (Ln + 1) * cnt Ln rt ≤ m ∧ m ≤ 3000000 ∧ GI Ln E A S rt us sg (T.map pr) ∧ (S.gb = S0.gb ∧ S.ne = S0.ne ∧ S.tb = S0.tb) ∧ (∀ c d, Eqv rt0 (T0.map pr) c d → Eqv rt (T.map pr) c d) ∧ At F [(0, .pointer (some ⟨S.gb, 0, none⟩)), (1, tv)] ∧ Hp w B W (upd (lay S) (.x 0) (.row tv T.length 3 (T.flatMap pw)))) (m := T0.length + (Ln + 1) * cnt Ln rt0) ⟨S0, rt0, us0, sg0, T0, tv0, Nat.le_refl _, hm0, hG, ⟨rfl, rfl, rfl⟩, fun _ _ h => h, ⟨rfl, rfl, trivial⟩, H⟩ ?_)
  rintro m F W ⟨S, rt, us, sg, T, tv, hm, hm3, hG, hgb, hEq, hF, H⟩
  obtain ⟨F, rfl⟩ := hF.ex
  refine WC.seq (WC.seq (WC.region ?_))
  refine WL.vald rfl rfl rfl (v := (tv)) (x_move rfl rfl) ?_
  refine WL.vald rfl rfl rfl (v := (.int .i64 (((T.length : Nat) : Int)))) (x_lenR rfl rfl ((H.row (l := .x 0) rfl)) rfl) ?_
  refine WL.vald rfl rfl rfl (v := (.bool (decide (((T.length : Nat) : Int) > 0)))) (x_arith rfl rfl rfl (av := .bool (decide (((T.length : Nat) : Int) > 0))) rfl) ?_
  refine WL.nil ?_
  rcases T with _ | ⟨⟨a, b, wy⟩, T⟩
  · refine WC.condF rfl (WC.exit ⟨.inl rfl, [], rfl, S, rt, us, sg, hG, hgb, fun c d h => (hEq c d h).nil, ?_⟩)
    exact (H.drop (.x 0)).eq (loc_cases rfl rfl rfl rfl rfl rfl rfl rfl rfl (fun _ => rfl) (fun _ => rfl) (fun _ => rfl) (fun _ => rfl) rfl rfl rfl rfl (fun _ => rfl) rfl)
  · have hlen : ((((a, b, wy) :: T).length : Nat) : Int) > 0 := by rw [List.length_cons]; omega
    refine WC.condT (congrArg Value.bool (decide_eq_true hlen)) (WC.skip (WC.block (WC.seq (WC.region ?_))))
    obtain ⟨ta, tb, _⟩ := hG.inv.todo (a, b) List.mem_cons_self
    refine WL.vald rfl rfl rfl (v := (tv)) (x_move rfl rfl) ?_
    refine WL.vald rfl rfl rfl (v := (.pointer (some (adr (tv) (0 * 3))))) (x_index (i := 0) rfl rfl ((H.row (l := .x 0) rfl)) rfl rfl (by rw [List.length_cons]; omega)) ?_
    refine WL.vald rfl rfl rfl (v := .agg #[.int .i64 (a : Int), .int .i64 (b : Int), .int .i64 wy]) (x_loadS rfl rfl (by kernel_rfl) (vs := pw (a, b, wy)) (by kernel_rfl) (RowOk.cells (H.row (l := .x 0) rfl) (by rw [List.length_cons]; omega) (fun j u hj => ?_))) ?_
    · have hj3 : j < 3 := (List.getElem?_eq_some_iff.1 hj).1
      have := flat_at (c := pw) (k := 3) (fun _ => rfl) ((a, b, wy) :: T) 0 (a, b, wy) j rfl hj3
      exact this.trans hj
    refine WL.allocH H (.x 1) rfl rfl rfl rfl rfl (z := .agg #[.int .i64 0, .int .i64 0, .int .i64 0]) (by kernel_rfl) ?_
    intro w1 H1
    refine WL.storeVH H1 (l := .x 1) rfl rfl rfl rfl (k := 0) rfl (ys := [(.int .i64 ((a : Int))), (.int .i64 ((b : Int))), (.int .i64 (wy))]) rfl (by kernel_rfl) (Nat.le_of_ble_eq_true rfl) (one_cons rfl (one_cons rfl (one_cons rfl one_nil))) ?_
    intro w2 H2
    generalize hpb : W.heap.size = pb at *
    refine WL.nil (WC.seq (WC.region ?_))
    refine WL.vald rfl rfl rfl (v := (tv)) (x_move rfl rfl) ?_
    refine WL.cutH H2 (l := .x 0) rfl rfl rfl rfl (t := 66) rfl rfl rfl (by rw [List.length_cons]; omega) ?_
    intro tv1 H3
    refine WL.vald rfl rfl rfl (v := (tv1)) (x_assign rfl rfl) ?_
    refine WL.nil (WC.seq ?_)
    have H4 : Hp w B w2 (LX S (.row tv1 T.length 3 (T.flatMap pw)) (.var pb (pw (a, b, wy)))) := H3.eq (loc_cases rfl rfl rfl rfl rfl rfl rfl rfl rfl (fun _ => rfl) (fun _ => rfl) (fun _ => rfl) (fun _ => rfl) rfl rfl rfl rfl (fun _ => rfl) rfl)
    clear H3
    have H4 := H4.drew
    refine WC.anyk 10 (fun u => u = w2.drew) mixedP rfl ?_
    refine WH.taked (i := 0) (by kernel_rfl) rfl rfl rfl rfl (by kernel_rfl) (by kernel_rfl) (fun c f w h => noPanic h) (v := (.pointer (some ⟨S.gb, 0, none⟩))) (fun u hu => by subst hu; exact x_move rfl rfl) rfl ?_
    refine WH.taked (i := 1) (by kernel_rfl) rfl rfl rfl rfl (by kernel_rfl) (by kernel_rfl) (fun c f w h => noPanic h) (v := (.pointer (some ⟨pb, 0, none⟩))) (fun u hu => by subst hu; exact x_field rfl rfl (off := 0) (by kernel_rfl) rfl) rfl ?_
    refine WH.taked (i := 2) (by kernel_rfl) rfl rfl rfl rfl (by kernel_rfl) (by kernel_rfl) (fun c f w h => noPanic h) (v := (.int .i64 ((a : Int)))) (fun u hu => by subst hu; exact x_load rfl rfl (by kernel_rfl) (var_cell (H4.ok (.x 1)) rfl)) rfl ?_
    refine WH.taked (i := 4) (by kernel_rfl) rfl rfl rfl rfl (by kernel_rfl) (by kernel_rfl) (fun c f w h => noPanic h) (v := (.pointer (some ⟨S.gb, 0, none⟩))) (fun u hu => by subst hu; exact x_move rfl rfl) rfl ?_
    refine WH.taked (i := 5) (by kernel_rfl) rfl rfl rfl rfl (by kernel_rfl) (by kernel_rfl) (fun c f w h => noPanic h) (v := (.pointer (some ⟨pb, 1, none⟩))) (fun u hu => by subst hu; exact x_field rfl rfl (off := 1) (by kernel_rfl) rfl) rfl ?_
    refine WH.taked (i := 6) (by kernel_rfl) rfl rfl rfl rfl (by kernel_rfl) (by kernel_rfl) (fun c f w h => noPanic h) (v := (.int .i64 ((b : Int)))) (fun u hu => by subst hu; exact x_load rfl rfl (by kernel_rfl) (var_cell (H4.ok (.x 1)) rfl)) rfl ?_
    refine WH.oneCalld (i := 3) (by kernel_rfl) rfl rfl rfl rfl rfl rfl (runs_root (S := S) (H4.ok .g) (H4.row (l := .f 3) rfl) hG.par (a := a) ta) ?_
    rintro _ _ ⟨rfl, rfl⟩
    refine ⟨rfl, ?_⟩
    refine WH.oneCalld (i := 7) (by kernel_rfl) rfl rfl rfl rfl rfl rfl (runs_root (S := S) (H4.ok .g) (H4.row (l := .f 3) rfl) hG.par (a := b) tb) ?_
    rintro _ _ ⟨rfl, rfl⟩
    refine ⟨rfl, ?_⟩
    refine WH.taked (i := 8) (by kernel_rfl) rfl rfl rfl rfl (by kernel_rfl) (by kernel_rfl) (fun c f w h => noPanic h) (v := (.int .i64 ((rt a : Int)))) (fun u hu => by subst hu; exact x_assign rfl rfl) rfl ?_
    refine WH.taked (i := 9) (by kernel_rfl) rfl rfl rfl rfl (by kernel_rfl) (by kernel_rfl) (fun c f w h => noPanic h) (v := (.int .i64 ((rt b : Int)))) (fun u hu => by subst hu; exact x_assign rfl rfl) rfl ?_
    refine WH.done (by kernel_rfl) (WC.seq (WC.seq (WC.region ?_)))
    by_cases hab : rt a = rt b
    · skip
      refine WL.vald rfl rfl rfl (v := (.int .i64 ((rt a : Int)))) (x_move rfl rfl) ?_
      refine WL.vald rfl rfl rfl (v := (.int .i64 ((rt b : Int)))) (x_move rfl rfl) ?_
      refine WL.vald rfl rfl rfl (v := (.bool (true))) (x_arithb (z := true) rfl rfl rfl rfl (by rw [hab]; simp)) ?_
      refine WL.nil (WC.condT rfl (WC.exit ?_))
      refine ⟨m - 1, by simp only [List.length_cons] at hm; omega, S, rt, us, sg, T, tv1, by simp only [List.length_cons] at hm; omega, by omega, hG.skip hab, hgb, fun c d h => Eqv.skip (hEq c d h) hab, ⟨rfl, rfl, trivial⟩, ?_⟩
      exact (H4.drop (.x 1)).eq (loc_cases rfl rfl rfl rfl rfl rfl rfl rfl rfl (fun _ => rfl) (fun _ => rfl) (fun _ => rfl) (fun _ => rfl) rfl rfl rfl rfl (fun _ => rfl) rfl)
    · skip
      refine WL.vald rfl rfl rfl (v := (.int .i64 ((rt a : Int)))) (x_move rfl rfl) ?_
      refine WL.vald rfl rfl rfl (v := (.int .i64 ((rt b : Int)))) (x_move rfl rfl) ?_
      refine WL.vald rfl rfl rfl (v := (.bool (false))) (x_arithb (z := false) rfl rfl rfl rfl (by rw [beq_eq_false_iff_ne]; omega)) ?_
      refine WL.nil (WC.condF rfl (WC.skip ?_))
      have rxa := hG.roots ta
      have rxb := hG.roots tb
      obtain ⟨⟨vca, la, xa⟩, hca⟩ : ∃ c, S.cls[rt a]? = some c := ⟨_, List.getElem?_eq_getElem (by rw [hG.cls]; exact rxa.1)⟩
      obtain ⟨⟨vcb, lb, xb⟩, hcb⟩ : ∃ c, S.cls[rt b]? = some c := ⟨_, List.getElem?_eq_getElem (by rw [hG.cls]; exact rxb.1)⟩
      have hcac : lay S (.c (rt a)) = .row vca la 1 xa := by show clsC S.cls[rt a]? = _; rw [hca]; rfl
      have hcbc : lay S (.c (rt b)) = .row vcb lb 1 xb := by show clsC S.cls[rt b]? = _; rw [hcb]; rfl
      refine WC.seqM (fun F2 W2 => ∃ x y pa p2 : Nat, x = rt pa ∧ y = rt p2 ∧ ((pa = a ∧ p2 = b) ∨ (pa = b ∧ p2 = a)) ∧ At F2 [(0, .pointer (some ⟨S.gb, 0, none⟩)), (1, tv1), (4, .pointer (some ⟨pb, 0, none⟩)), (5, .int .i64 (x : Int)), (6, .int .i64 (y : Int))] ∧ Hp w B W2 (LX S (.row tv1 T.length 3 (T.flatMap pw)) (.var pb (pw (pa, p2, wy))))) ?_ ?_
      · refine WC.seq ?_
        have H5 := H4.drew
        refine WC.anyk 17 (fun u => u = w2.drew.drew) mixedP rfl ?_
        refine WH.taked (i := 0) (by kernel_rfl) rfl rfl rfl rfl (by kernel_rfl) (by kernel_rfl) (fun c f w h => noPanic h) (v := (.pointer (some ⟨S.gb, 0, none⟩))) (fun u hu => by subst hu; exact x_move rfl rfl) rfl ?_
        refine WH.taked (i := 1) (by kernel_rfl) rfl rfl rfl rfl (by kernel_rfl) (by kernel_rfl) (fun c f w h => noPanic h) (v := (.pointer (some ⟨S.gb, 0, none⟩))) (fun u hu => by subst hu; exact x_nilc rfl rfl) rfl ?_
        refine WH.taked (i := 2) (by kernel_rfl) rfl rfl rfl rfl (by kernel_rfl) (by kernel_rfl) (fun c f w h => noPanic h) (v := (.pointer (some ⟨S.gb, 4, none⟩))) (fun u hu => by subst hu; exact x_field rfl rfl (off := 4) (by kernel_rfl) rfl) rfl ?_
        refine WH.taked (i := 3) (by kernel_rfl) rfl rfl rfl rfl (by kernel_rfl) (by kernel_rfl) (fun c f w h => noPanic h) (v := (S.h4)) (fun u hu => by subst hu; exact x_load rfl rfl (by kernel_rfl) (var_cell (H5.ok (.g)) rfl)) rfl ?_
        refine WH.taked (i := 4) (by kernel_rfl) rfl rfl rfl rfl (by kernel_rfl) (by kernel_rfl) (fun c f w h => noPanic h) (v := (.int .i64 ((rt a : Int)))) (fun u hu => by subst hu; exact x_move rfl rfl) rfl ?_
        refine WH.taked (i := 5) (by kernel_rfl) rfl rfl rfl rfl (by kernel_rfl) (by kernel_rfl) (fun c f w h => noPanic h) (v := (.pointer (some (adr (S.h4) ((rt a) * 1))))) (fun u hu => by subst hu; exact x_index (i := (rt a)) rfl rfl ((H5.row (l := .f 4) rfl)) rfl rfl (by rw [hG.cls]; exact rxa.1)) rfl ?_
        refine WH.taked (i := 6) (by kernel_rfl) rfl rfl rfl rfl (by kernel_rfl) (by kernel_rfl) (fun c f w h => noPanic h) (v := (vca)) (fun u hu => by subst hu; exact x_load rfl rfl (by kernel_rfl) (RowOk.cell ((H5.row (l := .f 4) rfl)) (fst_at hca))) rfl ?_
        refine WH.taked (i := 7) (by kernel_rfl) rfl rfl rfl rfl (by kernel_rfl) (by kernel_rfl) (fun c f w h => noPanic h) (v := (.int .i64 (((la : Nat) : Int)))) (fun u hu => by subst hu; exact x_lenR rfl rfl ((H5.row (l := .c (rt a)) hcac)) rfl) rfl ?_
        refine WH.taked (i := 8) (by kernel_rfl) rfl rfl rfl rfl (by kernel_rfl) (by kernel_rfl) (fun c f w h => noPanic h) (v := (.pointer (some ⟨S.gb, 0, none⟩))) (fun u hu => by subst hu; exact x_move rfl rfl) rfl ?_
        refine WH.taked (i := 9) (by kernel_rfl) rfl rfl rfl rfl (by kernel_rfl) (by kernel_rfl) (fun c f w h => noPanic h) (v := (.pointer (some ⟨S.gb, 0, none⟩))) (fun u hu => by subst hu; exact x_nilc rfl rfl) rfl ?_
        refine WH.taked (i := 10) (by kernel_rfl) rfl rfl rfl rfl (by kernel_rfl) (by kernel_rfl) (fun c f w h => noPanic h) (v := (.pointer (some ⟨S.gb, 4, none⟩))) (fun u hu => by subst hu; exact x_field rfl rfl (off := 4) (by kernel_rfl) rfl) rfl ?_
        refine WH.taked (i := 11) (by kernel_rfl) rfl rfl rfl rfl (by kernel_rfl) (by kernel_rfl) (fun c f w h => noPanic h) (v := (S.h4)) (fun u hu => by subst hu; exact x_load rfl rfl (by kernel_rfl) (var_cell (H5.ok (.g)) rfl)) rfl ?_
        refine WH.taked (i := 12) (by kernel_rfl) rfl rfl rfl rfl (by kernel_rfl) (by kernel_rfl) (fun c f w h => noPanic h) (v := (.int .i64 ((rt b : Int)))) (fun u hu => by subst hu; exact x_move rfl rfl) rfl ?_
        refine WH.taked (i := 13) (by kernel_rfl) rfl rfl rfl rfl (by kernel_rfl) (by kernel_rfl) (fun c f w h => noPanic h) (v := (.pointer (some (adr (S.h4) ((rt b) * 1))))) (fun u hu => by subst hu; exact x_index (i := (rt b)) rfl rfl ((H5.row (l := .f 4) rfl)) rfl rfl (by rw [hG.cls]; exact rxb.1)) rfl ?_
        refine WH.taked (i := 14) (by kernel_rfl) rfl rfl rfl rfl (by kernel_rfl) (by kernel_rfl) (fun c f w h => noPanic h) (v := (vcb)) (fun u hu => by subst hu; exact x_load rfl rfl (by kernel_rfl) (RowOk.cell ((H5.row (l := .f 4) rfl)) (fst_at hcb))) rfl ?_
        refine WH.taked (i := 15) (by kernel_rfl) rfl rfl rfl rfl (by kernel_rfl) (by kernel_rfl) (fun c f w h => noPanic h) (v := (.int .i64 (((lb : Nat) : Int)))) (fun u hu => by subst hu; exact x_lenR rfl rfl ((H5.row (l := .c (rt b)) hcbc)) rfl) rfl ?_
        refine WH.taked (i := 16) (by kernel_rfl) rfl rfl rfl rfl (by kernel_rfl) (by kernel_rfl) (fun c f w h => noPanic h) (v := (.bool (decide (((la : Nat) : Int) > ((lb : Nat) : Int))))) (fun u hu => by subst hu; exact x_arith rfl rfl rfl (av := .bool (decide (((la : Nat) : Int) > ((lb : Nat) : Int)))) rfl) rfl ?_
        refine WH.done (by kernel_rfl) ?_
        refine WC.cond (t := decide ((la : Int) > (lb : Int))) rfl (fun hlt => ?_) (fun hlt => ?_)
        · refine WC.seq (WC.region ?_)
          refine WL.vald rfl rfl rfl (v := (.int .i64 ((rt b : Int)))) (x_move rfl rfl) ?_
          refine WL.vald rfl rfl rfl (v := (.int .i64 ((rt a : Int)))) (x_move rfl rfl) ?_
          refine WL.vald rfl rfl rfl (v := (.int .i64 ((rt b : Int)))) (x_assign rfl rfl) ?_
          refine WL.vald rfl rfl rfl (v := (.int .i64 ((rt a : Int)))) (x_assign rfl rfl) ?_
          refine WL.nil (WC.region ?_)
          refine WL.vald rfl rfl rfl (v := (.pointer (some ⟨pb, 1, none⟩))) (x_field rfl rfl (off := 1) (by kernel_rfl) rfl) ?_
          refine WL.vald rfl rfl rfl (v := (.int .i64 ((b : Int)))) (x_load rfl rfl (by kernel_rfl) (var_cell (H5.ok (.x 1)) rfl)) ?_
          refine WL.vald rfl rfl rfl (v := (.pointer (some ⟨pb, 0, none⟩))) (x_field rfl rfl (off := 0) (by kernel_rfl) rfl) ?_
          refine WL.vald rfl rfl rfl (v := (.int .i64 ((a : Int)))) (x_load rfl rfl (by kernel_rfl) (var_cell (H5.ok (.x 1)) rfl)) ?_
          refine WL.vald rfl rfl rfl (v := (.pointer (some ⟨pb, 0, none⟩))) (x_field rfl rfl (off := 0) (by kernel_rfl) rfl) ?_
          refine WL.storeVH H5 (l := .x 1) rfl rfl rfl rfl (k := 0) rfl (ys := [(.int .i64 ((b : Int)))]) rfl (by kernel_rfl) (Nat.le_of_ble_eq_true rfl) (one_cons rfl one_nil) ?_
          intro w3 H3
          refine WL.vald rfl rfl rfl (v := (.pointer (some ⟨pb, 1, none⟩))) (x_field rfl rfl (off := 1) (by kernel_rfl) rfl) ?_
          refine WL.storeVH H3 (l := .x 1) rfl rfl rfl rfl (k := 1) rfl (ys := [(.int .i64 ((a : Int)))]) rfl (by kernel_rfl) (Nat.le_of_ble_eq_true rfl) (one_cons rfl one_nil) ?_
          intro w4 H4
          refine WL.nil ⟨rt b, rt a, b, a, rfl, rfl, .inr ⟨rfl, rfl⟩, ⟨rfl, rfl, rfl, rfl, rfl, trivial⟩, H4.eq (loc_cases rfl rfl rfl rfl rfl rfl rfl rfl rfl (fun _ => rfl) (fun _ => rfl) (fun _ => rfl) (fun _ => rfl) rfl rfl rfl rfl (fun _ => rfl) rfl)⟩
        · exact WC.skip ⟨rt a, rt b, a, b, rfl, rfl, .inl ⟨rfl, rfl⟩, ⟨rfl, rfl, rfl, rfl, rfl, trivial⟩, H5⟩
      · rintro F2 W2 ⟨x, y, pa, p2, hx, hy, hp, hF2, H6⟩
        obtain ⟨F2, rfl⟩ := hF2.ex
        have hpaL : pa < Ln := by rcases hp with ⟨rfl, _⟩ | ⟨rfl, _⟩ <;> assumption
        have hpbL : p2 < Ln := by rcases hp with ⟨_, rfl⟩ | ⟨_, rfl⟩ <;> assumption
        have hxy : x ≠ y := by rcases hp with ⟨rfl, rfl⟩ | ⟨rfl, rfl⟩ <;> rw [hx, hy]; exact hab; exact Ne.symm hab
        have hxL : x < Ln ∧ rt x = x := by rw [hx]; exact hG.roots hpaL
        have hyL : y < Ln ∧ rt y = y := by rw [hy]; exact hG.roots hpbL
        obtain ⟨r, hfo⟩ := hG.fo
        obtain ⟨k, hk⟩ := rank_le r Ln
        refine WC.seq (WC.region ?_)
        refine WL.vald rfl rfl rfl (v := (.pointer (some ⟨S.gb, 0, none⟩))) (x_move rfl rfl) ?_
        refine WL.vald rfl rfl rfl (v := (.pointer (some ⟨pb, 0, none⟩))) (x_field rfl rfl (off := 0) (by kernel_rfl) rfl) ?_
        refine WL.vald rfl rfl rfl (v := (.int .i64 ((pa : Int)))) (x_load rfl rfl (by kernel_rfl) (var_cell (H6.ok (.x 1)) rfl)) ?_
        refine WL.calld rfl rfl rfl rfl rfl (runs_turn (H6.begG (LX_g _ _ _)) hfo hpaL hk) ?_
        intro _ W7 K7
        have H7 : Hp w B W7 (LX { S with edges := turnL (k + 1) S.edges pa (0, 0, false) } (.row tv1 T.length 3 (T.flatMap pw)) (.var pb (pw (pa, p2, wy)))) := (H6.retG (LX_g _ _ _) K7).eq (loc_cases rfl rfl rfl rfl rfl rfl rfl rfl rfl (fun _ => rfl) (fun _ => rfl) (fun _ => rfl) (fun _ => rfl) rfl rfl rfl rfl (fun _ => rfl) rfl)
        refine WL.nil (WC.seq ?_)
        have hel : (turnL (k + 1) S.edges pa (0, 0, false)).length = Ln := by rw [Euf.turnL_length]; exact hfo.1
        generalize hes : turnL (k + 1) S.edges pa (0, 0, false) = es at *
        have H7 := H7.drew
        refine WC.anyT 12 (fun u => u = W7.drew) mixedP (by kernel_rfl) ?_
        refine WT.take (i := 0) (by kernel_rfl) rfl rfl rfl rfl (by kernel_rfl) (by kernel_rfl) (by kernel_rfl) (fun c f w h => noPanic h) (v := (.pointer (some ⟨S.gb, 0, none⟩))) (fun u hu => by subst hu; exact x_move rfl rfl) rfl ?_
        refine WT.take (i := 1) (by kernel_rfl) rfl rfl rfl rfl (by kernel_rfl) (by kernel_rfl) (by kernel_rfl) (fun c f w h => noPanic h) (v := (.pointer (some ⟨S.gb, 0, none⟩))) (fun u hu => by subst hu; exact x_nilc rfl rfl) rfl ?_
        refine WT.take (i := 2) (by kernel_rfl) rfl rfl rfl rfl (by kernel_rfl) (by kernel_rfl) (by kernel_rfl) (fun c f w h => noPanic h) (v := (.pointer (some ⟨S.gb, 7, none⟩))) (fun u hu => by subst hu; exact x_field rfl rfl (off := 7) (by kernel_rfl) rfl) rfl ?_
        refine WT.take (i := 3) (by kernel_rfl) rfl rfl rfl rfl (by kernel_rfl) (by kernel_rfl) (by kernel_rfl) (fun c f w h => noPanic h) (v := (S.h7)) (fun u hu => by subst hu; exact x_load rfl rfl (by kernel_rfl) (var_cell (H7.ok (.g)) rfl)) rfl ?_
        refine WT.take (i := 4) (by kernel_rfl) rfl rfl rfl rfl (by kernel_rfl) (by kernel_rfl) (by kernel_rfl) (fun c f w h => noPanic h) (v := (.pointer (some ⟨pb, 0, none⟩))) (fun u hu => by subst hu; exact x_field rfl rfl (off := 0) (by kernel_rfl) rfl) rfl ?_
        refine WT.take (i := 5) (by kernel_rfl) rfl rfl rfl rfl (by kernel_rfl) (by kernel_rfl) (by kernel_rfl) (fun c f w h => noPanic h) (v := (.int .i64 ((pa : Int)))) (fun u hu => by subst hu; exact x_load rfl rfl (by kernel_rfl) (var_cell (H7.ok (.x 1)) rfl)) rfl ?_
        refine WT.take (i := 6) (by kernel_rfl) rfl rfl rfl rfl (by kernel_rfl) (by kernel_rfl) (by kernel_rfl) (fun c f w h => noPanic h) (v := (.pointer (some ⟨pb, 1, none⟩))) (fun u hu => by subst hu; exact x_field rfl rfl (off := 1) (by kernel_rfl) rfl) rfl ?_
        refine WT.take (i := 7) (by kernel_rfl) rfl rfl rfl rfl (by kernel_rfl) (by kernel_rfl) (by kernel_rfl) (fun c f w h => noPanic h) (v := (.int .i64 ((p2 : Int)))) (fun u hu => by subst hu; exact x_load rfl rfl (by kernel_rfl) (var_cell (H7.ok (.x 1)) rfl)) rfl ?_
        refine WT.take (i := 8) (by kernel_rfl) rfl rfl rfl rfl (by kernel_rfl) (by kernel_rfl) (by kernel_rfl) (fun c f w h => noPanic h) (v := (.pointer (some ⟨pb, 2, none⟩))) (fun u hu => by subst hu; exact x_field rfl rfl (off := 2) (by kernel_rfl) rfl) rfl ?_
        refine WT.take (i := 9) (by kernel_rfl) rfl rfl rfl rfl (by kernel_rfl) (by kernel_rfl) (by kernel_rfl) (fun c f w h => noPanic h) (v := (.int .i64 (wy))) (fun u hu => by subst hu; exact x_load rfl rfl (by kernel_rfl) (var_cell (H7.ok (.x 1)) rfl)) rfl ?_
        refine WT.take (i := 10) (by kernel_rfl) rfl rfl rfl rfl (by kernel_rfl) (by kernel_rfl) (by kernel_rfl) (fun c f w h => noPanic h) (v := (.agg #[(.int .i64 ((p2 : Int))), (.int .i64 (wy)), (.bool (true))])) (fun u hu => by subst hu; exact x_build rfl (by kernel_rfl)) rfl ?_
        refine WT.take (i := 11) (by kernel_rfl) rfl rfl rfl rfl (by kernel_rfl) (by kernel_rfl) (by kernel_rfl) (fun c f w h => noPanic h) (v := (.pointer (some (adr (S.h7) (pa * 3))))) (fun u hu => by subst hu; exact x_index (i := pa) rfl rfl ((H7.row (l := .f 7) rfl)) rfl rfl (by show pa < es.length; omega)) rfl ?_
        refine WT.tail (by kernel_rfl) ?_
        refine WL.storeH H7 (l := .f 7) rfl rfl rfl rfl (k := pa * 3) rfl (ys := e3c ((p2 : Int), wy, true)) rfl (by kernel_rfl) (by show pa * 3 + 3 ≤ es.length * 3; omega) e3c_one (Nat.le_of_ble_eq_true rfl) ?_
        intro W8 H8
        refine WL.nil (WC.seq (WC.region ?_))
        have hset := flat_set (c := e3c) (k := 3) (fun _ => rfl) es pa ((p2 : Int), wy, true) (by omega)
        have H8 := H8.eq (L' := LX { S with edges := es.set pa ((p2 : Int), wy, true) } (.row tv1 T.length 3 (T.flatMap pw)) (.var pb (pw (pa, p2, wy)))) (loc_cases rfl rfl rfl rfl rfl rfl rfl rfl (by show Ch.row _ _ _ _ = Ch.row _ _ _ _; rw [List.length_set]; congr 1; exact hset.symm) (fun _ => rfl) (fun _ => rfl) (fun _ => rfl) (fun _ => rfl) rfl rfl rfl rfl (fun _ => rfl) rfl)
        refine WL.vald rfl rfl rfl (v := (.pointer (some ⟨S.gb, 0, none⟩))) (x_move rfl rfl) ?_
        refine WL.vald rfl rfl rfl (v := (.pointer (some ⟨S.gb, 0, none⟩))) (x_nilc rfl rfl) ?_
        refine WL.vald rfl rfl rfl (v := (.pointer (some ⟨S.gb, 3, none⟩))) (x_field rfl rfl (off := 3) (by kernel_rfl) rfl) ?_
        refine WL.vald rfl rfl rfl (v := (S.h3)) (x_load rfl rfl (by kernel_rfl) (var_cell (H8.ok (.g)) rfl)) ?_
        refine WL.vald rfl rfl rfl (v := (.int .i64 ((x : Int)))) (x_move rfl rfl) ?_
        refine WL.vald rfl rfl rfl (v := (.int .i64 ((y : Int)))) (x_move rfl rfl) ?_
        refine WL.vald rfl rfl rfl (v := (.pointer (some (adr (S.h3) (x * 1))))) (x_index (i := x) rfl rfl ((H8.row (l := .f 3) rfl)) rfl rfl (by rw [hG.par.1]; exact hxL.1)) ?_
        refine WL.storeH H8 (l := .f 3) rfl rfl rfl rfl (k := x * 1) rfl (ys := [.int .i64 (y : Int)]) rfl (by kernel_rfl) (by show x * 1 + 1 ≤ S.par.length * 1; rw [hG.par.1]; omega) (one_cons rfl one_nil) (Nat.le_of_ble_eq_true rfl) ?_
        intro W9 H9
        refine WL.nil (WC.seq ?_)
        have H9 := H9.eq (L' := LX { S with edges := es.set pa ((p2 : Int), wy, true), par := S.par.set x (y : Int) } (.row tv1 T.length 3 (T.flatMap pw)) (.var pb (pw (pa, p2, wy)))) (loc_cases rfl rfl rfl rfl (by show Ch.row _ _ _ _ = Ch.row _ _ _ _; rw [List.length_set]; congr 1; exact (ints_set S.par x (y : Int) (by rw [hG.par.1]; exact hxL.1)).symm) rfl rfl rfl rfl (fun _ => rfl) (fun _ => rfl) (fun _ => rfl) (fun _ => rfl) rfl rfl rfl rfl (fun _ => rfl) rfl)
        obtain ⟨⟨vcx, lx, xx⟩, hcx⟩ : ∃ c, S.cls[x]? = some c := ⟨_, List.getElem?_eq_getElem (by rw [hG.cls]; exact hxL.1)⟩
        obtain ⟨⟨vcy, ly, xy⟩, hcy⟩ : ∃ c, S.cls[y]? = some c := ⟨_, List.getElem?_eq_getElem (by rw [hG.cls]; exact hyL.1)⟩
        have hcxc : lay S (.c x) = .row vcx lx 1 xx := by show clsC S.cls[x]? = _; rw [hcx]; rfl
        have hcyc : lay S (.c y) = .row vcy ly 1 xy := by show clsC S.cls[y]? = _; rw [hcy]; rfl
        have hcl := hG.cls
        have hsum : lx + ly ≤ Ln := Nat.le_trans (two_le (l := S.cls.map (·.2.1)) (x := x) (y := y) (by rw [List.getElem?_map, hcx]; rfl) (by rw [List.getElem?_map, hcy]; rfl) hxy) hG.sum
        have H9 := H9.drew
        refine WC.anyT 21 (fun u => (Ch.var S.gb S.flds).ok u ∧ RowOk u S.h4 S.cls.length 1 (S.cls.map (·.1))) mixedP (by kernel_rfl) ?_
        refine WT.take (i := 0) (by kernel_rfl) rfl rfl rfl rfl (by kernel_rfl) (by kernel_rfl) (by kernel_rfl) (fun c f w h => noPanic h) (v := (.pointer (some ⟨S.gb, 0, none⟩))) (fun u hS => x_move rfl rfl) ⟨H9.ok .g, H9.row (l := .f 4) rfl⟩ ?_
        refine WT.take (i := 1) (by kernel_rfl) rfl rfl rfl rfl (by kernel_rfl) (by kernel_rfl) (by kernel_rfl) (fun c f w h => noPanic h) (v := (.pointer (some ⟨S.gb, 0, none⟩))) (fun u hS => x_nilc rfl rfl) ⟨H9.ok .g, H9.row (l := .f 4) rfl⟩ ?_
        refine WT.take (i := 2) (by kernel_rfl) rfl rfl rfl rfl (by kernel_rfl) (by kernel_rfl) (by kernel_rfl) (fun c f w h => noPanic h) (v := (.pointer (some ⟨S.gb, 4, none⟩))) (fun u hS => x_field rfl rfl (off := 4) (by kernel_rfl) rfl) ⟨H9.ok .g, H9.row (l := .f 4) rfl⟩ ?_
        refine WT.take (i := 3) (by kernel_rfl) rfl rfl rfl rfl (by kernel_rfl) (by kernel_rfl) (by kernel_rfl) (fun c f w h => noPanic h) (v := (S.h4)) (fun u hS => x_load rfl rfl (by kernel_rfl) (var_cell (hS.1) rfl)) ⟨H9.ok .g, H9.row (l := .f 4) rfl⟩ ?_
        refine WT.take (i := 4) (by kernel_rfl) rfl rfl rfl rfl (by kernel_rfl) (by kernel_rfl) (by kernel_rfl) (fun c f w h => noPanic h) (v := (.int .i64 ((y : Int)))) (fun u hS => x_move rfl rfl) ⟨H9.ok .g, H9.row (l := .f 4) rfl⟩ ?_
        refine WT.take (i := 5) (by kernel_rfl) rfl rfl rfl rfl (by kernel_rfl) (by kernel_rfl) (by kernel_rfl) (fun c f w h => noPanic h) (v := (.pointer (some ⟨S.gb, 0, none⟩))) (fun u hS => x_move rfl rfl) ⟨H9.ok .g, H9.row (l := .f 4) rfl⟩ ?_
        refine WT.take (i := 6) (by kernel_rfl) rfl rfl rfl rfl (by kernel_rfl) (by kernel_rfl) (by kernel_rfl) (fun c f w h => noPanic h) (v := (.pointer (some ⟨S.gb, 0, none⟩))) (fun u hS => x_nilc rfl rfl) ⟨H9.ok .g, H9.row (l := .f 4) rfl⟩ ?_
        refine WT.take (i := 7) (by kernel_rfl) rfl rfl rfl rfl (by kernel_rfl) (by kernel_rfl) (by kernel_rfl) (fun c f w h => noPanic h) (v := (.pointer (some ⟨S.gb, 4, none⟩))) (fun u hS => x_field rfl rfl (off := 4) (by kernel_rfl) rfl) ⟨H9.ok .g, H9.row (l := .f 4) rfl⟩ ?_
        refine WT.take (i := 8) (by kernel_rfl) rfl rfl rfl rfl (by kernel_rfl) (by kernel_rfl) (by kernel_rfl) (fun c f w h => noPanic h) (v := (S.h4)) (fun u hS => x_load rfl rfl (by kernel_rfl) (var_cell (hS.1) rfl)) ⟨H9.ok .g, H9.row (l := .f 4) rfl⟩ ?_
        refine WT.take (i := 9) (by kernel_rfl) rfl rfl rfl rfl (by kernel_rfl) (by kernel_rfl) (by kernel_rfl) (fun c f w h => noPanic h) (v := (.int .i64 ((y : Int)))) (fun u hS => x_move rfl rfl) ⟨H9.ok .g, H9.row (l := .f 4) rfl⟩ ?_
        refine WT.take (i := 10) (by kernel_rfl) rfl rfl rfl rfl (by kernel_rfl) (by kernel_rfl) (by kernel_rfl) (fun c f w h => noPanic h) (v := (.pointer (some (adr (S.h4) (y * 1))))) (fun u hS => x_index (i := y) rfl rfl (hS.2) rfl rfl (by rw [hcl]; exact hyL.1)) ⟨H9.ok .g, H9.row (l := .f 4) rfl⟩ ?_
        refine WT.take (i := 11) (by kernel_rfl) rfl rfl rfl rfl (by kernel_rfl) (by kernel_rfl) (by kernel_rfl) (fun c f w h => noPanic h) (v := (vcy)) (fun u hS => x_load rfl rfl (by kernel_rfl) (RowOk.cell (hS.2) (fst_at hcy))) ⟨H9.ok .g, H9.row (l := .f 4) rfl⟩ ?_
        refine WT.take (i := 12) (by kernel_rfl) rfl rfl rfl rfl (by kernel_rfl) (by kernel_rfl) (by kernel_rfl) (fun c f w h => noPanic h) (v := (.pointer (some ⟨S.gb, 0, none⟩))) (fun u hS => x_move rfl rfl) ⟨H9.ok .g, H9.row (l := .f 4) rfl⟩ ?_
        refine WT.take (i := 13) (by kernel_rfl) rfl rfl rfl rfl (by kernel_rfl) (by kernel_rfl) (by kernel_rfl) (fun c f w h => noPanic h) (v := (.pointer (some ⟨S.gb, 0, none⟩))) (fun u hS => x_nilc rfl rfl) ⟨H9.ok .g, H9.row (l := .f 4) rfl⟩ ?_
        refine WT.take (i := 14) (by kernel_rfl) rfl rfl rfl rfl (by kernel_rfl) (by kernel_rfl) (by kernel_rfl) (fun c f w h => noPanic h) (v := (.pointer (some ⟨S.gb, 4, none⟩))) (fun u hS => x_field rfl rfl (off := 4) (by kernel_rfl) rfl) ⟨H9.ok .g, H9.row (l := .f 4) rfl⟩ ?_
        refine WT.take (i := 15) (by kernel_rfl) rfl rfl rfl rfl (by kernel_rfl) (by kernel_rfl) (by kernel_rfl) (fun c f w h => noPanic h) (v := (S.h4)) (fun u hS => x_load rfl rfl (by kernel_rfl) (var_cell (hS.1) rfl)) ⟨H9.ok .g, H9.row (l := .f 4) rfl⟩ ?_
        refine WT.take (i := 16) (by kernel_rfl) rfl rfl rfl rfl (by kernel_rfl) (by kernel_rfl) (by kernel_rfl) (fun c f w h => noPanic h) (v := (.int .i64 ((x : Int)))) (fun u hS => x_move rfl rfl) ⟨H9.ok .g, H9.row (l := .f 4) rfl⟩ ?_
        refine WT.take (i := 17) (by kernel_rfl) rfl rfl rfl rfl (by kernel_rfl) (by kernel_rfl) (by kernel_rfl) (fun c f w h => noPanic h) (v := (.pointer (some (adr (S.h4) (x * 1))))) (fun u hS => x_index (i := x) rfl rfl (hS.2) rfl rfl (by rw [hcl]; exact hxL.1)) ⟨H9.ok .g, H9.row (l := .f 4) rfl⟩ ?_
        refine WT.take (i := 18) (by kernel_rfl) rfl rfl rfl rfl (by kernel_rfl) (by kernel_rfl) (by kernel_rfl) (fun c f w h => noPanic h) (v := (vcx)) (fun u hS => x_load rfl rfl (by kernel_rfl) (RowOk.cell (hS.2) (fst_at hcx))) ⟨H9.ok .g, H9.row (l := .f 4) rfl⟩ ?_
        refine WT.appendH H9 (l := .c y) hcyc (i := 19) rfl (by kernel_rfl) rfl rfl rfl rfl (t := 32) rfl rfl rfl rfl rfl ((H9.row (l := .c x) hcxc).src (t := 32) rfl) (by omega) ?_
        intro vc2 WA HA
        refine ⟨⟨HA.ok .g, HA.row (l := .f 4) rfl⟩, ?_⟩
        refine WT.take (i := 20) (by kernel_rfl) rfl rfl rfl rfl (by kernel_rfl) (by kernel_rfl) (by kernel_rfl) (fun c f w h => noPanic h) (v := (.pointer (some (adr (S.h4) (y * 1))))) (fun u hS => x_index (i := y) rfl rfl (hS.2) rfl rfl (by rw [hcl]; exact hyL.1)) ⟨HA.ok .g, HA.row (l := .f 4) rfl⟩ ?_
        refine WT.tail (by kernel_rfl) ?_
        refine WL.storeH HA (l := .f 4) rfl rfl rfl rfl (k := y * 1) rfl (ys := [vc2]) (cells1 (HA.row (l := .c y) (upd_same _ _ _))) (by kernel_rfl) (by show y * 1 + 1 ≤ S.cls.length * 1; omega) (one_cons (HA.row (l := .c y) (upd_same _ _ _)).one one_nil) (Nat.le_of_ble_eq_true rfl) ?_
        intro WB HB
        refine WL.nil (WC.seq (WC.region ?_))
        have HC := HB.step (l := .c x) (.row (.slice none 0 0) 0 1 []) (.refl WB _) RowOk.nil (fun b hb => by cases hb)
        refine WL.vald rfl rfl rfl (v := (.pointer (some ⟨S.gb, 0, none⟩))) (x_move rfl rfl) ?_
        refine WL.vald rfl rfl rfl (v := (.pointer (some ⟨S.gb, 0, none⟩))) (x_nilc rfl rfl) ?_
        refine WL.vald rfl rfl rfl (v := (.pointer (some ⟨S.gb, 4, none⟩))) (x_field rfl rfl (off := 4) (by kernel_rfl) rfl) ?_
        refine WL.vald rfl rfl rfl (v := (S.h4)) (x_load rfl rfl (by kernel_rfl) (var_cell (HC.ok (.g)) rfl)) ?_
        refine WL.vald rfl rfl rfl (v := (.int .i64 ((x : Int)))) (x_move rfl rfl) ?_
        refine WL.vald rfl rfl rfl (v := (.pointer (some (adr (S.h4) (x * 1))))) (x_index (i := x) rfl rfl ((HC.row (l := .f 4) rfl)) rfl rfl (by rw [hcl]; exact hxL.1)) ?_
        refine WL.storeH HC (l := .f 4) rfl rfl rfl rfl (k := x * 1) rfl (ys := [.slice none 0 0]) rfl (by kernel_rfl) (by show x * 1 + 1 ≤ S.cls.length * 1; omega) (one_cons rfl one_nil) (Nat.le_of_ble_eq_true rfl) ?_
        intro WD HD
        refine WL.nil (WC.region ?_)
        have HD := HD.eq (L' := LX { S with edges := es.set pa ((p2 : Int), wy, true), par := S.par.set x (y : Int), cls := (S.cls.set y (vc2, ly + lx, xy ++ xx)).set x (.slice none 0 0, 0, []) } (.row tv1 T.length 3 (T.flatMap pw)) (.var pb (pw (pa, p2, wy)))) ?_
        rotate_left
        · refine loc_cases rfl rfl rfl rfl rfl ?_ rfl rfl rfl (fun _ => rfl) (fun z => ?_) (fun _ => rfl) (fun _ => rfl) rfl rfl rfl rfl (fun _ => rfl) rfl
          · show Ch.row _ _ _ _ = Ch.row _ _ _ _
            simp only [List.length_set, List.map_set]
            congr 1
            exact set_two _ (by simpa using hcl ▸ hyL.1) (by simpa using hcl ▸ hxL.1) _ _
          · show clsC ((S.cls.set y (vc2, ly + lx, xy ++ xx)).set x (.slice none 0 0, 0, []))[z]? = _
            by_cases hzx : z = x
            · subst hzx
              rw [List.getElem?_set_self (by rw [List.length_set, hcl]; exact hxL.1)]
              exact (upd_same _ _ _).symm
            · rw [List.getElem?_set_ne (Ne.symm hzx), upd_ne _ _ (by simp), upd_ne _ _ (by simpa using hzx), upd_ne _ _ (by simp)]
              by_cases hzy : z = y
              · subst hzy
                rw [List.getElem?_set_self (by rw [hcl]; exact hyL.1), upd_same]
                rfl
              · rw [List.getElem?_set_ne (Ne.symm hzy), upd_ne _ _ (by simpa using hzy)]
                rfl
        obtain ⟨vux, hux⟩ := hG.uses x hxL.1
        obtain ⟨vuy, huy⟩ := hG.uses y hyL.1
        have hul := hG.us_len x
        have hul2 := hG.us_len y
        have hcj := cnt_join hxL hyL hxy
        have hbig := hG.big
        refine WL.vald rfl rfl rfl (v := (tv1)) (x_move rfl rfl) ?_
        refine WL.vald rfl rfl rfl (v := (.pointer (some ⟨S.gb, 0, none⟩))) (x_move rfl rfl) ?_
        refine WL.vald rfl rfl rfl (v := (.int .i64 ((x : Int)))) (x_move rfl rfl) ?_
        refine WL.vald rfl rfl rfl (v := (.int .i64 ((y : Int)))) (x_move rfl rfl) ?_
        refine WL.calld rfl rfl rfl rfl rfl (runs_moved (HD.begG (LX_g _ _ _)) hG.chn (hG.par.join hxL hyL hxy) (fun z hz => by unfold joinR; split; exact hyL.1; exact (hG.roots hz).1) (by omega) hG.sgn hG.sg_lt (by show S.sg.length ≤ _; omega) hG.tab hux huy hxy (hG.us_lt x) (by omega) (by rw [List.length_map]; omega)) ?_
        rintro mvv WE ⟨vu2, m2, hm2, hml, KE⟩
        have HE := HD.retG3 (LX_g _ _ _) rfl KE
        have hmvl := Euf.mv_len (joinR rt x y) (us x) sg
        refine WL.appendH HE (l := .x 0) rfl rfl rfl rfl (t := 66) rfl rfl rfl rfl rfl ((HE.row (l := .x 3) rfl).src (t := 66) rfl) (by simp only [List.length_cons] at hm; omega) ?_
        intro tv2 WF HF
        refine WL.vald rfl rfl rfl (v := (tv2)) (x_assign rfl rfl) ?_
        have hjn := hG.join hE hx hy hxy hp hfo hk wy hcx hcy vc2 vu2 hm2 hml
        rw [hes] at hjn
        have e1 : (Ln + 1) * (cnt Ln (joinR rt x y) + 1) ≤ (Ln + 1) * cnt Ln rt := Nat.mul_le_mul_left _ hcj
        rw [Nat.mul_succ] at e1
        refine WL.nil ⟨m - 1, by simp only [List.length_cons] at hm; omega, { S with edges := es.set pa ((p2 : Int), wy, true), par := S.par.set x (y : Int), cls := (S.cls.set y (vc2, ly + lx, xy ++ xx)).set x (.slice none 0 0, 0, []), uses := (S.uses.set y (vu2, toI (us y) ++ toI (us x))).set x (.slice none 0 0, []), sg := m2 }, joinR rt x y, joinU us x y, (mv (joinR rt x y) (us x) sg).1, T ++ (mv (joinR rt x y) (us x) sg).2.map p3, tv2, by simp only [List.length_cons] at hm; rw [List.length_append, List.length_map]; omega, by omega, by rw [List.map_append, pr_p3]; exact hjn, hgb, fun c d h => by rw [List.map_append, pr_p3]; exact Eqv.join (hEq c d h) hx hy hxy hp, ⟨rfl, rfl, trivial⟩, ?_⟩
        refine ((HF.drop (.x 3)).drop (.x 1)).eq (loc_cases rfl rfl rfl rfl rfl rfl rfl rfl rfl (fun _ => rfl) (fun _ => rfl) (fun _ => rfl) (fun _ => rfl) ?_ rfl rfl rfl (fun _ => rfl) rfl)
        show Ch.row _ _ _ _ = Ch.row _ _ _ _
        rw [List.length_append, List.length_map, List.flatMap_append, ← pc_p3]
end Go.Gr
end
section
/- Walking by exact values: are these nodes? are they the same? two nodes are the same. -/
set_option maxRecDepth 10000
namespace Go.Gr
open Go.Abs (WTo tyAt ty_slice T_ok aggB Runs)
open Go.Proofs
open Go.Euf (E3 Par Fo Inv Eqv joinR joinU mv turnL)
theorem beq_nat (a b : Nat) : ((a : Int) == (b : Int)) = decide (a = b) := by
  by_cases h : a = b
  · subst h; simp
  · rw [decide_eq_false h, beq_eq_false_iff_ne]; omega
theorem cells_two {x y : Value} {k : Nat} (h : x.cells.size = k) (h2 : y.cells.size = k) : ∀ v ∈ [x, y], v.cells.size = k := fun v hv => by
  rcases List.mem_cons.1 hv with rfl | hv
  · exact h
  · rw [List.mem_singleton.1 hv]; exact h2
theorem LX0_g (S : GS) (c0 : Ch) : ∀ l, isG l = true → upd (lay S) (.x 0) c0 l = lay S l := loc_cases (fun _ => rfl) (fun _ => rfl) (fun _ => rfl) (fun _ => rfl) (fun _ => rfl) (fun _ => rfl) (fun _ => rfl) (fun _ => rfl) (fun _ => rfl) (fun _ _ => rfl) (fun _ _ => rfl) (fun _ _ => rfl) (fun _ _ => rfl) (fun h => by cases h) (fun h => by cases h) (fun h => by cases h) (fun h => by cases h) (fun _ h => by cases h) (fun _ => rfl)
def isG0 : Loc → Bool
  | .x 0 => true
  | .x _ => false
  | _ => true
theorem isG0_ne {l : Loc} (h : isG0 l = false) : isG l = false ∧ l ≠ .x 0 := by
  cases l with
  | x i =>
    refine ⟨rfl, fun he => ?_⟩
    injection he with he
    subst he
    cases h
  | _ => cases h
theorem isG0_eq {l : Loc} (h : isG0 l = true) : isG l = true ∨ l = .x 0 := by
  cases l with
  | x i =>
    right
    unfold isG0 at h
    split at h
    · assumption
    · cases h
    · rename_i h1 h2; exact absurd rfl (h2 i)
  | _ => exact .inl rfl
def ownG0 (S : GS) (c : Ch) : Nat → Prop := fun b => ∃ l, (upd (lay S) (.x 0) c l).blk = some b
section
variable {w0 w w' : World} {B : Nat → Prop} {L : Loc → Ch} {S S' : GS} {c : Ch}
theorem g0_split (hL : ∀ l, isG l = true → L l = lay S l) (h0 : L (.x 0) = c) (l : Loc) : upd (lay S) (.x 0) c l = if isG0 l = true then L l else .no := by
  cases h : isG0 l with
  | true =>
    rw [if_pos rfl]
    rcases isG0_eq h with hg | rfl
    · rw [upd_ne _ _ (fun he => by subst he; cases hg), hL l hg]
    · rw [upd_same, h0]
  | false =>
    obtain ⟨h1, h2⟩ := isG0_ne h
    rw [if_neg (by simp), upd_ne _ _ h2, lay_x S h1]
theorem Hp.begG0 (H : Hp w0 B w L) (hL : ∀ l, isG l = true → L l = lay S l) (h0 : L (.x 0) = c) : Hp w (ownG0 S c) w (upd (lay S) (.x 0) c) := H.begin isG0 (g0_split hL h0)
theorem Hp.retG0 (H : Hp w0 B w L) (hL : ∀ l, isG l = true → L l = lay S l) (K : Hp w (ownG0 S (L (.x 0))) w' (lay S')) : Hp w0 B w' (fun l => if isG0 l = true then lay S' l else L l) :=
  H.call (L1 := upd (lay S) (.x 0) (L (.x 0))) isG0 (g0_split hL rfl) K (fun l h => lay_x S' (isG0_ne h).1)
end
section
variable {Ln : Nat} {E : Nat → Nat → Prop} {A : Nat} {S : GS} {rt : Nat → Nat} {us : Nat → List Nat} {sg : Nat → Option Nat} {T : List (Nat × Nat)} {a b : Nat}
theorem GI.push (h : GI Ln E A S rt us sg []) (ha : a < Ln) (hb : b < Ln) (hab : E a b) : GI Ln E A S rt us sg [(a, b)] :=
  ⟨⟨h.inv.root, h.inv.uses, h.inv.used, h.inv.once, h.inv.sign, fun i hi => by
    obtain ⟨u, h1, h2⟩ := h.inv.same i hi
    exact ⟨u, h1, .rt h2.nil⟩, fun p hp => by obtain rfl := List.mem_singleton.1 hp; exact ⟨ha, hb, hab⟩, h.inv.sound⟩, h.chn, h.par, h.fo, h.cls, h.sum, h.usl, h.uses, h.sgn, h.big, h.tab⟩
theorem GI.eqs (h : GI Ln E A S rt us sg T) (h2 : Value) (ne : Nat) (es : List Value) : GI Ln E A { S with h2 := h2, ne := ne, eqs := es } rt us sg T :=
  ⟨h.inv, h.chn, h.par, h.fo, h.cls, h.sum, h.usl, h.uses, h.sgn, h.big, h.tab⟩
end
theorem runs_right {w : World} {S : GS} (hv : (Ch.var S.gb S.flds).ok w) (hr0 : RowOk w S.h0 S.nodes.length 2 (S.nodes.flatMap ndc)) {v : Value} {n : Nat} {l : List Int} (hr : RowOk w v n 1 (ints l)) (hl : ∀ a ∈ l, 0 ≤ a ∧ a < S.nodes.length) (hn : n ≤ 1000) : Runs P 18 [.pointer (some ⟨S.gb, 0, none⟩), v] w (fun u w' => u = .bool true ∧ w' = w) := by
  have hln : l.length = n := by simpa [ints] using hr.1
  refine runs_of Tryd.func18 (by kernel_rfl) rfl rfl ?_
  refine WC.seq (WC.region ?_)
  refine WL.vald rfl rfl rfl (v := (.bool (false))) (x_assign rfl rfl) ?_
  refine WL.nil (WC.seq (WC.seq (WC.region ?_)))
  refine WL.vald rfl rfl rfl (v := (v)) (x_move rfl rfl) ?_
  refine WL.vald rfl rfl rfl (v := (.int .i64 (((n : Nat) : Int)))) (x_lenR rfl rfl (hr) rfl) ?_
  refine WL.vald rfl rfl rfl (v := (.int .i64 (0))) (x_move rfl rfl) ?_
  refine WL.nil (WC.block (WC.loop (fun m F W => ∃ i : Nat, m = n - i ∧ i ≤ n ∧ At F [(0, .pointer (some ⟨S.gb, 0, none⟩)), (7, v), (8, .int .i64 ((n : Nat) : Int)), (9, .int .i64 (i : Int))] ∧ W = w) (m := n) ⟨0, rfl, Nat.zero_le _, ⟨rfl, rfl, rfl, rfl, trivial⟩, rfl⟩ ?_))
  rintro m F W ⟨i, rfl, hi, hF, rfl⟩
  obtain ⟨F, rfl⟩ := hF.ex
  refine WC.seq (WC.region ?_)
  refine WL.vald rfl rfl rfl (v := (.bool (decide ((i : Int) < ((n : Nat) : Int))))) (x_arith rfl rfl rfl (av := .bool (decide ((i : Int) < ((n : Nat) : Int)))) rfl) ?_
  refine WL.nil (WC.seq ?_)
  refine WC.cond (t := decide ((i : Int) < ((n : Nat) : Int))) rfl (fun hlt => ?_) (fun hlt => ?_)
  · have hlt : i < n := by simpa using hlt
    have hli : l[i]? = some (l.getD i 0) := by rw [List.getD_eq_getElem?_getD, List.getElem?_eq_getElem (by omega)]; rfl
    have hb := hl _ (List.mem_of_getElem? hli)
    generalize l.getD i 0 = a at *
    refine WC.skip (WC.seq (WC.block (WC.seq (WC.region ?_))))
    refine WL.vald rfl rfl rfl (v := (.pointer (some (adr (v) (i * 1))))) (x_index (i := i) rfl rfl (hr) rfl rfl (hlt)) ?_
    refine WL.vald rfl rfl rfl (v := (.int .i64 (a))) (x_load rfl rfl (by kernel_rfl) (RowOk.cell (hr) (ints_at hli))) ?_
    refine WL.vald rfl rfl rfl (v := (.int .i64 (a))) (x_assign rfl rfl) ?_
    refine WL.nil (WC.seq (WC.region ?_))
    refine WL.vald rfl rfl rfl (v := (.int .i64 (a))) (x_move rfl rfl) ?_
    refine WL.vald rfl rfl rfl (v := (.bool (false))) (x_arithb (z := false) rfl rfl rfl rfl (decide_eq_false (by omega))) ?_
    refine WL.vald rfl rfl rfl (v := (.bool (false))) (x_move rfl rfl) ?_
    refine WL.gvald rfl rfl rfl rfl rfl rfl (v := (.int .i64 (a))) (x_move rfl rfl) ?_
    refine WL.gvald rfl rfl rfl rfl rfl rfl (v := (.pointer (some ⟨S.gb, 0, none⟩))) (x_move rfl rfl) ?_
    refine WL.gvald rfl rfl rfl rfl rfl rfl (v := (.pointer (some ⟨S.gb, 0, none⟩))) (x_nilc rfl rfl) ?_
    refine WL.gvald rfl rfl rfl rfl rfl rfl (v := (.pointer (some ⟨S.gb, 0, none⟩))) (x_field rfl rfl (off := 0) (by kernel_rfl) rfl) ?_
    refine WL.gvald rfl rfl rfl rfl rfl rfl (v := (S.h0)) (x_load rfl rfl (by kernel_rfl) (var_cell (hv) rfl)) ?_
    refine WL.gvald rfl rfl rfl rfl rfl rfl (v := (.int .i64 (((S.nodes.length : Nat) : Int)))) (x_lenR rfl rfl (hr0) rfl) ?_
    refine WL.gvald rfl rfl rfl rfl rfl rfl (v := (.bool (false))) (x_arithb (z := false) rfl rfl rfl rfl (decide_eq_false (by omega))) ?_
    refine WL.vald rfl rfl rfl (v := (.bool (false))) (x_pick rfl rfl rfl) ?_
    refine WL.nil (WC.condF rfl (WC.skip (WC.region ?_)))
    refine WL.vald rfl rfl rfl (v := (.int .i64 (((i + 1 : Nat) : Int)))) (x_arithw (z := ((i + 1 : Nat) : Int)) rfl rfl rfl rfl ((Abs.w64 (by omega) (by omega)).trans (by omega))) ?_
    refine WL.vald rfl rfl rfl (v := (.int .i64 (((i + 1 : Nat) : Int)))) (x_move rfl rfl) ?_
    exact WL.nil ⟨n - (i + 1), by omega, i + 1, rfl, hlt, ⟨rfl, rfl, rfl, rfl, trivial⟩, rfl⟩
  · refine WC.exit (WC.seq (WC.region ?_))
    refine WL.vald rfl rfl rfl (v := (.bool (true))) (x_assign rfl rfl) ?_
    exact WL.nil (WC.ret ⟨.inr rfl, [.bool true], rfl, rfl, rfl⟩)
theorem runs_same {w : World} {B : Nat → Prop} {S : GS} (H : Hp w B w (lay S)) {Ln : Nat} {rt : Nat → Nat} (hnl : S.nodes.length = Ln) (hp : Par Ln rt S.par) {a b : Nat} (ha : a < Ln) (hb : b < Ln) : Runs P 9 [.pointer (some ⟨S.gb, 0, none⟩), .int .i64 (a : Int), .int .i64 (b : Int)] w (fun v w' => v = .tuple #[.bool (decide (rt a = rt b)), .int .i64 0] ∧ Hp w B w' (lay S)) := by
  refine runs_of Tryd.func9 (by kernel_rfl) rfl rfl ?_
  refine WC.seq (WC.region ?_)
  refine WL.vald rfl rfl rfl (v := (.bool (false))) (x_assign rfl rfl) ?_
  refine WL.vald rfl rfl rfl (v := (.int .i64 (0))) (x_assign rfl rfl) ?_
  refine WL.nil (WC.seq (WC.seq (WC.region ?_)))
  refine WL.vald rfl rfl rfl (v := (.pointer (some ⟨S.gb, 0, none⟩))) (x_move rfl rfl) ?_
  refine WL.vald rfl rfl rfl (v := (.int .i64 ((a : Int)))) (x_move rfl rfl) ?_
  refine WL.vald rfl rfl rfl (v := (.int .i64 ((b : Int)))) (x_move rfl rfl) ?_
  refine WL.litH H (.x 1) rfl rfl rfl rfl (t := 32) rfl rfl rfl rfl rfl rfl (xs := ints [(a : Int), (b : Int)]) rfl (cells_two rfl rfl) (one_cons rfl (one_cons rfl one_nil)) ?_
  intro w1 H1
  refine WL.calld rfl rfl rfl rfl rfl (runs_right (S := S) (H1.ok .g) (H1.row (l := .f 0) rfl) (H1.row (l := .x 1) rfl) (fun z hz => ?_) (by omega)) ?_
  · rcases List.mem_cons.1 hz with rfl | hz; · omega
    obtain rfl := List.mem_singleton.1 hz; omega
  rintro _ _ ⟨rfl, rfl⟩
  refine WL.vald rfl rfl rfl (v := (.bool (!(true)))) (x_not rfl rfl) ?_
  refine WL.nil (WC.condF rfl (WC.skip (WC.seq (WC.region ?_))))
  refine WL.vald rfl rfl rfl (v := (.pointer (some ⟨S.gb, 0, none⟩))) (x_move rfl rfl) ?_
  refine WL.vald rfl rfl rfl (v := (.int .i64 ((a : Int)))) (x_move rfl rfl) ?_
  refine WL.calld rfl rfl rfl rfl rfl (runs_root (S := S) (H1.ok .g) (H1.row (l := .f 3) rfl) hp (a := a) ha) ?_
  rintro _ _ ⟨rfl, rfl⟩
  refine WL.vald rfl rfl rfl (v := (.pointer (some ⟨S.gb, 0, none⟩))) (x_move rfl rfl) ?_
  refine WL.vald rfl rfl rfl (v := (.int .i64 ((b : Int)))) (x_move rfl rfl) ?_
  refine WL.calld rfl rfl rfl rfl rfl (runs_root (S := S) (H1.ok .g) (H1.row (l := .f 3) rfl) hp (a := b) hb) ?_
  rintro _ _ ⟨rfl, rfl⟩
  refine WL.vald rfl rfl rfl (v := (.bool (decide (rt a = rt b)))) (x_arithb (z := decide (rt a = rt b)) rfl rfl rfl rfl (beq_nat _ _)) ?_
  refine WL.vald rfl rfl rfl (v := (.bool (decide (rt a = rt b)))) (x_assign rfl rfl) ?_
  refine WL.vald rfl rfl rfl (v := (.int .i64 (0))) (x_assign rfl rfl) ?_
  exact WL.nil (WC.ret ⟨.inr rfl, [.bool (decide (rt a = rt b)), .int .i64 0], rfl, rfl, (H1.drop (.x 1)).eq (loc_cases rfl rfl rfl rfl rfl rfl rfl rfl rfl (fun _ => rfl) (fun _ => rfl) (fun _ => rfl) (fun _ => rfl) rfl rfl rfl rfl (fun _ => rfl) rfl)⟩)
theorem runs_equal {w : World} {B : Nat → Prop} {S : GS} (H : Hp w B w (lay S)) {Ln A : Nat} {E : Nat → Nat → Prop} (hE : Cong E) {rt : Nat → Nat} {us : Nat → List Nat} {sg : Nat → Option Nat} (hG : GI Ln E A S rt us sg []) (hL : Ln ≤ 1000) (hA1 : A ≤ 100000000) {a b : Nat} (ha : a < Ln) (hb : b < Ln) (hab : E a b) (hne : S.ne ≤ 10) :
    Runs P 8 [.pointer (some ⟨S.gb, 0, none⟩), .int .i64 (a : Int), .int .i64 (b : Int)] w (fun v w' => ∃ (S2 : GS) (rt2 : Nat → Nat) (us2 : Nat → List Nat) (sg2 : Nat → Option Nat), GI Ln E A S2 rt2 us2 sg2 [] ∧ (S2.gb = S.gb ∧ S2.ne = S.ne + 1 ∧ S2.tb = S.tb) ∧ rt2 a = rt2 b ∧ (∀ c d, rt c = rt d → rt2 c = rt2 d) ∧ v = .tuple #[.int .i64 (S.ne : Int), .int .i64 0] ∧ Hp w B w' (lay S2)) := by
  have hnl := hG.chn.1
  refine runs_of Tryd.func8 (by kernel_rfl) rfl rfl ?_
  refine WC.seq (WC.region ?_)
  refine WL.vald rfl rfl rfl (v := (.int .i64 (0))) (x_assign rfl rfl) ?_
  refine WL.vald rfl rfl rfl (v := (.int .i64 (0))) (x_assign rfl rfl) ?_
  refine WL.nil (WC.seq (WC.seq (WC.region ?_)))
  refine WL.vald rfl rfl rfl (v := (.pointer (some ⟨S.gb, 0, none⟩))) (x_move rfl rfl) ?_
  refine WL.vald rfl rfl rfl (v := (.int .i64 ((a : Int)))) (x_move rfl rfl) ?_
  refine WL.vald rfl rfl rfl (v := (.int .i64 ((b : Int)))) (x_move rfl rfl) ?_
  refine WL.litH H (.x 1) rfl rfl rfl rfl (t := 32) rfl rfl rfl rfl rfl rfl (xs := ints [(a : Int), (b : Int)]) rfl (cells_two rfl rfl) (one_cons rfl (one_cons rfl one_nil)) ?_
  intro w1 H1
  refine WL.calld rfl rfl rfl rfl rfl (runs_right (S := S) (H1.ok .g) (H1.row (l := .f 0) rfl) (H1.row (l := .x 1) rfl) (fun z hz => ?_) (by omega)) ?_
  · rcases List.mem_cons.1 hz with rfl | hz; · omega
    obtain rfl := List.mem_singleton.1 hz; omega
  rintro _ _ ⟨rfl, rfl⟩
  refine WL.vald rfl rfl rfl (v := (.bool (!(true)))) (x_not rfl rfl) ?_
  refine WL.nil (WC.condF rfl (WC.skip (WC.seq (WC.seq (WC.region ?_)))))
  refine WL.vald rfl rfl rfl (v := (.pointer (some ⟨S.gb, 0, none⟩))) (x_move rfl rfl) ?_
  refine WL.vald rfl rfl rfl (v := (.pointer (some ⟨S.gb, 0, none⟩))) (x_nilc rfl rfl) ?_
  refine WL.vald rfl rfl rfl (v := (.pointer (some ⟨S.gb, 2, none⟩))) (x_field rfl rfl (off := 2) (by kernel_rfl) rfl) ?_
  refine WL.vald rfl rfl rfl (v := (S.h2)) (x_load rfl rfl (by kernel_rfl) (var_cell (H1.ok (.g)) rfl)) ?_
  refine WL.vald rfl rfl rfl (v := (.int .i64 (((S.ne : Nat) : Int)))) (x_lenR rfl rfl ((H1.row (l := .f 2) rfl)) rfl) ?_
  refine WL.vald rfl rfl rfl (v := (.bool (false))) (x_arithb (z := false) rfl rfl rfl rfl (decide_eq_false (by omega))) ?_
  refine WL.nil (WC.condF rfl (WC.skip (WC.seq (WC.region ?_))))
  refine WL.vald rfl rfl rfl (v := (.pointer (some ⟨S.gb, 0, none⟩))) (x_move rfl rfl) ?_
  refine WL.vald rfl rfl rfl (v := (.pointer (some ⟨S.gb, 0, none⟩))) (x_nilc rfl rfl) ?_
  refine WL.vald rfl rfl rfl (v := (.pointer (some ⟨S.gb, 2, none⟩))) (x_field rfl rfl (off := 2) (by kernel_rfl) rfl) ?_
  refine WL.vald rfl rfl rfl (v := (S.h2)) (x_load rfl rfl (by kernel_rfl) (var_cell (H1.ok (.g)) rfl)) ?_
  refine WL.vald rfl rfl rfl (v := (.int .i64 (((S.ne : Nat) : Int)))) (x_lenR rfl rfl ((H1.row (l := .f 2) rfl)) rfl) ?_
  refine WL.vald rfl rfl rfl (v := (.int .i64 (((S.ne : Nat) : Int)))) (x_assign rfl rfl) ?_
  refine WL.nil (WC.seq (WC.region ?_))
  refine WL.vald rfl rfl rfl (v := (.pointer (some ⟨S.gb, 0, none⟩))) (x_move rfl rfl) ?_
  refine WL.vald rfl rfl rfl (v := (.pointer (some ⟨S.gb, 0, none⟩))) (x_move rfl rfl) ?_
  refine WL.vald rfl rfl rfl (v := (.pointer (some ⟨S.gb, 0, none⟩))) (x_nilc rfl rfl) ?_
  refine WL.vald rfl rfl rfl (v := (.pointer (some ⟨S.gb, 2, none⟩))) (x_field rfl rfl (off := 2) (by kernel_rfl) rfl) ?_
  refine WL.vald rfl rfl rfl (v := (S.h2)) (x_load rfl rfl (by kernel_rfl) (var_cell (H1.ok (.g)) rfl)) ?_
  refine WL.vald rfl rfl rfl (v := (.int .i64 ((a : Int)))) (x_move rfl rfl) ?_
  refine WL.vald rfl rfl rfl (v := (.int .i64 ((b : Int)))) (x_move rfl rfl) ?_
  refine WL.vald rfl rfl rfl (v := (.agg #[(.int .i64 ((a : Int))), (.int .i64 ((b : Int)))])) (x_build rfl (by kernel_rfl)) ?_
  refine WL.litH H1 (.x 2) rfl rfl rfl rfl (t := 50) rfl rfl rfl rfl rfl rfl (xs := [.int .i64 (a : Int), .int .i64 (b : Int)]) rfl (cells_one rfl) (one_cons rfl (one_cons rfl one_nil)) ?_
  intro w2 H2
  refine WL.appendH H2 (l := .f 2) rfl rfl rfl rfl (t := 50) rfl rfl rfl rfl rfl ((H2.row (l := .x 2) rfl).src (t := 50) rfl) (by omega) ?_
  intro h2 w3 H3
  refine WL.vald rfl rfl rfl (v := (.pointer (some ⟨S.gb, 0, none⟩))) (x_nilc rfl rfl) ?_
  refine WL.vald rfl rfl rfl (v := (.pointer (some ⟨S.gb, 2, none⟩))) (x_field rfl rfl (off := 2) (by kernel_rfl) rfl) ?_
  refine WL.storeVH H3 (l := .g) rfl rfl rfl rfl (k := 2) rfl (ys := [h2]) (cells1 (H3.row (l := .f 2) rfl)) (by kernel_rfl) (Nat.le_of_ble_eq_true rfl) (one_cons (H3.row (l := .f 2) rfl).one one_nil) ?_
  intro w4 H4
  refine WL.nil (WC.seq (WC.region ?_))
  have HA : Hp w B w4 (lay { S with h2 := h2, ne := S.ne + 1, eqs := S.eqs ++ [.int .i64 (a : Int), .int .i64 (b : Int)] }) := ((H4.drop (.x 2)).drop (.x 1)).eq (loc_cases rfl rfl rfl rfl rfl rfl rfl rfl rfl (fun _ => rfl) (fun _ => rfl) (fun _ => rfl) (fun _ => rfl) rfl rfl rfl rfl (fun _ => rfl) rfl)
  have hG1 : GI Ln E A { S with h2 := h2, ne := S.ne + 1, eqs := S.eqs ++ [.int .i64 (a : Int), .int .i64 (b : Int)] } rt us sg ([(a, b, (S.ne : Int))].map pr) := (hG.push ha hb hab).eqs h2 _ _
  refine WL.vald rfl rfl rfl (v := (.pointer (some ⟨S.gb, 0, none⟩))) (x_move rfl rfl) ?_
  refine WL.vald rfl rfl rfl (v := (.int .i64 ((a : Int)))) (x_move rfl rfl) ?_
  refine WL.vald rfl rfl rfl (v := (.int .i64 ((b : Int)))) (x_move rfl rfl) ?_
  refine WL.vald rfl rfl rfl (v := (.int .i64 (((S.ne : Nat) : Int)))) (x_move rfl rfl) ?_
  refine WL.vald rfl rfl rfl (v := (.agg #[(.int .i64 ((a : Int))), (.int .i64 ((b : Int))), (.int .i64 (((S.ne : Nat) : Int)))])) (x_build rfl (by kernel_rfl)) ?_
  refine WL.litH HA (.x 0) rfl rfl rfl rfl (t := 66) rfl rfl rfl rfl rfl rfl (xs := pw (a, b, (S.ne : Int))) rfl (cells_one rfl) pw_one ?_
  intro w5 H5
  refine WL.calld rfl rfl rfl rfl rfl (runs_merge (T0 := [(a, b, (S.ne : Int))]) (H5.begG0 (LX0_g _ _) rfl) hE hG1 hL hA1 (by have := cnt_le Ln rt; have : (Ln + 1) * cnt Ln rt ≤ 1001 * 1000 := Nat.mul_le_mul (by omega) (by omega); simp only [List.length_singleton]; omega)) ?_
  rintro _ wz ⟨S2, rt2, us2, sg2, hG2, hgb, hEq, KZ⟩
  have HZ := (H5.retG0 (LX0_g _ _) KZ).eq (L' := lay S2) (loc_cases rfl rfl rfl rfl rfl rfl rfl rfl rfl (fun _ => rfl) (fun _ => rfl) (fun _ => rfl) (fun _ => rfl) rfl rfl rfl rfl (fun _ => rfl) rfl)
  refine WL.nil (WC.seq (WC.region ?_))
  refine WL.vald rfl rfl rfl (v := (.int .i64 (((S.ne : Nat) : Int)))) (x_move rfl rfl) ?_
  refine WL.vald rfl rfl rfl (v := (.int .i64 (((S.ne : Nat) : Int)))) (x_assign rfl rfl) ?_
  refine WL.vald rfl rfl rfl (v := (.int .i64 (0))) (x_assign rfl rfl) ?_
  exact WL.nil (WC.ret ⟨.inr rfl, [.int .i64 (S.ne : Int), .int .i64 0], rfl, S2, rt2, us2, sg2, hG2, hgb, hEq a b (.pair (List.mem_singleton.2 rfl)), fun c d h => hEq c d (.rt h), rfl, HZ⟩)
end Go.Gr
end
