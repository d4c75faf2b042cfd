/- What the rows of this seat rest on, part 5: an abstract machine for the model, proved sound, and the functions that the statements reach. No conditions. -/
import Derived.Test.YtnbeejpnfoegdaaXBase4
set_option linter.unusedVariables false
set_option linter.unusedSimpArgs false
set_option linter.unnecessarySimpa false
set_option linter.unusedSectionVars false
section
/- States and rounds of ratio, its longer functions (2), as a program of this session printed them. -/
set_option maxRecDepth 10000
namespace Go.Abs
open Go.Proofs Go.Dig
noncomputable section
namespace QParse
abbrev ans : Ans := [(15, ansParse), (30, ansWhole), (47, ansFrom), (34, ansCmp), (22, ansGcd), (63, ansMade)]
abbrev orc : Orc := orcOf ans
noncomputable def L0 : Code := lp Try.f25 0
theorem isL0 : ∃ a, L0 = .loop a := ⟨_, rfl⟩
abbrev D0 : List Nat := [0, 2, 3, 4, 13, 14, 15]
abbrev st0 (s : ByteArray) (x0 : Int) (x1 : Int) : St := ⟨.str s :: tops 1 (.ptr 2 0 0 :: .int .i64 (0) :: .int .i64 x0 :: tops 8 (.str s :: .int .i64 (↑s.size : Int) :: .int .i64 x1 :: tops 71 ([]))), nos 2 (varE [(false, .bool false), (true, .ints .u32 []), (false, .bool false), (true, .ints .u32 [])] :: nos 84 ([]))⟩
theorem round0 (s : ByteArray) (x0 : Int) (x1 : Int) : goL T orc (noTab) D0 L0 (st0 s x0 x1) =
    (bif decide (x1 < (↑s.size : Int)) then (bif inB x1 s.size then (bif bt s x1 == 47 then (bif decide (x0 < 0) then some (.normal, st0 s x1 (IntKind.i64.wrap (x1 + 1))) else some (.normal, st0 s x0 (IntKind.i64.wrap (x1 + 1)))) else some (.normal, st0 s x0 (IntKind.i64.wrap (x1 + 1)))) else none) else some (.exit 0, st0 s x0 x1)) := by kernel_rfl
-- loop 0 ends exit0 st0 s x0 x1
theorem rest (s : ByteArray) (x2 : Int) (x3 : Int) : runT T orc (tabOf T orc [(3, 140133836606581558694960775030421191700613803428593887861770753779035683561919948981276573565390563503854, .exit 0, st0 s x2 x3)]) Try.f25 [.str s] =
    (bif cdec (Ends T orc L0 D0 (st0 s (-1) (0)) (.exit 0) (st0 s x2 x3)) then (bif decide (x2 < 0) then (bif decide (s.size ≤ 10000) then some (.val (.tup [.agg [.bool (sg (rv s)), .ints .u32 (lb (4294967296) (rv s)), .bool false, .ints .u32 []], .int .i64 (re s)])) else none) else (bif decide (0 ≤ x2) && decide (x2 ≤ (↑s.size : Int)) then (bif decide ((s.extract 0 x2.toNat).size ≤ 10000) then (bif decide (0 ≤ IntKind.i64.wrap (x2 + 1)) && decide (IntKind.i64.wrap (x2 + 1) ≤ (↑s.size : Int)) then (bif decide ((s.extract (IntKind.i64.wrap (x2 + 1)).toNat s.size).size ≤ 10000) then (bif re (s.extract 0 x2.toNat) == 10 then some (.val (.tup [.agg [.bool false, .ints .u32 [], .bool false, .ints .u32 []], .int .i64 (10)])) else (bif re (s.extract (IntKind.i64.wrap (x2 + 1)).toNat s.size) == 10 then some (.val (.tup [.agg [.bool false, .ints .u32 [], .bool false, .ints .u32 []], .int .i64 (10)])) else (bif re (s.extract 0 x2.toNat) != 0 then some (.val (.tup [.agg [.bool false, .ints .u32 [], .bool false, .ints .u32 []], .int .i64 (11)])) else (bif re (s.extract (IntKind.i64.wrap (x2 + 1)).toNat s.size) != 0 then some (.val (.tup [.agg [.bool false, .ints .u32 [], .bool false, .ints .u32 []], .int .i64 (11)])) else (bif cn (4294967296) (sg (rv (s.extract (IntKind.i64.wrap (x2 + 1)).toNat s.size))) (lb (4294967296) (rv (s.extract (IntKind.i64.wrap (x2 + 1)).toNat s.size))) && true then (bif decide (cmpZ (N (4294967296) (rv (s.extract (IntKind.i64.wrap (x2 + 1)).toNat s.size))) (num (4294967296) false (lb (4294967296) (1))) ≤ 0) then some (.val (.tup [.agg [.bool false, .ints .u32 [], .bool false, .ints .u32 []], .int .i64 (10)])) else (bif cn (4294967296) (sg (rv (s.extract 0 x2.toNat))) (lb (4294967296) (rv (s.extract 0 x2.toNat))) && cn (4294967296) (sg (rv (s.extract (IntKind.i64.wrap (x2 + 1)).toNat s.size))) (lb (4294967296) (rv (s.extract (IntKind.i64.wrap (x2 + 1)).toNat s.size))) then (bif cn (4294967296) false (lb (4294967296) (gz (N (4294967296) (rv (s.extract 0 x2.toNat))) (N (4294967296) (rv (s.extract (IntKind.i64.wrap (x2 + 1)).toNat s.size))))) && true then (bif cmpZ (num (4294967296) false (lb (4294967296) (gz (N (4294967296) (rv (s.extract 0 x2.toNat))) (N (4294967296) (rv (s.extract (IntKind.i64.wrap (x2 + 1)).toNat s.size)))))) (num (4294967296) false (lb (4294967296) (1))) != 0 then some (.val (.tup [.agg [.bool false, .ints .u32 [], .bool false, .ints .u32 []], .int .i64 (10)])) else (bif cn (4294967296) (sg (rv (s.extract (IntKind.i64.wrap (x2 + 1)).toNat s.size))) (lb (4294967296) (rv (s.extract (IntKind.i64.wrap (x2 + 1)).toNat s.size))) then some (.val (.tup [.agg [.bool (sg (rv (s.extract 0 x2.toNat))), .ints .u32 (lb (4294967296) (rv (s.extract 0 x2.toNat))), .bool (sg (zd (N (4294967296) (rv (s.extract (IntKind.i64.wrap (x2 + 1)).toNat s.size))))), .ints .u32 (lb (4294967296) (zd (N (4294967296) (rv (s.extract (IntKind.i64.wrap (x2 + 1)).toNat s.size)))))], .int .i64 (0)])) else none)) else none) else none)) else none))))) else none) else none) else none) else none)) else none) := by kernel_rfl
end QParse
namespace QCmp
abbrev ans : Ans := [(20, ansDen), (74, ansDiv), (34, ansCmp), (21, ansSign)]
abbrev orc : Orc := orcOf ans
noncomputable def L0 : Code := lp Try.f41 0
theorem isL0 : ∃ a, L0 = .loop a := ⟨_, rfl⟩
abbrev D0 : List Nat := [0, 1, 2, 3, 4, 5, 6, 7, 8, 9, 17, 18, 19, 20, 21, 22, 23, 24]
abbrev st0 (s : Bool) (l : List Int) (t : Bool) (m : List Int) (sy : Bool) (ly : List Int) (ty : Bool) (my : List Int) (b0 : Bool) (l0 : List Int) (b1 : Bool) (l1 : List Int) (b2 : Bool) (l2 : List Int) (b3 : Bool) (l3 : List Int) : St := ⟨.agg [.bool s, .ints .u32 l, .bool t, .ints .u32 m] :: .agg [.bool sy, .ints .u32 ly, .bool ty, .ints .u32 my] :: .ptr 2 0 0 :: .ptr 3 0 0 :: .int .i64 (0) :: .ptr 5 0 0 :: .ptr 6 0 0 :: .ptr 7 0 0 :: .ptr 8 0 0 :: .int .i64 (1) :: tops 7 (.ptr 2 0 0 :: .agg [.bool s, .ints .u32 l] :: .agg [.bool s, .ints .u32 l, .bool t, .ints .u32 m] :: R (dn (num (4294967296) t m)) :: .ptr 3 0 0 :: .agg [.bool sy, .ints .u32 ly] :: .agg [.bool sy, .ints .u32 ly, .bool ty, .ints .u32 my] :: R (dn (num (4294967296) ty my)) :: tops 41 ([])), nos 2 (varE [(false, .bool s), (false, .ints .u32 l), (false, .bool t), (false, .ints .u32 m)] :: varE [(false, .bool sy), (false, .ints .u32 ly), (false, .bool ty), (false, .ints .u32 my)] :: nos 1 (varE [(false, .bool b0), (false, .ints .u32 l0)] :: varE [(false, .bool b1), (false, .ints .u32 l1)] :: varE [(false, .bool b2), (false, .ints .u32 l2)] :: varE [(false, .bool b3), (false, .ints .u32 l3)] :: nos 57 ([])))⟩
abbrev st0x0 (s : Bool) (l : List Int) (t : Bool) (m : List Int) (sy : Bool) (ly : List Int) (ty : Bool) (my : List Int) (x0 : Int) (b0 : Bool) (l0 : List Int) (b1 : Bool) (l1 : List Int) (b2 : Bool) (l2 : List Int) (b3 : Bool) (l3 : List Int) : St := ⟨.agg [.bool s, .ints .u32 l, .bool t, .ints .u32 m] :: .agg [.bool sy, .ints .u32 ly, .bool ty, .ints .u32 my] :: .ptr 2 0 0 :: .ptr 3 0 0 :: .int .i64 x0 :: .ptr 5 0 0 :: .ptr 6 0 0 :: .ptr 7 0 0 :: .ptr 8 0 0 :: .int .i64 (1) :: tops 7 (.ptr 2 0 0 :: .agg [.bool s, .ints .u32 l] :: .agg [.bool s, .ints .u32 l, .bool t, .ints .u32 m] :: R (dn (num (4294967296) t m)) :: .ptr 3 0 0 :: .agg [.bool sy, .ints .u32 ly] :: .agg [.bool sy, .ints .u32 ly, .bool ty, .ints .u32 my] :: R (dn (num (4294967296) ty my)) :: tops 41 ([])), nos 2 (varE [(false, .bool s), (false, .ints .u32 l), (false, .bool t), (false, .ints .u32 m)] :: varE [(false, .bool sy), (false, .ints .u32 ly), (false, .bool ty), (false, .ints .u32 my)] :: nos 1 (varE [(false, .bool b0), (false, .ints .u32 l0)] :: varE [(false, .bool b1), (false, .ints .u32 l1)] :: varE [(false, .bool b2), (false, .ints .u32 l2)] :: varE [(false, .bool b3), (false, .ints .u32 l3)] :: nos 57 ([])))⟩
theorem round0 (s : Bool) (l : List Int) (t : Bool) (m : List Int) (sy : Bool) (ly : List Int) (ty : Bool) (my : List Int) (b3 : Bool) (l3 : List Int) (b2 : Bool) (l2 : List Int) (b1 : Bool) (l1 : List Int) (b0 : Bool) (l0 : List Int) : goL T orc (noTab) D0 L0 (st0 s l t m sy ly ty my b0 l0 b1 l1 b2 l2 b3 l3) =
    (bif cn (4294967296) b0 l0 && cn (4294967296) b1 l1 then (bif cn (4294967296) b2 l2 && cn (4294967296) b3 l3 then (bif cn (4294967296) (sg (dq (num (4294967296) b0 l0) (num (4294967296) b1 l1))) (lb (4294967296) (dq (num (4294967296) b0 l0) (num (4294967296) b1 l1))) && cn (4294967296) (sg (dq (num (4294967296) b2 l2) (num (4294967296) b3 l3))) (lb (4294967296) (dq (num (4294967296) b2 l2) (num (4294967296) b3 l3))) then (bif cmpZ (N (4294967296) (dq (num (4294967296) b0 l0) (num (4294967296) b1 l1))) (N (4294967296) (dq (num (4294967296) b2 l2) (num (4294967296) b3 l3))) != 0 then some (.ret, st0x0 s l t m sy ly ty my (IntKind.i64.wrap (1 * cmpZ (N (4294967296) (dq (num (4294967296) b0 l0) (num (4294967296) b1 l1))) (N (4294967296) (dq (num (4294967296) b2 l2) (num (4294967296) b3 l3))))) b0 l0 b1 l1 b2 l2 b3 l3) else (bif cn (4294967296) (sg (dr (num (4294967296) b0 l0) (num (4294967296) b1 l1))) (lb (4294967296) (dr (num (4294967296) b0 l0) (num (4294967296) b1 l1))) then (bif cmpZ (N (4294967296) (dr (num (4294967296) b0 l0) (num (4294967296) b1 l1))) (0) == 0 then (bif cn (4294967296) (sg (dr (num (4294967296) b0 l0) (num (4294967296) b1 l1))) (lb (4294967296) (dr (num (4294967296) b0 l0) (num (4294967296) b1 l1))) then (bif cn (4294967296) (sg (dr (num (4294967296) b2 l2) (num (4294967296) b3 l3))) (lb (4294967296) (dr (num (4294967296) b2 l2) (num (4294967296) b3 l3))) then some (.ret, st0x0 s l t m sy ly ty my (IntKind.i64.wrap (1 * IntKind.i64.wrap (cmpZ (N (4294967296) (dr (num (4294967296) b0 l0) (num (4294967296) b1 l1))) (0) - cmpZ (N (4294967296) (dr (num (4294967296) b2 l2) (num (4294967296) b3 l3))) (0)))) b0 l0 b1 l1 b2 l2 b3 l3) else none) else none) else (bif cn (4294967296) (sg (dr (num (4294967296) b2 l2) (num (4294967296) b3 l3))) (lb (4294967296) (dr (num (4294967296) b2 l2) (num (4294967296) b3 l3))) then (bif cmpZ (N (4294967296) (dr (num (4294967296) b2 l2) (num (4294967296) b3 l3))) (0) == 0 then (bif cn (4294967296) (sg (dr (num (4294967296) b0 l0) (num (4294967296) b1 l1))) (lb (4294967296) (dr (num (4294967296) b0 l0) (num (4294967296) b1 l1))) then (bif cn (4294967296) (sg (dr (num (4294967296) b2 l2) (num (4294967296) b3 l3))) (lb (4294967296) (dr (num (4294967296) b2 l2) (num (4294967296) b3 l3))) then some (.ret, st0x0 s l t m sy ly ty my (IntKind.i64.wrap (1 * IntKind.i64.wrap (cmpZ (N (4294967296) (dr (num (4294967296) b0 l0) (num (4294967296) b1 l1))) (0) - cmpZ (N (4294967296) (dr (num (4294967296) b2 l2) (num (4294967296) b3 l3))) (0)))) b0 l0 b1 l1 b2 l2 b3 l3) else none) else none) else some (.normal, st0 s l t m sy ly ty my b3 l3 (sg (dr (num (4294967296) b2 l2) (num (4294967296) b3 l3))) (lb (4294967296) (dr (num (4294967296) b2 l2) (num (4294967296) b3 l3))) b1 l1 (sg (dr (num (4294967296) b0 l0) (num (4294967296) b1 l1))) (lb (4294967296) (dr (num (4294967296) b0 l0) (num (4294967296) b1 l1))))) else none)) else none)) else none) else none) else none) := by kernel_rfl
-- loop 0 ends ret st0x0 s l t m sy ly ty my x0 b0 l0 b1 l1 b2 l2 b3 l3
theorem rest (s : Bool) (l : List Int) (t : Bool) (m : List Int) (sy : Bool) (ly : List Int) (ty : Bool) (my : List Int) (x1 : Int) (b4 : Bool) (l4 : List Int) (b5 : Bool) (l5 : List Int) (b6 : Bool) (l6 : List Int) (b7 : Bool) (l7 : List Int) : runT T orc (tabOf T orc [(3, 13848507716152032414982433608619272868966456133976357270117913081856935018295022, .ret, st0x0 s l t m sy ly ty my x1 b4 l4 b5 l5 b6 l6 b7 l7)]) Try.f41 [.agg [.bool s, .ints .u32 l, .bool t, .ints .u32 m], .agg [.bool sy, .ints .u32 ly, .bool ty, .ints .u32 my]] =
    (bif cn (4294967296) t m then (bif cn (4294967296) ty my then (bif cdec (Ends T orc L0 D0 (st0 s l t m sy ly ty my s l (sg (dn (num (4294967296) t m))) (lb (4294967296) (dn (num (4294967296) t m))) sy ly (sg (dn (num (4294967296) ty my))) (lb (4294967296) (dn (num (4294967296) ty my)))) .ret (st0x0 s l t m sy ly ty my x1 b4 l4 b5 l5 b6 l6 b7 l7)) then some (.val (.int .i64 x1)) else none) else none) else none) := by kernel_rfl
end QCmp
namespace QFold
abbrev ans : Ans := [(29, ansQAdd)]
abbrev orc : Orc := orcOf ans
noncomputable def L0 : Code := lp Try.f37 0
theorem isL0 : ∃ a, L0 = .loop a := ⟨_, rfl⟩
abbrev D0 : List Nat := [0, 1, 2, 3, 6, 7, 12, 13, 14]
abbrev st0 (r : List (List AV)) (x0 : Int) (b0 : Bool) (l0 : List Int) (l1 : List Int) : St := ⟨.agg [.bool false, .ints .u32 [], .bool false, .ints .u32 []] :: .rows 4 r :: .fn 29 [] :: .ptr 3 0 0 :: tops 2 (.ptr 6 0 0 :: .int .i64 (0) :: tops 4 (.rows 4 r :: .int .i64 (↑r.length : Int) :: .int .i64 x0 :: tops 17 ([]))), nos 3 (varE [(false, .bool b0), (false, .ints .u32 l0), (false, .bool false), (false, .ints .u32 l1)] :: nos 2 (varE [(false, .bool false), (true, .ints .u32 []), (false, .bool false), (true, .ints .u32 [])] :: nos 25 ([])))⟩
abbrev st0x0 (r : List (List AV)) (x1 : Int) (x0 : Int) (b0 : Bool) (l0 : List Int) (l1 : List Int) : St := ⟨.agg [.bool false, .ints .u32 [], .bool false, .ints .u32 []] :: .rows 4 r :: .fn 29 [] :: .ptr 3 0 0 :: tops 2 (.ptr 6 0 0 :: .int .i64 x1 :: tops 4 (.rows 4 r :: .int .i64 (↑r.length : Int) :: .int .i64 x0 :: tops 17 ([]))), nos 3 (varE [(false, .bool b0), (false, .ints .u32 l0), (false, .bool false), (false, .ints .u32 l1)] :: nos 2 (varE [(false, .bool false), (true, .ints .u32 []), (false, .bool false), (true, .ints .u32 [])] :: nos 25 ([])))⟩
theorem round0 (r : List (List AV)) (x0 : Int) (b0 : Bool) (l0 : List Int) (l1 : List Int) : goL T orc (noTab) D0 L0 (st0 r x0 b0 l0 l1) =
    (bif decide (x0 < (↑r.length : Int)) then (bif inB x0 r.length then (bif etasOk [.bool false, .ints .u32 [], .bool false, .ints .u32 []] (r.getD x0.toNat []) then (bif isQ b0 l0 false l1 && isQ (gBool ((r.getD x0.toNat []).getD 0 .top)) (gInts ((r.getD x0.toNat []).getD 1 .top)) (gBool ((r.getD x0.toNat []).getD 2 .top)) (gInts ((r.getD x0.toNat []).getD 3 .top)) then (bif eadd (rq b0 l0 l1) (rq (gBool ((r.getD x0.toNat []).getD 0 .top)) (gInts ((r.getD x0.toNat []).getD 1 .top)) (gInts ((r.getD x0.toNat []).getD 3 .top))) != 0 then some (.ret, st0x0 r (eadd (rq b0 l0 l1) (rq (gBool ((r.getD x0.toNat []).getD 0 .top)) (gInts ((r.getD x0.toNat []).getD 1 .top)) (gInts ((r.getD x0.toNat []).getD 3 .top)))) x0 b0 l0 l1) else some (.normal, st0 r (IntKind.i64.wrap (x0 + 1)) (sg (qadd (rq b0 l0 l1) (rq (gBool ((r.getD x0.toNat []).getD 0 .top)) (gInts ((r.getD x0.toNat []).getD 1 .top)) (gInts ((r.getD x0.toNat []).getD 3 .top)))).num) (lb (4294967296) (qadd (rq b0 l0 l1) (rq (gBool ((r.getD x0.toNat []).getD 0 .top)) (gInts ((r.getD x0.toNat []).getD 1 .top)) (gInts ((r.getD x0.toNat []).getD 3 .top)))).num) (lb (4294967296) (zd (↑(qadd (rq b0 l0 l1) (rq (gBool ((r.getD x0.toNat []).getD 0 .top)) (gInts ((r.getD x0.toNat []).getD 1 .top)) (gInts ((r.getD x0.toNat []).getD 3 .top)))).den : Int))))) else none) else none) else none) else some (.exit 0, st0 r x0 b0 l0 l1)) := by kernel_rfl
-- loop 0 ends ret st0x0 r x1 x0 b0 l0 l1
-- loop 0 ends exit0 st0 r x0 b0 l0 l1
theorem rest_0 (r : List (List AV)) (x2 : Int) (x3 : Int) (b1 : Bool) (l2 : List Int) (l3 : List Int) : runT T orc (tabOf T orc [(2, 156651242700651988155879198154009013998, .ret, st0x0 r x2 x3 b1 l2 l3)]) Try.f37 [.agg [.bool false, .ints .u32 [], .bool false, .ints .u32 []], .rows 4 r, .fn 29 []] =
    (bif cdec (Ends T orc L0 D0 (st0 r (0) (false) ([]) ([])) .ret (st0x0 r x2 x3 b1 l2 l3)) then some (.val (.tup [.agg [.bool false, .ints .u32 [], .bool false, .ints .u32 []], .int .i64 x2])) else none) := by kernel_rfl
theorem rest_1 (r : List (List AV)) (b2 : Bool) (l4 : List Int) (l5 : List Int) (x4 : Int) : runT T orc (tabOf T orc [(2, 156651242700651988155879198154009013998, .exit 0, st0 r x4 b2 l4 l5)]) Try.f37 [.agg [.bool false, .ints .u32 [], .bool false, .ints .u32 []], .rows 4 r, .fn 29 []] =
    (bif cdec (Ends T orc L0 D0 (st0 r (0) (false) ([]) ([])) (.exit 0) (st0 r x4 b2 l4 l5)) then some (.val (.tup [.agg [.bool b2, .ints .u32 l4, .bool false, .ints .u32 l5], .int .i64 (0)])) else none) := by kernel_rfl
end QFold
namespace QSum
abbrev ans : Ans := [(37, (ansFoldAdd 29))]
abbrev orc : Orc := orcOf ans
theorem rest (r : List (List AV)) : runT T orc (noTab) Try.f35 [.rows 4 r] =
    (bif true && (r.all rowIsQ && decide (r.length ≤ 100000)) then some (.val (.tup [.agg [.bool (sg (sumQv (List.map rowQ r)).num), .ints .u32 (lb (4294967296) (sumQv (List.map rowQ r)).num), .bool false, .ints .u32 (lb (4294967296) (zd (↑(sumQv (List.map rowQ r)).den : Int)))], .int .i64 (sumQe (List.map rowQ r))])) else none) := by kernel_rfl
end QSum
end
end Go.Abs
end
section
/- Orders and sums of lists in ratio. -/
namespace Go.Abs
open Go.Proofs Go.Dig
theorem cmpZ_of_lt {x y : Int} (h : x < y) : cmpZ x y = -1 := by unfold cmpZ; rw [if_pos h]
theorem cmpZ_of_gt {x y : Int} (h : y < x) : cmpZ x y = 1 := by unfold cmpZ; rw [if_neg (by omega), if_pos (by omega)]
theorem cmp_less {A B C D p q r s : Int} (hB : 0 < B) (hD : 0 < D) (hA : r + B * p = A) (hC : s + D * q = C) (hr' : r < B) (hs : 0 ≤ s) (h : p < q) : A * D < C * B := by
  have e1 : A * D = r * D + p * (B * D) := by grind
  have e2 : C * B = s * B + q * (B * D) := by grind
  have h1 : r * D < B * D := Int.mul_lt_mul_of_pos_right hr' hD
  have h2 : 0 ≤ s * B := Int.mul_nonneg hs (by omega)
  have h3 : (p + 1) * (B * D) ≤ q * (B * D) := Int.mul_le_mul_of_nonneg_right (by omega) (Int.mul_nonneg (by omega) (by omega))
  rw [Int.add_mul, Int.one_mul] at h3
  omega
theorem cmp_step {A B C D p q r s : Int} (hB : 0 < B) (hD : 0 < D) (hA : r + B * p = A) (hC : s + D * q = C) (hr : 0 ≤ r) (hr' : r < B) (hs : 0 ≤ s) (hs' : s < D) :
    (p ≠ q → cmpZ (A * D) (C * B) = cmpZ p q) ∧ (p = q → cmpZ (A * D) (C * B) = cmpZ (D * r) (B * s)) ∧ (p = q → r = 0 ∨ s = 0 → cmpZ (A * D) (C * B) = cmpZ r 0 - cmpZ s 0) := by
  have key : p = q → cmpZ (A * D) (C * B) = cmpZ (D * r) (B * s) := fun h => by
    subst h
    rw [show A * D = D * r + p * (B * D) by grind, show C * B = B * s + p * (B * D) by grind, cmpZ_add]
  refine ⟨fun h => ?_, key, fun h h0 => ?_⟩
  · rcases Int.lt_or_gt_of_ne h with h1 | h1
    · rw [cmpZ_of_lt h1, cmpZ_of_lt (cmp_less hB hD hA hC hr' hs h1)]
    · rw [cmpZ_of_gt h1, cmpZ_of_gt (cmp_less hD hB hC hA hs' hr h1)]
  · rw [key h]
    rcases h0 with rfl | rfl
    · rw [Int.mul_zero, cmpZ_self]
      by_cases h1 : s = 0
      · subst h1; rw [Int.mul_zero, cmpZ_self]; rfl
      · have : 0 < B * s := Int.mul_pos hB (by omega)
        rw [cmpZ_of_lt this, cmpZ_of_gt (show 0 < s by omega)]; rfl
    · rw [Int.mul_zero, cmpZ_self]
      by_cases h1 : r = 0
      · subst h1; rw [Int.mul_zero, cmpZ_self]; rfl
      · have : 0 < D * r := Int.mul_pos hD (by omega)
        rw [cmpZ_of_gt this, cmpZ_of_gt (show 0 < r by omega)]; rfl
namespace QCmp
theorem loop (s : Bool) (l : List Int) (t : Bool) (m : List Int) (sy : Bool) (ly : List Int) (ty : Bool) (my : List Int) (A B C D : Int) (hA : A.natAbs < Lim) (hB : B.natAbs < Lim) (hC : C.natAbs < Lim) (hD : D.natAbs < Lim) (pB : 0 < B) (pD : 0 < D) :
    ∃ e S1, Ends T orc L0 D0 (st0 s l t m sy ly ty my (sg A) (lb 4294967296 A) (sg B) (lb 4294967296 B) (sg C) (lb 4294967296 C) (sg D) (lb 4294967296 D)) e S1 ∧ e = .ret ∧ ∃ b0 l0 b1 l1 b2 l2 b3 l3, S1 = st0x0 s l t m sy ly ty my (cmpZ (A * D) (C * B)) b0 l0 b1 l1 b2 l2 b3 l3 := by
  refine loop_inv4 (fun (a b c d : Int) => st0 s l t m sy ly ty my (sg a) (lb 4294967296 a) (sg b) (lb 4294967296 b) (sg c) (lb 4294967296 c) (sg d) (lb 4294967296 d))
    (fun a b c d => a.natAbs < Lim ∧ b.natAbs < Lim ∧ c.natAbs < Lim ∧ d.natAbs < Lim ∧ 0 < b ∧ 0 < d ∧ cmpZ (a * d) (c * b) = cmpZ (A * D) (C * B)) (fun a b c d => b.natAbs + d.natAbs)
    (fun e S1 => e = .ret ∧ ∃ b0 l0 b1 l1 b2 l2 b3 l3, S1 = st0x0 s l t m sy ly ty my (cmpZ (A * D) (C * B)) b0 l0 b1 l1 b2 l2 b3 l3) isL0 ?_ A B C D ⟨hA, hB, hC, hD, pB, pD, rfl⟩
  intro a b c d ⟨ha, hb, hc, hd, pb, pd, hv⟩
  refine ⟨noTab, noTab_all, lands_of (round0 ..) ?_⟩
  obtain ⟨x1, x2⟩ := dq_dr a (show b ≠ 0 by omega)
  obtain ⟨y1, y2⟩ := dq_dr c (show d ≠ 0 by omega)
  have q1 : (dq a b).natAbs < Lim := Nat.lt_of_le_of_lt (dq_le a (by omega)) ha
  have q2 : (dq c d).natAbs < Lim := Nat.lt_of_le_of_lt (dq_le c (by omega)) hc
  have r1 : (dr a b).natAbs < Lim := Nat.lt_of_le_of_lt (show _ ≤ b.natAbs by omega) hb
  have r2 : (dr c d).natAbs < Lim := Nat.lt_of_le_of_lt (show _ ≤ d.natAbs by omega) hd
  obtain ⟨k1, k2, k3⟩ := cmp_step pb pd x1 y1 (by omega) (by omega) (by omega) (by omega)
  simp only [num_lbW, N_eq, cnW, decide_eq_true ha, decide_eq_true hb, decide_eq_true hc, decide_eq_true hd, decide_eq_true q1, decide_eq_true q2, decide_eq_true r1, decide_eq_true r2, Bool.and_self, cond_true]
  rw [hv] at k1 k2 k3
  generalize cmpZ (A * D) (C * B) = V at *
  generalize dq a b = p at *
  generalize dq c d = q at *
  generalize dr a b = x at *
  generalize dr c d = y at *
  have w1 : ∀ z : Int, -2 ≤ z → z ≤ 2 → IntKind.i64.wrap z = z := fun z h1 h2 => w64 (by omega) (by omega)
  by_cases hpq : p = q
  · have hc0 : (cmpZ p q != 0) = false := by rw [hpq, cmpZ_self]; rfl
    rw [hc0, cond_false, cmp0, cmp0]
    have b1 := cmpZ_bound x 0
    have b2 := cmpZ_bound y 0
    have hw : IntKind.i64.wrap (1 * IntKind.i64.wrap (cmpZ x 0 - cmpZ y 0)) = cmpZ x 0 - cmpZ y 0 := by rw [w1 (cmpZ x 0 - cmpZ y 0) (by omega) (by omega), Int.one_mul, w1 _ (by omega) (by omega)]
    by_cases hx : x = 0
    · rw [decide_eq_true hx, cond_true, hw, ← k3 hpq (.inl hx)]
      simp only [lands_some, Turns4]
      exact ⟨trivial, _, _, _, _, _, _, _, _, rfl⟩
    · rw [decide_eq_false hx, cond_false]
      by_cases hy : y = 0
      · rw [decide_eq_true hy, cond_true, hw, ← k3 hpq (.inr hy)]
        simp only [lands_some, Turns4]
        exact ⟨trivial, _, _, _, _, _, _, _, _, rfl⟩
      · rw [decide_eq_false hy, cond_false]
        simp only [lands_some, Turns4]
        exact ⟨d, y, b, x, rfl, ⟨hd, r2, hb, r1, by omega, by omega, (k2 hpq).symm⟩, by omega⟩
  · have b1 := cmpZ_bound p q
    have hne : (cmpZ p q != 0) = true := by
      rw [bne_iff_ne]; unfold cmpZ; (repeat' split) <;> omega
    rw [hne, cond_true, Int.one_mul, w1 _ (by omega) (by omega), ← k1 hpq]
    simp only [lands_some, Turns4]
    exact ⟨trivial, _, _, _, _, _, _, _, _, rfl⟩
end QCmp
theorem meets_qcmp : Meets Try.prog 41 ansQCmp := by
  refine meets_fn (orc_ok (l := QCmp.ans) ⟨meets_qden, meets_div, meets_cmp, meets_sign, trivial⟩) Try.f41 rfl (by kernel_rfl) (fun args r h => ?_)
  unfold ansQCmp at h
  split at h
  · rename_i s l t m s' l' t' m'
    simp only [Option.some.injEq, Prod.mk.injEq] at h
    obtain ⟨h1, rfl⟩ := h
    rw [Bool.and_eq_true] at h1
    obtain ⟨q, hq, rfl, rfl, rfl, rfl⟩ := isQ_iff.1 h1.1
    obtain ⟨p, hp, rfl, rfl, rfl, rfl⟩ := isQ_iff.1 h1.2
    have dq := den_pos' q
    have dp := den_pos' p
    obtain ⟨e1, S1, hE1, rfl, b0, l0, b1, l1, b2, l2, b3, l3, rfl⟩ := QCmp.loop (sg q.num) (lb 4294967296 q.num) false (lb 4294967296 (zd q.den)) (sg p.num) (lb 4294967296 p.num) false (lb 4294967296 (zd p.den)) q.num q.den p.num p.den (small_of_fits (fitsQ_iff.1 hq).1) (small_of_fits (fitsQ_iff.1 hq).2) (small_of_fits (fitsQ_iff.1 hp).1) (small_of_fits (fitsQ_iff.1 hp).2) (by omega) (by omega)
    refine ⟨rfl, _, tabOf_all _, (QCmp.rest _ _ _ _ _ _ _ _ (cmpZ (q.num * p.den) (p.num * q.den)) b0 l0 b1 l1 b2 l2 b3 l3).trans ?_⟩
    refine (bT (cn_zd hq)).trans ((bT (cn_zd hp)).trans ?_)
    rw [num_zd, num_zd, dn_den, dn_den, rq_Q, rq_Q, cmpQ_eq]
    exact bT (cdec_true hE1)
  · cases h
end Go.Abs
end
section
/- Sums of lists and the reading of texts in ratio. -/
namespace Go.Abs
open Go.Proofs Go.Dig
theorem rowIsQ_iff {c : List AV} : rowIsQ c = true ↔ ∃ q : Rat, fitsQ q = true ∧ c = [.bool (sg q.num), .ints .u32 (lb 4294967296 q.num), .bool false, .ints .u32 (lb 4294967296 (zd q.den))] := by
  constructor
  · intro h
    unfold rowIsQ at h
    split at h
    · obtain ⟨q, hq, rfl, rfl, rfl, rfl⟩ := isQ_iff.1 h
      exact ⟨q, hq, rfl⟩
    · cases h
  · rintro ⟨q, hq, rfl⟩
    show isQ _ _ _ _ = true
    rw [isQ_Q]; exact hq
abbrev cQ (q : Rat) : List AV := [.bool (sg q.num), .ints .u32 (lb 4294967296 q.num), .bool false, .ints .u32 (lb 4294967296 (zd q.den))]
theorem rowQ_Q (q : Rat) : rowQ (cQ q) = q := rq_Q q
theorem rows_Q : ∀ {r : List (List AV)}, r.all rowIsQ = true → ∃ l : List Rat, r = l.map cQ ∧ ∀ q ∈ l, fitsQ q = true
  | [], _ => ⟨[], rfl, fun q h => by cases h⟩
  | c :: r, h => by
    rw [List.all_cons, Bool.and_eq_true] at h
    obtain ⟨l, rfl, hl⟩ := rows_Q h.2
    obtain ⟨q, hq, rfl⟩ := rowIsQ_iff.1 h.1
    exact ⟨q :: l, rfl, fun p hp => by
      rcases List.mem_cons.1 hp with rfl | hp
      · exact hq
      · exact hl p hp⟩
theorem map_rowQ (l : List Rat) : (l.map cQ).map rowQ = l := by rw [List.map_map]; exact (List.map_congr_left (fun q _ => rowQ_Q q)).trans (List.map_id l)
theorem eadd_cases (x y : Rat) : eadd x y = 0 ∨ eadd x y = 11 := by
  rw [eadd_eq]
  dsimp only
  generalize (_ && _ : Bool) = b
  cases b with
  | true => exact .inl rfl
  | false => exact .inr rfl
theorem fitsQ_add {x y : Rat} (hx : fitsQ x = true) (hy : fitsQ y = true) (h : eadd x y = 0) : fitsQ (x + y) = true := by
  rw [eadd_eq] at h
  dsimp only at h
  have hgc : ∀ T : Int, Int.gcd T ((Nat.gcd x.den y.den : Nat) : Int) = Nat.gcd T.natAbs (Nat.gcd x.den y.den) := fun _ => rfl
  rw [hgc] at h
  obtain ⟨n1, n2⟩ := add_parts x y _ (x.num * (y.den / Nat.gcd x.den y.den : Nat) + y.num * (x.den / Nat.gcd x.den y.den : Nat)) rfl rfl
  have n2' : ((x + y).den : Int) = ((x.den : Int) / (Nat.gcd x.den y.den : Nat)) * ((y.den : Int) / (Nat.gcd (x.num * ((y.den : Int) / (Nat.gcd x.den y.den : Nat)) + y.num * ((x.den : Int) / (Nat.gcd x.den y.den : Nat))).natAbs (Nat.gcd x.den y.den) : Nat)) := by
    simp only [n2, Int.natCast_mul, Int.natCast_ediv]
  rw [← n2'] at h
  simp only [Int.natCast_ediv] at n1
  rw [fitsQ_iff]
  generalize x.num * ((y.den : Int) / (Nat.gcd x.den y.den : Nat)) + y.num * ((x.den : Int) / (Nat.gcd x.den y.den : Nat)) = t at *
  cases h4 : fits ((x + y).den : Int) with
  | false => rw [h4, Bool.and_false] at h; exact absurd h (by simp)
  | true =>
    cases h3 : fits t with
    | false => rw [h3, Bool.and_false, Bool.false_and] at h; exact absurd h (by simp)
    | true =>
      refine ⟨?_, rfl⟩
      rw [n1]
      exact fits_le' h3 (Int.natAbs_ediv_le_natAbs ..)
theorem qadd_ok {x y : Rat} (h : eadd x y = 0) : qadd x y = x + y := by rw [qadd_eq, h]; rfl
theorem qadd_err {x y : Rat} (h : eadd x y ≠ 0) : qadd x y = 0 := by rw [qadd_eq, show (eadd x y == 0) = false from by rw [beq_eq_false_iff_ne]; exact h, cond_false]
namespace QFold
theorem loop (l : List Rat) (hl : ∀ q ∈ l, fitsQ q = true) (hn : l.length ≤ 4611686018427387904) :
    ∃ e S1, Ends T orc L0 D0 (st0 (l.map cQ) 0 (sg (0 : Rat).num) (lb 4294967296 (0 : Rat).num) (lb 4294967296 (zd (0 : Rat).den))) e S1 ∧
      ((e = .exit 0 ∧ ∃ s x, sumQ 0 l = some s ∧ S1 = st0 (l.map cQ) x (sg s.num) (lb 4294967296 s.num) (lb 4294967296 (zd s.den))) ∨ (e = .ret ∧ sumQ 0 l = none ∧ ∃ x b u v, S1 = st0x0 (l.map cQ) 11 x b u v)) := by
  refine loop_inv2 (fun (i : Nat) (s : Rat) => st0 (l.map cQ) i (sg s.num) (lb 4294967296 s.num) (lb 4294967296 (zd s.den))) (fun i s => i ≤ l.length ∧ fitsQ s = true ∧ sumQ 0 l = sumQ s (l.drop i)) (fun i s => l.length - i)
    (fun e S1 => (e = .exit 0 ∧ ∃ s x, sumQ 0 l = some s ∧ S1 = st0 (l.map cQ) x (sg s.num) (lb 4294967296 s.num) (lb 4294967296 (zd s.den))) ∨ (e = .ret ∧ sumQ 0 l = none ∧ ∃ x b u v, S1 = st0x0 (l.map cQ) 11 x b u v)) isL0 ?_ 0 0 ?_
  · intro i s ⟨k1, k2, k3⟩
    refine ⟨noTab, noTab_all, lands_of (round0 ..) ?_⟩
    rw [List.length_map]
    by_cases hi : i < l.length
    · have hf := hl _ (List.getElem_mem hi)
      have hg : (l.map cQ).getD (i : Int).toNat [] = cQ l[i] := by rw [Int.toNat_natCast, getD_at (by rw [List.length_map]; exact hi), List.getElem_map]
      have e0 : gBool ((cQ l[i]).getD 0 .top) = sg l[i].num := rfl
      have e1 : gInts ((cQ l[i]).getD 1 .top) = lb 4294967296 l[i].num := rfl
      have e2 : gBool ((cQ l[i]).getD 2 .top) = false := rfl
      have e3 : gInts ((cQ l[i]).getD 3 .top) = lb 4294967296 (zd l[i].den) := rfl
      have e4 : etasOk [.bool false, .ints .u32 [], .bool false, .ints .u32 []] (cQ l[i]) = true := rfl
      have hb : inB (i : Int) l.length = true := by rw [inB_iff]; omega
      rw [List.drop_eq_getElem_cons hi, sumQ] at k3
      rw [hg, e0, e1, e2, e3, e4, hb, isQ_Q, isQ_Q, rq_Q, rq_Q, k2, hf, decide_eq_true (show (i : Int) < l.length by omega)]
      simp only [Bool.and_self, cond_true, wi_succ (show i < 4611686018427387904 by omega)]
      by_cases he : eadd s l[i] = 0
      · rw [he, qadd_ok he]
        rw [he, show ((0 : Int) == 0) = true from rfl, cond_true] at k3
        rw [show ((0 : Int) != 0) = false from rfl, cond_false]
        simp only [lands_some, Turns2]
        exact ⟨i + 1, s + l[i], rfl, ⟨by omega, fitsQ_add k2 hf he, k3⟩, by omega⟩
      · rw [ne_b he, cond_true]
        rw [show (eadd s l[i] == 0) = false from by rw [beq_eq_false_iff_ne]; exact he, cond_false] at k3
        simp only [lands_some, Turns2]
        refine .inr ⟨trivial, k3, i, sg s.num, lb 4294967296 s.num, lb 4294967296 (zd s.den), ?_⟩
        rw [(eadd_cases s l[i]).resolve_left he]
    · rw [decide_eq_false (by omega), cond_false]
      simp only [lands_some, Turns2]
      rw [List.drop_of_length_le (by omega), sumQ] at k3
      exact .inl ⟨trivial, s, i, k3, rfl⟩
  · exact ⟨Nat.zero_le _, fitsQ_0, rfl⟩
end QFold
theorem meets_fold : Meets Try.prog 37 (ansFoldAdd 29) := by
  refine meets_fn (orc_ok (l := QFold.ans) ⟨meets_qadd, trivial⟩) Try.f37 rfl (by kernel_rfl) (fun args r h => ?_)
  unfold ansFoldAdd at h
  split at h
  · rename_i r f
    simp only [Option.some.injEq, Prod.mk.injEq] at h
    obtain ⟨h1, rfl⟩ := h
    rw [Bool.and_eq_true, Bool.and_eq_true, decide_eq_true_eq] at h1
    obtain rfl := Nat.eq_of_beq_eq_true h1.1
    obtain ⟨l, rfl, hl⟩ := rows_Q h1.2.1
    have hn := h1.2.2
    rw [List.length_map] at hn
    rw [map_rowQ, sumQv_eq, sumQe_eq]
    obtain ⟨e1, S1, hE1, h⟩ := QFold.loop l hl (by omega)
    rcases h with ⟨rfl, s, x, hs, rfl⟩ | ⟨rfl, hs, x, b, u, v, rfl⟩
    · rw [hs]
      exact ⟨rfl, _, tabOf_all _, (QFold.rest_1 _ (sg s.num) (lb 4294967296 s.num) (lb 4294967296 (zd s.den)) x).trans (bT (cdec_true hE1))⟩
    · rw [hs]
      exact ⟨rfl, _, tabOf_all _, (QFold.rest_0 _ 11 x b u v).trans (bT (cdec_true hE1))⟩
  · cases h
theorem meets_qsum : Meets Try.prog 35 ansQSum := by
  refine meets_fn (orc_ok (l := QSum.ans) ⟨meets_fold, trivial⟩) Try.f35 rfl (by kernel_rfl) (fun args r h => ?_)
  unfold ansQSum at h
  split at h
  · rename_i r
    simp only [Option.some.injEq, Prod.mk.injEq] at h
    obtain ⟨h1, rfl⟩ := h
    exact ⟨rfl, _, noTab_all, (QSum.rest r).trans (bT (by rw [h1]; rfl))⟩
  · cases h
theorem tw_spec (p : Int → Bool) : ∀ (l : List Int), (l.takeWhile p).length ≤ l.length ∧ ((l.takeWhile p).length < l.length → p (l.getD (l.takeWhile p).length 0) = false) ∧ ∀ j, j < (l.takeWhile p).length → p (l.getD j 0) = true
  | [] => ⟨Nat.le_refl _, fun h => absurd h (Nat.lt_irrefl _), fun j h => absurd h (Nat.not_lt_zero _)⟩
  | a :: l => by
    obtain ⟨h1, h2, h3⟩ := tw_spec p l
    cases hp : p a with
    | true =>
      rw [List.takeWhile_cons_of_pos hp]
      refine ⟨Nat.succ_le_succ h1, fun h => h2 (Nat.lt_of_succ_lt_succ h), fun j hj => ?_⟩
      cases j with
      | zero => exact hp
      | succ j => exact h3 j (Nat.lt_of_succ_lt_succ hj)
    | false =>
      rw [List.takeWhile_cons_of_neg (by rw [hp]; decide)]
      exact ⟨Nat.zero_le _, fun _ => hp, fun j h => absurd h (Nat.not_lt_zero _)⟩
theorem bytesOf_size (s : ByteArray) : (bytesOf s).length = s.size := by unfold bytesOf; rw [List.length_map]; rfl
theorem ct_le (s : ByteArray) : ct s ≤ s.size := by have := (tw_spec (fun c => !(c == 47)) (bytesOf s)).1; rw [bytesOf_size] at this; exact this
theorem ct_at {s : ByteArray} (h : ct s < s.size) : bt s (ct s : Nat) = 47 := by
  have := (tw_spec (fun c => !(c == 47)) (bytesOf s)).2.1 (by rw [bytesOf_size]; exact h)
  rw [Bool.not_eq_false', beq_iff_eq] at this
  rw [bt_nat]; exact this
theorem ct_before {s : ByteArray} {j : Nat} (h : j < ct s) : bt s (j : Nat) ≠ 47 := by
  have := (tw_spec (fun c => !(c == 47)) (bytesOf s)).2.2 j h
  rw [Bool.not_eq_true', beq_eq_false_iff_ne] at this
  rw [bt_nat]; exact this
/-- What a stroke's place is, as far as it was looked for. -/
def seek (s : ByteArray) (i : Nat) : Int := if ct s < i then ct s else -1
namespace QParse
theorem loop (s : ByteArray) (hs : s.size ≤ 10000) : ∃ e S1, Ends T orc L0 D0 (st0 s (-1) 0) e S1 ∧ e = .exit 0 ∧ ∃ x, S1 = st0 s (seek s s.size) x := by
  refine loop_inv1 (fun (i : Nat) => st0 s (seek s i) i) (fun i => i ≤ s.size) (fun i => s.size - i) (fun e S1 => e = .exit 0 ∧ ∃ x, S1 = st0 s (seek s s.size) x) isL0 ?_ 0 (Nat.zero_le _)
  intro i hi
  refine ⟨noTab, noTab_all, lands_of (round0 ..) ?_⟩
  by_cases hlt : i < s.size
  · have hb : inB (i : Int) s.size = true := by rw [inB_iff]; omega
    rw [hb, decide_eq_true (show (i : Int) < s.size by omega)]
    simp only [cond_true, wi_succ (show i < 4611686018427387904 by omega)]
    by_cases hc : bt s i = 47
    · have hle : ct s ≤ i := Nat.not_lt.1 (fun h => ct_before h hc)
      rw [show (bt s i == 47) = true from by rw [beq_iff_eq]; exact hc, cond_true]
      have e1 : seek s (i + 1) = ct s := by unfold seek; rw [if_pos (by omega)]
      by_cases h0 : ct s < i
      · have e0 : seek s i = ct s := by unfold seek; rw [if_pos h0]
        rw [decide_eq_false (by rw [e0]; omega), cond_false]
        simp only [lands_some, Turns1]
        exact ⟨i + 1, by rw [e1, e0], by omega, by omega⟩
      · have e0 : seek s i = -1 := by unfold seek; rw [if_neg h0]
        rw [decide_eq_true (by rw [e0]; omega), cond_true]
        simp only [lands_some, Turns1]
        exact ⟨i + 1, by rw [e1, show ct s = i by omega], by omega, by omega⟩
    · rw [show (bt s i == 47) = false from by rw [beq_eq_false_iff_ne]; exact hc, cond_false]
      have hne : ct s ≠ i := fun h => hc (by rw [← h]; exact ct_at (by omega))
      have e1 : seek s (i + 1) = seek s i := by unfold seek; (repeat' split) <;> omega
      simp only [lands_some, Turns1]
      exact ⟨i + 1, by rw [e1], by omega, by omega⟩
  · obtain rfl : i = s.size := by omega
    rw [decide_eq_false (by omega), cond_false]
    simp only [lands_some, Turns1]
    exact ⟨trivial, _, rfl⟩
end QParse
end Go.Abs
end
section
/- States and rounds of the reference of ratio, as a program of this session printed them. -/
set_option maxRecDepth 10000
namespace Go.Abs
open Go.Proofs Go.Dig
noncomputable section
namespace MOne
abbrev ans : Ans := [(92, anrFrom)]
abbrev orc : Orc := orcOf ans
theorem rest : runT T orc (noTab) Try.f70 [] =
    some (.val (.agg [.bool false, .ints .i64 (lb (10) (1))])) := by kernel_rfl
end MOne
namespace MLow
abbrev ans : Ans := [(70, ansmOne)]
abbrev orc : Orc := orcOf ans
theorem rest (s : Bool) (l : List Int) (t : Bool) (m : List Int) : runT T orc (noTab) Try.f77 [.agg [.bool s, .ints .i64 l, .bool t, .ints .i64 m]] =
    (bif (↑m.length : Int) == 0 then some (.val (.agg [.bool false, .ints .i64 (lb (10) (1))])) else some (.val (.agg [.bool t, .ints .i64 m]))) := by kernel_rfl
end MLow
namespace MLowest
abbrev ans : Ans := [(78, anrNeg), (71, anrGcd), (79, anrDiv)]
abbrev orc : Orc := orcOf ans
theorem rest (s : Bool) (l : List Int) (sy : Bool) (ly : List Int) : runT T orc (noTab) Try.f65 [.agg [.bool s, .ints .i64 l], .agg [.bool sy, .ints .i64 ly]] =
    (bif sy then (bif cn (10) s l then (bif cn (10) sy ly then (bif cn (10) (sg (-num (10) s l)) (lb (10) (-num (10) s l)) && cn (10) (sg (-num (10) sy ly)) (lb (10) (-num (10) sy ly)) then (bif cn (10) (sg (-num (10) s l)) (lb (10) (-num (10) s l)) && cn (10) false (lb (10) (gz (N (10) (-num (10) s l)) (N (10) (-num (10) sy ly)))) then (bif cn (10) (sg (-num (10) sy ly)) (lb (10) (-num (10) sy ly)) && cn (10) false (lb (10) (gz (N (10) (-num (10) s l)) (N (10) (-num (10) sy ly)))) then some (.val (.agg [.bool (sg (dq (N (10) (-num (10) s l)) (num (10) false (lb (10) (gz (N (10) (-num (10) s l)) (N (10) (-num (10) sy ly))))))), .ints .i64 (lb (10) (dq (N (10) (-num (10) s l)) (num (10) false (lb (10) (gz (N (10) (-num (10) s l)) (N (10) (-num (10) sy ly))))))), .bool (sg (dq (N (10) (-num (10) sy ly)) (num (10) false (lb (10) (gz (N (10) (-num (10) s l)) (N (10) (-num (10) sy ly))))))), .ints .i64 (lb (10) (dq (N (10) (-num (10) sy ly)) (num (10) false (lb (10) (gz (N (10) (-num (10) s l)) (N (10) (-num (10) sy ly)))))))])) else none) else none) else none) else none) else none) else (bif cn (10) s l && cn (10) sy ly then (bif cn (10) s l && cn (10) false (lb (10) (gz (num (10) s l) (num (10) sy ly))) then (bif cn (10) sy ly && cn (10) false (lb (10) (gz (num (10) s l) (num (10) sy ly))) then some (.val (.agg [.bool (sg (dq (num (10) s l) (num (10) false (lb (10) (gz (num (10) s l) (num (10) sy ly)))))), .ints .i64 (lb (10) (dq (num (10) s l) (num (10) false (lb (10) (gz (num (10) s l) (num (10) sy ly)))))), .bool (sg (dq (num (10) sy ly) (num (10) false (lb (10) (gz (num (10) s l) (num (10) sy ly)))))), .ints .i64 (lb (10) (dq (num (10) sy ly) (num (10) false (lb (10) (gz (num (10) s l) (num (10) sy ly))))))])) else none) else none) else none)) := by kernel_rfl
end MLowest
namespace MOf
abbrev ans : Ans := [(65, ansmLowest)]
abbrev orc : Orc := orcOf ans
theorem rest (s : Bool) (l : List Int) (sy : Bool) (ly : List Int) : runT T orc (noTab) Try.f18 [.agg [.bool s, .ints .i64 l], .agg [.bool sy, .ints .i64 ly]] =
    (bif (↑ly.length : Int) == 0 then some (.val (.tup [.agg [.bool false, .ints .i64 [], .bool false, .ints .i64 []], .int .i64 (12)])) else (bif cn (10) s l && cn (10) sy ly && !num (10) sy ly == 0 then some (.val (.tup [.agg [.bool (sg (ofQ (num (10) s l) (num (10) sy ly)).num), .ints .i64 (lb (10) (ofQ (num (10) s l) (num (10) sy ly)).num), .bool false, .ints .i64 (lb (10) (↑(ofQ (num (10) s l) (num (10) sy ly)).den : Int))], .int .i64 (0)])) else none)) := by kernel_rfl
end MOf
namespace MShow
abbrev ans : Ans := [(77, ansmLow), (70, ansmOne), (69, anrCmp), (45, anrShow)]
abbrev orc : Orc := orcOf ans
theorem rest (s : Bool) (l : List Int) (t : Bool) (m : List Int) : runT T orc (noTab) Try.f43 [.agg [.bool s, .ints .i64 l, .bool t, .ints .i64 m]] =
    (bif cn (10) t m then (bif cn (10) (sg (dn (num (10) t m))) (lb (10) (dn (num (10) t m))) && true then (bif cmpZ (N (10) (dn (num (10) t m))) (num (10) false (lb (10) (1))) == 0 then (bif cn (10) s l then some (.val (.str (txt (num (10) s l)))) else none) else (bif cn (10) s l then (bif decide ((txt (num (10) s l)).size + 1 ≤ 9223372036854775807) then (bif cn (10) t m then (bif decide ((txt (num (10) s l) ++ { data := #[47] }).size + (txt (num (10) t m)).size ≤ 9223372036854775807) then some (.val (.str (txt (num (10) s l) ++ { data := #[47] } ++ txt (num (10) t m)))) else none) else none) else none) else none)) else none) else none) := by kernel_rfl
end MShow
namespace MParse
abbrev ans : Ans := [(16, anrParse), (70, ansmOne), (69, anrCmp), (71, anrGcd)]
abbrev orc : Orc := orcOf ans
noncomputable def L0 : Code := lp Try.f26 0
theorem isL0 : ∃ a, L0 = .loop a := ⟨_, rfl⟩
abbrev D0 : List Nat := [0, 2, 3, 4]
abbrev st0 (s : ByteArray) (x0 : Int) : St := ⟨.str s :: tops 1 (.ptr 2 0 0 :: .int .i64 (0) :: .int .i64 x0 :: tops 66 ([])), nos 2 (varE [(false, .bool false), (true, .ints .i64 []), (false, .bool false), (true, .ints .i64 [])] :: nos 68 ([]))⟩
theorem round0 (s : ByteArray) (x0 : Int) : goL T orc (noTab) D0 L0 (st0 s x0) =
    (bif decide (x0 < (↑s.size : Int)) then (bif inB x0 s.size then (bif bt s x0 != 47 then some (.normal, st0 s (IntKind.i64.wrap (x0 + 1))) else some (.exit 0, st0 s x0)) else none) else some (.exit 0, st0 s x0)) := by kernel_rfl
-- loop 0 ends exit0 st0 s x0
theorem rest (s : ByteArray) (x1 : Int) : runT T orc (tabOf T orc [(2, 7596670504379226840294537141090342652073400789044068403014916331572478854264230178542, .exit 0, st0 s x1)]) Try.f26 [.str s] =
    (bif cdec (Ends T orc L0 D0 (st0 s (0)) (.exit 0) (st0 s x1)) then (bif decide (0 ≤ x1) && decide (x1 ≤ (↑s.size : Int)) then (bif decide ((s.extract 0 x1.toNat).size ≤ 10000) then (bif x1 == (↑s.size : Int) then some (.val (.tup [.agg [.bool (sg (rv (s.extract 0 x1.toNat))), .ints .i64 (lb (10) (rv (s.extract 0 x1.toNat))), .bool false, .ints .i64 []], .int .i64 (re (s.extract 0 x1.toNat))])) else (bif decide (0 ≤ IntKind.i64.wrap (x1 + 1)) && decide (IntKind.i64.wrap (x1 + 1) ≤ (↑s.size : Int)) then (bif decide ((s.extract (IntKind.i64.wrap (x1 + 1)).toNat s.size).size ≤ 10000) then (bif re (s.extract 0 x1.toNat) == 10 then some (.val (.tup [.agg [.bool false, .ints .i64 [], .bool false, .ints .i64 []], .int .i64 (10)])) else (bif re (s.extract (IntKind.i64.wrap (x1 + 1)).toNat s.size) == 10 then some (.val (.tup [.agg [.bool false, .ints .i64 [], .bool false, .ints .i64 []], .int .i64 (10)])) else (bif IntKind.i64.wrap (re (s.extract 0 x1.toNat) + re (s.extract (IntKind.i64.wrap (x1 + 1)).toNat s.size)) != 0 then some (.val (.tup [.agg [.bool false, .ints .i64 [], .bool false, .ints .i64 []], .int .i64 (11)])) else (bif cn (10) (sg (rv (s.extract (IntKind.i64.wrap (x1 + 1)).toNat s.size))) (lb (10) (rv (s.extract (IntKind.i64.wrap (x1 + 1)).toNat s.size))) && true then (bif decide (cmpZ (N (10) (rv (s.extract (IntKind.i64.wrap (x1 + 1)).toNat s.size))) (num (10) false (lb (10) (1))) ≤ 0) then some (.val (.tup [.agg [.bool false, .ints .i64 [], .bool false, .ints .i64 []], .int .i64 (10)])) else (bif cn (10) (sg (rv (s.extract 0 x1.toNat))) (lb (10) (rv (s.extract 0 x1.toNat))) && cn (10) (sg (rv (s.extract (IntKind.i64.wrap (x1 + 1)).toNat s.size))) (lb (10) (rv (s.extract (IntKind.i64.wrap (x1 + 1)).toNat s.size))) then (bif cn (10) false (lb (10) (gz (N (10) (rv (s.extract 0 x1.toNat))) (N (10) (rv (s.extract (IntKind.i64.wrap (x1 + 1)).toNat s.size))))) && true then (bif cmpZ (num (10) false (lb (10) (gz (N (10) (rv (s.extract 0 x1.toNat))) (N (10) (rv (s.extract (IntKind.i64.wrap (x1 + 1)).toNat s.size)))))) (num (10) false (lb (10) (1))) != 0 then some (.val (.tup [.agg [.bool false, .ints .i64 [], .bool false, .ints .i64 []], .int .i64 (10)])) else some (.val (.tup [.agg [.bool (sg (rv (s.extract 0 x1.toNat))), .ints .i64 (lb (10) (rv (s.extract 0 x1.toNat))), .bool (sg (rv (s.extract (IntKind.i64.wrap (x1 + 1)).toNat s.size))), .ints .i64 (lb (10) (rv (s.extract (IntKind.i64.wrap (x1 + 1)).toNat s.size)))], .int .i64 (0)]))) else none) else none)) else none)))) else none) else none)) else none) else none) else none) := by kernel_rfl
end MParse
namespace MFloor
abbrev ans : Ans := [(77, ansmLow), (79, anrDiv)]
abbrev orc : Orc := orcOf ans
theorem rest (s : Bool) (l : List Int) (t : Bool) (m : List Int) : runT T orc (noTab) Try.f46 [.agg [.bool s, .ints .i64 l, .bool t, .ints .i64 m]] =
    (bif cn (10) t m then (bif cn (10) s l && cn (10) (sg (dn (num (10) t m))) (lb (10) (dn (num (10) t m))) then some (.val (M (dq (num (10) s l) (N (10) (dn (num (10) t m)))))) else none) else none) := by kernel_rfl
end MFloor
namespace MNeg
abbrev ans : Ans := [(78, anrNeg)]
abbrev orc : Orc := orcOf ans
theorem rest (s : Bool) (l : List Int) (t : Bool) (m : List Int) : runT T orc (noTab) Try.f44 [.agg [.bool s, .ints .i64 l, .bool t, .ints .i64 m]] =
    (bif cn (10) s l then some (.val (.agg [.bool (sg (-num (10) s l)), .ints .i64 (lb (10) (-num (10) s l)), .bool t, .ints .i64 m])) else none) := by kernel_rfl
end MNeg
namespace MCmp
abbrev ans : Ans := [(77, ansmLow), (76, anrMul), (69, anrCmp)]
abbrev orc : Orc := orcOf ans
theorem rest (s : Bool) (l : List Int) (t : Bool) (m : List Int) (sy : Bool) (ly : List Int) (ty : Bool) (my : List Int) : runT T orc (noTab) Try.f40 [.agg [.bool s, .ints .i64 l, .bool t, .ints .i64 m], .agg [.bool sy, .ints .i64 ly, .bool ty, .ints .i64 my]] =
    (bif cn (10) ty my then (bif cn (10) s l && cn (10) (sg (dn (num (10) ty my))) (lb (10) (dn (num (10) ty my))) then (bif cn (10) t m then (bif cn (10) sy ly && cn (10) (sg (dn (num (10) t m))) (lb (10) (dn (num (10) t m))) then (bif cn (10) (sg (num (10) s l * N (10) (dn (num (10) ty my)))) (lb (10) (num (10) s l * N (10) (dn (num (10) ty my)))) && cn (10) (sg (num (10) sy ly * N (10) (dn (num (10) t m)))) (lb (10) (num (10) sy ly * N (10) (dn (num (10) t m)))) then some (.val (.int .i64 (cmpZ (N (10) (num (10) s l * N (10) (dn (num (10) ty my)))) (N (10) (num (10) sy ly * N (10) (dn (num (10) t m))))))) else none) else none) else none) else none) else none) := by kernel_rfl
end MCmp
namespace MHeld
abbrev ans : Ans := [(77, ansmLow), (61, anrTooBig)]
abbrev orc : Orc := orcOf ans
theorem rest (s : Bool) (l : List Int) (t : Bool) (m : List Int) : runT T orc (noTab) Try.f82 [.agg [.bool s, .ints .i64 l, .bool t, .ints .i64 m]] =
    (bif cn (10) s l then (bif !fits (num (10) s l) then some (.val (.tup [.agg [.bool false, .ints .i64 [], .bool false, .ints .i64 []], .int .i64 (11)])) else (bif cn (10) t m then (bif cn (10) (sg (dn (num (10) t m))) (lb (10) (dn (num (10) t m))) then (bif !fits (N (10) (dn (num (10) t m))) then some (.val (.tup [.agg [.bool false, .ints .i64 [], .bool false, .ints .i64 []], .int .i64 (11)])) else some (.val (.tup [.agg [.bool s, .ints .i64 l, .bool t, .ints .i64 m], .int .i64 (0)]))) else none) else none)) else none) := by kernel_rfl
end MHeld
namespace MPlus
abbrev ans : Ans := [(77, ansmLow), (65, ansmLowest), (80, anrAdd), (76, anrMul)]
abbrev orc : Orc := orcOf ans
theorem rest (s : Bool) (l : List Int) (t : Bool) (m : List Int) (sy : Bool) (ly : List Int) (ty : Bool) (my : List Int) : runT T orc (noTab) Try.f81 [.agg [.bool s, .ints .i64 l, .bool t, .ints .i64 m], .agg [.bool sy, .ints .i64 ly, .bool ty, .ints .i64 my]] =
    (bif cn (10) ty my then (bif cn (10) s l && cn (10) (sg (dn (num (10) ty my))) (lb (10) (dn (num (10) ty my))) then (bif cn (10) t m then (bif cn (10) sy ly && cn (10) (sg (dn (num (10) t m))) (lb (10) (dn (num (10) t m))) then (bif cn (10) (sg (num (10) s l * N (10) (dn (num (10) ty my)))) (lb (10) (num (10) s l * N (10) (dn (num (10) ty my)))) && cn (10) (sg (num (10) sy ly * N (10) (dn (num (10) t m)))) (lb (10) (num (10) sy ly * N (10) (dn (num (10) t m)))) then (bif cn (10) t m then (bif cn (10) ty my then (bif cn (10) (sg (dn (num (10) t m))) (lb (10) (dn (num (10) t m))) && cn (10) (sg (dn (num (10) ty my))) (lb (10) (dn (num (10) ty my))) then (bif cn (10) (sg (N (10) (num (10) s l * N (10) (dn (num (10) ty my))) + N (10) (num (10) sy ly * N (10) (dn (num (10) t m))))) (lb (10) (N (10) (num (10) s l * N (10) (dn (num (10) ty my))) + N (10) (num (10) sy ly * N (10) (dn (num (10) t m))))) && cn (10) (sg (N (10) (dn (num (10) t m)) * N (10) (dn (num (10) ty my)))) (lb (10) (N (10) (dn (num (10) t m)) * N (10) (dn (num (10) ty my)))) && !N (10) (N (10) (dn (num (10) t m)) * N (10) (dn (num (10) ty my))) == 0 then some (.val (.agg [.bool (sg (ofQ (N (10) (N (10) (num (10) s l * N (10) (dn (num (10) ty my))) + N (10) (num (10) sy ly * N (10) (dn (num (10) t m))))) (N (10) (N (10) (dn (num (10) t m)) * N (10) (dn (num (10) ty my))))).num), .ints .i64 (lb (10) (ofQ (N (10) (N (10) (num (10) s l * N (10) (dn (num (10) ty my))) + N (10) (num (10) sy ly * N (10) (dn (num (10) t m))))) (N (10) (N (10) (dn (num (10) t m)) * N (10) (dn (num (10) ty my))))).num), .bool false, .ints .i64 (lb (10) (↑(ofQ (N (10) (N (10) (num (10) s l * N (10) (dn (num (10) ty my))) + N (10) (num (10) sy ly * N (10) (dn (num (10) t m))))) (N (10) (N (10) (dn (num (10) t m)) * N (10) (dn (num (10) ty my))))).den : Int))])) else none) else none) else none) else none) else none) else none) else none) else none) else none) := by kernel_rfl
end MPlus
namespace MTimes
abbrev ans : Ans := [(77, ansmLow), (65, ansmLowest), (76, anrMul)]
abbrev orc : Orc := orcOf ans
theorem rest (s : Bool) (l : List Int) (t : Bool) (m : List Int) (sy : Bool) (ly : List Int) (ty : Bool) (my : List Int) : runT T orc (noTab) Try.f83 [.agg [.bool s, .ints .i64 l, .bool t, .ints .i64 m], .agg [.bool sy, .ints .i64 ly, .bool ty, .ints .i64 my]] =
    (bif cn (10) s l && cn (10) sy ly then (bif cn (10) t m then (bif cn (10) ty my then (bif cn (10) (sg (dn (num (10) t m))) (lb (10) (dn (num (10) t m))) && cn (10) (sg (dn (num (10) ty my))) (lb (10) (dn (num (10) ty my))) then (bif cn (10) (sg (num (10) s l * num (10) sy ly)) (lb (10) (num (10) s l * num (10) sy ly)) && cn (10) (sg (N (10) (dn (num (10) t m)) * N (10) (dn (num (10) ty my)))) (lb (10) (N (10) (dn (num (10) t m)) * N (10) (dn (num (10) ty my)))) && !N (10) (N (10) (dn (num (10) t m)) * N (10) (dn (num (10) ty my))) == 0 then some (.val (.agg [.bool (sg (ofQ (N (10) (num (10) s l * num (10) sy ly)) (N (10) (N (10) (dn (num (10) t m)) * N (10) (dn (num (10) ty my))))).num), .ints .i64 (lb (10) (ofQ (N (10) (num (10) s l * num (10) sy ly)) (N (10) (N (10) (dn (num (10) t m)) * N (10) (dn (num (10) ty my))))).num), .bool false, .ints .i64 (lb (10) (↑(ofQ (N (10) (num (10) s l * num (10) sy ly)) (N (10) (N (10) (dn (num (10) t m)) * N (10) (dn (num (10) ty my))))).den : Int))])) else none) else none) else none) else none) else none) := by kernel_rfl
end MTimes
end
end Go.Abs
end
section
/- The reading of texts in ratio and in its reference. -/
namespace Go.Abs
open Go.Proofs Go.Dig
/-- A text's two parts. -/
abbrev pa (s : ByteArray) : ByteArray := s.extract 0 (ct s)
abbrev pb (s : ByteArray) : ByteArray := s.extract (ct s + 1) s.size
theorem qe_none {s : ByteArray} (h : ¬ ct s < s.size) : qe s = re s := by rw [qe_eq, decide_eq_false h, cond_false]
theorem qv_none {s : ByteArray} (h : ¬ ct s < s.size) : qv s = ((rv s : Int) : Rat) := by rw [qv_eq, decide_eq_false h, cond_false]
theorem qe_some {s : ByteArray} (h : ct s < s.size) : qe s = bif re (pa s) == 10 || re (pb s) == 10 then 10 else bif !(re (pa s) == 0) || !(re (pb s) == 0) then 11 else bif decide (rv (pb s) ≤ 1) || !(gz (rv (pa s)) (rv (pb s)) == 1) then 10 else 0 := by rw [qe_eq, decide_eq_true h, cond_true]
theorem qv_err {s : ByteArray} (h : ct s < s.size) (he : qe s ≠ 0) : qv s = 0 := by rw [qv_eq, decide_eq_true h, cond_true, show (qe s == 0) = false from by rw [beq_eq_false_iff_ne]; exact he, cond_false]
theorem qv_ok {s : ByteArray} (h : ct s < s.size) (he : qe s = 0) : qv s = ofQ (rv (pa s)) (rv (pb s)) := by rw [qv_eq, decide_eq_true h, cond_true, he, show ((0 : Int) == 0) = true from rfl, cond_true, ofQ_eq]
theorem ofQ_low {a b : Int} (hb : 1 < b) (hg : gz a b = 1) : (ofQ a b).num = a ∧ ((ofQ a b).den : Int) = b := by
  have h1 : Int.gcd a b = 1 := by unfold gz at hg; omega
  rw [ofQ_num (by omega), ofQ_den (by omega), h1]
  exact ⟨Int.ediv_one a, Int.ediv_one b⟩
theorem re_cases (s : ByteArray) : re s = 0 ∨ re s = 10 ∨ re s = 11 := by
  unfold re
  cases form (bytesOf s) with
  | true => rcases he_cases (tval (bytesOf s)) with h | h <;> rw [cond_true, h] <;> simp
  | false => rw [cond_false]; simp
/-- The ways that a text with a stroke may go. -/
theorem qe_ways {s : ByteArray} (h : ct s < s.size) :
    (re (pa s) = 10 ∧ qe s = 10) ∨ (re (pa s) ≠ 10 ∧ re (pb s) = 10 ∧ qe s = 10) ∨ (re (pa s) = 11 ∧ re (pb s) ≠ 10 ∧ qe s = 11) ∨ (re (pa s) = 0 ∧ re (pb s) = 11 ∧ qe s = 11) ∨
    (re (pa s) = 0 ∧ re (pb s) = 0 ∧ rv (pb s) ≤ 1 ∧ qe s = 10) ∨ (re (pa s) = 0 ∧ re (pb s) = 0 ∧ 1 < rv (pb s) ∧ gz (rv (pa s)) (rv (pb s)) ≠ 1 ∧ qe s = 10) ∨ (re (pa s) = 0 ∧ re (pb s) = 0 ∧ 1 < rv (pb s) ∧ gz (rv (pa s)) (rv (pb s)) = 1 ∧ qe s = 0) := by
  rw [qe_some h]
  have b1 : ∀ x y : Int, x = y → (x == y) = true := fun x y h => by rw [beq_iff_eq]; exact h
  have b0 : ∀ x y : Int, x ≠ y → (x == y) = false := fun x y h => by rw [beq_eq_false_iff_ne]; exact h
  rcases re_cases (pa s) with h1 | h1 | h1 <;> rcases re_cases (pb s) with h2 | h2 | h2 <;> rw [h1, h2] <;> simp <;> try trivial
  by_cases h3 : rv (pb s) ≤ 1
  · rw [decide_eq_true h3]; simp; omega
  · rw [decide_eq_false h3]
    by_cases h4 : gz (rv (pa s)) (rv (pb s)) = 1
    · rw [b1 _ _ h4]; simp; omega
    · rw [b0 _ _ h4]; simp; omega
theorem extract_le (s : ByteArray) (a b : Nat) : (s.extract a b).size ≤ s.size := by rw [ByteArray.size_extract]; omega
theorem Q_of {q : Rat} {n d : Int} (h1 : q.num = n) (h2 : (q.den : Int) = d) : Q q = .agg [.bool (sg n), .ints .u32 (lb 4294967296 n), .bool false, .ints .u32 (lb 4294967296 (zd d))] := by subst h1; subst h2; rfl
theorem Md_of {q : Rat} {n d : Int} (h1 : q.num = n) : Md q d = .agg [.bool (sg n), .ints .i64 (lb 10 n), .bool false, .ints .i64 (lb 10 d)] := by subst h1; rfl
theorem n1W : num 4294967296 false (lb 4294967296 1) = 1 := num_nnW (by decide)
theorem n110 : num 10 false (lb 10 1) = 1 := num_nn10 (by decide)
theorem cmpZ_le0 (x : Int) : decide (cmpZ x 1 ≤ 0) = decide (x ≤ 1) := by
  rw [decide_eq_decide]; unfold cmpZ; (repeat' split) <;> omega
theorem cmpZ_ne0 (x : Int) : (cmpZ x 1 != 0) = !(x == 1) := by
  rw [Bool.eq_iff_iff, bne_iff_ne, Bool.not_eq_true', beq_eq_false_iff_ne]; unfold cmpZ; (repeat' split) <;> omega
theorem meets_qparse : Meets Try.prog 25 ansQParse := by
  refine meets_fn (orc_ok (l := QParse.ans) ⟨meets_parse, meets_whole, meets_from, meets_cmp, meets_gcd, meets_made, trivial⟩) Try.f25 rfl (by kernel_rfl) (fun args r h => ?_)
  unfold ansQParse at h
  split at h
  · rename_i s
    simp only [Option.some.injEq, Prod.mk.injEq] at h
    obtain ⟨h1, rfl⟩ := h
    rw [decide_eq_true_eq] at h1
    obtain ⟨e1, S1, hE1, rfl, x, rfl⟩ := QParse.loop s h1
    refine ⟨rfl, _, tabOf_all _, (QParse.rest s (seek s s.size) x).trans ((bT (cdec_true hE1)).trans ?_)⟩
    by_cases hc : ct s < s.size
    · have hk : seek s s.size = (ct s : Int) := by unfold seek; rw [if_pos hc]
      rw [hk, wi_succ (show ct s < 4611686018427387904 by omega), Int.toNat_natCast, Int.toNat_natCast]
      have x1 := extract_le s 0 (ct s)
      have x2 := extract_le s (ct s + 1) s.size
      have g1 : (gz (rv (pa s)) (rv (pb s))).natAbs < Lim := small_of_fits (fits_gz (fits_rv _) (fits_rv _))
      refine (bF (decide_eq_false (by omega))).trans ((bT (by rw [decide_eq_true (show (0 : Int) ≤ (ct s : Int) by omega), decide_eq_true (show (ct s : Int) ≤ (s.size : Int) by omega)]; rfl)).trans ((bT (decide_eq_true (by omega))).trans ((bT (by rw [decide_eq_true (show (0 : Int) ≤ ((ct s + 1 : Nat) : Int) by omega), decide_eq_true (show ((ct s + 1 : Nat) : Int) ≤ (s.size : Int) by omega)]; rfl)).trans ((bT (decide_eq_true (by omega))).trans ?_))))
      simp only [N_eq, cnW, cnW_gz, numW_gz, n1W, decide_eq_true (small_rv _), decide_eq_true g1, Bool.and_self, cond_true, cmpZ_le0, cmpZ_ne0]
      show (bif re (pa s) == 10 then _ else bif re (pb s) == 10 then _ else bif re (pa s) != 0 then _ else bif re (pb s) != 0 then _ else bif decide (rv (pb s) ≤ 1) then _ else bif !(gz (rv (pa s)) (rv (pb s)) == 1) then _ else _) = _
      rcases qe_ways hc with ⟨a1, q⟩ | ⟨a1, a2, q⟩ | ⟨a1, a2, q⟩ | ⟨a1, a2, q⟩ | ⟨a1, a2, a3, q⟩ | ⟨a1, a2, a3, a4, q⟩ | ⟨a1, a2, a3, a4, q⟩
      · rw [qv_err hc (by rw [q]; decide), q, a1]; rfl
      · rw [qv_err hc (by rw [q]; decide), q, a2]; exact (bF (by rw [beq_eq_false_iff_ne]; exact a1)).trans rfl
      · rw [qv_err hc (by rw [q]; decide), q, a1]; exact (bF rfl).trans ((bF (by rw [beq_eq_false_iff_ne]; exact a2)).trans rfl)
      · rw [qv_err hc (by rw [q]; decide), q, a1, a2]; rfl
      · rw [qv_err hc (by rw [q]; decide), q, a1, a2, decide_eq_true a3]; rfl
      · rw [qv_err hc (by rw [q]; decide), q, a1, a2, decide_eq_false (show ¬ rv (pb s) ≤ 1 by omega), show (gz (rv (pa s)) (rv (pb s)) == 1) = false from by rw [beq_eq_false_iff_ne]; exact a4]; rfl
      · obtain ⟨w1, w2⟩ := ofQ_low a3 a4
        rw [qv_ok hc q, q, a1, a2, Q_of w1 w2, decide_eq_false (show ¬ rv (pb s) ≤ 1 by omega), a4, sg_nn (zd_nn (show 0 ≤ rv (pb s) by omega))]; rfl
    · have hk : seek s s.size = -1 := by unfold seek; rw [if_neg hc]
      rw [hk, qe_none hc, qv_none hc]
      exact (bT rfl).trans (bT (decide_eq_true h1))
  · cases h
end Go.Abs
end
section
/- The reference of ratio: its functions answer as the tables say. -/
namespace Go.Abs
open Go.Proofs Go.Dig
theorem cn10_nm {q : Rat} (h : fitsQ q = true) : cn 10 (sg q.num) (lb 10 q.num) = true := by rw [cn10]; exact fit_lim (fitsQ_iff.1 h).1
theorem cn10_den {q : Rat} (h : fitsQ q = true) : cn 10 (sg (q.den : Int)) (lb 10 q.den) = true := by rw [cn10]; exact fit_lim (fitsQ_iff.1 h).2
theorem lb10_nil {z : Int} : lb 10 z = [] ↔ z = 0 := by
  constructor
  · intro h
    have := num_lb10 z
    rw [h] at this
    rw [← this]
    cases sg z <;> rfl
  · rintro rfl; rfl
theorem len0 (z : Int) : (((lb 10 z).length : Int) == 0) = decide (z = 0) := by
  rw [Bool.eq_iff_iff, beq_iff_eq, decide_eq_true_eq, ← lb10_nil (z := z)]
  constructor
  · intro h; exact List.eq_nil_of_length_eq_zero (show (lb 10 z).length = 0 by omega)
  · intro h; rw [h]; rfl
theorem dn_ne {z : Int} (h : z ≠ 0) : dn z = z := by unfold dn; rw [show (z == 0) = false from by rw [beq_eq_false_iff_ne]; exact h, cond_false]
theorem meets_mone : Meets Try.prog 70 ansmOne := by
  refine meets_fn (orc_ok (l := MOne.ans) ⟨meets_rfrom, trivial⟩) Try.f70 rfl (by kernel_rfl) (fun args r h => ?_)
  unfold ansmOne at h
  split at h
  · simp only [Option.some.injEq, Prod.mk.injEq] at h
    obtain ⟨_, rfl⟩ := h
    exact ⟨rfl, _, noTab_all, MOne.rest⟩
  · cases h
theorem meets_mlow : Meets Try.prog 77 ansmLow := by
  refine meets_fn (orc_ok (l := MLow.ans) ⟨meets_mone, trivial⟩) Try.f77 rfl (by kernel_rfl) (fun args r h => ?_)
  unfold ansmLow at h
  split at h
  · rename_i s l t m
    simp only [Option.some.injEq, Prod.mk.injEq] at h
    obtain ⟨h1, rfl⟩ := h
    refine ⟨rfl, _, noTab_all, (MLow.rest s l t m).trans ?_⟩
    obtain ⟨z, rfl, rfl, hz⟩ := (cn_iff T_two).1 h1
    rw [num_lb10, len0]
    by_cases h0 : z = 0
    · subst h0; rfl
    · rw [dn_ne h0]; exact bF (decide_eq_false h0)
  · cases h
theorem gz_lim {a b : Int} (h0 : b ≠ 0) (hb : b.natAbs < Lim) : (gz a b).natAbs < Lim := by
  refine Nat.lt_of_le_of_lt ?_ hb
  unfold gz
  rw [Int.natAbs_natCast]
  exact Nat.le_of_dvd (by omega) (Nat.gcd_dvd_right ..)
theorem sg_false {y : Int} (h : ¬ y < 0) : sg y = false := sg_nn (by omega)
theorem meets_mlowest : Meets Try.prog 65 ansmLowest := by
  refine meets_fn (orc_ok (l := MLowest.ans) ⟨meets_rneg, meets_rgcd, meets_rdiv, trivial⟩) Try.f65 rfl (by kernel_rfl) (fun args r h => ?_)
  unfold ansmLowest at h
  split at h
  · rename_i s l t m
    simp only [Option.some.injEq, Prod.mk.injEq] at h
    obtain ⟨h1, rfl⟩ := h
    rw [Bool.and_eq_true, Bool.and_eq_true] at h1
    refine ⟨rfl, _, noTab_all, (MLowest.rest s l t m).trans ?_⟩
    obtain ⟨x, rfl, rfl, hx⟩ := (cn_iff T_two).1 h1.1.1
    obtain ⟨y, rfl, rfl, hy⟩ := (cn_iff T_two).1 h1.1.2
    have h0 : y ≠ 0 := by
      have := h1.2
      rw [num_lb10, Bool.not_eq_true', beq_eq_false_iff_ne] at this
      exact this
    have nx : (-x).natAbs < Lim := by omega
    have ny : (-y).natAbs < Lim := by omega
    have N10' : ∀ z : Int, num 10 (sg z) (lb 10 z) = z := num_lb10
    simp only [cn10, cn10_gz, num10_gz, num_lb10, N10_eq, decide_eq_true hx, decide_eq_true hy, decide_eq_true nx, decide_eq_true ny, decide_eq_true (gz_lim (a := x) h0 hy), decide_eq_true (gz_lim (a := -x) (show -y ≠ 0 by omega) ny), Bool.and_self, cond_true]
    by_cases h2 : y < 0
    · rw [sg_neg.2 h2, cond_true]
      obtain ⟨e1, e2⟩ := ofQ_dq (-x) (b := -y) (by omega)
      rw [ofQ_neg] at e1 e2
      rw [e1, e2, sg_nn (Int.natCast_nonneg _)]
    · rw [sg_false h2, cond_false]
      obtain ⟨e1, e2⟩ := ofQ_dq x (b := y) (by omega)
      rw [e1, e2, sg_nn (Int.natCast_nonneg _)]
  · cases h
theorem meets_mof : Meets Try.prog 18 ansmOf := by
  refine meets_fn (orc_ok (l := MOf.ans) ⟨meets_mlowest, trivial⟩) Try.f18 rfl (by kernel_rfl) (fun args r h => ?_)
  unfold ansmOf at h
  split at h
  · rename_i s l t m
    simp only [Option.some.injEq, Prod.mk.injEq] at h
    obtain ⟨h1, rfl⟩ := h
    rw [Bool.and_eq_true] at h1
    refine ⟨rfl, _, noTab_all, (MOf.rest s l t m).trans ?_⟩
    rw [h1.1, h1.2]
    obtain ⟨y, rfl, rfl, hy⟩ := (cn_iff T_two).1 h1.2
    rw [num_lb10, len0]
    by_cases h0 : y = 0
    · subst h0; rw [ofQ_zero]; rfl
    · have hb : (y == 0) = false := by rw [beq_eq_false_iff_ne]; exact h0
      have hd : dc y = 0 := by unfold dc; rw [if_neg h0]
      rw [hb, hd, decide_eq_false h0]
      rfl
  · cases h
theorem meets_mshow : Meets Try.prog 43 ansmShow := by
  refine meets_fn (orc_ok (l := MShow.ans) ⟨meets_mlow, meets_mone, meets_rcmp, meets_rshow, trivial⟩) Try.f43 rfl (by kernel_rfl) (fun args r h => ?_)
  unfold ansmShow at h
  split at h
  · rename_i s l t m
    simp only [Option.some.injEq, Prod.mk.injEq] at h
    obtain ⟨h1, rfl⟩ := h
    refine ⟨rfl, _, noTab_all, (MShow.rest s l t m).trans ?_⟩
    obtain ⟨q, hq, rfl, rfl, rfl, hrm, hc, hd, hm⟩ := isM_iff h1
    have hp := den_pos' q
    simp only [hrm, hc, hd, cn10_den hq, cn10_nm hq, N10_eq, n110, num_lb10, Bool.and_self, cond_true, qtxt_eq]
    have hcmp : (cmpZ (q.den : Int) 1 == 0) = decide (q.den = 1) := by
      rw [Bool.eq_iff_iff, beq_iff_eq, decide_eq_true_eq]
      unfold cmpZ; (repeat' split) <;> omega
    rw [hcmp]
    by_cases h0 : q.den = 1
    · rw [decide_eq_true h0]; rfl
    · have hm' : m = lb 10 q.den := hm.resolve_right (fun h => h0 h.1)
      have hn : num 10 false m = q.den := by rw [hm', num_nn10 (by omega)]
      have s1 := txt_size (small_of_fits (fitsQ_iff.1 hq).1)
      have s2 := txt_size (small_of_fits (fitsQ_iff.1 hq).2)
      rw [decide_eq_false h0, cond_false, cond_false, hn, ByteArray.append_assoc]
      refine (bT (decide_eq_true (by omega))).trans (bT (decide_eq_true ?_))
      rw [ByteArray.size_append]
      show (txt q.num).size + 1 + _ ≤ _
      omega
  · cases h
theorem meets_mfloor : Meets Try.prog 46 ansmFloor := by
  refine meets_fn (orc_ok (l := MFloor.ans) ⟨meets_mlow, meets_rdiv, trivial⟩) Try.f46 rfl (by kernel_rfl) (fun args r h => ?_)
  unfold ansmFloor at h
  split at h
  · rename_i s l t m
    simp only [Option.some.injEq, Prod.mk.injEq] at h
    obtain ⟨h1, rfl⟩ := h
    refine ⟨rfl, _, noTab_all, (MFloor.rest s l t m).trans ?_⟩
    obtain ⟨q, hq, rfl, rfl, rfl, hrm, hc, hd, hm⟩ := isM_iff h1
    simp only [hrm, hc, hd, cn10_den hq, cn10_nm hq, N10_eq, num_lb10, floor_dq, Bool.and_self, cond_true]
  · cases h
theorem meets_mneg : Meets Try.prog 44 ansmNeg := by
  refine meets_fn (orc_ok (l := MNeg.ans) ⟨meets_rneg, trivial⟩) Try.f44 rfl (by kernel_rfl) (fun args r h => ?_)
  unfold ansmNeg at h
  split at h
  · rename_i s l t m
    simp only [Option.some.injEq, Prod.mk.injEq] at h
    obtain ⟨h1, rfl⟩ := h
    exact ⟨rfl, _, noTab_all, (MNeg.rest s l t m).trans (bT h1)⟩
  · cases h
theorem meets_mcmp : Meets Try.prog 40 ansmCmp := by
  refine meets_fn (orc_ok (l := MCmp.ans) ⟨meets_mlow, meets_rmul, meets_rcmp, trivial⟩) Try.f40 rfl (by kernel_rfl) (fun args r h => ?_)
  unfold ansmCmp at h
  split at h
  · rename_i s l t m s' l' t' m'
    simp only [Option.some.injEq, Prod.mk.injEq] at h
    obtain ⟨h1, rfl⟩ := h
    rw [Bool.and_eq_true] at h1
    refine ⟨rfl, _, noTab_all, (MCmp.rest s l t m s' l' t' m').trans ?_⟩
    obtain ⟨q, hq, rfl, rfl, rfl, hrm, hc, hd, hm⟩ := isM_iff h1.1
    obtain ⟨p, hp, rfl, rfl, rfl, hrm', hc', hd', hm'⟩ := isM_iff h1.2
    have f1 := small_mul (fitsQ_iff.1 hq).1 (fitsQ_iff.1 hp).2
    have f2 := small_mul (fitsQ_iff.1 hp).1 (fitsQ_iff.1 hq).2
    simp only [hrm, hc, hd, hrm', hc', hd', cn10_den hq, cn10_nm hq, cn10_den hp, cn10_nm hp, N10_eq, num_lb10, cn10, decide_eq_true f1, decide_eq_true f2, cmpQ_eq, Bool.and_self, cond_true]
  · cases h
theorem meets_mheld : Meets Try.prog 82 ansmHeld := by
  refine meets_fn (orc_ok (l := MHeld.ans) ⟨meets_mlow, meets_rtoobig, trivial⟩) Try.f82 rfl (by kernel_rfl) (fun args r h => ?_)
  unfold ansmHeld at h
  split at h
  · rename_i s l t m
    simp only [Option.some.injEq, Prod.mk.injEq] at h
    obtain ⟨h1, rfl⟩ := h
    rw [Bool.and_eq_true] at h1
    refine ⟨rfl, _, noTab_all, (MHeld.rest s l t m).trans ?_⟩
    obtain ⟨x, rfl, rfl, hx⟩ := (cn_iff T_two).1 h1.1
    obtain ⟨y, rfl, rfl, hy⟩ := (cn_iff T_two).1 h1.2
    have hdl : (dn y).natAbs < Lim := by
      by_cases h0 : y = 0
      · subst h0; exact small_of_fits (show fits 1 = true by kernel_rfl)
      · rw [dn_ne h0]; exact hy
    simp only [num_lb10, N10_eq, cn10, decide_eq_true hx, decide_eq_true hy, decide_eq_true hdl, cond_true, heldB_eq]
    cases fits x with
    | false => rfl
    | true => cases fits (dn y) <;> rfl
  · cases h
end Go.Abs
end
section
/- States and rounds of the reference of ratio (2), as a program of this session printed them. -/
set_option maxRecDepth 10000
namespace Go.Abs
open Go.Proofs Go.Dig
noncomputable section
namespace MAdd
abbrev ans : Ans := [(77, ansmLow), (81, ansmPlus), (71, anrGcd), (79, anrDiv), (80, anrAdd), (76, anrMul), (61, anrTooBig)]
abbrev orc : Orc := orcOf ans
theorem rest (s : Bool) (l : List Int) (t : Bool) (m : List Int) (sy : Bool) (ly : List Int) (ty : Bool) (my : List Int) : runT T orc (noTab) Try.f53 [.agg [.bool s, .ints .i64 l, .bool t, .ints .i64 m], .agg [.bool sy, .ints .i64 ly, .bool ty, .ints .i64 my]] =
    (bif cn (10) t m then (bif cn (10) ty my then (bif cn (10) (sg (dn (num (10) t m))) (lb (10) (dn (num (10) t m))) && cn (10) (sg (dn (num (10) ty my))) (lb (10) (dn (num (10) ty my))) then (bif cn (10) ty my then (bif cn (10) (sg (dn (num (10) ty my))) (lb (10) (dn (num (10) ty my))) && cn (10) false (lb (10) (gz (N (10) (dn (num (10) t m))) (N (10) (dn (num (10) ty my))))) then (bif cn (10) t m then (bif cn (10) (sg (dn (num (10) t m))) (lb (10) (dn (num (10) t m))) && cn (10) false (lb (10) (gz (N (10) (dn (num (10) t m))) (N (10) (dn (num (10) ty my))))) then (bif cn (10) s l && cn (10) (sg (dq (N (10) (dn (num (10) ty my))) (num (10) false (lb (10) (gz (N (10) (dn (num (10) t m))) (N (10) (dn (num (10) ty my)))))))) (lb (10) (dq (N (10) (dn (num (10) ty my))) (num (10) false (lb (10) (gz (N (10) (dn (num (10) t m))) (N (10) (dn (num (10) ty my)))))))) then (bif cn (10) sy ly && cn (10) (sg (dq (N (10) (dn (num (10) t m))) (num (10) false (lb (10) (gz (N (10) (dn (num (10) t m))) (N (10) (dn (num (10) ty my)))))))) (lb (10) (dq (N (10) (dn (num (10) t m))) (num (10) false (lb (10) (gz (N (10) (dn (num (10) t m))) (N (10) (dn (num (10) ty my)))))))) then (bif cn (10) (sg (num (10) s l * N (10) (dq (N (10) (dn (num (10) ty my))) (num (10) false (lb (10) (gz (N (10) (dn (num (10) t m))) (N (10) (dn (num (10) ty my))))))))) (lb (10) (num (10) s l * N (10) (dq (N (10) (dn (num (10) ty my))) (num (10) false (lb (10) (gz (N (10) (dn (num (10) t m))) (N (10) (dn (num (10) ty my))))))))) && cn (10) (sg (num (10) sy ly * N (10) (dq (N (10) (dn (num (10) t m))) (num (10) false (lb (10) (gz (N (10) (dn (num (10) t m))) (N (10) (dn (num (10) ty my))))))))) (lb (10) (num (10) sy ly * N (10) (dq (N (10) (dn (num (10) t m))) (num (10) false (lb (10) (gz (N (10) (dn (num (10) t m))) (N (10) (dn (num (10) ty my))))))))) then (bif cn (10) (sg (N (10) (num (10) s l * N (10) (dq (N (10) (dn (num (10) ty my))) (num (10) false (lb (10) (gz (N (10) (dn (num (10) t m))) (N (10) (dn (num (10) ty my)))))))) + N (10) (num (10) sy ly * N (10) (dq (N (10) (dn (num (10) t m))) (num (10) false (lb (10) (gz (N (10) (dn (num (10) t m))) (N (10) (dn (num (10) ty my)))))))))) (lb (10) (N (10) (num (10) s l * N (10) (dq (N (10) (dn (num (10) ty my))) (num (10) false (lb (10) (gz (N (10) (dn (num (10) t m))) (N (10) (dn (num (10) ty my)))))))) + N (10) (num (10) sy ly * N (10) (dq (N (10) (dn (num (10) t m))) (num (10) false (lb (10) (gz (N (10) (dn (num (10) t m))) (N (10) (dn (num (10) ty my)))))))))) && cn (10) false (lb (10) (gz (N (10) (dn (num (10) t m))) (N (10) (dn (num (10) ty my))))) then (bif cn (10) ty my then (bif cn (10) (sg (dn (num (10) ty my))) (lb (10) (dn (num (10) ty my))) && cn (10) false (lb (10) (gz (N (10) (N (10) (num (10) s l * N (10) (dq (N (10) (dn (num (10) ty my))) (num (10) false (lb (10) (gz (N (10) (dn (num (10) t m))) (N (10) (dn (num (10) ty my)))))))) + N (10) (num (10) sy ly * N (10) (dq (N (10) (dn (num (10) t m))) (num (10) false (lb (10) (gz (N (10) (dn (num (10) t m))) (N (10) (dn (num (10) ty my)))))))))) (num (10) false (lb (10) (gz (N (10) (dn (num (10) t m))) (N (10) (dn (num (10) ty my)))))))) then (bif cn (10) (sg (num (10) s l * N (10) (dq (N (10) (dn (num (10) ty my))) (num (10) false (lb (10) (gz (N (10) (dn (num (10) t m))) (N (10) (dn (num (10) ty my))))))))) (lb (10) (num (10) s l * N (10) (dq (N (10) (dn (num (10) ty my))) (num (10) false (lb (10) (gz (N (10) (dn (num (10) t m))) (N (10) (dn (num (10) ty my))))))))) then (bif !fits (N (10) (num (10) s l * N (10) (dq (N (10) (dn (num (10) ty my))) (num (10) false (lb (10) (gz (N (10) (dn (num (10) t m))) (N (10) (dn (num (10) ty my))))))))) then some (.val (.tup [.agg [.bool false, .ints .i64 [], .bool false, .ints .i64 []], .int .i64 (11)])) else (bif cn (10) (sg (num (10) sy ly * N (10) (dq (N (10) (dn (num (10) t m))) (num (10) false (lb (10) (gz (N (10) (dn (num (10) t m))) (N (10) (dn (num (10) ty my))))))))) (lb (10) (num (10) sy ly * N (10) (dq (N (10) (dn (num (10) t m))) (num (10) false (lb (10) (gz (N (10) (dn (num (10) t m))) (N (10) (dn (num (10) ty my))))))))) then (bif !fits (N (10) (num (10) sy ly * N (10) (dq (N (10) (dn (num (10) t m))) (num (10) false (lb (10) (gz (N (10) (dn (num (10) t m))) (N (10) (dn (num (10) ty my))))))))) then some (.val (.tup [.agg [.bool false, .ints .i64 [], .bool false, .ints .i64 []], .int .i64 (11)])) else (bif cn (10) (sg (N (10) (num (10) s l * N (10) (dq (N (10) (dn (num (10) ty my))) (num (10) false (lb (10) (gz (N (10) (dn (num (10) t m))) (N (10) (dn (num (10) ty my)))))))) + N (10) (num (10) sy ly * N (10) (dq (N (10) (dn (num (10) t m))) (num (10) false (lb (10) (gz (N (10) (dn (num (10) t m))) (N (10) (dn (num (10) ty my)))))))))) (lb (10) (N (10) (num (10) s l * N (10) (dq (N (10) (dn (num (10) ty my))) (num (10) false (lb (10) (gz (N (10) (dn (num (10) t m))) (N (10) (dn (num (10) ty my)))))))) + N (10) (num (10) sy ly * N (10) (dq (N (10) (dn (num (10) t m))) (num (10) false (lb (10) (gz (N (10) (dn (num (10) t m))) (N (10) (dn (num (10) ty my)))))))))) then (bif !fits (N (10) (N (10) (num (10) s l * N (10) (dq (N (10) (dn (num (10) ty my))) (num (10) false (lb (10) (gz (N (10) (dn (num (10) t m))) (N (10) (dn (num (10) ty my)))))))) + N (10) (num (10) sy ly * N (10) (dq (N (10) (dn (num (10) t m))) (num (10) false (lb (10) (gz (N (10) (dn (num (10) t m))) (N (10) (dn (num (10) ty my)))))))))) then some (.val (.tup [.agg [.bool false, .ints .i64 [], .bool false, .ints .i64 []], .int .i64 (11)])) else (bif cn (10) (sg (dq (N (10) (dn (num (10) t m))) (num (10) false (lb (10) (gz (N (10) (dn (num (10) t m))) (N (10) (dn (num (10) ty my)))))))) (lb (10) (dq (N (10) (dn (num (10) t m))) (num (10) false (lb (10) (gz (N (10) (dn (num (10) t m))) (N (10) (dn (num (10) ty my)))))))) && cn (10) (sg (dq (N (10) (dn (num (10) ty my))) (num (10) false (lb (10) (gz (N (10) (N (10) (num (10) s l * N (10) (dq (N (10) (dn (num (10) ty my))) (num (10) false (lb (10) (gz (N (10) (dn (num (10) t m))) (N (10) (dn (num (10) ty my)))))))) + N (10) (num (10) sy ly * N (10) (dq (N (10) (dn (num (10) t m))) (num (10) false (lb (10) (gz (N (10) (dn (num (10) t m))) (N (10) (dn (num (10) ty my)))))))))) (num (10) false (lb (10) (gz (N (10) (dn (num (10) t m))) (N (10) (dn (num (10) ty my))))))))))) (lb (10) (dq (N (10) (dn (num (10) ty my))) (num (10) false (lb (10) (gz (N (10) (N (10) (num (10) s l * N (10) (dq (N (10) (dn (num (10) ty my))) (num (10) false (lb (10) (gz (N (10) (dn (num (10) t m))) (N (10) (dn (num (10) ty my)))))))) + N (10) (num (10) sy ly * N (10) (dq (N (10) (dn (num (10) t m))) (num (10) false (lb (10) (gz (N (10) (dn (num (10) t m))) (N (10) (dn (num (10) ty my)))))))))) (num (10) false (lb (10) (gz (N (10) (dn (num (10) t m))) (N (10) (dn (num (10) ty my))))))))))) then (bif cn (10) (sg (N (10) (dq (N (10) (dn (num (10) t m))) (num (10) false (lb (10) (gz (N (10) (dn (num (10) t m))) (N (10) (dn (num (10) ty my))))))) * N (10) (dq (N (10) (dn (num (10) ty my))) (num (10) false (lb (10) (gz (N (10) (N (10) (num (10) s l * N (10) (dq (N (10) (dn (num (10) ty my))) (num (10) false (lb (10) (gz (N (10) (dn (num (10) t m))) (N (10) (dn (num (10) ty my)))))))) + N (10) (num (10) sy ly * N (10) (dq (N (10) (dn (num (10) t m))) (num (10) false (lb (10) (gz (N (10) (dn (num (10) t m))) (N (10) (dn (num (10) ty my)))))))))) (num (10) false (lb (10) (gz (N (10) (dn (num (10) t m))) (N (10) (dn (num (10) ty my)))))))))))) (lb (10) (N (10) (dq (N (10) (dn (num (10) t m))) (num (10) false (lb (10) (gz (N (10) (dn (num (10) t m))) (N (10) (dn (num (10) ty my))))))) * N (10) (dq (N (10) (dn (num (10) ty my))) (num (10) false (lb (10) (gz (N (10) (N (10) (num (10) s l * N (10) (dq (N (10) (dn (num (10) ty my))) (num (10) false (lb (10) (gz (N (10) (dn (num (10) t m))) (N (10) (dn (num (10) ty my)))))))) + N (10) (num (10) sy ly * N (10) (dq (N (10) (dn (num (10) t m))) (num (10) false (lb (10) (gz (N (10) (dn (num (10) t m))) (N (10) (dn (num (10) ty my)))))))))) (num (10) false (lb (10) (gz (N (10) (dn (num (10) t m))) (N (10) (dn (num (10) ty my)))))))))))) then (bif !fits (N (10) (N (10) (dq (N (10) (dn (num (10) t m))) (num (10) false (lb (10) (gz (N (10) (dn (num (10) t m))) (N (10) (dn (num (10) ty my))))))) * N (10) (dq (N (10) (dn (num (10) ty my))) (num (10) false (lb (10) (gz (N (10) (N (10) (num (10) s l * N (10) (dq (N (10) (dn (num (10) ty my))) (num (10) false (lb (10) (gz (N (10) (dn (num (10) t m))) (N (10) (dn (num (10) ty my)))))))) + N (10) (num (10) sy ly * N (10) (dq (N (10) (dn (num (10) t m))) (num (10) false (lb (10) (gz (N (10) (dn (num (10) t m))) (N (10) (dn (num (10) ty my)))))))))) (num (10) false (lb (10) (gz (N (10) (dn (num (10) t m))) (N (10) (dn (num (10) ty my)))))))))))) then some (.val (.tup [.agg [.bool false, .ints .i64 [], .bool false, .ints .i64 []], .int .i64 (11)])) else (bif isM s l t m && isM sy ly ty my then some (.val (.tup [.agg [.bool (sg (rm s l m + rm sy ly my).num), .ints .i64 (lb (10) (rm s l m + rm sy ly my).num), .bool false, .ints .i64 (lb (10) (↑(rm s l m + rm sy ly my).den : Int))], .int .i64 (0)])) else none)) else none) else none)) else none)) else none)) else none) else none) else none) else none) else none) else none) else none) else none) else none) else none) else none) else none) else none) else none) := by kernel_rfl
end MAdd
namespace MMul
abbrev ans : Ans := [(82, ansmHeld), (83, ansmTimes)]
abbrev orc : Orc := orcOf ans
theorem rest (s : Bool) (l : List Int) (t : Bool) (m : List Int) (sy : Bool) (ly : List Int) (ty : Bool) (my : List Int) : runT T orc (noTab) Try.f54 [.agg [.bool s, .ints .i64 l, .bool t, .ints .i64 m], .agg [.bool sy, .ints .i64 ly, .bool ty, .ints .i64 my]] =
    (bif isM s l t m && isM sy ly ty my then (bif cn (10) (sg (rm s l m * rm sy ly my).num) (lb (10) (rm s l m * rm sy ly my).num) && cn (10) false (lb (10) (↑(rm s l m * rm sy ly my).den : Int)) then some (.val (.tup [.agg [.bool (sg (bif heldB (N (10) (rm s l m * rm sy ly my).num) (num (10) false (lb (10) (↑(rm s l m * rm sy ly my).den : Int))) then N (10) (rm s l m * rm sy ly my).num else 0)), .ints .i64 (lb (10) (bif heldB (N (10) (rm s l m * rm sy ly my).num) (num (10) false (lb (10) (↑(rm s l m * rm sy ly my).den : Int))) then N (10) (rm s l m * rm sy ly my).num else 0)), .bool (sg (bif heldB (N (10) (rm s l m * rm sy ly my).num) (num (10) false (lb (10) (↑(rm s l m * rm sy ly my).den : Int))) then num (10) false (lb (10) (↑(rm s l m * rm sy ly my).den : Int)) else 0)), .ints .i64 (lb (10) (bif heldB (N (10) (rm s l m * rm sy ly my).num) (num (10) false (lb (10) (↑(rm s l m * rm sy ly my).den : Int))) then num (10) false (lb (10) (↑(rm s l m * rm sy ly my).den : Int)) else 0))], .int .i64 (bif heldB (N (10) (rm s l m * rm sy ly my).num) (num (10) false (lb (10) (↑(rm s l m * rm sy ly my).den : Int))) then 0 else 11)])) else none) else none) := by kernel_rfl
end MMul
namespace MQuo
abbrev ans : Ans := [(77, ansmLow), (18, ansmOf), (54, ansmMul)]
abbrev orc : Orc := orcOf ans
theorem rest (s : Bool) (l : List Int) (t : Bool) (m : List Int) (sy : Bool) (ly : List Int) (ty : Bool) (my : List Int) : runT T orc (noTab) Try.f55 [.agg [.bool s, .ints .i64 l, .bool t, .ints .i64 m], .agg [.bool sy, .ints .i64 ly, .bool ty, .ints .i64 my]] =
    (bif cn (10) ty my then (bif cn (10) (sg (dn (num (10) ty my))) (lb (10) (dn (num (10) ty my))) && cn (10) sy ly then (bif dc (num (10) sy ly) != 0 then some (.val (.tup [.agg [.bool false, .ints .i64 [], .bool false, .ints .i64 []], .int .i64 (dc (num (10) sy ly))])) else (bif isM s l t m && isM (sg (ofQ (N (10) (dn (num (10) ty my))) (num (10) sy ly)).num) (lb (10) (ofQ (N (10) (dn (num (10) ty my))) (num (10) sy ly)).num) false (lb (10) (bif num (10) sy ly == 0 then 0 else (↑(ofQ (N (10) (dn (num (10) ty my))) (num (10) sy ly)).den : Int))) then some (.val (.tup [.agg [.bool (sg (qmul (rm s l m) (rm (sg (ofQ (N (10) (dn (num (10) ty my))) (num (10) sy ly)).num) (lb (10) (ofQ (N (10) (dn (num (10) ty my))) (num (10) sy ly)).num) (lb (10) (bif num (10) sy ly == 0 then 0 else (↑(ofQ (N (10) (dn (num (10) ty my))) (num (10) sy ly)).den : Int))))).num), .ints .i64 (lb (10) (qmul (rm s l m) (rm (sg (ofQ (N (10) (dn (num (10) ty my))) (num (10) sy ly)).num) (lb (10) (ofQ (N (10) (dn (num (10) ty my))) (num (10) sy ly)).num) (lb (10) (bif num (10) sy ly == 0 then 0 else (↑(ofQ (N (10) (dn (num (10) ty my))) (num (10) sy ly)).den : Int))))).num), .bool false, .ints .i64 (lb (10) (lowE (emul (rm s l m) (rm (sg (ofQ (N (10) (dn (num (10) ty my))) (num (10) sy ly)).num) (lb (10) (ofQ (N (10) (dn (num (10) ty my))) (num (10) sy ly)).num) (lb (10) (bif num (10) sy ly == 0 then 0 else (↑(ofQ (N (10) (dn (num (10) ty my))) (num (10) sy ly)).den : Int))))) (qmul (rm s l m) (rm (sg (ofQ (N (10) (dn (num (10) ty my))) (num (10) sy ly)).num) (lb (10) (ofQ (N (10) (dn (num (10) ty my))) (num (10) sy ly)).num) (lb (10) (bif num (10) sy ly == 0 then 0 else (↑(ofQ (N (10) (dn (num (10) ty my))) (num (10) sy ly)).den : Int)))))))], .int .i64 (emul (rm s l m) (rm (sg (ofQ (N (10) (dn (num (10) ty my))) (num (10) sy ly)).num) (lb (10) (ofQ (N (10) (dn (num (10) ty my))) (num (10) sy ly)).num) (lb (10) (bif num (10) sy ly == 0 then 0 else (↑(ofQ (N (10) (dn (num (10) ty my))) (num (10) sy ly)).den : Int)))))])) else none)) else none) else none) := by kernel_rfl
end MQuo
end
end Go.Abs
end
section
/- States and rounds of the reference of ratio (3), as a program of this session printed them. -/
set_option maxRecDepth 10000
namespace Go.Abs
open Go.Proofs Go.Dig
noncomputable section
namespace MSum
abbrev ans : Ans := [(53, ansmAdd)]
abbrev orc : Orc := orcOf ans
noncomputable def L0 : Code := lp Try.f36 0
theorem isL0 : ∃ a, L0 = .loop a := ⟨_, rfl⟩
abbrev D0 : List Nat := [0, 2, 3, 4, 5, 8]
abbrev st0 (r : List (List AV)) (x1 : Int) (b0 : Bool) (l0 : List Int) (l1 : List Int) : St := ⟨.rows 4 r :: tops 1 (.ptr 2 0 0 :: .int .i64 (0) :: .ptr 4 0 0 :: .int .i64 x1 :: tops 2 (.agg [.bool false, .nil, .bool false, .nil] :: tops 21 ([]))), nos 2 (varE [(false, .bool false), (true, .ints .i64 []), (false, .bool false), (true, .ints .i64 [])] :: nos 1 (varE [(false, .bool b0), (false, .ints .i64 l0), (false, .bool false), (false, .ints .i64 l1)] :: nos 25 ([])))⟩
abbrev st0x0 (r : List (List AV)) (x2 : Int) (x1 : Int) (b0 : Bool) (l0 : List Int) (l1 : List Int) : St := ⟨.rows 4 r :: tops 1 (.ptr 2 0 0 :: .int .i64 x2 :: .ptr 4 0 0 :: .int .i64 x1 :: tops 2 (.agg [.bool false, .nil, .bool false, .nil] :: tops 21 ([]))), nos 2 (varE [(false, .bool false), (true, .ints .i64 []), (false, .bool false), (true, .ints .i64 [])] :: nos 1 (varE [(false, .bool b0), (false, .ints .i64 l0), (false, .bool false), (false, .ints .i64 l1)] :: nos 25 ([])))⟩
abbrev st0x1 (r : List (List AV)) : St := ⟨.rows 4 r :: tops 1 (.ptr 2 0 0 :: .int .i64 (0) :: .ptr 4 0 0 :: .int .i64 (0) :: tops 2 (.agg [.bool false, .nil, .bool false, .nil] :: tops 21 ([]))), nos 2 (varE [(false, .bool false), (true, .ints .i64 []), (false, .bool false), (true, .ints .i64 [])] :: nos 1 (varE [(false, .bool false), (true, .ints .i64 []), (false, .bool false), (true, .ints .i64 [])] :: nos 25 ([])))⟩
abbrev st0e (r : List (List AV)) : St := ⟨.rows 4 r :: tops 1 (.ptr 2 0 0 :: .int .i64 (0) :: .ptr 4 0 0 :: .int .i64 (0) :: tops 2 (.agg [.bool false, .nil, .bool false, .nil] :: tops 21 ([]))), nos 2 (varE [(false, .bool false), (true, .ints .i64 []), (false, .bool false), (true, .ints .i64 [])] :: nos 1 (varE [(false, .bool false), (true, .ints .i64 []), (false, .bool false), (true, .ints .i64 [])] :: nos 25 ([])))⟩
theorem round0e (r : List (List AV)) : goL T orc (noTab) D0 L0 (st0e r) =
    (bif decide (0 < (↑r.length : Int)) then (bif inB (0) r.length then (bif etasOk [.bool false, .ints .i64 [], .bool false, .ints .i64 []] (r.getD 0 []) then (bif isM false [] false [] && isM (gBool ((r.getD 0 []).getD 0 .top)) (gInts ((r.getD 0 []).getD 1 .top)) (gBool ((r.getD 0 []).getD 2 .top)) (gInts ((r.getD 0 []).getD 3 .top)) then (bif eadd (rm false [] []) (rm (gBool ((r.getD 0 []).getD 0 .top)) (gInts ((r.getD 0 []).getD 1 .top)) (gInts ((r.getD 0 []).getD 3 .top))) != 0 then some (.ret, st0x0 r (eadd (rm false [] []) (rm (gBool ((r.getD 0 []).getD 0 .top)) (gInts ((r.getD 0 []).getD 1 .top)) (gInts ((r.getD 0 []).getD 3 .top)))) (0) (false) ([]) ([])) else some (.normal, st0 r (IntKind.i64.wrap (0 + 1)) (sg (qadd (rm false [] []) (rm (gBool ((r.getD 0 []).getD 0 .top)) (gInts ((r.getD 0 []).getD 1 .top)) (gInts ((r.getD 0 []).getD 3 .top)))).num) (lb (10) (qadd (rm false [] []) (rm (gBool ((r.getD 0 []).getD 0 .top)) (gInts ((r.getD 0 []).getD 1 .top)) (gInts ((r.getD 0 []).getD 3 .top)))).num) (lb (10) (lowE (eadd (rm false [] []) (rm (gBool ((r.getD 0 []).getD 0 .top)) (gInts ((r.getD 0 []).getD 1 .top)) (gInts ((r.getD 0 []).getD 3 .top)))) (qadd (rm false [] []) (rm (gBool ((r.getD 0 []).getD 0 .top)) (gInts ((r.getD 0 []).getD 1 .top)) (gInts ((r.getD 0 []).getD 3 .top)))))))) else none) else none) else none) else some (.exit 0, st0e r)) := by kernel_rfl
theorem round0 (r : List (List AV)) (x1 : Int) (b0 : Bool) (l0 : List Int) (l1 : List Int) : goL T orc (noTab) D0 L0 (st0 r x1 b0 l0 l1) =
    (bif decide (x1 < (↑r.length : Int)) then (bif inB x1 r.length then (bif etasOk [.bool false, .ints .i64 [], .bool false, .ints .i64 []] (r.getD x1.toNat []) then (bif isM b0 l0 false l1 && isM (gBool ((r.getD x1.toNat []).getD 0 .top)) (gInts ((r.getD x1.toNat []).getD 1 .top)) (gBool ((r.getD x1.toNat []).getD 2 .top)) (gInts ((r.getD x1.toNat []).getD 3 .top)) then (bif eadd (rm b0 l0 l1) (rm (gBool ((r.getD x1.toNat []).getD 0 .top)) (gInts ((r.getD x1.toNat []).getD 1 .top)) (gInts ((r.getD x1.toNat []).getD 3 .top))) != 0 then some (.ret, st0x0 r (eadd (rm b0 l0 l1) (rm (gBool ((r.getD x1.toNat []).getD 0 .top)) (gInts ((r.getD x1.toNat []).getD 1 .top)) (gInts ((r.getD x1.toNat []).getD 3 .top)))) x1 b0 l0 l1) else some (.normal, st0 r (IntKind.i64.wrap (x1 + 1)) (sg (qadd (rm b0 l0 l1) (rm (gBool ((r.getD x1.toNat []).getD 0 .top)) (gInts ((r.getD x1.toNat []).getD 1 .top)) (gInts ((r.getD x1.toNat []).getD 3 .top)))).num) (lb (10) (qadd (rm b0 l0 l1) (rm (gBool ((r.getD x1.toNat []).getD 0 .top)) (gInts ((r.getD x1.toNat []).getD 1 .top)) (gInts ((r.getD x1.toNat []).getD 3 .top)))).num) (lb (10) (lowE (eadd (rm b0 l0 l1) (rm (gBool ((r.getD x1.toNat []).getD 0 .top)) (gInts ((r.getD x1.toNat []).getD 1 .top)) (gInts ((r.getD x1.toNat []).getD 3 .top)))) (qadd (rm b0 l0 l1) (rm (gBool ((r.getD x1.toNat []).getD 0 .top)) (gInts ((r.getD x1.toNat []).getD 1 .top)) (gInts ((r.getD x1.toNat []).getD 3 .top)))))))) else none) else none) else none) else some (.exit 0, st0 r x1 b0 l0 l1)) := by kernel_rfl
-- loop 0 ends ret st0x0 r x2 x1 b0 l0 l1
-- loop 0 ends exit0 st0 r x1 b0 l0 l1
-- loop 0 ends exit0 st0e r
theorem rest_0 (r : List (List AV)) (x3 : Int) (x4 : Int) (b1 : Bool) (l2 : List Int) (l3 : List Int) : runT T orc (tabOf T orc [(3, 491028415989253179138833356663221998, .ret, st0x0 r x3 x4 b1 l2 l3)]) Try.f36 [.rows 4 r] =
    (bif cdec (Ends T orc L0 D0 (st0e r) .ret (st0x0 r x3 x4 b1 l2 l3)) then some (.val (.tup [.agg [.bool false, .ints .i64 [], .bool false, .ints .i64 []], .int .i64 x3])) else none) := by kernel_rfl
theorem rest_1 (r : List (List AV)) (b2 : Bool) (l4 : List Int) (l5 : List Int) (x5 : Int) : runT T orc (tabOf T orc [(3, 491028415989253179138833356663221998, .exit 0, st0 r x5 b2 l4 l5)]) Try.f36 [.rows 4 r] =
    (bif cdec (Ends T orc L0 D0 (st0e r) (.exit 0) (st0 r x5 b2 l4 l5)) then some (.val (.tup [.agg [.bool b2, .ints .i64 l4, .bool false, .ints .i64 l5], .int .i64 (0)])) else none) := by kernel_rfl
theorem rest_2 (r : List (List AV)) : runT T orc (tabOf T orc [(3, 491028415989253179138833356663221998, .exit 0, st0e r)]) Try.f36 [.rows 4 r] =
    (bif cdec (Ends T orc L0 D0 (st0e r) (.exit 0) (st0e r)) then some (.val (.tup [.agg [.bool false, .ints .i64 [], .bool false, .ints .i64 []], .int .i64 (0)])) else none) := by kernel_rfl
end MSum
end
end Go.Abs
end
section
/- The reference of ratio: sums, products, quotients, lists. -/
namespace Go.Abs
open Go.Proofs Go.Dig
set_option exponentiation.threshold 20000 in
theorem small_mul3 {x y z w : Int} (hx : fits x = true) (hy : fits y = true) (hz : fits z = true) (hw : fits w = true) : (x * y + z * w).natAbs < Lim := by
  have h1 := fits_iff.1 hx
  have h2 := fits_iff.1 hy
  have h3 := fits_iff.1 hz
  have h4 := fits_iff.1 hw
  have h5 : (x * y).natAbs ≤ 2 ^ 1024 * 2 ^ 1024 := by rw [Int.natAbs_mul]; exact Nat.mul_le_mul (Nat.le_of_lt h1) (Nat.le_of_lt h2)
  have h6 : (z * w).natAbs ≤ 2 ^ 1024 * 2 ^ 1024 := by rw [Int.natAbs_mul]; exact Nat.mul_le_mul (Nat.le_of_lt h3) (Nat.le_of_lt h4)
  have h7 : (2 : Nat) ^ 1024 * 2 ^ 1024 * 2 < Lim := Nat.lt_of_not_le (fun h => by
    have a1 : Nat.ble Lim (2 ^ 1024 * 2 ^ 1024 * 2) = true := Nat.ble_eq_true_of_le h
    have a2 : Nat.ble Lim (2 ^ 1024 * 2 ^ 1024 * 2) = false := by kernel_rfl
    rw [a2] at a1; cases a1)
  generalize (2 : Nat) ^ 1024 * 2 ^ 1024 = W at *
  omega
theorem den_ne {q p : Rat} : ((q.den : Int) * p.den == 0) = false := by
  have h1 := den_pos' q
  have h2 := den_pos' p
  rw [beq_eq_false_iff_ne]
  have := Int.mul_pos (show (0 : Int) < q.den by omega) (show (0 : Int) < p.den by omega)
  omega
theorem meets_mplus : Meets Try.prog 81 ansmPlus := by
  refine meets_fn (orc_ok (l := MPlus.ans) ⟨meets_mlow, meets_mlowest, meets_radd, meets_rmul, trivial⟩) Try.f81 rfl (by kernel_rfl) (fun args r h => ?_)
  unfold ansmPlus at h
  split at h
  · rename_i s l t m s' l' t' m'
    simp only [Option.some.injEq, Prod.mk.injEq] at h
    obtain ⟨h1, rfl⟩ := h
    rw [Bool.and_eq_true] at h1
    refine ⟨rfl, _, noTab_all, (MPlus.rest s l t m s' l' t' m').trans ?_⟩
    obtain ⟨q, hq, rfl, rfl, rfl, hrm, hc, hd, hm⟩ := isM_iff h1.1
    obtain ⟨p, hp, rfl, rfl, rfl, hrm', hc', hd', hm'⟩ := isM_iff h1.2
    obtain ⟨qn, qd⟩ := fitsQ_iff.1 hq
    obtain ⟨pn, pd⟩ := fitsQ_iff.1 hp
    simp only [hrm, hc, hd, hrm', hc', hd', cn10_den hq, cn10_nm hq, cn10_den hp, cn10_nm hp, N10_eq, num_lb10, cn10, decide_eq_true (small_mul qn pd), decide_eq_true (small_mul pn qd), decide_eq_true (small_mul qd pd), decide_eq_true (small_mul3 qn pd pn qd), den_ne, Bool.not_false, Bool.and_self, cond_true, ← add_mk]
  · cases h
theorem meets_mtimes : Meets Try.prog 83 ansmTimes := by
  refine meets_fn (orc_ok (l := MTimes.ans) ⟨meets_mlow, meets_mlowest, meets_rmul, trivial⟩) Try.f83 rfl (by kernel_rfl) (fun args r h => ?_)
  unfold ansmTimes at h
  split at h
  · rename_i s l t m s' l' t' m'
    simp only [Option.some.injEq, Prod.mk.injEq] at h
    obtain ⟨h1, rfl⟩ := h
    rw [Bool.and_eq_true] at h1
    refine ⟨rfl, _, noTab_all, (MTimes.rest s l t m s' l' t' m').trans ?_⟩
    obtain ⟨q, hq, rfl, rfl, rfl, hrm, hc, hd, hm⟩ := isM_iff h1.1
    obtain ⟨p, hp, rfl, rfl, rfl, hrm', hc', hd', hm'⟩ := isM_iff h1.2
    obtain ⟨qn, qd⟩ := fitsQ_iff.1 hq
    obtain ⟨pn, pd⟩ := fitsQ_iff.1 hp
    simp only [hrm, hc, hd, hrm', hc', hd', cn10_den hq, cn10_nm hq, cn10_den hp, cn10_nm hp, N10_eq, num_lb10, cn10, decide_eq_true (small_mul qn pn), decide_eq_true (small_mul qd pd), den_ne, Bool.not_false, Bool.and_self, cond_true, ← mul_mk]
  · cases h
theorem mul_small {q p : Rat} (hq : fitsQ q = true) (hp : fitsQ p = true) : (q * p).num.natAbs < Lim ∧ ((q * p).den : Int).natAbs < Lim := by
  obtain ⟨qn, qd⟩ := fitsQ_iff.1 hq
  obtain ⟨pn, pd⟩ := fitsQ_iff.1 hp
  rw [mul_mk, ofQ_num (Int.mul_pos (den_pos' q) (den_pos' p)), ofQ_den (Int.mul_pos (den_pos' q) (den_pos' p))]
  exact ⟨Nat.lt_of_le_of_lt (Int.natAbs_ediv_le_natAbs ..) (small_mul qn pn), Nat.lt_of_le_of_lt (Int.natAbs_ediv_le_natAbs ..) (small_mul qd pd)⟩
theorem meets_mmul : Meets Try.prog 54 ansmMul := by
  refine meets_fn (orc_ok (l := MMul.ans) ⟨meets_mheld, meets_mtimes, trivial⟩) Try.f54 rfl (by kernel_rfl) (fun args r h => ?_)
  unfold ansmMul at h
  split at h
  · rename_i s l t m s' l' t' m'
    simp only [Option.some.injEq, Prod.mk.injEq] at h
    obtain ⟨h1, rfl⟩ := h
    refine ⟨rfl, _, noTab_all, (MMul.rest s l t m s' l' t' m').trans ((bT h1).trans ?_)⟩
    rw [Bool.and_eq_true] at h1
    obtain ⟨q, hq, rfl, rfl, rfl, hrm, hc, hd, hm⟩ := isM_iff h1.1
    obtain ⟨p, hp, rfl, rfl, rfl, hrm', hc', hd', hm'⟩ := isM_iff h1.2
    obtain ⟨s1, s2⟩ := mul_small hq hp
    have c1 : cn 10 false (lb 10 ((q * p).den : Int)) = true := by
      have := cn10 ((q * p).den : Int)
      rw [sg_nn (Int.natCast_nonneg _), decide_eq_true s2] at this; exact this
    rw [hrm, hrm']
    have hv := den_pos' (q * p)
    have hh : heldB (q * p).num ((q * p).den : Int) = fitsQ (q * p) := by rw [heldB_eq, fitsQ_eq, dn_ne (by omega)]
    simp only [cn10, decide_eq_true s1, c1, N10_eq, num_nn10 (Int.natCast_nonneg _), hh, Bool.and_self, cond_true]
    have hq0 := qmul_eq q p
    have he0 := emul_eq q p
    cases hf : fitsQ (q * p) with
    | true =>
      have e1 : emul q p = 0 := by rw [he0, hf]; rfl
      have e2 : qmul q p = q * p := by rw [hq0, e1]; rfl
      rw [e1, e2, lowE_eq, sg_nn (show (0 : Int) ≤ bif true then ((q * p).den : Int) else 0 from Int.natCast_nonneg _)]
      rfl
    | false =>
      have e1 : emul q p = 11 := by rw [he0, hf]; rfl
      have e2 : qmul q p = 0 := by rw [hq0, e1]; rfl
      rw [e1, e2, lowE_eq]
      rfl
  · cases h
end Go.Abs
end
section
/- The reference of ratio: sums and quotients. -/
namespace Go.Abs
open Go.Proofs Go.Dig
theorem meets_mquo : Meets Try.prog 55 ansmQuo := by
  refine meets_fn (orc_ok (l := MQuo.ans) ⟨meets_mlow, meets_mof, meets_mmul, trivial⟩) Try.f55 rfl (by kernel_rfl) (fun args r h => ?_)
  unfold ansmQuo at h
  split at h
  · rename_i s l t m s' l' t' m'
    simp only [Option.some.injEq, Prod.mk.injEq] at h
    obtain ⟨h1, rfl⟩ := h
    refine ⟨rfl, _, noTab_all, (MQuo.rest s l t m s' l' t' m').trans ?_⟩
    rw [Bool.and_eq_true] at h1
    have hm1 := h1.1
    obtain ⟨q, hq, rfl, rfl, rfl, hrm, hc, hd, hm⟩ := isM_iff h1.1
    obtain ⟨p, hp, rfl, rfl, rfl, hrm', hc', hd', hm'⟩ := isM_iff h1.2
    simp only [hrm, hrm', hc', hd', hm1, cn10_den hp, cn10_nm hp, N10_eq, num_lb10, ofQ_inv, Bool.and_self, Bool.true_and, cond_true]
    have hq0 := qquo_eq q p
    have he0 := equo_eq q p
    have hi0 := einv_eq p
    by_cases h0 : p.num = 0
    · have e0 : einv p = 12 := by rw [hi0, h0]; rfl
      have e1 : equo q p = 12 := by rw [he0, e0]; rfl
      have e2 : qquo q p = 0 := by rw [hq0, e1]; rfl
      have hl : lowE 12 0 = 0 := by rw [lowE_eq]; rfl
      rw [e1, e2, h0, hl]
      rfl
    · have e0 : einv p = 0 := by rw [hi0]; unfold dc; rw [if_neg h0]
      have hdc : dc p.num = 0 := by unfold dc; rw [if_neg h0]
      have e1 : equo q p = emul q p⁻¹ := by rw [he0, e0]; rfl
      have e2 : qquo q p = qmul q p⁻¹ := by rw [hq0, e1, qmul_eq]
      have hb : (p.num == 0) = false := by rw [beq_eq_false_iff_ne]; exact h0
      obtain ⟨i1, i2⟩ := isM_of (fitsQ_inv hp) (m := lb 10 (p⁻¹.den : Int)) (.inl rfl)
      rw [hdc, hb, cond_false, i1, i2, e1, e2]
      rfl
  · cases h
theorem eadd_dq (q p : Rat) : eadd q p = bif fits (q.num * dq p.den (gz q.den p.den)) && fits (p.num * dq q.den (gz q.den p.den)) && fits (q.num * dq p.den (gz q.den p.den) + p.num * dq q.den (gz q.den p.den)) && fits (dq q.den (gz q.den p.den) * dq p.den (gz (q.num * dq p.den (gz q.den p.den) + p.num * dq q.den (gz q.den p.den)) (gz q.den p.den))) then 0 else 11 := by
  have hgz : gz (q.den : Int) p.den = ((Nat.gcd q.den p.den : Nat) : Int) := rfl
  rw [hgz]
  obtain ⟨g, hg⟩ : ∃ g, g = Nat.gcd q.den p.den := ⟨_, rfl⟩
  have hgp : 0 < g := hg ▸ Nat.gcd_pos_of_pos_right _ (by have := p.den_nz; omega)
  have hE := eadd_eq q p
  rw [← hg] at hE ⊢
  have hdq : ∀ x : Int, dq x (g : Int) = x / (g : Int) := fun x => by unfold dq; rw [if_neg (by omega), Int.fdiv_eq_ediv_of_nonneg _ (by omega)]
  dsimp only at hE
  have hgc : ∀ T : Int, Int.gcd T (g : Int) = Nat.gcd T.natAbs g := fun _ => rfl
  rw [hgc] at hE
  rw [hdq, hdq, dq_gz 0 _ _ (by omega), hE]
theorem meets_madd : Meets Try.prog 53 ansmAdd := by
  refine meets_fn (orc_ok (l := MAdd.ans) ⟨meets_mlow, meets_mplus, meets_rgcd, meets_rdiv, meets_radd, meets_rmul, meets_rtoobig, trivial⟩) Try.f53 rfl (by kernel_rfl) (fun args r h => ?_)
  unfold ansmAdd at h
  split at h
  · rename_i s l t m s' l' t' m'
    simp only [Option.some.injEq, Prod.mk.injEq] at h
    obtain ⟨h1, rfl⟩ := h
    refine ⟨rfl, _, noTab_all, (MAdd.rest s l t m s' l' t' m').trans ?_⟩
    have hmm := h1
    rw [Bool.and_eq_true] at h1
    obtain ⟨q, hq, rfl, rfl, rfl, hrm, hc, hd, hm⟩ := isM_iff h1.1
    obtain ⟨p, hp, rfl, rfl, rfl, hrm', hc', hd', hm'⟩ := isM_iff h1.2
    obtain ⟨fqn, fqd⟩ := fitsQ_iff.1 hq
    obtain ⟨fpn, fpd⟩ := fitsQ_iff.1 hp
    have fg := fits_gz fqd fpd
    have f3 := fits_dq (y := gz q.den p.den) fqd
    have f4 := fits_dq (y := gz q.den p.den) fpd
    simp only [hmm, hrm, hrm', hc, hc', hd, hd', cn10_den hp, cn10_nm hp, cn10_den hq, cn10_nm hq, cn10_gz, num10_gz, cn10, N10_eq, num_lb10, fit_lim fg, fit_lim f3, fit_lim f4, decide_eq_true (small_mul fqn f4), decide_eq_true (small_mul fpn f3), decide_eq_true (small_mul3 fqn f4 fpn f3), Bool.and_self, Bool.true_and, cond_true]
    have hE := eadd_dq q p
    have hV := qadd_eq q p
    have fk := fits_dq (y := gz (q.num * dq p.den (gz q.den p.den) + p.num * dq q.den (gz q.den p.den)) (gz q.den p.den)) fpd
    have g0 : gz (q.den : Int) p.den ≠ 0 := by
      have : 0 < Nat.gcd q.den p.den := Nat.gcd_pos_of_pos_right _ (by have := p.den_nz; omega)
      rw [show gz (q.den : Int) p.den = ((Nat.gcd q.den p.den : Nat) : Int) from rfl]
      omega
    have gl := gz_lim (a := q.num * dq p.den (gz q.den p.den) + p.num * dq q.den (gz q.den p.den)) g0 (small_of_fits fg)
    rw [decide_eq_true gl, fit_lim fk, decide_eq_true (small_mul f3 fk)]
    have l11 : lowE 11 0 = 0 := by rw [lowE_eq]; rfl
    have l0 : lowE 0 (q + p) = (q + p).den := by rw [lowE_eq]; rfl
    generalize fits (q.num * dq p.den (gz q.den p.den)) = b1 at *
    generalize fits (p.num * dq q.den (gz q.den p.den)) = b2 at *
    generalize fits (q.num * dq p.den (gz q.den p.den) + p.num * dq q.den (gz q.den p.den)) = b3 at *
    generalize fits (dq q.den (gz q.den p.den) * _) = b4 at *
    cases b1
    · have e : eadd q p = 11 := hE
      rw [e] at hV ⊢
      have e2 : qadd q p = 0 := hV
      rw [e2, l11]; rfl
    cases b2
    · have e : eadd q p = 11 := hE
      rw [e] at hV ⊢
      have e2 : qadd q p = 0 := hV
      rw [e2, l11]; rfl
    cases b3
    · have e : eadd q p = 11 := hE
      rw [e] at hV ⊢
      have e2 : qadd q p = 0 := hV
      rw [e2, l11]; rfl
    cases b4
    · have e : eadd q p = 11 := hE
      rw [e] at hV ⊢
      have e2 : qadd q p = 0 := hV
      rw [e2, l11]; rfl
    · have e : eadd q p = 0 := hE
      rw [e] at hV ⊢
      have e2 : qadd q p = q + p := hV
      rw [e2, l0]; rfl
  · cases h
end Go.Abs
end
section
/- The reference of ratio: lists and texts. -/
namespace Go.Abs
open Go.Proofs Go.Dig
theorem isM_row {c : List AV} (h : rowIsM c = true) : ∃ q m, fitsQ q = true ∧ c = [.bool (sg q.num), .ints .i64 (lb 10 q.num), .bool false, .ints .i64 m] ∧ isM (sg q.num) (lb 10 q.num) false m = true ∧ rm (sg q.num) (lb 10 q.num) m = q := by
  unfold rowIsM at h
  split at h
  · rename_i s l t m
    obtain ⟨q, hq, rfl, rfl, rfl, hrm, hc, hd, hm⟩ := isM_iff h
    exact ⟨q, m, hq, rfl, h, hrm⟩
  · cases h
theorem all_getM {r : List (List AV)} (h : r.all rowIsM = true) {i : Nat} (hi : i < r.length) : rowIsM r[i] = true := List.all_eq_true.1 h _ (List.getElem_mem hi)
/-- How the reference keeps a sum: what stands below is written but for the first nought. -/
def lowK (i : Nat) (s : Rat) : Int := if i = 0 then 0 else s.den
namespace MSum
theorem step (r : List (List AV)) (hr : r.all rowIsM = true) (i : Nat) (hi : i < r.length) : ∃ m : List Int, fitsQ (rowM r[i]) = true ∧ r.getD (i : Int).toNat [] = [.bool (sg (rowM r[i]).num), .ints .i64 (lb 10 (rowM r[i]).num), .bool false, .ints .i64 m] ∧
    isM (sg (rowM r[i]).num) (lb 10 (rowM r[i]).num) false m = true ∧ rm (sg (rowM r[i]).num) (lb 10 (rowM r[i]).num) m = rowM r[i] := by
  obtain ⟨q, m, hq, hc, h1, h2⟩ := isM_row (all_getM hr hi)
  have e : rowM r[i] = q := by rw [hc]; exact h2
  rw [e, Int.toNat_natCast, getD_at hi, hc]
  exact ⟨m, hq, rfl, h1, h2⟩
/-- Behind the first round. -/
theorem loop (r : List (List AV)) (hr : r.all rowIsM = true) (hn : r.length ≤ 100000) (s0 : Rat) (hs0 : fitsQ s0 = true) (h0 : 1 ≤ r.length) (hv0 : sumQ 0 (r.map rowM) = sumQ s0 ((r.map rowM).drop 1)) :
    ∃ e S1, Ends T orc L0 D0 (st0 r 1 (sg s0.num) (lb 10 s0.num) (lb 10 s0.den)) e S1 ∧
      ((e = .exit 0 ∧ ∃ s x, sumQ 0 (r.map rowM) = some s ∧ S1 = st0 r x (sg s.num) (lb 10 s.num) (lb 10 s.den)) ∨ (e = .ret ∧ sumQ 0 (r.map rowM) = none ∧ ∃ x b u v, S1 = st0x0 r 11 x b u v)) := by
  refine loop_inv2 (fun (i : Nat) (s : Rat) => st0 r i (sg s.num) (lb 10 s.num) (lb 10 s.den)) (fun i s => i ≤ r.length ∧ fitsQ s = true ∧ sumQ 0 (r.map rowM) = sumQ s ((r.map rowM).drop i)) (fun i s => r.length - i)
    (fun e S1 => (e = .exit 0 ∧ ∃ s x, sumQ 0 (r.map rowM) = some s ∧ S1 = st0 r x (sg s.num) (lb 10 s.num) (lb 10 s.den)) ∨ (e = .ret ∧ sumQ 0 (r.map rowM) = none ∧ ∃ x b u v, S1 = st0x0 r 11 x b u v)) isL0 ?_ 1 s0 ⟨h0, hs0, hv0⟩
  intro i s ⟨k1, k2, k3⟩
  refine ⟨noTab, noTab_all, lands_of (round0 ..) ?_⟩
  by_cases hi : i < r.length
  · obtain ⟨m, hf, hg, i1, i2⟩ := step r hr i hi
    generalize hq : rowM r[i] = q at *
    have e0 : gBool (([.bool (sg q.num), .ints .i64 (lb 10 q.num), .bool false, .ints .i64 m] : List AV).getD 0 .top) = sg q.num := rfl
    have e1 : gInts (([.bool (sg q.num), .ints .i64 (lb 10 q.num), .bool false, .ints .i64 m] : List AV).getD 1 .top) = lb 10 q.num := rfl
    have e2 : gBool (([.bool (sg q.num), .ints .i64 (lb 10 q.num), .bool false, .ints .i64 m] : List AV).getD 2 .top) = false := rfl
    have e3 : gInts (([.bool (sg q.num), .ints .i64 (lb 10 q.num), .bool false, .ints .i64 m] : List AV).getD 3 .top) = m := rfl
    have e4 : etasOk [.bool false, .ints .i64 [], .bool false, .ints .i64 []] [.bool (sg q.num), .ints .i64 (lb 10 q.num), .bool false, .ints .i64 m] = true := rfl
    have hb : inB (i : Int) r.length = true := by rw [inB_iff]; omega
    obtain ⟨j1, j2⟩ := isM_of k2 (m := lb 10 (s.den : Int)) (.inl rfl)
    rw [List.drop_eq_getElem_cons (by rw [List.length_map]; exact hi), List.getElem_map, hq, sumQ] at k3
    rw [hg, e0, e1, e2, e3, e4, hb, i1, i2, j1, j2, decide_eq_true (show (i : Int) < r.length by omega)]
    simp only [Bool.and_self, cond_true, wi_succ (show i < 4611686018427387904 by omega)]
    by_cases he : eadd s q = 0
    · have hl : lowE 0 (s + q) = (s + q).den := by rw [lowE_eq]; rfl
      rw [he, qadd_ok he, hl]
      rw [he, show ((0 : Int) == 0) = true from rfl, cond_true] at k3
      rw [show ((0 : Int) != 0) = false from rfl, cond_false]
      simp only [lands_some, Turns2]
      exact ⟨i + 1, s + q, rfl, ⟨by omega, fitsQ_add k2 hf he, k3⟩, by omega⟩
    · rw [ne_b he, cond_true]
      rw [show (eadd s q == 0) = false from by rw [beq_eq_false_iff_ne]; exact he, cond_false] at k3
      simp only [lands_some, Turns2]
      refine .inr ⟨trivial, k3, i, sg s.num, lb 10 s.num, lb 10 s.den, ?_⟩
      rw [(eadd_cases s q).resolve_left he]
  · rw [decide_eq_false (by omega), cond_false]
    simp only [lands_some, Turns2]
    rw [List.drop_of_length_le (by rw [List.length_map]; omega), sumQ] at k3
    exact .inl ⟨trivial, s, i, k3, rfl⟩
theorem isM0 : isM false [] false [] = true ∧ rm false [] [] = 0 := isM_of fitsQ_0 (m := []) (.inr ⟨rfl, rfl⟩)
/-- From the first round on. -/
theorem whole (r : List (List AV)) (hr : r.all rowIsM = true) (hn : r.length ≤ 100000) :
    (r = [] ∧ Ends T orc L0 D0 (st0e r) (.exit 0) (st0e r)) ∨ (r ≠ [] ∧ ∃ s x, sumQ 0 (r.map rowM) = some s ∧ Ends T orc L0 D0 (st0e r) (.exit 0) (st0 r x (sg s.num) (lb 10 s.num) (lb 10 s.den))) ∨ (sumQ 0 (r.map rowM) = none ∧ ∃ x b u v, Ends T orc L0 D0 (st0e r) .ret (st0x0 r 11 x b u v)) := by
  obtain ⟨a, ha⟩ := isL0
  by_cases h0 : r = []
  · refine .inl ⟨h0, ?_⟩
    have hround := round0e r
    rw [ha] at hround ⊢
    refine ends_exit (noTab_all _) (hround.trans ?_)
    rw [h0]
    rfl
  · have h1 : 0 < r.length := List.length_pos_iff.2 h0
    obtain ⟨m, hf, hg, i1, i2⟩ := step r hr 0 h1
    have hround := round0e r
    have hg' : r.getD 0 [] = _ := hg
    have hsum : sumQ 0 (r.map rowM) = bif eadd 0 (rowM r[0]) == 0 then sumQ (0 + rowM r[0]) ((r.map rowM).drop 1) else none := by
      have e1 : r.map rowM = rowM r[0] :: (r.map rowM).drop 1 := by
        have := List.drop_eq_getElem_cons (l := r.map rowM) (i := 0) (by rw [List.length_map]; exact h1)
        rw [List.drop_zero, List.getElem_map] at this
        exact this
      rw [e1, sumQ]
      rfl
    generalize rowM r[0] = q at *
    have e0 : gBool (([.bool (sg q.num), .ints .i64 (lb 10 q.num), .bool false, .ints .i64 m] : List AV).getD 0 .top) = sg q.num := rfl
    have e1 : gInts (([.bool (sg q.num), .ints .i64 (lb 10 q.num), .bool false, .ints .i64 m] : List AV).getD 1 .top) = lb 10 q.num := rfl
    have e2 : gBool (([.bool (sg q.num), .ints .i64 (lb 10 q.num), .bool false, .ints .i64 m] : List AV).getD 2 .top) = false := rfl
    have e3 : gInts (([.bool (sg q.num), .ints .i64 (lb 10 q.num), .bool false, .ints .i64 m] : List AV).getD 3 .top) = m := rfl
    have e4 : etasOk [.bool false, .ints .i64 [], .bool false, .ints .i64 []] [.bool (sg q.num), .ints .i64 (lb 10 q.num), .bool false, .ints .i64 m] = true := rfl
    have hb : inB 0 r.length = true := by rw [inB_iff]; omega
    rw [hg', e0, e1, e2, e3, e4, hb, i1, i2, isM0.1, isM0.2, decide_eq_true (show (0 : Int) < r.length by omega)] at hround
    simp only [Bool.and_self, cond_true] at hround
    by_cases he : eadd 0 q = 0
    · have hl : lowE 0 (0 + q) = (0 + q).den := by rw [lowE_eq]; rfl
      rw [he, qadd_ok he, hl, show ((0 : Int) != 0) = false from rfl, cond_false] at hround
      rw [he, show ((0 : Int) == 0) = true from rfl, cond_true] at hsum
      obtain ⟨e, S1, hE, h⟩ := loop r hr hn (0 + q) (fitsQ_add fitsQ_0 hf he) h1 hsum
      rw [ha] at hround hE ⊢
      have hN := ends_next (noTab_all _) hround hE
      rcases h with ⟨rfl, s, x, hs, rfl⟩ | ⟨rfl, hs, x, b, u, v, rfl⟩
      · exact .inr (.inl ⟨h0, s, x, hs, hN⟩)
      · exact .inr (.inr ⟨hs, x, b, u, v, hN⟩)
    · rw [ne_b he, cond_true, (eadd_cases 0 q).resolve_left he] at hround
      rw [show (eadd 0 q == 0) = false from by rw [beq_eq_false_iff_ne]; exact he, cond_false] at hsum
      rw [ha] at hround ⊢
      exact .inr (.inr ⟨hsum, _, _, _, _, ends_ret (noTab_all _) hround⟩)
end MSum
theorem meets_msum : Meets Try.prog 36 ansmSum := by
  refine meets_fn (orc_ok (l := MSum.ans) ⟨meets_madd, trivial⟩) Try.f36 rfl (by kernel_rfl) (fun args r h => ?_)
  unfold ansmSum at h
  split at h
  · rename_i r
    simp only [Option.some.injEq, Prod.mk.injEq] at h
    obtain ⟨h1, rfl⟩ := h
    rw [Bool.and_eq_true, decide_eq_true_eq] at h1
    have hv := sumQv_eq (r.map rowM)
    have he := sumQe_eq (r.map rowM)
    have hl := lowS_eq (r.map rowM)
    rcases MSum.whole r h1.1 h1.2 with ⟨h0, hE⟩ | ⟨h0, s, x, hs, hE⟩ | ⟨hs, x, b, u, v, hE⟩
    · refine ⟨rfl, _, tabOf_all _, (MSum.rest_2 r).trans ((bT (cdec_true hE)).trans ?_)⟩
      rw [h0] at hv he hl ⊢
      have h2 : sumQv (([] : List (List AV)).map rowM) = 0 := hv
      have h3 : sumQe (([] : List (List AV)).map rowM) = 0 := he
      have h4 : lowS (([] : List (List AV)).map rowM) = 0 := hl
      rw [h2, h3, h4]
      rfl
    · refine ⟨rfl, _, tabOf_all _, (MSum.rest_1 r (sg s.num) (lb 10 s.num) (lb 10 s.den) x).trans ((bT (cdec_true hE)).trans ?_)⟩
      rw [hs] at hv he
      have h2 : sumQv (r.map rowM) = s := hv
      have h3 : sumQe (r.map rowM) = 0 := he
      have h5 : (r.map rowM).isEmpty = false := by cases r with | nil => exact absurd rfl h0 | cons _ _ => rfl
      rw [h2, h3, h5] at hl
      have h6 : lowE 0 s = s.den := by rw [lowE_eq]; rfl
      have h4 : lowS (r.map rowM) = s.den := hl.trans h6
      rw [h2, h3, h4]
    · refine ⟨rfl, _, tabOf_all _, (MSum.rest_0 r 11 x b u v).trans ((bT (cdec_true hE)).trans ?_)⟩
      rw [hs] at hv he
      have h2 : sumQv (r.map rowM) = 0 := hv
      have h3 : sumQe (r.map rowM) = 11 := he
      have h6 : lowE 11 0 = 0 := by rw [lowE_eq]; rfl
      rw [h2, h3] at hl
      have h4 : lowS (r.map rowM) = 0 := by rw [hl]; cases (r.map rowM).isEmpty with | true => rfl | false => exact h6
      rw [h2, h3, h4]
      rfl
  · cases h
namespace MParse
theorem loop (s : ByteArray) (hs : s.size ≤ 10000) : ∃ e S1, Ends T orc L0 D0 (st0 s 0) e S1 ∧ e = .exit 0 ∧ S1 = st0 s (ct s : Nat) := by
  refine loop_inv1 (fun (i : Nat) => st0 s i) (fun i => i ≤ ct s) (fun i => ct s - i) (fun e S1 => e = .exit 0 ∧ S1 = st0 s (ct s : Nat)) isL0 ?_ 0 (Nat.zero_le _)
  intro i hi
  refine ⟨noTab, noTab_all, lands_of (round0 ..) ?_⟩
  have hle := ct_le s
  by_cases hlt : i < s.size
  · have hb : inB (i : Int) s.size = true := by rw [inB_iff]; omega
    rw [hb, decide_eq_true (show (i : Int) < s.size by omega)]
    simp only [cond_true, wi_succ (show i < 4611686018427387904 by omega)]
    by_cases hc : bt s i = 47
    · rw [show (bt s i != 47) = false from by rw [hc]; rfl, cond_false]
      have h1 : i = ct s := Nat.le_antisymm hi (Nat.not_lt.1 (fun h => ct_before h hc))
      simp only [lands_some, Turns1]
      exact ⟨trivial, by rw [h1]⟩
    · rw [ne_b hc, cond_true]
      have hne : i ≠ ct s := fun h => hc (by rw [h]; exact ct_at (by omega))
      simp only [lands_some, Turns1]
      exact ⟨i + 1, rfl, by omega, by omega⟩
  · rw [decide_eq_false (by omega), cond_false]
    simp only [lands_some, Turns1]
    exact ⟨trivial, by rw [show i = ct s by omega]⟩
end MParse
theorem meets_mparse : Meets Try.prog 26 ansmParse := by
  refine meets_fn (orc_ok (l := MParse.ans) ⟨meets_rparse, meets_mone, meets_rcmp, meets_rgcd, trivial⟩) Try.f26 rfl (by kernel_rfl) (fun args r h => ?_)
  unfold ansmParse at h
  split at h
  · rename_i s
    simp only [Option.some.injEq, Prod.mk.injEq] at h
    obtain ⟨h1, rfl⟩ := h
    rw [decide_eq_true_eq] at h1
    obtain ⟨e1, S1, hE1, rfl, rfl⟩ := MParse.loop s h1
    refine ⟨rfl, _, tabOf_all _, (MParse.rest s (ct s : Nat)).trans ((bT (cdec_true hE1)).trans ?_)⟩
    have hle := ct_le s
    have x1 := extract_le s 0 (ct s)
    have x2 := extract_le s (ct s + 1) s.size
    rw [Int.toNat_natCast]
    refine (bT (by rw [decide_eq_true (show (0 : Int) ≤ (ct s : Int) by omega), decide_eq_true (show (ct s : Int) ≤ (s.size : Int) by omega)]; rfl)).trans ((bT (decide_eq_true (by omega))).trans ?_)
    by_cases hc : ct s < s.size
    · have g1 : (gz (rv (pa s)) (rv (pb s))).natAbs < Lim := small_of_fits (fits_gz (fits_rv _) (fits_rv _))
      refine (bF (by rw [beq_eq_false_iff_ne]; omega)).trans ?_
      rw [wi_succ (show ct s < 4611686018427387904 by omega), Int.toNat_natCast]
      refine (bT (by rw [decide_eq_true (show (0 : Int) ≤ ((ct s + 1 : Nat) : Int) by omega), decide_eq_true (show ((ct s + 1 : Nat) : Int) ≤ (s.size : Int) by omega)]; rfl)).trans ((bT (decide_eq_true (by omega))).trans ?_)
      simp only [N10_eq, cn10, cn10_gz, num10_gz, n110, decide_eq_true (small_rv _), decide_eq_true g1, Bool.and_self, cond_true, cmpZ_le0, cmpZ_ne0]
      show (bif re (pa s) == 10 then _ else bif re (pb s) == 10 then _ else bif IntKind.i64.wrap (re (pa s) + re (pb s)) != 0 then _ else bif decide (rv (pb s) ≤ 1) then _ else bif !(gz (rv (pa s)) (rv (pb s)) == 1) then _ else _) = _
      rcases qe_ways hc with ⟨a1, q⟩ | ⟨a1, a2, q⟩ | ⟨a1, a2, q⟩ | ⟨a1, a2, q⟩ | ⟨a1, a2, a3, q⟩ | ⟨a1, a2, a3, a4, q⟩ | ⟨a1, a2, a3, a4, q⟩
      · rw [qv_err hc (by rw [q]; decide), q, a1]; rfl
      · rw [qv_err hc (by rw [q]; decide), q, a2]; exact (bF (by rw [beq_eq_false_iff_ne]; exact a1)).trans rfl
      · rw [qv_err hc (by rw [q]; decide), q, a1]
        refine (bF rfl).trans ((bF (by rw [beq_eq_false_iff_ne]; exact a2)).trans ((bT ?_).trans rfl))
        rcases re_cases (pb s) with h | h | h
        · rw [h]; rfl
        · exact absurd h a2
        · rw [h]; rfl
      · rw [qv_err hc (by rw [q]; decide), q, a1, a2]; rfl
      · rw [qv_err hc (by rw [q]; decide), q, a1, a2, decide_eq_true a3]; rfl
      · rw [qv_err hc (by rw [q]; decide), q, a1, a2, decide_eq_false (show ¬ rv (pb s) ≤ 1 by omega), show (gz (rv (pa s)) (rv (pb s)) == 1) = false from by rw [beq_eq_false_iff_ne]; exact a4]; rfl
      · obtain ⟨w1, w2⟩ := ofQ_low a3 a4
        have hz : zd (rv (pb s)) = rv (pb s) := by unfold zd; rw [show (rv (pb s) == 1) = false from by rw [beq_eq_false_iff_ne]; omega, cond_false]
        rw [qv_ok hc q, q, a1, a2, w2, hz, Md_of w1, decide_eq_false (show ¬ rv (pb s) ≤ 1 by omega), a4, sg_nn (show 0 ≤ rv (pb s) by omega)]; rfl
    · have hk : ct s = s.size := by omega
      rw [hk, qe_none hc, qv_none hc, ByteArray.extract_zero_size]
      refine (bT (by rw [beq_iff_eq])).trans rfl
  · cases h
end Go.Abs
end
section
/- States and rounds of the statements of layer 2, as a program of this session printed them. -/
set_option maxRecDepth 10000
namespace Go.Abs
open Go.Proofs Go.Dig
noncomputable section
namespace KAwake
abbrev ans : Ans := [(47, ansFrom), (17, ansOf), (29, ansQAdd), (30, ansWhole), (27, ansQText), (32, ansFloor), (24, ansText)]
abbrev orc : Orc := orcOf ans
theorem rest : runT T orc (noTab) Try.f14 [] =
    (bif isQ (sg (ofQ (num (4294967296) false (lb (4294967296) (6))) (-4)).num) (lb (4294967296) (ofQ (num (4294967296) false (lb (4294967296) (6))) (-4)).num) false (lb (4294967296) (zd (↑(ofQ (num (4294967296) false (lb (4294967296) (6))) (-4)).den : Int))) && isQ false (lb (4294967296) (2)) false [] then (bif eadd (rq (sg (ofQ (num (4294967296) false (lb (4294967296) (6))) (-4)).num) (lb (4294967296) (ofQ (num (4294967296) false (lb (4294967296) (6))) (-4)).num) (lb (4294967296) (zd (↑(ofQ (num (4294967296) false (lb (4294967296) (6))) (-4)).den : Int)))) (rq false (lb (4294967296) (2)) []) == 0 then (bif isQ (sg (ofQ (num (4294967296) false (lb (4294967296) (6))) (-4)).num) (lb (4294967296) (ofQ (num (4294967296) false (lb (4294967296) (6))) (-4)).num) false (lb (4294967296) (zd (↑(ofQ (num (4294967296) false (lb (4294967296) (6))) (-4)).den : Int))) then (bif (qtxt (rq (sg (ofQ (N 4294967296 6) (N 4294967296 (-4))).num) (lb 4294967296 (ofQ (N 4294967296 6) (N 4294967296 (-4))).num) (lb 4294967296 (zd (↑(ofQ (N 4294967296 6) (N 4294967296 (-4))).den : Int))))).toList == [(45 : UInt8), (51 : UInt8), (47 : UInt8), (50 : UInt8)] then (bif isQ (sg (qadd (rq (sg (ofQ (num (4294967296) false (lb (4294967296) (6))) (-4)).num) (lb (4294967296) (ofQ (num (4294967296) false (lb (4294967296) (6))) (-4)).num) (lb (4294967296) (zd (↑(ofQ (num (4294967296) false (lb (4294967296) (6))) (-4)).den : Int)))) (rq false (lb (4294967296) (2)) [])).num) (lb (4294967296) (qadd (rq (sg (ofQ (num (4294967296) false (lb (4294967296) (6))) (-4)).num) (lb (4294967296) (ofQ (num (4294967296) false (lb (4294967296) (6))) (-4)).num) (lb (4294967296) (zd (↑(ofQ (num (4294967296) false (lb (4294967296) (6))) (-4)).den : Int)))) (rq false (lb (4294967296) (2)) [])).num) false (lb (4294967296) (zd (↑(qadd (rq (sg (ofQ (num (4294967296) false (lb (4294967296) (6))) (-4)).num) (lb (4294967296) (ofQ (num (4294967296) false (lb (4294967296) (6))) (-4)).num) (lb (4294967296) (zd (↑(ofQ (num (4294967296) false (lb (4294967296) (6))) (-4)).den : Int)))) (rq false (lb (4294967296) (2)) [])).den : Int))) then (bif (qtxt (rq (sg (qadd (rq (sg (ofQ (N 4294967296 6) (N 4294967296 (-4))).num) (lb 4294967296 (ofQ (N 4294967296 6) (N 4294967296 (-4))).num) (lb 4294967296 (zd (↑(ofQ (N 4294967296 6) (N 4294967296 (-4))).den : Int)))) (rq (sg 2) (lb 4294967296 2) [])).num) (lb 4294967296 (qadd (rq (sg (ofQ (N 4294967296 6) (N 4294967296 (-4))).num) (lb 4294967296 (ofQ (N 4294967296 6) (N 4294967296 (-4))).num) (lb 4294967296 (zd (↑(ofQ (N 4294967296 6) (N 4294967296 (-4))).den : Int)))) (rq (sg 2) (lb 4294967296 2) [])).num) (lb 4294967296 (zd (↑(qadd (rq (sg (ofQ (N 4294967296 6) (N 4294967296 (-4))).num) (lb 4294967296 (ofQ (N 4294967296 6) (N 4294967296 (-4))).num) (lb 4294967296 (zd (↑(ofQ (N 4294967296 6) (N 4294967296 (-4))).den : Int)))) (rq (sg 2) (lb 4294967296 2) [])).den : Int))))).toList == [(49 : UInt8), (47 : UInt8), (50 : UInt8)] then (bif isQ (sg (ofQ (num (4294967296) false (lb (4294967296) (6))) (-4)).num) (lb (4294967296) (ofQ (num (4294967296) false (lb (4294967296) (6))) (-4)).num) false (lb (4294967296) (zd (↑(ofQ (num (4294967296) false (lb (4294967296) (6))) (-4)).den : Int))) then (bif cn (4294967296) (sg (rq (sg (ofQ (num (4294967296) false (lb (4294967296) (6))) (-4)).num) (lb (4294967296) (ofQ (num (4294967296) false (lb (4294967296) (6))) (-4)).num) (lb (4294967296) (zd (↑(ofQ (num (4294967296) false (lb (4294967296) (6))) (-4)).den : Int)))).floor) (lb (4294967296) (rq (sg (ofQ (num (4294967296) false (lb (4294967296) (6))) (-4)).num) (lb (4294967296) (ofQ (num (4294967296) false (lb (4294967296) (6))) (-4)).num) (lb (4294967296) (zd (↑(ofQ (num (4294967296) false (lb (4294967296) (6))) (-4)).den : Int)))).floor) then some (.val (.bool ((txt (N 4294967296 (rq (sg (ofQ (N 4294967296 6) (N 4294967296 (-4))).num) (lb 4294967296 (ofQ (N 4294967296 6) (N 4294967296 (-4))).num) (lb 4294967296 (zd (↑(ofQ (N 4294967296 6) (N 4294967296 (-4))).den : Int)))).floor)).toList == [(45 : UInt8), (50 : UInt8)]))) else none) else none) else some (.val (.bool false))) else none) else some (.val (.bool false))) else none) else some (.val (.bool false))) else none) := by kernel_rfl
end KAwake
namespace KRat
abbrev ans : Ans := [(25, ansQParse), (26, ansmParse)]
abbrev orc : Orc := orcOf ans
theorem rest (s : ByteArray) : runT T orc (noTab) Try.f28 [.str s] =
    (bif decide ((↑s.size : Int) > 700) then (bif true && decide (700 ≤ (↑s.size : Int)) then (bif decide ((s.extract 0 700).size ≤ 10000) then (bif decide ((s.extract 0 700).size ≤ 10000) then some (.val (.tup [.agg [.bool (sg (qv (s.extract 0 700)).num), .ints .u32 (lb (4294967296) (qv (s.extract 0 700)).num), .bool false, .ints .u32 (lb (4294967296) (zd (↑(qv (s.extract 0 700)).den : Int)))], .agg [.bool (sg (qv (s.extract 0 700)).num), .ints .i64 (lb (10) (qv (s.extract 0 700)).num), .bool false, .ints .i64 (lb (10) (zd (↑(qv (s.extract 0 700)).den : Int)))]])) else none) else none) else none) else (bif decide (s.size ≤ 10000) then (bif decide (s.size ≤ 10000) then some (.val (.tup [.agg [.bool (sg (qv s).num), .ints .u32 (lb (4294967296) (qv s).num), .bool false, .ints .u32 (lb (4294967296) (zd (↑(qv s).den : Int)))], .agg [.bool (sg (qv s).num), .ints .i64 (lb (10) (qv s).num), .bool false, .ints .i64 (lb (10) (zd (↑(qv s).den : Int)))]])) else none) else none)) := by kernel_rfl
end KRat
namespace KSame
abbrev ans : Ans := [(27, ansQText), (43, ansmShow)]
abbrev orc : Orc := orcOf ans
theorem rest (s : Bool) (l : List Int) (t : Bool) (m : List Int) (e : Int) (sy : Bool) (ly : List Int) (ty : Bool) (my : List Int) (c : Int) : runT T orc (noTab) Try.f19 [.agg [.bool s, .ints .u32 l, .bool t, .ints .u32 m], .int .i64 e, .agg [.bool sy, .ints .i64 ly, .bool ty, .ints .i64 my], .int .i64 c] =
    (bif e == c then (bif isQ s l t m then (bif isM sy ly ty my then some (.val (.bool ((qtxt (rq s l m)).toList == (qtxt (rm sy ly my)).toList))) else none) else none) else some (.val (.bool false))) := by kernel_rfl
end KSame
namespace KReads
abbrev ans : Ans := [(14, anlAwake), (25, ansQParse), (26, ansmParse), (19, anqSame), (27, ansQText)]
abbrev orc : Orc := orcOf ans
theorem rest (s : ByteArray) : runT T orc (noTab) Try.f4 [.str s] =
    (bif decide ((↑s.size : Int) > 5000) then some (.val (.bool true)) else (bif decide (s.size ≤ 10000) then (bif decide (s.size ≤ 10000) then (bif isQ (sg (qv s).num) (lb (4294967296) (qv s).num) false (lb (4294967296) (zd (↑(qv s).den : Int))) && isM (sg (qv s).num) (lb (10) (qv s).num) false (lb (10) (zd (↑(qv s).den : Int))) then (bif decide (qe s = qe s) && decide (rq (sg (qv s).num) (lb (4294967296) (qv s).num) (lb (4294967296) (zd (↑(qv s).den : Int))) = rm (sg (qv s).num) (lb (10) (qv s).num) (lb (10) (zd (↑(qv s).den : Int)))) then (bif qe s != 0 then some (.val (.bool true)) else (bif isQ (sg (qv s).num) (lb (4294967296) (qv s).num) false (lb (4294967296) (zd (↑(qv s).den : Int))) then some (.val (.bool ((qtxt (rq (sg (qv s).num) (lb (4294967296) (qv s).num) (lb (4294967296) (zd (↑(qv s).den : Int))))).toList == s.toList))) else none)) else some (.val (.bool false))) else none) else none) else none)) := by kernel_rfl
end KReads
end
end Go.Abs
end
section
/- The helpers of layer 2's statements. -/
namespace Go.Abs
open Go.Proofs Go.Dig
theorem fitsQ_cast {z : Int} (h : fits z = true) : fitsQ ((z : Int) : Rat) = true := fitsQ_iff.2 ⟨h, by show fits 1 = true; kernel_rfl⟩
theorem fitsQ_qv (s : ByteArray) : fitsQ (qv s) = true := by
  by_cases hc : ct s < s.size
  · by_cases he : qe s = 0
    · rw [qv_ok hc he]; exact ofQ_fits (fits_rv _) (fits_rv _)
    · rw [qv_err hc he]; exact fitsQ_0
  · rw [qv_none hc]; exact fitsQ_cast (fits_rv s)
theorem zd_or (q : Rat) : lb 10 (zd q.den) = lb 10 q.den ∨ (q.den = 1 ∧ lb 10 (zd q.den) = []) := by
  have hp := den_pos' q
  by_cases h : q.den = 1
  · right; rw [h]; exact ⟨rfl, rfl⟩
  · left
    unfold zd
    rw [show ((q.den : Int) == 1) = false from by rw [beq_eq_false_iff_ne]; omega, cond_false]
theorem isM_zd {q : Rat} (h : fitsQ q = true) : isM (sg q.num) (lb 10 q.num) false (lb 10 (zd q.den)) = true := (isM_of h (zd_or q)).1
theorem rm_zd {q : Rat} (h : fitsQ q = true) : rm (sg q.num) (lb 10 q.num) (lb 10 (zd q.den)) = q := (isM_of h (zd_or q)).2
theorem isM_den {q : Rat} (h : fitsQ q = true) : isM (sg q.num) (lb 10 q.num) false (lb 10 q.den) = true := (isM_of h (.inl rfl)).1
theorem rm_den {q : Rat} (h : fitsQ q = true) : rm (sg q.num) (lb 10 q.num) (lb 10 q.den) = q := (isM_of h (.inl rfl)).2
theorem cut_700 (s : ByteArray) : cut 700 s = if s.size > 700 then s.extract 0 700 else s := by
  unfold cut
  by_cases h : s.size > 700
  · rw [if_pos h, decide_eq_true h]; rfl
  · rw [if_neg h, decide_eq_false h]; rfl
theorem meets_qrat : Meets Try.prog 28 anqRat := by
  refine meets_fn (orc_ok (l := KRat.ans) ⟨meets_qparse, meets_mparse, trivial⟩) Try.f28 rfl (by kernel_rfl) (fun args r h => ?_)
  unfold anqRat at h
  split at h
  · rename_i s
    simp only [Option.some.injEq, Prod.mk.injEq] at h
    obtain ⟨_, rfl⟩ := h
    refine ⟨rfl, _, noTab_all, (KRat.rest s).trans ?_⟩
    rw [cut_700]
    by_cases h : s.size > 700
    · rw [if_pos h]
      have h2 : (s.extract 0 700).size ≤ 10000 := by rw [ByteArray.size_extract]; omega
      exact (bT (decide_eq_true (by omega))).trans ((bT (by rw [decide_eq_true (show (700 : Int) ≤ (s.size : Int) by omega)]; rfl)).trans ((bT (decide_eq_true h2)).trans (bT (decide_eq_true h2))))
    · rw [if_neg h]
      exact (bF (decide_eq_false (by omega))).trans ((bT (decide_eq_true (show s.size ≤ 10000 by omega))).trans (bT (decide_eq_true (show s.size ≤ 10000 by omega))))
  · cases h
end Go.Abs
end
section
/- The statements of layer 2: texts. -/
namespace Go.Abs
open Go.Proofs Go.Dig
theorem txtL_47 (z : Int) : ∀ c ∈ txtL z, c ≠ 47 := by
  intro c hc
  unfold txtL at hc
  by_cases h : z = 0
  · rw [if_pos h] at hc
    have := List.mem_singleton.1 hc
    omega
  · rw [if_neg h] at hc
    rcases List.mem_append.1 hc with hc | hc
    · split at hc
      · have := List.mem_singleton.1 hc; omega
      · cases hc
    · unfold dig at hc
      obtain ⟨d, hd, rfl⟩ := List.mem_map.1 hc
      have := okB_iff.1 (limbs_ok T_pos (z.natAbs : Int)) d (List.mem_reverse.1 hd)
      omega
theorem bytesOf_append (a b : ByteArray) : bytesOf (a ++ b) = bytesOf a ++ bytesOf b := by
  unfold bytesOf
  rw [ByteArray.toList_data_append, List.map_append]
theorem bytesOf_qtxt (q : Rat) : bytesOf (qtxt q) = if q.den = 1 then txtL q.num else txtL q.num ++ 47 :: txtL q.den := by
  rw [qtxt_eq]
  by_cases h : q.den = 1
  · rw [if_pos h, decide_eq_true h, cond_true, bytesOf_txt]
  · rw [if_neg h, decide_eq_false h, cond_false, bytesOf_append, bytesOf_append, bytesOf_txt, bytesOf_txt]; rfl
theorem split47 : ∀ {a b c d : List Int}, (∀ x ∈ a, x ≠ 47) → (∀ x ∈ c, x ≠ 47) → a ++ 47 :: b = c ++ 47 :: d → a = c ∧ b = d
  | [], b, [], d, _, _, h => by simp at h; exact ⟨rfl, h⟩
  | [], b, y :: c, d, _, hc, h => by simp at h; exact absurd h.1.symm (hc y (by simp))
  | x :: a, b, [], d, ha, _, h => by simp at h; exact absurd h.1 (ha x (by simp))
  | x :: a, b, y :: c, d, ha, hc, h => by
    simp only [List.cons_append, List.cons.injEq] at h
    obtain ⟨h1, h2⟩ := split47 (fun z hz => ha z (List.mem_cons_of_mem _ hz)) (fun z hz => hc z (List.mem_cons_of_mem _ hz)) h.2
    exact ⟨by rw [h.1, h1], h2⟩
theorem qtxt_inj {q p : Rat} (h : qtxt q = qtxt p) : q = p := by
  have hb : bytesOf (qtxt q) = bytesOf (qtxt p) := by rw [h]
  rw [bytesOf_qtxt, bytesOf_qtxt] at hb
  have no : ∀ (a : Int) (l : List Int) (b : Int), txtL a ≠ l ++ 47 :: txtL b := fun a l b he => txtL_47 a 47 (by rw [he]; simp) rfl
  by_cases hq : q.den = 1 <;> by_cases hp : p.den = 1
  · rw [if_pos hq, if_pos hp] at hb
    exact Rat.ext (txtL_inj hb) (by rw [hq, hp])
  · rw [if_pos hq, if_neg hp] at hb
    exact absurd hb (no _ _ _)
  · rw [if_neg hq, if_pos hp] at hb
    exact absurd hb.symm (no _ _ _)
  · rw [if_neg hq, if_neg hp] at hb
    obtain ⟨h1, h2⟩ := split47 (txtL_47 _) (txtL_47 _) hb
    have h3 := txtL_inj h2
    exact Rat.ext (txtL_inj h1) (by omega)
theorem qtxt_beq (q p : Rat) : ((qtxt q).toList == (qtxt p).toList) = decide (q = p) := by
  by_cases h : q = p
  · rw [h, decide_eq_true rfl]; exact beq_self_eq_true _
  · rw [decide_eq_false h, beq_eq_false_iff_ne]
    exact fun hh => h (qtxt_inj (toList_inj hh))
theorem meets_qsame : Meets Try.prog 19 anqSame := by
  refine meets_fn (orc_ok (l := KSame.ans) ⟨meets_qtext, meets_mshow, trivial⟩) Try.f19 rfl (by kernel_rfl) (fun args r h => ?_)
  unfold anqSame at h
  split at h
  · rename_i s l t m e s' l' t' m' c
    simp only [Option.some.injEq, Prod.mk.injEq, Bool.and_eq_true] at h
    obtain ⟨⟨h1, h2⟩, rfl⟩ := h
    refine ⟨rfl, _, noTab_all, (KSame.rest s l t m e s' l' t' m' c).trans ?_⟩
    rw [h1, h2, qtxt_beq]
    by_cases hec : e = c
    · rw [decide_eq_true hec]; exact bT (by rw [beq_iff_eq]; exact hec)
    · rw [decide_eq_false hec]; exact bF (by rw [beq_eq_false_iff_ne]; exact hec)
  · cases h
theorem re_txt {s : ByteArray} (he0 : re s = 0) : txtL (rv s) = bytesOf s := by
  have hform : form (bytesOf s) = true := by
    cases hf : form (bytesOf s) with
    | true => rfl
    | false => unfold re at he0; rw [hf] at he0; cases he0
  have hrv : rv s = tval (bytesOf s) := by
    have h1 : re s = he (tval (bytesOf s)) := by unfold re; rw [hform, cond_true]
    have h2 : rv s = hz (tval (bytesOf s)) := by unfold rv; rw [hform, cond_true]
    rw [h2]
    exact hz_of (he_zero.1 (by rw [← h1]; exact he0))
  rw [hrv, txtL_tval hform]
theorem qtxt_qv {s : ByteArray} (h : qe s = 0) : qtxt (qv s) = s := by
  refine bytesOf_inj ?_
  rw [bytesOf_qtxt]
  by_cases hc : ct s < s.size
  · have hw : re (pa s) = 0 ∧ re (pb s) = 0 ∧ 1 < rv (pb s) ∧ gz (rv (pa s)) (rv (pb s)) = 1 := by
      rcases qe_ways hc with ⟨a1, q⟩ | ⟨a1, a2, q⟩ | ⟨a1, a2, q⟩ | ⟨a1, a2, q⟩ | ⟨a1, a2, a3, q⟩ | ⟨a1, a2, a3, a4, q⟩ | ⟨a1, a2, a3, a4, q⟩
      all_goals first | exact ⟨a1, a2, a3, a4⟩ | (rw [h] at q; cases q)
    obtain ⟨a1, a2, a3, a4⟩ := hw
    obtain ⟨w1, w2⟩ := ofQ_low a3 a4
    rw [qv_ok hc h, w1, w2, if_neg (by omega), re_txt a1, re_txt a2, bytes_extract, bytes_extract]
    have hl : (bytesOf s).length = s.size := bytesOf_size s
    have h47 := ct_at hc
    rw [bt_nat, List.getD_eq_getElem?_getD, List.getElem?_eq_getElem (by omega)] at h47
    have h47 : (bytesOf s)[ct s] = 47 := h47
    rw [List.drop_zero, List.take_of_length_le (show (bytesOf s).length ≤ s.size by omega), ← h47, ← List.drop_eq_getElem_cons (by omega), List.take_append_drop]
  · rw [qe_none hc] at h
    rw [qv_none hc, if_pos (by rfl)]
    exact re_txt h
end Go.Abs
end
section
/- The page's example of layer 2, and the reading of texts. -/
namespace Go.Abs
open Go.Proofs Go.Dig
abbrev e1v : Rat := mkRat (-3) 2
theorem e1_eq : ofQ 6 (-4) = e1v := by rw [ofQ_eq]; kernel_rfl
theorem e1_fits : fitsQ e1v = true := by rw [fitsQ_eq]; kernel_rfl
theorem two_fits : fitsQ (2 : Rat) = true := by rw [fitsQ_eq]; kernel_rfl
theorem e1_add : eadd e1v 2 = 0 := by rw [eadd_eq]; kernel_rfl
theorem e1_sum : qadd e1v 2 = mkRat 1 2 := by rw [qadd_eq, e1_add]; kernel_rfl
theorem e2_fits : fitsQ (mkRat 1 2) = true := by rw [fitsQ_eq]; kernel_rfl
theorem e1_txt : ((qtxt e1v).toList == [(45 : UInt8), (51 : UInt8), (47 : UInt8), (50 : UInt8)]) = true := by rw [qtxt_eq]; kernel_rfl
theorem e2_txt : ((qtxt (mkRat 1 2)).toList == [(49 : UInt8), (47 : UInt8), (50 : UInt8)]) = true := by rw [qtxt_eq]; kernel_rfl
theorem e1_floor : e1v.floor = -2 := by kernel_rfl
theorem rq_whole (z : Int) : rq (sg z) (lb 4294967296 z) [] = (z : Rat) := rq_Q (z : Rat)
theorem isQ_whole (z : Int) : isQ (sg z) (lb 4294967296 z) false [] = fitsQ (z : Rat) := isQ_Q (z : Rat)
theorem fits_1 : fits 1 = true := by kernel_rfl
theorem rq_two : rq false (lb 4294967296 2) [] = 2 := rq_Q (2 : Rat)
theorem isQ_two : isQ false (lb 4294967296 2) false [] = true := (isQ_Q (2 : Rat)).trans two_fits
theorem meets_kawake : Meets Try.prog 14 anlAwake := by
  refine meets_fn (orc_ok (l := KAwake.ans) ⟨meets_from, meets_of, meets_qadd, meets_whole, meets_qtext, meets_floor, meets_text, trivial⟩) Try.f14 rfl (by kernel_rfl) (fun args r h => ?_)
  unfold anlAwake at h
  split at h
  · simp only [Option.some.injEq, Prod.mk.injEq] at h
    obtain ⟨_, rfl⟩ := h
    refine ⟨rfl, _, noTab_all, KAwake.rest.trans ?_⟩
    have n6 : num 4294967296 false (lb 4294967296 6) = 6 := num_nnW (by decide)
    have r2 : rq (sg 2) (lb 4294967296 2) [] = 2 := rq_two
    have t2 : ((txt (-2)).toList == [(45 : UInt8), (50 : UInt8)]) = true := by kernel_rfl
    simp only [n6, N_eq, e1_eq, isQ_Q, rq_Q, rq_two, r2, isQ_two, e1_fits, e1_add, e1_sum, e2_fits, e1_txt, e2_txt, e1_floor, t2, Bool.and_self, cond_true]
    rw [cnW, fit_lim (show fits (-2) = true by kernel_rfl)]
    rfl
  · cases h
theorem law_qreads : Meets Try.prog 4 (fun a => match a with | [.str _] => some (true, .val (.bool true)) | _ => none) := by
  refine meets_fn (orc_ok (l := KReads.ans) ⟨meets_kawake, meets_qparse, meets_mparse, meets_qsame, meets_qtext, trivial⟩) Try.f4 rfl (by kernel_rfl) (fun args r h => ?_)
  split at h
  · rename_i s
    simp only [Option.some.injEq, Prod.mk.injEq] at h
    obtain ⟨_, rfl⟩ := h
    refine ⟨rfl, _, noTab_all, (KReads.rest s).trans ?_⟩
    by_cases h5 : s.size > 5000
    · exact bT (decide_eq_true (by omega))
    · refine (bF (decide_eq_false (by omega))).trans ?_
      have hf := fitsQ_qv s
      simp only [isQ_Q, isM_zd hf, hf, rq_Q, rm_zd hf, decide_eq_true (show s.size ≤ 10000 by omega), decide_true, Bool.and_self, cond_true]
      by_cases h0 : qe s = 0
      · refine (bF (eq_b h0)).trans ?_
        rw [qtxt_qv h0, beq_self_eq_true]
      · exact bT (ne_b h0)
  · cases h
end Go.Abs
end
section
/- States and rounds of the statements of layer 2, as a program of this session printed them. -/
set_option maxRecDepth 10000
namespace Go.Abs
open Go.Proofs Go.Dig
noncomputable section
namespace KLowest
abbrev ans : Ans := [(14, anlAwake), (15, ansParse), (16, anrParse), (17, ansOf), (18, ansmOf), (19, anqSame), (20, ansDen), (21, ansSign), (22, ansGcd), (23, ansNum), (24, ansText)]
abbrev orc : Orc := orcOf ans
theorem rest (s : ByteArray) (t : ByteArray) : runT T orc (noTab) Try.f3 [.str s, .str t] =
    (bif decide (0 ≤ bif false then if 400 > (↑s.size : Int) then 400 else (↑s.size : Int) else if 400 < (↑s.size : Int) then 400 else (↑s.size : Int)) && decide ((bif false then if 400 > (↑s.size : Int) then 400 else (↑s.size : Int) else if 400 < (↑s.size : Int) then 400 else (↑s.size : Int)) ≤ (↑s.size : Int)) then (bif decide (0 ≤ bif false then if 400 > (↑t.size : Int) then 400 else (↑t.size : Int) else if 400 < (↑t.size : Int) then 400 else (↑t.size : Int)) && decide ((bif false then if 400 > (↑t.size : Int) then 400 else (↑t.size : Int) else if 400 < (↑t.size : Int) then 400 else (↑t.size : Int)) ≤ (↑t.size : Int)) then (bif decide ((s.extract 0 (bif false then if 400 > (↑s.size : Int) then 400 else (↑s.size : Int) else if 400 < (↑s.size : Int) then 400 else (↑s.size : Int)).toNat).size ≤ 10000) then (bif decide ((t.extract 0 (bif false then if 400 > (↑t.size : Int) then 400 else (↑t.size : Int) else if 400 < (↑t.size : Int) then 400 else (↑t.size : Int)).toNat).size ≤ 10000) then (bif decide ((s.extract 0 (bif false then if 400 > (↑s.size : Int) then 400 else (↑s.size : Int) else if 400 < (↑s.size : Int) then 400 else (↑s.size : Int)).toNat).size ≤ 10000) then (bif decide ((t.extract 0 (bif false then if 400 > (↑t.size : Int) then 400 else (↑t.size : Int) else if 400 < (↑t.size : Int) then 400 else (↑t.size : Int)).toNat).size ≤ 10000) then (bif cn (4294967296) (sg (rv (s.extract 0 (bif false then if 400 > (↑s.size : Int) then 400 else (↑s.size : Int) else if 400 < (↑s.size : Int) then 400 else (↑s.size : Int)).toNat))) (lb (4294967296) (rv (s.extract 0 (bif false then if 400 > (↑s.size : Int) then 400 else (↑s.size : Int) else if 400 < (↑s.size : Int) then 400 else (↑s.size : Int)).toNat))) && cn (4294967296) (sg (rv (t.extract 0 (bif false then if 400 > (↑t.size : Int) then 400 else (↑t.size : Int) else if 400 < (↑t.size : Int) then 400 else (↑t.size : Int)).toNat))) (lb (4294967296) (rv (t.extract 0 (bif false then if 400 > (↑t.size : Int) then 400 else (↑t.size : Int) else if 400 < (↑t.size : Int) then 400 else (↑t.size : Int)).toNat))) then (bif cn (10) (sg (rv (s.extract 0 (bif false then if 400 > (↑s.size : Int) then 400 else (↑s.size : Int) else if 400 < (↑s.size : Int) then 400 else (↑s.size : Int)).toNat))) (lb (10) (rv (s.extract 0 (bif false then if 400 > (↑s.size : Int) then 400 else (↑s.size : Int) else if 400 < (↑s.size : Int) then 400 else (↑s.size : Int)).toNat))) && cn (10) (sg (rv (t.extract 0 (bif false then if 400 > (↑t.size : Int) then 400 else (↑t.size : Int) else if 400 < (↑t.size : Int) then 400 else (↑t.size : Int)).toNat))) (lb (10) (rv (t.extract 0 (bif false then if 400 > (↑t.size : Int) then 400 else (↑t.size : Int) else if 400 < (↑t.size : Int) then 400 else (↑t.size : Int)).toNat))) then (bif isQ (sg (ofQ (N (4294967296) (rv (s.extract 0 (bif false then if 400 > (↑s.size : Int) then 400 else (↑s.size : Int) else if 400 < (↑s.size : Int) then 400 else (↑s.size : Int)).toNat))) (N (4294967296) (rv (t.extract 0 (bif false then if 400 > (↑t.size : Int) then 400 else (↑t.size : Int) else if 400 < (↑t.size : Int) then 400 else (↑t.size : Int)).toNat)))).num) (lb (4294967296) (ofQ (N (4294967296) (rv (s.extract 0 (bif false then if 400 > (↑s.size : Int) then 400 else (↑s.size : Int) else if 400 < (↑s.size : Int) then 400 else (↑s.size : Int)).toNat))) (N (4294967296) (rv (t.extract 0 (bif false then if 400 > (↑t.size : Int) then 400 else (↑t.size : Int) else if 400 < (↑t.size : Int) then 400 else (↑t.size : Int)).toNat)))).num) false (lb (4294967296) (zd (↑(ofQ (N (4294967296) (rv (s.extract 0 (bif false then if 400 > (↑s.size : Int) then 400 else (↑s.size : Int) else if 400 < (↑s.size : Int) then 400 else (↑s.size : Int)).toNat))) (N (4294967296) (rv (t.extract 0 (bif false then if 400 > (↑t.size : Int) then 400 else (↑t.size : Int) else if 400 < (↑t.size : Int) then 400 else (↑t.size : Int)).toNat)))).den : Int))) && isM (sg (ofQ (N (10) (rv (s.extract 0 (bif false then if 400 > (↑s.size : Int) then 400 else (↑s.size : Int) else if 400 < (↑s.size : Int) then 400 else (↑s.size : Int)).toNat))) (N (10) (rv (t.extract 0 (bif false then if 400 > (↑t.size : Int) then 400 else (↑t.size : Int) else if 400 < (↑t.size : Int) then 400 else (↑t.size : Int)).toNat)))).num) (lb (10) (ofQ (N (10) (rv (s.extract 0 (bif false then if 400 > (↑s.size : Int) then 400 else (↑s.size : Int) else if 400 < (↑s.size : Int) then 400 else (↑s.size : Int)).toNat))) (N (10) (rv (t.extract 0 (bif false then if 400 > (↑t.size : Int) then 400 else (↑t.size : Int) else if 400 < (↑t.size : Int) then 400 else (↑t.size : Int)).toNat)))).num) false (lb (10) (bif N (10) (rv (t.extract 0 (bif false then if 400 > (↑t.size : Int) then 400 else (↑t.size : Int) else if 400 < (↑t.size : Int) then 400 else (↑t.size : Int)).toNat)) == 0 then 0 else (↑(ofQ (N (10) (rv (s.extract 0 (bif false then if 400 > (↑s.size : Int) then 400 else (↑s.size : Int) else if 400 < (↑s.size : Int) then 400 else (↑s.size : Int)).toNat))) (N (10) (rv (t.extract 0 (bif false then if 400 > (↑t.size : Int) then 400 else (↑t.size : Int) else if 400 < (↑t.size : Int) then 400 else (↑t.size : Int)).toNat)))).den : Int))) then (bif !(decide (dc (N (4294967296) (rv (t.extract 0 (bif false then if 400 > (↑t.size : Int) then 400 else (↑t.size : Int) else if 400 < (↑t.size : Int) then 400 else (↑t.size : Int)).toNat))) = dc (N (10) (rv (t.extract 0 (bif false then if 400 > (↑t.size : Int) then 400 else (↑t.size : Int) else if 400 < (↑t.size : Int) then 400 else (↑t.size : Int)).toNat)))) && decide (rq (sg (ofQ (N (4294967296) (rv (s.extract 0 (bif false then if 400 > (↑s.size : Int) then 400 else (↑s.size : Int) else if 400 < (↑s.size : Int) then 400 else (↑s.size : Int)).toNat))) (N (4294967296) (rv (t.extract 0 (bif false then if 400 > (↑t.size : Int) then 400 else (↑t.size : Int) else if 400 < (↑t.size : Int) then 400 else (↑t.size : Int)).toNat)))).num) (lb (4294967296) (ofQ (N (4294967296) (rv (s.extract 0 (bif false then if 400 > (↑s.size : Int) then 400 else (↑s.size : Int) else if 400 < (↑s.size : Int) then 400 else (↑s.size : Int)).toNat))) (N (4294967296) (rv (t.extract 0 (bif false then if 400 > (↑t.size : Int) then 400 else (↑t.size : Int) else if 400 < (↑t.size : Int) then 400 else (↑t.size : Int)).toNat)))).num) (lb (4294967296) (zd (↑(ofQ (N (4294967296) (rv (s.extract 0 (bif false then if 400 > (↑s.size : Int) then 400 else (↑s.size : Int) else if 400 < (↑s.size : Int) then 400 else (↑s.size : Int)).toNat))) (N (4294967296) (rv (t.extract 0 (bif false then if 400 > (↑t.size : Int) then 400 else (↑t.size : Int) else if 400 < (↑t.size : Int) then 400 else (↑t.size : Int)).toNat)))).den : Int))) = rm (sg (ofQ (N (10) (rv (s.extract 0 (bif false then if 400 > (↑s.size : Int) then 400 else (↑s.size : Int) else if 400 < (↑s.size : Int) then 400 else (↑s.size : Int)).toNat))) (N (10) (rv (t.extract 0 (bif false then if 400 > (↑t.size : Int) then 400 else (↑t.size : Int) else if 400 < (↑t.size : Int) then 400 else (↑t.size : Int)).toNat)))).num) (lb (10) (ofQ (N (10) (rv (s.extract 0 (bif false then if 400 > (↑s.size : Int) then 400 else (↑s.size : Int) else if 400 < (↑s.size : Int) then 400 else (↑s.size : Int)).toNat))) (N (10) (rv (t.extract 0 (bif false then if 400 > (↑t.size : Int) then 400 else (↑t.size : Int) else if 400 < (↑t.size : Int) then 400 else (↑t.size : Int)).toNat)))).num) (lb (10) (bif N (10) (rv (t.extract 0 (bif false then if 400 > (↑t.size : Int) then 400 else (↑t.size : Int) else if 400 < (↑t.size : Int) then 400 else (↑t.size : Int)).toNat)) == 0 then 0 else (↑(ofQ (N (10) (rv (s.extract 0 (bif false then if 400 > (↑s.size : Int) then 400 else (↑s.size : Int) else if 400 < (↑s.size : Int) then 400 else (↑s.size : Int)).toNat))) (N (10) (rv (t.extract 0 (bif false then if 400 > (↑t.size : Int) then 400 else (↑t.size : Int) else if 400 < (↑t.size : Int) then 400 else (↑t.size : Int)).toNat)))).den : Int))))) then some (.val (.bool false)) else (bif cn (4294967296) false (lb (4294967296) (zd (↑(ofQ (N (4294967296) (rv (s.extract 0 (bif false then if 400 > (↑s.size : Int) then 400 else (↑s.size : Int) else if 400 < (↑s.size : Int) then 400 else (↑s.size : Int)).toNat))) (N (4294967296) (rv (t.extract 0 (bif false then if 400 > (↑t.size : Int) then 400 else (↑t.size : Int) else if 400 < (↑t.size : Int) then 400 else (↑t.size : Int)).toNat)))).den : Int))) then (bif cn (4294967296) (sg (dn (num (4294967296) false (lb (4294967296) (zd (↑(ofQ (N (4294967296) (rv (s.extract 0 (bif false then if 400 > (↑s.size : Int) then 400 else (↑s.size : Int) else if 400 < (↑s.size : Int) then 400 else (↑s.size : Int)).toNat))) (N (4294967296) (rv (t.extract 0 (bif false then if 400 > (↑t.size : Int) then 400 else (↑t.size : Int) else if 400 < (↑t.size : Int) then 400 else (↑t.size : Int)).toNat)))).den : Int)))))) (lb (4294967296) (dn (num (4294967296) false (lb (4294967296) (zd (↑(ofQ (N (4294967296) (rv (s.extract 0 (bif false then if 400 > (↑s.size : Int) then 400 else (↑s.size : Int) else if 400 < (↑s.size : Int) then 400 else (↑s.size : Int)).toNat))) (N (4294967296) (rv (t.extract 0 (bif false then if 400 > (↑t.size : Int) then 400 else (↑t.size : Int) else if 400 < (↑t.size : Int) then 400 else (↑t.size : Int)).toNat)))).den : Int)))))) then (bif cmpZ (N (4294967296) (dn (num (4294967296) false (lb (4294967296) (zd (↑(ofQ (N (4294967296) (rv (s.extract 0 (bif false then if 400 > (↑s.size : Int) then 400 else (↑s.size : Int) else if 400 < (↑s.size : Int) then 400 else (↑s.size : Int)).toNat))) (N (4294967296) (rv (t.extract 0 (bif false then if 400 > (↑t.size : Int) then 400 else (↑t.size : Int) else if 400 < (↑t.size : Int) then 400 else (↑t.size : Int)).toNat)))).den : Int)))))) (0) == 1 then (bif cn (4294967296) false (lb (4294967296) (zd (↑(ofQ (N (4294967296) (rv (s.extract 0 (bif false then if 400 > (↑s.size : Int) then 400 else (↑s.size : Int) else if 400 < (↑s.size : Int) then 400 else (↑s.size : Int)).toNat))) (N (4294967296) (rv (t.extract 0 (bif false then if 400 > (↑t.size : Int) then 400 else (↑t.size : Int) else if 400 < (↑t.size : Int) then 400 else (↑t.size : Int)).toNat)))).den : Int))) then (bif cn (4294967296) (sg (ofQ (N (4294967296) (rv (s.extract 0 (bif false then if 400 > (↑s.size : Int) then 400 else (↑s.size : Int) else if 400 < (↑s.size : Int) then 400 else (↑s.size : Int)).toNat))) (N (4294967296) (rv (t.extract 0 (bif false then if 400 > (↑t.size : Int) then 400 else (↑t.size : Int) else if 400 < (↑t.size : Int) then 400 else (↑t.size : Int)).toNat)))).num) (lb (4294967296) (ofQ (N (4294967296) (rv (s.extract 0 (bif false then if 400 > (↑s.size : Int) then 400 else (↑s.size : Int) else if 400 < (↑s.size : Int) then 400 else (↑s.size : Int)).toNat))) (N (4294967296) (rv (t.extract 0 (bif false then if 400 > (↑t.size : Int) then 400 else (↑t.size : Int) else if 400 < (↑t.size : Int) then 400 else (↑t.size : Int)).toNat)))).num) && cn (4294967296) (sg (dn (num (4294967296) false (lb (4294967296) (zd (↑(ofQ (N (4294967296) (rv (s.extract 0 (bif false then if 400 > (↑s.size : Int) then 400 else (↑s.size : Int) else if 400 < (↑s.size : Int) then 400 else (↑s.size : Int)).toNat))) (N (4294967296) (rv (t.extract 0 (bif false then if 400 > (↑t.size : Int) then 400 else (↑t.size : Int) else if 400 < (↑t.size : Int) then 400 else (↑t.size : Int)).toNat)))).den : Int)))))) (lb (4294967296) (dn (num (4294967296) false (lb (4294967296) (zd (↑(ofQ (N (4294967296) (rv (s.extract 0 (bif false then if 400 > (↑s.size : Int) then 400 else (↑s.size : Int) else if 400 < (↑s.size : Int) then 400 else (↑s.size : Int)).toNat))) (N (4294967296) (rv (t.extract 0 (bif false then if 400 > (↑t.size : Int) then 400 else (↑t.size : Int) else if 400 < (↑t.size : Int) then 400 else (↑t.size : Int)).toNat)))).den : Int)))))) then (bif cn (4294967296) false (lb (4294967296) (gz (N (4294967296) (ofQ (N (4294967296) (rv (s.extract 0 (bif false then if 400 > (↑s.size : Int) then 400 else (↑s.size : Int) else if 400 < (↑s.size : Int) then 400 else (↑s.size : Int)).toNat))) (N (4294967296) (rv (t.extract 0 (bif false then if 400 > (↑t.size : Int) then 400 else (↑t.size : Int) else if 400 < (↑t.size : Int) then 400 else (↑t.size : Int)).toNat)))).num) (N (4294967296) (dn (num (4294967296) false (lb (4294967296) (zd (↑(ofQ (N (4294967296) (rv (s.extract 0 (bif false then if 400 > (↑s.size : Int) then 400 else (↑s.size : Int) else if 400 < (↑s.size : Int) then 400 else (↑s.size : Int)).toNat))) (N (4294967296) (rv (t.extract 0 (bif false then if 400 > (↑t.size : Int) then 400 else (↑t.size : Int) else if 400 < (↑t.size : Int) then 400 else (↑t.size : Int)).toNat)))).den : Int)))))))) then (bif (txt (num (4294967296) false (lb (4294967296) (gz (N (4294967296) (ofQ (N (4294967296) (rv (s.extract 0 (bif false then if 400 > (↑s.size : Int) then 400 else (↑s.size : Int) else if 400 < (↑s.size : Int) then 400 else (↑s.size : Int)).toNat))) (N (4294967296) (rv (t.extract 0 (bif false then if 400 > (↑t.size : Int) then 400 else (↑t.size : Int) else if 400 < (↑t.size : Int) then 400 else (↑t.size : Int)).toNat)))).num) (N (4294967296) (dn (num (4294967296) false (lb (4294967296) (zd (↑(ofQ (N (4294967296) (rv (s.extract 0 (bif false then if 400 > (↑s.size : Int) then 400 else (↑s.size : Int) else if 400 < (↑s.size : Int) then 400 else (↑s.size : Int)).toNat))) (N (4294967296) (rv (t.extract 0 (bif false then if 400 > (↑t.size : Int) then 400 else (↑t.size : Int) else if 400 < (↑t.size : Int) then 400 else (↑t.size : Int)).toNat)))).den : Int)))))))))).toList == [(49 : UInt8)] then some (.val (.bool true)) else some (.val (.bool (dc (N (4294967296) (rv (t.extract 0 (bif false then if 400 > (↑t.size : Int) then 400 else (↑t.size : Int) else if 400 < (↑t.size : Int) then 400 else (↑t.size : Int)).toNat))) != 0)))) else none) else none) else none) else some (.val (.bool (dc (N (4294967296) (rv (t.extract 0 (bif false then if 400 > (↑t.size : Int) then 400 else (↑t.size : Int) else if 400 < (↑t.size : Int) then 400 else (↑t.size : Int)).toNat))) != 0)))) else none) else none)) else none) else none) else none) else none) else none) else none) else none) else none) else none) := by kernel_rfl
end KLowest
end
end Go.Abs
end
section
/- States and rounds of the statements of layer 2, as a program of this session printed them. -/
set_option maxRecDepth 10000
namespace Go.Abs
open Go.Proofs Go.Dig
noncomputable section
namespace KReckons
abbrev ans : Ans := [(14, anlAwake), (28, anqRat), (29, ansQAdd), (51, ansQSub), (52, ansQMul), (50, ansQuo), (53, ansmAdd), (44, ansmNeg), (54, ansmMul), (55, ansmQuo), (19, anqSame)]
abbrev orc : Orc := orcOf ans
theorem rest (s : ByteArray) (t : ByteArray) : runT T orc (noTab) Try.f11 [.str s, .str t] =
    (bif isQ (sg (qv (cut 700 s)).num) (lb (4294967296) (qv (cut 700 s)).num) false (lb (4294967296) (zd (↑(qv (cut 700 s)).den : Int))) && isQ (sg (qv (cut 700 t)).num) (lb (4294967296) (qv (cut 700 t)).num) false (lb (4294967296) (zd (↑(qv (cut 700 t)).den : Int))) then (bif isQ (sg (qv (cut 700 s)).num) (lb (4294967296) (qv (cut 700 s)).num) false (lb (4294967296) (zd (↑(qv (cut 700 s)).den : Int))) && isQ (sg (qv (cut 700 t)).num) (lb (4294967296) (qv (cut 700 t)).num) false (lb (4294967296) (zd (↑(qv (cut 700 t)).den : Int))) then (bif isQ (sg (qv (cut 700 s)).num) (lb (4294967296) (qv (cut 700 s)).num) false (lb (4294967296) (zd (↑(qv (cut 700 s)).den : Int))) && isQ (sg (qv (cut 700 t)).num) (lb (4294967296) (qv (cut 700 t)).num) false (lb (4294967296) (zd (↑(qv (cut 700 t)).den : Int))) then (bif isQ (sg (qv (cut 700 s)).num) (lb (4294967296) (qv (cut 700 s)).num) false (lb (4294967296) (zd (↑(qv (cut 700 s)).den : Int))) && isQ (sg (qv (cut 700 t)).num) (lb (4294967296) (qv (cut 700 t)).num) false (lb (4294967296) (zd (↑(qv (cut 700 t)).den : Int))) then (bif isM (sg (qv (cut 700 s)).num) (lb (10) (qv (cut 700 s)).num) false (lb (10) (zd (↑(qv (cut 700 s)).den : Int))) && isM (sg (qv (cut 700 t)).num) (lb (10) (qv (cut 700 t)).num) false (lb (10) (zd (↑(qv (cut 700 t)).den : Int))) then (bif cn (10) (sg (qv (cut 700 t)).num) (lb (10) (qv (cut 700 t)).num) then (bif isM (sg (qv (cut 700 s)).num) (lb (10) (qv (cut 700 s)).num) false (lb (10) (zd (↑(qv (cut 700 s)).den : Int))) && isM (sg (-N (10) (qv (cut 700 t)).num)) (lb (10) (-N (10) (qv (cut 700 t)).num)) false (lb (10) (zd (↑(qv (cut 700 t)).den : Int))) then (bif isM (sg (qv (cut 700 s)).num) (lb (10) (qv (cut 700 s)).num) false (lb (10) (zd (↑(qv (cut 700 s)).den : Int))) && isM (sg (qv (cut 700 t)).num) (lb (10) (qv (cut 700 t)).num) false (lb (10) (zd (↑(qv (cut 700 t)).den : Int))) then (bif isM (sg (qv (cut 700 s)).num) (lb (10) (qv (cut 700 s)).num) false (lb (10) (zd (↑(qv (cut 700 s)).den : Int))) && isM (sg (qv (cut 700 t)).num) (lb (10) (qv (cut 700 t)).num) false (lb (10) (zd (↑(qv (cut 700 t)).den : Int))) then (bif isQ (sg (qadd (rq (sg (qv (cut 700 s)).num) (lb (4294967296) (qv (cut 700 s)).num) (lb (4294967296) (zd (↑(qv (cut 700 s)).den : Int)))) (rq (sg (qv (cut 700 t)).num) (lb (4294967296) (qv (cut 700 t)).num) (lb (4294967296) (zd (↑(qv (cut 700 t)).den : Int))))).num) (lb (4294967296) (qadd (rq (sg (qv (cut 700 s)).num) (lb (4294967296) (qv (cut 700 s)).num) (lb (4294967296) (zd (↑(qv (cut 700 s)).den : Int)))) (rq (sg (qv (cut 700 t)).num) (lb (4294967296) (qv (cut 700 t)).num) (lb (4294967296) (zd (↑(qv (cut 700 t)).den : Int))))).num) false (lb (4294967296) (zd (↑(qadd (rq (sg (qv (cut 700 s)).num) (lb (4294967296) (qv (cut 700 s)).num) (lb (4294967296) (zd (↑(qv (cut 700 s)).den : Int)))) (rq (sg (qv (cut 700 t)).num) (lb (4294967296) (qv (cut 700 t)).num) (lb (4294967296) (zd (↑(qv (cut 700 t)).den : Int))))).den : Int))) && isM (sg (qadd (rm (sg (qv (cut 700 s)).num) (lb (10) (qv (cut 700 s)).num) (lb (10) (zd (↑(qv (cut 700 s)).den : Int)))) (rm (sg (qv (cut 700 t)).num) (lb (10) (qv (cut 700 t)).num) (lb (10) (zd (↑(qv (cut 700 t)).den : Int))))).num) (lb (10) (qadd (rm (sg (qv (cut 700 s)).num) (lb (10) (qv (cut 700 s)).num) (lb (10) (zd (↑(qv (cut 700 s)).den : Int)))) (rm (sg (qv (cut 700 t)).num) (lb (10) (qv (cut 700 t)).num) (lb (10) (zd (↑(qv (cut 700 t)).den : Int))))).num) false (lb (10) (lowE (eadd (rm (sg (qv (cut 700 s)).num) (lb (10) (qv (cut 700 s)).num) (lb (10) (zd (↑(qv (cut 700 s)).den : Int)))) (rm (sg (qv (cut 700 t)).num) (lb (10) (qv (cut 700 t)).num) (lb (10) (zd (↑(qv (cut 700 t)).den : Int))))) (qadd (rm (sg (qv (cut 700 s)).num) (lb (10) (qv (cut 700 s)).num) (lb (10) (zd (↑(qv (cut 700 s)).den : Int)))) (rm (sg (qv (cut 700 t)).num) (lb (10) (qv (cut 700 t)).num) (lb (10) (zd (↑(qv (cut 700 t)).den : Int))))))) then (bif decide (eadd (rq (sg (qv (cut 700 s)).num) (lb (4294967296) (qv (cut 700 s)).num) (lb (4294967296) (zd (↑(qv (cut 700 s)).den : Int)))) (rq (sg (qv (cut 700 t)).num) (lb (4294967296) (qv (cut 700 t)).num) (lb (4294967296) (zd (↑(qv (cut 700 t)).den : Int)))) = eadd (rm (sg (qv (cut 700 s)).num) (lb (10) (qv (cut 700 s)).num) (lb (10) (zd (↑(qv (cut 700 s)).den : Int)))) (rm (sg (qv (cut 700 t)).num) (lb (10) (qv (cut 700 t)).num) (lb (10) (zd (↑(qv (cut 700 t)).den : Int))))) && decide (rq (sg (qadd (rq (sg (qv (cut 700 s)).num) (lb (4294967296) (qv (cut 700 s)).num) (lb (4294967296) (zd (↑(qv (cut 700 s)).den : Int)))) (rq (sg (qv (cut 700 t)).num) (lb (4294967296) (qv (cut 700 t)).num) (lb (4294967296) (zd (↑(qv (cut 700 t)).den : Int))))).num) (lb (4294967296) (qadd (rq (sg (qv (cut 700 s)).num) (lb (4294967296) (qv (cut 700 s)).num) (lb (4294967296) (zd (↑(qv (cut 700 s)).den : Int)))) (rq (sg (qv (cut 700 t)).num) (lb (4294967296) (qv (cut 700 t)).num) (lb (4294967296) (zd (↑(qv (cut 700 t)).den : Int))))).num) (lb (4294967296) (zd (↑(qadd (rq (sg (qv (cut 700 s)).num) (lb (4294967296) (qv (cut 700 s)).num) (lb (4294967296) (zd (↑(qv (cut 700 s)).den : Int)))) (rq (sg (qv (cut 700 t)).num) (lb (4294967296) (qv (cut 700 t)).num) (lb (4294967296) (zd (↑(qv (cut 700 t)).den : Int))))).den : Int))) = rm (sg (qadd (rm (sg (qv (cut 700 s)).num) (lb (10) (qv (cut 700 s)).num) (lb (10) (zd (↑(qv (cut 700 s)).den : Int)))) (rm (sg (qv (cut 700 t)).num) (lb (10) (qv (cut 700 t)).num) (lb (10) (zd (↑(qv (cut 700 t)).den : Int))))).num) (lb (10) (qadd (rm (sg (qv (cut 700 s)).num) (lb (10) (qv (cut 700 s)).num) (lb (10) (zd (↑(qv (cut 700 s)).den : Int)))) (rm (sg (qv (cut 700 t)).num) (lb (10) (qv (cut 700 t)).num) (lb (10) (zd (↑(qv (cut 700 t)).den : Int))))).num) (lb (10) (lowE (eadd (rm (sg (qv (cut 700 s)).num) (lb (10) (qv (cut 700 s)).num) (lb (10) (zd (↑(qv (cut 700 s)).den : Int)))) (rm (sg (qv (cut 700 t)).num) (lb (10) (qv (cut 700 t)).num) (lb (10) (zd (↑(qv (cut 700 t)).den : Int))))) (qadd (rm (sg (qv (cut 700 s)).num) (lb (10) (qv (cut 700 s)).num) (lb (10) (zd (↑(qv (cut 700 s)).den : Int)))) (rm (sg (qv (cut 700 t)).num) (lb (10) (qv (cut 700 t)).num) (lb (10) (zd (↑(qv (cut 700 t)).den : Int)))))))) then (bif isQ (sg (qadd (rq (sg (qv (cut 700 s)).num) (lb (4294967296) (qv (cut 700 s)).num) (lb (4294967296) (zd (↑(qv (cut 700 s)).den : Int)))) (-rq (sg (qv (cut 700 t)).num) (lb (4294967296) (qv (cut 700 t)).num) (lb (4294967296) (zd (↑(qv (cut 700 t)).den : Int))))).num) (lb (4294967296) (qadd (rq (sg (qv (cut 700 s)).num) (lb (4294967296) (qv (cut 700 s)).num) (lb (4294967296) (zd (↑(qv (cut 700 s)).den : Int)))) (-rq (sg (qv (cut 700 t)).num) (lb (4294967296) (qv (cut 700 t)).num) (lb (4294967296) (zd (↑(qv (cut 700 t)).den : Int))))).num) false (lb (4294967296) (zd (↑(qadd (rq (sg (qv (cut 700 s)).num) (lb (4294967296) (qv (cut 700 s)).num) (lb (4294967296) (zd (↑(qv (cut 700 s)).den : Int)))) (-rq (sg (qv (cut 700 t)).num) (lb (4294967296) (qv (cut 700 t)).num) (lb (4294967296) (zd (↑(qv (cut 700 t)).den : Int))))).den : Int))) && isM (sg (qadd (rm (sg (qv (cut 700 s)).num) (lb (10) (qv (cut 700 s)).num) (lb (10) (zd (↑(qv (cut 700 s)).den : Int)))) (rm (sg (-N (10) (qv (cut 700 t)).num)) (lb (10) (-N (10) (qv (cut 700 t)).num)) (lb (10) (zd (↑(qv (cut 700 t)).den : Int))))).num) (lb (10) (qadd (rm (sg (qv (cut 700 s)).num) (lb (10) (qv (cut 700 s)).num) (lb (10) (zd (↑(qv (cut 700 s)).den : Int)))) (rm (sg (-N (10) (qv (cut 700 t)).num)) (lb (10) (-N (10) (qv (cut 700 t)).num)) (lb (10) (zd (↑(qv (cut 700 t)).den : Int))))).num) false (lb (10) (lowE (eadd (rm (sg (qv (cut 700 s)).num) (lb (10) (qv (cut 700 s)).num) (lb (10) (zd (↑(qv (cut 700 s)).den : Int)))) (rm (sg (-N (10) (qv (cut 700 t)).num)) (lb (10) (-N (10) (qv (cut 700 t)).num)) (lb (10) (zd (↑(qv (cut 700 t)).den : Int))))) (qadd (rm (sg (qv (cut 700 s)).num) (lb (10) (qv (cut 700 s)).num) (lb (10) (zd (↑(qv (cut 700 s)).den : Int)))) (rm (sg (-N (10) (qv (cut 700 t)).num)) (lb (10) (-N (10) (qv (cut 700 t)).num)) (lb (10) (zd (↑(qv (cut 700 t)).den : Int))))))) then (bif decide (eadd (rq (sg (qv (cut 700 s)).num) (lb (4294967296) (qv (cut 700 s)).num) (lb (4294967296) (zd (↑(qv (cut 700 s)).den : Int)))) (-rq (sg (qv (cut 700 t)).num) (lb (4294967296) (qv (cut 700 t)).num) (lb (4294967296) (zd (↑(qv (cut 700 t)).den : Int)))) = eadd (rm (sg (qv (cut 700 s)).num) (lb (10) (qv (cut 700 s)).num) (lb (10) (zd (↑(qv (cut 700 s)).den : Int)))) (rm (sg (-N (10) (qv (cut 700 t)).num)) (lb (10) (-N (10) (qv (cut 700 t)).num)) (lb (10) (zd (↑(qv (cut 700 t)).den : Int))))) && decide (rq (sg (qadd (rq (sg (qv (cut 700 s)).num) (lb (4294967296) (qv (cut 700 s)).num) (lb (4294967296) (zd (↑(qv (cut 700 s)).den : Int)))) (-rq (sg (qv (cut 700 t)).num) (lb (4294967296) (qv (cut 700 t)).num) (lb (4294967296) (zd (↑(qv (cut 700 t)).den : Int))))).num) (lb (4294967296) (qadd (rq (sg (qv (cut 700 s)).num) (lb (4294967296) (qv (cut 700 s)).num) (lb (4294967296) (zd (↑(qv (cut 700 s)).den : Int)))) (-rq (sg (qv (cut 700 t)).num) (lb (4294967296) (qv (cut 700 t)).num) (lb (4294967296) (zd (↑(qv (cut 700 t)).den : Int))))).num) (lb (4294967296) (zd (↑(qadd (rq (sg (qv (cut 700 s)).num) (lb (4294967296) (qv (cut 700 s)).num) (lb (4294967296) (zd (↑(qv (cut 700 s)).den : Int)))) (-rq (sg (qv (cut 700 t)).num) (lb (4294967296) (qv (cut 700 t)).num) (lb (4294967296) (zd (↑(qv (cut 700 t)).den : Int))))).den : Int))) = rm (sg (qadd (rm (sg (qv (cut 700 s)).num) (lb (10) (qv (cut 700 s)).num) (lb (10) (zd (↑(qv (cut 700 s)).den : Int)))) (rm (sg (-N (10) (qv (cut 700 t)).num)) (lb (10) (-N (10) (qv (cut 700 t)).num)) (lb (10) (zd (↑(qv (cut 700 t)).den : Int))))).num) (lb (10) (qadd (rm (sg (qv (cut 700 s)).num) (lb (10) (qv (cut 700 s)).num) (lb (10) (zd (↑(qv (cut 700 s)).den : Int)))) (rm (sg (-N (10) (qv (cut 700 t)).num)) (lb (10) (-N (10) (qv (cut 700 t)).num)) (lb (10) (zd (↑(qv (cut 700 t)).den : Int))))).num) (lb (10) (lowE (eadd (rm (sg (qv (cut 700 s)).num) (lb (10) (qv (cut 700 s)).num) (lb (10) (zd (↑(qv (cut 700 s)).den : Int)))) (rm (sg (-N (10) (qv (cut 700 t)).num)) (lb (10) (-N (10) (qv (cut 700 t)).num)) (lb (10) (zd (↑(qv (cut 700 t)).den : Int))))) (qadd (rm (sg (qv (cut 700 s)).num) (lb (10) (qv (cut 700 s)).num) (lb (10) (zd (↑(qv (cut 700 s)).den : Int)))) (rm (sg (-N (10) (qv (cut 700 t)).num)) (lb (10) (-N (10) (qv (cut 700 t)).num)) (lb (10) (zd (↑(qv (cut 700 t)).den : Int)))))))) then (bif isQ (sg (qmul (rq (sg (qv (cut 700 s)).num) (lb (4294967296) (qv (cut 700 s)).num) (lb (4294967296) (zd (↑(qv (cut 700 s)).den : Int)))) (rq (sg (qv (cut 700 t)).num) (lb (4294967296) (qv (cut 700 t)).num) (lb (4294967296) (zd (↑(qv (cut 700 t)).den : Int))))).num) (lb (4294967296) (qmul (rq (sg (qv (cut 700 s)).num) (lb (4294967296) (qv (cut 700 s)).num) (lb (4294967296) (zd (↑(qv (cut 700 s)).den : Int)))) (rq (sg (qv (cut 700 t)).num) (lb (4294967296) (qv (cut 700 t)).num) (lb (4294967296) (zd (↑(qv (cut 700 t)).den : Int))))).num) false (lb (4294967296) (zd (↑(qmul (rq (sg (qv (cut 700 s)).num) (lb (4294967296) (qv (cut 700 s)).num) (lb (4294967296) (zd (↑(qv (cut 700 s)).den : Int)))) (rq (sg (qv (cut 700 t)).num) (lb (4294967296) (qv (cut 700 t)).num) (lb (4294967296) (zd (↑(qv (cut 700 t)).den : Int))))).den : Int))) && isM (sg (qmul (rm (sg (qv (cut 700 s)).num) (lb (10) (qv (cut 700 s)).num) (lb (10) (zd (↑(qv (cut 700 s)).den : Int)))) (rm (sg (qv (cut 700 t)).num) (lb (10) (qv (cut 700 t)).num) (lb (10) (zd (↑(qv (cut 700 t)).den : Int))))).num) (lb (10) (qmul (rm (sg (qv (cut 700 s)).num) (lb (10) (qv (cut 700 s)).num) (lb (10) (zd (↑(qv (cut 700 s)).den : Int)))) (rm (sg (qv (cut 700 t)).num) (lb (10) (qv (cut 700 t)).num) (lb (10) (zd (↑(qv (cut 700 t)).den : Int))))).num) false (lb (10) (lowE (emul (rm (sg (qv (cut 700 s)).num) (lb (10) (qv (cut 700 s)).num) (lb (10) (zd (↑(qv (cut 700 s)).den : Int)))) (rm (sg (qv (cut 700 t)).num) (lb (10) (qv (cut 700 t)).num) (lb (10) (zd (↑(qv (cut 700 t)).den : Int))))) (qmul (rm (sg (qv (cut 700 s)).num) (lb (10) (qv (cut 700 s)).num) (lb (10) (zd (↑(qv (cut 700 s)).den : Int)))) (rm (sg (qv (cut 700 t)).num) (lb (10) (qv (cut 700 t)).num) (lb (10) (zd (↑(qv (cut 700 t)).den : Int))))))) then (bif decide (emul (rq (sg (qv (cut 700 s)).num) (lb (4294967296) (qv (cut 700 s)).num) (lb (4294967296) (zd (↑(qv (cut 700 s)).den : Int)))) (rq (sg (qv (cut 700 t)).num) (lb (4294967296) (qv (cut 700 t)).num) (lb (4294967296) (zd (↑(qv (cut 700 t)).den : Int)))) = emul (rm (sg (qv (cut 700 s)).num) (lb (10) (qv (cut 700 s)).num) (lb (10) (zd (↑(qv (cut 700 s)).den : Int)))) (rm (sg (qv (cut 700 t)).num) (lb (10) (qv (cut 700 t)).num) (lb (10) (zd (↑(qv (cut 700 t)).den : Int))))) && decide (rq (sg (qmul (rq (sg (qv (cut 700 s)).num) (lb (4294967296) (qv (cut 700 s)).num) (lb (4294967296) (zd (↑(qv (cut 700 s)).den : Int)))) (rq (sg (qv (cut 700 t)).num) (lb (4294967296) (qv (cut 700 t)).num) (lb (4294967296) (zd (↑(qv (cut 700 t)).den : Int))))).num) (lb (4294967296) (qmul (rq (sg (qv (cut 700 s)).num) (lb (4294967296) (qv (cut 700 s)).num) (lb (4294967296) (zd (↑(qv (cut 700 s)).den : Int)))) (rq (sg (qv (cut 700 t)).num) (lb (4294967296) (qv (cut 700 t)).num) (lb (4294967296) (zd (↑(qv (cut 700 t)).den : Int))))).num) (lb (4294967296) (zd (↑(qmul (rq (sg (qv (cut 700 s)).num) (lb (4294967296) (qv (cut 700 s)).num) (lb (4294967296) (zd (↑(qv (cut 700 s)).den : Int)))) (rq (sg (qv (cut 700 t)).num) (lb (4294967296) (qv (cut 700 t)).num) (lb (4294967296) (zd (↑(qv (cut 700 t)).den : Int))))).den : Int))) = rm (sg (qmul (rm (sg (qv (cut 700 s)).num) (lb (10) (qv (cut 700 s)).num) (lb (10) (zd (↑(qv (cut 700 s)).den : Int)))) (rm (sg (qv (cut 700 t)).num) (lb (10) (qv (cut 700 t)).num) (lb (10) (zd (↑(qv (cut 700 t)).den : Int))))).num) (lb (10) (qmul (rm (sg (qv (cut 700 s)).num) (lb (10) (qv (cut 700 s)).num) (lb (10) (zd (↑(qv (cut 700 s)).den : Int)))) (rm (sg (qv (cut 700 t)).num) (lb (10) (qv (cut 700 t)).num) (lb (10) (zd (↑(qv (cut 700 t)).den : Int))))).num) (lb (10) (lowE (emul (rm (sg (qv (cut 700 s)).num) (lb (10) (qv (cut 700 s)).num) (lb (10) (zd (↑(qv (cut 700 s)).den : Int)))) (rm (sg (qv (cut 700 t)).num) (lb (10) (qv (cut 700 t)).num) (lb (10) (zd (↑(qv (cut 700 t)).den : Int))))) (qmul (rm (sg (qv (cut 700 s)).num) (lb (10) (qv (cut 700 s)).num) (lb (10) (zd (↑(qv (cut 700 s)).den : Int)))) (rm (sg (qv (cut 700 t)).num) (lb (10) (qv (cut 700 t)).num) (lb (10) (zd (↑(qv (cut 700 t)).den : Int)))))))) then (bif isQ (sg (qquo (rq (sg (qv (cut 700 s)).num) (lb (4294967296) (qv (cut 700 s)).num) (lb (4294967296) (zd (↑(qv (cut 700 s)).den : Int)))) (rq (sg (qv (cut 700 t)).num) (lb (4294967296) (qv (cut 700 t)).num) (lb (4294967296) (zd (↑(qv (cut 700 t)).den : Int))))).num) (lb (4294967296) (qquo (rq (sg (qv (cut 700 s)).num) (lb (4294967296) (qv (cut 700 s)).num) (lb (4294967296) (zd (↑(qv (cut 700 s)).den : Int)))) (rq (sg (qv (cut 700 t)).num) (lb (4294967296) (qv (cut 700 t)).num) (lb (4294967296) (zd (↑(qv (cut 700 t)).den : Int))))).num) false (lb (4294967296) (zd (↑(qquo (rq (sg (qv (cut 700 s)).num) (lb (4294967296) (qv (cut 700 s)).num) (lb (4294967296) (zd (↑(qv (cut 700 s)).den : Int)))) (rq (sg (qv (cut 700 t)).num) (lb (4294967296) (qv (cut 700 t)).num) (lb (4294967296) (zd (↑(qv (cut 700 t)).den : Int))))).den : Int))) && isM (sg (qquo (rm (sg (qv (cut 700 s)).num) (lb (10) (qv (cut 700 s)).num) (lb (10) (zd (↑(qv (cut 700 s)).den : Int)))) (rm (sg (qv (cut 700 t)).num) (lb (10) (qv (cut 700 t)).num) (lb (10) (zd (↑(qv (cut 700 t)).den : Int))))).num) (lb (10) (qquo (rm (sg (qv (cut 700 s)).num) (lb (10) (qv (cut 700 s)).num) (lb (10) (zd (↑(qv (cut 700 s)).den : Int)))) (rm (sg (qv (cut 700 t)).num) (lb (10) (qv (cut 700 t)).num) (lb (10) (zd (↑(qv (cut 700 t)).den : Int))))).num) false (lb (10) (lowE (equo (rm (sg (qv (cut 700 s)).num) (lb (10) (qv (cut 700 s)).num) (lb (10) (zd (↑(qv (cut 700 s)).den : Int)))) (rm (sg (qv (cut 700 t)).num) (lb (10) (qv (cut 700 t)).num) (lb (10) (zd (↑(qv (cut 700 t)).den : Int))))) (qquo (rm (sg (qv (cut 700 s)).num) (lb (10) (qv (cut 700 s)).num) (lb (10) (zd (↑(qv (cut 700 s)).den : Int)))) (rm (sg (qv (cut 700 t)).num) (lb (10) (qv (cut 700 t)).num) (lb (10) (zd (↑(qv (cut 700 t)).den : Int))))))) then some (.val (.bool (decide (equo (rq (sg (qv (cut 700 s)).num) (lb (4294967296) (qv (cut 700 s)).num) (lb (4294967296) (zd (↑(qv (cut 700 s)).den : Int)))) (rq (sg (qv (cut 700 t)).num) (lb (4294967296) (qv (cut 700 t)).num) (lb (4294967296) (zd (↑(qv (cut 700 t)).den : Int)))) = equo (rm (sg (qv (cut 700 s)).num) (lb (10) (qv (cut 700 s)).num) (lb (10) (zd (↑(qv (cut 700 s)).den : Int)))) (rm (sg (qv (cut 700 t)).num) (lb (10) (qv (cut 700 t)).num) (lb (10) (zd (↑(qv (cut 700 t)).den : Int))))) && decide (rq (sg (qquo (rq (sg (qv (cut 700 s)).num) (lb (4294967296) (qv (cut 700 s)).num) (lb (4294967296) (zd (↑(qv (cut 700 s)).den : Int)))) (rq (sg (qv (cut 700 t)).num) (lb (4294967296) (qv (cut 700 t)).num) (lb (4294967296) (zd (↑(qv (cut 700 t)).den : Int))))).num) (lb (4294967296) (qquo (rq (sg (qv (cut 700 s)).num) (lb (4294967296) (qv (cut 700 s)).num) (lb (4294967296) (zd (↑(qv (cut 700 s)).den : Int)))) (rq (sg (qv (cut 700 t)).num) (lb (4294967296) (qv (cut 700 t)).num) (lb (4294967296) (zd (↑(qv (cut 700 t)).den : Int))))).num) (lb (4294967296) (zd (↑(qquo (rq (sg (qv (cut 700 s)).num) (lb (4294967296) (qv (cut 700 s)).num) (lb (4294967296) (zd (↑(qv (cut 700 s)).den : Int)))) (rq (sg (qv (cut 700 t)).num) (lb (4294967296) (qv (cut 700 t)).num) (lb (4294967296) (zd (↑(qv (cut 700 t)).den : Int))))).den : Int))) = rm (sg (qquo (rm (sg (qv (cut 700 s)).num) (lb (10) (qv (cut 700 s)).num) (lb (10) (zd (↑(qv (cut 700 s)).den : Int)))) (rm (sg (qv (cut 700 t)).num) (lb (10) (qv (cut 700 t)).num) (lb (10) (zd (↑(qv (cut 700 t)).den : Int))))).num) (lb (10) (qquo (rm (sg (qv (cut 700 s)).num) (lb (10) (qv (cut 700 s)).num) (lb (10) (zd (↑(qv (cut 700 s)).den : Int)))) (rm (sg (qv (cut 700 t)).num) (lb (10) (qv (cut 700 t)).num) (lb (10) (zd (↑(qv (cut 700 t)).den : Int))))).num) (lb (10) (lowE (equo (rm (sg (qv (cut 700 s)).num) (lb (10) (qv (cut 700 s)).num) (lb (10) (zd (↑(qv (cut 700 s)).den : Int)))) (rm (sg (qv (cut 700 t)).num) (lb (10) (qv (cut 700 t)).num) (lb (10) (zd (↑(qv (cut 700 t)).den : Int))))) (qquo (rm (sg (qv (cut 700 s)).num) (lb (10) (qv (cut 700 s)).num) (lb (10) (zd (↑(qv (cut 700 s)).den : Int)))) (rm (sg (qv (cut 700 t)).num) (lb (10) (qv (cut 700 t)).num) (lb (10) (zd (↑(qv (cut 700 t)).den : Int))))))))))) else none) else some (.val (.bool false))) else none) else some (.val (.bool false))) else none) else some (.val (.bool false))) else none) else none) else none) else none) else none) else none) else none) else none) else none) else none) := by kernel_rfl
end KReckons
end
end Go.Abs
end
section
/- States and rounds of the statements of layer 2, as a program of this session printed them. -/
set_option maxRecDepth 10000
namespace Go.Abs
open Go.Proofs Go.Dig
noncomputable section
namespace KOrders
abbrev ans : Ans := [(14, anlAwake), (28, anqRat), (40, ansmCmp), (41, ansQCmp), (39, ansQSign), (42, ansQNeg), (27, ansQText), (43, ansmShow), (44, ansmNeg)]
abbrev orc : Orc := orcOf ans
theorem rest (s : ByteArray) (t : ByteArray) : runT T orc (noTab) Try.f8 [.str s, .str t] =
    (bif isM (sg (qv (cut 700 s)).num) (lb (10) (qv (cut 700 s)).num) false (lb (10) (zd (↑(qv (cut 700 s)).den : Int))) && isM (sg (qv (cut 700 t)).num) (lb (10) (qv (cut 700 t)).num) false (lb (10) (zd (↑(qv (cut 700 t)).den : Int))) then (bif isQ (sg (qv (cut 700 s)).num) (lb (4294967296) (qv (cut 700 s)).num) false (lb (4294967296) (zd (↑(qv (cut 700 s)).den : Int))) && isQ (sg (qv (cut 700 t)).num) (lb (4294967296) (qv (cut 700 t)).num) false (lb (4294967296) (zd (↑(qv (cut 700 t)).den : Int))) then (bif cmpQ (rq (sg (qv (cut 700 s)).num) (lb (4294967296) (qv (cut 700 s)).num) (lb (4294967296) (zd (↑(qv (cut 700 s)).den : Int)))) (rq (sg (qv (cut 700 t)).num) (lb (4294967296) (qv (cut 700 t)).num) (lb (4294967296) (zd (↑(qv (cut 700 t)).den : Int)))) == cmpQ (rm (sg (qv (cut 700 s)).num) (lb (10) (qv (cut 700 s)).num) (lb (10) (zd (↑(qv (cut 700 s)).den : Int)))) (rm (sg (qv (cut 700 t)).num) (lb (10) (qv (cut 700 t)).num) (lb (10) (zd (↑(qv (cut 700 t)).den : Int)))) then (bif isQ (sg (qv (cut 700 t)).num) (lb (4294967296) (qv (cut 700 t)).num) false (lb (4294967296) (zd (↑(qv (cut 700 t)).den : Int))) && isQ (sg (qv (cut 700 s)).num) (lb (4294967296) (qv (cut 700 s)).num) false (lb (4294967296) (zd (↑(qv (cut 700 s)).den : Int))) then (bif cmpQ (rq (sg (qv (cut 700 t)).num) (lb (4294967296) (qv (cut 700 t)).num) (lb (4294967296) (zd (↑(qv (cut 700 t)).den : Int)))) (rq (sg (qv (cut 700 s)).num) (lb (4294967296) (qv (cut 700 s)).num) (lb (4294967296) (zd (↑(qv (cut 700 s)).den : Int)))) == IntKind.i64.wrap (0 - cmpQ (rm (sg (qv (cut 700 s)).num) (lb (10) (qv (cut 700 s)).num) (lb (10) (zd (↑(qv (cut 700 s)).den : Int)))) (rm (sg (qv (cut 700 t)).num) (lb (10) (qv (cut 700 t)).num) (lb (10) (zd (↑(qv (cut 700 t)).den : Int))))) then (bif cn (4294967296) (sg (qv (cut 700 s)).num) (lb (4294967296) (qv (cut 700 s)).num) then (bif isM (sg (qv (cut 700 s)).num) (lb (10) (qv (cut 700 s)).num) false (lb (10) (zd (↑(qv (cut 700 s)).den : Int))) && isM false [] false [] then (bif cmpZ (N (4294967296) (qv (cut 700 s)).num) (0) == cmpQ (rm (sg (qv (cut 700 s)).num) (lb (10) (qv (cut 700 s)).num) (lb (10) (zd (↑(qv (cut 700 s)).den : Int)))) (rm false [] []) then (bif cn (4294967296) (sg (qv (cut 700 s)).num) (lb (4294967296) (qv (cut 700 s)).num) then (bif isQ (sg (-N (4294967296) (qv (cut 700 s)).num)) (lb (4294967296) (-N (4294967296) (qv (cut 700 s)).num)) false (lb (4294967296) (zd (↑(qv (cut 700 s)).den : Int))) then (bif cn (10) (sg (qv (cut 700 s)).num) (lb (10) (qv (cut 700 s)).num) then (bif isM (sg (-N (10) (qv (cut 700 s)).num)) (lb (10) (-N (10) (qv (cut 700 s)).num)) false (lb (10) (zd (↑(qv (cut 700 s)).den : Int))) then some (.val (.bool ((qtxt (rq (sg (-N (4294967296) (qv (cut 700 s)).num)) (lb (4294967296) (-N (4294967296) (qv (cut 700 s)).num)) (lb (4294967296) (zd (↑(qv (cut 700 s)).den : Int))))).toList == (qtxt (rm (sg (-N (10) (qv (cut 700 s)).num)) (lb (10) (-N (10) (qv (cut 700 s)).num)) (lb (10) (zd (↑(qv (cut 700 s)).den : Int))))).toList))) else none) else none) else none) else none) else some (.val (.bool false))) else none) else none) else some (.val (.bool false))) else none) else some (.val (.bool false))) else none) else none) := by kernel_rfl
end KOrders
end
end Go.Abs
end
section
/- The statements of layer 2: reckoning, orders, sums. -/
namespace Go.Abs
open Go.Proofs Go.Dig
theorem fitsQ_qadd {x y : Rat} (hx : fitsQ x = true) (hy : fitsQ y = true) : fitsQ (qadd x y) = true := by
  by_cases h : eadd x y = 0
  · rw [qadd_ok h]; exact fitsQ_add hx hy h
  · rw [qadd_err h]; exact fitsQ_0
theorem emul_cases (x y : Rat) : (emul x y = 0 ∧ fitsQ (x * y) = true ∧ qmul x y = x * y) ∨ (emul x y = 11 ∧ fitsQ (x * y) = false ∧ qmul x y = 0) := by
  have h1 := emul_eq x y
  have h2 := qmul_eq x y
  cases h : fitsQ (x * y) with
  | true =>
    rw [h] at h1
    have h1 : emul x y = 0 := h1
    rw [h1] at h2
    exact .inl ⟨h1, rfl, h2⟩
  | false =>
    rw [h] at h1
    have h1 : emul x y = 11 := h1
    rw [h1] at h2
    exact .inr ⟨h1, rfl, h2⟩
theorem fitsQ_qmul (x y : Rat) : fitsQ (qmul x y) = true := by
  rcases emul_cases x y with ⟨_, h, h2⟩ | ⟨_, _, h2⟩
  · rw [h2]; exact h
  · rw [h2]; exact fitsQ_0
theorem equo_cases (x y : Rat) : (y = 0 ∧ equo x y = 12 ∧ qquo x y = 0) ∨ (y ≠ 0 ∧ equo x y = emul x y⁻¹ ∧ qquo x y = qmul x y⁻¹) := by
  have h1 := equo_eq x y
  have h2 := qquo_eq x y
  have h3 := einv_eq y
  by_cases h : y = 0
  · subst h
    have h3 : einv (0 : Rat) = 12 := h3
    rw [h3] at h1
    have h1 : equo x 0 = 12 := h1
    rw [h1] at h2
    exact .inl ⟨rfl, h1, h2⟩
  · have hn : y.num ≠ 0 := fun h0 => h (Rat.num_eq_zero.1 h0)
    unfold dc at h3
    rw [if_neg hn] at h3
    rw [h3] at h1
    have h1 : equo x y = emul x y⁻¹ := h1
    refine .inr ⟨h, h1, ?_⟩
    rw [h2, h1, qmul_eq]
theorem fitsQ_qquo (x y : Rat) : fitsQ (qquo x y) = true := by
  rcases equo_cases x y with ⟨_, _, h⟩ | ⟨_, _, h⟩ <;> rw [h]
  · exact fitsQ_0
  · exact fitsQ_qmul ..
theorem lowE_or {e : Int} {q : Rat} (h : e ≠ 0 → q = 0) : lb 10 (lowE e q) = lb 10 q.den ∨ (q.den = 1 ∧ lb 10 (lowE e q) = []) := by
  rw [lowE_eq]
  by_cases h0 : e = 0
  · left; rw [h0]; rfl
  · right
    rw [h h0, show (e == 0) = false from by rw [beq_eq_false_iff_ne]; exact h0]
    exact ⟨rfl, rfl⟩
theorem qquo_err {x y : Rat} (h : equo x y ≠ 0) : qquo x y = 0 := by
  rcases equo_cases x y with ⟨_, _, h1⟩ | ⟨_, h1, h2⟩
  · exact h1
  · rw [h2]; exact qmul_err (by rw [← h1]; exact h)
theorem isM_low {e : Int} {q : Rat} (hq : fitsQ q = true) (h : e ≠ 0 → q = 0) : isM (sg q.num) (lb 10 q.num) false (lb 10 (lowE e q)) = true := (isM_of hq (lowE_or h)).1
theorem rm_low {e : Int} {q : Rat} (hq : fitsQ q = true) (h : e ≠ 0 → q = 0) : rm (sg q.num) (lb 10 q.num) (lb 10 (lowE e q)) = q := (isM_of hq (lowE_or h)).2
theorem rm_neg {q : Rat} (h : fitsQ q = true) : rm (sg (-q.num)) (lb 10 (-q.num)) (lb 10 (zd q.den)) = -q := rm_zd (q := -q) (fitsQ_neg h)
theorem isM_neg {q : Rat} (h : fitsQ q = true) : isM (sg (-q.num)) (lb 10 (-q.num)) false (lb 10 (zd q.den)) = true := isM_zd (q := -q) (fitsQ_neg h)
theorem law_qreckons : Meets Try.prog 11 (fun a => match a with | [.str _, .str _] => some (true, .val (.bool true)) | _ => none) := by
  refine meets_fn (orc_ok (l := KReckons.ans) ⟨meets_kawake, meets_qrat, meets_qadd, meets_qsub meets_qadd, meets_qmul, meets_quo meets_qmul, meets_madd, meets_mneg, meets_mmul, meets_mquo, meets_qsame, trivial⟩) Try.f11 rfl (by kernel_rfl) (fun args r h => ?_)
  split at h
  · rename_i s t
    simp only [Option.some.injEq, Prod.mk.injEq] at h
    obtain ⟨_, rfl⟩ := h
    refine ⟨rfl, _, noTab_all, (KReckons.rest s t).trans ?_⟩
    have hf := fitsQ_qv (cut 700 s)
    have hg := fitsQ_qv (cut 700 t)
    generalize qv (cut 700 s) = x at *
    generalize qv (cut 700 t) = y at *
    simp only [isQ_Q, isM_zd hf, isM_zd hg, hf, hg, rq_Q, rm_zd hf, rm_zd hg, cn10_nm hg, num_lb10, rm_neg hg, isM_neg hg, fitsQ_qadd hf hg, fitsQ_qadd hf (fitsQ_neg hg), fitsQ_qmul, fitsQ_qquo,
      isM_low (fitsQ_qadd hf hg) qadd_err, rm_low (fitsQ_qadd hf hg) qadd_err, isM_low (fitsQ_qadd hf (fitsQ_neg hg)) qadd_err, rm_low (fitsQ_qadd hf (fitsQ_neg hg)) qadd_err, isM_low (fitsQ_qmul x y) qmul_err, rm_low (fitsQ_qmul x y) qmul_err, isM_low (fitsQ_qquo x y) qquo_err, rm_low (fitsQ_qquo x y) qquo_err, decide_true, Bool.and_self, cond_true]
  · cases h
theorem law_qorders : Meets Try.prog 8 (fun a => match a with | [.str _, .str _] => some (true, .val (.bool true)) | _ => none) := by
  refine meets_fn (orc_ok (l := KOrders.ans) ⟨meets_kawake, meets_qrat, meets_mcmp, meets_qcmp, meets_qsign, meets_qneg, meets_qtext, meets_mshow, meets_mneg, trivial⟩) Try.f8 rfl (by kernel_rfl) (fun args r h => ?_)
  split at h
  · rename_i s t
    simp only [Option.some.injEq, Prod.mk.injEq] at h
    obtain ⟨_, rfl⟩ := h
    refine ⟨rfl, _, noTab_all, (KOrders.rest s t).trans ?_⟩
    have hf := fitsQ_qv (cut 700 s)
    have hg := fitsQ_qv (cut 700 t)
    generalize qv (cut 700 s) = x at *
    generalize qv (cut 700 t) = y at *
    simp only [isQ_Q, isM_zd hf, isM_zd hg, hf, hg, rq_Q, rm_zd hf, rm_zd hg, cn10_nm hf, cn_nm hf, num_lb10, num_lbW, rm_neg hf, isM_neg hf, rq_neg, isQ_neg, fitsQ_neg hf, MSum.isM0.1, MSum.isM0.2, qtxt_beq, decide_true, Bool.and_self, cond_true]
    have hb : -1 ≤ cmpQ x y ∧ cmpQ x y ≤ 1 := by rw [cmpQ_eq]; exact cmpZ_bound _ _
    have h1 : cmpQ y x = 0 - cmpQ x y := by rw [cmpQ_eq, cmpQ_eq]; exact cmpZ_swap _ _
    have h2 : cmpQ x 0 = cmpZ x.num 0 := by
      rw [cmpQ_eq]
      show cmpZ (x.num * 1) (0 * x.den) = _
      rw [Int.mul_one, Int.zero_mul]
    rw [h1, h2, w64 (n := 0 - cmpQ x y) (by omega) (by omega)]
    refine (bT (beq_self_eq_true _)).trans ((bT (beq_self_eq_true _)).trans (bT (beq_self_eq_true _)))
  · cases h
theorem law_qlowest : Meets Try.prog 3 (fun a => match a with | [.str _, .str _] => some (true, .val (.bool true)) | _ => none) := by
  refine meets_fn (orc_ok (l := KLowest.ans) ⟨meets_kawake, meets_parse, meets_rparse, meets_of, meets_mof, meets_qsame, meets_qden, meets_sign, meets_gcd, meets_qnum, meets_text, trivial⟩) Try.f3 rfl (by kernel_rfl) (fun args r h => ?_)
  split at h
  · rename_i s t
    simp only [Option.some.injEq, Prod.mk.injEq] at h
    obtain ⟨_, rfl⟩ := h
    refine ⟨rfl, _, noTab_all, (KLowest.rest s t).trans ?_⟩
    simp only [cond_false]
    have hs : (if (400 : Int) < s.size then (400 : Int) else s.size) = ((min 400 s.size : Nat) : Int) := by split <;> omega
    have ht : (if (400 : Int) < t.size then (400 : Int) else t.size) = ((min 400 t.size : Nat) : Int) := by split <;> omega
    simp only [hs, ht, Int.toNat_natCast]
    have es : (s.extract 0 (min 400 s.size)).size ≤ 10000 := by rw [ByteArray.size_extract]; omega
    have et : (t.extract 0 (min 400 t.size)).size ≤ 10000 := by rw [ByteArray.size_extract]; omega
    simp only [decide_eq_true (show (0 : Int) ≤ ((min 400 s.size : Nat) : Int) by omega), decide_eq_true (show ((min 400 s.size : Nat) : Int) ≤ s.size by omega), decide_eq_true (show (0 : Int) ≤ ((min 400 t.size : Nat) : Int) by omega), decide_eq_true (show ((min 400 t.size : Nat) : Int) ≤ t.size by omega), decide_eq_true es, decide_eq_true et]
    generalize s.extract 0 (min 400 s.size) = a
    generalize t.extract 0 (min 400 t.size) = b
    have fx := fits_rv a
    have fy := fits_rv b
    have hq := ofQ_fits fx fy
    generalize rv a = x at *
    generalize rv b = y at *
    have ho : lb 10 (bif y == 0 then 0 else ((ofQ x y).den : Int)) = lb 10 (ofQ x y).den ∨ ((ofQ x y).den = 1 ∧ lb 10 (bif y == 0 then 0 else ((ofQ x y).den : Int)) = []) := by
      by_cases h0 : y = 0
      · subst h0; rw [ofQ_zero]; exact .inr ⟨rfl, rfl⟩
      · left; rw [show (y == 0) = false from by rw [beq_eq_false_iff_ne]; exact h0]; rfl
    obtain ⟨m1, m2⟩ := isM_of hq ho
    have fg := fits_gz (fitsQ_iff.1 hq).1 (fitsQ_iff.1 hq).2
    simp only [N_eq, N10_eq, cnW, cn10, fit_lim fx, fit_lim fy, isQ_Q, rq_Q, hq, m1, m2, cn_zd hq, num_zd, dn_den, cn_den hq, cn_nm hq, cnW_gz, numW_gz, fit_lim fg, fit_lim (fitsQ_iff.1 hq).1, fit_lim (fitsQ_iff.1 hq).2, num_lbW, decide_true, Bool.and_self, Bool.not_true, cond_true, cond_false]
    have hg1 : gz (ofQ x y).num ((ofQ x y).den : Int) = 1 := by
      have := (ofQ x y).reduced
      unfold gz
      rw [show Int.gcd (ofQ x y).num ((ofQ x y).den : Int) = Nat.gcd (ofQ x y).num.natAbs (ofQ x y).den from rfl, this]
      rfl
    have t1 : ((txt 1).toList == [49]) = true := by kernel_rfl
    have hp := den_pos' (ofQ x y)
    rw [hg1, t1, cmpZ_of_gt (show (0 : Int) < (ofQ x y).den by omega)]
    rfl
  · cases h
end Go.Abs
end
section
/- States and rounds of the statements of layer 2, as a program of this session printed them. -/
set_option maxRecDepth 10000
namespace Go.Abs
open Go.Proofs Go.Dig
noncomputable section
namespace KRounds
abbrev ans : Ans := [(14, anlAwake), (28, anqRat), (32, ansFloor), (33, ansCeil), (24, ansText), (45, anrShow), (46, ansmFloor), (41, ansQCmp), (30, ansWhole), (31, ansAdd), (47, ansFrom), (48, ansIsWhole), (34, ansCmp), (23, ansNum)]
abbrev orc : Orc := orcOf ans
theorem rest (s : ByteArray) : runT T orc (noTab) Try.f9 [.str s] =
    (bif isQ (sg (qv (cut 700 s)).num) (lb (4294967296) (qv (cut 700 s)).num) false (lb (4294967296) (zd (↑(qv (cut 700 s)).den : Int))) then (bif isQ (sg (qv (cut 700 s)).num) (lb (4294967296) (qv (cut 700 s)).num) false (lb (4294967296) (zd (↑(qv (cut 700 s)).den : Int))) then (bif cn (4294967296) (sg (rq (sg (qv (cut 700 s)).num) (lb (4294967296) (qv (cut 700 s)).num) (lb (4294967296) (zd (↑(qv (cut 700 s)).den : Int)))).floor) (lb (4294967296) (rq (sg (qv (cut 700 s)).num) (lb (4294967296) (qv (cut 700 s)).num) (lb (4294967296) (zd (↑(qv (cut 700 s)).den : Int)))).floor) then (bif isM (sg (qv (cut 700 s)).num) (lb (10) (qv (cut 700 s)).num) false (lb (10) (zd (↑(qv (cut 700 s)).den : Int))) then (bif cn (10) (sg (rm (sg (qv (cut 700 s)).num) (lb (10) (qv (cut 700 s)).num) (lb (10) (zd (↑(qv (cut 700 s)).den : Int)))).floor) (lb (10) (rm (sg (qv (cut 700 s)).num) (lb (10) (qv (cut 700 s)).num) (lb (10) (zd (↑(qv (cut 700 s)).den : Int)))).floor) then (bif !(txt (N (4294967296) (rq (sg (qv (cut 700 s)).num) (lb (4294967296) (qv (cut 700 s)).num) (lb (4294967296) (zd (↑(qv (cut 700 s)).den : Int)))).floor)).toList == (txt (N (10) (rm (sg (qv (cut 700 s)).num) (lb (10) (qv (cut 700 s)).num) (lb (10) (zd (↑(qv (cut 700 s)).den : Int)))).floor)).toList then some (.val (.bool false)) else (bif isQ (sg (rq (sg (qv (cut 700 s)).num) (lb (4294967296) (qv (cut 700 s)).num) (lb (4294967296) (zd (↑(qv (cut 700 s)).den : Int)))).floor) (lb (4294967296) (rq (sg (qv (cut 700 s)).num) (lb (4294967296) (qv (cut 700 s)).num) (lb (4294967296) (zd (↑(qv (cut 700 s)).den : Int)))).floor) false [] && isQ (sg (qv (cut 700 s)).num) (lb (4294967296) (qv (cut 700 s)).num) false (lb (4294967296) (zd (↑(qv (cut 700 s)).den : Int))) then (bif decide (cmpQ (rq (sg (rq (sg (qv (cut 700 s)).num) (lb (4294967296) (qv (cut 700 s)).num) (lb (4294967296) (zd (↑(qv (cut 700 s)).den : Int)))).floor) (lb (4294967296) (rq (sg (qv (cut 700 s)).num) (lb (4294967296) (qv (cut 700 s)).num) (lb (4294967296) (zd (↑(qv (cut 700 s)).den : Int)))).floor) []) (rq (sg (qv (cut 700 s)).num) (lb (4294967296) (qv (cut 700 s)).num) (lb (4294967296) (zd (↑(qv (cut 700 s)).den : Int)))) > 0) then some (.val (.bool false)) else (bif isQ (sg (-(-rq (sg (qv (cut 700 s)).num) (lb (4294967296) (qv (cut 700 s)).num) (lb (4294967296) (zd (↑(qv (cut 700 s)).den : Int)))).floor)) (lb (4294967296) (-(-rq (sg (qv (cut 700 s)).num) (lb (4294967296) (qv (cut 700 s)).num) (lb (4294967296) (zd (↑(qv (cut 700 s)).den : Int)))).floor)) false [] && isQ (sg (qv (cut 700 s)).num) (lb (4294967296) (qv (cut 700 s)).num) false (lb (4294967296) (zd (↑(qv (cut 700 s)).den : Int))) then (bif decide (cmpQ (rq (sg (-(-rq (sg (qv (cut 700 s)).num) (lb (4294967296) (qv (cut 700 s)).num) (lb (4294967296) (zd (↑(qv (cut 700 s)).den : Int)))).floor)) (lb (4294967296) (-(-rq (sg (qv (cut 700 s)).num) (lb (4294967296) (qv (cut 700 s)).num) (lb (4294967296) (zd (↑(qv (cut 700 s)).den : Int)))).floor)) []) (rq (sg (qv (cut 700 s)).num) (lb (4294967296) (qv (cut 700 s)).num) (lb (4294967296) (zd (↑(qv (cut 700 s)).den : Int)))) < 0) then some (.val (.bool false)) else (bif cn (4294967296) (sg (rq (sg (qv (cut 700 s)).num) (lb (4294967296) (qv (cut 700 s)).num) (lb (4294967296) (zd (↑(qv (cut 700 s)).den : Int)))).floor) (lb (4294967296) (rq (sg (qv (cut 700 s)).num) (lb (4294967296) (qv (cut 700 s)).num) (lb (4294967296) (zd (↑(qv (cut 700 s)).den : Int)))).floor) && true && fits (N (4294967296) (rq (sg (qv (cut 700 s)).num) (lb (4294967296) (qv (cut 700 s)).num) (lb (4294967296) (zd (↑(qv (cut 700 s)).den : Int)))).floor) && true then (bif cn (4294967296) false (lb (4294967296) (zd (↑(qv (cut 700 s)).den : Int))) then (bif decide (num (4294967296) false (lb (4294967296) (zd (↑(qv (cut 700 s)).den : Int))) = 0) then (bif cn (4294967296) (sg (rq (sg (qv (cut 700 s)).num) (lb (4294967296) (qv (cut 700 s)).num) (lb (4294967296) (zd (↑(qv (cut 700 s)).den : Int)))).floor) (lb (4294967296) (rq (sg (qv (cut 700 s)).num) (lb (4294967296) (qv (cut 700 s)).num) (lb (4294967296) (zd (↑(qv (cut 700 s)).den : Int)))).floor) && cn (4294967296) (sg (-(-rq (sg (qv (cut 700 s)).num) (lb (4294967296) (qv (cut 700 s)).num) (lb (4294967296) (zd (↑(qv (cut 700 s)).den : Int)))).floor)) (lb (4294967296) (-(-rq (sg (qv (cut 700 s)).num) (lb (4294967296) (qv (cut 700 s)).num) (lb (4294967296) (zd (↑(qv (cut 700 s)).den : Int)))).floor)) then (bif cmpZ (N (4294967296) (rq (sg (qv (cut 700 s)).num) (lb (4294967296) (qv (cut 700 s)).num) (lb (4294967296) (zd (↑(qv (cut 700 s)).den : Int)))).floor) (N (4294967296) (-(-rq (sg (qv (cut 700 s)).num) (lb (4294967296) (qv (cut 700 s)).num) (lb (4294967296) (zd (↑(qv (cut 700 s)).den : Int)))).floor)) == 0 then (bif cn (4294967296) (sg (rq (sg (qv (cut 700 s)).num) (lb (4294967296) (qv (cut 700 s)).num) (lb (4294967296) (zd (↑(qv (cut 700 s)).den : Int)))).floor) (lb (4294967296) (rq (sg (qv (cut 700 s)).num) (lb (4294967296) (qv (cut 700 s)).num) (lb (4294967296) (zd (↑(qv (cut 700 s)).den : Int)))).floor) && cn (4294967296) (sg (qv (cut 700 s)).num) (lb (4294967296) (qv (cut 700 s)).num) then some (.val (.bool (cmpZ (N (4294967296) (rq (sg (qv (cut 700 s)).num) (lb (4294967296) (qv (cut 700 s)).num) (lb (4294967296) (zd (↑(qv (cut 700 s)).den : Int)))).floor) (N (4294967296) (qv (cut 700 s)).num) == 0))) else none) else some (.val (.bool false))) else none) else (bif he (N (4294967296) (rq (sg (qv (cut 700 s)).num) (lb (4294967296) (qv (cut 700 s)).num) (lb (4294967296) (zd (↑(qv (cut 700 s)).den : Int)))).floor + num (4294967296) false (lb (4294967296) (1))) == 0 then (bif cn (4294967296) (sg (hz (N (4294967296) (rq (sg (qv (cut 700 s)).num) (lb (4294967296) (qv (cut 700 s)).num) (lb (4294967296) (zd (↑(qv (cut 700 s)).den : Int)))).floor + num (4294967296) false (lb (4294967296) (1))))) (lb (4294967296) (hz (N (4294967296) (rq (sg (qv (cut 700 s)).num) (lb (4294967296) (qv (cut 700 s)).num) (lb (4294967296) (zd (↑(qv (cut 700 s)).den : Int)))).floor + num (4294967296) false (lb (4294967296) (1))))) && cn (4294967296) (sg (-(-rq (sg (qv (cut 700 s)).num) (lb (4294967296) (qv (cut 700 s)).num) (lb (4294967296) (zd (↑(qv (cut 700 s)).den : Int)))).floor)) (lb (4294967296) (-(-rq (sg (qv (cut 700 s)).num) (lb (4294967296) (qv (cut 700 s)).num) (lb (4294967296) (zd (↑(qv (cut 700 s)).den : Int)))).floor)) then some (.val (.bool (cmpZ (N (4294967296) (hz (N (4294967296) (rq (sg (qv (cut 700 s)).num) (lb (4294967296) (qv (cut 700 s)).num) (lb (4294967296) (zd (↑(qv (cut 700 s)).den : Int)))).floor + num (4294967296) false (lb (4294967296) (1))))) (N (4294967296) (-(-rq (sg (qv (cut 700 s)).num) (lb (4294967296) (qv (cut 700 s)).num) (lb (4294967296) (zd (↑(qv (cut 700 s)).den : Int)))).floor)) == 0))) else none) else some (.val (.bool false)))) else none) else none)) else none)) else none)) else none) else none) else none) else none) else none) := by kernel_rfl
end KRounds
end
end Go.Abs
end
section
/- States and rounds of the statements of layer 2, as a program of this session printed them. -/
set_option maxRecDepth 10000
namespace Go.Abs
open Go.Proofs Go.Dig
noncomputable section
namespace KInverts
abbrev ans : Ans := [(14, anlAwake), (28, anqRat), (49, ansInv), (39, ansQSign), (50, ansQuo), (27, ansQText)]
abbrev orc : Orc := orcOf ans
theorem rest (s : ByteArray) : runT T orc (noTab) Try.f10 [.str s] =
    (bif isQ (sg (qv (cut 700 s)).num) (lb (4294967296) (qv (cut 700 s)).num) false (lb (4294967296) (zd (↑(qv (cut 700 s)).den : Int))) then (bif cn (4294967296) (sg (qv (cut 700 s)).num) (lb (4294967296) (qv (cut 700 s)).num) then (bif cmpZ (N (4294967296) (qv (cut 700 s)).num) (0) == 0 then some (.val (.bool (einv (rq (sg (qv (cut 700 s)).num) (lb (4294967296) (qv (cut 700 s)).num) (lb (4294967296) (zd (↑(qv (cut 700 s)).den : Int)))) == 12))) else (bif isQ (sg (rq (sg (qv (cut 700 s)).num) (lb (4294967296) (qv (cut 700 s)).num) (lb (4294967296) (zd (↑(qv (cut 700 s)).den : Int))))⁻¹.num) (lb (4294967296) (rq (sg (qv (cut 700 s)).num) (lb (4294967296) (qv (cut 700 s)).num) (lb (4294967296) (zd (↑(qv (cut 700 s)).den : Int))))⁻¹.num) false (lb (4294967296) (zd (↑(rq (sg (qv (cut 700 s)).num) (lb (4294967296) (qv (cut 700 s)).num) (lb (4294967296) (zd (↑(qv (cut 700 s)).den : Int))))⁻¹.den : Int))) then (bif isQ (sg (qv (cut 700 s)).num) (lb (4294967296) (qv (cut 700 s)).num) false (lb (4294967296) (zd (↑(qv (cut 700 s)).den : Int))) && isQ (sg (qv (cut 700 s)).num) (lb (4294967296) (qv (cut 700 s)).num) false (lb (4294967296) (zd (↑(qv (cut 700 s)).den : Int))) then (bif einv (rq (sg (qv (cut 700 s)).num) (lb (4294967296) (qv (cut 700 s)).num) (lb (4294967296) (zd (↑(qv (cut 700 s)).den : Int)))) == 0 then (bif einv (rq (sg (rq (sg (qv (cut 700 s)).num) (lb (4294967296) (qv (cut 700 s)).num) (lb (4294967296) (zd (↑(qv (cut 700 s)).den : Int))))⁻¹.num) (lb (4294967296) (rq (sg (qv (cut 700 s)).num) (lb (4294967296) (qv (cut 700 s)).num) (lb (4294967296) (zd (↑(qv (cut 700 s)).den : Int))))⁻¹.num) (lb (4294967296) (zd (↑(rq (sg (qv (cut 700 s)).num) (lb (4294967296) (qv (cut 700 s)).num) (lb (4294967296) (zd (↑(qv (cut 700 s)).den : Int))))⁻¹.den : Int)))) == 0 then (bif equo (rq (sg (qv (cut 700 s)).num) (lb (4294967296) (qv (cut 700 s)).num) (lb (4294967296) (zd (↑(qv (cut 700 s)).den : Int)))) (rq (sg (qv (cut 700 s)).num) (lb (4294967296) (qv (cut 700 s)).num) (lb (4294967296) (zd (↑(qv (cut 700 s)).den : Int)))) == 0 then (bif isQ (sg (rq (sg (rq (sg (qv (cut 700 s)).num) (lb (4294967296) (qv (cut 700 s)).num) (lb (4294967296) (zd (↑(qv (cut 700 s)).den : Int))))⁻¹.num) (lb (4294967296) (rq (sg (qv (cut 700 s)).num) (lb (4294967296) (qv (cut 700 s)).num) (lb (4294967296) (zd (↑(qv (cut 700 s)).den : Int))))⁻¹.num) (lb (4294967296) (zd (↑(rq (sg (qv (cut 700 s)).num) (lb (4294967296) (qv (cut 700 s)).num) (lb (4294967296) (zd (↑(qv (cut 700 s)).den : Int))))⁻¹.den : Int))))⁻¹.num) (lb (4294967296) (rq (sg (rq (sg (qv (cut 700 s)).num) (lb (4294967296) (qv (cut 700 s)).num) (lb (4294967296) (zd (↑(qv (cut 700 s)).den : Int))))⁻¹.num) (lb (4294967296) (rq (sg (qv (cut 700 s)).num) (lb (4294967296) (qv (cut 700 s)).num) (lb (4294967296) (zd (↑(qv (cut 700 s)).den : Int))))⁻¹.num) (lb (4294967296) (zd (↑(rq (sg (qv (cut 700 s)).num) (lb (4294967296) (qv (cut 700 s)).num) (lb (4294967296) (zd (↑(qv (cut 700 s)).den : Int))))⁻¹.den : Int))))⁻¹.num) false (lb (4294967296) (zd (↑(rq (sg (rq (sg (qv (cut 700 s)).num) (lb (4294967296) (qv (cut 700 s)).num) (lb (4294967296) (zd (↑(qv (cut 700 s)).den : Int))))⁻¹.num) (lb (4294967296) (rq (sg (qv (cut 700 s)).num) (lb (4294967296) (qv (cut 700 s)).num) (lb (4294967296) (zd (↑(qv (cut 700 s)).den : Int))))⁻¹.num) (lb (4294967296) (zd (↑(rq (sg (qv (cut 700 s)).num) (lb (4294967296) (qv (cut 700 s)).num) (lb (4294967296) (zd (↑(qv (cut 700 s)).den : Int))))⁻¹.den : Int))))⁻¹.den : Int))) then (bif isQ (sg (qv (cut 700 s)).num) (lb (4294967296) (qv (cut 700 s)).num) false (lb (4294967296) (zd (↑(qv (cut 700 s)).den : Int))) then (bif (qtxt (rq (sg (rq (sg (rq (sg (qv (cut 700 s)).num) (lb (4294967296) (qv (cut 700 s)).num) (lb (4294967296) (zd (↑(qv (cut 700 s)).den : Int))))⁻¹.num) (lb (4294967296) (rq (sg (qv (cut 700 s)).num) (lb (4294967296) (qv (cut 700 s)).num) (lb (4294967296) (zd (↑(qv (cut 700 s)).den : Int))))⁻¹.num) (lb (4294967296) (zd (↑(rq (sg (qv (cut 700 s)).num) (lb (4294967296) (qv (cut 700 s)).num) (lb (4294967296) (zd (↑(qv (cut 700 s)).den : Int))))⁻¹.den : Int))))⁻¹.num) (lb (4294967296) (rq (sg (rq (sg (qv (cut 700 s)).num) (lb (4294967296) (qv (cut 700 s)).num) (lb (4294967296) (zd (↑(qv (cut 700 s)).den : Int))))⁻¹.num) (lb (4294967296) (rq (sg (qv (cut 700 s)).num) (lb (4294967296) (qv (cut 700 s)).num) (lb (4294967296) (zd (↑(qv (cut 700 s)).den : Int))))⁻¹.num) (lb (4294967296) (zd (↑(rq (sg (qv (cut 700 s)).num) (lb (4294967296) (qv (cut 700 s)).num) (lb (4294967296) (zd (↑(qv (cut 700 s)).den : Int))))⁻¹.den : Int))))⁻¹.num) (lb (4294967296) (zd (↑(rq (sg (rq (sg (qv (cut 700 s)).num) (lb (4294967296) (qv (cut 700 s)).num) (lb (4294967296) (zd (↑(qv (cut 700 s)).den : Int))))⁻¹.num) (lb (4294967296) (rq (sg (qv (cut 700 s)).num) (lb (4294967296) (qv (cut 700 s)).num) (lb (4294967296) (zd (↑(qv (cut 700 s)).den : Int))))⁻¹.num) (lb (4294967296) (zd (↑(rq (sg (qv (cut 700 s)).num) (lb (4294967296) (qv (cut 700 s)).num) (lb (4294967296) (zd (↑(qv (cut 700 s)).den : Int))))⁻¹.den : Int))))⁻¹.den : Int))))).toList == (qtxt (rq (sg (qv (cut 700 s)).num) (lb (4294967296) (qv (cut 700 s)).num) (lb (4294967296) (zd (↑(qv (cut 700 s)).den : Int))))).toList then (bif isQ (sg (qquo (rq (sg (qv (cut 700 s)).num) (lb (4294967296) (qv (cut 700 s)).num) (lb (4294967296) (zd (↑(qv (cut 700 s)).den : Int)))) (rq (sg (qv (cut 700 s)).num) (lb (4294967296) (qv (cut 700 s)).num) (lb (4294967296) (zd (↑(qv (cut 700 s)).den : Int))))).num) (lb (4294967296) (qquo (rq (sg (qv (cut 700 s)).num) (lb (4294967296) (qv (cut 700 s)).num) (lb (4294967296) (zd (↑(qv (cut 700 s)).den : Int)))) (rq (sg (qv (cut 700 s)).num) (lb (4294967296) (qv (cut 700 s)).num) (lb (4294967296) (zd (↑(qv (cut 700 s)).den : Int))))).num) false (lb (4294967296) (zd (↑(qquo (rq (sg (qv (cut 700 s)).num) (lb (4294967296) (qv (cut 700 s)).num) (lb (4294967296) (zd (↑(qv (cut 700 s)).den : Int)))) (rq (sg (qv (cut 700 s)).num) (lb (4294967296) (qv (cut 700 s)).num) (lb (4294967296) (zd (↑(qv (cut 700 s)).den : Int))))).den : Int))) then some (.val (.bool ((qtxt (rq (sg (qquo (rq (sg (qv (cut 700 s)).num) (lb (4294967296) (qv (cut 700 s)).num) (lb (4294967296) (zd (↑(qv (cut 700 s)).den : Int)))) (rq (sg (qv (cut 700 s)).num) (lb (4294967296) (qv (cut 700 s)).num) (lb (4294967296) (zd (↑(qv (cut 700 s)).den : Int))))).num) (lb (4294967296) (qquo (rq (sg (qv (cut 700 s)).num) (lb (4294967296) (qv (cut 700 s)).num) (lb (4294967296) (zd (↑(qv (cut 700 s)).den : Int)))) (rq (sg (qv (cut 700 s)).num) (lb (4294967296) (qv (cut 700 s)).num) (lb (4294967296) (zd (↑(qv (cut 700 s)).den : Int))))).num) (lb (4294967296) (zd (↑(qquo (rq (sg (qv (cut 700 s)).num) (lb (4294967296) (qv (cut 700 s)).num) (lb (4294967296) (zd (↑(qv (cut 700 s)).den : Int)))) (rq (sg (qv (cut 700 s)).num) (lb (4294967296) (qv (cut 700 s)).num) (lb (4294967296) (zd (↑(qv (cut 700 s)).den : Int))))).den : Int))))).toList == [(49 : UInt8)]))) else none) else some (.val (.bool false))) else none) else none) else some (.val (.bool false))) else some (.val (.bool false))) else some (.val (.bool false))) else none) else none)) else none) else none) := by kernel_rfl
end KInverts
end
end Go.Abs
end
section
/- States and rounds of the statements of layer 2, as a program of this session printed them. -/
set_option maxRecDepth 10000
namespace Go.Abs
open Go.Proofs Go.Dig
noncomputable section
namespace KMiddles
abbrev ans : Ans := [(14, anlAwake), (28, anqRat), (29, ansQAdd), (50, ansQuo), (30, ansWhole), (47, ansFrom), (41, ansQCmp)]
abbrev orc : Orc := orcOf ans
theorem rest (s : ByteArray) (t : ByteArray) : runT T orc (noTab) Try.f12 [.str s, .str t] =
    (bif isQ (sg (qv (cut 700 s)).num) (lb (4294967296) (qv (cut 700 s)).num) false (lb (4294967296) (zd (↑(qv (cut 700 s)).den : Int))) && isQ (sg (qv (cut 700 t)).num) (lb (4294967296) (qv (cut 700 t)).num) false (lb (4294967296) (zd (↑(qv (cut 700 t)).den : Int))) then (bif isQ (sg (qadd (rq (sg (qv (cut 700 s)).num) (lb (4294967296) (qv (cut 700 s)).num) (lb (4294967296) (zd (↑(qv (cut 700 s)).den : Int)))) (rq (sg (qv (cut 700 t)).num) (lb (4294967296) (qv (cut 700 t)).num) (lb (4294967296) (zd (↑(qv (cut 700 t)).den : Int))))).num) (lb (4294967296) (qadd (rq (sg (qv (cut 700 s)).num) (lb (4294967296) (qv (cut 700 s)).num) (lb (4294967296) (zd (↑(qv (cut 700 s)).den : Int)))) (rq (sg (qv (cut 700 t)).num) (lb (4294967296) (qv (cut 700 t)).num) (lb (4294967296) (zd (↑(qv (cut 700 t)).den : Int))))).num) false (lb (4294967296) (zd (↑(qadd (rq (sg (qv (cut 700 s)).num) (lb (4294967296) (qv (cut 700 s)).num) (lb (4294967296) (zd (↑(qv (cut 700 s)).den : Int)))) (rq (sg (qv (cut 700 t)).num) (lb (4294967296) (qv (cut 700 t)).num) (lb (4294967296) (zd (↑(qv (cut 700 t)).den : Int))))).den : Int))) && isQ false (lb (4294967296) (2)) false [] then (bif eadd (rq (sg (qv (cut 700 s)).num) (lb (4294967296) (qv (cut 700 s)).num) (lb (4294967296) (zd (↑(qv (cut 700 s)).den : Int)))) (rq (sg (qv (cut 700 t)).num) (lb (4294967296) (qv (cut 700 t)).num) (lb (4294967296) (zd (↑(qv (cut 700 t)).den : Int)))) != 0 then some (.val (.bool true)) else (bif equo (rq (sg (qadd (rq (sg (qv (cut 700 s)).num) (lb (4294967296) (qv (cut 700 s)).num) (lb (4294967296) (zd (↑(qv (cut 700 s)).den : Int)))) (rq (sg (qv (cut 700 t)).num) (lb (4294967296) (qv (cut 700 t)).num) (lb (4294967296) (zd (↑(qv (cut 700 t)).den : Int))))).num) (lb (4294967296) (qadd (rq (sg (qv (cut 700 s)).num) (lb (4294967296) (qv (cut 700 s)).num) (lb (4294967296) (zd (↑(qv (cut 700 s)).den : Int)))) (rq (sg (qv (cut 700 t)).num) (lb (4294967296) (qv (cut 700 t)).num) (lb (4294967296) (zd (↑(qv (cut 700 t)).den : Int))))).num) (lb (4294967296) (zd (↑(qadd (rq (sg (qv (cut 700 s)).num) (lb (4294967296) (qv (cut 700 s)).num) (lb (4294967296) (zd (↑(qv (cut 700 s)).den : Int)))) (rq (sg (qv (cut 700 t)).num) (lb (4294967296) (qv (cut 700 t)).num) (lb (4294967296) (zd (↑(qv (cut 700 t)).den : Int))))).den : Int)))) (rq false (lb (4294967296) (2)) []) != 0 then some (.val (.bool true)) else (bif isQ (sg (qv (cut 700 s)).num) (lb (4294967296) (qv (cut 700 s)).num) false (lb (4294967296) (zd (↑(qv (cut 700 s)).den : Int))) && isQ (sg (qv (cut 700 t)).num) (lb (4294967296) (qv (cut 700 t)).num) false (lb (4294967296) (zd (↑(qv (cut 700 t)).den : Int))) then (bif isQ (sg (qv (cut 700 s)).num) (lb (4294967296) (qv (cut 700 s)).num) false (lb (4294967296) (zd (↑(qv (cut 700 s)).den : Int))) && isQ (sg (qquo (rq (sg (qadd (rq (sg (qv (cut 700 s)).num) (lb (4294967296) (qv (cut 700 s)).num) (lb (4294967296) (zd (↑(qv (cut 700 s)).den : Int)))) (rq (sg (qv (cut 700 t)).num) (lb (4294967296) (qv (cut 700 t)).num) (lb (4294967296) (zd (↑(qv (cut 700 t)).den : Int))))).num) (lb (4294967296) (qadd (rq (sg (qv (cut 700 s)).num) (lb (4294967296) (qv (cut 700 s)).num) (lb (4294967296) (zd (↑(qv (cut 700 s)).den : Int)))) (rq (sg (qv (cut 700 t)).num) (lb (4294967296) (qv (cut 700 t)).num) (lb (4294967296) (zd (↑(qv (cut 700 t)).den : Int))))).num) (lb (4294967296) (zd (↑(qadd (rq (sg (qv (cut 700 s)).num) (lb (4294967296) (qv (cut 700 s)).num) (lb (4294967296) (zd (↑(qv (cut 700 s)).den : Int)))) (rq (sg (qv (cut 700 t)).num) (lb (4294967296) (qv (cut 700 t)).num) (lb (4294967296) (zd (↑(qv (cut 700 t)).den : Int))))).den : Int)))) (rq false (lb (4294967296) (2)) [])).num) (lb (4294967296) (qquo (rq (sg (qadd (rq (sg (qv (cut 700 s)).num) (lb (4294967296) (qv (cut 700 s)).num) (lb (4294967296) (zd (↑(qv (cut 700 s)).den : Int)))) (rq (sg (qv (cut 700 t)).num) (lb (4294967296) (qv (cut 700 t)).num) (lb (4294967296) (zd (↑(qv (cut 700 t)).den : Int))))).num) (lb (4294967296) (qadd (rq (sg (qv (cut 700 s)).num) (lb (4294967296) (qv (cut 700 s)).num) (lb (4294967296) (zd (↑(qv (cut 700 s)).den : Int)))) (rq (sg (qv (cut 700 t)).num) (lb (4294967296) (qv (cut 700 t)).num) (lb (4294967296) (zd (↑(qv (cut 700 t)).den : Int))))).num) (lb (4294967296) (zd (↑(qadd (rq (sg (qv (cut 700 s)).num) (lb (4294967296) (qv (cut 700 s)).num) (lb (4294967296) (zd (↑(qv (cut 700 s)).den : Int)))) (rq (sg (qv (cut 700 t)).num) (lb (4294967296) (qv (cut 700 t)).num) (lb (4294967296) (zd (↑(qv (cut 700 t)).den : Int))))).den : Int)))) (rq false (lb (4294967296) (2)) [])).num) false (lb (4294967296) (zd (↑(qquo (rq (sg (qadd (rq (sg (qv (cut 700 s)).num) (lb (4294967296) (qv (cut 700 s)).num) (lb (4294967296) (zd (↑(qv (cut 700 s)).den : Int)))) (rq (sg (qv (cut 700 t)).num) (lb (4294967296) (qv (cut 700 t)).num) (lb (4294967296) (zd (↑(qv (cut 700 t)).den : Int))))).num) (lb (4294967296) (qadd (rq (sg (qv (cut 700 s)).num) (lb (4294967296) (qv (cut 700 s)).num) (lb (4294967296) (zd (↑(qv (cut 700 s)).den : Int)))) (rq (sg (qv (cut 700 t)).num) (lb (4294967296) (qv (cut 700 t)).num) (lb (4294967296) (zd (↑(qv (cut 700 t)).den : Int))))).num) (lb (4294967296) (zd (↑(qadd (rq (sg (qv (cut 700 s)).num) (lb (4294967296) (qv (cut 700 s)).num) (lb (4294967296) (zd (↑(qv (cut 700 s)).den : Int)))) (rq (sg (qv (cut 700 t)).num) (lb (4294967296) (qv (cut 700 t)).num) (lb (4294967296) (zd (↑(qv (cut 700 t)).den : Int))))).den : Int)))) (rq false (lb (4294967296) (2)) [])).den : Int))) then (bif cmpQ (rq (sg (qv (cut 700 s)).num) (lb (4294967296) (qv (cut 700 s)).num) (lb (4294967296) (zd (↑(qv (cut 700 s)).den : Int)))) (rq (sg (qquo (rq (sg (qadd (rq (sg (qv (cut 700 s)).num) (lb (4294967296) (qv (cut 700 s)).num) (lb (4294967296) (zd (↑(qv (cut 700 s)).den : Int)))) (rq (sg (qv (cut 700 t)).num) (lb (4294967296) (qv (cut 700 t)).num) (lb (4294967296) (zd (↑(qv (cut 700 t)).den : Int))))).num) (lb (4294967296) (qadd (rq (sg (qv (cut 700 s)).num) (lb (4294967296) (qv (cut 700 s)).num) (lb (4294967296) (zd (↑(qv (cut 700 s)).den : Int)))) (rq (sg (qv (cut 700 t)).num) (lb (4294967296) (qv (cut 700 t)).num) (lb (4294967296) (zd (↑(qv (cut 700 t)).den : Int))))).num) (lb (4294967296) (zd (↑(qadd (rq (sg (qv (cut 700 s)).num) (lb (4294967296) (qv (cut 700 s)).num) (lb (4294967296) (zd (↑(qv (cut 700 s)).den : Int)))) (rq (sg (qv (cut 700 t)).num) (lb (4294967296) (qv (cut 700 t)).num) (lb (4294967296) (zd (↑(qv (cut 700 t)).den : Int))))).den : Int)))) (rq false (lb (4294967296) (2)) [])).num) (lb (4294967296) (qquo (rq (sg (qadd (rq (sg (qv (cut 700 s)).num) (lb (4294967296) (qv (cut 700 s)).num) (lb (4294967296) (zd (↑(qv (cut 700 s)).den : Int)))) (rq (sg (qv (cut 700 t)).num) (lb (4294967296) (qv (cut 700 t)).num) (lb (4294967296) (zd (↑(qv (cut 700 t)).den : Int))))).num) (lb (4294967296) (qadd (rq (sg (qv (cut 700 s)).num) (lb (4294967296) (qv (cut 700 s)).num) (lb (4294967296) (zd (↑(qv (cut 700 s)).den : Int)))) (rq (sg (qv (cut 700 t)).num) (lb (4294967296) (qv (cut 700 t)).num) (lb (4294967296) (zd (↑(qv (cut 700 t)).den : Int))))).num) (lb (4294967296) (zd (↑(qadd (rq (sg (qv (cut 700 s)).num) (lb (4294967296) (qv (cut 700 s)).num) (lb (4294967296) (zd (↑(qv (cut 700 s)).den : Int)))) (rq (sg (qv (cut 700 t)).num) (lb (4294967296) (qv (cut 700 t)).num) (lb (4294967296) (zd (↑(qv (cut 700 t)).den : Int))))).den : Int)))) (rq false (lb (4294967296) (2)) [])).num) (lb (4294967296) (zd (↑(qquo (rq (sg (qadd (rq (sg (qv (cut 700 s)).num) (lb (4294967296) (qv (cut 700 s)).num) (lb (4294967296) (zd (↑(qv (cut 700 s)).den : Int)))) (rq (sg (qv (cut 700 t)).num) (lb (4294967296) (qv (cut 700 t)).num) (lb (4294967296) (zd (↑(qv (cut 700 t)).den : Int))))).num) (lb (4294967296) (qadd (rq (sg (qv (cut 700 s)).num) (lb (4294967296) (qv (cut 700 s)).num) (lb (4294967296) (zd (↑(qv (cut 700 s)).den : Int)))) (rq (sg (qv (cut 700 t)).num) (lb (4294967296) (qv (cut 700 t)).num) (lb (4294967296) (zd (↑(qv (cut 700 t)).den : Int))))).num) (lb (4294967296) (zd (↑(qadd (rq (sg (qv (cut 700 s)).num) (lb (4294967296) (qv (cut 700 s)).num) (lb (4294967296) (zd (↑(qv (cut 700 s)).den : Int)))) (rq (sg (qv (cut 700 t)).num) (lb (4294967296) (qv (cut 700 t)).num) (lb (4294967296) (zd (↑(qv (cut 700 t)).den : Int))))).den : Int)))) (rq false (lb (4294967296) (2)) [])).den : Int)))) == cmpQ (rq (sg (qv (cut 700 s)).num) (lb (4294967296) (qv (cut 700 s)).num) (lb (4294967296) (zd (↑(qv (cut 700 s)).den : Int)))) (rq (sg (qv (cut 700 t)).num) (lb (4294967296) (qv (cut 700 t)).num) (lb (4294967296) (zd (↑(qv (cut 700 t)).den : Int)))) then (bif isQ (sg (qquo (rq (sg (qadd (rq (sg (qv (cut 700 s)).num) (lb (4294967296) (qv (cut 700 s)).num) (lb (4294967296) (zd (↑(qv (cut 700 s)).den : Int)))) (rq (sg (qv (cut 700 t)).num) (lb (4294967296) (qv (cut 700 t)).num) (lb (4294967296) (zd (↑(qv (cut 700 t)).den : Int))))).num) (lb (4294967296) (qadd (rq (sg (qv (cut 700 s)).num) (lb (4294967296) (qv (cut 700 s)).num) (lb (4294967296) (zd (↑(qv (cut 700 s)).den : Int)))) (rq (sg (qv (cut 700 t)).num) (lb (4294967296) (qv (cut 700 t)).num) (lb (4294967296) (zd (↑(qv (cut 700 t)).den : Int))))).num) (lb (4294967296) (zd (↑(qadd (rq (sg (qv (cut 700 s)).num) (lb (4294967296) (qv (cut 700 s)).num) (lb (4294967296) (zd (↑(qv (cut 700 s)).den : Int)))) (rq (sg (qv (cut 700 t)).num) (lb (4294967296) (qv (cut 700 t)).num) (lb (4294967296) (zd (↑(qv (cut 700 t)).den : Int))))).den : Int)))) (rq false (lb (4294967296) (2)) [])).num) (lb (4294967296) (qquo (rq (sg (qadd (rq (sg (qv (cut 700 s)).num) (lb (4294967296) (qv (cut 700 s)).num) (lb (4294967296) (zd (↑(qv (cut 700 s)).den : Int)))) (rq (sg (qv (cut 700 t)).num) (lb (4294967296) (qv (cut 700 t)).num) (lb (4294967296) (zd (↑(qv (cut 700 t)).den : Int))))).num) (lb (4294967296) (qadd (rq (sg (qv (cut 700 s)).num) (lb (4294967296) (qv (cut 700 s)).num) (lb (4294967296) (zd (↑(qv (cut 700 s)).den : Int)))) (rq (sg (qv (cut 700 t)).num) (lb (4294967296) (qv (cut 700 t)).num) (lb (4294967296) (zd (↑(qv (cut 700 t)).den : Int))))).num) (lb (4294967296) (zd (↑(qadd (rq (sg (qv (cut 700 s)).num) (lb (4294967296) (qv (cut 700 s)).num) (lb (4294967296) (zd (↑(qv (cut 700 s)).den : Int)))) (rq (sg (qv (cut 700 t)).num) (lb (4294967296) (qv (cut 700 t)).num) (lb (4294967296) (zd (↑(qv (cut 700 t)).den : Int))))).den : Int)))) (rq false (lb (4294967296) (2)) [])).num) false (lb (4294967296) (zd (↑(qquo (rq (sg (qadd (rq (sg (qv (cut 700 s)).num) (lb (4294967296) (qv (cut 700 s)).num) (lb (4294967296) (zd (↑(qv (cut 700 s)).den : Int)))) (rq (sg (qv (cut 700 t)).num) (lb (4294967296) (qv (cut 700 t)).num) (lb (4294967296) (zd (↑(qv (cut 700 t)).den : Int))))).num) (lb (4294967296) (qadd (rq (sg (qv (cut 700 s)).num) (lb (4294967296) (qv (cut 700 s)).num) (lb (4294967296) (zd (↑(qv (cut 700 s)).den : Int)))) (rq (sg (qv (cut 700 t)).num) (lb (4294967296) (qv (cut 700 t)).num) (lb (4294967296) (zd (↑(qv (cut 700 t)).den : Int))))).num) (lb (4294967296) (zd (↑(qadd (rq (sg (qv (cut 700 s)).num) (lb (4294967296) (qv (cut 700 s)).num) (lb (4294967296) (zd (↑(qv (cut 700 s)).den : Int)))) (rq (sg (qv (cut 700 t)).num) (lb (4294967296) (qv (cut 700 t)).num) (lb (4294967296) (zd (↑(qv (cut 700 t)).den : Int))))).den : Int)))) (rq false (lb (4294967296) (2)) [])).den : Int))) && isQ (sg (qv (cut 700 t)).num) (lb (4294967296) (qv (cut 700 t)).num) false (lb (4294967296) (zd (↑(qv (cut 700 t)).den : Int))) then some (.val (.bool (cmpQ (rq (sg (qquo (rq (sg (qadd (rq (sg (qv (cut 700 s)).num) (lb (4294967296) (qv (cut 700 s)).num) (lb (4294967296) (zd (↑(qv (cut 700 s)).den : Int)))) (rq (sg (qv (cut 700 t)).num) (lb (4294967296) (qv (cut 700 t)).num) (lb (4294967296) (zd (↑(qv (cut 700 t)).den : Int))))).num) (lb (4294967296) (qadd (rq (sg (qv (cut 700 s)).num) (lb (4294967296) (qv (cut 700 s)).num) (lb (4294967296) (zd (↑(qv (cut 700 s)).den : Int)))) (rq (sg (qv (cut 700 t)).num) (lb (4294967296) (qv (cut 700 t)).num) (lb (4294967296) (zd (↑(qv (cut 700 t)).den : Int))))).num) (lb (4294967296) (zd (↑(qadd (rq (sg (qv (cut 700 s)).num) (lb (4294967296) (qv (cut 700 s)).num) (lb (4294967296) (zd (↑(qv (cut 700 s)).den : Int)))) (rq (sg (qv (cut 700 t)).num) (lb (4294967296) (qv (cut 700 t)).num) (lb (4294967296) (zd (↑(qv (cut 700 t)).den : Int))))).den : Int)))) (rq false (lb (4294967296) (2)) [])).num) (lb (4294967296) (qquo (rq (sg (qadd (rq (sg (qv (cut 700 s)).num) (lb (4294967296) (qv (cut 700 s)).num) (lb (4294967296) (zd (↑(qv (cut 700 s)).den : Int)))) (rq (sg (qv (cut 700 t)).num) (lb (4294967296) (qv (cut 700 t)).num) (lb (4294967296) (zd (↑(qv (cut 700 t)).den : Int))))).num) (lb (4294967296) (qadd (rq (sg (qv (cut 700 s)).num) (lb (4294967296) (qv (cut 700 s)).num) (lb (4294967296) (zd (↑(qv (cut 700 s)).den : Int)))) (rq (sg (qv (cut 700 t)).num) (lb (4294967296) (qv (cut 700 t)).num) (lb (4294967296) (zd (↑(qv (cut 700 t)).den : Int))))).num) (lb (4294967296) (zd (↑(qadd (rq (sg (qv (cut 700 s)).num) (lb (4294967296) (qv (cut 700 s)).num) (lb (4294967296) (zd (↑(qv (cut 700 s)).den : Int)))) (rq (sg (qv (cut 700 t)).num) (lb (4294967296) (qv (cut 700 t)).num) (lb (4294967296) (zd (↑(qv (cut 700 t)).den : Int))))).den : Int)))) (rq false (lb (4294967296) (2)) [])).num) (lb (4294967296) (zd (↑(qquo (rq (sg (qadd (rq (sg (qv (cut 700 s)).num) (lb (4294967296) (qv (cut 700 s)).num) (lb (4294967296) (zd (↑(qv (cut 700 s)).den : Int)))) (rq (sg (qv (cut 700 t)).num) (lb (4294967296) (qv (cut 700 t)).num) (lb (4294967296) (zd (↑(qv (cut 700 t)).den : Int))))).num) (lb (4294967296) (qadd (rq (sg (qv (cut 700 s)).num) (lb (4294967296) (qv (cut 700 s)).num) (lb (4294967296) (zd (↑(qv (cut 700 s)).den : Int)))) (rq (sg (qv (cut 700 t)).num) (lb (4294967296) (qv (cut 700 t)).num) (lb (4294967296) (zd (↑(qv (cut 700 t)).den : Int))))).num) (lb (4294967296) (zd (↑(qadd (rq (sg (qv (cut 700 s)).num) (lb (4294967296) (qv (cut 700 s)).num) (lb (4294967296) (zd (↑(qv (cut 700 s)).den : Int)))) (rq (sg (qv (cut 700 t)).num) (lb (4294967296) (qv (cut 700 t)).num) (lb (4294967296) (zd (↑(qv (cut 700 t)).den : Int))))).den : Int)))) (rq false (lb (4294967296) (2)) [])).den : Int)))) (rq (sg (qv (cut 700 t)).num) (lb (4294967296) (qv (cut 700 t)).num) (lb (4294967296) (zd (↑(qv (cut 700 t)).den : Int)))) == cmpQ (rq (sg (qv (cut 700 s)).num) (lb (4294967296) (qv (cut 700 s)).num) (lb (4294967296) (zd (↑(qv (cut 700 s)).den : Int)))) (rq (sg (qv (cut 700 t)).num) (lb (4294967296) (qv (cut 700 t)).num) (lb (4294967296) (zd (↑(qv (cut 700 t)).den : Int))))))) else none) else some (.val (.bool false))) else none) else none))) else none) else none) := by kernel_rfl
end KMiddles
end
end Go.Abs
end
section
/- States and rounds of the statements of layer 2, as a program of this session printed them. -/
set_option maxRecDepth 10000
namespace Go.Abs
open Go.Proofs Go.Dig
noncomputable section
namespace KMoves
abbrev ans : Ans := [(14, anlAwake), (28, anqRat), (29, ansQAdd), (30, ansWhole), (23, ansNum), (31, ansAdd), (32, ansFloor), (33, ansCeil), (34, ansCmp)]
abbrev orc : Orc := orcOf ans
theorem rest (s : ByteArray) (t : ByteArray) : runT T orc (noTab) Try.f5 [.str s, .str t] =
    (bif isQ (sg (qv (cut 700 s)).num) (lb (4294967296) (qv (cut 700 s)).num) false (lb (4294967296) (zd (↑(qv (cut 700 s)).den : Int))) && isQ (sg (qv (cut 700 t)).num) (lb (4294967296) (qv (cut 700 t)).num) false [] then (bif isQ (sg (qv (cut 700 s)).num) (lb (4294967296) (qv (cut 700 s)).num) false (lb (4294967296) (zd (↑(qv (cut 700 s)).den : Int))) then (bif cn (4294967296) (sg (rq (sg (qv (cut 700 s)).num) (lb (4294967296) (qv (cut 700 s)).num) (lb (4294967296) (zd (↑(qv (cut 700 s)).den : Int)))).floor) (lb (4294967296) (rq (sg (qv (cut 700 s)).num) (lb (4294967296) (qv (cut 700 s)).num) (lb (4294967296) (zd (↑(qv (cut 700 s)).den : Int)))).floor) && cn (4294967296) (sg (qv (cut 700 t)).num) (lb (4294967296) (qv (cut 700 t)).num) && fits (N (4294967296) (rq (sg (qv (cut 700 s)).num) (lb (4294967296) (qv (cut 700 s)).num) (lb (4294967296) (zd (↑(qv (cut 700 s)).den : Int)))).floor) && fits (N (4294967296) (qv (cut 700 t)).num) then (bif isQ (sg (qv (cut 700 s)).num) (lb (4294967296) (qv (cut 700 s)).num) false (lb (4294967296) (zd (↑(qv (cut 700 s)).den : Int))) then (bif cn (4294967296) (sg (-(-rq (sg (qv (cut 700 s)).num) (lb (4294967296) (qv (cut 700 s)).num) (lb (4294967296) (zd (↑(qv (cut 700 s)).den : Int)))).floor)) (lb (4294967296) (-(-rq (sg (qv (cut 700 s)).num) (lb (4294967296) (qv (cut 700 s)).num) (lb (4294967296) (zd (↑(qv (cut 700 s)).den : Int)))).floor)) && cn (4294967296) (sg (qv (cut 700 t)).num) (lb (4294967296) (qv (cut 700 t)).num) && fits (N (4294967296) (-(-rq (sg (qv (cut 700 s)).num) (lb (4294967296) (qv (cut 700 s)).num) (lb (4294967296) (zd (↑(qv (cut 700 s)).den : Int)))).floor)) && fits (N (4294967296) (qv (cut 700 t)).num) then (bif eadd (rq (sg (qv (cut 700 s)).num) (lb (4294967296) (qv (cut 700 s)).num) (lb (4294967296) (zd (↑(qv (cut 700 s)).den : Int)))) (rq (sg (qv (cut 700 t)).num) (lb (4294967296) (qv (cut 700 t)).num) []) != 0 then some (.val (.bool true)) else (bif he (N (4294967296) (rq (sg (qv (cut 700 s)).num) (lb (4294967296) (qv (cut 700 s)).num) (lb (4294967296) (zd (↑(qv (cut 700 s)).den : Int)))).floor + N (4294967296) (qv (cut 700 t)).num) != 0 then some (.val (.bool true)) else (bif he (N (4294967296) (-(-rq (sg (qv (cut 700 s)).num) (lb (4294967296) (qv (cut 700 s)).num) (lb (4294967296) (zd (↑(qv (cut 700 s)).den : Int)))).floor) + N (4294967296) (qv (cut 700 t)).num) != 0 then some (.val (.bool true)) else (bif isQ (sg (qadd (rq (sg (qv (cut 700 s)).num) (lb (4294967296) (qv (cut 700 s)).num) (lb (4294967296) (zd (↑(qv (cut 700 s)).den : Int)))) (rq (sg (qv (cut 700 t)).num) (lb (4294967296) (qv (cut 700 t)).num) [])).num) (lb (4294967296) (qadd (rq (sg (qv (cut 700 s)).num) (lb (4294967296) (qv (cut 700 s)).num) (lb (4294967296) (zd (↑(qv (cut 700 s)).den : Int)))) (rq (sg (qv (cut 700 t)).num) (lb (4294967296) (qv (cut 700 t)).num) [])).num) false (lb (4294967296) (zd (↑(qadd (rq (sg (qv (cut 700 s)).num) (lb (4294967296) (qv (cut 700 s)).num) (lb (4294967296) (zd (↑(qv (cut 700 s)).den : Int)))) (rq (sg (qv (cut 700 t)).num) (lb (4294967296) (qv (cut 700 t)).num) [])).den : Int))) then (bif cn (4294967296) (sg (rq (sg (qadd (rq (sg (qv (cut 700 s)).num) (lb (4294967296) (qv (cut 700 s)).num) (lb (4294967296) (zd (↑(qv (cut 700 s)).den : Int)))) (rq (sg (qv (cut 700 t)).num) (lb (4294967296) (qv (cut 700 t)).num) [])).num) (lb (4294967296) (qadd (rq (sg (qv (cut 700 s)).num) (lb (4294967296) (qv (cut 700 s)).num) (lb (4294967296) (zd (↑(qv (cut 700 s)).den : Int)))) (rq (sg (qv (cut 700 t)).num) (lb (4294967296) (qv (cut 700 t)).num) [])).num) (lb (4294967296) (zd (↑(qadd (rq (sg (qv (cut 700 s)).num) (lb (4294967296) (qv (cut 700 s)).num) (lb (4294967296) (zd (↑(qv (cut 700 s)).den : Int)))) (rq (sg (qv (cut 700 t)).num) (lb (4294967296) (qv (cut 700 t)).num) [])).den : Int)))).floor) (lb (4294967296) (rq (sg (qadd (rq (sg (qv (cut 700 s)).num) (lb (4294967296) (qv (cut 700 s)).num) (lb (4294967296) (zd (↑(qv (cut 700 s)).den : Int)))) (rq (sg (qv (cut 700 t)).num) (lb (4294967296) (qv (cut 700 t)).num) [])).num) (lb (4294967296) (qadd (rq (sg (qv (cut 700 s)).num) (lb (4294967296) (qv (cut 700 s)).num) (lb (4294967296) (zd (↑(qv (cut 700 s)).den : Int)))) (rq (sg (qv (cut 700 t)).num) (lb (4294967296) (qv (cut 700 t)).num) [])).num) (lb (4294967296) (zd (↑(qadd (rq (sg (qv (cut 700 s)).num) (lb (4294967296) (qv (cut 700 s)).num) (lb (4294967296) (zd (↑(qv (cut 700 s)).den : Int)))) (rq (sg (qv (cut 700 t)).num) (lb (4294967296) (qv (cut 700 t)).num) [])).den : Int)))).floor) && cn (4294967296) (sg (hz (N (4294967296) (rq (sg (qv (cut 700 s)).num) (lb (4294967296) (qv (cut 700 s)).num) (lb (4294967296) (zd (↑(qv (cut 700 s)).den : Int)))).floor + N (4294967296) (qv (cut 700 t)).num))) (lb (4294967296) (hz (N (4294967296) (rq (sg (qv (cut 700 s)).num) (lb (4294967296) (qv (cut 700 s)).num) (lb (4294967296) (zd (↑(qv (cut 700 s)).den : Int)))).floor + N (4294967296) (qv (cut 700 t)).num))) then (bif cmpZ (N (4294967296) (rq (sg (qadd (rq (sg (qv (cut 700 s)).num) (lb (4294967296) (qv (cut 700 s)).num) (lb (4294967296) (zd (↑(qv (cut 700 s)).den : Int)))) (rq (sg (qv (cut 700 t)).num) (lb (4294967296) (qv (cut 700 t)).num) [])).num) (lb (4294967296) (qadd (rq (sg (qv (cut 700 s)).num) (lb (4294967296) (qv (cut 700 s)).num) (lb (4294967296) (zd (↑(qv (cut 700 s)).den : Int)))) (rq (sg (qv (cut 700 t)).num) (lb (4294967296) (qv (cut 700 t)).num) [])).num) (lb (4294967296) (zd (↑(qadd (rq (sg (qv (cut 700 s)).num) (lb (4294967296) (qv (cut 700 s)).num) (lb (4294967296) (zd (↑(qv (cut 700 s)).den : Int)))) (rq (sg (qv (cut 700 t)).num) (lb (4294967296) (qv (cut 700 t)).num) [])).den : Int)))).floor) (N (4294967296) (hz (N (4294967296) (rq (sg (qv (cut 700 s)).num) (lb (4294967296) (qv (cut 700 s)).num) (lb (4294967296) (zd (↑(qv (cut 700 s)).den : Int)))).floor + N (4294967296) (qv (cut 700 t)).num))) == 0 then (bif isQ (sg (qadd (rq (sg (qv (cut 700 s)).num) (lb (4294967296) (qv (cut 700 s)).num) (lb (4294967296) (zd (↑(qv (cut 700 s)).den : Int)))) (rq (sg (qv (cut 700 t)).num) (lb (4294967296) (qv (cut 700 t)).num) [])).num) (lb (4294967296) (qadd (rq (sg (qv (cut 700 s)).num) (lb (4294967296) (qv (cut 700 s)).num) (lb (4294967296) (zd (↑(qv (cut 700 s)).den : Int)))) (rq (sg (qv (cut 700 t)).num) (lb (4294967296) (qv (cut 700 t)).num) [])).num) false (lb (4294967296) (zd (↑(qadd (rq (sg (qv (cut 700 s)).num) (lb (4294967296) (qv (cut 700 s)).num) (lb (4294967296) (zd (↑(qv (cut 700 s)).den : Int)))) (rq (sg (qv (cut 700 t)).num) (lb (4294967296) (qv (cut 700 t)).num) [])).den : Int))) then (bif cn (4294967296) (sg (-(-rq (sg (qadd (rq (sg (qv (cut 700 s)).num) (lb (4294967296) (qv (cut 700 s)).num) (lb (4294967296) (zd (↑(qv (cut 700 s)).den : Int)))) (rq (sg (qv (cut 700 t)).num) (lb (4294967296) (qv (cut 700 t)).num) [])).num) (lb (4294967296) (qadd (rq (sg (qv (cut 700 s)).num) (lb (4294967296) (qv (cut 700 s)).num) (lb (4294967296) (zd (↑(qv (cut 700 s)).den : Int)))) (rq (sg (qv (cut 700 t)).num) (lb (4294967296) (qv (cut 700 t)).num) [])).num) (lb (4294967296) (zd (↑(qadd (rq (sg (qv (cut 700 s)).num) (lb (4294967296) (qv (cut 700 s)).num) (lb (4294967296) (zd (↑(qv (cut 700 s)).den : Int)))) (rq (sg (qv (cut 700 t)).num) (lb (4294967296) (qv (cut 700 t)).num) [])).den : Int)))).floor)) (lb (4294967296) (-(-rq (sg (qadd (rq (sg (qv (cut 700 s)).num) (lb (4294967296) (qv (cut 700 s)).num) (lb (4294967296) (zd (↑(qv (cut 700 s)).den : Int)))) (rq (sg (qv (cut 700 t)).num) (lb (4294967296) (qv (cut 700 t)).num) [])).num) (lb (4294967296) (qadd (rq (sg (qv (cut 700 s)).num) (lb (4294967296) (qv (cut 700 s)).num) (lb (4294967296) (zd (↑(qv (cut 700 s)).den : Int)))) (rq (sg (qv (cut 700 t)).num) (lb (4294967296) (qv (cut 700 t)).num) [])).num) (lb (4294967296) (zd (↑(qadd (rq (sg (qv (cut 700 s)).num) (lb (4294967296) (qv (cut 700 s)).num) (lb (4294967296) (zd (↑(qv (cut 700 s)).den : Int)))) (rq (sg (qv (cut 700 t)).num) (lb (4294967296) (qv (cut 700 t)).num) [])).den : Int)))).floor)) && cn (4294967296) (sg (hz (N (4294967296) (-(-rq (sg (qv (cut 700 s)).num) (lb (4294967296) (qv (cut 700 s)).num) (lb (4294967296) (zd (↑(qv (cut 700 s)).den : Int)))).floor) + N (4294967296) (qv (cut 700 t)).num))) (lb (4294967296) (hz (N (4294967296) (-(-rq (sg (qv (cut 700 s)).num) (lb (4294967296) (qv (cut 700 s)).num) (lb (4294967296) (zd (↑(qv (cut 700 s)).den : Int)))).floor) + N (4294967296) (qv (cut 700 t)).num))) then some (.val (.bool (cmpZ (N (4294967296) (-(-rq (sg (qadd (rq (sg (qv (cut 700 s)).num) (lb (4294967296) (qv (cut 700 s)).num) (lb (4294967296) (zd (↑(qv (cut 700 s)).den : Int)))) (rq (sg (qv (cut 700 t)).num) (lb (4294967296) (qv (cut 700 t)).num) [])).num) (lb (4294967296) (qadd (rq (sg (qv (cut 700 s)).num) (lb (4294967296) (qv (cut 700 s)).num) (lb (4294967296) (zd (↑(qv (cut 700 s)).den : Int)))) (rq (sg (qv (cut 700 t)).num) (lb (4294967296) (qv (cut 700 t)).num) [])).num) (lb (4294967296) (zd (↑(qadd (rq (sg (qv (cut 700 s)).num) (lb (4294967296) (qv (cut 700 s)).num) (lb (4294967296) (zd (↑(qv (cut 700 s)).den : Int)))) (rq (sg (qv (cut 700 t)).num) (lb (4294967296) (qv (cut 700 t)).num) [])).den : Int)))).floor)) (N (4294967296) (hz (N (4294967296) (-(-rq (sg (qv (cut 700 s)).num) (lb (4294967296) (qv (cut 700 s)).num) (lb (4294967296) (zd (↑(qv (cut 700 s)).den : Int)))).floor) + N (4294967296) (qv (cut 700 t)).num))) == 0))) else none) else none) else some (.val (.bool false))) else none) else none)))) else none) else none) else none) else none) else none) := by kernel_rfl
end KMoves
end
end Go.Abs
end
section
/- The statements of layer 2: rounding, moving. -/
namespace Go.Abs
open Go.Proofs Go.Dig
theorem cmpQ_self (x : Rat) : cmpQ x x = 0 := by rw [cmpQ_eq]; exact cmpZ_self _
theorem cmpQ_lt {x y : Rat} (h : x < y) : cmpQ x y = -1 := by rw [cmpQ_eq]; exact cmpZ_of_lt ((Rat.lt_iff x y).1 h)
theorem cmpQ_gt {x y : Rat} (h : y < x) : cmpQ x y = 1 := by rw [cmpQ_eq]; exact cmpZ_of_gt ((Rat.lt_iff y x).1 h)
theorem cmpQ_tri (x y : Rat) : (x < y ∧ cmpQ x y = -1) ∨ (x = y ∧ cmpQ x y = 0) ∨ (y < x ∧ cmpQ x y = 1) := by
  by_cases h : x < y
  · exact .inl ⟨h, cmpQ_lt h⟩
  · by_cases h2 : y < x
    · exact .inr (.inr ⟨h2, cmpQ_gt h2⟩)
    · have e : x = y := by grind
      subst e
      exact .inr (.inl ⟨rfl, cmpQ_self x⟩)
theorem floor_ceil {x : Rat} : (x = (x.floor : Rat) ∧ -(-x).floor = x.floor) ∨ (x ≠ (x.floor : Rat) ∧ -(-x).floor = x.floor + 1) := by
  have h1 := Rat.floor_le x
  have h2 := Rat.lt_floor_add_one x
  have h3 := Rat.floor_le (-x)
  have h4 := Rat.lt_floor_add_one (-x)
  generalize x.floor = f at *
  generalize (-x).floor = g at *
  by_cases h : x = (f : Rat)
  · refine .inl ⟨h, ?_⟩
    subst h
    have a1 : ((g : Int) : Rat) ≤ ((-f : Int) : Rat) := by grind
    have a2 : ((-f : Int) : Rat) < ((g + 1 : Int) : Rat) := by grind
    have b1 := Rat.intCast_le_intCast.1 a1
    have b2 := Rat.intCast_lt_intCast.1 a2
    omega
  · refine .inr ⟨h, ?_⟩
    have a1 : ((f : Int) : Rat) < ((-g : Int) : Rat) := by grind
    have a2 : ((-g : Int) : Rat) < ((f + 2 : Int) : Rat) := by grind
    have b1 := Rat.intCast_lt_intCast.1 a1
    have b2 := Rat.intCast_lt_intCast.1 a2
    omega
theorem le_ceil' (x : Rat) : x ≤ ((-(-x).floor : Int) : Rat) := by
  have h3 := Rat.floor_le (-x)
  generalize (-x).floor = g at *
  grind
theorem den_one {x : Rat} : x.den = 1 ↔ x = (x.floor : Rat) := by
  constructor
  · intro h
    have : x.floor = x.num := by rw [Rat.floor_def, h]; exact Int.ediv_one _
    rw [this]
    exact Rat.ext rfl h
  · intro h; rw [h]; rfl
theorem whole_zd (x : Rat) : decide (zd x.den = 0) = decide (x.den = 1) := by
  rw [decide_eq_decide, zd_zero (den_pos' x)]; omega
theorem law_qrounds : Meets Try.prog 9 (fun a => match a with | [.str _] => some (true, .val (.bool true)) | _ => none) := by
  refine meets_fn (orc_ok (l := KRounds.ans) ⟨meets_kawake, meets_qrat, meets_floor, meets_ceil, meets_text, meets_rshow, meets_mfloor, meets_qcmp, meets_whole, meets_add, meets_from, meets_iswhole, meets_cmp, meets_qnum, trivial⟩) Try.f9 rfl (by kernel_rfl) (fun args r h => ?_)
  split at h
  · rename_i s
    simp only [Option.some.injEq, Prod.mk.injEq] at h
    obtain ⟨_, rfl⟩ := h
    refine ⟨rfl, _, noTab_all, (KRounds.rest s).trans ?_⟩
    have hf := fitsQ_qv (cut 700 s)
    generalize qv (cut 700 s) = x at *
    have fl := floor_le_fits hf
    have fc := floor_le_fits (fitsQ_neg hf)
    have f1 : num 4294967296 false (lb 4294967296 1) = 1 := n1W
    simp only [isQ_Q, isM_zd hf, hf, rq_Q, rm_zd hf, cn_zd hf, num_zd, cn_nm hf, num_lbW, N_eq, N10_eq, cnW, cn10, fit_lim fl, fit_lim (fits_neg fc), isQ_whole, rq_whole, fitsQ_cast fl, fitsQ_cast (fits_neg fc), txt_beq, f1, fl, fits_1, fits_hz, decide_eq_true (small_hz _), decide_true, Bool.and_self, Bool.not_true, cond_true, cond_false]
    have c1 : decide (cmpQ (x.floor : Rat) x > 0) = false := by
      rw [decide_eq_false_iff_not]
      rcases cmpQ_tri (x.floor : Rat) x with ⟨_, h⟩ | ⟨_, h⟩ | ⟨h0, h⟩
      · omega
      · omega
      · have := Rat.floor_le x; grind
    have c2 : decide (cmpQ ((-(-x).floor : Int) : Rat) x < 0) = false := by
      rw [decide_eq_false_iff_not]
      rcases cmpQ_tri ((-(-x).floor : Int) : Rat) x with ⟨h0, h⟩ | ⟨_, h⟩ | ⟨h0, h⟩
      · have := le_ceil' x; grind
      · omega
      · omega
    rw [c1, c2, cond_false, cond_false, whole_zd]
    rcases floor_ceil (x := x) with ⟨h, hc⟩ | ⟨h, hc⟩
    · have hd := den_one.2 h
      have hn : x.num = x.floor := by rw [Rat.floor_def, hd]; exact (Int.ediv_one _).symm
      rw [decide_eq_true hd, hc, hn, cmpZ_self]
      rfl
    · have hd : ¬ x.den = 1 := fun h0 => h (den_one.1 h0)
      have hfc := fits_neg fc
      rw [hc] at hfc
      rw [decide_eq_false hd, hc, he_fits hfc, hz_of hfc, cmpZ_self]
      rfl
  · cases h
theorem law_qinverts : Meets Try.prog 10 (fun a => match a with | [.str _] => some (true, .val (.bool true)) | _ => none) := by
  refine meets_fn (orc_ok (l := KInverts.ans) ⟨meets_kawake, meets_qrat, meets_inv, meets_qsign, meets_quo meets_qmul, meets_qtext, trivial⟩) Try.f10 rfl (by kernel_rfl) (fun args r h => ?_)
  split at h
  · rename_i s
    simp only [Option.some.injEq, Prod.mk.injEq] at h
    obtain ⟨_, rfl⟩ := h
    refine ⟨rfl, _, noTab_all, (KInverts.rest s).trans ?_⟩
    have hf := fitsQ_qv (cut 700 s)
    generalize qv (cut 700 s) = x at *
    simp only [isQ_Q, hf, rq_Q, cn_nm hf, num_lbW, fitsQ_inv hf, fitsQ_inv (fitsQ_inv hf), fitsQ_qquo, Rat.inv_inv, qtxt_beq, decide_true, Bool.and_self, Bool.not_true, cond_true, cond_false]
    by_cases h0 : x = 0
    · subst h0
      have e0 : einv (0 : Rat) = 12 := by rw [einv_eq]; rfl
      rw [e0]
      rfl
    · have hn : x.num ≠ 0 := fun h => h0 (Rat.num_eq_zero.1 h)
      have hi : x⁻¹ ≠ 0 := fun h => h0 (by rw [← Rat.inv_inv x, h, Rat.inv_zero])
      have hin : x⁻¹.num ≠ 0 := fun h => hi (Rat.num_eq_zero.1 h)
      have e1 : einv x = 0 := by rw [einv_eq]; unfold dc; rw [if_neg hn]
      have e2 : einv x⁻¹ = 0 := by rw [einv_eq]; unfold dc; rw [if_neg hin]
      have h1 := Rat.mul_inv_cancel x h0
      have one_fits : fitsQ (1 : Rat) = true := by rw [fitsQ_eq]; kernel_rfl
      have e3 : equo x x = 0 ∧ qquo x x = 1 := by
        rcases equo_cases x x with ⟨h, _⟩ | ⟨_, h2, h3⟩
        · exact absurd h h0
        · rw [h2, h3]
          rcases emul_cases x x⁻¹ with ⟨k1, _, k3⟩ | ⟨_, k2, _⟩
          · exact ⟨k1, by rw [k3, h1]⟩
          · rw [h1, one_fits] at k2; cases k2
      have t1 : ((qtxt 1).toList == [49]) = true := by rw [qtxt_eq]; kernel_rfl
      rw [cmp0, decide_eq_false hn, e1, e2, e3.1, e3.2, t1]
      rfl
  · cases h
theorem law_qmiddles : Meets Try.prog 12 (fun a => match a with | [.str _, .str _] => some (true, .val (.bool true)) | _ => none) := by
  refine meets_fn (orc_ok (l := KMiddles.ans) ⟨meets_kawake, meets_qrat, meets_qadd, meets_quo meets_qmul, meets_whole, meets_from, meets_qcmp, trivial⟩) Try.f12 rfl (by kernel_rfl) (fun args r h => ?_)
  split at h
  · rename_i s t
    simp only [Option.some.injEq, Prod.mk.injEq] at h
    obtain ⟨_, rfl⟩ := h
    refine ⟨rfl, _, noTab_all, (KMiddles.rest s t).trans ?_⟩
    have hf := fitsQ_qv (cut 700 s)
    have hg := fitsQ_qv (cut 700 t)
    generalize qv (cut 700 s) = x at *
    generalize qv (cut 700 t) = y at *
    simp only [isQ_Q, hf, hg, rq_Q, rq_two, isQ_two, fitsQ_qadd hf hg, fitsQ_qquo, decide_true, Bool.and_self, Bool.not_true, cond_true, cond_false]
    by_cases a1 : eadd x y = 0
    · refine (bF (eq_b a1)).trans ?_
      rw [qadd_ok a1]
      by_cases a2 : equo (x + y) 2 = 0
      · refine (bF (eq_b a2)).trans ?_
        have hh : qquo (x + y) 2 = (x + y) * 2⁻¹ := by
          rw [qquo_eq, a2]; rfl
        rw [hh]
        rcases cmpQ_tri x y with ⟨h, hc⟩ | ⟨h, hc⟩ | ⟨h, hc⟩
        · rw [hc, cmpQ_lt (show x < (x + y) * 2⁻¹ by grind), cmpQ_lt (show (x + y) * 2⁻¹ < y by grind)]
          rfl
        · subst h
          rw [show (x + x) * 2⁻¹ = x by grind, hc]
          rfl
        · rw [hc, cmpQ_gt (show (x + y) * 2⁻¹ < x by grind), cmpQ_gt (show y < (x + y) * 2⁻¹ by grind)]
          rfl
      · exact bT (ne_b a2)
    · exact bT (ne_b a1)
  · cases h
theorem law_qmoves : Meets Try.prog 5 (fun a => match a with | [.str _, .str _] => some (true, .val (.bool true)) | _ => none) := by
  refine meets_fn (orc_ok (l := KMoves.ans) ⟨meets_kawake, meets_qrat, meets_qadd, meets_whole, meets_qnum, meets_add, meets_floor, meets_ceil, meets_cmp, trivial⟩) Try.f5 rfl (by kernel_rfl) (fun args r h => ?_)
  split at h
  · rename_i s t
    simp only [Option.some.injEq, Prod.mk.injEq] at h
    obtain ⟨_, rfl⟩ := h
    refine ⟨rfl, _, noTab_all, (KMoves.rest s t).trans ?_⟩
    have hf := fitsQ_qv (cut 700 s)
    have hg := fitsQ_qv (cut 700 t)
    generalize qv (cut 700 s) = x at *
    generalize qv (cut 700 t) = y at *
    have hn := (fitsQ_iff.1 hg).1
    have fl := floor_le_fits hf
    have fc := fits_neg (floor_le_fits (fitsQ_neg hf))
    have hs := fitsQ_qadd hf (fitsQ_cast hn)
    have gl := floor_le_fits hs
    have gc := fits_neg (floor_le_fits (fitsQ_neg hs))
    simp only [isQ_Q, hf, hg, rq_Q, isQ_whole, rq_whole, fitsQ_cast hn, hs, cnW, num_lbW, N_eq, hn, fl, fc, fit_lim hn, fit_lim fl, fit_lim fc, fit_lim gl, fit_lim gc, decide_eq_true (small_hz _), decide_true, Bool.and_self, Bool.not_true, cond_true, cond_false]
    by_cases a1 : eadd x (y.num : Rat) = 0
    · refine (bF (eq_b a1)).trans ?_
      rw [qadd_ok a1]
      by_cases a2 : he (x.floor + y.num) = 0
      · refine (bF (eq_b a2)).trans ?_
        by_cases a3 : he (-(-x).floor + y.num) = 0
        · refine (bF (eq_b a3)).trans ?_
          have e1 : (x + (y.num : Rat)).floor = x.floor + y.num := Rat.floor_add_intCast
          have e2 : -(-(x + (y.num : Rat))).floor = -(-x).floor + y.num := by
            have : -(x + (y.num : Rat)) = -x + ((-y.num : Int) : Rat) := by grind
            rw [this, Rat.floor_add_intCast]
            omega
          rw [hz_he a2, hz_he a3, e1, e2, cmpZ_self, cmpZ_self]
          rfl
        · exact bT (ne_b a3)
      · exact bT (ne_b a2)
    · exact bT (ne_b a1)
  · cases h
end Go.Abs
end
section
/- The statements of layer 1: common divisors. -/
namespace Go.Abs
open Go.Proofs Go.Dig
theorem gz_law {x y : Int} (h : x ≠ 0 ∨ y ≠ 0) : 0 < gz x y ∧ dr x (gz x y) = 0 ∧ dr y (gz x y) = 0 ∧ gz (dq x (gz x y)) (dq y (gz x y)) = 1 := by
  have hp : 0 < Int.gcd x y := Nat.pos_of_ne_zero (fun h0 => by rw [Int.gcd_eq_zero_iff] at h0; omega)
  have d1 : (Int.gcd x y : Int) ∣ x := Int.gcd_dvd_left ..
  have d2 : (Int.gcd x y : Int) ∣ y := Int.gcd_dvd_right ..
  have hq := Int.gcd_ediv_gcd_ediv_gcd hp
  unfold gz dr dq
  rw [if_neg (by omega), if_neg (by omega), if_neg (by omega), if_neg (by omega), Int.fdiv_eq_ediv_of_nonneg _ (by omega), Int.fdiv_eq_ediv_of_nonneg _ (by omega), hq]
  exact ⟨by omega, Int.fmod_eq_zero_of_dvd d1, Int.fmod_eq_zero_of_dvd d2, rfl⟩
end Go.Abs
end
section
/- States and rounds of the statements of layer 1, as a program of this session printed them (7). -/
set_option maxRecDepth 10000
namespace Go.Abs
open Go.Proofs Go.Dig
end Go.Abs
end
section
/- States and rounds of the statements of layer 1, as a program of this session printed them (8). -/
set_option maxRecDepth 10000
namespace Go.Abs
open Go.Proofs Go.Dig
end Go.Abs
end
section
/- The statements of layer 1: sums of lists. -/
namespace Go.Abs
open Go.Proofs Go.Dig
def isS : List AV → Bool
  | [.str _] => true
  | _ => false
theorem isS_map : ∀ {r : List (List AV)}, r.all isS = true → ∃ ss : List ByteArray, r = ss.map (fun s => [.str s])
  | [], _ => ⟨[], rfl⟩
  | c :: r, h => by
    rw [List.all_cons, Bool.and_eq_true] at h
    obtain ⟨ss, rfl⟩ := isS_map h.2
    have h1 := h.1
    unfold isS at h1
    split at h1
    · rename_i s; exact ⟨s :: ss, rfl⟩
    · cases h1
theorem isS_of (l : List ByteArray) : ((l.map fun s => [AV.str s]).all isS) = true := by
  rw [List.all_eq_true]
  intro c hc
  obtain ⟨s, _, rfl⟩ := List.mem_map.1 hc
  rfl
abbrev cW (z : Int) : List AV := [.bool (sg z), .ints .u32 (lb 4294967296 z)]
abbrev cT (z : Int) : List AV := [.bool (sg z), .ints .i64 (lb 10 z)]
theorem rowNW (z : Int) : rowN 4294967296 (cW z) = z := rowN_row W_two .u32 z
theorem rowNT (z : Int) : rowN 10 (cT z) = z := rowN_row T_two .i64 z
theorem map_rowNW (l : List Int) : (l.map cW).map (rowN 4294967296) = l := by rw [List.map_map]; exact (List.map_congr_left (fun z _ => rowNW z)).trans (List.map_id l)
theorem map_rowNT (l : List Int) : (l.map cT).map (rowN 10) = l := by rw [List.map_map]; exact (List.map_congr_left (fun z _ => rowNT z)).trans (List.map_id l)
theorem all_rowW {l : List Int} (h : ∀ z ∈ l, fits z = true) : ((l.map cW).all (rowOk 4294967296 .u32) && (l.map cW).all fun c => fits (rowN 4294967296 c)) = true := by
  rw [Bool.and_eq_true, List.all_eq_true, List.all_eq_true]
  refine ⟨fun c hc => ?_, fun c hc => ?_⟩ <;> obtain ⟨z, hz, rfl⟩ := List.mem_map.1 hc
  · exact (rowOk_iff W_two).2 ⟨z, rfl, small_of_fits (h z hz)⟩
  · rw [rowNW]; exact h z hz
theorem all_rowT {l : List Int} (h : ∀ z ∈ l, fits z = true) : ((l.map cT).all (rowOk 10 .i64) && (l.map cT).all fun c => fits (rowN 10 c)) = true := by
  rw [Bool.and_eq_true, List.all_eq_true, List.all_eq_true]
  refine ⟨fun c hc => ?_, fun c hc => ?_⟩ <;> obtain ⟨z, hz, rfl⟩ := List.mem_map.1 hc
  · exact (rowOk_iff T_two).2 ⟨z, rfl, small_of_fits (h z hz)⟩
  · rw [rowNT]; exact h z hz
theorem fits_nvs (ss : List ByteArray) (n : Nat) : ∀ z ∈ (ss.map nv).take n, fits z = true := fun z hz => by
  obtain ⟨s, _, rfl⟩ := List.mem_map.1 (List.mem_of_mem_take hz)
  exact fits_nv s
theorem sumZ_fits {l : List Int} : ∀ {a s : Int}, fits a = true → sumZ a l = some s → fits s = true ∧ s = a + l.sum := by
  induction l with
  | nil =>
    intro a s ha h
    rw [sumZ, Option.some.injEq] at h
    subst h
    exact ⟨ha, by simp⟩
  | cons x l ih =>
    intro a s ha h
    rw [sumZ] at h
    cases hf : fits (a + x) with
    | false => rw [hf, cond_false] at h; exact absurd h (by simp)
    | true =>
      rw [hf, cond_true] at h
      obtain ⟨h1, h2⟩ := ih hf h
      exact ⟨h1, by rw [h2, List.sum_cons]; omega⟩
theorem fits_zero : fits 0 = true := by kernel_rfl
theorem fits_sumV (l : List Int) : fits (sumV l) = true := by
  unfold sumV
  cases h : sumZ 0 l with
  | none => exact fits_zero
  | some s => exact (sumZ_fits fits_zero h).1
theorem sumE_zero {l : List Int} (h : sumE l = 0) : sumV l = l.sum := by
  unfold sumE at h
  unfold sumV
  cases hs : sumZ 0 l with
  | none => rw [hs] at h; cases h
  | some s => rw [(sumZ_fits fits_zero hs).2]; simp
end Go.Abs
end
section
/- States and rounds of the statements of layer 2, as a program of this session printed them. -/
set_option maxRecDepth 10000
namespace Go.Abs
open Go.Proofs Go.Dig
noncomputable section
namespace KSums
abbrev ans : Ans := [(14, anlAwake), (28, anqRat), (35, ansQSum), (36, ansmSum), (19, anqSame)]
abbrev orc : Orc := orcOf ans
noncomputable def L0 : Code := lp Try.f6 0
theorem isL0 : ∃ a, L0 = .loop a := ⟨_, rfl⟩
abbrev D0 : List Nat := [0, 2, 3, 4, 5, 12, 13]
abbrev st0 (r : List (List AV)) (x0 : Int) (r0 : List (List AV)) (r1 : List (List AV)) : St := ⟨.rows 1 r :: tops 1 (.bool false :: .sl 3 0 0 :: .sl 4 0 0 :: .int .i64 x0 :: tops 6 (.bool true :: .bool false :: tops 41 ([]))), nos 3 (rowE (.rows 4 r0) :: rowE (.rows 4 r1) :: nos 50 ([]))⟩
theorem round0 (r : List (List AV)) (x0 : Int) (r0 : List (List AV)) (r1 : List (List AV)) : goL T orc (noTab) D0 L0 (st0 r x0 r0 r1) =
    (bif decide (x0 < (↑r.length : Int)) then (bif decide (x0 < 12) then (bif inB x0 r.length then (bif etaOk (.str { data := #[] }) ((r.getD x0.toNat []).getD 0 .top) then (bif true && decide ((r0 ++ [[AV.bool (sg (qv (cut 700 (gStr ((r.getD x0.toNat []).getD 0 .top)))).num), .ints .u32 (lb (4294967296) (qv (cut 700 (gStr ((r.getD x0.toNat []).getD 0 .top)))).num), .bool false, .ints .u32 (lb (4294967296) (zd (↑(qv (cut 700 (gStr ((r.getD x0.toNat []).getD 0 .top)))).den : Int)))]]).length * 64 ≤ 140737488355328) then (bif true && decide ((r1 ++ [[AV.bool (sg (qv (cut 700 (gStr ((r.getD x0.toNat []).getD 0 .top)))).num), .ints .i64 (lb (10) (qv (cut 700 (gStr ((r.getD x0.toNat []).getD 0 .top)))).num), .bool false, .ints .i64 (lb (10) (zd (↑(qv (cut 700 (gStr ((r.getD x0.toNat []).getD 0 .top)))).den : Int)))]]).length * 64 ≤ 140737488355328) then some (.normal, st0 r (IntKind.i64.wrap (x0 + 1)) (r0 ++ [[AV.bool (sg (qv (cut 700 (gStr ((r.getD x0.toNat []).getD 0 .top)))).num), .ints .u32 (lb (4294967296) (qv (cut 700 (gStr ((r.getD x0.toNat []).getD 0 .top)))).num), .bool false, .ints .u32 (lb (4294967296) (zd (↑(qv (cut 700 (gStr ((r.getD x0.toNat []).getD 0 .top)))).den : Int)))]]) (r1 ++ [[AV.bool (sg (qv (cut 700 (gStr ((r.getD x0.toNat []).getD 0 .top)))).num), .ints .i64 (lb (10) (qv (cut 700 (gStr ((r.getD x0.toNat []).getD 0 .top)))).num), .bool false, .ints .i64 (lb (10) (zd (↑(qv (cut 700 (gStr ((r.getD x0.toNat []).getD 0 .top)))).den : Int)))]])) else none) else none) else none) else none) else some (.exit 0, st0 r x0 r0 r1)) else some (.exit 0, st0 r x0 r0 r1)) := by kernel_rfl
-- loop 0 ends exit0 st0 r x0 r0 r1
theorem rest (r : List (List AV)) (r2 : List (List AV)) (r3 : List (List AV)) (x1 : Int) : runT T orc (tabOf T orc [(6, 619805839470633680838168744041834937164949313405071485123066523374, .exit 0, st0 r x1 r2 r3)]) Try.f6 [.rows 1 r] =
    (bif cdec (Ends T orc L0 D0 (st0 r (0) ([]) ([])) (.exit 0) (st0 r x1 r2 r3)) then (bif r2.all rowIsQ && decide (r2.length ≤ 100000) then (bif r3.all rowIsM && decide (r3.length ≤ 100000) then (bif isQ (sg (sumQv (List.map rowQ r2)).num) (lb (4294967296) (sumQv (List.map rowQ r2)).num) false (lb (4294967296) (zd (↑(sumQv (List.map rowQ r2)).den : Int))) && isM (sg (sumQv (List.map rowM r3)).num) (lb (10) (sumQv (List.map rowM r3)).num) false (lb (10) (lowS (List.map rowM r3))) then some (.val (.bool (decide (sumQe (List.map rowQ r2) = sumQe (List.map rowM r3)) && decide (rq (sg (sumQv (List.map rowQ r2)).num) (lb (4294967296) (sumQv (List.map rowQ r2)).num) (lb (4294967296) (zd (↑(sumQv (List.map rowQ r2)).den : Int))) = rm (sg (sumQv (List.map rowM r3)).num) (lb (10) (sumQv (List.map rowM r3)).num) (lb (10) (lowS (List.map rowM r3))))))) else none) else none) else none) else none) := by kernel_rfl
end KSums
end
end Go.Abs
end
