/- What the rows of this seat rest on, part 4: an abstract machine for the model, proved sound, and the functions that the statements reach. No conditions. -/
import Derived.Test.YtehpihdiahbaeaaXBase3
set_option linter.unusedVariables false
set_option linter.unusedSimpArgs false
set_option linter.unnecessarySimpa false
set_option linter.unusedSectionVars false
section
/- States and rounds of arith's functions, as a program of this session printed them (3). -/
set_option maxRecDepth 10000
namespace Go.Abs
open Go.Proofs Go.Dig
namespace Parse
abbrev ans : Ans := [(82, ansNorm), (78, ansHeld), (81, ansScale)]
abbrev orc : Orc := orcOf ans
noncomputable def L0 : Code := lp Try.f58 0
theorem isL0 : ∃ a, L0 = .loop a := ⟨_, rfl⟩
abbrev D0 : List Nat := [0, 2, 3, 4, 5, 13, 14, 15, 16, 17, 21, 22, 23, 24, 25, 26, 27, 28, 40, 42, 43, 44]
abbrev st0 (s : ByteArray) (b0 : Bool) (x0 : Int) : St := ⟨.str s :: tops 1 (.ptr 2 0 0 :: .int .i64 (0) :: .str (s.extract 1 s.size) :: .bool (bt s (0) == 45) :: tops 7 (.str s :: .str s :: .int .i64 (↑s.size : Int) :: .bool (decide ((↑s.size : Int) > 0)) :: .bool true :: tops 3 (.bool (bt s (0) == 45) :: .bool (bt s (0) == 45) :: .str s :: .str (s.extract 1 s.size) :: .str (s.extract 1 s.size) :: .int .i64 (↑(s.extract 1 s.size).size : Int) :: .bool ((↑(s.extract 1 s.size).size : Int) == 0) :: .bool false :: tops 11 (.bool b0 :: tops 1 (.str (s.extract 1 s.size) :: .int .i64 (↑(s.extract 1 s.size).size : Int) :: .int .i64 x0 :: tops 58 ([])))))), nos 2 (varE [(false, .bool false), (true, .ints .u32 [])] :: nos 100 ([]))⟩
abbrev st0x0 (s : ByteArray) (x1 : Int) (b0 : Bool) (x0 : Int) : St := ⟨.str s :: tops 1 (.ptr 2 0 0 :: .int .i64 x1 :: .str (s.extract 1 s.size) :: .bool (bt s (0) == 45) :: tops 7 (.str s :: .str s :: .int .i64 (↑s.size : Int) :: .bool (decide ((↑s.size : Int) > 0)) :: .bool true :: tops 3 (.bool (bt s (0) == 45) :: .bool (bt s (0) == 45) :: .str s :: .str (s.extract 1 s.size) :: .str (s.extract 1 s.size) :: .int .i64 (↑(s.extract 1 s.size).size : Int) :: .bool ((↑(s.extract 1 s.size).size : Int) == 0) :: .bool false :: tops 11 (.bool b0 :: tops 1 (.str (s.extract 1 s.size) :: .int .i64 (↑(s.extract 1 s.size).size : Int) :: .int .i64 x0 :: tops 58 ([])))))), nos 2 (varE [(false, .bool false), (true, .ints .u32 [])] :: nos 100 ([]))⟩
theorem round0 (s : ByteArray) (b0 : Bool) (x0 : Int) : goL T orc (noTab) D0 L0 (st0 s b0 x0) =
    (bif decide (x0 < (↑(s.extract 1 s.size).size : Int)) then (bif inB x0 (s.extract 1 s.size).size then (bif decide (bt (s.extract 1 s.size) x0 < 48) then some (.ret, st0x0 s (10) b0 x0) else (bif inB x0 (s.extract 1 s.size).size then (bif decide (bt (s.extract 1 s.size) x0 > 57) then some (.ret, st0x0 s (10) b0 x0) else some (.normal, st0 s b0 (IntKind.i64.wrap (x0 + 1)))) else none)) else none) else some (.exit 0, st0 s b0 x0)) := by kernel_rfl
-- loop 0 ends ret st0x0 s x1 b0 x0
-- loop 0 ends exit0 st0 s b0 x0
noncomputable def L0a : Code := lp Try.f58 0
theorem isL0a : ∃ a, L0a = .loop a := ⟨_, rfl⟩
abbrev D0a : List Nat := [0, 2, 3, 4, 5, 13, 14, 15, 16, 17, 21, 22, 25, 26, 27, 28, 40, 42, 43, 44]
abbrev st0a (s : ByteArray) (b6 : Bool) (b7 : Bool) (b8 : Bool) (x4 : Int) : St := ⟨.str s :: tops 1 (.ptr 2 0 0 :: .int .i64 (0) :: .str s :: .bool b6 :: tops 7 (.str s :: .str s :: .int .i64 (↑s.size : Int) :: .bool (decide ((↑s.size : Int) > 0)) :: .bool b7 :: tops 3 (.bool b6 :: .bool b6 :: tops 2 (.str s :: .int .i64 (↑s.size : Int) :: .bool ((↑s.size : Int) == 0) :: .bool false :: tops 11 (.bool b8 :: tops 1 (.str s :: .int .i64 (↑s.size : Int) :: .int .i64 x4 :: tops 58 ([]))))))), nos 2 (varE [(false, .bool false), (true, .ints .u32 [])] :: nos 100 ([]))⟩
abbrev st0ax0 (s : ByteArray) (x5 : Int) (b6 : Bool) (b7 : Bool) (b8 : Bool) (x4 : Int) : St := ⟨.str s :: tops 1 (.ptr 2 0 0 :: .int .i64 x5 :: .str s :: .bool b6 :: tops 7 (.str s :: .str s :: .int .i64 (↑s.size : Int) :: .bool (decide ((↑s.size : Int) > 0)) :: .bool b7 :: tops 3 (.bool b6 :: .bool b6 :: tops 2 (.str s :: .int .i64 (↑s.size : Int) :: .bool ((↑s.size : Int) == 0) :: .bool false :: tops 11 (.bool b8 :: tops 1 (.str s :: .int .i64 (↑s.size : Int) :: .int .i64 x4 :: tops 58 ([]))))))), nos 2 (varE [(false, .bool false), (true, .ints .u32 [])] :: nos 100 ([]))⟩
theorem round0a (s : ByteArray) (b6 : Bool) (b7 : Bool) (b8 : Bool) (x4 : Int) : goL T orc (noTab) D0a L0a (st0a s b6 b7 b8 x4) =
    (bif decide (x4 < (↑s.size : Int)) then (bif inB x4 s.size then (bif decide (bt s x4 < 48) then some (.ret, st0ax0 s (10) b6 b7 b8 x4) else (bif inB x4 s.size then (bif decide (bt s x4 > 57) then some (.ret, st0ax0 s (10) b6 b7 b8 x4) else some (.normal, st0a s b6 b7 b8 (IntKind.i64.wrap (x4 + 1)))) else none)) else none) else some (.exit 0, st0a s b6 b7 b8 x4)) := by kernel_rfl
-- loop 0a ends ret st0ax0 s x5 b6 b7 b8 x4
-- loop 0a ends exit0 st0a s b6 b7 b8 x4
noncomputable def L2 : Code := lp Try.f58 2
theorem isL2 : ∃ a, L2 = .loop a := ⟨_, rfl⟩
abbrev D2 : List Nat := [0, 2, 3, 4, 5, 7, 8, 9, 10, 11, 13, 14, 15, 16, 17, 21, 22, 25, 26, 27, 28, 40, 42, 43, 44, 59, 60, 61, 63, 64, 65, 66, 69, 70, 71, 72, 73, 74, 75, 76, 77, 78, 79]
abbrev st2 (s : ByteArray) (b12 : Bool) (x15 : Int) (x16 : Int) (x17 : Int) (b13 : Bool) (b14 : Bool) (x8 : Int) (x18 : Int) (l0 : List Int) : St := ⟨.str s :: tops 1 (.ptr 2 0 0 :: .int .i64 (0) :: .str s :: .bool b12 :: tops 1 (.sl 7 0 0 :: .int .i64 x15 :: .str (s.extract x15.toNat (bif false then if (↑s.size : Int) > IntKind.i64.wrap (x15 + 9) then (↑s.size : Int) else IntKind.i64.wrap (x15 + 9) else if (↑s.size : Int) < IntKind.i64.wrap (x15 + 9) then (↑s.size : Int) else IntKind.i64.wrap (x15 + 9)).toNat) :: .int .u32 x16 :: .int .u32 x17 :: tops 1 (.str s :: .str s :: .int .i64 (↑s.size : Int) :: .bool (decide ((↑s.size : Int) > 0)) :: .bool b13 :: tops 3 (.bool b12 :: .bool b12 :: tops 2 (.str s :: .int .i64 (↑s.size : Int) :: .bool ((↑s.size : Int) == 0) :: .bool false :: tops 11 (.bool b14 :: tops 1 (.str s :: .int .i64 (↑s.size : Int) :: .int .i64 x8 :: tops 14 (.str s :: .int .i64 (↑s.size : Int) :: .bool (decide ((↑s.size : Int) > 343)) :: tops 1 (.int .i64 x15 :: .str s :: .int .i64 (↑s.size : Int) :: .bool (decide (x15 < (↑s.size : Int))) :: tops 2 (.str s :: .int .i64 x15 :: .int .i64 x15 :: .int .i64 (IntKind.i64.wrap (x15 + 9)) :: .str s :: .int .i64 (↑s.size : Int) :: .int .i64 (bif false then if (↑s.size : Int) > IntKind.i64.wrap (x15 + 9) then (↑s.size : Int) else IntKind.i64.wrap (x15 + 9) else if (↑s.size : Int) < IntKind.i64.wrap (x15 + 9) then (↑s.size : Int) else IntKind.i64.wrap (x15 + 9)) :: .str (s.extract x15.toNat (bif false then if (↑s.size : Int) > IntKind.i64.wrap (x15 + 9) then (↑s.size : Int) else IntKind.i64.wrap (x15 + 9) else if (↑s.size : Int) < IntKind.i64.wrap (x15 + 9) then (↑s.size : Int) else IntKind.i64.wrap (x15 + 9)).toNat) :: .str (s.extract x15.toNat (bif false then if (↑s.size : Int) > IntKind.i64.wrap (x15 + 9) then (↑s.size : Int) else IntKind.i64.wrap (x15 + 9) else if (↑s.size : Int) < IntKind.i64.wrap (x15 + 9) then (↑s.size : Int) else IntKind.i64.wrap (x15 + 9)).toNat) :: .int .i64 (↑(s.extract x15.toNat (bif false then if (↑s.size : Int) > IntKind.i64.wrap (x15 + 9) then (↑s.size : Int) else IntKind.i64.wrap (x15 + 9) else if (↑s.size : Int) < IntKind.i64.wrap (x15 + 9) then (↑s.size : Int) else IntKind.i64.wrap (x15 + 9)).toNat).size : Int) :: .int .i64 x18 :: tops 23 ([]))))))))))), nos 2 (varE [(false, .bool false), (true, .ints .u32 [])] :: nos 4 (rowE (.ints .u32 l0) :: nos 95 ([])))⟩
theorem round2 (s : ByteArray) (b12 : Bool) (x15 : Int) (x16 : Int) (x17 : Int) (b13 : Bool) (b14 : Bool) (x8 : Int) (x18 : Int) (l0 : List Int) : goL T orc (noTab) D2 L2 (st2 s b12 x15 x16 x17 b13 b14 x8 x18 l0) =
    (bif decide (x18 < (↑(s.extract x15.toNat (bif false then if (↑s.size : Int) > IntKind.i64.wrap (x15 + 9) then (↑s.size : Int) else IntKind.i64.wrap (x15 + 9) else if (↑s.size : Int) < IntKind.i64.wrap (x15 + 9) then (↑s.size : Int) else IntKind.i64.wrap (x15 + 9)).toNat).size : Int)) then (bif inB x18 (s.extract x15.toNat (bif false then if (↑s.size : Int) > IntKind.i64.wrap (x15 + 9) then (↑s.size : Int) else IntKind.i64.wrap (x15 + 9) else if (↑s.size : Int) < IntKind.i64.wrap (x15 + 9) then (↑s.size : Int) else IntKind.i64.wrap (x15 + 9)).toNat).size then some (.normal, st2 s b12 x15 (IntKind.u32.wrap (IntKind.u32.wrap (x16 * 10) + IntKind.u32.wrap (IntKind.u8.wrap (bt (s.extract x15.toNat (bif false then if (↑s.size : Int) > IntKind.i64.wrap (x15 + 9) then (↑s.size : Int) else IntKind.i64.wrap (x15 + 9) else if (↑s.size : Int) < IntKind.i64.wrap (x15 + 9) then (↑s.size : Int) else IntKind.i64.wrap (x15 + 9)).toNat) x18 - 48)))) (IntKind.u32.wrap (x17 * 10)) b13 b14 x8 (IntKind.i64.wrap (x18 + 1)) l0) else none) else some (.exit 4, st2 s b12 x15 x16 x17 b13 b14 x8 x18 l0)) := by kernel_rfl
-- loop 2 ends exit4 st2 s b12 x15 x16 x17 b13 b14 x8 x18 l0
noncomputable def L1 : Code := lp Try.f58 1
theorem isL1 : ∃ a, L1 = .loop a := ⟨_, rfl⟩
abbrev D1 : List Nat := [0, 2, 3, 4, 5, 7, 8, 13, 14, 15, 16, 17, 21, 22, 25, 26, 27, 28, 40, 42, 43, 44, 59, 60, 61]
abbrev st1 (s : ByteArray) (b12 : Bool) (x15 : Int) (b13 : Bool) (b14 : Bool) (x8 : Int) (l0 : List Int) : St := ⟨.str s :: tops 1 (.ptr 2 0 0 :: .int .i64 (0) :: .str s :: .bool b12 :: tops 1 (.sl 7 0 0 :: .int .i64 x15 :: tops 4 (.str s :: .str s :: .int .i64 (↑s.size : Int) :: .bool (decide ((↑s.size : Int) > 0)) :: .bool b13 :: tops 3 (.bool b12 :: .bool b12 :: tops 2 (.str s :: .int .i64 (↑s.size : Int) :: .bool ((↑s.size : Int) == 0) :: .bool false :: tops 11 (.bool b14 :: tops 1 (.str s :: .int .i64 (↑s.size : Int) :: .int .i64 x8 :: tops 14 (.str s :: .int .i64 (↑s.size : Int) :: .bool (decide ((↑s.size : Int) > 343)) :: tops 41 ([]))))))))), nos 2 (varE [(false, .bool false), (true, .ints .u32 [])] :: nos 4 (rowE (.ints .u32 l0) :: nos 95 ([])))⟩
theorem round1 (s : ByteArray) (b12 : Bool) (x15 : Int) (b13 : Bool) (b14 : Bool) (x8 : Int) (l0 : List Int) (x20 : Int) (x19 : Int) (x21 : Int) : goL T orc (tabOf T orc [(22, 2585025616625118797550854632251396893418309473431785164950648237226251597721781646332670859523748775088636340792802323394286, .exit 4, st2 s b12 x15 x19 x20 b13 b14 x8 x21 l0)]) D1 L1 (st1 s b12 x15 b13 b14 x8 l0) =
    (bif decide (x15 < (↑s.size : Int)) then (bif decide (0 ≤ x15) && decide (x15 ≤ bif false then if (↑s.size : Int) > IntKind.i64.wrap (x15 + 9) then (↑s.size : Int) else IntKind.i64.wrap (x15 + 9) else if (↑s.size : Int) < IntKind.i64.wrap (x15 + 9) then (↑s.size : Int) else IntKind.i64.wrap (x15 + 9)) && decide ((bif false then if (↑s.size : Int) > IntKind.i64.wrap (x15 + 9) then (↑s.size : Int) else IntKind.i64.wrap (x15 + 9) else if (↑s.size : Int) < IntKind.i64.wrap (x15 + 9) then (↑s.size : Int) else IntKind.i64.wrap (x15 + 9)) ≤ (↑s.size : Int)) then (bif cdec (Ends T orc L2 D2 (st2 s b12 x15 (0) (1) b13 b14 x8 (0) l0) (.exit 4) (st2 s b12 x15 x19 x20 b13 b14 x8 x21 l0)) then (bif few l0 && okB (4294967296) l0 && decide (0 ≤ x20) && decide (x20 < 4294967296) && decide (0 ≤ x19) && decide (x19 < 4294967296) then some (.normal, st1 s b12 (IntKind.i64.wrap (x15 + 9)) b13 b14 x8 (scaleL l0 x20 x19)) else none) else none) else none) else some (.exit 2, st1 s b12 x15 b13 b14 x8 l0)) := by kernel_rfl
-- loop 1 ends exit2 st1 s b12 x15 b13 b14 x8 l0
noncomputable def L2a : Code := lp Try.f58 2
theorem isL2a : ∃ a, L2a = .loop a := ⟨_, rfl⟩
abbrev D2a : List Nat := [0, 2, 3, 4, 5, 7, 8, 9, 10, 11, 13, 14, 15, 16, 17, 21, 22, 23, 24, 25, 26, 27, 28, 40, 42, 43, 44, 59, 60, 61, 63, 64, 65, 66, 69, 70, 71, 72, 73, 74, 75, 76, 77, 78, 79]
abbrev st2a (s : ByteArray) (x30 : Int) (x31 : Int) (x32 : Int) (b15 : Bool) (x23 : Int) (x33 : Int) (l2 : List Int) : St := ⟨.str s :: tops 1 (.ptr 2 0 0 :: .int .i64 (0) :: .str (s.extract 1 s.size) :: .bool (bt s (0) == 45) :: tops 1 (.sl 7 0 0 :: .int .i64 x30 :: .str ((s.extract 1 s.size).extract x30.toNat (bif false then if (↑(s.extract 1 s.size).size : Int) > IntKind.i64.wrap (x30 + 9) then (↑(s.extract 1 s.size).size : Int) else IntKind.i64.wrap (x30 + 9) else if (↑(s.extract 1 s.size).size : Int) < IntKind.i64.wrap (x30 + 9) then (↑(s.extract 1 s.size).size : Int) else IntKind.i64.wrap (x30 + 9)).toNat) :: .int .u32 x31 :: .int .u32 x32 :: tops 1 (.str s :: .str s :: .int .i64 (↑s.size : Int) :: .bool (decide ((↑s.size : Int) > 0)) :: .bool true :: tops 3 (.bool (bt s (0) == 45) :: .bool (bt s (0) == 45) :: .str s :: .str (s.extract 1 s.size) :: .str (s.extract 1 s.size) :: .int .i64 (↑(s.extract 1 s.size).size : Int) :: .bool ((↑(s.extract 1 s.size).size : Int) == 0) :: .bool false :: tops 11 (.bool b15 :: tops 1 (.str (s.extract 1 s.size) :: .int .i64 (↑(s.extract 1 s.size).size : Int) :: .int .i64 x23 :: tops 14 (.str (s.extract 1 s.size) :: .int .i64 (↑(s.extract 1 s.size).size : Int) :: .bool (decide ((↑(s.extract 1 s.size).size : Int) > 343)) :: tops 1 (.int .i64 x30 :: .str (s.extract 1 s.size) :: .int .i64 (↑(s.extract 1 s.size).size : Int) :: .bool (decide (x30 < (↑(s.extract 1 s.size).size : Int))) :: tops 2 (.str (s.extract 1 s.size) :: .int .i64 x30 :: .int .i64 x30 :: .int .i64 (IntKind.i64.wrap (x30 + 9)) :: .str (s.extract 1 s.size) :: .int .i64 (↑(s.extract 1 s.size).size : Int) :: .int .i64 (bif false then if (↑(s.extract 1 s.size).size : Int) > IntKind.i64.wrap (x30 + 9) then (↑(s.extract 1 s.size).size : Int) else IntKind.i64.wrap (x30 + 9) else if (↑(s.extract 1 s.size).size : Int) < IntKind.i64.wrap (x30 + 9) then (↑(s.extract 1 s.size).size : Int) else IntKind.i64.wrap (x30 + 9)) :: .str ((s.extract 1 s.size).extract x30.toNat (bif false then if (↑(s.extract 1 s.size).size : Int) > IntKind.i64.wrap (x30 + 9) then (↑(s.extract 1 s.size).size : Int) else IntKind.i64.wrap (x30 + 9) else if (↑(s.extract 1 s.size).size : Int) < IntKind.i64.wrap (x30 + 9) then (↑(s.extract 1 s.size).size : Int) else IntKind.i64.wrap (x30 + 9)).toNat) :: .str ((s.extract 1 s.size).extract x30.toNat (bif false then if (↑(s.extract 1 s.size).size : Int) > IntKind.i64.wrap (x30 + 9) then (↑(s.extract 1 s.size).size : Int) else IntKind.i64.wrap (x30 + 9) else if (↑(s.extract 1 s.size).size : Int) < IntKind.i64.wrap (x30 + 9) then (↑(s.extract 1 s.size).size : Int) else IntKind.i64.wrap (x30 + 9)).toNat) :: .int .i64 (↑((s.extract 1 s.size).extract x30.toNat (bif false then if (↑(s.extract 1 s.size).size : Int) > IntKind.i64.wrap (x30 + 9) then (↑(s.extract 1 s.size).size : Int) else IntKind.i64.wrap (x30 + 9) else if (↑(s.extract 1 s.size).size : Int) < IntKind.i64.wrap (x30 + 9) then (↑(s.extract 1 s.size).size : Int) else IntKind.i64.wrap (x30 + 9)).toNat).size : Int) :: .int .i64 x33 :: tops 23 ([])))))))))), nos 2 (varE [(false, .bool false), (true, .ints .u32 [])] :: nos 4 (rowE (.ints .u32 l2) :: nos 95 ([])))⟩
theorem round2a (s : ByteArray) (x30 : Int) (x31 : Int) (x32 : Int) (b15 : Bool) (x23 : Int) (x33 : Int) (l2 : List Int) : goL T orc (noTab) D2a L2a (st2a s x30 x31 x32 b15 x23 x33 l2) =
    (bif decide (x33 < (↑((s.extract 1 s.size).extract x30.toNat (bif false then if (↑(s.extract 1 s.size).size : Int) > IntKind.i64.wrap (x30 + 9) then (↑(s.extract 1 s.size).size : Int) else IntKind.i64.wrap (x30 + 9) else if (↑(s.extract 1 s.size).size : Int) < IntKind.i64.wrap (x30 + 9) then (↑(s.extract 1 s.size).size : Int) else IntKind.i64.wrap (x30 + 9)).toNat).size : Int)) then (bif inB x33 ((s.extract 1 s.size).extract x30.toNat (bif false then if (↑(s.extract 1 s.size).size : Int) > IntKind.i64.wrap (x30 + 9) then (↑(s.extract 1 s.size).size : Int) else IntKind.i64.wrap (x30 + 9) else if (↑(s.extract 1 s.size).size : Int) < IntKind.i64.wrap (x30 + 9) then (↑(s.extract 1 s.size).size : Int) else IntKind.i64.wrap (x30 + 9)).toNat).size then some (.normal, st2a s x30 (IntKind.u32.wrap (IntKind.u32.wrap (x31 * 10) + IntKind.u32.wrap (IntKind.u8.wrap (bt ((s.extract 1 s.size).extract x30.toNat (bif false then if (↑(s.extract 1 s.size).size : Int) > IntKind.i64.wrap (x30 + 9) then (↑(s.extract 1 s.size).size : Int) else IntKind.i64.wrap (x30 + 9) else if (↑(s.extract 1 s.size).size : Int) < IntKind.i64.wrap (x30 + 9) then (↑(s.extract 1 s.size).size : Int) else IntKind.i64.wrap (x30 + 9)).toNat) x33 - 48)))) (IntKind.u32.wrap (x32 * 10)) b15 x23 (IntKind.i64.wrap (x33 + 1)) l2) else none) else some (.exit 4, st2a s x30 x31 x32 b15 x23 x33 l2)) := by kernel_rfl
-- loop 2a ends exit4 st2a s x30 x31 x32 b15 x23 x33 l2
noncomputable def L1a : Code := lp Try.f58 1
theorem isL1a : ∃ a, L1a = .loop a := ⟨_, rfl⟩
abbrev D1a : List Nat := [0, 2, 3, 4, 5, 7, 8, 13, 14, 15, 16, 17, 21, 22, 23, 24, 25, 26, 27, 28, 40, 42, 43, 44, 59, 60, 61]
abbrev st1a (s : ByteArray) (x30 : Int) (b15 : Bool) (x23 : Int) (l2 : List Int) : St := ⟨.str s :: tops 1 (.ptr 2 0 0 :: .int .i64 (0) :: .str (s.extract 1 s.size) :: .bool (bt s (0) == 45) :: tops 1 (.sl 7 0 0 :: .int .i64 x30 :: tops 4 (.str s :: .str s :: .int .i64 (↑s.size : Int) :: .bool (decide ((↑s.size : Int) > 0)) :: .bool true :: tops 3 (.bool (bt s (0) == 45) :: .bool (bt s (0) == 45) :: .str s :: .str (s.extract 1 s.size) :: .str (s.extract 1 s.size) :: .int .i64 (↑(s.extract 1 s.size).size : Int) :: .bool ((↑(s.extract 1 s.size).size : Int) == 0) :: .bool false :: tops 11 (.bool b15 :: tops 1 (.str (s.extract 1 s.size) :: .int .i64 (↑(s.extract 1 s.size).size : Int) :: .int .i64 x23 :: tops 14 (.str (s.extract 1 s.size) :: .int .i64 (↑(s.extract 1 s.size).size : Int) :: .bool (decide ((↑(s.extract 1 s.size).size : Int) > 343)) :: tops 41 ([])))))))), nos 2 (varE [(false, .bool false), (true, .ints .u32 [])] :: nos 4 (rowE (.ints .u32 l2) :: nos 95 ([])))⟩
theorem round1a (s : ByteArray) (x30 : Int) (b15 : Bool) (x23 : Int) (l2 : List Int) (x35 : Int) (x34 : Int) (x36 : Int) : goL T orc (tabOf T orc [(22, 2585025616625118797550854630691125113272957186682296653022108216012557278656570443285417810059861709772309064018216736452334, .exit 4, st2a s x30 x34 x35 b15 x23 x36 l2)]) D1a L1a (st1a s x30 b15 x23 l2) =
    (bif decide (x30 < (↑(s.extract 1 s.size).size : Int)) then (bif decide (0 ≤ x30) && decide (x30 ≤ bif false then if (↑(s.extract 1 s.size).size : Int) > IntKind.i64.wrap (x30 + 9) then (↑(s.extract 1 s.size).size : Int) else IntKind.i64.wrap (x30 + 9) else if (↑(s.extract 1 s.size).size : Int) < IntKind.i64.wrap (x30 + 9) then (↑(s.extract 1 s.size).size : Int) else IntKind.i64.wrap (x30 + 9)) && decide ((bif false then if (↑(s.extract 1 s.size).size : Int) > IntKind.i64.wrap (x30 + 9) then (↑(s.extract 1 s.size).size : Int) else IntKind.i64.wrap (x30 + 9) else if (↑(s.extract 1 s.size).size : Int) < IntKind.i64.wrap (x30 + 9) then (↑(s.extract 1 s.size).size : Int) else IntKind.i64.wrap (x30 + 9)) ≤ (↑(s.extract 1 s.size).size : Int)) then (bif cdec (Ends T orc L2a D2a (st2a s x30 (0) (1) b15 x23 (0) l2) (.exit 4) (st2a s x30 x34 x35 b15 x23 x36 l2)) then (bif few l2 && okB (4294967296) l2 && decide (0 ≤ x35) && decide (x35 < 4294967296) && decide (0 ≤ x34) && decide (x34 < 4294967296) then some (.normal, st1a s (IntKind.i64.wrap (x30 + 9)) b15 x23 (scaleL l2 x35 x34)) else none) else none) else none) else some (.exit 2, st1a s x30 b15 x23 l2)) := by kernel_rfl
-- loop 1a ends exit2 st1a s x30 b15 x23 l2
theorem rest_0 (s : ByteArray) (x6 : Int) (b9 : Bool) (b10 : Bool) (b11 : Bool) (x7 : Int) (x2 : Int) (b1 : Bool) (x3 : Int) : runT T orc (tabOf T orc [(8, 2585025628590623854992277685469035784553465991325676146883346425763788658036205756010234607550307971754212937460549868777198, .ret, st0x0 s x2 b1 x3), (8, 2585025628590623854992277687029307564698818278075164658811886446977482977101416959057487657014195037070540214235135455719150, .ret, st0ax0 s x6 b9 b10 b11 x7)]) Try.f58 [.str s] =
    (bif decide ((↑s.size : Int) > 0) then (bif inB (0) s.size then (bif bt s (0) == 45 then (bif true && decide (1 ≤ (↑s.size : Int)) then (bif (↑(s.extract 1 s.size).size : Int) == 0 then some (.val (.tup [.agg [.bool false, .ints .u32 []], .int .i64 (10)])) else (bif inB (0) (s.extract 1 s.size).size then (bif bt (s.extract 1 s.size) (0) == 48 then (bif decide ((↑(s.extract 1 s.size).size : Int) > 1) then some (.val (.tup [.agg [.bool false, .ints .u32 []], .int .i64 (10)])) else (bif bt s (0) == 45 then some (.val (.tup [.agg [.bool false, .ints .u32 []], .int .i64 (10)])) else (bif cdec (Ends T orc L0 D0 (st0 s (bt s (0) == 45) (0)) .ret (st0x0 s x2 b1 x3)) then some (.val (.tup [.agg [.bool false, .ints .u32 []], .int .i64 x2])) else none))) else (bif cdec (Ends T orc L0 D0 (st0 s (false) (0)) .ret (st0x0 s x2 b1 x3)) then some (.val (.tup [.agg [.bool false, .ints .u32 []], .int .i64 x2])) else none)) else none)) else none) else (bif (↑s.size : Int) == 0 then some (.val (.tup [.agg [.bool false, .ints .u32 []], .int .i64 (10)])) else (bif inB (0) s.size then (bif bt s (0) == 48 then (bif decide ((↑s.size : Int) > 1) then some (.val (.tup [.agg [.bool false, .ints .u32 []], .int .i64 (10)])) else (bif bt s (0) == 45 then some (.val (.tup [.agg [.bool false, .ints .u32 []], .int .i64 (10)])) else (bif cdec (Ends T orc L0a D0a (st0a s (bt s (0) == 45) (true) (bt s (0) == 45) (0)) .ret (st0ax0 s x6 b9 b10 b11 x7)) then some (.val (.tup [.agg [.bool false, .ints .u32 []], .int .i64 x6])) else none))) else (bif cdec (Ends T orc L0a D0a (st0a s (bt s (0) == 45) (true) (false) (0)) .ret (st0ax0 s x6 b9 b10 b11 x7)) then some (.val (.tup [.agg [.bool false, .ints .u32 []], .int .i64 x6])) else none)) else none))) else none) else (bif (↑s.size : Int) == 0 then some (.val (.tup [.agg [.bool false, .ints .u32 []], .int .i64 (10)])) else (bif inB (0) s.size then (bif bt s (0) == 48 then (bif decide ((↑s.size : Int) > 1) then some (.val (.tup [.agg [.bool false, .ints .u32 []], .int .i64 (10)])) else (bif cdec (Ends T orc L0a D0a (st0a s (false) (false) (false) (0)) .ret (st0ax0 s x6 b9 b10 b11 x7)) then some (.val (.tup [.agg [.bool false, .ints .u32 []], .int .i64 x6])) else none)) else (bif cdec (Ends T orc L0a D0a (st0a s (false) (false) (false) (0)) .ret (st0ax0 s x6 b9 b10 b11 x7)) then some (.val (.tup [.agg [.bool false, .ints .u32 []], .int .i64 x6])) else none)) else none))) := by kernel_rfl
theorem rest_1 (s : ByteArray) (b12 : Bool) (l1 : List Int) (b13 : Bool) (b14 : Bool) (x8 : Int) (x22 : Int) (x2 : Int) (b1 : Bool) (x3 : Int) : runT T orc (tabOf T orc [(8, 2585025628590623854992277685469035784553465991325676146883346425763788658036205756010234607550307971754212937460549868777198, .ret, st0x0 s x2 b1 x3), (8, 2585025628590623854992277687029307564698818278075164658811886446977482977101416959057487657014195037070540214235135455719150, .exit 0, st0a s b12 b13 b14 x8), (17, 2585025616739239178733000736461002534577496938266024331367201316383660280611729922488402123137553331067272718842187672907502, .exit 2, st1 s b12 x22 b13 b14 x8 l1)]) Try.f58 [.str s] =
    (bif decide ((↑s.size : Int) > 0) then (bif inB (0) s.size then (bif bt s (0) == 45 then (bif true && decide (1 ≤ (↑s.size : Int)) then (bif (↑(s.extract 1 s.size).size : Int) == 0 then some (.val (.tup [.agg [.bool false, .ints .u32 []], .int .i64 (10)])) else (bif inB (0) (s.extract 1 s.size).size then (bif bt (s.extract 1 s.size) (0) == 48 then (bif decide ((↑(s.extract 1 s.size).size : Int) > 1) then some (.val (.tup [.agg [.bool false, .ints .u32 []], .int .i64 (10)])) else (bif bt s (0) == 45 then some (.val (.tup [.agg [.bool false, .ints .u32 []], .int .i64 (10)])) else (bif cdec (Ends T orc L0 D0 (st0 s (bt s (0) == 45) (0)) .ret (st0x0 s x2 b1 x3)) then some (.val (.tup [.agg [.bool false, .ints .u32 []], .int .i64 x2])) else none))) else (bif cdec (Ends T orc L0 D0 (st0 s (false) (0)) .ret (st0x0 s x2 b1 x3)) then some (.val (.tup [.agg [.bool false, .ints .u32 []], .int .i64 x2])) else none)) else none)) else none) else (bif (↑s.size : Int) == 0 then some (.val (.tup [.agg [.bool false, .ints .u32 []], .int .i64 (10)])) else (bif inB (0) s.size then (bif bt s (0) == 48 then (bif decide ((↑s.size : Int) > 1) then some (.val (.tup [.agg [.bool false, .ints .u32 []], .int .i64 (10)])) else (bif bt s (0) == 45 then some (.val (.tup [.agg [.bool false, .ints .u32 []], .int .i64 (10)])) else (bif cdec (Ends T orc L0a D0a (st0a s (bt s (0) == 45) (true) (bt s (0) == 45) (0)) (.exit 0) (st0a s b12 b13 b14 x8)) then (bif decide ((↑s.size : Int) > 343) then some (.val (.tup [.agg [.bool false, .ints .u32 []], .int .i64 (11)])) else (bif cdec (Ends T orc L1 D1 (st1 s b12 (0) b13 b14 x8 ([])) (.exit 2) (st1 s b12 x22 b13 b14 x8 l1)) then (bif few l1 && okB (4294967296) l1 then (bif cn (4294967296) (sg (num (4294967296) b12 l1)) (lb (4294967296) (num (4294967296) b12 l1)) then some (.val (.tup [R (hz (N (4294967296) (num (4294967296) b12 l1))), .int .i64 (he (N (4294967296) (num (4294967296) b12 l1)))])) else none) else none) else none)) else none))) else (bif cdec (Ends T orc L0a D0a (st0a s (bt s (0) == 45) (true) (false) (0)) (.exit 0) (st0a s b12 b13 b14 x8)) then (bif decide ((↑s.size : Int) > 343) then some (.val (.tup [.agg [.bool false, .ints .u32 []], .int .i64 (11)])) else (bif cdec (Ends T orc L1 D1 (st1 s b12 (0) b13 b14 x8 ([])) (.exit 2) (st1 s b12 x22 b13 b14 x8 l1)) then (bif few l1 && okB (4294967296) l1 then (bif cn (4294967296) (sg (num (4294967296) b12 l1)) (lb (4294967296) (num (4294967296) b12 l1)) then some (.val (.tup [R (hz (N (4294967296) (num (4294967296) b12 l1))), .int .i64 (he (N (4294967296) (num (4294967296) b12 l1)))])) else none) else none) else none)) else none)) else none))) else none) else (bif (↑s.size : Int) == 0 then some (.val (.tup [.agg [.bool false, .ints .u32 []], .int .i64 (10)])) else (bif inB (0) s.size then (bif bt s (0) == 48 then (bif decide ((↑s.size : Int) > 1) then some (.val (.tup [.agg [.bool false, .ints .u32 []], .int .i64 (10)])) else (bif cdec (Ends T orc L0a D0a (st0a s (false) (false) (false) (0)) (.exit 0) (st0a s b12 b13 b14 x8)) then (bif decide ((↑s.size : Int) > 343) then some (.val (.tup [.agg [.bool false, .ints .u32 []], .int .i64 (11)])) else (bif cdec (Ends T orc L1 D1 (st1 s b12 (0) b13 b14 x8 ([])) (.exit 2) (st1 s b12 x22 b13 b14 x8 l1)) then (bif few l1 && okB (4294967296) l1 then (bif cn (4294967296) (sg (num (4294967296) b12 l1)) (lb (4294967296) (num (4294967296) b12 l1)) then some (.val (.tup [R (hz (N (4294967296) (num (4294967296) b12 l1))), .int .i64 (he (N (4294967296) (num (4294967296) b12 l1)))])) else none) else none) else none)) else none)) else (bif cdec (Ends T orc L0a D0a (st0a s (false) (false) (false) (0)) (.exit 0) (st0a s b12 b13 b14 x8)) then (bif decide ((↑s.size : Int) > 343) then some (.val (.tup [.agg [.bool false, .ints .u32 []], .int .i64 (11)])) else (bif cdec (Ends T orc L1 D1 (st1 s b12 (0) b13 b14 x8 ([])) (.exit 2) (st1 s b12 x22 b13 b14 x8 l1)) then (bif few l1 && okB (4294967296) l1 then (bif cn (4294967296) (sg (num (4294967296) b12 l1)) (lb (4294967296) (num (4294967296) b12 l1)) then some (.val (.tup [R (hz (N (4294967296) (num (4294967296) b12 l1))), .int .i64 (he (N (4294967296) (num (4294967296) b12 l1)))])) else none) else none) else none)) else none)) else none))) := by kernel_rfl
theorem rest_2 (s : ByteArray) (x38 : Int) (b23 : Bool) (b24 : Bool) (b25 : Bool) (x39 : Int) (l3 : List Int) (b15 : Bool) (x23 : Int) (x37 : Int) : runT T orc (tabOf T orc [(8, 2585025628590623854992277685469035784553465991325676146883346425763788658036205756010234607550307971754212937460549868777198, .exit 0, st0 s b15 x23), (17, 2585025616739239178733000734900730754432144651516535819438661295169965961546518719441149073673666265750945442067602085965550, .exit 2, st1a s x37 b15 x23 l3), (8, 2585025628590623854992277687029307564698818278075164658811886446977482977101416959057487657014195037070540214235135455719150, .ret, st0ax0 s x38 b23 b24 b25 x39)]) Try.f58 [.str s] =
    (bif decide ((↑s.size : Int) > 0) then (bif inB (0) s.size then (bif bt s (0) == 45 then (bif true && decide (1 ≤ (↑s.size : Int)) then (bif (↑(s.extract 1 s.size).size : Int) == 0 then some (.val (.tup [.agg [.bool false, .ints .u32 []], .int .i64 (10)])) else (bif inB (0) (s.extract 1 s.size).size then (bif bt (s.extract 1 s.size) (0) == 48 then (bif decide ((↑(s.extract 1 s.size).size : Int) > 1) then some (.val (.tup [.agg [.bool false, .ints .u32 []], .int .i64 (10)])) else (bif bt s (0) == 45 then some (.val (.tup [.agg [.bool false, .ints .u32 []], .int .i64 (10)])) else (bif cdec (Ends T orc L0 D0 (st0 s (bt s (0) == 45) (0)) (.exit 0) (st0 s b15 x23)) then (bif decide ((↑(s.extract 1 s.size).size : Int) > 343) then some (.val (.tup [.agg [.bool false, .ints .u32 []], .int .i64 (11)])) else (bif cdec (Ends T orc L1a D1a (st1a s (0) b15 x23 ([])) (.exit 2) (st1a s x37 b15 x23 l3)) then (bif few l3 && okB (4294967296) l3 then (bif cn (4294967296) (sg (num (4294967296) (bt s (0) == 45) l3)) (lb (4294967296) (num (4294967296) (bt s (0) == 45) l3)) then some (.val (.tup [R (hz (N (4294967296) (num (4294967296) (bt s (0) == 45) l3))), .int .i64 (he (N (4294967296) (num (4294967296) (bt s (0) == 45) l3)))])) else none) else none) else none)) else none))) else (bif cdec (Ends T orc L0 D0 (st0 s (false) (0)) (.exit 0) (st0 s b15 x23)) then (bif decide ((↑(s.extract 1 s.size).size : Int) > 343) then some (.val (.tup [.agg [.bool false, .ints .u32 []], .int .i64 (11)])) else (bif cdec (Ends T orc L1a D1a (st1a s (0) b15 x23 ([])) (.exit 2) (st1a s x37 b15 x23 l3)) then (bif few l3 && okB (4294967296) l3 then (bif cn (4294967296) (sg (num (4294967296) (bt s (0) == 45) l3)) (lb (4294967296) (num (4294967296) (bt s (0) == 45) l3)) then some (.val (.tup [R (hz (N (4294967296) (num (4294967296) (bt s (0) == 45) l3))), .int .i64 (he (N (4294967296) (num (4294967296) (bt s (0) == 45) l3)))])) else none) else none) else none)) else none)) else none)) else none) else (bif (↑s.size : Int) == 0 then some (.val (.tup [.agg [.bool false, .ints .u32 []], .int .i64 (10)])) else (bif inB (0) s.size then (bif bt s (0) == 48 then (bif decide ((↑s.size : Int) > 1) then some (.val (.tup [.agg [.bool false, .ints .u32 []], .int .i64 (10)])) else (bif bt s (0) == 45 then some (.val (.tup [.agg [.bool false, .ints .u32 []], .int .i64 (10)])) else (bif cdec (Ends T orc L0a D0a (st0a s (bt s (0) == 45) (true) (bt s (0) == 45) (0)) .ret (st0ax0 s x38 b23 b24 b25 x39)) then some (.val (.tup [.agg [.bool false, .ints .u32 []], .int .i64 x38])) else none))) else (bif cdec (Ends T orc L0a D0a (st0a s (bt s (0) == 45) (true) (false) (0)) .ret (st0ax0 s x38 b23 b24 b25 x39)) then some (.val (.tup [.agg [.bool false, .ints .u32 []], .int .i64 x38])) else none)) else none))) else none) else (bif (↑s.size : Int) == 0 then some (.val (.tup [.agg [.bool false, .ints .u32 []], .int .i64 (10)])) else (bif inB (0) s.size then (bif bt s (0) == 48 then (bif decide ((↑s.size : Int) > 1) then some (.val (.tup [.agg [.bool false, .ints .u32 []], .int .i64 (10)])) else (bif cdec (Ends T orc L0a D0a (st0a s (false) (false) (false) (0)) .ret (st0ax0 s x38 b23 b24 b25 x39)) then some (.val (.tup [.agg [.bool false, .ints .u32 []], .int .i64 x38])) else none)) else (bif cdec (Ends T orc L0a D0a (st0a s (false) (false) (false) (0)) .ret (st0ax0 s x38 b23 b24 b25 x39)) then some (.val (.tup [.agg [.bool false, .ints .u32 []], .int .i64 x38])) else none)) else none))) := by kernel_rfl
theorem rest_3 (s : ByteArray) (b29 : Bool) (l4 : List Int) (b26 : Bool) (b27 : Bool) (b28 : Bool) (x40 : Int) (x41 : Int) (b30 : Bool) (b31 : Bool) (x42 : Int) (l3 : List Int) (b15 : Bool) (x23 : Int) (x37 : Int) : runT T orc (tabOf T orc [(8, 2585025628590623854992277685469035784553465991325676146883346425763788658036205756010234607550307971754212937460549868777198, .exit 0, st0 s b15 x23), (17, 2585025616739239178733000734900730754432144651516535819438661295169965961546518719441149073673666265750945442067602085965550, .exit 2, st1a s x37 b15 x23 l3), (8, 2585025628590623854992277687029307564698818278075164658811886446977482977101416959057487657014195037070540214235135455719150, .exit 0, st0a s b26 b27 b28 x40), (17, 2585025616739239178733000736461002534577496938266024331367201316383660280611729922488402123137553331067272718842187672907502, .exit 2, st1 s b29 x41 b30 b31 x42 l4)]) Try.f58 [.str s] =
    (bif decide ((↑s.size : Int) > 0) then (bif inB (0) s.size then (bif bt s (0) == 45 then (bif true && decide (1 ≤ (↑s.size : Int)) then (bif (↑(s.extract 1 s.size).size : Int) == 0 then some (.val (.tup [.agg [.bool false, .ints .u32 []], .int .i64 (10)])) else (bif inB (0) (s.extract 1 s.size).size then (bif bt (s.extract 1 s.size) (0) == 48 then (bif decide ((↑(s.extract 1 s.size).size : Int) > 1) then some (.val (.tup [.agg [.bool false, .ints .u32 []], .int .i64 (10)])) else (bif bt s (0) == 45 then some (.val (.tup [.agg [.bool false, .ints .u32 []], .int .i64 (10)])) else (bif cdec (Ends T orc L0 D0 (st0 s (bt s (0) == 45) (0)) (.exit 0) (st0 s b15 x23)) then (bif decide ((↑(s.extract 1 s.size).size : Int) > 343) then some (.val (.tup [.agg [.bool false, .ints .u32 []], .int .i64 (11)])) else (bif cdec (Ends T orc L1a D1a (st1a s (0) b15 x23 ([])) (.exit 2) (st1a s x37 b15 x23 l3)) then (bif few l3 && okB (4294967296) l3 then (bif cn (4294967296) (sg (num (4294967296) (bt s (0) == 45) l3)) (lb (4294967296) (num (4294967296) (bt s (0) == 45) l3)) then some (.val (.tup [R (hz (N (4294967296) (num (4294967296) (bt s (0) == 45) l3))), .int .i64 (he (N (4294967296) (num (4294967296) (bt s (0) == 45) l3)))])) else none) else none) else none)) else none))) else (bif cdec (Ends T orc L0 D0 (st0 s (false) (0)) (.exit 0) (st0 s b15 x23)) then (bif decide ((↑(s.extract 1 s.size).size : Int) > 343) then some (.val (.tup [.agg [.bool false, .ints .u32 []], .int .i64 (11)])) else (bif cdec (Ends T orc L1a D1a (st1a s (0) b15 x23 ([])) (.exit 2) (st1a s x37 b15 x23 l3)) then (bif few l3 && okB (4294967296) l3 then (bif cn (4294967296) (sg (num (4294967296) (bt s (0) == 45) l3)) (lb (4294967296) (num (4294967296) (bt s (0) == 45) l3)) then some (.val (.tup [R (hz (N (4294967296) (num (4294967296) (bt s (0) == 45) l3))), .int .i64 (he (N (4294967296) (num (4294967296) (bt s (0) == 45) l3)))])) else none) else none) else none)) else none)) else none)) else none) else (bif (↑s.size : Int) == 0 then some (.val (.tup [.agg [.bool false, .ints .u32 []], .int .i64 (10)])) else (bif inB (0) s.size then (bif bt s (0) == 48 then (bif decide ((↑s.size : Int) > 1) then some (.val (.tup [.agg [.bool false, .ints .u32 []], .int .i64 (10)])) else (bif bt s (0) == 45 then some (.val (.tup [.agg [.bool false, .ints .u32 []], .int .i64 (10)])) else (bif cdec (Ends T orc L0a D0a (st0a s (bt s (0) == 45) (true) (bt s (0) == 45) (0)) (.exit 0) (st0a s b26 b27 b28 x40)) then (bif decide ((↑s.size : Int) > 343) then some (.val (.tup [.agg [.bool false, .ints .u32 []], .int .i64 (11)])) else (bif cdec (Ends T orc L1 D1 (st1 s b26 (0) b27 b28 x40 ([])) (.exit 2) (st1 s b29 x41 b30 b31 x42 l4)) then (bif few l4 && okB (4294967296) l4 then (bif cn (4294967296) (sg (num (4294967296) b29 l4)) (lb (4294967296) (num (4294967296) b29 l4)) then some (.val (.tup [R (hz (N (4294967296) (num (4294967296) b29 l4))), .int .i64 (he (N (4294967296) (num (4294967296) b29 l4)))])) else none) else none) else none)) else none))) else (bif cdec (Ends T orc L0a D0a (st0a s (bt s (0) == 45) (true) (false) (0)) (.exit 0) (st0a s b26 b27 b28 x40)) then (bif decide ((↑s.size : Int) > 343) then some (.val (.tup [.agg [.bool false, .ints .u32 []], .int .i64 (11)])) else (bif cdec (Ends T orc L1 D1 (st1 s b26 (0) b27 b28 x40 ([])) (.exit 2) (st1 s b29 x41 b30 b31 x42 l4)) then (bif few l4 && okB (4294967296) l4 then (bif cn (4294967296) (sg (num (4294967296) b29 l4)) (lb (4294967296) (num (4294967296) b29 l4)) then some (.val (.tup [R (hz (N (4294967296) (num (4294967296) b29 l4))), .int .i64 (he (N (4294967296) (num (4294967296) b29 l4)))])) else none) else none) else none)) else none)) else none))) else none) else (bif (↑s.size : Int) == 0 then some (.val (.tup [.agg [.bool false, .ints .u32 []], .int .i64 (10)])) else (bif inB (0) s.size then (bif bt s (0) == 48 then (bif decide ((↑s.size : Int) > 1) then some (.val (.tup [.agg [.bool false, .ints .u32 []], .int .i64 (10)])) else (bif cdec (Ends T orc L0a D0a (st0a s (false) (false) (false) (0)) (.exit 0) (st0a s b26 b27 b28 x40)) then (bif decide ((↑s.size : Int) > 343) then some (.val (.tup [.agg [.bool false, .ints .u32 []], .int .i64 (11)])) else (bif cdec (Ends T orc L1 D1 (st1 s b26 (0) b27 b28 x40 ([])) (.exit 2) (st1 s b29 x41 b30 b31 x42 l4)) then (bif few l4 && okB (4294967296) l4 then (bif cn (4294967296) (sg (num (4294967296) b29 l4)) (lb (4294967296) (num (4294967296) b29 l4)) then some (.val (.tup [R (hz (N (4294967296) (num (4294967296) b29 l4))), .int .i64 (he (N (4294967296) (num (4294967296) b29 l4)))])) else none) else none) else none)) else none)) else (bif cdec (Ends T orc L0a D0a (st0a s (false) (false) (false) (0)) (.exit 0) (st0a s b26 b27 b28 x40)) then (bif decide ((↑s.size : Int) > 343) then some (.val (.tup [.agg [.bool false, .ints .u32 []], .int .i64 (11)])) else (bif cdec (Ends T orc L1 D1 (st1 s b26 (0) b27 b28 x40 ([])) (.exit 2) (st1 s b29 x41 b30 b31 x42 l4)) then (bif few l4 && okB (4294967296) l4 then (bif cn (4294967296) (sg (num (4294967296) b29 l4)) (lb (4294967296) (num (4294967296) b29 l4)) then some (.val (.tup [R (hz (N (4294967296) (num (4294967296) b29 l4))), .int .i64 (he (N (4294967296) (num (4294967296) b29 l4)))])) else none) else none) else none)) else none)) else none))) := by kernel_rfl
end Parse
end Go.Abs
end
section
/- States and rounds of arith's functions, as a program of this session printed them (4). -/
set_option maxRecDepth 10000
namespace Go.Abs
open Go.Proofs Go.Dig
namespace Text
abbrev ans : Ans := [(72, ansPart)]
abbrev orc : Orc := orcOf ans
noncomputable def L1 : Code := lp Try.f26 1
theorem isL1 : ∃ a, L1 = .loop a := ⟨_, rfl⟩
abbrev D1 : List Nat := [0, 1, 2, 3, 4, 5, 6, 9, 10, 11, 12, 13, 14, 15, 16, 17, 18, 19, 20, 21, 22]
abbrev st1 (s : Bool) (l : List Int) (l2 : List Int) (x4 : Int) (x5 : Int) (l4 : List Int) : St := ⟨.agg [.bool s, .ints .u32 l] :: .ptr 1 0 0 :: .str { data := #[] } :: .sl 3 0 0 :: .ints .u32 (limbs (4294967296) (val (4294967296) l2 / 1000000000)) :: .int .u32 x4 :: .int .i64 x5 :: tops 2 (.ptr 1 0 1 :: .ints .u32 l :: .int .i64 (↑l.length : Int) :: .bool ((↑l.length : Int) == 0) :: .ptr 1 0 1 :: .ints .u32 l :: .ints .u32 l2 :: .int .i64 (↑l2.length : Int) :: .bool (decide ((↑l2.length : Int) > 0)) :: .tup [.ints .u32 (limbs (4294967296) (val (4294967296) l2 / 1000000000)), .int .u32 (val (4294967296) l2 % 1000000000)] :: .ints .u32 l2 :: .tup [.ints .u32 (limbs (4294967296) (val (4294967296) l2 / 1000000000)), .int .u32 (val (4294967296) l2 % 1000000000)] :: .ints .u32 (limbs (4294967296) (val (4294967296) l2 / 1000000000)) :: .int .u32 (val (4294967296) l2 % 1000000000) :: tops 53 ([])), nos 1 (varE [(false, .bool s), (false, .ints .u32 l)] :: nos 1 (rowE (.ints .u8 l4) :: nos 72 ([])))⟩
theorem round1 (s : Bool) (l : List Int) (l2 : List Int) (x4 : Int) (x5 : Int) (l4 : List Int) : goL T orc (noTab) D1 L1 (st1 s l l2 x4 x5 l4) =
    (bif decide (x5 < 9) then (bif decide ((↑(limbs (4294967296) (val (4294967296) l2 / 1000000000)).length : Int) > 0) then (bif true && decide ((l4 ++ [IntKind.u8.wrap (IntKind.u32.wrap (48 + x4.tmod (10)))]).length * 1 ≤ 140737488355328) then some (.normal, st1 s l l2 (IntKind.u32.wrap (x4.tdiv (10))) (IntKind.i64.wrap (x5 + 1)) (l4 ++ [IntKind.u8.wrap (IntKind.u32.wrap (48 + x4.tmod (10)))])) else none) else (bif decide (x4 > 0) then (bif true && decide ((l4 ++ [IntKind.u8.wrap (IntKind.u32.wrap (48 + x4.tmod (10)))]).length * 1 ≤ 140737488355328) then some (.normal, st1 s l l2 (IntKind.u32.wrap (x4.tdiv (10))) (IntKind.i64.wrap (x5 + 1)) (l4 ++ [IntKind.u8.wrap (IntKind.u32.wrap (48 + x4.tmod (10)))])) else none) else some (.exit 2, st1 s l l2 x4 x5 l4))) else some (.exit 2, st1 s l l2 x4 x5 l4)) := by kernel_rfl
-- loop 1 ends exit2 st1 s l l2 x4 x5 l4
noncomputable def L0 : Code := lp Try.f26 0
theorem isL0 : ∃ a, L0 = .loop a := ⟨_, rfl⟩
abbrev D0 : List Nat := [0, 1, 2, 3, 4, 9, 10, 11, 12, 13, 14]
abbrev st0 (s : Bool) (l : List Int) (l2 : List Int) (l3 : List Int) : St := ⟨.agg [.bool s, .ints .u32 l] :: .ptr 1 0 0 :: .str { data := #[] } :: .sl 3 0 0 :: .ints .u32 l2 :: tops 4 (.ptr 1 0 1 :: .ints .u32 l :: .int .i64 (↑l.length : Int) :: .bool ((↑l.length : Int) == 0) :: .ptr 1 0 1 :: .ints .u32 l :: tops 61 ([])), nos 1 (varE [(false, .bool s), (false, .ints .u32 l)] :: nos 1 (rowE (.ints .u8 l3) :: nos 72 ([])))⟩
theorem round0 (s : Bool) (l : List Int) (l2 : List Int) (l3 : List Int) (l5 : List Int) (x6 : Int) (x7 : Int) : goL T orc (tabOf T orc [(9, 15434055826790135822470426309716605157525547871637213005085072231847775149465239827614985966, .exit 2, st1 s l l2 x6 x7 l5)]) D0 L0 (st0 s l l2 l3) =
    (bif decide ((↑l2.length : Int) > 0) then (bif few l2 && okB (4294967296) l2 && true && true then (bif cdec (Ends T orc L1 D1 (st1 s l l2 (val (4294967296) l2 % 1000000000) (0) l3) (.exit 2) (st1 s l l2 x6 x7 l5)) then some (.normal, st0 s l (limbs (4294967296) (val (4294967296) l2 / 1000000000)) l5) else none) else none) else some (.exit 0, st0 s l l2 l3)) := by kernel_rfl
-- loop 0 ends exit0 st0 s l l2 l3
noncomputable def L2 : Code := lp Try.f26 2
theorem isL2 : ∃ a, L2 = .loop a := ⟨_, rfl⟩
abbrev D2 : List Nat := [0, 1, 2, 3, 4, 7, 8, 9, 10, 11, 12, 13, 14, 45, 46, 47, 48, 49, 50, 51, 52]
abbrev st2 (s : Bool) (l : List Int) (l6 : List Int) (x8 : Int) (x9 : Int) (l7 : List Int) (l8 : List Int) : St := ⟨.agg [.bool s, .ints .u32 l] :: .ptr 1 0 0 :: .str { data := #[] } :: .sl 3 0 0 :: .ints .u32 l6 :: tops 2 (.int .i64 x8 :: .int .i64 x9 :: .ptr 1 0 1 :: .ints .u32 l :: .int .i64 (↑l.length : Int) :: .bool ((↑l.length : Int) == 0) :: .ptr 1 0 1 :: .ints .u32 l :: tops 30 (.ptr 1 0 0 :: .bool s :: tops 1 (.sl 48 0 0 :: .sl 49 0 0 :: .sl 3 0 0 :: .int .i64 (↑(l7 ++ [45]).length : Int) :: .int .i64 (IntKind.i64.wrap ((↑(l7 ++ [45]).length : Int) - 1)) :: tops 23 ([])))), nos 1 (varE [(false, .bool s), (false, .ints .u32 l)] :: nos 1 (rowE (.ints .u8 l8) :: nos 44 (rowE (.ints .u8 [45]) :: { g := 0, pg := 0, o := some (AObj.row { g := 0, own := false, v := .top }) } :: nos 26 ([]))))⟩
theorem round2 (s : Bool) (l : List Int) (l6 : List Int) (x8 : Int) (x9 : Int) (l7 : List Int) (l8 : List Int) : goL T orc (noTab) D2 L2 (st2 s l l6 x8 x9 l7 l8) =
    (bif decide (x8 < x9) then (bif inB x9 l8.length then (bif inB x8 l8.length then (bif inB x8 l8.length then (bif inB x9 (l8.set x8.toNat (rd l8 x9)).length then some (.normal, st2 s l l6 (IntKind.i64.wrap (x8 + 1)) (IntKind.i64.wrap (x9 - 1)) l7 ((l8.set x8.toNat (rd l8 x9)).set x9.toNat (rd l8 x8))) else none) else none) else none) else none) else some (.exit 4, st2 s l l6 x8 x9 l7 l8)) := by kernel_rfl
-- loop 2 ends exit4 st2 s l l6 x8 x9 l7 l8
noncomputable def L2a : Code := lp Try.f26 2
theorem isL2a : ∃ a, L2a = .loop a := ⟨_, rfl⟩
abbrev D2a : List Nat := [0, 1, 2, 3, 4, 7, 8, 9, 10, 11, 12, 13, 14, 45, 46, 50, 51, 52]
abbrev st2a (s : Bool) (l : List Int) (l6 : List Int) (x12 : Int) (x13 : Int) (l7 : List Int) (l10 : List Int) : St := ⟨.agg [.bool s, .ints .u32 l] :: .ptr 1 0 0 :: .str { data := #[] } :: .sl 3 0 0 :: .ints .u32 l6 :: tops 2 (.int .i64 x12 :: .int .i64 x13 :: .ptr 1 0 1 :: .ints .u32 l :: .int .i64 (↑l.length : Int) :: .bool ((↑l.length : Int) == 0) :: .ptr 1 0 1 :: .ints .u32 l :: tops 30 (.ptr 1 0 0 :: .bool s :: tops 3 (.sl 3 0 0 :: .int .i64 (↑l7.length : Int) :: .int .i64 (IntKind.i64.wrap ((↑l7.length : Int) - 1)) :: tops 23 ([])))), nos 1 (varE [(false, .bool s), (false, .ints .u32 l)] :: nos 1 (rowE (.ints .u8 l10) :: nos 72 ([])))⟩
theorem round2a (s : Bool) (l : List Int) (l6 : List Int) (x12 : Int) (x13 : Int) (l7 : List Int) (l10 : List Int) : goL T orc (noTab) D2a L2a (st2a s l l6 x12 x13 l7 l10) =
    (bif decide (x12 < x13) then (bif inB x13 l10.length then (bif inB x12 l10.length then (bif inB x12 l10.length then (bif inB x13 (l10.set x12.toNat (rd l10 x13)).length then some (.normal, st2a s l l6 (IntKind.i64.wrap (x12 + 1)) (IntKind.i64.wrap (x13 - 1)) l7 ((l10.set x12.toNat (rd l10 x13)).set x13.toNat (rd l10 x12))) else none) else none) else none) else none) else some (.exit 4, st2a s l l6 x12 x13 l7 l10)) := by kernel_rfl
-- loop 2a ends exit4 st2a s l l6 x12 x13 l7 l10
theorem rest (s : Bool) (l : List Int) (l11 : List Int) (l6 : List Int) (l7 : List Int) (x14 : Int) (x15 : Int) (l9 : List Int) (x10 : Int) (x11 : Int) : runT T orc (tabOf T orc [(5, 15434082659904209709542942231877832302031806041980364213475750064431526063267439400497114862, .exit 0, st0 s l l6 l7), (16, 15434082555087357858496525075334599536407372846674721766738814902332179473980859833014742766, .exit 4, st2 s l l6 x10 x11 l7 l9), (16, 15434082555087357858496525075334599536407372846674721766740194106185227787569688246102191854, .exit 4, st2a s l l6 x14 x15 l7 l11)]) Try.f26 [.agg [.bool s, .ints .u32 l]] =
    (bif (↑l.length : Int) == 0 then some (.val (.str { data := #[48] })) else (bif cdec (Ends T orc L0 D0 (st0 s l l ([])) (.exit 0) (st0 s l l6 l7)) then (bif s then (bif true && decide ((l7 ++ [45]).length * 1 ≤ 140737488355328) then (bif cdec (Ends T orc L2 D2 (st2 s l l6 (0) (IntKind.i64.wrap ((↑(l7 ++ [45]).length : Int) - 1)) l7 (l7 ++ [45])) (.exit 4) (st2 s l l6 x10 x11 l7 l9)) then some (.val (.str (strOf l9))) else none) else none) else (bif cdec (Ends T orc L2a D2a (st2a s l l6 (0) (IntKind.i64.wrap ((↑l7.length : Int) - 1)) l7 l7) (.exit 4) (st2a s l l6 x14 x15 l7 l11)) then some (.val (.str (strOf l11))) else none)) else none)) := by kernel_rfl
end Text
end Go.Abs
end
section
/- What arith.Text and arith.Small answer. -/
namespace Go.Abs
open Go.Proofs Go.Dig
/-- A number's digits, cut at a place. -/
theorem limbs_split {B : Int} (hB : 2 ≤ B) {v : Int} (h0 : 0 ≤ v) (k : Nat) (h : 0 < v / B ^ k) : limbs B v = digN B k v ++ limbs B (v / B ^ k) := by
  have hq : 0 ≤ v / B ^ k := by omega
  have hn : limbs B (v / B ^ k) ≠ [] := fun hc => by have := (limbs_nil hB hq).1 hc; omega
  have ok : okB B (digN B k v ++ limbs B (v / B ^ k)) = true := okB_app (digN_ok (by omega) _ _) (limbs_ok (by omega) _)
  have hl : (digN B k v ++ limbs B (v / B ^ k)).getLast? ≠ some 0 := by
    rw [List.getLast?_append]
    cases hg : (limbs B (v / B ^ k)).getLast? with
    | none => exact absurd (List.getLast?_eq_none_iff.1 hg) hn
    | some d =>
      intro h
      simp at h
      exact limbs_last B (v / B ^ k) (by rw [hg, h])
  have hp : (0 : Int) < B ^ k := Int.pow_pos (by omega)
  have hv : val B (digN B k v ++ limbs B (v / B ^ k)) = v := by
    rw [val_append, digN_length, limbs_val hB hq]
    have h1 : digN B k v = digN B k (v % B ^ k) := by
      have : ∀ (k : Nat) (v w : Int), digN B k (v + B ^ k * w) = digN B k v := by
        intro k
        induction k with
        | zero => intro v w; rfl
        | succ k ih =>
          intro v w
          simp only [digN]
          have e : B ^ (k + 1) * w = B * (B ^ k * w) := by rw [Int.pow_succ, Int.mul_comm (B ^ k) B, Int.mul_assoc]
          rw [e, Int.add_mul_emod_self_left, Int.add_mul_ediv_left _ _ (by omega), ih]
      have h2 := this k (v % B ^ k) (v / B ^ k)
      rw [Int.emod_add_mul_ediv] at h2
      exact h2
    rw [h1, val_digN (by omega) _ _ (Int.emod_nonneg _ (by omega)) (Int.emod_lt_of_pos _ hp), Int.emod_add_mul_ediv]
  have := limbs_self hB ok hl
  rw [hv] at this
  exact this
theorem digN_emod {B : Int} (hB : 0 < B) (k : Nat) (v : Int) : digN B k (v % B ^ k) = digN B k v := by
  have : ∀ (k : Nat) (v w : Int), digN B k (v + B ^ k * w) = digN B k v := by
    intro k
    induction k with
    | zero => intro v w; rfl
    | succ k ih =>
      intro v w
      simp only [digN]
      have e : B ^ (k + 1) * w = B * (B ^ k * w) := by rw [Int.pow_succ, Int.mul_comm (B ^ k) B, Int.mul_assoc]
      rw [e, Int.add_mul_emod_self_left, Int.add_mul_ediv_left _ _ (by omega), ih]
  have h2 := this k (v % B ^ k) (v / B ^ k)
  rw [Int.emod_add_mul_ediv] at h2
  exact h2.symm
def asc (l : List Int) : List Int := l.map (· + 48)
theorem asc_len (l : List Int) : (asc l).length = l.length := List.length_map ..
theorem asc_app (l m : List Int) : asc (l ++ m) = asc l ++ asc m := List.map_append ..
namespace Text
/-- The digits of a piece, behind what was found. -/
theorem inner (s : Bool) (l : List Int) (v : Int) (l3 : List Int) (hv : 0 ≤ v) (h3 : l3.length ≤ 100000) :
    ∃ e S1, Ends T orc L1 D1 (st1 s l (limbs 4294967296 v) (v % 1000000000) 0 l3) e S1 ∧ (e = .exit 2 ∧ ∃ x k, S1 = st1 s l (limbs 4294967296 v) x k (l3 ++ asc (if 0 < v / 1000000000 then digN 10 9 v else limbs 10 v))) := by
  have hq : 0 ≤ v / 1000000000 := by omega
  have hvl : val 4294967296 (limbs 4294967296 v) = v := limbs_val W_two hv
  have hnl : ((limbs 4294967296 (v / 1000000000)).length : Int) > 0 ↔ 0 < v / 1000000000 := by
    have := limbs_nil W_two hq
    constructor
    · intro h
      refine Int.lt_of_not_ge (fun hc => ?_)
      have : v / 1000000000 = 0 := by omega
      rw [this] at h
      simp [limbs, digN, strip] at h
    · intro h
      have : limbs 4294967296 (v / 1000000000) ≠ [] := fun hc => by have := this.1 hc; omega
      have := List.length_pos_iff.2 this
      omega
  obtain ⟨r, hr⟩ : ∃ r, v % 1000000000 = r := ⟨_, rfl⟩
  rw [hr]
  refine loop_inv3 (fun x (k : Nat) l4 => st1 s l (limbs 4294967296 v) x k l4) (fun x k l4 => k ≤ 9 ∧ x = r / 10 ^ k ∧ l4 = l3 ++ asc (digN 10 k r) ∧ (0 < v / 1000000000 ∨ k = 0 ∨ 0 < r / 10 ^ (k - 1))) (fun x k l4 => 9 - k)
    (fun e S1 => e = .exit 2 ∧ ∃ x k, S1 = st1 s l (limbs 4294967296 v) x k (l3 ++ asc (if 0 < v / 1000000000 then digN 10 9 v else limbs 10 v))) isL1 ?_ r 0 l3 ?_
  · intro x k l4 ⟨k1, k2, k3, k4⟩
    refine ⟨noTab, noTab_all, lands_of (round1 ..) ?_⟩
    rw [hvl]
    have hp : (0 : Int) < 10 ^ k := Int.pow_pos (by decide)
    have hx0 : 0 ≤ x := by rw [k2]; exact Int.ediv_nonneg (by omega) (by omega)
    have hx1 : x ≤ r := by rw [k2]; exact Int.ediv_le_self _ (by omega)
    have em : x.tmod 10 = x % 10 := Int.tmod_eq_emod_of_nonneg hx0
    have ed : x.tdiv 10 = x / 10 := Int.tdiv_eq_ediv_of_nonneg hx0
    have ew : IntKind.u8.wrap (IntKind.u32.wrap (48 + x.tmod 10)) = x % 10 + 48 := by
      rw [em, wu32 (by omega) (by omega), IntWalk.u8_in _ ⟨by omega, by omega⟩]; omega
    have ed2 : IntKind.u32.wrap (x.tdiv 10) = x / 10 := by rw [ed, wu32 (by omega) (by omega)]
    have hlen : (l4 ++ [x % 10 + 48]).length * 1 ≤ 140737488355328 := by
      rw [List.length_append, k3, List.length_append, asc_len, digN_length, List.length_singleton]; omega
    have next : k < 9 → 0 < x ∨ 0 < v / 1000000000 → k + 1 ≤ 9 ∧ x / 10 = r / 10 ^ (k + 1) ∧ l4 ++ [x % 10 + 48] = l3 ++ asc (digN 10 (k + 1) r) ∧ (0 < v / 1000000000 ∨ k + 1 = 0 ∨ 0 < r / 10 ^ (k + 1 - 1)) := by
      intro hk hor
      refine ⟨by omega, ?_, ?_, ?_⟩
      · rw [k2, Int.pow_succ, Int.ediv_ediv_of_nonneg (by omega)]
      · rw [k3, digN_succ (by decide), asc_app, List.append_assoc, k2]; rfl
      · rw [Nat.add_sub_cancel, ← k2]; omega
    have fin : (0 < v / 1000000000 → k = 9) → (¬ 0 < v / 1000000000 → x = 0) → l4 = l3 ++ asc (if 0 < v / 1000000000 then digN 10 9 v else limbs 10 v) := by
      intro f1 f2
      rw [k3]
      by_cases hb : 0 < v / 1000000000
      · rw [if_pos hb, f1 hb, ← hr]
        have := digN_emod (B := 10) (by decide) 9 v
        rw [show (10 : Int) ^ 9 = 1000000000 from rfl] at this
        rw [this]
      · rw [if_neg hb]
        have hvr : r = v := by omega
        have hx := f2 hb
        rw [hvr] at k2 k4 ⊢
        have hlt : v < 10 ^ k := by
          refine Int.not_le.1 (fun hc => ?_)
          have : 1 ≤ v / 10 ^ k := (Int.le_ediv_iff_mul_le hp).2 (by omega)
          omega
        rw [← limbs_of (by decide) hv hlt, strip_of_last]
        rcases k4 with k4 | k4 | k4
        · exact absurd k4 hb
        · rw [k4]; simp [digN]
        · cases k with
          | zero => simp [digN]
          | succ k =>
            rw [digN_succ (by decide), List.getLast?_append]
            rw [Nat.add_sub_cancel] at k4
            have : v / 10 ^ k < 10 := by
              have hp2 : (0 : Int) < 10 ^ k := Int.pow_pos (by decide)
              refine Int.ediv_lt_of_lt_mul hp2 ?_
              rw [Int.mul_comm, ← Int.pow_succ]; exact hlt
            have : v / 10 ^ k % 10 ≠ 0 := by omega
            simpa using this
    rw [ew, ed2]
    by_cases hk : k < 9
    · rw [decide_eq_true (show (k : Int) < 9 by omega), decide_eq_true hlen, wi_succ (show k < 4611686018427387904 by omega)]
      by_cases hb : 0 < v / 1000000000
      · rw [decide_eq_true (hnl.2 hb)]
        simp only [Bool.and_self, cond_true, lands_some, Turns3]
        exact ⟨_, k + 1, _, rfl, next hk (.inr hb), by omega⟩
      · rw [decide_eq_false (fun h => hb (hnl.1 h))]
        by_cases hx : x > 0
        · rw [decide_eq_true hx]
          simp only [Bool.and_self, cond_true, cond_false, lands_some, Turns3]
          exact ⟨_, k + 1, _, rfl, next hk (.inl hx), by omega⟩
        · rw [decide_eq_false hx]
          simp only [cond_true, cond_false, lands_some, Turns3]
          exact ⟨trivial, _, _, by rw [fin (fun h => absurd h hb) (fun _ => by omega)]⟩
    · rw [decide_eq_false (show ¬ (k : Int) < 9 by omega)]
      simp only [cond_false, lands_some, Turns3]
      have h9 : k = 9 := by omega
      have hx0 : x = 0 := by
        rw [k2, h9, show (10 : Int) ^ 9 = 1000000000 from rfl]
        omega
      exact ⟨trivial, _, _, by rw [fin (fun _ => h9) (fun _ => hx0)]⟩
  · exact ⟨by omega, by simp, by simp [digN, asc], .inr (.inl rfl)⟩
theorem outer (s : Bool) (l : List Int) (V : Int) (hV : 0 ≤ V) (hd : (limbs 10 V).length ≤ 20000) (hl : l = limbs 4294967296 V) (hlen : (limbs 4294967296 V).length ≤ 10000) :
    ∃ e S1, Ends T orc L0 D0 (st0 s l l []) e S1 ∧ (e = .exit 0 ∧ ∃ m, S1 = st0 s l m (asc (limbs 10 V))) := by
  have key := loop_inv2 (T := T) (orc := orc) (L := L0) (D := D0) (fun (v : Int) l3 => st0 s l (limbs 4294967296 v) l3) (fun v l3 => 0 ≤ v ∧ v ≤ V ∧ ∃ ds, l3 = asc ds ∧ ds ++ limbs 10 v = limbs 10 V) (fun v l3 => v.toNat)
    (fun e S1 => e = .exit 0 ∧ ∃ m, S1 = st0 s l m (asc (limbs 10 V))) isL0 ?_ V [] ⟨hV, Int.le_refl _, [], rfl, rfl⟩
  · rw [← hl] at key; exact key
  · intro v l3 ⟨v0, v1, ds, hds, hap⟩
    have hdl : ds.length ≤ 20000 := by
      have := congrArg List.length hap
      rw [List.length_append] at this
      omega
    have hvl : val 4294967296 (limbs 4294967296 v) = v := limbs_val W_two v0
    by_cases hv : v = 0
    · subst hv
      refine ⟨_, tabOf_all _, lands_of (round0 s l _ l3 [] 0 0) ?_⟩
      have e0 : limbs 4294967296 0 = [] := rfl
      have e1 : limbs 10 0 = [] := rfl
      rw [e0]
      simp only [List.length_nil, lands_bif, lands_some, lands_none, Turns1, Turns2, Turns3, Turns4, Turns5, Turns6, Turns7, Turns8, eq_bif, Option.some.injEq, reduceCtorEq, cond_true, cond_false, Bool.eq_false_iff, ne_eq, inB_iff, decide_eq_true_eq, Bool.and_eq_true, Bool.or_eq_true, Bool.not_eq_true', beq_iff_eq, bne_iff_ne, true_and, and_true, true_implies, implies_true, not_true_eq_false, not_false_eq_true, false_implies, few_iff]
      refine ⟨fun h => absurd h (by decide), fun _ => ⟨[], ?_⟩⟩
      rw [e1, List.append_nil] at hap
      rw [← hap, hds]
    · obtain ⟨e1, S1, hE1, rfl, x, k, rfl⟩ := inner s l v l3 v0 (by rw [hds, asc_len]; omega)
      refine ⟨_, tabOf_all _, lands_of (round0 s l _ l3 (l3 ++ asc (if 0 < v / 1000000000 then digN 10 9 v else limbs 10 v)) x k) ?_⟩
      have hne : limbs 4294967296 v ≠ [] := fun h => hv ((limbs_nil W_two v0).1 h)
      have hpos := List.length_pos_iff.2 hne
      have hfew : few (limbs 4294967296 v) = true := by
        refine few_iff.2 ?_
        have := limbs_length W_two v0 (n := (limbs 4294967296 V).length) (by
          have := val_lt W_pos (limbs_ok W_pos V)
          rw [limbs_val W_two hV] at this
          omega)
        omega
      rw [hvl, hfew, limbs_ok W_pos, decide_eq_true (show ((limbs 4294967296 v).length : Int) > 0 by omega), cdec_true hE1]
      simp only [Bool.and_self, cond_true, lands_some, Turns2]
      refine ⟨v / 1000000000, _, rfl, ⟨by omega, by omega, ds ++ (if 0 < v / 1000000000 then digN 10 9 v else limbs 10 v), by rw [hds, asc_app], ?_⟩, by omega⟩
      rw [← hap, List.append_assoc]
      congr 1
      by_cases hb : 0 < v / 1000000000
      · rw [if_pos hb]
        exact (limbs_split (by decide) v0 9 hb).symm
      · rw [if_neg hb, show v / 1000000000 = 0 by omega]
        exact List.append_nil _
/-- A row turned about in its place. -/
def Turned (L : List Int) (i : Nat) (l : List Int) : Prop := l.length = L.length ∧ ∀ k, k < L.length → l.getD k 0 = if k < i ∨ L.length < i + k + 1 then L.getD (L.length - 1 - k) 0 else L.getD k 0
theorem turned_next {L l : List Int} {i : Nat} (h : Turned L i l) (hi : i + i + 1 < L.length) : Turned L (i + 1) ((l.set i (l.getD (L.length - 1 - i) 0)).set (L.length - 1 - i) (l.getD i 0)) := by
  obtain ⟨h1, h2⟩ := h
  refine ⟨by simp [h1], fun k hk => ?_⟩
  by_cases e1 : k = L.length - 1 - i
  · subst e1
    rw [getD_set_self (by rw [List.length_set]; omega), h2 i (by omega), if_neg (by omega), if_pos (by omega)]
    congr 1; omega
  · rw [getD_set_ne (Ne.symm e1)]
    by_cases e2 : k = i
    · subst e2
      rw [getD_set_self (by omega), h2 _ (by omega), if_neg (by omega), if_pos (by omega)]
    · rw [getD_set_ne (Ne.symm e2), h2 k hk]
      by_cases e3 : k < i ∨ L.length < i + k + 1
      · rw [if_pos e3, if_pos (by omega)]
      · rw [if_neg e3, if_neg (by omega)]
theorem turned_end {L l : List Int} {i : Nat} (h : Turned L i l) (hi : L.length ≤ i + i + 1) : l = L.reverse := by
  obtain ⟨h1, h2⟩ := h
  apply List.ext_getElem (by simp [h1])
  intro k q1 q2
  have := h2 k (by omega)
  rw [getD_at q1] at this
  rw [this, List.getElem_reverse]
  by_cases e : k < i ∨ L.length < i + k + 1
  · rw [if_pos e, getD_at (by omega)]
  · rw [if_neg e, getD_at (by omega)]
    congr 1; omega
theorem turned_zero (L : List Int) : Turned L 0 L := ⟨rfl, fun k hk => by rw [if_neg (by omega)]⟩
theorem turn (s : Bool) (l m l7 : List Int) (L : List Int) (hL : L.length ≤ 100000) :
    ∃ e S1, Ends T orc L2 D2 (st2 s l m 0 ((L.length : Int) - 1) l7 L) e S1 ∧ (e = .exit 4 ∧ ∃ x y, S1 = st2 s l m x y l7 L.reverse) := by
  refine loop_inv2 (fun (i : Nat) l8 => st2 s l m i ((L.length : Int) - 1 - i) l7 l8) (fun i l8 => Turned L i l8 ∧ i ≤ L.length) (fun i l8 => L.length - i)
    (fun e S1 => e = .exit 4 ∧ ∃ x y, S1 = st2 s l m x y l7 L.reverse) isL2 ?_ 0 L ⟨turned_zero L, by omega⟩ |> fun h => by simpa using h
  intro i l8 ⟨h, hi⟩
  refine ⟨noTab, noTab_all, lands_of (round2 ..) ?_⟩
  have hl := h.1
  by_cases hc : i + i + 1 < L.length
  · have e1 : ((L.length : Int) - 1 - i) = ((L.length - 1 - i : Nat) : Int) := by omega
    have e2 : IntKind.i64.wrap (((L.length - 1 - i : Nat) : Int) - 1) = (L.length : Int) - 1 - ((i + 1 : Nat) : Int) := by rw [w64 (by omega) (by omega)]; omega
    rw [e1, e2, wi_succ (show i < 4611686018427387904 by omega), decide_eq_true (show (i : Int) < ((L.length - 1 - i : Nat) : Int) by omega)]
    simp only [lands_bif, lands_some, lands_none, Turns1, Turns2, Turns3, Turns4, Turns5, Turns6, Turns7, Turns8, eq_bif, Option.some.injEq, reduceCtorEq, cond_true, cond_false, Bool.eq_false_iff, ne_eq, inB_iff, decide_eq_true_eq, Bool.and_eq_true, Bool.or_eq_true, Bool.not_eq_true', beq_iff_eq, bne_iff_ne, true_and, and_true, true_implies, implies_true, not_true_eq_false, not_false_eq_true, false_implies, few_iff, List.length_set]
    simp only [rd_toNat, Int.toNat_natCast]
    repeat' (first | apply And.intro | intro _)
    all_goals try omega
    exact ⟨i + 1, _, rfl, ⟨turned_next h hc, by omega⟩, by omega⟩
  · rw [decide_eq_false (show ¬ (i : Int) < ((L.length : Int) - 1 - i) by omega)]
    simp only [cond_false, lands_some, Turns2]
    exact ⟨trivial, _, _, by rw [turned_end h (by omega)]⟩
theorem turna (s : Bool) (l m l7 : List Int) (L : List Int) (hL : L.length ≤ 100000) :
    ∃ e S1, Ends T orc L2a D2a (st2a s l m 0 ((L.length : Int) - 1) l7 L) e S1 ∧ (e = .exit 4 ∧ ∃ x y, S1 = st2a s l m x y l7 L.reverse) := by
  refine loop_inv2 (fun (i : Nat) l8 => st2a s l m i ((L.length : Int) - 1 - i) l7 l8) (fun i l8 => Turned L i l8 ∧ i ≤ L.length) (fun i l8 => L.length - i)
    (fun e S1 => e = .exit 4 ∧ ∃ x y, S1 = st2a s l m x y l7 L.reverse) isL2a ?_ 0 L ⟨turned_zero L, by omega⟩ |> fun h => by simpa using h
  intro i l8 ⟨h, hi⟩
  refine ⟨noTab, noTab_all, lands_of (round2a ..) ?_⟩
  have hl := h.1
  by_cases hc : i + i + 1 < L.length
  · have e1 : ((L.length : Int) - 1 - i) = ((L.length - 1 - i : Nat) : Int) := by omega
    have e2 : IntKind.i64.wrap (((L.length - 1 - i : Nat) : Int) - 1) = (L.length : Int) - 1 - ((i + 1 : Nat) : Int) := by rw [w64 (by omega) (by omega)]; omega
    rw [e1, e2, wi_succ (show i < 4611686018427387904 by omega), decide_eq_true (show (i : Int) < ((L.length - 1 - i : Nat) : Int) by omega)]
    simp only [lands_bif, lands_some, lands_none, Turns1, Turns2, Turns3, Turns4, Turns5, Turns6, Turns7, Turns8, eq_bif, Option.some.injEq, reduceCtorEq, cond_true, cond_false, Bool.eq_false_iff, ne_eq, inB_iff, decide_eq_true_eq, Bool.and_eq_true, Bool.or_eq_true, Bool.not_eq_true', beq_iff_eq, bne_iff_ne, true_and, and_true, true_implies, implies_true, not_true_eq_false, not_false_eq_true, false_implies, few_iff, List.length_set]
    simp only [rd_toNat, Int.toNat_natCast]
    repeat' (first | apply And.intro | intro _)
    all_goals try omega
    exact ⟨i + 1, _, rfl, ⟨turned_next h hc, by omega⟩, by omega⟩
  · rw [decide_eq_false (show ¬ (i : Int) < ((L.length : Int) - 1 - i) by omega)]
    simp only [cond_false, lands_some, Turns2]
    exact ⟨trivial, _, _, by rw [turned_end h (by omega)]⟩
end Text
theorem asc_dig (l : List Int) : (asc l).reverse = dig l := by
  unfold asc dig
  rw [List.map_reverse]
theorem small_digits {z : Int} (h : z.natAbs < Lim) : (limbs 10 (az z)).length ≤ 10000 := lb10_length h
theorem meets_text : Meets Try.prog 26 ansText := by
  refine meets_fn (orc_ok (l := Text.ans) ⟨meets_part, trivial⟩) Try.f26 Try.func26 (by kernel_rfl) (fun args r h => ?_)
  unfold ansText at h
  split at h
  · rename_i s l
    simp only [Option.some.injEq, Prod.mk.injEq] at h
    obtain ⟨h, rfl⟩ := h
    obtain ⟨z, hs, hl, hz⟩ := (cn_iff W_two).1 h
    have nz : num 4294967296 s l = z := by rw [hs, hl]; exact num_lbW z
    rw [nz]
    refine ⟨rfl, ?_⟩
    by_cases h0 : z = 0
    · refine ⟨_, tabOf_all _, (Text.rest s l [] [] [] 0 0 [] 0 0).trans ?_⟩
      rw [hl, h0]
      have : (((lb 4294967296 0).length : Int) == 0) = true := rfl
      have ht : txt 0 = ⟨#[48]⟩ := by kernel_rfl
      rw [this, cond_true, ht]
    · have hn : lb 4294967296 z ≠ [] := fun h => h0 ((lb_nil W_two).1 h)
      have hlz : l = limbs 4294967296 (az z) := hl
      have hlp : 0 < l.length := by rw [hl]; exact List.length_pos_iff.2 hn
      have hd := small_digits hz
      have hlw : (limbs 4294967296 (az z)).length ≤ 1100 := lb_length hz
      obtain ⟨e1, S1, hE1, rfl, m, rfl⟩ := Text.outer s l (az z) (az_nonneg z) (by omega) hlz (by omega)
      have hne : ((l.length : Int) == 0) = false := by rw [beq_eq_false_iff_ne]; omega
      have htx : txtL z = (if z < 0 then [45] else []) ++ dig (limbs 10 (az z)) := by unfold txtL; rw [if_neg h0]; rfl
      have hal : (asc (limbs 10 (az z))).length ≤ 10000 := by rw [asc_len]; exact hd
      by_cases hneg : z < 0
      · have hs1 : s = true := by rw [hs]; exact decide_eq_true hneg
        obtain ⟨e2, S2, hE2, rfl, x, y, rfl⟩ := Text.turn s l m (asc (limbs 10 (az z))) (asc (limbs 10 (az z)) ++ [45]) (by rw [List.length_append, List.length_singleton]; omega)
        refine ⟨_, tabOf_all _, (Text.rest s l [] m (asc (limbs 10 (az z))) 0 0 ((asc (limbs 10 (az z)) ++ [45]).reverse) x y).trans ?_⟩
        have hw : IntKind.i64.wrap (((asc (limbs 10 (az z)) ++ [45]).length : Int) - 1) = ((asc (limbs 10 (az z)) ++ [45]).length : Int) - 1 := by
          rw [w64 (by omega) (by rw [List.length_append, List.length_singleton]; omega)]
        have hlen : ((asc (limbs 10 (az z)) ++ [45]).length * 1 ≤ 140737488355328) := by rw [List.length_append, List.length_singleton]; omega
        rw [hne, cdec_true hE1, hw, cdec_true hE2, decide_eq_true hlen]
        have ht : (asc (limbs 10 (az z)) ++ [45]).reverse = txtL z := by rw [htx, if_pos hneg, List.reverse_append, asc_dig]; rfl
        rw [ht, hs1]
        rfl
      · have hs1 : s = false := by rw [hs]; exact decide_eq_false hneg
        obtain ⟨e2, S2, hE2, rfl, x, y, rfl⟩ := Text.turna s l m (asc (limbs 10 (az z))) (asc (limbs 10 (az z))) (by omega)
        refine ⟨_, tabOf_all _, (Text.rest s l ((asc (limbs 10 (az z))).reverse) m (asc (limbs 10 (az z))) x y [] 0 0).trans ?_⟩
        have hw : IntKind.i64.wrap (((asc (limbs 10 (az z))).length : Int) - 1) = ((asc (limbs 10 (az z))).length : Int) - 1 := by
          rw [w64 (by omega) (by omega)]
        rw [hne, cdec_true hE1, hw, cdec_true hE2]
        have ht : (asc (limbs 10 (az z))).reverse = txtL z := by rw [htx, if_neg hneg, asc_dig]; rfl
        rw [ht, hs1]
        rfl
  · cases h
end Go.Abs
end
section
/- What arith.Parse answers. -/
namespace Go.Abs
open Go.Proofs Go.Dig
theorem bytes_len (s : ByteArray) : (bytesOf s).length = s.size := by
  unfold bytesOf
  rw [List.length_map]
  rfl
theorem bt_nat (s : ByteArray) (i : Nat) : bt s (i : Int) = (bytesOf s).getD i 0 := by
  unfold bt bytesOf
  rw [Int.toNat_natCast, List.getD_eq_getElem?_getD, List.getD_eq_getElem?_getD, List.getElem?_map]
  cases s.data.toList[i]? <;> rfl
theorem bytes_extract (s : ByteArray) (a b : Nat) : bytesOf (s.extract a b) = ((bytesOf s).take b).drop a := by
  unfold bytesOf
  rw [ByteArray.data_extract, Array.toList_extract, ← List.map_take, ← List.map_drop]
  congr 1
  simp [List.extract, List.drop_take]
theorem dval_app (l m : List Int) : dval (l ++ m) = dval l * 10 ^ m.length + dval m := by
  unfold dval
  rw [List.reverse_append, List.map_append, val_append, List.length_map, List.length_reverse, Int.mul_comm]
  omega
theorem dval_one (c : Int) : dval [c] = c - 48 := by simp [dval, val]
theorem dig_iff {c : Int} : isDig c = true ↔ 48 ≤ c ∧ c ≤ 57 := by unfold isDig; simp
theorem dval_bound : ∀ (l : List Int), l.all isDig = true → 0 ≤ dval l ∧ dval l < 10 ^ l.length := by
  intro l h
  have ok : okB 10 (l.reverse.map (· - 48)) = true := by
    refine okB_iff.2 (fun d hd => ?_)
    obtain ⟨c, hc, rfl⟩ := List.mem_map.1 hd
    have := dig_iff.1 (List.all_eq_true.1 h c (List.mem_reverse.1 hc))
    omega
  have h1 := val_lt (by decide) ok
  rw [List.length_map, List.length_reverse] at h1
  exact ⟨val_nonneg (by decide) ok, h1⟩
theorem all_take {l : List Int} (h : l.all isDig = true) (n : Nat) : (l.take n).all isDig = true := List.all_eq_true.2 fun x hx => List.all_eq_true.1 h x (List.mem_of_mem_take hx)
theorem all_drop {l : List Int} (h : l.all isDig = true) (n : Nat) : (l.drop n).all isDig = true := List.all_eq_true.2 fun x hx => List.all_eq_true.1 h x (List.mem_of_mem_drop hx)
theorem pow10_le {k : Nat} (h : k ≤ 9) : (1 : Int) ≤ 10 ^ k ∧ (10 : Int) ^ k ≤ 1000000000 := by
  have h1 : (10 : Int) ^ k * 10 ^ (9 - k) = 1000000000 := by rw [← Int.pow_add, show k + (9 - k) = 9 by omega]; rfl
  have h2 : (0 : Int) < 10 ^ k := Int.pow_pos (by decide)
  have h3 : (0 : Int) < 10 ^ (9 - k) := Int.pow_pos (by decide)
  refine ⟨by omega, ?_⟩
  have : (10 : Int) ^ k * 1 ≤ 10 ^ k * 10 ^ (9 - k) := Int.mul_le_mul_of_nonneg_left (by omega) (by omega)
  omega
theorem scaleL_ok (l : List Int) (m a : Int) : okB 4294967296 (scaleL l m a) = true := by
  unfold scaleL
  cases decide (val 4294967296 l * m + a < 4294967296 ^ l.length) <;> exact digN_ok W_pos _ _
theorem scaleL_len (l : List Int) (m a : Int) : (scaleL l m a).length ≤ l.length + 1 := by
  unfold scaleL
  cases decide (val 4294967296 l * m + a < 4294967296 ^ l.length) <;> simp only [cond_true, cond_false] <;> rw [digN_length] <;> omega
theorem scaleL_val {l : List Int} {m a : Int} (ol : okB 4294967296 l = true) (hm : 0 ≤ m ∧ m < 4294967296) (ha : 0 ≤ a ∧ a < 4294967296) : val 4294967296 (scaleL l m a) = val 4294967296 l * m + a := by
  have v0 := val_nonneg W_pos ol
  have v1 := val_lt W_pos ol
  have h0 : 0 ≤ val 4294967296 l * m := Int.mul_nonneg v0 hm.1
  have hP : (0 : Int) < 4294967296 ^ l.length := Int.pow_pos (by decide)
  unfold scaleL
  by_cases h : val 4294967296 l * m + a < 4294967296 ^ l.length
  · rw [decide_eq_true h]
    exact val_digN W_pos _ _ (by omega) h
  · rw [decide_eq_false h]
    refine val_digN W_pos _ _ (by omega) ?_
    rw [Int.pow_succ]
    have h1 : val 4294967296 l * m ≤ (4294967296 ^ l.length - 1) * 4294967295 := Int.mul_le_mul (by omega) (by omega) hm.1 (by omega)
    rw [Int.sub_mul] at h1
    omega
theorem min_eq (n i : Nat) (hn : n ≤ 100000) (hi : i ≤ n) : (bif false then if (n : Int) > IntKind.i64.wrap ((i : Int) + 9) then (n : Int) else IntKind.i64.wrap ((i : Int) + 9) else if (n : Int) < IntKind.i64.wrap ((i : Int) + 9) then (n : Int) else IntKind.i64.wrap ((i : Int) + 9)) = ((min (i + 9) n : Nat) : Int) := by
  rw [w64 (by omega) (by omega)]
  simp only [cond_false]
  split <;> omega
namespace Parse
theorem validA (s : ByteArray) (hD : s.size ≤ 10000) (b6 b7 b8 : Bool) :
    ∃ e S1, Ends T orc L0a D0a (st0a s b6 b7 b8 0) e S1 ∧ ((e = .exit 0 ∧ (bytesOf s).all isDig = true ∧ ∃ x, S1 = st0a s b6 b7 b8 x) ∨ (e = .ret ∧ (bytesOf s).all isDig = false ∧ ∃ x, S1 = st0ax0 s 10 b6 b7 b8 x)) := by
  refine loop_inv1 (fun (i : Nat) => st0a s b6 b7 b8 i) (fun i => i ≤ s.size ∧ ((bytesOf s).take i).all isDig = true) (fun i => s.size - i)
    (fun e S1 => (e = .exit 0 ∧ (bytesOf s).all isDig = true ∧ ∃ x, S1 = st0a s b6 b7 b8 x) ∨ (e = .ret ∧ (bytesOf s).all isDig = false ∧ ∃ x, S1 = st0ax0 s 10 b6 b7 b8 x)) isL0a ?_ 0 ⟨by omega, rfl⟩
  intro i ⟨h1, h2⟩
  refine ⟨noTab, noTab_all, lands_of (round0a ..) ?_⟩
  have hlen := bytes_len s
  by_cases hi : i < s.size
  · have hmem : (bytesOf s).getD i 0 ∈ bytesOf s := by rw [getD_at (by omega)]; exact List.getElem_mem _
    have bad : isDig ((bytesOf s).getD i 0) = false → (bytesOf s).all isDig = false := by
      intro hb
      rw [Bool.eq_false_iff]
      intro hall
      rw [List.all_eq_true.1 hall _ hmem] at hb
      cases hb
    simp only [lands_bif, lands_some, lands_none, Turns1, Turns2, Turns3, Turns4, Turns5, Turns6, Turns7, Turns8, eq_bif, Option.some.injEq, reduceCtorEq, cond_true, cond_false, Bool.eq_false_iff, ne_eq, inB_iff, decide_eq_true_eq, Bool.and_eq_true, Bool.or_eq_true, Bool.not_eq_true', beq_iff_eq, bne_iff_ne, true_and, and_true, true_implies, implies_true, not_true_eq_false, not_false_eq_true, false_implies, few_iff, bt_nat, wi_succ (show i < 4611686018427387904 by omega)]
    repeat' (first | apply And.intro | intro _)
    all_goals try omega
    · refine .inr ⟨Bool.eq_false_iff.1 (bad ?_), _, rfl⟩
      rw [Bool.eq_false_iff, ne_eq, dig_iff]; omega
    · refine .inr ⟨Bool.eq_false_iff.1 (bad ?_), _, rfl⟩
      rw [Bool.eq_false_iff, ne_eq, dig_iff]; omega
    · refine ⟨i + 1, rfl, ⟨by omega, ?_⟩, by omega⟩
      rw [take_succ_getD _ (by omega), List.all_append, h2, Bool.true_and]
      simp only [List.all_cons, List.all_nil, Bool.and_true]
      rw [dig_iff]; omega
  · obtain rfl : i = s.size := by omega
    rw [decide_eq_false (by omega)]
    simp only [cond_false, lands_some, Turns1]
    rw [List.take_of_length_le (by omega)] at h2
    exact .inl ⟨trivial, h2, _, rfl⟩
theorem pieceA (s : ByteArray) (i : Nat) (l0 : List Int) (b12 b13 b14 : Bool) (x8 : Int) (hD : s.size ≤ 10000) (hi : i ≤ s.size) (hall : (bytesOf s).all isDig = true) (a : List Int) (ha : a = ((bytesOf s).drop i).take 9) :
    ∃ e S1, Ends T orc L2 D2 (st2 s b12 i 0 1 b13 b14 x8 0 l0) e S1 ∧ (e = .exit 4 ∧ S1 = (st2 s b12 i (dval a) (10 ^ a.length) b13 b14 x8 (a.length : Nat) l0)) := by
  have hlen := bytes_len s
  have hm := min_eq s.size i (by omega) hi
  have hex : bytesOf (s.extract i (min (i + 9) s.size)) = a := by
    rw [bytes_extract, ha, List.take_drop]
    by_cases h9 : i + 9 ≤ s.size
    · rw [Nat.min_eq_left h9]
    · rw [Nat.min_eq_right (by omega), List.take_of_length_le (by omega), List.take_of_length_le (by omega)]
  have hsz : (s.extract i (min (i + 9) s.size)).size = a.length := by rw [← bytes_len, hex]
  have hal : a.length ≤ 9 := by rw [ha, List.length_take]; omega
  have haall : a.all isDig = true := by rw [ha]; exact all_take (all_drop hall i) 9
  refine loop_inv1 (fun (k : Nat) => (st2 s b12 i (dval (a.take k)) (10 ^ k) b13 b14 x8 k l0)) (fun k => k ≤ a.length) (fun k => a.length - k)
    (fun e S1 => e = .exit 4 ∧ S1 = (st2 s b12 i (dval a) (10 ^ a.length) b13 b14 x8 (a.length : Nat) l0)) isL2 ?_ 0 (by omega)
  intro k hk
  refine ⟨noTab, noTab_all, lands_of (round2 ..) ?_⟩
  rw [hm, Int.toNat_natCast, Int.toNat_natCast, hsz]
  by_cases hk2 : k < a.length
  · have hc := dig_iff.1 (List.all_eq_true.1 haall (a.getD k 0) (by rw [getD_at hk2]; exact List.getElem_mem _))
    obtain ⟨d0, d1⟩ := dval_bound _ (all_take haall k)
    rw [List.length_take, Nat.min_eq_left hk] at d1
    obtain ⟨p1, p2⟩ := pow10_le (show k ≤ 9 by omega)
    obtain ⟨q1, q2⟩ := pow10_le (show k + 1 ≤ 9 by omega)
    have hb : bt (s.extract i (min (i + 9) s.size)) (k : Int) = a.getD k 0 := by rw [bt_nat, hex]
    have e1 : IntKind.u8.wrap (a.getD k 0 - 48) = a.getD k 0 - 48 := IntWalk.u8_in _ ⟨by omega, by omega⟩
    have e2 : dval (a.take (k + 1)) = dval (a.take k) * 10 + (a.getD k 0 - 48) := by
      rw [take_succ_getD a hk2, dval_app, dval_one]; rfl
    have hk8 : k ≤ 8 := by omega
    obtain ⟨_, p3⟩ := pow10_le (show k + 1 ≤ 9 by omega)
    rw [Int.pow_succ] at q2 p3
    rw [hb, e1, wu32 (n := a.getD k 0 - 48) (by omega) (by omega), wu32 (n := dval (a.take k) * 10) (by omega) (by omega), wu32 (n := dval (a.take k) * 10 + (a.getD k 0 - 48)) (by omega) (by omega), wu32 (n := (10 : Int) ^ k * 10) (by omega) (by omega), ← e2, ← Int.pow_succ, wi_succ (show k < 4611686018427387904 by omega), decide_eq_true (show (k : Int) < (a.length : Int) by omega), bT (inB_iff.2 (by omega))]
    simp only [cond_true, lands_some, Turns1]
    exact ⟨k + 1, rfl, by omega, by omega⟩
  · obtain rfl : k = a.length := by omega
    rw [decide_eq_false (by omega), List.take_length]
    simp only [cond_false, lands_some, Turns1]
    exact ⟨trivial, trivial⟩
theorem mainA (s : ByteArray) (b12 b13 b14 : Bool) (x8 : Int) (hD : s.size ≤ 10000) (hall : (bytesOf s).all isDig = true) :
    ∃ e S1, Ends T orc L1 D1 (st1 s b12 0 b13 b14 x8 []) e S1 ∧ (e = .exit 2 ∧ ∃ x l, S1 = (st1 s b12 x b13 b14 x8 l) ∧ okB 4294967296 l = true ∧ l.length ≤ 20000 ∧ val 4294967296 l = dval (bytesOf s)) := by
  have hlen := bytes_len s
  refine loop_inv2 (fun (i : Nat) l0 => (st1 s b12 i b13 b14 x8 l0)) (fun i l0 => okB 4294967296 l0 = true ∧ l0.length ≤ i ∧ i ≤ s.size + 9 ∧ val 4294967296 l0 = dval ((bytesOf s).take i)) (fun i l0 => s.size + 9 - i)
    (fun e S1 => e = .exit 2 ∧ ∃ x l, S1 = (st1 s b12 x b13 b14 x8 l) ∧ okB 4294967296 l = true ∧ l.length ≤ 20000 ∧ val 4294967296 l = dval (bytesOf s)) isL1 ?_ 0 [] ⟨rfl, by simp, by omega, rfl⟩
  intro i l0 ⟨h1, h2, h3, h4⟩
  by_cases hi : i < s.size
  · obtain ⟨a, ha⟩ : ∃ a, a = ((bytesOf s).drop i).take 9 := ⟨_, rfl⟩
    obtain ⟨e1, S1, hE1, rfl, rfl⟩ := pieceA s i l0 b12 b13 b14 x8 hD (by omega) hall a ha
    obtain ⟨m, hm9⟩ : ∃ m, a.length = m := ⟨_, rfl⟩
    rw [hm9] at hE1
    refine ⟨_, tabOf_all _, lands_of (round1 s b12 i b13 b14 x8 l0 (10 ^ m) (dval a) m) ?_⟩
    have hm := min_eq s.size i (by omega) (by omega)
    have hal : a.length ≤ 9 := by rw [ha, List.length_take]; omega
    have haall : a.all isDig = true := by rw [ha]; exact all_take (all_drop hall i) 9
    obtain ⟨d0, d1⟩ := dval_bound _ haall
    obtain ⟨p1, p2⟩ := pow10_le hal
    rw [hm9] at d1 p1 p2
    have ew : IntKind.i64.wrap ((i : Int) + 9) = ((i + 9 : Nat) : Int) := by rw [w64 (by omega) (by omega)]; omega
    rw [hm, cdec_true hE1, decide_eq_true (show (i : Int) < (s.size : Int) by omega), decide_eq_true (show (0 : Int) ≤ (i : Int) by omega), decide_eq_true (show (i : Int) ≤ ((min (i + 9) s.size : Nat) : Int) by omega), decide_eq_true (show ((min (i + 9) s.size : Nat) : Int) ≤ (s.size : Int) by omega), h1, few_iff.2 (show l0.length ≤ 100000 by omega), decide_eq_true (show (0 : Int) ≤ 10 ^ m by omega), decide_eq_true (show (10 : Int) ^ m < 4294967296 by omega), decide_eq_true d0, decide_eq_true (show dval a < 4294967296 by omega), ew]
    simp only [Bool.and_self, cond_true, lands_some, Turns2]
    have hsl := scaleL_len l0 (10 ^ m) (dval a)
    refine ⟨i + 9, _, rfl, ⟨scaleL_ok _ _ _, by omega, by omega, ?_⟩, by omega⟩
    rw [scaleL_val h1 ⟨by omega, by omega⟩ ⟨d0, by omega⟩, h4, List.take_add, ← ha, dval_app, hm9]
  · refine ⟨_, tabOf_all _, lands_of (round1 s b12 i b13 b14 x8 l0 1 0 0) ?_⟩
    rw [decide_eq_false (by omega)]
    simp only [cond_false, lands_some, Turns2]
    rw [List.take_of_length_le (by omega)] at h4
    exact ⟨trivial, _, _, rfl, h1, by omega, h4⟩
theorem validB (s : ByteArray) (hD : (s.extract 1 s.size).size ≤ 10000) (b0 : Bool) :
    ∃ e S1, Ends T orc L0 D0 (st0 s b0 0) e S1 ∧ ((e = .exit 0 ∧ (bytesOf (s.extract 1 s.size)).all isDig = true ∧ ∃ x, S1 = st0 s b0 x) ∨ (e = .ret ∧ (bytesOf (s.extract 1 s.size)).all isDig = false ∧ ∃ x, S1 = st0x0 s 10 b0 x)) := by
  refine loop_inv1 (fun (i : Nat) => st0 s b0 i) (fun i => i ≤ (s.extract 1 s.size).size ∧ ((bytesOf (s.extract 1 s.size)).take i).all isDig = true) (fun i => (s.extract 1 s.size).size - i)
    (fun e S1 => (e = .exit 0 ∧ (bytesOf (s.extract 1 s.size)).all isDig = true ∧ ∃ x, S1 = st0 s b0 x) ∨ (e = .ret ∧ (bytesOf (s.extract 1 s.size)).all isDig = false ∧ ∃ x, S1 = st0x0 s 10 b0 x)) isL0 ?_ 0 ⟨by omega, rfl⟩
  intro i ⟨h1, h2⟩
  refine ⟨noTab, noTab_all, lands_of (round0 ..) ?_⟩
  have hlen := bytes_len (s.extract 1 s.size)
  by_cases hi : i < (s.extract 1 s.size).size
  · have hmem : (bytesOf (s.extract 1 s.size)).getD i 0 ∈ bytesOf (s.extract 1 s.size) := by rw [getD_at (by omega)]; exact List.getElem_mem _
    have bad : isDig ((bytesOf (s.extract 1 s.size)).getD i 0) = false → (bytesOf (s.extract 1 s.size)).all isDig = false := by
      intro hb
      rw [Bool.eq_false_iff]
      intro hall
      rw [List.all_eq_true.1 hall _ hmem] at hb
      cases hb
    simp only [lands_bif, lands_some, lands_none, Turns1, Turns2, Turns3, Turns4, Turns5, Turns6, Turns7, Turns8, eq_bif, Option.some.injEq, reduceCtorEq, cond_true, cond_false, Bool.eq_false_iff, ne_eq, inB_iff, decide_eq_true_eq, Bool.and_eq_true, Bool.or_eq_true, Bool.not_eq_true', beq_iff_eq, bne_iff_ne, true_and, and_true, true_implies, implies_true, not_true_eq_false, not_false_eq_true, false_implies, few_iff, bt_nat, wi_succ (show i < 4611686018427387904 by omega)]
    repeat' (first | apply And.intro | intro _)
    all_goals try omega
    · refine .inr ⟨Bool.eq_false_iff.1 (bad ?_), _, rfl⟩
      rw [Bool.eq_false_iff, ne_eq, dig_iff]; omega
    · refine .inr ⟨Bool.eq_false_iff.1 (bad ?_), _, rfl⟩
      rw [Bool.eq_false_iff, ne_eq, dig_iff]; omega
    · refine ⟨i + 1, rfl, ⟨by omega, ?_⟩, by omega⟩
      rw [take_succ_getD _ (by omega), List.all_append, h2, Bool.true_and]
      simp only [List.all_cons, List.all_nil, Bool.and_true]
      rw [dig_iff]; omega
  · obtain rfl : i = (s.extract 1 s.size).size := by omega
    rw [decide_eq_false (by omega)]
    simp only [cond_false, lands_some, Turns1]
    rw [List.take_of_length_le (by omega)] at h2
    exact .inl ⟨trivial, h2, _, rfl⟩
theorem pieceB (s : ByteArray) (i : Nat) (l0 : List Int) (b15 : Bool) (x23 : Int) (hD : (s.extract 1 s.size).size ≤ 10000) (hi : i ≤ (s.extract 1 s.size).size) (hall : (bytesOf (s.extract 1 s.size)).all isDig = true) (a : List Int) (ha : a = ((bytesOf (s.extract 1 s.size)).drop i).take 9) :
    ∃ e S1, Ends T orc L2a D2a (st2a s i 0 1 b15 x23 0 l0) e S1 ∧ (e = .exit 4 ∧ S1 = (st2a s i (dval a) (10 ^ a.length) b15 x23 (a.length : Nat) l0)) := by
  have hlen := bytes_len (s.extract 1 s.size)
  have hm := min_eq (s.extract 1 s.size).size i (by omega) hi
  have hex : bytesOf ((s.extract 1 s.size).extract i (min (i + 9) (s.extract 1 s.size).size)) = a := by
    rw [bytes_extract, ha, List.take_drop]
    by_cases h9 : i + 9 ≤ (s.extract 1 s.size).size
    · rw [Nat.min_eq_left h9]
    · rw [Nat.min_eq_right (by omega), List.take_of_length_le (by omega), List.take_of_length_le (by omega)]
  have hsz : ((s.extract 1 s.size).extract i (min (i + 9) (s.extract 1 s.size).size)).size = a.length := by rw [← bytes_len, hex]
  have hal : a.length ≤ 9 := by rw [ha, List.length_take]; omega
  have haall : a.all isDig = true := by rw [ha]; exact all_take (all_drop hall i) 9
  refine loop_inv1 (fun (k : Nat) => (st2a s i (dval (a.take k)) (10 ^ k) b15 x23 k l0)) (fun k => k ≤ a.length) (fun k => a.length - k)
    (fun e S1 => e = .exit 4 ∧ S1 = (st2a s i (dval a) (10 ^ a.length) b15 x23 (a.length : Nat) l0)) isL2a ?_ 0 (by omega)
  intro k hk
  refine ⟨noTab, noTab_all, lands_of (round2a ..) ?_⟩
  rw [hm, Int.toNat_natCast, Int.toNat_natCast, hsz]
  by_cases hk2 : k < a.length
  · have hc := dig_iff.1 (List.all_eq_true.1 haall (a.getD k 0) (by rw [getD_at hk2]; exact List.getElem_mem _))
    obtain ⟨d0, d1⟩ := dval_bound _ (all_take haall k)
    rw [List.length_take, Nat.min_eq_left hk] at d1
    obtain ⟨p1, p2⟩ := pow10_le (show k ≤ 9 by omega)
    obtain ⟨q1, q2⟩ := pow10_le (show k + 1 ≤ 9 by omega)
    have hb : bt ((s.extract 1 s.size).extract i (min (i + 9) (s.extract 1 s.size).size)) (k : Int) = a.getD k 0 := by rw [bt_nat, hex]
    have e1 : IntKind.u8.wrap (a.getD k 0 - 48) = a.getD k 0 - 48 := IntWalk.u8_in _ ⟨by omega, by omega⟩
    have e2 : dval (a.take (k + 1)) = dval (a.take k) * 10 + (a.getD k 0 - 48) := by
      rw [take_succ_getD a hk2, dval_app, dval_one]; rfl
    have hk8 : k ≤ 8 := by omega
    obtain ⟨_, p3⟩ := pow10_le (show k + 1 ≤ 9 by omega)
    rw [Int.pow_succ] at q2 p3
    rw [hb, e1, wu32 (n := a.getD k 0 - 48) (by omega) (by omega), wu32 (n := dval (a.take k) * 10) (by omega) (by omega), wu32 (n := dval (a.take k) * 10 + (a.getD k 0 - 48)) (by omega) (by omega), wu32 (n := (10 : Int) ^ k * 10) (by omega) (by omega), ← e2, ← Int.pow_succ, wi_succ (show k < 4611686018427387904 by omega), decide_eq_true (show (k : Int) < (a.length : Int) by omega), bT (inB_iff.2 (by omega))]
    simp only [cond_true, lands_some, Turns1]
    exact ⟨k + 1, rfl, by omega, by omega⟩
  · obtain rfl : k = a.length := by omega
    rw [decide_eq_false (by omega), List.take_length]
    simp only [cond_false, lands_some, Turns1]
    exact ⟨trivial, trivial⟩
theorem mainB (s : ByteArray) (b15 : Bool) (x23 : Int) (hD : (s.extract 1 s.size).size ≤ 10000) (hall : (bytesOf (s.extract 1 s.size)).all isDig = true) :
    ∃ e S1, Ends T orc L1a D1a (st1a s 0 b15 x23 []) e S1 ∧ (e = .exit 2 ∧ ∃ x l, S1 = (st1a s x b15 x23 l) ∧ okB 4294967296 l = true ∧ l.length ≤ 20000 ∧ val 4294967296 l = dval (bytesOf (s.extract 1 s.size))) := by
  have hlen := bytes_len (s.extract 1 s.size)
  refine loop_inv2 (fun (i : Nat) l0 => (st1a s i b15 x23 l0)) (fun i l0 => okB 4294967296 l0 = true ∧ l0.length ≤ i ∧ i ≤ (s.extract 1 s.size).size + 9 ∧ val 4294967296 l0 = dval ((bytesOf (s.extract 1 s.size)).take i)) (fun i l0 => (s.extract 1 s.size).size + 9 - i)
    (fun e S1 => e = .exit 2 ∧ ∃ x l, S1 = (st1a s x b15 x23 l) ∧ okB 4294967296 l = true ∧ l.length ≤ 20000 ∧ val 4294967296 l = dval (bytesOf (s.extract 1 s.size))) isL1a ?_ 0 [] ⟨rfl, by simp, by omega, rfl⟩
  intro i l0 ⟨h1, h2, h3, h4⟩
  by_cases hi : i < (s.extract 1 s.size).size
  · obtain ⟨a, ha⟩ : ∃ a, a = ((bytesOf (s.extract 1 s.size)).drop i).take 9 := ⟨_, rfl⟩
    obtain ⟨e1, S1, hE1, rfl, rfl⟩ := pieceB s i l0 b15 x23 hD (by omega) hall a ha
    obtain ⟨m, hm9⟩ : ∃ m, a.length = m := ⟨_, rfl⟩
    rw [hm9] at hE1
    refine ⟨_, tabOf_all _, lands_of (round1a s i b15 x23 l0 (10 ^ m) (dval a) m) ?_⟩
    have hm := min_eq (s.extract 1 s.size).size i (by omega) (by omega)
    have hal : a.length ≤ 9 := by rw [ha, List.length_take]; omega
    have haall : a.all isDig = true := by rw [ha]; exact all_take (all_drop hall i) 9
    obtain ⟨d0, d1⟩ := dval_bound _ haall
    obtain ⟨p1, p2⟩ := pow10_le hal
    rw [hm9] at d1 p1 p2
    have ew : IntKind.i64.wrap ((i : Int) + 9) = ((i + 9 : Nat) : Int) := by rw [w64 (by omega) (by omega)]; omega
    rw [hm, cdec_true hE1, decide_eq_true (show (i : Int) < ((s.extract 1 s.size).size : Int) by omega), decide_eq_true (show (0 : Int) ≤ (i : Int) by omega), decide_eq_true (show (i : Int) ≤ ((min (i + 9) (s.extract 1 s.size).size : Nat) : Int) by omega), decide_eq_true (show ((min (i + 9) (s.extract 1 s.size).size : Nat) : Int) ≤ ((s.extract 1 s.size).size : Int) by omega), h1, few_iff.2 (show l0.length ≤ 100000 by omega), decide_eq_true (show (0 : Int) ≤ 10 ^ m by omega), decide_eq_true (show (10 : Int) ^ m < 4294967296 by omega), decide_eq_true d0, decide_eq_true (show dval a < 4294967296 by omega), ew]
    simp only [Bool.and_self, cond_true, lands_some, Turns2]
    have hsl := scaleL_len l0 (10 ^ m) (dval a)
    refine ⟨i + 9, _, rfl, ⟨scaleL_ok _ _ _, by omega, by omega, ?_⟩, by omega⟩
    rw [scaleL_val h1 ⟨by omega, by omega⟩ ⟨d0, by omega⟩, h4, List.take_add, ← ha, dval_app, hm9]
  · refine ⟨_, tabOf_all _, lands_of (round1a s i b15 x23 l0 1 0 0) ?_⟩
    rw [decide_eq_false (by omega)]
    simp only [cond_false, lands_some, Turns2]
    rw [List.take_of_length_le (by omega)] at h4
    exact ⟨trivial, _, _, rfl, h1, by omega, h4⟩
end Parse
theorem dval_cons (c : Int) (l : List Int) : dval (c :: l) = (c - 48) * 10 ^ l.length + dval l := by
  have := dval_app [c] l
  rw [dval_one] at this
  exact this
theorem ten_343 : (2 : Nat) ^ 1024 ≤ 10 ^ 343 := Nat.le_of_ble_eq_true (by kernel_rfl)
set_option exponentiation.threshold 20000 in
theorem ten_Lim : (10 : Nat) ^ 343 < Lim := Nat.lt_of_not_le (fun h => by
  have h2 : Nat.ble Lim (10 ^ 343) = true := Nat.ble_eq_true_of_le h
  have h3 : Nat.ble Lim (10 ^ 343) = false := by kernel_rfl
  rw [h3] at h2; cases h2)
set_option exponentiation.threshold 20000 in
theorem big_fits {z : Int} (h : (10 : Int) ^ 343 ≤ az z) : fits z = false := by
  unfold fits
  rw [decide_eq_false_iff_not]
  intro h2
  have h3 := ten_343
  unfold az at h
  have h4 : ((10 ^ 343 : Nat) : Int) ≤ ((z.natAbs : Nat) : Int) := by rw [Int.natCast_pow]; exact h
  have h5 : (10 ^ 343 : Nat) ≤ z.natAbs := Int.ofNat_le.1 h4
  exact Nat.lt_irrefl _ (Nat.lt_of_lt_of_le h2 (Nat.le_trans h3 h5))
theorem dval_big {l : List Int} (hall : l.all isDig = true) (h0 : l.getD 0 0 ≠ 48) (hl : l.length > 343) : (10 : Int) ^ 343 ≤ dval l := by
  cases l with
  | nil => simp at hl
  | cons c l =>
    rw [List.all_cons, Bool.and_eq_true] at hall
    have hc := dig_iff.1 hall.1
    have h0 : c ≠ 48 := h0
    have hb := dval_bound l hall.2
    rw [List.length_cons] at hl
    have hp := pow_mono (B := 10) (by decide) (show 343 ≤ l.length by omega)
    rw [dval_cons]
    have : 1 * (10 : Int) ^ l.length ≤ (c - 48) * 10 ^ l.length := Int.mul_le_mul_of_nonneg_right (by omega) (by have := hb.1; omega)
    omega
set_option exponentiation.threshold 20000 in
theorem dval_lim {l : List Int} (hall : l.all isDig = true) (hl : l.length ≤ 343) : (dval l).natAbs < Lim := by
  have hb := dval_bound l hall
  have hp := pow_mono (B := 10) (by decide) hl
  have h1 : dval l < ((10 ^ 343 : Nat) : Int) := by rw [Int.natCast_pow]; exact Int.lt_of_lt_of_le hb.2 hp
  exact Nat.lt_trans (by omega) ten_Lim
def formD (d : List Int) (n : Bool) : Bool := !d.isEmpty && !(d.getD 0 0 == 48 && (decide (d.length > 1) || n)) && d.all isDig
theorem rv_bad {s : ByteArray} {d : List Int} {n : Bool} (hd : digs (bytesOf s) = d) (hn : hasNeg (bytesOf s) = n) (h : formD d n = false) : some (Res.val (.tup [.agg [.bool false, .ints .u32 []], .int .i64 10])) = some (.val (.tup [R (rv s), .int .i64 (re s)])) := by
  unfold rv re form
  rw [hd, hn, show (!d.isEmpty && !(d.getD 0 0 == 48 && (decide (d.length > 1) || n)) && d.all isDig) = false from h]
  rfl
theorem rv_good {s : ByteArray} {d : List Int} {n : Bool} (hd : digs (bytesOf s) = d) (hn : hasNeg (bytesOf s) = n) (h : formD d n = true) : rv s = hz (bif n then - dval d else dval d) ∧ re s = he (bif n then - dval d else dval d) := by
  unfold rv re form tval
  rw [hd, hn, show (!d.isEmpty && !(d.getD 0 0 == 48 && (decide (d.length > 1) || n)) && d.all isDig) = true from h, cond_true, cond_true]
  exact ⟨rfl, rfl⟩
theorem rv_long {s : ByteArray} {d : List Int} {n : Bool} (hd : digs (bytesOf s) = d) (hn : hasNeg (bytesOf s) = n) (h : formD d n = true) (hl : d.length > 343) : some (Res.val (.tup [.agg [.bool false, .ints .u32 []], .int .i64 11])) = some (.val (.tup [R (rv s), .int .i64 (re s)])) := by
  obtain ⟨h1, h2⟩ := rv_good hd hn h
  have h0 : d.getD 0 0 ≠ 48 := by
    intro h0
    unfold formD at h
    rw [h0, decide_eq_true (show d.length > 1 by omega)] at h
    simp at h
  have hall : d.all isDig = true := by unfold formD at h; rw [Bool.and_eq_true] at h; exact h.2
  have hb := dval_big hall h0 hl
  have hf : fits (bif n then - dval d else dval d) = false := big_fits (by cases n <;> simp only [cond_true, cond_false, az] <;> omega)
  rw [h1, h2]
  unfold hz he
  rw [hf]
  rfl
theorem rv_read {s : ByteArray} {d : List Int} {n : Bool} (hd : digs (bytesOf s) = d) (hn : hasNeg (bytesOf s) = n) (h : formD d n = true) (hl : d.length ≤ 343) {l : List Int} (ok : okB 4294967296 l = true) (hll : l.length ≤ 20000) (hv : val 4294967296 l = dval d) :
    (bif few l && okB (4294967296) l then (bif cn (4294967296) (sg (num (4294967296) n l)) (lb (4294967296) (num (4294967296) n l)) then some (Res.val (.tup [R (hz (N (4294967296) (num (4294967296) n l))), .int .i64 (he (N (4294967296) (num (4294967296) n l)))])) else none) else none) = some (.val (.tup [R (rv s), .int .i64 (re s)])) := by
  obtain ⟨h1, h2⟩ := rv_good hd hn h
  have hall : d.all isDig = true := by unfold formD at h; rw [Bool.and_eq_true] at h; exact h.2
  have hlim := dval_lim hall hl
  have hs : (bif n then - dval d else dval d).natAbs < Lim := by cases n <;> simp only [cond_true, cond_false, Int.natAbs_neg] <;> exact hlim
  rw [few_iff.2 (show l.length ≤ 100000 by omega), ok, num_of hv, cnW, decide_eq_true hs, N_eq, h1, h2]
  rfl
theorem neg_of (s : ByteArray) (h : bt s 0 = 45) : 0 < s.size ∧ hasNeg (bytesOf s) = true ∧ digs (bytesOf s) = bytesOf (s.extract 1 s.size) := by
  have h1 := bt_nat s 0
  rw [show ((0 : Nat) : Int) = 0 from rfl, h] at h1
  have h2 := bytes_len s
  rw [bytes_extract]
  unfold digs hasNeg
  cases hl : bytesOf s with
  | nil => rw [hl] at h1; simp at h1
  | cons c l =>
    rw [hl] at h1 h2
    have h1 : (45 : Int) = c := h1
    rw [← h1, ← h2]
    refine ⟨by simp, by simp, by simp⟩
theorem pos_of (s : ByteArray) (h : bt s 0 ≠ 45) : hasNeg (bytesOf s) = false ∧ digs (bytesOf s) = bytesOf s := by
  have h1 := bt_nat s 0
  rw [show ((0 : Nat) : Int) = 0 from rfl] at h1
  unfold digs hasNeg
  cases hl : bytesOf s with
  | nil => exact ⟨rfl, rfl⟩
  | cons c l =>
    rw [hl] at h1
    have h1 : bt s 0 = c := h1
    have : (c == 45) = false := by rw [beq_eq_false_iff_ne]; omega
    simp [this]
theorem formD_eq (d : List Int) (n : Bool) : formD d n = true ↔ (d ≠ [] ∧ ¬ (d.getD 0 0 = 48 ∧ (d.length > 1 ∨ n = true)) ∧ d.all isDig = true) := by
  unfold formD
  rw [Bool.and_eq_true, Bool.and_eq_true, and_assoc]
  refine and_congr ?_ (and_congr ?_ Iff.rfl)
  · cases d <;> simp
  · rw [Bool.not_eq_true', ← Bool.not_eq_true, Bool.and_eq_true, Bool.or_eq_true, beq_iff_eq, decide_eq_true_eq]
theorem meets_parse : Meets Try.prog 58 ansParse := by
  refine meets_fn (orc_ok (l := Parse.ans) ⟨meets_norm, meets_held, meets_scale, trivial⟩) Try.f58 Try.func58 (by kernel_rfl) (fun args r h => ?_)
  unfold ansParse at h
  split at h
  · rename_i s
    simp only [Option.some.injEq, Prod.mk.injEq] at h
    obtain ⟨h, rfl⟩ := h
    have hsz := of_decide_eq_true h
    refine ⟨rfl, ?_⟩
    by_cases h45 : bt s 0 = 45
    · obtain ⟨h0, hn, hd⟩ := neg_of s h45
      obtain ⟨D, hD⟩ : ∃ D, D = s.extract 1 s.size := ⟨_, rfl⟩
      have hDs : D.size ≤ 10000 := by rw [hD, ByteArray.size_extract]; omega
      have hlen := bytes_len D
      have hb0 := bt_nat D 0
      rw [show ((0 : Nat) : Int) = 0 from rfl] at hb0
      rw [← hD] at hd
      have e0 : (bt s 0 == 45) = true := by rw [h45]; rfl
      by_cases hz0 : D.size = 0
      · refine ⟨_, tabOf_all _, (Parse.rest_0 s 0 true true true 0 0 true 0).trans ?_⟩
        rw [← hD, e0, decide_eq_true (show (s.size : Int) > 0 by omega), bT (inB_iff.2 (by omega : (0 : Int) ≤ 0 ∧ (0 : Int) < s.size)), decide_eq_true (show 1 ≤ (s.size : Int) by omega), show ((D.size : Int) == 0) = true by rw [beq_iff_eq]; omega]
        simp only [Bool.and_self, cond_true]
        exact rv_bad hd hn (by rw [← Bool.not_eq_true, formD_eq]; intro hh; exact hh.1 (List.eq_nil_of_length_eq_zero (by omega)))
      · by_cases h48 : bt D 0 = 48
        · refine ⟨_, tabOf_all _, (Parse.rest_0 s 0 true true true 0 0 true 0).trans ?_⟩
          rw [← hD, e0, decide_eq_true (show (s.size : Int) > 0 by omega), bT (inB_iff.2 (by omega : (0 : Int) ≤ 0 ∧ (0 : Int) < s.size)), decide_eq_true (show 1 ≤ (s.size : Int) by omega), show ((D.size : Int) == 0) = false by rw [beq_eq_false_iff_ne]; omega, bT (inB_iff.2 (by omega : (0 : Int) ≤ 0 ∧ (0 : Int) < D.size)), h48]
          have hbad : formD (bytesOf D) true = false := by rw [← Bool.not_eq_true, formD_eq]; intro hh; exact hh.2.1 ⟨by omega, .inr rfl⟩
          by_cases hg : (D.size : Int) > 1
          · rw [decide_eq_true hg]
            exact rv_bad hd hn hbad
          · rw [decide_eq_false hg]
            exact rv_bad hd hn hbad
        · have e48 : (bt D 0 == 48) = false := by rw [beq_eq_false_iff_ne]; exact h48
          obtain ⟨e1, S1, hE1, ⟨rfl, hall, x, rfl⟩ | ⟨rfl, hall, x, rfl⟩⟩ := Parse.validB s (by rw [← hD]; exact hDs) false
          · rw [← hD] at hall
            have hform : formD (bytesOf D) true = true := (formD_eq _ _).2 ⟨fun hh => by rw [hh] at hlen; exact hz0 hlen.symm, fun hh => h48 (by omega), hall⟩
            by_cases hbig : D.size > 343
            · refine ⟨_, tabOf_all _, (Parse.rest_2 s 0 true true true 0 [] false x 0).trans ?_⟩
              rw [cdec_true hE1, ← hD, e0, decide_eq_true (show (s.size : Int) > 0 by omega), bT (inB_iff.2 (by omega : (0 : Int) ≤ 0 ∧ (0 : Int) < s.size)), decide_eq_true (show 1 ≤ (s.size : Int) by omega), show ((D.size : Int) == 0) = false by rw [beq_eq_false_iff_ne]; omega, bT (inB_iff.2 (by omega : (0 : Int) ≤ 0 ∧ (0 : Int) < D.size)), e48, decide_eq_true (show (D.size : Int) > 343 by omega)]
              exact rv_long hd hn hform (by omega)
            · obtain ⟨e2, S2, hE2, rfl, y, l, rfl, ok, hll, hv⟩ := Parse.mainB s false x (by rw [← hD]; exact hDs) (by rw [← hD]; exact hall)
              rw [← hD] at hv
              refine ⟨_, tabOf_all _, (Parse.rest_2 s 0 true true true 0 l false x y).trans ?_⟩
              rw [cdec_true hE1, cdec_true hE2, ← hD, e0, decide_eq_true (show (s.size : Int) > 0 by omega), bT (inB_iff.2 (by omega : (0 : Int) ≤ 0 ∧ (0 : Int) < s.size)), decide_eq_true (show 1 ≤ (s.size : Int) by omega), show ((D.size : Int) == 0) = false by rw [beq_eq_false_iff_ne]; omega, bT (inB_iff.2 (by omega : (0 : Int) ≤ 0 ∧ (0 : Int) < D.size)), e48, decide_eq_false (show ¬ (D.size : Int) > 343 by omega)]
              exact rv_read hd hn hform (by omega) ok hll hv
          · rw [← hD] at hall
            refine ⟨_, tabOf_all _, (Parse.rest_0 s 0 true true true 0 10 false x).trans ?_⟩
            rw [cdec_true hE1, ← hD, e0, decide_eq_true (show (s.size : Int) > 0 by omega), bT (inB_iff.2 (by omega : (0 : Int) ≤ 0 ∧ (0 : Int) < s.size)), decide_eq_true (show 1 ≤ (s.size : Int) by omega), show ((D.size : Int) == 0) = false by rw [beq_eq_false_iff_ne]; omega, bT (inB_iff.2 (by omega : (0 : Int) ≤ 0 ∧ (0 : Int) < D.size)), e48]
            exact rv_bad hd hn (by rw [← Bool.not_eq_true, formD_eq]; intro hh; rw [hall] at hh; cases hh.2.2)
    · obtain ⟨hn, hd⟩ := pos_of s h45
      have hlen := bytes_len s
      have hb0 := bt_nat s 0
      rw [show ((0 : Nat) : Int) = 0 from rfl] at hb0
      have e0 : (bt s 0 == 45) = false := by rw [beq_eq_false_iff_ne]; exact h45
      by_cases hz0 : s.size = 0
      · refine ⟨_, tabOf_all _, (Parse.rest_0 s 0 true true true 0 0 true 0).trans ?_⟩
        rw [decide_eq_false (show ¬ (s.size : Int) > 0 by omega), show ((s.size : Int) == 0) = true by rw [beq_iff_eq]; omega]
        exact rv_bad hd hn (by rw [← Bool.not_eq_true, formD_eq]; intro hh; exact hh.1 (List.eq_nil_of_length_eq_zero (by omega)))
      · have hin : inB 0 s.size = true := inB_iff.2 (by omega)
        have key : (bt s 0 == 48 && decide ((s.size : Int) > 1)) = true ∨ (bt s 0 == 48 && decide ((s.size : Int) > 1)) = false := by cases (bt s 0 == 48 && decide ((s.size : Int) > 1)) <;> simp
        rcases key with key | key
        · rw [Bool.and_eq_true] at key
          have h48 : bt s 0 = 48 := by simpa using key.1
          have hg := of_decide_eq_true key.2
          refine ⟨_, tabOf_all _, (Parse.rest_0 s 0 true true true 0 0 true 0).trans ?_⟩
          rw [e0, decide_eq_true (show (s.size : Int) > 0 by omega), hin, show ((s.size : Int) == 0) = false by rw [beq_eq_false_iff_ne]; omega, key.1, key.2]
          simp only [hin, cond_true, cond_false]
          exact rv_bad hd hn (by rw [← Bool.not_eq_true, formD_eq]; intro hh; exact hh.2.1 ⟨by omega, .inl (by omega)⟩)
        · have join : ∀ (b c : Bool) (X Y : Option Res), (b && c) = false → (bif b then (bif c then X else Y) else Y) = Y := by intro b c X Y h; cases b <;> cases c <;> first | rfl | cases h
          have hno : ¬ ((bytesOf s).getD 0 0 = 48 ∧ ((bytesOf s).length > 1 ∨ false = true)) := by
            intro ⟨q1, q2⟩
            rw [← hb0] at q1
            rcases q2 with q2 | q2
            · rw [q1, decide_eq_true (show (s.size : Int) > 1 by omega)] at key; cases key
            · cases q2
          obtain ⟨e1, S1, hE1, ⟨rfl, hall, x, rfl⟩ | ⟨rfl, hall, x, rfl⟩⟩ := Parse.validA s hsz false true false
          · have hform : formD (bytesOf s) false = true := (formD_eq _ _).2 ⟨fun hh => by rw [hh] at hlen; exact hz0 hlen.symm, hno, hall⟩
            by_cases hbig : s.size > 343
            · refine ⟨_, tabOf_all _, (Parse.rest_1 s false [] true false x 0 0 true 0).trans ?_⟩
              rw [e0, decide_eq_true (show (s.size : Int) > 0 by omega), hin, show ((s.size : Int) == 0) = false by rw [beq_eq_false_iff_ne]; omega, cdec_true hE1, decide_eq_true (show (s.size : Int) > 343 by omega)]
              simp only [hin, cond_true, cond_false]
              exact (join _ _ _ _ key).trans (rv_long hd hn hform (by omega))
            · obtain ⟨e2, S2, hE2, rfl, y, l, rfl, ok, hll, hv⟩ := Parse.mainA s false true false x hsz hall
              refine ⟨_, tabOf_all _, (Parse.rest_1 s false l true false x y 0 true 0).trans ?_⟩
              rw [e0, decide_eq_true (show (s.size : Int) > 0 by omega), hin, show ((s.size : Int) == 0) = false by rw [beq_eq_false_iff_ne]; omega, cdec_true hE1, cdec_true hE2, decide_eq_false (show ¬ (s.size : Int) > 343 by omega)]
              simp only [hin, cond_true, cond_false]
              exact (join _ _ _ _ key).trans (rv_read hd hn hform (by omega) ok hll hv)
          · refine ⟨_, tabOf_all _, (Parse.rest_0 s 10 false true false x 0 true 0).trans ?_⟩
            rw [e0, decide_eq_true (show (s.size : Int) > 0 by omega), hin, show ((s.size : Int) == 0) = false by rw [beq_eq_false_iff_ne]; omega, cdec_true hE1]
            simp only [hin, cond_true, cond_false]
            exact (join _ _ _ _ key).trans (rv_bad hd hn (by rw [← Bool.not_eq_true, formD_eq]; intro hh; rw [hall] at hh; cases hh.2.2))
  · cases h
end Go.Abs
end
section
/- The statements of layer 1: their helpers. -/
namespace Go.Abs
open Go.Proofs Go.Dig
theorem txtL_byte (z : Int) : ∀ c ∈ txtL z, 0 ≤ c ∧ c < 256 := by
  intro c hc
  unfold txtL at hc
  by_cases h : z = 0
  · rw [if_pos h] at hc
    have := List.mem_singleton.1 hc
    omega
  · rw [if_neg h] at hc
    rcases List.mem_append.1 hc with hc | hc
    · split at hc
      · have := List.mem_singleton.1 hc; omega
      · cases hc
    · unfold dig at hc
      obtain ⟨d, hd, rfl⟩ := List.mem_map.1 hc
      have := okB_iff.1 (limbs_ok T_pos (z.natAbs : Int)) d (List.mem_reverse.1 hd)
      omega
theorem bytesOf_strOf {l : List Int} (h : ∀ c ∈ l, 0 ≤ c ∧ c < 256) : bytesOf (strOf l) = l := by
  unfold bytesOf strOf
  simp only [List.map_map]
  refine (List.map_congr_left (g := id) (fun c hc => ?_)).trans (List.map_id l)
  have := h c hc
  show ((UInt8.ofNat c.toNat).toNat : Int) = c
  rw [UInt8.toNat_ofNat']
  omega
theorem toList_inj {a b : ByteArray} (h : a.toList = b.toList) : a = b := by
  rw [ByteArray.toList_eq, ByteArray.toList_eq] at h
  exact ByteArray.ext (Array.toList_inj.1 h)
theorem bytesOf_txt (z : Int) : bytesOf (txt z) = txtL z := bytesOf_strOf (txtL_byte z)
/-- What num gives is held. -/
theorem fits_rv (s : ByteArray) : fits (rv s) = true := by
  have f0 : fits 0 = true := by kernel_rfl
  unfold rv
  cases form (bytesOf s) with
  | false => exact f0
  | true =>
    rw [cond_true]
    unfold hz
    cases hf : fits (tval (bytesOf s)) with
    | false => exact f0
    | true => exact hf
end Go.Abs
end
section
/- The statements of layer 1: texts read, numbers reckoned. -/
namespace Go.Abs
open Go.Proofs Go.Dig
theorem bytesOf_inj {a b : ByteArray} (h : bytesOf a = bytesOf b) : a = b := by
  have hs : a.size = b.size := by rw [← bytes_len, ← bytes_len, h]
  unfold bytesOf at h
  have : a.data.toList = b.data.toList := by
    refine (List.map_inj_right (fun x y hxy => ?_)).1 h
    have hxy : (x.toNat : Int) = y.toNat := hxy
    exact UInt8.toNat_inj.1 (by omega)
  exact ByteArray.ext (Array.toList_inj.1 this)
end Go.Abs
end
section
/- The statements of layer 1: rings, moves. -/
namespace Go.Abs
open Go.Proofs Go.Dig
theorem ne_b {x y : Int} (h : x ≠ y) : (x != y) = true := by rw [bne_iff_ne]; exact h
theorem eq_b {x y : Int} (h : x = y) : (x != y) = false := by subst h; exact bne_self_eq_false x
end Go.Abs
end
section
/- The statements of layer 1: quotients and rests, divisors. -/
namespace Go.Abs
open Go.Proofs Go.Dig
theorem fits_le {x y : Int} (h : fits y = true) (hle : x.natAbs ≤ y.natAbs) : fits x = true := fits_iff.2 (Nat.lt_of_le_of_lt hle (fits_iff.1 h))
theorem fits_gz {x y : Int} (hx : fits x = true) (hy : fits y = true) : fits (gz x y) = true := by
  unfold gz
  by_cases h : x = 0
  · subst h
    rw [Int.gcd_zero_left]
    exact fits_le hy (by omega)
  · have : Int.gcd x y ≤ x.natAbs := Nat.le_of_dvd (by omega) (Nat.gcd_dvd_left _ _)
    exact fits_le hx (by omega)
end Go.Abs
end
section
/- The statements of layer 1: sums of lists. -/
namespace Go.Abs
open Go.Proofs Go.Dig
def isS : List AV → Bool
  | [.str _] => true
  | _ => false
end Go.Abs
end
section
/- Sums of variables as lists: plain mathematics. -/
namespace Go.Abs
open Go.Dig
theorem fits0 : fits 0 = true := by kernel_rfl
abbrev Asc (l : List (Int × Int)) : Prop := l.Pairwise (fun p q => p.1 < q.1)
def Nz (l : List (Int × Int)) : Prop := ∀ p ∈ l, p.2 ≠ 0
def In (l : List (Int × Int)) : Prop := ∀ p ∈ l, 0 ≤ p.1 ∧ p.1 < 4096
theorem mem_ofF {f : Int → Int} {p : Int × Int} : p ∈ ofF f ↔ (0 ≤ p.1 ∧ p.1 < 4096) ∧ p.2 = f p.1 ∧ p.2 ≠ 0 := by
  rw [ofF_eq]
  rw [List.mem_filter, List.mem_map, bne_iff_ne]
  constructor
  · rintro ⟨⟨v, hv, rfl⟩, h⟩
    rw [List.mem_range] at hv
    exact ⟨⟨by omega, by show (v : Int) < 4096; omega⟩, rfl, h⟩
  · rintro ⟨⟨h1, h2⟩, h3, h4⟩
    refine ⟨⟨p.1.toNat, List.mem_range.2 (by omega), ?_⟩, h4⟩
    rw [Int.toNat_of_nonneg h1, ← h3]
theorem nz_ofF (f : Int → Int) : Nz (ofF f) := fun p hp => (mem_ofF.1 hp).2.2
theorem in_ofF (f : Int → Int) : In (ofF f) := fun p hp => (mem_ofF.1 hp).1
theorem asc_ofF (f : Int → Int) : Asc (ofF f) := by
  rw [ofF_eq]
  refine List.Pairwise.filter _ (List.pairwise_map.2 ?_)
  refine List.pairwise_lt_range.imp (fun h => ?_)
  exact Int.ofNat_lt.2 h
theorem cf_cons (p : Int × Int) (l : List (Int × Int)) (v : Int) : cf (p :: l) v = if p.1 = v then p.2 else cf l v := by
  show (bif decide (p.1 = v) then p.2 else cf l v) = _
  by_cases h : p.1 = v
  · rw [decide_eq_true h, if_pos h]; rfl
  · rw [decide_eq_false h, if_neg h]; rfl
theorem cf_nil (v : Int) : cf [] v = 0 := rfl
theorem cf_none {l : List (Int × Int)} {v : Int} (h : ∀ p ∈ l, p.1 ≠ v) : cf l v = 0 := by
  induction l with
  | nil => rfl
  | cons p l ih =>
    rw [cf_cons, if_neg (h p List.mem_cons_self)]
    exact ih (fun q hq => h q (List.mem_cons_of_mem _ hq))
theorem cf_mem {l : List (Int × Int)} (ha : Asc l) {p : Int × Int} (hp : p ∈ l) : cf l p.1 = p.2 := by
  induction l with
  | nil => cases hp
  | cons q l ih =>
    have ha := List.pairwise_cons.1 ha
    rw [cf_cons]
    rcases List.mem_cons.1 hp with rfl | h
    · rw [if_pos rfl]
    · rw [if_neg (by have := ha.1 p h; omega)]
      exact ih ha.2 h
theorem cf_ofF (f : Int → Int) (v : Int) : cf (ofF f) v = if 0 ≤ v ∧ v < 4096 then f v else 0 := by
  by_cases hv : 0 ≤ v ∧ v < 4096
  · rw [if_pos hv]
    by_cases h0 : f v = 0
    · rw [h0]
      refine cf_none (fun p hp hpv => ?_)
      obtain ⟨_, h1, h2⟩ := mem_ofF.1 hp
      rw [hpv] at h1
      omega
    · have hm : ((v, f v) : Int × Int) ∈ ofF f := mem_ofF.2 ⟨hv, rfl, h0⟩
      exact cf_mem (p := (v, f v)) (asc_ofF f) hm
  · rw [if_neg hv]
    exact cf_none (fun p hp hpv => hv (hpv ▸ in_ofF f p hp))
theorem cf_ext : ∀ {l m : List (Int × Int)}, Asc l → Nz l → Asc m → Nz m → (∀ v, cf l v = cf m v) → l = m
  | [], [], _, _, _, _, _ => rfl
  | [], q :: m, _, _, _, hn, h => by
    have := h q.1
    rw [cf_nil, cf_cons, if_pos rfl] at this
    exact absurd this.symm (hn q List.mem_cons_self)
  | p :: l, [], _, hn, _, _, h => by
    have := h p.1
    rw [cf_nil, cf_cons, if_pos rfl] at this
    exact absurd this (hn p List.mem_cons_self)
  | p :: l, q :: m, ha, hn, ha', hn', h => by
    have ha := List.pairwise_cons.1 ha
    have ha' := List.pairwise_cons.1 ha'
    have h1 := h p.1
    have h2 := h q.1
    rw [cf_cons, if_pos rfl, cf_cons] at h1
    rw [cf_cons q m, if_pos rfl, cf_cons] at h2
    have e1 : p.1 = q.1 := by
      false_or_by_contra
      rename_i hne
      rw [if_neg (fun hh => hne hh.symm)] at h1
      rw [if_neg hne] at h2
      rcases Int.lt_or_gt_of_ne hne with hl | hl
      · exact hn p List.mem_cons_self (h1.trans (cf_none (fun r hr hv => by have := ha'.1 r hr; omega)))
      · exact hn' q List.mem_cons_self (h2.symm.trans (cf_none (fun r hr hv => by have := ha.1 r hr; omega)))
    rw [if_pos e1.symm] at h1
    have e2 : p = q := Prod.ext e1 h1
    subst e2
    have e3 : l = m := by
      refine cf_ext ha.2 (fun r hr => hn r (List.mem_cons_of_mem _ hr)) ha'.2 (fun r hr => hn' r (List.mem_cons_of_mem _ hr)) (fun v => ?_)
      by_cases hv : p.1 = v
      · rw [cf_none (fun r hr hrv => by have := ha.1 r hr; omega), cf_none (fun r hr hrv => by have := ha'.1 r hr; omega)]
      · have := h v
        rw [cf_cons, if_neg hv, cf_cons, if_neg hv] at this
        exact this
    rw [e3]
/-- A list of that kind is its coefficients' list. -/
theorem canon {l : List (Int × Int)} (ha : Asc l) (hn : Nz l) (hi : In l) : l = ofF (cf l) := by
  refine cf_ext ha hn (asc_ofF _) (nz_ofF _) (fun v => ?_)
  rw [cf_ofF]
  by_cases hv : 0 ≤ v ∧ v < 4096
  · rw [if_pos hv]
  · rw [if_neg hv]
    exact cf_none (fun p hp hpv => hv (hpv ▸ hi p hp))
theorem ofF_congr {f g : Int → Int} (h : ∀ v, 0 ≤ v → v < 4096 → f v = g v) : ofF f = ofF g := by
  refine cf_ext (asc_ofF _) (nz_ofF _) (asc_ofF _) (nz_ofF _) (fun v => ?_)
  rw [cf_ofF, cf_ofF]
  by_cases hv : 0 ≤ v ∧ v < 4096
  · rw [if_pos hv, if_pos hv, h v hv.1 hv.2]
  · rw [if_neg hv, if_neg hv]
theorem ofF_zero : ofF (fun _ => 0) = [] := by
  refine List.eq_nil_iff_forall_not_mem.2 (fun p hp => ?_)
  obtain ⟨_, h1, h2⟩ := mem_ofF.1 hp
  exact h2 h1
theorem ofF_len (f : Int → Int) : (ofF f).length ≤ 4096 := by
  rw [ofF_eq]
  refine Nat.le_trans (List.length_filter_le _ _) ?_
  rw [List.length_map, List.length_range]
  exact Nat.le_refl _
theorem okL_asc {l : List (Int × Int)} (h : okL l) : Asc l := by obtain ⟨f, _, rfl⟩ := h; exact asc_ofF f
theorem okL_nz {l : List (Int × Int)} (h : okL l) : Nz l := by obtain ⟨f, _, rfl⟩ := h; exact nz_ofF f
theorem okL_in {l : List (Int × Int)} (h : okL l) : In l := by obtain ⟨f, _, rfl⟩ := h; exact in_ofF f
theorem okL_len {l : List (Int × Int)} (h : okL l) : l.length ≤ 4096 := by obtain ⟨f, _, rfl⟩ := h; exact ofF_len f
theorem okL_canon {l : List (Int × Int)} (h : okL l) : l = ofF (cf l) := canon (okL_asc h) (okL_nz h) (okL_in h)
theorem okL_cf {l : List (Int × Int)} (h : okL l) (v : Int) : fits (cf l v) = true := by
  obtain ⟨f, hf, rfl⟩ := h
  rw [cf_ofF]
  split
  · exact hf v
  · exact fits0
theorem okL_mem {l : List (Int × Int)} (h : okL l) {p : Int × Int} (hp : p ∈ l) : fits p.2 = true := by
  rw [← cf_mem (okL_asc h) hp]; exact okL_cf h _
theorem okL_ofF {f : Int → Int} (h : ∀ v, 0 ≤ v → v < 4096 → fits (f v) = true) : okL (ofF f) := by
  refine ⟨fun v => if 0 ≤ v ∧ v < 4096 then f v else 0, fun v => ?_, ofF_congr (fun v h1 h2 => by rw [if_pos ⟨h1, h2⟩])⟩
  by_cases hv : 0 ≤ v ∧ v < 4096
  · show fits (if 0 ≤ v ∧ v < 4096 then f v else 0) = true
    rw [if_pos hv]; exact h v hv.1 hv.2
  · show fits (if 0 ≤ v ∧ v < 4096 then f v else 0) = true
    rw [if_neg hv]; exact fits0
theorem okL_nil : okL [] := ⟨fun _ => 0, fun _ => fits0, ofF_zero.symm⟩
/-- What is of a kind on both sides. -/
theorem eq_ofF {l : List (Int × Int)} {f : Int → Int} (ha : Asc l) (hn : Nz l) (e : ∀ v, cf l v = if 0 ≤ v ∧ v < 4096 then f v else 0) : l = ofF f :=
  cf_ext ha hn (asc_ofF _) (nz_ofF _) (fun v => by rw [e, cf_ofF])
theorem cf_snoc {l : List (Int × Int)} {p : Int × Int} (h : ∀ q ∈ l, q.1 < p.1) (v : Int) : cf (l ++ [p]) v = if v = p.1 then p.2 else cf l v := by
  induction l with
  | nil =>
    rw [List.nil_append, cf_cons, cf_nil]
    by_cases hv : p.1 = v
    · rw [if_pos hv, if_pos hv.symm]
    · rw [if_neg hv, if_neg (fun hh => hv hh.symm)]
  | cons q l ih =>
    rw [List.cons_append, cf_cons, cf_cons, ih (fun r hr => h r (List.mem_cons_of_mem _ hr))]
    have := h q List.mem_cons_self
    by_cases hv : q.1 = v
    · rw [if_pos hv, if_neg (by omega), if_pos hv]
    · rw [if_neg hv, if_neg hv]
/-- One more behind, none with nought. -/
def putL (z : Int) (l : List (Int × Int)) (v : Int) : List (Int × Int) := bif z == 0 then l else l ++ [(v, z)]
theorem putL_snoc {f g : Int → Int} {v z : Int} (hv : 0 ≤ v ∧ v < 4096) (h0 : ∀ w, v ≤ w → w < 4096 → f w = 0) (hg : ∀ w, 0 ≤ w → w < 4096 → g w = if w = v then z else f w) : putL z (ofF f) v = ofF g := by
  have hlt : ∀ q ∈ ofF f, q.1 < v := fun q hq => by
    obtain ⟨h1, h2, h3⟩ := mem_ofF.1 hq
    false_or_by_contra
    rename_i hn
    exact h3 (h2.trans (h0 q.1 (by omega) h1.2))
  unfold putL
  by_cases hz : z = 0
  · rw [show (z == 0) = true from beq_iff_eq.2 hz, cond_true]
    refine ofF_congr (fun w h1 h2 => ?_)
    rw [hg w h1 h2]
    split
    · rename_i hw; rw [hz, hw]; exact h0 v (Int.le_refl _) hv.2
    · rfl
  · rw [show (z == 0) = false from beq_eq_false_iff_ne.2 hz, cond_false]
    refine eq_ofF ?_ ?_ (fun w => ?_)
    · refine List.pairwise_append.2 ⟨asc_ofF f, List.pairwise_singleton .., fun q hq p hp => ?_⟩
      rw [List.mem_singleton.1 hp]
      exact hlt q hq
    · intro q hq
      rcases List.mem_append.1 hq with hq | hq
      · exact nz_ofF f q hq
      · rw [List.mem_singleton.1 hq]; exact hz
    · rw [cf_snoc hlt, cf_ofF]
      by_cases hw : 0 ≤ w ∧ w < 4096
      · rw [if_pos hw, if_pos hw, hg w hw.1 hw.2]
      · rw [if_neg hw, if_neg hw, if_neg (by rintro rfl; exact hw hv)]
theorem putV_map (z : Int) (l : List (Int × Int)) (v : Int) : putV z (l.map (fun p => p.1)) v = (putL z l v).map (fun p => p.1) := by
  unfold putV putL
  cases z == 0 with
  | true => rfl
  | false => rw [cond_false, cond_false, List.map_append]; rfl
theorem putR_map (z : Int) (l : List (Int × Int)) (v : Int) : putR z (l.map cL) [.bool (sg z), .ints .u32 (lb 4294967296 z)] = (putL z l v).map cL := by
  unfold putR putL
  cases z == 0 with
  | true => rfl
  | false => rw [cond_false, cond_false, List.map_append]; rfl
/-- A list's first parts: their coefficients. -/
theorem take_lt {l : List (Int × Int)} (ha : Asc l) {i : Nat} (hi : i < l.length) : ∀ q ∈ l.take i, q.1 < l[i].1 := fun q hq => by
  obtain ⟨j, hj, rfl⟩ := List.mem_take_iff_getElem.1 hq
  exact List.pairwise_iff_getElem.1 ha j i (by omega) hi (by omega)
theorem cf_take_succ {l : List (Int × Int)} (ha : Asc l) {i : Nat} (hi : i < l.length) (v : Int) : cf (l.take (i + 1)) v = if v = l[i].1 then l[i].2 else cf (l.take i) v := by
  rw [List.take_add_one, List.getElem?_eq_getElem hi]
  exact cf_snoc (take_lt ha hi) v
theorem cf_take_ge {l : List (Int × Int)} (ha : Asc l) {i : Nat} (hi : i < l.length) {v : Int} (hv : l[i].1 ≤ v) : cf (l.take i) v = 0 :=
  cf_none (fun p hp hpv => by have := take_lt ha hi p hp; omega)
/-- One part more, each coefficient by a law of its own. -/
theorem map_step {l : List (Int × Int)} (ha : Asc l) (hn : In l) {g : Int → Int → Int} (g0 : ∀ v, g v 0 = 0) {i : Nat} (hi : i < l.length) :
    putL (g l[i].1 l[i].2) (ofF (fun v => g v (cf (l.take i) v))) l[i].1 = ofF (fun v => g v (cf (l.take (i + 1)) v)) := by
  refine putL_snoc (hn _ (List.getElem_mem hi)) (fun w h1 h2 => ?_) (fun w h1 h2 => ?_)
  · rw [cf_take_ge ha hi h1, g0]
  · rw [cf_take_succ ha hi]
    by_cases hw : w = l[i].1
    · rw [if_pos hw, if_pos hw, hw]
    · rw [if_neg hw, if_neg hw]
theorem map_step0 {g : Int → Int → Int} (g0 : ∀ v, g v 0 = 0) (l : List (Int × Int)) : ofF (fun v => g v (cf (l.take 0) v)) = [] := by
  rw [List.take_zero]
  exact (ofF_congr (fun v _ _ => g0 v)).trans ofF_zero
theorem lvs_nil : lvs [] = [] := lvs_eq []
theorem lrs_nil : lrs [] = [] := lrs_eq []
/-- What stands for a list. -/
theorem map_rowN_cL (l : List (Int × Int)) : (l.map cL).map (rowN 4294967296) = l.map (fun p => p.2) := by
  rw [List.map_map]
  exact List.map_congr_left (fun p _ => num_lb (by decide) p.2)
theorem dl_map (l : List (Int × Int)) : dl (l.map (fun p => p.1)) (l.map cL) = l := by
  rw [dl_eq, map_rowN_cL]
  induction l with
  | nil => rfl
  | cons p l ih => rw [List.map_cons, List.map_cons, List.zip_cons_cons, ih]
theorem dp_map (l : List (Int × ByteArray)) : dp (l.map cP) = l := by
  rw [dp_eq, List.map_map]
  exact (List.map_congr_left (fun p _ => rfl)).trans (List.map_id l)
theorem isl_iff {vs : List Int} {r : List (List AV)} : isl vs r = true ↔ ∃ l, okL l ∧ vs = l.map (fun p => p.1) ∧ r = l.map cL := by
  rw [isl_eq]; exact ⟨cdec_iff, cdec_true⟩
theorem isp_iff {r : List (List AV)} : isp r = true ↔ ∃ l : List (Int × ByteArray), (∀ p ∈ l, i64B p.1 = true ∧ p.2.size ≤ 10000) ∧ r = l.map cP := by
  rw [isp_eq]; exact ⟨cdec_iff, cdec_true⟩
theorem isq_iff {r : List (List AV)} : isq r = true ↔ ∃ l : List (Int × ByteArray), (∀ p ∈ l, i64B p.1 = true) ∧ r = l.map cP := by
  rw [isq_eq]; exact ⟨cdec_iff, cdec_true⟩
theorem dl_lvs (l : List (Int × Int)) : dl (lvs l) (lrs l) = l := by rw [lvs_eq, lrs_eq, dl_map]
theorem dp_prs (l : List (Int × ByteArray)) : dp (prs l) = l := by rw [prs_eq, dp_map]
theorem isl_lvs {l : List (Int × Int)} (h : okL l) : isl (lvs l) (lrs l) = true := isl_iff.2 ⟨l, h, lvs_eq l, lrs_eq l⟩
theorem lvs_len (l : List (Int × Int)) : (lvs l).length = l.length := by rw [lvs_eq, List.length_map]
theorem prs_len (l : List (Int × ByteArray)) : (prs l).length = l.length := by rw [prs_eq, List.length_map]
theorem cnW_fits {z : Int} (h : fits z = true) : cn 4294967296 (sg z) (lb 4294967296 z) = true := by
  rw [cn_lb (by decide), decide_eq_true (small_of_fits h)]
/-- A term's four parts, as they are handed on. -/
theorem isT_iff {vs : List Int} {r : List (List AV)} {b : Bool} {m : List Int} : isT vs r b m = true ↔ ∃ l c, okL l ∧ fits c = true ∧ vs = l.map (fun p => p.1) ∧ r = l.map cL ∧ b = sg c ∧ m = lb 4294967296 c := by
  unfold isT
  rw [Bool.and_eq_true, Bool.and_eq_true, isl_iff, cn_iff (by decide)]
  constructor
  · rintro ⟨⟨l, h1, h2, h3⟩, ⟨z, h4, h5, _⟩, h6⟩
    rw [h4, h5, num_lb (by decide)] at h6
    exact ⟨l, z, h1, h6, h2, h3, h4, h5⟩
  · rintro ⟨l, c, h1, h2, h3, h4, h5, h6⟩
    refine ⟨⟨l, h1, h3, h4⟩, ⟨c, h5, h6, small_of_fits h2⟩, ?_⟩
    rw [h5, h6, num_lb (by decide)]; exact h2
theorem isT_of {l : List (Int × Int)} {c : Int} (h : okL l) (k : fits c = true) : isT (lvs l) (lrs l) (sg c) (lb 4294967296 c) = true := isT_iff.2 ⟨l, c, h, k, lvs_eq l, lrs_eq l, rfl, rfl⟩
theorem isT_of0 {l : List (Int × Int)} (h : okL l) : isT (lvs l) (lrs l) false [] = true := isT_iff.2 ⟨l, 0, h, fits0, lvs_eq l, lrs_eq l, sg_zero.symm, (lb_zero _).symm⟩
theorem fits_neg {z : Int} (h : fits z = true) : fits (-z) = true := by
  unfold fits at h ⊢
  rw [Int.natAbs_neg]; exact h
/-- The kinds of the results. -/
theorem okL_neg {l : List (Int × Int)} (h : okL l) : okL (negL l) := by
  rw [negL_eq]; exact okL_ofF (fun v _ _ => fits_neg (okL_cf h v))
theorem addE_cases (l m : List (Int × Int)) (c d : Int) : (addE l m c d = 0 ∧ addL l m c d = ofF (fun v => cf l v + cf m v) ∧ addC l m c d = c + d ∧ fits (c + d) = true ∧ ∀ v, fits (cf l v + cf m v) = true) ∨ (addE l m c d = 11 ∧ addL l m c d = [] ∧ addC l m c d = 0 ∧ ¬ (fits (c + d) = true ∧ ∀ v, fits (cf l v + cf m v) = true)) := by
  have h1 := addE_eq l m c d
  have h2 := addL_eq l m c d
  have h3 := addC_eq l m c d
  cases hb : (fits (c + d) && cdec (∀ v, fits (cf l v + cf m v) = true)) with
  | true =>
    rw [hb] at h1
    have h1 : addE l m c d = 0 := h1
    rw [h1] at h2 h3
    rw [Bool.and_eq_true] at hb
    exact .inl ⟨h1, h2, h3, hb.1, cdec_iff hb.2⟩
  | false =>
    rw [hb] at h1
    have h1 : addE l m c d = 11 := h1
    rw [h1] at h2 h3
    refine .inr ⟨h1, h2, h3, fun ⟨k1, k2⟩ => ?_⟩
    rw [k1, cdec_true k2] at hb
    cases hb
theorem okL_add (l m : List (Int × Int)) (c d : Int) : okL (addL l m c d) := by
  rcases addE_cases l m c d with ⟨_, h, _, _, k⟩ | ⟨_, h, _⟩
  · rw [h]; exact okL_ofF (fun v _ _ => k v)
  · rw [h]; exact okL_nil
theorem scE_cases (l : List (Int × Int)) (c k : Int) : (scE l c k = 0 ∧ scL l c k = ofF (fun v => cf l v * k) ∧ scC l c k = c * k ∧ fits (c * k) = true ∧ ∀ v, fits (cf l v * k) = true) ∨ (scE l c k = 11 ∧ scL l c k = [] ∧ scC l c k = 0 ∧ ¬ (fits (c * k) = true ∧ ∀ v, fits (cf l v * k) = true)) := by
  have h1 := scE_eq l c k
  have h2 := scL_eq l c k
  have h3 := scC_eq l c k
  cases hb : (fits (c * k) && cdec (∀ v, fits (cf l v * k) = true)) with
  | true =>
    rw [hb] at h1
    have h1 : scE l c k = 0 := h1
    rw [h1] at h2 h3
    rw [Bool.and_eq_true] at hb
    exact .inl ⟨h1, h2, h3, hb.1, cdec_iff hb.2⟩
  | false =>
    rw [hb] at h1
    have h1 : scE l c k = 11 := h1
    rw [h1] at h2 h3
    refine .inr ⟨h1, h2, h3, fun ⟨k1, k2⟩ => ?_⟩
    rw [k1, cdec_true k2] at hb
    cases hb
theorem vok_iff {v : Int} : vok v = true ↔ 0 ≤ v ∧ v < 4096 := by
  unfold vok; rw [Bool.and_eq_true, decide_eq_true_eq, decide_eq_true_eq]
theorem cf_lone (v c w : Int) : cf (lone v c) w = if (0 ≤ v ∧ v < 4096) ∧ w = v then c else 0 := by
  rw [lone_eq, cf_ofF]
  by_cases hw : w = v
  · subst hw
    rw [decide_eq_true rfl]
    by_cases h : 0 ≤ w ∧ w < 4096
    · rw [if_pos h, if_pos ⟨h, rfl⟩]; rfl
    · rw [if_neg h, if_neg (fun hh => h hh.1)]
  · rw [decide_eq_false hw, cond_false, ite_self, if_neg (fun hh : (0 ≤ v ∧ v < 4096) ∧ w = v => hw hh.2)]
theorem okL_lone (v : Int) {c : Int} (h : fits c = true) : okL (lone v c) := by
  rw [lone_eq]
  refine okL_ofF (fun w _ _ => ?_)
  cases decide (w = v) with
  | true => exact h
  | false => exact fits0
theorem lone_put {v : Int} (hv : 0 ≤ v ∧ v < 4096) (c : Int) : lone v c = putL c [] v := by
  rw [lone_eq]
  have h := putL_snoc (f := fun _ => 0) (g := fun w => bif decide (w = v) then c else 0) (z := c) hv (fun _ _ _ => rfl) (fun w _ _ => by
    by_cases hw : w = v
    · rw [decide_eq_true hw, if_pos hw]; rfl
    · rw [decide_eq_false hw, if_neg hw]; rfl)
  rw [ofF_zero] at h
  exact h.symm
theorem lone_one {v : Int} (hv : 0 ≤ v ∧ v < 4096) : lone v 1 = [(v, 1)] := lone_put hv 1
end Go.Abs
end
section
/- Parts put behind the others: in linear and in its reference. -/
namespace Go.Abs
open Go.Proofs Go.Dig
theorem cmpZ_zero (z : Int) : (cmpZ z 0 != 0) = !(z == 0) := by
  rw [Bool.eq_iff_iff, bne_iff_ne, Bool.not_eq_true', beq_eq_false_iff_ne]
  unfold cmpZ; (repeat' split) <;> omega
theorem room8 {l : List Int} {v : Int} (h : l.length ≤ 100000) : (true && decide ((l ++ [v]).length * 8 ≤ 140737488355328)) = true := by
  rw [Bool.true_and, decide_eq_true_eq, List.length_append]; simp only [List.length_cons, List.length_nil]; omega
theorem room32 {l : List (List AV)} {v : List AV} (h : l.length ≤ 100000) : (true && decide ((l ++ [v]).length * 32 ≤ 140737488355328)) = true := by
  rw [Bool.true_and, decide_eq_true_eq, List.length_append]; simp only [List.length_cons, List.length_nil]; omega
theorem meets_lput : Meets Try.prog 68 ansLPut := by
  refine meets_runU T_ok (orc_ok (l := LPut.ans) ⟨meets_sign, trivial⟩) mixed (fn := Try.f68) Try.func68 (by kernel_rfl) (fun args r h => ?_)
  unfold ansLPut at h
  split at h
  · simp at h
  · rename_i vs rr b m v s l
    simp only [Option.some.injEq, Prod.mk.injEq, Bool.and_eq_true, decide_eq_true_eq] at h
    obtain ⟨⟨⟨h1, h2⟩, h3⟩, rfl⟩ := h
    refine ⟨_, _, rfl, runU_tab (noTab_all _) ((LPut.rest vs rr b m v s l).trans ((bT h1).trans ?_))⟩
    rw [cmpZ_zero]
    unfold putV putR
    cases hb : num 4294967296 s l == 0 with
    | true => rfl
    | false => exact (bT rfl).trans ((bT (room8 h2)).trans (bT (room32 h3)))
  · rename_i vs rr b m b2 m2 v s l
    simp only [Option.some.injEq, Prod.mk.injEq, Bool.and_eq_true, decide_eq_true_eq] at h
    obtain ⟨⟨⟨h1, h2⟩, h3⟩, rfl⟩ := h
    refine ⟨_, _, rfl, runU_tab (noTab_all _) ((LPut6.rest vs rr b m b2 m2 v s l).trans ((bT h1).trans ?_))⟩
    rw [cmpZ_zero]
    unfold putV putR
    cases hb : num 4294967296 s l == 0 with
    | true => rfl
    | false => exact (bT rfl).trans ((bT (room8 h2)).trans (bT (room32 h3)))
  · cases h
theorem getL {l : List (Int × Int)} {i : Nat} (h : i < l.length) : (l.map cL).getD ((i : Int).toNat) [] = cL l[i] := by
  rw [Int.toNat_natCast, getD_at (by rw [List.length_map]; exact h), List.getElem_map]
theorem getP {l : List (Int × ByteArray)} {i : Nat} (h : i < l.length) : (l.map cP).getD ((i : Int).toNat) [] = cP l[i] := by
  rw [Int.toNat_natCast, getD_at (by rw [List.length_map]; exact h), List.getElem_map]
theorem rdV {l : List (Int × Int)} {i : Nat} (h : i < l.length) : rd (l.map (fun p => p.1)) (i : Int) = l[i].1 := by
  rw [rd_nat, getD_at (by rw [List.length_map]; exact h), List.getElem_map]
theorem cL0 (p : Int × Int) : gBool ((cL p).getD 0 .top) = sg p.2 := rfl
theorem cL1 (p : Int × Int) : gInts ((cL p).getD 1 .top) = lb 4294967296 p.2 := rfl
theorem cLeta (p : Int × Int) : etasOk [.bool false, .ints .u32 []] (cL p) = true := rfl
theorem inN {i n : Nat} (h : i < n) : inB (i : Int) n = true := by rw [inB_nat]; exact decide_eq_true h
theorem ltN {i n : Nat} (h : i < n) : decide ((i : Int) < (n : Int)) = true := decide_eq_true (Int.ofNat_lt.2 h)
theorem ltN' {i n : Nat} (h : ¬ i < n) : decide ((i : Int) < (n : Int)) = false := decide_eq_false (fun hh => h (Int.ofNat_lt.1 hh))
theorem he_big {z : Int} (h : fits z = false) : he z = 11 := by unfold he; rw [h]; rfl
theorem hz_fit {z : Int} (h : fits z = true) : hz z = z := by unfold hz; rw [h]; rfl
theorem he_fit {z : Int} (h : fits z = true) : he z = 0 := by unfold he; rw [h]; rfl
end Go.Abs
end
section
/- What the small functions of linear answer. -/
namespace Go.Abs
open Go.Proofs Go.Dig
theorem meets_nvar : Meets Try.prog 35 ansLVar := by
  refine meets_fn (orc_ok (l := NVar.ans) ⟨meets_from, trivial⟩) Try.f35 Try.func35 (by kernel_rfl) (fun args r h => ?_)
  unfold ansLVar at h
  split at h
  · rename_i v
    simp only [Option.some.injEq, Prod.mk.injEq] at h
    obtain ⟨_, rfl⟩ := h
    refine ⟨rfl, _, noTab_all, (NVar.rest v).trans ?_⟩
    unfold vE
    by_cases h1 : v < 0
    · have hv : vok v = false := by rw [Bool.eq_false_iff, ne_eq, vok_iff]; omega
      rw [hv, cond_false, cond_false, lvs_nil, lrs_nil]
      exact bT (decide_eq_true h1)
    by_cases h2 : v ≥ 4096
    · have hv : vok v = false := by rw [Bool.eq_false_iff, ne_eq, vok_iff]; omega
      rw [hv, cond_false, cond_false, lvs_nil, lrs_nil]
      exact (bF (decide_eq_false h1)).trans (bT (decide_eq_true h2))
    · have hv : vok v = true := vok_iff.2 (by omega)
      rw [hv, cond_true, cond_true, lone_one (by omega), lvs_eq, lrs_eq]
      exact (bF (decide_eq_false h1)).trans (bF (decide_eq_false h2))
  · cases h
theorem meets_nisnum : Meets Try.prog 27 ansLIsNum := by
  refine meets_fn (orc_ok (l := NIsNum.ans) trivial) Try.f27 Try.func27 (by kernel_rfl) (fun args r h => ?_)
  unfold ansLIsNum at h
  split at h
  · rename_i vs r b m
    simp only [Option.some.injEq, Prod.mk.injEq] at h
    obtain ⟨_, rfl⟩ := h
    exact ⟨rfl, _, noTab_all, NIsNum.rest vs r b m⟩
  · cases h
namespace NNeg
theorem loop (l : List (Int × Int)) (b : Bool) (m : List Int) (hl : okL l) : ∃ e S1, Ends T orc L0 D0 (st0 (l.map (fun p => p.1)) (l.map cL) b m 0 [] []) e S1 ∧ e = .exit 0 ∧ ∃ x, S1 = st0 (l.map (fun p => p.1)) (l.map cL) b m x ((negL l).map (fun p => p.1)) ((negL l).map cL) := by
  have hz := map_step0 (g := fun _ z => -z) (fun _ => rfl) l
  have key : ∃ e S1, Ends T orc L0 D0 (st0 (l.map (fun p => p.1)) (l.map cL) b m ((0 : Nat) : Int) ((ofF (fun v => - cf (l.take 0) v)).map (fun p => p.1)) ((ofF (fun v => - cf (l.take 0) v)).map cL)) e S1 ∧ e = .exit 0 ∧ ∃ x, S1 = st0 (l.map (fun p => p.1)) (l.map cL) b m x ((negL l).map (fun p => p.1)) ((negL l).map cL) := by
    refine loop_inv1 (fun (i : Nat) => st0 (l.map (fun p => p.1)) (l.map cL) b m i ((ofF (fun v => - cf (l.take i) v)).map (fun p => p.1)) ((ofF (fun v => - cf (l.take i) v)).map cL)) (fun i => i ≤ l.length) (fun i => l.length - i)
      (fun e S1 => e = .exit 0 ∧ ∃ x, S1 = st0 (l.map (fun p => p.1)) (l.map cL) b m x ((negL l).map (fun p => p.1)) ((negL l).map cL)) isL0 ?_ 0 (Nat.zero_le _)
    intro i h1
    have hlen := okL_len hl
    refine ⟨noTab, noTab_all, lands_of (round0 ..) ?_⟩
    by_cases hi : i < l.length
    · have hf := okL_mem hl (List.getElem_mem hi)
      have hs := map_step (okL_asc hl) (okL_in hl) (g := fun _ z => -z) (fun _ => rfl) hi
      have ho := ofF_len (fun v => - cf (l.take i) v)
      rw [List.length_map, List.length_map, ltN hi, inN hi, getL hi, rdV hi]
      simp only [cL0, cL1, cLeta, cnW_fits hf, num_lbW, cnW_fits (fits_neg hf), N_eq, cond_true, Bool.true_and, Bool.and_true, List.length_map]
      rw [decide_eq_true (show (ofF (fun v => - cf (l.take i) v)).length ≤ 100000 by omega), putV_map, putR_map, hs]
      simp only [cond_true, Bool.and_self, wi_succ (show i < 4611686018427387904 by omega), lands_some, Turns1]
      exact ⟨i + 1, rfl, by omega, by omega⟩
    · rw [List.length_map, ltN' hi]
      simp only [cond_false, lands_some, Turns1]
      have hil : l.take i = l := List.take_of_length_le (by omega)
      rw [hil, negL_eq]
      exact ⟨trivial, i, rfl⟩
  rw [hz] at key
  exact key
end NNeg
theorem meets_nneg : Meets Try.prog 51 ansLNeg := by
  refine meets_fn (orc_ok (l := NNeg.ans) ⟨meets_neg, meets_lput, trivial⟩) Try.f51 Try.func51 (by kernel_rfl) (fun args r h => ?_)
  unfold ansLNeg at h
  split at h
  · rename_i vs r b m
    simp only [Option.some.injEq, Prod.mk.injEq] at h
    obtain ⟨h1, rfl⟩ := h
    obtain ⟨l, c, h2, h3, rfl, rfl, rfl, rfl⟩ := isT_iff.1 h1
    obtain ⟨e1, S1, hE1, rfl, x, rfl⟩ := NNeg.loop l (sg c) (lb 4294967296 c) h2
    refine ⟨rfl, _, tabOf_all _, (NNeg.rest _ _ _ _ ((negL l).map (fun p => p.1)) ((negL l).map cL) x).trans ((bT (cnW_fits h3)).trans ((bT (cdec_true hE1)).trans ?_))⟩
    rw [dl_map, lvs_eq, lrs_eq]
  · cases h
theorem bytes_beq (x y : ByteArray) : (x.toList == y.toList) = decide (x = y) := by
  rw [Bool.eq_iff_iff, beq_iff_eq, decide_eq_true_eq]
  constructor
  · intro h
    rw [ByteArray.toList_eq, ByteArray.toList_eq] at h
    obtain ⟨⟨a⟩⟩ := x
    obtain ⟨⟨b⟩⟩ := y
    have h : a = b := h
    rw [h]
  · rintro rfl; rfl
end Go.Abs
end
section
/- What linear's functions answer: values, common divisors, a row turned about, a term in a variable's place. -/
namespace Go.Abs
open Go.Proofs Go.Dig
theorem ne0_of_big {z : Int} (h : fits z = false) : (he z != 0) = true := by rw [he_big h]; rfl
theorem eq0_of_fit {z : Int} (h : fits z = true) : (he z != 0) = false := by rw [he_fit h]; rfl
theorem gcdF_nonneg (l : List (Int × Int)) : ∀ g : Int, 0 ≤ g → 0 ≤ l.foldl (fun g p => gz g p.2) g := by
  induction l with
  | nil => exact fun g h => h
  | cons p l ih => exact fun g h => ih _ (Int.natCast_nonneg (Int.gcd g p.2))
theorem gcdF_fits (l : List (Int × Int)) : ∀ g : Int, fits g = true → (∀ p ∈ l, fits p.2 = true) → fits (l.foldl (fun g p => gz g p.2) g) = true := by
  induction l with
  | nil => exact fun g h _ => h
  | cons p l ih => exact fun g h hl => ih _ (fits_gz h (hl p List.mem_cons_self)) (fun q hq => hl q (List.mem_cons_of_mem _ hq))
theorem gcdL_nonneg (l : List (Int × Int)) : 0 ≤ gcdL l := by rw [gcdL_eq]; exact gcdF_nonneg l 0 (Int.le_refl _)
theorem gcdL_fits {l : List (Int × Int)} (h : okL l) : fits (gcdL l) = true := by rw [gcdL_eq]; exact gcdF_fits l 0 fits0 (fun p hp => okL_mem h hp)
theorem sg_nonneg {z : Int} (h : 0 ≤ z) : sg z = false := decide_eq_false (by omega)
theorem gcdF_succ {l : List (Int × Int)} {i : Nat} (hi : i < l.length) (g : Int) : (l.take (i + 1)).foldl (fun g p => gz g p.2) g = gz ((l.take i).foldl (fun g p => gz g p.2) g) l[i].2 := by
  rw [List.take_add_one, List.getElem?_eq_getElem hi, List.foldl_append]; rfl
theorem mem_take {α : Type} {l : List α} {i : Nat} {p : α} (h : p ∈ l.take i) : p ∈ l := List.mem_of_mem_take h
namespace NCommon
theorem loop (vs : List Int) (l : List (Int × Int)) (b : Bool) (m : List Int) (hl : okL l) (b0 : Bool) : ∃ e S1, Ends T orc L0 D0 (st0 vs (l.map cL) b m 0 b0 []) e S1 ∧ e = .exit 0 ∧ ∃ x b1, S1 = st0 vs (l.map cL) b m x b1 (lb 4294967296 (gcdL l)) := by
  have key : ∃ e S1, Ends T orc L0 D0 (st0 vs (l.map cL) b m ((0 : Nat) : Int) b0 (lb 4294967296 ((l.take 0).foldl (fun g p => gz g p.2) 0))) e S1 ∧ e = .exit 0 ∧ ∃ x b1, S1 = st0 vs (l.map cL) b m x b1 (lb 4294967296 (gcdL l)) := by
    refine loop_inv2 (fun (i : Nat) (b1 : Bool) => st0 vs (l.map cL) b m i b1 (lb 4294967296 ((l.take i).foldl (fun g p => gz g p.2) 0))) (fun i _ => i ≤ l.length) (fun i _ => l.length - i)
      (fun e S1 => e = .exit 0 ∧ ∃ x b1, S1 = st0 vs (l.map cL) b m x b1 (lb 4294967296 (gcdL l))) isL0 ?_ 0 b0 (Nat.zero_le _)
    intro i b1 h1
    have hlen := okL_len hl
    refine ⟨noTab, noTab_all, lands_of (round0 ..) ?_⟩
    by_cases hi : i < l.length
    · have hf := okL_mem hl (List.getElem_mem hi)
      have hg := gcdF_fits (l.take i) 0 fits0 (fun p hp => okL_mem hl (mem_take hp))
      have hn := gcdF_nonneg (l.take i) 0 (Int.le_refl _)
      have hc := cnW_fits hg
      have hnum := num_lbW ((l.take i).foldl (fun g p => gz g p.2) 0)
      rw [sg_nonneg hn] at hc hnum
      rw [List.length_map, ltN hi, inN hi, getL hi]
      simp only [cL0, cL1, cLeta, cnW_fits hf, num_lbW, hc, hnum, cond_true, Bool.and_self]
      rw [← gcdF_succ hi]
      simp only [wi_succ (show i < 4611686018427387904 by omega), lands_some, Turns2]
      exact ⟨i + 1, false, rfl, by omega, by omega⟩
    · rw [List.length_map, ltN' hi]
      simp only [cond_false, lands_some, Turns2]
      have hil : l.take i = l := List.take_of_length_le (by omega)
      rw [hil, gcdL_eq]
      exact ⟨trivial, i, b1, rfl⟩
  exact key
end NCommon
theorem meets_ncommon : Meets Try.prog 25 ansLCommon := by
  refine meets_fn (orc_ok (l := NCommon.ans) ⟨meets_gcd, trivial⟩) Try.f25 Try.func25 (by kernel_rfl) (fun args r h => ?_)
  unfold ansLCommon at h
  split at h
  · rename_i vs r b m
    simp only [Option.some.injEq, Prod.mk.injEq] at h
    obtain ⟨h1, rfl⟩ := h
    obtain ⟨l, k1, rfl, rfl⟩ := isl_iff.1 h1
    obtain ⟨e1, S1, hE1, rfl, x, b1, rfl⟩ := NCommon.loop (l.map (fun p => p.1)) l b m k1 true
    refine ⟨rfl, _, tabOf_all _, (NCommon.rest _ _ _ _ (lb 4294967296 (gcdL l)) x b1).trans ((bT (cdec_true hE1)).trans ?_)⟩
    rw [dl_map]
    show _ = some (Res.val (.agg [.bool (sg (gcdL l)), .ints .u32 (lb 4294967296 (gcdL l))]))
    rw [sg_nonneg (gcdL_nonneg l)]
  · cases h
theorem isT_row {vs : List Int} {r : List (List AV)} (h : isl vs r = true) : isT vs r false [] = true := by
  obtain ⟨l, k1, rfl, rfl⟩ := isl_iff.1 h
  exact isT_iff.2 ⟨l, 0, k1, fits0, rfl, rfl, sg_zero.symm, (lb_zero _).symm⟩
theorem num_zero : num 4294967296 false [] = 0 := rfl
theorem cmp_le (x y : Int) : decide (cmpZ x y ≤ 0) = decide (x ≤ y) := by
  rw [decide_eq_decide]; unfold cmpZ; split
  · omega
  · split <;> omega
theorem isEmpty_nil {m : List Int} (h : m.isEmpty = true) : m = [] := List.isEmpty_iff.1 h
theorem meets_nnot : Meets Try.prog 20 ansLNot := by
  refine meets_fn (orc_ok (l := NNot.ans) ⟨meets_add, meets_from, meets_nneg, meets_neg, trivial⟩) Try.f20 Try.func20 (by kernel_rfl) (fun args r h => ?_)
  unfold ansLNot at h
  split at h
  · rename_i vs r b m s l
    simp only [Option.some.injEq, Prod.mk.injEq, Bool.and_eq_true, Bool.not_eq_true'] at h
    obtain ⟨⟨⟨⟨⟨h1, rfl⟩, h3⟩, h4⟩, h5⟩, rfl⟩ := h
    obtain rfl := isEmpty_nil h3
    obtain ⟨c, rfl, rfl, _⟩ := (cn_iff W_two).1 h4
    rw [num_lbW] at h5
    have h1n : num 4294967296 false (lb 4294967296 1) = 1 := num_lbW 1
    refine ⟨rfl, _, noTab_all, (NNot.rest _ _ _ _ _ _).trans ?_⟩
    rw [h4, num_lbW, h1n, h5, isT_row h1, num_zero, noL_eq, noM_eq, N_eq]
    cases hb : fits (c + 1) with
    | false =>
      rw [he_big hb, show ((11 : Int) == 0) = false from rfl, cond_false, cond_false, lvs_nil, lrs_nil]
      rfl
    | true =>
      rw [he_fit hb, show ((0 : Int) == 0) = true from rfl, cond_true, cond_true, hz_fit hb, cnW_fits hb]
      rfl
  · cases h
namespace LScale
def Post (l : List (Int × Int)) (b : Bool) (m : List Int) (k : Int) (e : Ex) (S1 : St) : Prop :=
  (e = .exit 0 ∧ (∀ v, fits (cf l v * k) = true) ∧ ∃ x, S1 = st0 (l.map (fun p => p.1)) (l.map cL) b m (sg k) (lb 4294967296 k) x ((ofF (fun v => cf l v * k)).map (fun p => p.1)) ((ofF (fun v => cf l v * k)).map cL)) ∨
  (e = .ret ∧ (¬ ∀ v, fits (cf l v * k) = true) ∧ ∃ x l' r', S1 = st0x0 (l.map (fun p => p.1)) (l.map cL) b m (sg k) (lb 4294967296 k) 11 x l' r')
theorem loop (l : List (Int × Int)) (b : Bool) (m : List Int) (k : Int) (hl : okL l) (hk : fits k = true) : ∃ e S1, Ends T orc L0 D0 (st0 (l.map (fun p => p.1)) (l.map cL) b m (sg k) (lb 4294967296 k) 0 [] []) e S1 ∧ Post l b m k e S1 := by
  have hz := map_step0 (g := fun _ z => z * k) (fun _ => Int.zero_mul k) l
  have key : ∃ e S1, Ends T orc L0 D0 (st0 (l.map (fun p => p.1)) (l.map cL) b m (sg k) (lb 4294967296 k) ((0 : Nat) : Int) ((ofF (fun v => cf (l.take 0) v * k)).map (fun p => p.1)) ((ofF (fun v => cf (l.take 0) v * k)).map cL)) e S1 ∧ Post l b m k e S1 := by
    refine loop_inv1 (fun (i : Nat) => st0 (l.map (fun p => p.1)) (l.map cL) b m (sg k) (lb 4294967296 k) i ((ofF (fun v => cf (l.take i) v * k)).map (fun p => p.1)) ((ofF (fun v => cf (l.take i) v * k)).map cL)) (fun i => i ≤ l.length ∧ ∀ v, fits (cf (l.take i) v * k) = true) (fun i => l.length - i) (Post l b m k) isL0 ?_ 0 ⟨Nat.zero_le _, fun v => by rw [List.take_zero, cf_nil, Int.zero_mul]; exact fits0⟩
    intro i ⟨h1, h2⟩
    have hlen := okL_len hl
    refine ⟨noTab, noTab_all, lands_of (round0 ..) ?_⟩
    by_cases hi : i < l.length
    · have hf := okL_mem hl (List.getElem_mem hi)
      have hs : putL (l[i].2 * k) (ofF (fun v => cf (l.take i) v * k)) l[i].1 = ofF (fun v => cf (l.take (i + 1)) v * k) := map_step (okL_asc hl) (okL_in hl) (g := fun _ z => z * k) (fun _ => Int.zero_mul k) hi
      have ho := ofF_len (fun v => cf (l.take i) v * k)
      rw [List.length_map, List.length_map, ltN hi, inN hi, getL hi, rdV hi]
      simp only [cL0, cL1, cLeta, cnW_fits hf, cnW_fits hk, num_lbW, hf, hk, N_eq, cond_true, Bool.true_and, Bool.and_true, Bool.and_self, List.length_map]
      cases hp : fits (l[i].2 * k) with
      | false =>
        rw [ne0_of_big hp, he_big hp]
        simp only [cond_true, lands_some, Turns1]
        refine .inr ⟨rfl, fun hall => ?_, i, _, _, rfl⟩
        have := hall l[i].1
        rw [cf_mem (okL_asc hl) (List.getElem_mem hi), hp] at this
        cases this
      | true =>
        rw [eq0_of_fit hp, hz_fit hp, cnW_fits hp, decide_eq_true (show (ofF (fun v => cf (l.take i) v * k)).length ≤ 100000 by omega), putV_map, putR_map, hs]
        simp only [cond_true, cond_false, Bool.and_self, wi_succ (show i < 4611686018427387904 by omega), lands_some, Turns1]
        refine ⟨i + 1, rfl, ⟨by omega, fun v => ?_⟩, by omega⟩
        rw [cf_take_succ (okL_asc hl) hi]
        split
        · exact hp
        · exact h2 v
    · rw [List.length_map, ltN' hi]
      simp only [cond_false, lands_some, Turns1]
      have hil : l.take i = l := List.take_of_length_le (by omega)
      rw [hil] at h2 ⊢
      exact .inl ⟨rfl, h2, i, rfl⟩
  rw [show ofF (fun v => cf (l.take 0) v * k) = [] from hz] at key
  exact key
end LScale
theorem meets_nscale : Meets Try.prog 52 ansLScale := by
  refine meets_fn (orc_ok (l := LScale.ans) ⟨meets_mul, meets_lput, trivial⟩) Try.f52 Try.func52 (by kernel_rfl) (fun args r h => ?_)
  unfold ansLScale at h
  split at h
  · rename_i vs r b m s kl
    simp only [Option.some.injEq, Prod.mk.injEq, Bool.and_eq_true] at h
    obtain ⟨⟨h1, h2, h3⟩, rfl⟩ := h
    obtain ⟨l, c, k1, k2, rfl, rfl, rfl, rfl⟩ := isT_iff.1 h1
    obtain ⟨k, rfl, rfl, _⟩ := (cn_iff W_two).1 h2
    rw [num_lbW] at h3
    rw [dl_map, num_lbW, num_lbW]
    obtain ⟨e1, S1, hE1, hP⟩ := LScale.loop l (sg c) (lb 4294967296 c) k k1 h3
    rcases hP with ⟨rfl, hall, x, rfl⟩ | ⟨rfl, hall, x, l', r', rfl⟩
    · refine ⟨rfl, _, tabOf_all _, (LScale.rest_1 _ _ _ _ _ _ ((ofF (fun v => cf l v * k)).map (fun p => p.1)) ((ofF (fun v => cf l v * k)).map cL) x).trans ?_⟩
      rw [num_lbW, num_lbW, cnW_fits k2, cnW_fits h3, k2, h3]
      rcases scE_cases l c k with ⟨e1, e2, e3, e4, _⟩ | ⟨e1, e2, e3, e4⟩
      · rw [e1, e2, e3, eq0_of_fit e4, hz_fit e4, cdec_true hE1, lvs_eq, lrs_eq]
        rfl
      · have hcb : fits (c * k) = false := by rw [Bool.eq_false_iff]; exact fun hh => e4 ⟨hh, hall⟩
        rw [e1, e2, e3, ne0_of_big hcb, he_big hcb, lvs_nil, lrs_nil]
        rfl
    · refine ⟨rfl, _, tabOf_all _, (LScale.rest_0 _ _ _ _ _ _ 11 x l' r').trans ?_⟩
      rw [num_lbW, num_lbW, cnW_fits k2, cnW_fits h3, k2, h3]
      rcases scE_cases l c k with ⟨e1, e2, e3, e4, e5⟩ | ⟨e1, e2, e3, e4⟩
      · exact absurd e5 hall
      · rw [e1, e2, e3, lvs_nil, lrs_nil, cdec_true hE1]
        cases hcb : fits (c * k) with
        | false => rw [ne0_of_big hcb, he_big hcb]; rfl
        | true => rw [eq0_of_fit hcb]; rfl
  · cases h
end Go.Abs
end
section
/- States and rounds of the functions of linear and of its reference, as a program of this session printed them. -/
set_option maxRecDepth 10000
namespace Go.Abs
open Go.Proofs Go.Dig
noncomputable section
namespace NText
abbrev ans : Ans := [(26, ansText), (61, ansFrom), (45, ansSign)]
abbrev orc : Orc := orcOf ans
noncomputable def L0 : Code := lp Try.f41 0
theorem isL0 : ∃ a, L0 = .loop a := ⟨_, rfl⟩
abbrev D0 : List Nat := [0, 1, 2, 3, 6, 7, 8, 9, 10]
abbrev st0 (vs : List Int) (r : List (List AV)) (b : Bool) (m : List Int) (x0 : Int) (l0 : List Int) : St := ⟨.agg [.ints .i64 vs, .rows 2 r, .bool b, .ints .u32 m] :: .ptr 1 0 0 :: .str { data := #[] } :: .sl 3 0 0 :: tops 2 (.sl 6 0 0 :: .ptr 1 0 0 :: .ints .i64 vs :: .int .i64 (↑vs.length : Int) :: .int .i64 x0 :: tops 47 ([])), nos 1 (varE [(false, .ints .i64 vs), (false, .rows 2 r), (false, .bool b), (false, .ints .u32 m)] :: nos 1 (rowE (.ints .u8 l0) :: nos 2 ({ g := 0, pg := 0, o := some (AObj.row { g := 0, own := false, v := .top }) } :: nos 51 ([]))))⟩
theorem round0 (vs : List Int) (r : List (List AV)) (b : Bool) (m : List Int) (x0 : Int) (l0 : List Int) : goL T orc (noTab) D0 L0 (st0 vs r b m x0 l0) =
    (bif decide (x0 < (↑vs.length : Int)) then (bif inB x0 vs.length then (bif decide (x0 > 0) then (bif true && decide ((l0 ++ bytesOf { data := #[32, 43, 32] }).length * 1 ≤ 140737488355328) then (bif inB x0 r.length then (bif etasOk [.bool false, .ints .u32 []] (r.getD x0.toNat []) then (bif cn (4294967296) (gBool ((r.getD x0.toNat []).getD 0 .top)) (gInts ((r.getD x0.toNat []).getD 1 .top)) then (bif true && decide ((l0 ++ bytesOf { data := #[32, 43, 32] } ++ bytesOf (txt (num (4294967296) (gBool ((r.getD x0.toNat []).getD 0 .top)) (gInts ((r.getD x0.toNat []).getD 1 .top))))).length * 1 ≤ 140737488355328) then (bif true && decide ((l0 ++ bytesOf { data := #[32, 43, 32] } ++ bytesOf (txt (num (4294967296) (gBool ((r.getD x0.toNat []).getD 0 .top)) (gInts ((r.getD x0.toNat []).getD 1 .top)))) ++ bytesOf { data := #[42, 120] }).length * 1 ≤ 140737488355328) then (bif i64B (rd vs x0) then (bif cn (4294967296) (sg (rd vs x0)) (lb (4294967296) (rd vs x0)) then (bif true && decide ((l0 ++ bytesOf { data := #[32, 43, 32] } ++ bytesOf (txt (num (4294967296) (gBool ((r.getD x0.toNat []).getD 0 .top)) (gInts ((r.getD x0.toNat []).getD 1 .top)))) ++ bytesOf { data := #[42, 120] } ++ bytesOf (txt (N (4294967296) (rd vs x0)))).length * 1 ≤ 140737488355328) then some (.normal, st0 vs r b m (IntKind.i64.wrap (x0 + 1)) (l0 ++ bytesOf { data := #[32, 43, 32] } ++ bytesOf (txt (num (4294967296) (gBool ((r.getD x0.toNat []).getD 0 .top)) (gInts ((r.getD x0.toNat []).getD 1 .top)))) ++ bytesOf { data := #[42, 120] } ++ bytesOf (txt (N (4294967296) (rd vs x0))))) else none) else none) else none) else none) else none) else none) else none) else none) else none) else (bif inB x0 r.length then (bif etasOk [.bool false, .ints .u32 []] (r.getD x0.toNat []) then (bif cn (4294967296) (gBool ((r.getD x0.toNat []).getD 0 .top)) (gInts ((r.getD x0.toNat []).getD 1 .top)) then (bif true && decide ((l0 ++ bytesOf (txt (num (4294967296) (gBool ((r.getD x0.toNat []).getD 0 .top)) (gInts ((r.getD x0.toNat []).getD 1 .top))))).length * 1 ≤ 140737488355328) then (bif true && decide ((l0 ++ bytesOf (txt (num (4294967296) (gBool ((r.getD x0.toNat []).getD 0 .top)) (gInts ((r.getD x0.toNat []).getD 1 .top)))) ++ bytesOf { data := #[42, 120] }).length * 1 ≤ 140737488355328) then (bif i64B (rd vs x0) then (bif cn (4294967296) (sg (rd vs x0)) (lb (4294967296) (rd vs x0)) then (bif true && decide ((l0 ++ bytesOf (txt (num (4294967296) (gBool ((r.getD x0.toNat []).getD 0 .top)) (gInts ((r.getD x0.toNat []).getD 1 .top)))) ++ bytesOf { data := #[42, 120] } ++ bytesOf (txt (N (4294967296) (rd vs x0)))).length * 1 ≤ 140737488355328) then some (.normal, st0 vs r b m (IntKind.i64.wrap (x0 + 1)) (l0 ++ bytesOf (txt (num (4294967296) (gBool ((r.getD x0.toNat []).getD 0 .top)) (gInts ((r.getD x0.toNat []).getD 1 .top)))) ++ bytesOf { data := #[42, 120] } ++ bytesOf (txt (N (4294967296) (rd vs x0))))) else none) else none) else none) else none) else none) else none) else none) else none)) else none) else some (.exit 0, st0 vs r b m x0 l0)) := by kernel_rfl
-- loop 0 ends exit0 st0 vs r b m x0 l0
theorem rest (vs : List Int) (r : List (List AV)) (b : Bool) (m : List Int) (l1 : List Int) (x1 : Int) : runT T orc (tabOf T orc [(3, 3268359839144463919438546331967940434993252599768884404466513599196910, .exit 0, st0 vs r b m x1 l1)]) Try.f41 [.agg [.ints .i64 vs, .rows 2 r, .bool b, .ints .u32 m]] =
    (bif cdec (Ends T orc L0 D0 (st0 vs r b m (0) ([])) (.exit 0) (st0 vs r b m x1 l1)) then (bif (↑vs.length : Int) == 0 then (bif decide ((↑vs.length : Int) > 0) then (bif true && decide ((l1 ++ bytesOf { data := #[32, 43, 32] }).length * 1 ≤ 140737488355328) then (bif cn (4294967296) b m then (bif true && decide ((l1 ++ bytesOf { data := #[32, 43, 32] } ++ bytesOf (txt (num (4294967296) b m))).length * 1 ≤ 140737488355328) then some (.val (.str (strOf (l1 ++ bytesOf { data := #[32, 43, 32] } ++ bytesOf (txt (num (4294967296) b m)))))) else none) else none) else none) else (bif cn (4294967296) b m then (bif true && decide ((l1 ++ bytesOf (txt (num (4294967296) b m))).length * 1 ≤ 140737488355328) then some (.val (.str (strOf (l1 ++ bytesOf (txt (num (4294967296) b m)))))) else none) else none)) else (bif cn (4294967296) b m then (bif cmpZ (num (4294967296) b m) (0) != 0 then (bif decide ((↑vs.length : Int) > 0) then (bif true && decide ((l1 ++ bytesOf { data := #[32, 43, 32] }).length * 1 ≤ 140737488355328) then (bif cn (4294967296) b m then (bif true && decide ((l1 ++ bytesOf { data := #[32, 43, 32] } ++ bytesOf (txt (num (4294967296) b m))).length * 1 ≤ 140737488355328) then some (.val (.str (strOf (l1 ++ bytesOf { data := #[32, 43, 32] } ++ bytesOf (txt (num (4294967296) b m)))))) else none) else none) else none) else (bif cn (4294967296) b m then (bif true && decide ((l1 ++ bytesOf (txt (num (4294967296) b m))).length * 1 ≤ 140737488355328) then some (.val (.str (strOf (l1 ++ bytesOf (txt (num (4294967296) b m)))))) else none) else none)) else some (.val (.str (strOf l1)))) else none)) else none) := by kernel_rfl
end NText
namespace NPlain
abbrev ans : Ans := [(26, ansText)]
abbrev orc : Orc := orcOf ans
noncomputable def L0 : Code := lp Try.f18 0
theorem isL0 : ∃ a, L0 = .loop a := ⟨_, rfl⟩
abbrev D0 : List Nat := [0, 1, 2, 3, 6, 7, 8, 9, 10, 11, 12, 13, 14]
abbrev st0 (vs : List Int) (r : List (List AV)) (b : Bool) (m : List Int) (s : Bool) (l : List Int) (x0 : Int) (r0 : List (List AV)) : St := ⟨.agg [.ints .i64 vs, .rows 2 r, .bool b, .ints .u32 m, .bool s, .ints .u32 l] :: .ptr 1 0 0 :: .ptr 2 0 0 :: .ptr 3 0 0 :: tops 2 (.ptr 1 0 4 :: .agg [.bool s, .ints .u32 l] :: .str (txt (num (4294967296) s l)) :: .agg [.nil, .str (txt (num (4294967296) s l))] :: .ptr 1 0 0 :: .ptr 1 0 0 :: .ints .i64 vs :: .int .i64 (↑vs.length : Int) :: .int .i64 x0 :: tops 20 ([])), nos 1 (varE [(false, .ints .i64 vs), (false, .rows 2 r), (false, .bool b), (false, .ints .u32 m), (false, .bool s), (false, .ints .u32 l)] :: varE [(true, .rows 2 []), (false, .str { data := #[] })] :: varE [(true, .rows 2 r0), (false, .str (txt (num (4294967296) s l)))] :: nos 31 ([]))⟩
theorem round0 (vs : List Int) (r : List (List AV)) (b : Bool) (m : List Int) (s : Bool) (l : List Int) (x0 : Int) (r0 : List (List AV)) : goL T orc (noTab) D0 L0 (st0 vs r b m s l x0 r0) =
    (bif decide (x0 < (↑vs.length : Int)) then (bif inB x0 vs.length then (bif inB x0 r.length then (bif etasOk [.bool false, .ints .u32 []] (r.getD x0.toNat []) then (bif cn (4294967296) (gBool ((r.getD x0.toNat []).getD 0 .top)) (gInts ((r.getD x0.toNat []).getD 1 .top)) then (bif true && decide ((r0 ++ [[AV.int .i64 (rd vs x0), .str (txt (num (4294967296) (gBool ((r.getD x0.toNat []).getD 0 .top)) (gInts ((r.getD x0.toNat []).getD 1 .top))))]]).length * 24 ≤ 140737488355328) then some (.normal, st0 vs r b m s l (IntKind.i64.wrap (x0 + 1)) (r0 ++ [[AV.int .i64 (rd vs x0), .str (txt (num (4294967296) (gBool ((r.getD x0.toNat []).getD 0 .top)) (gInts ((r.getD x0.toNat []).getD 1 .top))))]])) else none) else none) else none) else none) else none) else some (.exit 0, st0 vs r b m s l x0 r0)) := by kernel_rfl
-- loop 0 ends exit0 st0 vs r b m s l x0 r0
theorem rest (vs : List Int) (r : List (List AV)) (b : Bool) (m : List Int) (s : Bool) (l : List Int) (r1 : List (List AV)) (x1 : Int) : runT T orc (tabOf T orc [(3, 662060433831836904304711201671232023883502, .exit 0, st0 vs r b m s l x1 r1)]) Try.f18 [.agg [.ints .i64 vs, .rows 2 r, .bool b, .ints .u32 m, .bool s, .ints .u32 l]] =
    (bif cn (4294967296) s l then (bif cdec (Ends T orc L0 D0 (st0 vs r b m s l (0) ([])) (.exit 0) (st0 vs r b m s l x1 r1)) then some (.val (.agg [.rows 2 r1, .str (txt (num (4294967296) s l))])) else none) else none) := by kernel_rfl
end NPlain
end
end Go.Abs
end
section
/- What linear's functions answer: a term's text, a row as plain data. -/
namespace Go.Abs
open Go.Proofs Go.Dig
theorem txtL_len {z : Int} (h : z.natAbs < Lim) : (txtL z).length ≤ 10002 := by
  have h1 := lb10_length h
  unfold lb at h1
  unfold txtL dig
  split
  · simp
  · rw [List.length_append, List.length_map, List.length_reverse]
    split <;> simp only [List.length_cons, List.length_nil] <;> omega
theorem txt_len {z : Int} (h : z.natAbs < Lim) : (bytesOf (txt z)).length ≤ 10002 := by rw [bytesOf_txt]; exact txtL_len h
theorem bytes_app (a b : ByteArray) : bytesOf (a ++ b) = bytesOf a ++ bytesOf b := by
  unfold bytesOf
  rw [ByteArray.toList_data_append, List.map_append]
theorem bytes_range (s : ByteArray) : ∀ c ∈ bytesOf s, 0 ≤ c ∧ c < 256 := by
  intro c hc
  unfold bytesOf at hc
  obtain ⟨b, _, rfl⟩ := List.mem_map.1 hc
  have := b.toNat_lt
  exact ⟨by omega, by omega⟩
theorem strOf_bytes (s : ByteArray) : strOf (bytesOf s) = s := bytesOf_inj (bytesOf_strOf (bytes_range s))
theorem sumT_snoc (l : List (Int × Int)) (p : Int × Int) : sumT (l ++ [p]) = if l = [] then partT p else sumT l ++ (sep ++ partT p) := by
  induction l with
  | nil => rfl
  | cons q l ih =>
    rw [if_neg (List.cons_ne_nil q l)]
    cases l with
    | nil => rfl
    | cons q' l =>
      rw [if_neg (List.cons_ne_nil q' l)] at ih
      show partT q ++ (sep ++ sumT ((q' :: l) ++ [p])) = partT q ++ (sep ++ sumT (q' :: l)) ++ (sep ++ partT p)
      rw [ih, ByteArray.append_assoc, ByteArray.append_assoc]
theorem sumT_take {l : List (Int × Int)} {i : Nat} (hi : i < l.length) : sumT (l.take (i + 1)) = if i = 0 then partT l[i] else sumT (l.take i) ++ (sep ++ partT l[i]) := by
  have e : l.take (i + 1) = l.take i ++ [l[i]] := by rw [List.take_add_one, List.getElem?_eq_getElem hi]; rfl
  rw [e, sumT_snoc]
  by_cases h0 : i = 0
  · subst h0; rw [if_pos rfl, if_pos (List.take_zero)]
  · rw [if_neg h0, if_neg (fun h => by
      have := congrArg List.length h
      rw [List.length_take] at this
      simp only [List.length_nil] at this
      omega)]
theorem i64B_var {v : Int} (h : 0 ≤ v ∧ v < 4096) : i64B v = true := by
  unfold i64B; rw [Bool.and_eq_true, decide_eq_true_eq, decide_eq_true_eq]; omega
set_option exponentiation.threshold 20000 in
theorem fits_var {v : Int} (h : 0 ≤ v ∧ v < 4096) : fits v = true := by
  rw [fits_iff]
  have h1 : v.natAbs < 2 ^ 12 := by omega
  exact Nat.lt_of_lt_of_le h1 (Nat.pow_le_pow_right (show 0 < 2 by omega) (show 12 ≤ 1024 by omega))
theorem sumT_len {l : List (Int × Int)} (hl : okL l) (i : Nat) (h : i ≤ l.length) : (bytesOf (sumT (l.take i))).length ≤ i * 30000 := by
  induction i with
  | zero => rw [List.take_zero]; exact Nat.le_refl 0
  | succ i ih =>
    have h1 := ih (by omega)
    have h2 := txt_len (small_of_fits (okL_mem hl (List.getElem_mem (show i < l.length by omega))))
    have h3 := txt_len (small_of_fits (fits_var (okL_in hl _ (List.getElem_mem (show i < l.length by omega)))))
    have hp : (bytesOf (partT l[i])).length ≤ 20006 := by
      unfold partT
      rw [bytes_app, bytes_app, List.length_append, List.length_append, show (bytesOf ⟨#[42, 120]⟩).length = 2 from rfl]
      omega
    rw [sumT_take (by omega)]
    split
    · omega
    · rw [bytes_app, bytes_app, List.length_append, List.length_append, show (bytesOf sep).length = 3 from rfl]
      omega
theorem room1 {l : List Int} (h : l.length ≤ 140000000000) : (true && decide (l.length * 1 ≤ 140737488355328)) = true := by
  rw [Bool.true_and, decide_eq_true_eq]; omega
namespace NText
theorem loop (l : List (Int × Int)) (b : Bool) (m : List Int) (hl : okL l) : ∃ e S1, Ends T orc L0 D0 (st0 (l.map (fun p => p.1)) (l.map cL) b m 0 []) e S1 ∧ e = .exit 0 ∧ ∃ x, S1 = st0 (l.map (fun p => p.1)) (l.map cL) b m x (bytesOf (sumT l)) := by
  have key : ∃ e S1, Ends T orc L0 D0 (st0 (l.map (fun p => p.1)) (l.map cL) b m ((0 : Nat) : Int) (bytesOf (sumT (l.take 0)))) e S1 ∧ e = .exit 0 ∧ ∃ x, S1 = st0 (l.map (fun p => p.1)) (l.map cL) b m x (bytesOf (sumT l)) := by
    refine loop_inv1 (fun (i : Nat) => st0 (l.map (fun p => p.1)) (l.map cL) b m i (bytesOf (sumT (l.take i)))) (fun i => i ≤ l.length) (fun i => l.length - i)
      (fun e S1 => e = .exit 0 ∧ ∃ x, S1 = st0 (l.map (fun p => p.1)) (l.map cL) b m x (bytesOf (sumT l))) isL0 ?_ 0 (Nat.zero_le _)
    intro i h1
    have hlen := okL_len hl
    refine ⟨noTab, noTab_all, lands_of (round0 ..) ?_⟩
    by_cases hi : i < l.length
    · have hf := okL_mem hl (List.getElem_mem hi)
      have hv := okL_in hl _ (List.getElem_mem hi)
      have hL := sumT_len hl i (by omega)
      have t1 := txt_len (small_of_fits hf)
      have t2 := txt_len (small_of_fits (fits_var hv))
      have hsep : (bytesOf { data := #[32, 43, 32] }).length = 3 := rfl
      have hx : (bytesOf { data := #[42, 120] }).length = 2 := rfl
      have hnext := sumT_take hi
      rw [List.length_map, List.length_map, ltN hi, inN hi, getL hi, rdV hi]
      simp only [cL0, cL1, cLeta, cnW_fits hf, cnW_fits (fits_var hv), i64B_var hv, num_lbW, N_eq, cond_true]
      by_cases h0 : i = 0
      · rw [if_pos h0] at hnext
        rw [decide_eq_false (show ¬ ((i : Nat) : Int) > 0 by omega), cond_false, room1 (by simp only [List.length_append, hsep, hx]; omega), room1 (by simp only [List.length_append, hsep, hx]; omega), room1 (by simp only [List.length_append, hsep, hx]; omega)]
        simp only [cond_true, wi_succ (show i < 4611686018427387904 by omega), lands_some, Turns1]
        refine ⟨i + 1, ?_, by omega, by omega⟩
        have e : bytesOf (sumT (l.take (i + 1))) = bytesOf (sumT (l.take i)) ++ bytesOf (txt l[i].2) ++ bytesOf { data := #[42, 120] } ++ bytesOf (txt l[i].1) := by
          rw [hnext, show l.take i = [] from by rw [h0, List.take_zero], show bytesOf (sumT []) = [] from rfl]
          unfold partT
          rw [bytes_app, bytes_app, List.nil_append, List.append_assoc]
        rw [e]
      · rw [if_neg h0] at hnext
        rw [decide_eq_true (show ((i : Nat) : Int) > 0 by omega), cond_true, room1 (by simp only [List.length_append, hsep, hx]; omega), room1 (by simp only [List.length_append, hsep, hx]; omega), room1 (by simp only [List.length_append, hsep, hx]; omega), room1 (by simp only [List.length_append, hsep, hx]; omega)]
        simp only [cond_true, wi_succ (show i < 4611686018427387904 by omega), lands_some, Turns1]
        refine ⟨i + 1, ?_, by omega, by omega⟩
        have e : bytesOf (sumT (l.take (i + 1))) = bytesOf (sumT (l.take i)) ++ bytesOf { data := #[32, 43, 32] } ++ bytesOf (txt l[i].2) ++ bytesOf { data := #[42, 120] } ++ bytesOf (txt l[i].1) := by
          rw [hnext]
          unfold partT sep
          rw [bytes_app, bytes_app, bytes_app, bytes_app, List.append_assoc, List.append_assoc, List.append_assoc]
        rw [e]
    · rw [List.length_map, ltN' hi]
      simp only [cond_false, lands_some, Turns1]
      have hil : l.take i = l := List.take_of_length_le (by omega)
      rw [hil]
      exact ⟨trivial, i, rfl⟩
  exact key
end NText
theorem meets_ntext : Meets Try.prog 41 ansLText := by
  refine meets_fn (orc_ok (l := NText.ans) ⟨meets_text, meets_from, meets_sign, trivial⟩) Try.f41 Try.func41 (by kernel_rfl) (fun args r h => ?_)
  unfold ansLText at h
  split at h
  · rename_i vs r b m
    simp only [Option.some.injEq, Prod.mk.injEq] at h
    obtain ⟨h1, rfl⟩ := h
    obtain ⟨l, c, k1, k2, rfl, rfl, rfl, rfl⟩ := isT_iff.1 h1
    obtain ⟨e1, S1, hE1, rfl, x, rfl⟩ := NText.loop l (sg c) (lb 4294967296 c) k1
    have hT := ttxt_eq l c
    have hL := sumT_len k1 l.length (Nat.le_refl _)
    rw [List.take_length] at hL
    have hlen := okL_len k1
    have hsep : (bytesOf { data := #[32, 43, 32] }).length = 3 := rfl
    have t1 := txt_len (small_of_fits k2)
    refine ⟨rfl, _, tabOf_all _, (NText.rest _ _ _ _ (bytesOf (sumT l)) x).trans ((bT (cdec_true hE1)).trans ?_)⟩
    rw [List.length_map, dl_map, num_lbW, cnW_fits k2, cmpZ_zero]
    by_cases h0 : l = []
    · subst h0
      have hT : ttxt [] c = txt c := hT
      rw [hT]
      refine (bT rfl).trans ((bF rfl).trans ((bT rfl).trans ((bT (room1 (by simp only [List.length_append]; omega))).trans ?_)))
      rw [show bytesOf (sumT []) = [] from rfl, List.nil_append, strOf_bytes]
    · have hpos : 0 < l.length := List.length_pos_iff.2 h0
      rw [show l.isEmpty = false from List.isEmpty_eq_false_iff.2 h0, cond_false] at hT
      refine (bF (beq_eq_false_iff_ne.2 (by omega))).trans ((bT rfl).trans ?_)
      cases hc : c == 0 with
      | true =>
        rw [hc, cond_true] at hT
        rw [hT]
        refine (bF rfl).trans ?_
        rw [strOf_bytes]
      | false =>
        rw [hc, cond_false] at hT
        rw [hT]
        refine (bT rfl).trans ((bT (decide_eq_true (by omega))).trans ((bT (room1 (by simp only [List.length_append, hsep]; omega))).trans ((bT rfl).trans ((bT (room1 (by simp only [List.length_append, hsep]; omega))).trans ?_))))
        have e : bytesOf (sumT l ++ (sep ++ txt c)) = bytesOf (sumT l) ++ bytesOf { data := #[32, 43, 32] } ++ bytesOf (txt c) := by
          unfold sep
          rw [bytes_app, bytes_app, List.append_assoc]
        rw [← e, strOf_bytes]
  · cases h
namespace NPlain
theorem loop (l : List (Int × Int)) (b : Bool) (m : List Int) (s : Bool) (ll : List Int) (hl : okL l) : ∃ e S1, Ends T orc L0 D0 (st0 (l.map (fun p => p.1)) (l.map cL) b m s ll 0 []) e S1 ∧ e = .exit 0 ∧ ∃ x, S1 = st0 (l.map (fun p => p.1)) (l.map cL) b m s ll x ((l.map (fun p => (p.1, txt p.2))).map cP) := by
  have key : ∃ e S1, Ends T orc L0 D0 (st0 (l.map (fun p => p.1)) (l.map cL) b m s ll ((0 : Nat) : Int) (((l.take 0).map (fun p => (p.1, txt p.2))).map cP)) e S1 ∧ e = .exit 0 ∧ ∃ x, S1 = st0 (l.map (fun p => p.1)) (l.map cL) b m s ll x ((l.map (fun p => (p.1, txt p.2))).map cP) := by
    refine loop_inv1 (fun (i : Nat) => st0 (l.map (fun p => p.1)) (l.map cL) b m s ll i (((l.take i).map (fun p => (p.1, txt p.2))).map cP)) (fun i => i ≤ l.length) (fun i => l.length - i)
      (fun e S1 => e = .exit 0 ∧ ∃ x, S1 = st0 (l.map (fun p => p.1)) (l.map cL) b m s ll x ((l.map (fun p => (p.1, txt p.2))).map cP)) isL0 ?_ 0 (Nat.zero_le _)
    intro i h1
    have hlen := okL_len hl
    refine ⟨noTab, noTab_all, lands_of (round0 ..) ?_⟩
    by_cases hi : i < l.length
    · have hf := okL_mem hl (List.getElem_mem hi)
      have e : ((l.take i).map (fun p => (p.1, txt p.2))).map cP ++ [[AV.int .i64 l[i].1, .str (txt l[i].2)]] = ((l.take (i + 1)).map (fun p => (p.1, txt p.2))).map cP := by
        rw [List.take_add_one, List.getElem?_eq_getElem hi, List.map_append, List.map_append]; rfl
      rw [List.length_map, List.length_map, ltN hi, inN hi, getL hi, rdV hi]
      simp only [cL0, cL1, cLeta, cnW_fits hf, num_lbW, cond_true, e]
      rw [show (true && decide ((((l.take (i + 1)).map (fun p => (p.1, txt p.2))).map cP).length * 24 ≤ 140737488355328)) = true from by
        rw [Bool.true_and, decide_eq_true_eq, List.length_map, List.length_map, List.length_take]; omega]
      simp only [cond_true, wi_succ (show i < 4611686018427387904 by omega), lands_some, Turns1]
      exact ⟨i + 1, rfl, by omega, by omega⟩
    · rw [List.length_map, ltN' hi]
      simp only [cond_false, lands_some, Turns1]
      have hil : l.take i = l := List.take_of_length_le (by omega)
      rw [hil]
      exact ⟨trivial, i, rfl⟩
  exact key
end NPlain
theorem meets_nplain : Meets Try.prog 18 ansLPlain := by
  refine meets_fn (orc_ok (l := NPlain.ans) ⟨meets_text, trivial⟩) Try.f18 Try.func18 (by kernel_rfl) (fun args r h => ?_)
  unfold ansLPlain at h
  split at h
  · rename_i vs r b m s ll
    simp only [Option.some.injEq, Prod.mk.injEq, Bool.and_eq_true] at h
    obtain ⟨⟨h1, h2⟩, rfl⟩ := h
    obtain ⟨l, k1, rfl, rfl⟩ := isl_iff.1 h1
    obtain ⟨e1, S1, hE1, rfl, x, rfl⟩ := NPlain.loop l b m s ll k1
    refine ⟨rfl, _, tabOf_all _, (NPlain.rest _ _ _ _ _ _ ((l.map (fun p => (p.1, txt p.2))).map cP) x).trans ((bT h2).trans ((bT (cdec_true hE1)).trans ?_))⟩
    rw [dl_map, prs_eq, tell_eq]
  · cases h
end Go.Abs
end
section
/- States and rounds of the functions of linear and of its reference, as a program of this session printed them. -/
set_option maxRecDepth 10000
namespace Go.Abs
open Go.Proofs Go.Dig
noncomputable section
namespace NRead
abbrev ans : Ans := [(58, ansParse), (35, ansLVar), (52, ansLScale), (46, ansLAdd)]
abbrev orc : Orc := orcOf ans
noncomputable def L0 : Code := lp Try.f15 0
theorem isL0 : ∃ a, L0 = .loop a := ⟨_, rfl⟩
abbrev D0 : List Nat := [0, 1, 2, 3, 4, 5, 6, 12, 13, 14, 15, 17, 18, 19, 20, 21, 22, 23, 24, 27, 28, 29, 30]
abbrev st0 (x : List (List AV)) (s : ByteArray) (x1 : Int) (l0 : List Int) (r0 : List (List AV)) (b0 : Bool) (l1 : List Int) : St := ⟨.agg [.rows 2 x, .str s] :: .ptr 1 0 0 :: .ptr 2 0 0 :: .int .i64 (0) :: .ptr 4 0 0 :: .int .i64 (re s) :: .ptr 6 0 0 :: tops 5 (.ptr 1 0 0 :: .rows 2 x :: .int .i64 (↑x.length : Int) :: .bool (decide ((↑x.length : Int) > 4096)) :: tops 1 (.tup [R (rv s), .int .i64 (re s)] :: .ptr 1 0 1 :: .str s :: .tup [R (rv s), .int .i64 (re s)] :: R (rv s) :: .int .i64 (re s) :: .int .i64 (re s) :: .bool (re s != 0) :: tops 2 (.ptr 1 0 0 :: .rows 2 x :: .int .i64 (↑x.length : Int) :: .int .i64 x1 :: tops 43 ([])))), nos 1 (varE [(false, .rows 2 x), (false, .str s)] :: varE [(true, .ints .i64 []), (true, .rows 2 []), (false, .bool false), (true, .ints .u32 []), (false, .bool false), (true, .ints .u32 [])] :: nos 1 (varE [(false, .bool (sg (rv s))), (false, .ints .u32 (lb (4294967296) (rv s)))] :: nos 1 (varE [(false, .ints .i64 l0), (false, .rows 2 r0), (false, .bool b0), (false, .ints .u32 l1)] :: nos 67 ([]))))⟩
abbrev st0x0 (x : List (List AV)) (s : ByteArray) (x2 : Int) (x1 : Int) (l0 : List Int) (r0 : List (List AV)) (b0 : Bool) (l1 : List Int) : St := ⟨.agg [.rows 2 x, .str s] :: .ptr 1 0 0 :: .ptr 2 0 0 :: .int .i64 x2 :: .ptr 4 0 0 :: .int .i64 (re s) :: .ptr 6 0 0 :: tops 5 (.ptr 1 0 0 :: .rows 2 x :: .int .i64 (↑x.length : Int) :: .bool (decide ((↑x.length : Int) > 4096)) :: tops 1 (.tup [R (rv s), .int .i64 (re s)] :: .ptr 1 0 1 :: .str s :: .tup [R (rv s), .int .i64 (re s)] :: R (rv s) :: .int .i64 (re s) :: .int .i64 (re s) :: .bool (re s != 0) :: tops 2 (.ptr 1 0 0 :: .rows 2 x :: .int .i64 (↑x.length : Int) :: .int .i64 x1 :: tops 43 ([])))), nos 1 (varE [(false, .rows 2 x), (false, .str s)] :: varE [(true, .ints .i64 []), (true, .rows 2 []), (false, .bool false), (true, .ints .u32 []), (false, .bool false), (true, .ints .u32 [])] :: nos 1 (varE [(false, .bool (sg (rv s))), (false, .ints .u32 (lb (4294967296) (rv s)))] :: nos 1 (varE [(false, .ints .i64 l0), (false, .rows 2 r0), (false, .bool b0), (false, .ints .u32 l1)] :: nos 67 ([]))))⟩
abbrev st0x1 (x : List (List AV)) (s : ByteArray) : St := ⟨.agg [.rows 2 x, .str s] :: .ptr 1 0 0 :: .ptr 2 0 0 :: .int .i64 (vE (gInt ((x.getD 0 []).getD 0 .top))) :: .ptr 4 0 0 :: .int .i64 (re s) :: .ptr 6 0 0 :: tops 5 (.ptr 1 0 0 :: .rows 2 x :: .int .i64 (↑x.length : Int) :: .bool (decide ((↑x.length : Int) > 4096)) :: tops 1 (.tup [R (rv s), .int .i64 (re s)] :: .ptr 1 0 1 :: .str s :: .tup [R (rv s), .int .i64 (re s)] :: R (rv s) :: .int .i64 (re s) :: .int .i64 (re s) :: .bool (re s != 0) :: tops 2 (.ptr 1 0 0 :: .rows 2 x :: .int .i64 (↑x.length : Int) :: .int .i64 (0) :: tops 43 ([])))), nos 1 (varE [(false, .rows 2 x), (false, .str s)] :: varE [(true, .ints .i64 []), (true, .rows 2 []), (false, .bool false), (true, .ints .u32 []), (false, .bool false), (true, .ints .u32 [])] :: nos 1 (varE [(false, .bool (sg (rv s))), (false, .ints .u32 (lb (4294967296) (rv s)))] :: nos 1 (varE [(true, .ints .i64 []), (true, .rows 2 []), (false, .bool false), (true, .ints .u32 [])] :: nos 67 ([]))))⟩
abbrev st0x2 (x : List (List AV)) (s : ByteArray) : St := ⟨.agg [.rows 2 x, .str s] :: .ptr 1 0 0 :: .ptr 2 0 0 :: .int .i64 (re (gStr ((x.getD 0 []).getD 1 .top))) :: .ptr 4 0 0 :: .int .i64 (re s) :: .ptr 6 0 0 :: tops 5 (.ptr 1 0 0 :: .rows 2 x :: .int .i64 (↑x.length : Int) :: .bool (decide ((↑x.length : Int) > 4096)) :: tops 1 (.tup [R (rv s), .int .i64 (re s)] :: .ptr 1 0 1 :: .str s :: .tup [R (rv s), .int .i64 (re s)] :: R (rv s) :: .int .i64 (re s) :: .int .i64 (re s) :: .bool (re s != 0) :: tops 2 (.ptr 1 0 0 :: .rows 2 x :: .int .i64 (↑x.length : Int) :: .int .i64 (0) :: tops 43 ([])))), nos 1 (varE [(false, .rows 2 x), (false, .str s)] :: varE [(true, .ints .i64 []), (true, .rows 2 []), (false, .bool false), (true, .ints .u32 []), (false, .bool false), (true, .ints .u32 [])] :: nos 1 (varE [(false, .bool (sg (rv s))), (false, .ints .u32 (lb (4294967296) (rv s)))] :: nos 1 (varE [(true, .ints .i64 []), (true, .rows 2 []), (false, .bool false), (true, .ints .u32 [])] :: nos 67 ([]))))⟩
abbrev st0x3 (x : List (List AV)) (s : ByteArray) : St := ⟨.agg [.rows 2 x, .str s] :: .ptr 1 0 0 :: .ptr 2 0 0 :: .int .i64 (0) :: .ptr 4 0 0 :: .int .i64 (re s) :: .ptr 6 0 0 :: tops 5 (.ptr 1 0 0 :: .rows 2 x :: .int .i64 (↑x.length : Int) :: .bool (decide ((↑x.length : Int) > 4096)) :: tops 1 (.tup [R (rv s), .int .i64 (re s)] :: .ptr 1 0 1 :: .str s :: .tup [R (rv s), .int .i64 (re s)] :: R (rv s) :: .int .i64 (re s) :: .int .i64 (re s) :: .bool (re s != 0) :: tops 2 (.ptr 1 0 0 :: .rows 2 x :: .int .i64 (↑x.length : Int) :: .int .i64 (0) :: tops 43 ([])))), nos 1 (varE [(false, .rows 2 x), (false, .str s)] :: varE [(true, .ints .i64 []), (true, .rows 2 []), (false, .bool false), (true, .ints .u32 []), (false, .bool false), (true, .ints .u32 [])] :: nos 1 (varE [(false, .bool (sg (rv s))), (false, .ints .u32 (lb (4294967296) (rv s)))] :: nos 1 (varE [(true, .ints .i64 []), (true, .rows 2 []), (false, .bool false), (true, .ints .u32 [])] :: nos 67 ([]))))⟩
abbrev st0e (x : List (List AV)) (s : ByteArray) : St := ⟨.agg [.rows 2 x, .str s] :: .ptr 1 0 0 :: .ptr 2 0 0 :: .int .i64 (0) :: .ptr 4 0 0 :: .int .i64 (re s) :: .ptr 6 0 0 :: tops 5 (.ptr 1 0 0 :: .rows 2 x :: .int .i64 (↑x.length : Int) :: .bool (decide ((↑x.length : Int) > 4096)) :: tops 1 (.tup [R (rv s), .int .i64 (re s)] :: .ptr 1 0 1 :: .str s :: .tup [R (rv s), .int .i64 (re s)] :: R (rv s) :: .int .i64 (re s) :: .int .i64 (re s) :: .bool (re s != 0) :: tops 2 (.ptr 1 0 0 :: .rows 2 x :: .int .i64 (↑x.length : Int) :: .int .i64 (0) :: tops 43 ([])))), nos 1 (varE [(false, .rows 2 x), (false, .str s)] :: varE [(true, .ints .i64 []), (true, .rows 2 []), (false, .bool false), (true, .ints .u32 []), (false, .bool false), (true, .ints .u32 [])] :: nos 1 (varE [(false, .bool (sg (rv s))), (false, .ints .u32 (lb (4294967296) (rv s)))] :: nos 1 (varE [(true, .ints .i64 []), (true, .rows 2 []), (false, .bool false), (true, .ints .u32 [])] :: nos 67 ([]))))⟩
theorem round0e (x : List (List AV)) (s : ByteArray) : goL T orc (noTab) D0 L0 (st0e x s) =
    (bif decide (0 < (↑x.length : Int)) then (bif inB (0) x.length then (bif etasOk [.int .i64 (0), .str { data := #[] }] (x.getD 0 []) then (bif vE (gInt ((x.getD 0 []).getD 0 .top)) != 0 then some (.ret, st0x1 x s) else (bif decide ((gStr ((x.getD 0 []).getD 1 .top)).size ≤ 10000) then (bif re (gStr ((x.getD 0 []).getD 1 .top)) != 0 then some (.ret, st0x2 x s) else (bif isT (lvs (Bool.rec [] (lone (gInt ((x.getD 0 []).getD 0 .top)) (1)) (vok (gInt ((x.getD 0 []).getD 0 .top))))) (lrs (Bool.rec [] (lone (gInt ((x.getD 0 []).getD 0 .top)) (1)) (vok (gInt ((x.getD 0 []).getD 0 .top))))) false [] && (cn (4294967296) (sg (rv (gStr ((x.getD 0 []).getD 1 .top)))) (lb (4294967296) (rv (gStr ((x.getD 0 []).getD 1 .top)))) && fits (N (4294967296) (rv (gStr ((x.getD 0 []).getD 1 .top))))) then (bif isT [] [] false [] && isT (lvs (scL (dl (lvs (Bool.rec [] (lone (gInt ((x.getD 0 []).getD 0 .top)) (1)) (vok (gInt ((x.getD 0 []).getD 0 .top))))) (lrs (Bool.rec [] (lone (gInt ((x.getD 0 []).getD 0 .top)) (1)) (vok (gInt ((x.getD 0 []).getD 0 .top)))))) (0) (N (4294967296) (rv (gStr ((x.getD 0 []).getD 1 .top)))))) (lrs (scL (dl (lvs (Bool.rec [] (lone (gInt ((x.getD 0 []).getD 0 .top)) (1)) (vok (gInt ((x.getD 0 []).getD 0 .top))))) (lrs (Bool.rec [] (lone (gInt ((x.getD 0 []).getD 0 .top)) (1)) (vok (gInt ((x.getD 0 []).getD 0 .top)))))) (0) (N (4294967296) (rv (gStr ((x.getD 0 []).getD 1 .top)))))) (sg (scC (dl (lvs (Bool.rec [] (lone (gInt ((x.getD 0 []).getD 0 .top)) (1)) (vok (gInt ((x.getD 0 []).getD 0 .top))))) (lrs (Bool.rec [] (lone (gInt ((x.getD 0 []).getD 0 .top)) (1)) (vok (gInt ((x.getD 0 []).getD 0 .top)))))) (0) (N (4294967296) (rv (gStr ((x.getD 0 []).getD 1 .top)))))) (lb (4294967296) (scC (dl (lvs (Bool.rec [] (lone (gInt ((x.getD 0 []).getD 0 .top)) (1)) (vok (gInt ((x.getD 0 []).getD 0 .top))))) (lrs (Bool.rec [] (lone (gInt ((x.getD 0 []).getD 0 .top)) (1)) (vok (gInt ((x.getD 0 []).getD 0 .top)))))) (0) (N (4294967296) (rv (gStr ((x.getD 0 []).getD 1 .top)))))) then (bif addE (dl [] []) (dl (lvs (scL (dl (lvs (Bool.rec [] (lone (gInt ((x.getD 0 []).getD 0 .top)) (1)) (vok (gInt ((x.getD 0 []).getD 0 .top))))) (lrs (Bool.rec [] (lone (gInt ((x.getD 0 []).getD 0 .top)) (1)) (vok (gInt ((x.getD 0 []).getD 0 .top)))))) (0) (N (4294967296) (rv (gStr ((x.getD 0 []).getD 1 .top)))))) (lrs (scL (dl (lvs (Bool.rec [] (lone (gInt ((x.getD 0 []).getD 0 .top)) (1)) (vok (gInt ((x.getD 0 []).getD 0 .top))))) (lrs (Bool.rec [] (lone (gInt ((x.getD 0 []).getD 0 .top)) (1)) (vok (gInt ((x.getD 0 []).getD 0 .top)))))) (0) (N (4294967296) (rv (gStr ((x.getD 0 []).getD 1 .top))))))) (0) (N (4294967296) (scC (dl (lvs (Bool.rec [] (lone (gInt ((x.getD 0 []).getD 0 .top)) (1)) (vok (gInt ((x.getD 0 []).getD 0 .top))))) (lrs (Bool.rec [] (lone (gInt ((x.getD 0 []).getD 0 .top)) (1)) (vok (gInt ((x.getD 0 []).getD 0 .top)))))) (0) (N (4294967296) (rv (gStr ((x.getD 0 []).getD 1 .top)))))) != 0 then some (.ret, st0x0 x s (addE (dl [] []) (dl (lvs (scL (dl (lvs (Bool.rec [] (lone (gInt ((x.getD 0 []).getD 0 .top)) (1)) (vok (gInt ((x.getD 0 []).getD 0 .top))))) (lrs (Bool.rec [] (lone (gInt ((x.getD 0 []).getD 0 .top)) (1)) (vok (gInt ((x.getD 0 []).getD 0 .top)))))) (0) (N (4294967296) (rv (gStr ((x.getD 0 []).getD 1 .top)))))) (lrs (scL (dl (lvs (Bool.rec [] (lone (gInt ((x.getD 0 []).getD 0 .top)) (1)) (vok (gInt ((x.getD 0 []).getD 0 .top))))) (lrs (Bool.rec [] (lone (gInt ((x.getD 0 []).getD 0 .top)) (1)) (vok (gInt ((x.getD 0 []).getD 0 .top)))))) (0) (N (4294967296) (rv (gStr ((x.getD 0 []).getD 1 .top))))))) (0) (N (4294967296) (scC (dl (lvs (Bool.rec [] (lone (gInt ((x.getD 0 []).getD 0 .top)) (1)) (vok (gInt ((x.getD 0 []).getD 0 .top))))) (lrs (Bool.rec [] (lone (gInt ((x.getD 0 []).getD 0 .top)) (1)) (vok (gInt ((x.getD 0 []).getD 0 .top)))))) (0) (N (4294967296) (rv (gStr ((x.getD 0 []).getD 1 .top))))))) (0) (lvs (addL (dl [] []) (dl (lvs (scL (dl (lvs (Bool.rec [] (lone (gInt ((x.getD 0 []).getD 0 .top)) (1)) (vok (gInt ((x.getD 0 []).getD 0 .top))))) (lrs (Bool.rec [] (lone (gInt ((x.getD 0 []).getD 0 .top)) (1)) (vok (gInt ((x.getD 0 []).getD 0 .top)))))) (0) (N (4294967296) (rv (gStr ((x.getD 0 []).getD 1 .top)))))) (lrs (scL (dl (lvs (Bool.rec [] (lone (gInt ((x.getD 0 []).getD 0 .top)) (1)) (vok (gInt ((x.getD 0 []).getD 0 .top))))) (lrs (Bool.rec [] (lone (gInt ((x.getD 0 []).getD 0 .top)) (1)) (vok (gInt ((x.getD 0 []).getD 0 .top)))))) (0) (N (4294967296) (rv (gStr ((x.getD 0 []).getD 1 .top))))))) (0) (N (4294967296) (scC (dl (lvs (Bool.rec [] (lone (gInt ((x.getD 0 []).getD 0 .top)) (1)) (vok (gInt ((x.getD 0 []).getD 0 .top))))) (lrs (Bool.rec [] (lone (gInt ((x.getD 0 []).getD 0 .top)) (1)) (vok (gInt ((x.getD 0 []).getD 0 .top)))))) (0) (N (4294967296) (rv (gStr ((x.getD 0 []).getD 1 .top)))))))) (lrs (addL (dl [] []) (dl (lvs (scL (dl (lvs (Bool.rec [] (lone (gInt ((x.getD 0 []).getD 0 .top)) (1)) (vok (gInt ((x.getD 0 []).getD 0 .top))))) (lrs (Bool.rec [] (lone (gInt ((x.getD 0 []).getD 0 .top)) (1)) (vok (gInt ((x.getD 0 []).getD 0 .top)))))) (0) (N (4294967296) (rv (gStr ((x.getD 0 []).getD 1 .top)))))) (lrs (scL (dl (lvs (Bool.rec [] (lone (gInt ((x.getD 0 []).getD 0 .top)) (1)) (vok (gInt ((x.getD 0 []).getD 0 .top))))) (lrs (Bool.rec [] (lone (gInt ((x.getD 0 []).getD 0 .top)) (1)) (vok (gInt ((x.getD 0 []).getD 0 .top)))))) (0) (N (4294967296) (rv (gStr ((x.getD 0 []).getD 1 .top))))))) (0) (N (4294967296) (scC (dl (lvs (Bool.rec [] (lone (gInt ((x.getD 0 []).getD 0 .top)) (1)) (vok (gInt ((x.getD 0 []).getD 0 .top))))) (lrs (Bool.rec [] (lone (gInt ((x.getD 0 []).getD 0 .top)) (1)) (vok (gInt ((x.getD 0 []).getD 0 .top)))))) (0) (N (4294967296) (rv (gStr ((x.getD 0 []).getD 1 .top)))))))) (sg (addC (dl [] []) (dl (lvs (scL (dl (lvs (Bool.rec [] (lone (gInt ((x.getD 0 []).getD 0 .top)) (1)) (vok (gInt ((x.getD 0 []).getD 0 .top))))) (lrs (Bool.rec [] (lone (gInt ((x.getD 0 []).getD 0 .top)) (1)) (vok (gInt ((x.getD 0 []).getD 0 .top)))))) (0) (N (4294967296) (rv (gStr ((x.getD 0 []).getD 1 .top)))))) (lrs (scL (dl (lvs (Bool.rec [] (lone (gInt ((x.getD 0 []).getD 0 .top)) (1)) (vok (gInt ((x.getD 0 []).getD 0 .top))))) (lrs (Bool.rec [] (lone (gInt ((x.getD 0 []).getD 0 .top)) (1)) (vok (gInt ((x.getD 0 []).getD 0 .top)))))) (0) (N (4294967296) (rv (gStr ((x.getD 0 []).getD 1 .top))))))) (0) (N (4294967296) (scC (dl (lvs (Bool.rec [] (lone (gInt ((x.getD 0 []).getD 0 .top)) (1)) (vok (gInt ((x.getD 0 []).getD 0 .top))))) (lrs (Bool.rec [] (lone (gInt ((x.getD 0 []).getD 0 .top)) (1)) (vok (gInt ((x.getD 0 []).getD 0 .top)))))) (0) (N (4294967296) (rv (gStr ((x.getD 0 []).getD 1 .top)))))))) (lb (4294967296) (addC (dl [] []) (dl (lvs (scL (dl (lvs (Bool.rec [] (lone (gInt ((x.getD 0 []).getD 0 .top)) (1)) (vok (gInt ((x.getD 0 []).getD 0 .top))))) (lrs (Bool.rec [] (lone (gInt ((x.getD 0 []).getD 0 .top)) (1)) (vok (gInt ((x.getD 0 []).getD 0 .top)))))) (0) (N (4294967296) (rv (gStr ((x.getD 0 []).getD 1 .top)))))) (lrs (scL (dl (lvs (Bool.rec [] (lone (gInt ((x.getD 0 []).getD 0 .top)) (1)) (vok (gInt ((x.getD 0 []).getD 0 .top))))) (lrs (Bool.rec [] (lone (gInt ((x.getD 0 []).getD 0 .top)) (1)) (vok (gInt ((x.getD 0 []).getD 0 .top)))))) (0) (N (4294967296) (rv (gStr ((x.getD 0 []).getD 1 .top))))))) (0) (N (4294967296) (scC (dl (lvs (Bool.rec [] (lone (gInt ((x.getD 0 []).getD 0 .top)) (1)) (vok (gInt ((x.getD 0 []).getD 0 .top))))) (lrs (Bool.rec [] (lone (gInt ((x.getD 0 []).getD 0 .top)) (1)) (vok (gInt ((x.getD 0 []).getD 0 .top)))))) (0) (N (4294967296) (rv (gStr ((x.getD 0 []).getD 1 .top))))))))) else some (.normal, st0 x s (IntKind.i64.wrap (0 + 1)) (lvs (addL (dl [] []) (dl (lvs (scL (dl (lvs (Bool.rec [] (lone (gInt ((x.getD 0 []).getD 0 .top)) (1)) (vok (gInt ((x.getD 0 []).getD 0 .top))))) (lrs (Bool.rec [] (lone (gInt ((x.getD 0 []).getD 0 .top)) (1)) (vok (gInt ((x.getD 0 []).getD 0 .top)))))) (0) (N (4294967296) (rv (gStr ((x.getD 0 []).getD 1 .top)))))) (lrs (scL (dl (lvs (Bool.rec [] (lone (gInt ((x.getD 0 []).getD 0 .top)) (1)) (vok (gInt ((x.getD 0 []).getD 0 .top))))) (lrs (Bool.rec [] (lone (gInt ((x.getD 0 []).getD 0 .top)) (1)) (vok (gInt ((x.getD 0 []).getD 0 .top)))))) (0) (N (4294967296) (rv (gStr ((x.getD 0 []).getD 1 .top))))))) (0) (N (4294967296) (scC (dl (lvs (Bool.rec [] (lone (gInt ((x.getD 0 []).getD 0 .top)) (1)) (vok (gInt ((x.getD 0 []).getD 0 .top))))) (lrs (Bool.rec [] (lone (gInt ((x.getD 0 []).getD 0 .top)) (1)) (vok (gInt ((x.getD 0 []).getD 0 .top)))))) (0) (N (4294967296) (rv (gStr ((x.getD 0 []).getD 1 .top)))))))) (lrs (addL (dl [] []) (dl (lvs (scL (dl (lvs (Bool.rec [] (lone (gInt ((x.getD 0 []).getD 0 .top)) (1)) (vok (gInt ((x.getD 0 []).getD 0 .top))))) (lrs (Bool.rec [] (lone (gInt ((x.getD 0 []).getD 0 .top)) (1)) (vok (gInt ((x.getD 0 []).getD 0 .top)))))) (0) (N (4294967296) (rv (gStr ((x.getD 0 []).getD 1 .top)))))) (lrs (scL (dl (lvs (Bool.rec [] (lone (gInt ((x.getD 0 []).getD 0 .top)) (1)) (vok (gInt ((x.getD 0 []).getD 0 .top))))) (lrs (Bool.rec [] (lone (gInt ((x.getD 0 []).getD 0 .top)) (1)) (vok (gInt ((x.getD 0 []).getD 0 .top)))))) (0) (N (4294967296) (rv (gStr ((x.getD 0 []).getD 1 .top))))))) (0) (N (4294967296) (scC (dl (lvs (Bool.rec [] (lone (gInt ((x.getD 0 []).getD 0 .top)) (1)) (vok (gInt ((x.getD 0 []).getD 0 .top))))) (lrs (Bool.rec [] (lone (gInt ((x.getD 0 []).getD 0 .top)) (1)) (vok (gInt ((x.getD 0 []).getD 0 .top)))))) (0) (N (4294967296) (rv (gStr ((x.getD 0 []).getD 1 .top)))))))) (sg (addC (dl [] []) (dl (lvs (scL (dl (lvs (Bool.rec [] (lone (gInt ((x.getD 0 []).getD 0 .top)) (1)) (vok (gInt ((x.getD 0 []).getD 0 .top))))) (lrs (Bool.rec [] (lone (gInt ((x.getD 0 []).getD 0 .top)) (1)) (vok (gInt ((x.getD 0 []).getD 0 .top)))))) (0) (N (4294967296) (rv (gStr ((x.getD 0 []).getD 1 .top)))))) (lrs (scL (dl (lvs (Bool.rec [] (lone (gInt ((x.getD 0 []).getD 0 .top)) (1)) (vok (gInt ((x.getD 0 []).getD 0 .top))))) (lrs (Bool.rec [] (lone (gInt ((x.getD 0 []).getD 0 .top)) (1)) (vok (gInt ((x.getD 0 []).getD 0 .top)))))) (0) (N (4294967296) (rv (gStr ((x.getD 0 []).getD 1 .top))))))) (0) (N (4294967296) (scC (dl (lvs (Bool.rec [] (lone (gInt ((x.getD 0 []).getD 0 .top)) (1)) (vok (gInt ((x.getD 0 []).getD 0 .top))))) (lrs (Bool.rec [] (lone (gInt ((x.getD 0 []).getD 0 .top)) (1)) (vok (gInt ((x.getD 0 []).getD 0 .top)))))) (0) (N (4294967296) (rv (gStr ((x.getD 0 []).getD 1 .top)))))))) (lb (4294967296) (addC (dl [] []) (dl (lvs (scL (dl (lvs (Bool.rec [] (lone (gInt ((x.getD 0 []).getD 0 .top)) (1)) (vok (gInt ((x.getD 0 []).getD 0 .top))))) (lrs (Bool.rec [] (lone (gInt ((x.getD 0 []).getD 0 .top)) (1)) (vok (gInt ((x.getD 0 []).getD 0 .top)))))) (0) (N (4294967296) (rv (gStr ((x.getD 0 []).getD 1 .top)))))) (lrs (scL (dl (lvs (Bool.rec [] (lone (gInt ((x.getD 0 []).getD 0 .top)) (1)) (vok (gInt ((x.getD 0 []).getD 0 .top))))) (lrs (Bool.rec [] (lone (gInt ((x.getD 0 []).getD 0 .top)) (1)) (vok (gInt ((x.getD 0 []).getD 0 .top)))))) (0) (N (4294967296) (rv (gStr ((x.getD 0 []).getD 1 .top))))))) (0) (N (4294967296) (scC (dl (lvs (Bool.rec [] (lone (gInt ((x.getD 0 []).getD 0 .top)) (1)) (vok (gInt ((x.getD 0 []).getD 0 .top))))) (lrs (Bool.rec [] (lone (gInt ((x.getD 0 []).getD 0 .top)) (1)) (vok (gInt ((x.getD 0 []).getD 0 .top)))))) (0) (N (4294967296) (rv (gStr ((x.getD 0 []).getD 1 .top)))))))))) else none) else none)) else none)) else none) else none) else some (.exit 0, st0e x s)) := by kernel_rfl
theorem round0 (x : List (List AV)) (s : ByteArray) (x1 : Int) (l0 : List Int) (r0 : List (List AV)) (b0 : Bool) (l1 : List Int) : goL T orc (noTab) D0 L0 (st0 x s x1 l0 r0 b0 l1) =
    (bif decide (x1 < (↑x.length : Int)) then (bif inB x1 x.length then (bif etasOk [.int .i64 (0), .str { data := #[] }] (x.getD x1.toNat []) then (bif vE (gInt ((x.getD x1.toNat []).getD 0 .top)) != 0 then some (.ret, st0x0 x s (vE (gInt ((x.getD x1.toNat []).getD 0 .top))) x1 l0 r0 b0 l1) else (bif decide ((gStr ((x.getD x1.toNat []).getD 1 .top)).size ≤ 10000) then (bif re (gStr ((x.getD x1.toNat []).getD 1 .top)) != 0 then some (.ret, st0x0 x s (re (gStr ((x.getD x1.toNat []).getD 1 .top))) x1 l0 r0 b0 l1) else (bif isT (lvs (Bool.rec [] (lone (gInt ((x.getD x1.toNat []).getD 0 .top)) (1)) (vok (gInt ((x.getD x1.toNat []).getD 0 .top))))) (lrs (Bool.rec [] (lone (gInt ((x.getD x1.toNat []).getD 0 .top)) (1)) (vok (gInt ((x.getD x1.toNat []).getD 0 .top))))) false [] && (cn (4294967296) (sg (rv (gStr ((x.getD x1.toNat []).getD 1 .top)))) (lb (4294967296) (rv (gStr ((x.getD x1.toNat []).getD 1 .top)))) && fits (N (4294967296) (rv (gStr ((x.getD x1.toNat []).getD 1 .top))))) then (bif isT l0 r0 b0 l1 && isT (lvs (scL (dl (lvs (Bool.rec [] (lone (gInt ((x.getD x1.toNat []).getD 0 .top)) (1)) (vok (gInt ((x.getD x1.toNat []).getD 0 .top))))) (lrs (Bool.rec [] (lone (gInt ((x.getD x1.toNat []).getD 0 .top)) (1)) (vok (gInt ((x.getD x1.toNat []).getD 0 .top)))))) (0) (N (4294967296) (rv (gStr ((x.getD x1.toNat []).getD 1 .top)))))) (lrs (scL (dl (lvs (Bool.rec [] (lone (gInt ((x.getD x1.toNat []).getD 0 .top)) (1)) (vok (gInt ((x.getD x1.toNat []).getD 0 .top))))) (lrs (Bool.rec [] (lone (gInt ((x.getD x1.toNat []).getD 0 .top)) (1)) (vok (gInt ((x.getD x1.toNat []).getD 0 .top)))))) (0) (N (4294967296) (rv (gStr ((x.getD x1.toNat []).getD 1 .top)))))) (sg (scC (dl (lvs (Bool.rec [] (lone (gInt ((x.getD x1.toNat []).getD 0 .top)) (1)) (vok (gInt ((x.getD x1.toNat []).getD 0 .top))))) (lrs (Bool.rec [] (lone (gInt ((x.getD x1.toNat []).getD 0 .top)) (1)) (vok (gInt ((x.getD x1.toNat []).getD 0 .top)))))) (0) (N (4294967296) (rv (gStr ((x.getD x1.toNat []).getD 1 .top)))))) (lb (4294967296) (scC (dl (lvs (Bool.rec [] (lone (gInt ((x.getD x1.toNat []).getD 0 .top)) (1)) (vok (gInt ((x.getD x1.toNat []).getD 0 .top))))) (lrs (Bool.rec [] (lone (gInt ((x.getD x1.toNat []).getD 0 .top)) (1)) (vok (gInt ((x.getD x1.toNat []).getD 0 .top)))))) (0) (N (4294967296) (rv (gStr ((x.getD x1.toNat []).getD 1 .top)))))) then (bif addE (dl l0 r0) (dl (lvs (scL (dl (lvs (Bool.rec [] (lone (gInt ((x.getD x1.toNat []).getD 0 .top)) (1)) (vok (gInt ((x.getD x1.toNat []).getD 0 .top))))) (lrs (Bool.rec [] (lone (gInt ((x.getD x1.toNat []).getD 0 .top)) (1)) (vok (gInt ((x.getD x1.toNat []).getD 0 .top)))))) (0) (N (4294967296) (rv (gStr ((x.getD x1.toNat []).getD 1 .top)))))) (lrs (scL (dl (lvs (Bool.rec [] (lone (gInt ((x.getD x1.toNat []).getD 0 .top)) (1)) (vok (gInt ((x.getD x1.toNat []).getD 0 .top))))) (lrs (Bool.rec [] (lone (gInt ((x.getD x1.toNat []).getD 0 .top)) (1)) (vok (gInt ((x.getD x1.toNat []).getD 0 .top)))))) (0) (N (4294967296) (rv (gStr ((x.getD x1.toNat []).getD 1 .top))))))) (num (4294967296) b0 l1) (N (4294967296) (scC (dl (lvs (Bool.rec [] (lone (gInt ((x.getD x1.toNat []).getD 0 .top)) (1)) (vok (gInt ((x.getD x1.toNat []).getD 0 .top))))) (lrs (Bool.rec [] (lone (gInt ((x.getD x1.toNat []).getD 0 .top)) (1)) (vok (gInt ((x.getD x1.toNat []).getD 0 .top)))))) (0) (N (4294967296) (rv (gStr ((x.getD x1.toNat []).getD 1 .top)))))) != 0 then some (.ret, st0x0 x s (addE (dl l0 r0) (dl (lvs (scL (dl (lvs (Bool.rec [] (lone (gInt ((x.getD x1.toNat []).getD 0 .top)) (1)) (vok (gInt ((x.getD x1.toNat []).getD 0 .top))))) (lrs (Bool.rec [] (lone (gInt ((x.getD x1.toNat []).getD 0 .top)) (1)) (vok (gInt ((x.getD x1.toNat []).getD 0 .top)))))) (0) (N (4294967296) (rv (gStr ((x.getD x1.toNat []).getD 1 .top)))))) (lrs (scL (dl (lvs (Bool.rec [] (lone (gInt ((x.getD x1.toNat []).getD 0 .top)) (1)) (vok (gInt ((x.getD x1.toNat []).getD 0 .top))))) (lrs (Bool.rec [] (lone (gInt ((x.getD x1.toNat []).getD 0 .top)) (1)) (vok (gInt ((x.getD x1.toNat []).getD 0 .top)))))) (0) (N (4294967296) (rv (gStr ((x.getD x1.toNat []).getD 1 .top))))))) (num (4294967296) b0 l1) (N (4294967296) (scC (dl (lvs (Bool.rec [] (lone (gInt ((x.getD x1.toNat []).getD 0 .top)) (1)) (vok (gInt ((x.getD x1.toNat []).getD 0 .top))))) (lrs (Bool.rec [] (lone (gInt ((x.getD x1.toNat []).getD 0 .top)) (1)) (vok (gInt ((x.getD x1.toNat []).getD 0 .top)))))) (0) (N (4294967296) (rv (gStr ((x.getD x1.toNat []).getD 1 .top))))))) x1 (lvs (addL (dl l0 r0) (dl (lvs (scL (dl (lvs (Bool.rec [] (lone (gInt ((x.getD x1.toNat []).getD 0 .top)) (1)) (vok (gInt ((x.getD x1.toNat []).getD 0 .top))))) (lrs (Bool.rec [] (lone (gInt ((x.getD x1.toNat []).getD 0 .top)) (1)) (vok (gInt ((x.getD x1.toNat []).getD 0 .top)))))) (0) (N (4294967296) (rv (gStr ((x.getD x1.toNat []).getD 1 .top)))))) (lrs (scL (dl (lvs (Bool.rec [] (lone (gInt ((x.getD x1.toNat []).getD 0 .top)) (1)) (vok (gInt ((x.getD x1.toNat []).getD 0 .top))))) (lrs (Bool.rec [] (lone (gInt ((x.getD x1.toNat []).getD 0 .top)) (1)) (vok (gInt ((x.getD x1.toNat []).getD 0 .top)))))) (0) (N (4294967296) (rv (gStr ((x.getD x1.toNat []).getD 1 .top))))))) (num (4294967296) b0 l1) (N (4294967296) (scC (dl (lvs (Bool.rec [] (lone (gInt ((x.getD x1.toNat []).getD 0 .top)) (1)) (vok (gInt ((x.getD x1.toNat []).getD 0 .top))))) (lrs (Bool.rec [] (lone (gInt ((x.getD x1.toNat []).getD 0 .top)) (1)) (vok (gInt ((x.getD x1.toNat []).getD 0 .top)))))) (0) (N (4294967296) (rv (gStr ((x.getD x1.toNat []).getD 1 .top)))))))) (lrs (addL (dl l0 r0) (dl (lvs (scL (dl (lvs (Bool.rec [] (lone (gInt ((x.getD x1.toNat []).getD 0 .top)) (1)) (vok (gInt ((x.getD x1.toNat []).getD 0 .top))))) (lrs (Bool.rec [] (lone (gInt ((x.getD x1.toNat []).getD 0 .top)) (1)) (vok (gInt ((x.getD x1.toNat []).getD 0 .top)))))) (0) (N (4294967296) (rv (gStr ((x.getD x1.toNat []).getD 1 .top)))))) (lrs (scL (dl (lvs (Bool.rec [] (lone (gInt ((x.getD x1.toNat []).getD 0 .top)) (1)) (vok (gInt ((x.getD x1.toNat []).getD 0 .top))))) (lrs (Bool.rec [] (lone (gInt ((x.getD x1.toNat []).getD 0 .top)) (1)) (vok (gInt ((x.getD x1.toNat []).getD 0 .top)))))) (0) (N (4294967296) (rv (gStr ((x.getD x1.toNat []).getD 1 .top))))))) (num (4294967296) b0 l1) (N (4294967296) (scC (dl (lvs (Bool.rec [] (lone (gInt ((x.getD x1.toNat []).getD 0 .top)) (1)) (vok (gInt ((x.getD x1.toNat []).getD 0 .top))))) (lrs (Bool.rec [] (lone (gInt ((x.getD x1.toNat []).getD 0 .top)) (1)) (vok (gInt ((x.getD x1.toNat []).getD 0 .top)))))) (0) (N (4294967296) (rv (gStr ((x.getD x1.toNat []).getD 1 .top)))))))) (sg (addC (dl l0 r0) (dl (lvs (scL (dl (lvs (Bool.rec [] (lone (gInt ((x.getD x1.toNat []).getD 0 .top)) (1)) (vok (gInt ((x.getD x1.toNat []).getD 0 .top))))) (lrs (Bool.rec [] (lone (gInt ((x.getD x1.toNat []).getD 0 .top)) (1)) (vok (gInt ((x.getD x1.toNat []).getD 0 .top)))))) (0) (N (4294967296) (rv (gStr ((x.getD x1.toNat []).getD 1 .top)))))) (lrs (scL (dl (lvs (Bool.rec [] (lone (gInt ((x.getD x1.toNat []).getD 0 .top)) (1)) (vok (gInt ((x.getD x1.toNat []).getD 0 .top))))) (lrs (Bool.rec [] (lone (gInt ((x.getD x1.toNat []).getD 0 .top)) (1)) (vok (gInt ((x.getD x1.toNat []).getD 0 .top)))))) (0) (N (4294967296) (rv (gStr ((x.getD x1.toNat []).getD 1 .top))))))) (num (4294967296) b0 l1) (N (4294967296) (scC (dl (lvs (Bool.rec [] (lone (gInt ((x.getD x1.toNat []).getD 0 .top)) (1)) (vok (gInt ((x.getD x1.toNat []).getD 0 .top))))) (lrs (Bool.rec [] (lone (gInt ((x.getD x1.toNat []).getD 0 .top)) (1)) (vok (gInt ((x.getD x1.toNat []).getD 0 .top)))))) (0) (N (4294967296) (rv (gStr ((x.getD x1.toNat []).getD 1 .top)))))))) (lb (4294967296) (addC (dl l0 r0) (dl (lvs (scL (dl (lvs (Bool.rec [] (lone (gInt ((x.getD x1.toNat []).getD 0 .top)) (1)) (vok (gInt ((x.getD x1.toNat []).getD 0 .top))))) (lrs (Bool.rec [] (lone (gInt ((x.getD x1.toNat []).getD 0 .top)) (1)) (vok (gInt ((x.getD x1.toNat []).getD 0 .top)))))) (0) (N (4294967296) (rv (gStr ((x.getD x1.toNat []).getD 1 .top)))))) (lrs (scL (dl (lvs (Bool.rec [] (lone (gInt ((x.getD x1.toNat []).getD 0 .top)) (1)) (vok (gInt ((x.getD x1.toNat []).getD 0 .top))))) (lrs (Bool.rec [] (lone (gInt ((x.getD x1.toNat []).getD 0 .top)) (1)) (vok (gInt ((x.getD x1.toNat []).getD 0 .top)))))) (0) (N (4294967296) (rv (gStr ((x.getD x1.toNat []).getD 1 .top))))))) (num (4294967296) b0 l1) (N (4294967296) (scC (dl (lvs (Bool.rec [] (lone (gInt ((x.getD x1.toNat []).getD 0 .top)) (1)) (vok (gInt ((x.getD x1.toNat []).getD 0 .top))))) (lrs (Bool.rec [] (lone (gInt ((x.getD x1.toNat []).getD 0 .top)) (1)) (vok (gInt ((x.getD x1.toNat []).getD 0 .top)))))) (0) (N (4294967296) (rv (gStr ((x.getD x1.toNat []).getD 1 .top))))))))) else some (.normal, st0 x s (IntKind.i64.wrap (x1 + 1)) (lvs (addL (dl l0 r0) (dl (lvs (scL (dl (lvs (Bool.rec [] (lone (gInt ((x.getD x1.toNat []).getD 0 .top)) (1)) (vok (gInt ((x.getD x1.toNat []).getD 0 .top))))) (lrs (Bool.rec [] (lone (gInt ((x.getD x1.toNat []).getD 0 .top)) (1)) (vok (gInt ((x.getD x1.toNat []).getD 0 .top)))))) (0) (N (4294967296) (rv (gStr ((x.getD x1.toNat []).getD 1 .top)))))) (lrs (scL (dl (lvs (Bool.rec [] (lone (gInt ((x.getD x1.toNat []).getD 0 .top)) (1)) (vok (gInt ((x.getD x1.toNat []).getD 0 .top))))) (lrs (Bool.rec [] (lone (gInt ((x.getD x1.toNat []).getD 0 .top)) (1)) (vok (gInt ((x.getD x1.toNat []).getD 0 .top)))))) (0) (N (4294967296) (rv (gStr ((x.getD x1.toNat []).getD 1 .top))))))) (num (4294967296) b0 l1) (N (4294967296) (scC (dl (lvs (Bool.rec [] (lone (gInt ((x.getD x1.toNat []).getD 0 .top)) (1)) (vok (gInt ((x.getD x1.toNat []).getD 0 .top))))) (lrs (Bool.rec [] (lone (gInt ((x.getD x1.toNat []).getD 0 .top)) (1)) (vok (gInt ((x.getD x1.toNat []).getD 0 .top)))))) (0) (N (4294967296) (rv (gStr ((x.getD x1.toNat []).getD 1 .top)))))))) (lrs (addL (dl l0 r0) (dl (lvs (scL (dl (lvs (Bool.rec [] (lone (gInt ((x.getD x1.toNat []).getD 0 .top)) (1)) (vok (gInt ((x.getD x1.toNat []).getD 0 .top))))) (lrs (Bool.rec [] (lone (gInt ((x.getD x1.toNat []).getD 0 .top)) (1)) (vok (gInt ((x.getD x1.toNat []).getD 0 .top)))))) (0) (N (4294967296) (rv (gStr ((x.getD x1.toNat []).getD 1 .top)))))) (lrs (scL (dl (lvs (Bool.rec [] (lone (gInt ((x.getD x1.toNat []).getD 0 .top)) (1)) (vok (gInt ((x.getD x1.toNat []).getD 0 .top))))) (lrs (Bool.rec [] (lone (gInt ((x.getD x1.toNat []).getD 0 .top)) (1)) (vok (gInt ((x.getD x1.toNat []).getD 0 .top)))))) (0) (N (4294967296) (rv (gStr ((x.getD x1.toNat []).getD 1 .top))))))) (num (4294967296) b0 l1) (N (4294967296) (scC (dl (lvs (Bool.rec [] (lone (gInt ((x.getD x1.toNat []).getD 0 .top)) (1)) (vok (gInt ((x.getD x1.toNat []).getD 0 .top))))) (lrs (Bool.rec [] (lone (gInt ((x.getD x1.toNat []).getD 0 .top)) (1)) (vok (gInt ((x.getD x1.toNat []).getD 0 .top)))))) (0) (N (4294967296) (rv (gStr ((x.getD x1.toNat []).getD 1 .top)))))))) (sg (addC (dl l0 r0) (dl (lvs (scL (dl (lvs (Bool.rec [] (lone (gInt ((x.getD x1.toNat []).getD 0 .top)) (1)) (vok (gInt ((x.getD x1.toNat []).getD 0 .top))))) (lrs (Bool.rec [] (lone (gInt ((x.getD x1.toNat []).getD 0 .top)) (1)) (vok (gInt ((x.getD x1.toNat []).getD 0 .top)))))) (0) (N (4294967296) (rv (gStr ((x.getD x1.toNat []).getD 1 .top)))))) (lrs (scL (dl (lvs (Bool.rec [] (lone (gInt ((x.getD x1.toNat []).getD 0 .top)) (1)) (vok (gInt ((x.getD x1.toNat []).getD 0 .top))))) (lrs (Bool.rec [] (lone (gInt ((x.getD x1.toNat []).getD 0 .top)) (1)) (vok (gInt ((x.getD x1.toNat []).getD 0 .top)))))) (0) (N (4294967296) (rv (gStr ((x.getD x1.toNat []).getD 1 .top))))))) (num (4294967296) b0 l1) (N (4294967296) (scC (dl (lvs (Bool.rec [] (lone (gInt ((x.getD x1.toNat []).getD 0 .top)) (1)) (vok (gInt ((x.getD x1.toNat []).getD 0 .top))))) (lrs (Bool.rec [] (lone (gInt ((x.getD x1.toNat []).getD 0 .top)) (1)) (vok (gInt ((x.getD x1.toNat []).getD 0 .top)))))) (0) (N (4294967296) (rv (gStr ((x.getD x1.toNat []).getD 1 .top)))))))) (lb (4294967296) (addC (dl l0 r0) (dl (lvs (scL (dl (lvs (Bool.rec [] (lone (gInt ((x.getD x1.toNat []).getD 0 .top)) (1)) (vok (gInt ((x.getD x1.toNat []).getD 0 .top))))) (lrs (Bool.rec [] (lone (gInt ((x.getD x1.toNat []).getD 0 .top)) (1)) (vok (gInt ((x.getD x1.toNat []).getD 0 .top)))))) (0) (N (4294967296) (rv (gStr ((x.getD x1.toNat []).getD 1 .top)))))) (lrs (scL (dl (lvs (Bool.rec [] (lone (gInt ((x.getD x1.toNat []).getD 0 .top)) (1)) (vok (gInt ((x.getD x1.toNat []).getD 0 .top))))) (lrs (Bool.rec [] (lone (gInt ((x.getD x1.toNat []).getD 0 .top)) (1)) (vok (gInt ((x.getD x1.toNat []).getD 0 .top)))))) (0) (N (4294967296) (rv (gStr ((x.getD x1.toNat []).getD 1 .top))))))) (num (4294967296) b0 l1) (N (4294967296) (scC (dl (lvs (Bool.rec [] (lone (gInt ((x.getD x1.toNat []).getD 0 .top)) (1)) (vok (gInt ((x.getD x1.toNat []).getD 0 .top))))) (lrs (Bool.rec [] (lone (gInt ((x.getD x1.toNat []).getD 0 .top)) (1)) (vok (gInt ((x.getD x1.toNat []).getD 0 .top)))))) (0) (N (4294967296) (rv (gStr ((x.getD x1.toNat []).getD 1 .top)))))))))) else none) else none)) else none)) else none) else none) else some (.exit 0, st0 x s x1 l0 r0 b0 l1)) := by kernel_rfl
-- loop 0 ends ret st0x0 x s x2 x1 l0 r0 b0 l1
-- loop 0 ends exit0 st0 x s x1 l0 r0 b0 l1
-- loop 0 ends ret st0x1 x s
-- loop 0 ends ret st0x2 x s
-- loop 0 ends exit0 st0e x s
theorem rest_0 (x : List (List AV)) (s : ByteArray) (x3 : Int) (x4 : Int) (l2 : List Int) (r1 : List (List AV)) (b1 : Bool) (l3 : List Int) : runT T orc (tabOf T orc [(8, 60458903645984008203565024201108047226079202216835569304044148288175646339773922611752686, .ret, st0x0 x s x3 x4 l2 r1 b1 l3)]) Try.f15 [.agg [.rows 2 x, .str s]] =
    (bif decide ((↑x.length : Int) > 4096) then some (.val (.tup [.agg [.ints .i64 [], .rows 2 [], .bool false, .ints .u32 [], .bool false, .ints .u32 []], .int .i64 (2)])) else (bif decide (s.size ≤ 10000) then (bif re s != 0 then some (.val (.tup [.agg [.ints .i64 [], .rows 2 [], .bool false, .ints .u32 [], .bool false, .ints .u32 []], .int .i64 (re s)])) else (bif cdec (Ends T orc L0 D0 (st0e x s) .ret (st0x0 x s x3 x4 l2 r1 b1 l3)) then some (.val (.tup [.agg [.ints .i64 [], .rows 2 [], .bool false, .ints .u32 [], .bool false, .ints .u32 []], .int .i64 x3])) else none)) else none)) := by kernel_rfl
theorem rest_1 (x : List (List AV)) (s : ByteArray) (l4 : List Int) (r2 : List (List AV)) (b2 : Bool) (l5 : List Int) (x5 : Int) : runT T orc (tabOf T orc [(8, 60458903645984008203565024201108047226079202216835569304044148288175646339773922611752686, .exit 0, st0 x s x5 l4 r2 b2 l5)]) Try.f15 [.agg [.rows 2 x, .str s]] =
    (bif decide ((↑x.length : Int) > 4096) then some (.val (.tup [.agg [.ints .i64 [], .rows 2 [], .bool false, .ints .u32 [], .bool false, .ints .u32 []], .int .i64 (2)])) else (bif decide (s.size ≤ 10000) then (bif re s != 0 then some (.val (.tup [.agg [.ints .i64 [], .rows 2 [], .bool false, .ints .u32 [], .bool false, .ints .u32 []], .int .i64 (re s)])) else (bif cdec (Ends T orc L0 D0 (st0e x s) (.exit 0) (st0 x s x5 l4 r2 b2 l5)) then some (.val (.tup [.agg [.ints .i64 l4, .rows 2 r2, .bool b2, .ints .u32 l5, .bool (sg (rv s)), .ints .u32 (lb (4294967296) (rv s))], .int .i64 (0)])) else none)) else none)) := by kernel_rfl
theorem rest_2 (x : List (List AV)) (s : ByteArray) : runT T orc (tabOf T orc [(8, 60458903645984008203565024201108047226079202216835569304044148288175646339773922611752686, .ret, st0x1 x s)]) Try.f15 [.agg [.rows 2 x, .str s]] =
    (bif decide ((↑x.length : Int) > 4096) then some (.val (.tup [.agg [.ints .i64 [], .rows 2 [], .bool false, .ints .u32 [], .bool false, .ints .u32 []], .int .i64 (2)])) else (bif decide (s.size ≤ 10000) then (bif re s != 0 then some (.val (.tup [.agg [.ints .i64 [], .rows 2 [], .bool false, .ints .u32 [], .bool false, .ints .u32 []], .int .i64 (re s)])) else (bif cdec (Ends T orc L0 D0 (st0e x s) .ret (st0x1 x s)) then some (.val (.tup [.agg [.ints .i64 [], .rows 2 [], .bool false, .ints .u32 [], .bool false, .ints .u32 []], .int .i64 (vE (gInt ((x.getD 0 []).getD 0 .top)))])) else none)) else none)) := by kernel_rfl
theorem rest_3 (x : List (List AV)) (s : ByteArray) : runT T orc (tabOf T orc [(8, 60458903645984008203565024201108047226079202216835569304044148288175646339773922611752686, .ret, st0x2 x s)]) Try.f15 [.agg [.rows 2 x, .str s]] =
    (bif decide ((↑x.length : Int) > 4096) then some (.val (.tup [.agg [.ints .i64 [], .rows 2 [], .bool false, .ints .u32 [], .bool false, .ints .u32 []], .int .i64 (2)])) else (bif decide (s.size ≤ 10000) then (bif re s != 0 then some (.val (.tup [.agg [.ints .i64 [], .rows 2 [], .bool false, .ints .u32 [], .bool false, .ints .u32 []], .int .i64 (re s)])) else (bif cdec (Ends T orc L0 D0 (st0e x s) .ret (st0x2 x s)) then some (.val (.tup [.agg [.ints .i64 [], .rows 2 [], .bool false, .ints .u32 [], .bool false, .ints .u32 []], .int .i64 (re (gStr ((x.getD 0 []).getD 1 .top)))])) else none)) else none)) := by kernel_rfl
theorem rest_4 (x : List (List AV)) (s : ByteArray) : runT T orc (tabOf T orc [(8, 60458903645984008203565024201108047226079202216835569304044148288175646339773922611752686, .exit 0, st0e x s)]) Try.f15 [.agg [.rows 2 x, .str s]] =
    (bif decide ((↑x.length : Int) > 4096) then some (.val (.tup [.agg [.ints .i64 [], .rows 2 [], .bool false, .ints .u32 [], .bool false, .ints .u32 []], .int .i64 (2)])) else (bif decide (s.size ≤ 10000) then (bif re s != 0 then some (.val (.tup [.agg [.ints .i64 [], .rows 2 [], .bool false, .ints .u32 [], .bool false, .ints .u32 []], .int .i64 (re s)])) else (bif cdec (Ends T orc L0 D0 (st0e x s) (.exit 0) (st0e x s)) then some (.val (.tup [.agg [.ints .i64 [], .rows 2 [], .bool false, .ints .u32 [], .bool (sg (rv s)), .ints .u32 (lb (4294967296) (rv s))], .int .i64 (0)])) else none)) else none)) := by kernel_rfl
end NRead
namespace NTight
abbrev ans : Ans := [(25, ansLCommon), (57, ansCmp), (61, ansFrom), (67, ansDiv), (68, ansLPut)]
abbrev orc : Orc := orcOf ans
noncomputable def L0 : Code := lp Try.f22 0
theorem isL0 : ∃ a, L0 = .loop a := ⟨_, rfl⟩
abbrev D0 : List Nat := [0, 1, 2, 3, 4, 10, 11, 12, 13, 14, 15, 16, 18, 19, 20, 21, 22]
abbrev st0 (vs : List Int) (r : List (List AV)) (b : Bool) (m : List Int) (s : Bool) (l : List Int) (x0 : Int) (l0 : List Int) (r0 : List (List AV)) : St := ⟨.agg [.ints .i64 vs, .rows 2 r, .bool b, .ints .u32 m, .bool s, .ints .u32 l] :: .ptr 1 0 0 :: .ptr 2 0 0 :: .ptr 3 0 0 :: .ptr 4 0 0 :: tops 5 (.ptr 1 0 0 :: .agg [.ints .i64 vs, .rows 2 r, .bool b, .ints .u32 m] :: R (gcdL (dl vs r)) :: R (gcdL (dl vs r)) :: .agg [.bool false, .ints .u32 (lb (4294967296) (1))] :: .int .i64 (cmpZ (N (4294967296) (gcdL (dl vs r))) (num (4294967296) false (lb (4294967296) (1)))) :: .bool (decide (cmpZ (N (4294967296) (gcdL (dl vs r))) (num (4294967296) false (lb (4294967296) (1))) ≤ 0)) :: tops 1 (.ptr 1 0 0 :: .ptr 1 0 0 :: .ints .i64 vs :: .int .i64 (↑vs.length : Int) :: .int .i64 x0 :: tops 31 ([]))), nos 1 (varE [(false, .ints .i64 vs), (false, .rows 2 r), (false, .bool b), (false, .ints .u32 m), (false, .bool s), (false, .ints .u32 l)] :: varE [(true, .ints .i64 []), (true, .rows 2 []), (false, .bool false), (true, .ints .u32 []), (false, .bool false), (true, .ints .u32 [])] :: varE [(false, .bool (sg (gcdL (dl vs r)))), (false, .ints .u32 (lb (4294967296) (gcdL (dl vs r))))] :: varE [(true, .ints .i64 l0), (true, .rows 2 r0), (false, .bool false), (true, .ints .u32 []), (false, .bool false), (true, .ints .u32 [])] :: nos 49 ([]))⟩
theorem round0 (vs : List Int) (r : List (List AV)) (b : Bool) (m : List Int) (s : Bool) (l : List Int) (x0 : Int) (l0 : List Int) (r0 : List (List AV)) : goL T orc (noTab) D0 L0 (st0 vs r b m s l x0 l0 r0) =
    (bif decide (x0 < (↑vs.length : Int)) then (bif inB x0 vs.length then (bif inB x0 r.length then (bif etasOk [.bool false, .ints .u32 []] (r.getD x0.toNat []) then (bif cn (4294967296) (gBool ((r.getD x0.toNat []).getD 0 .top)) (gInts ((r.getD x0.toNat []).getD 1 .top)) && cn (4294967296) (sg (gcdL (dl vs r))) (lb (4294967296) (gcdL (dl vs r))) then (bif cn (4294967296) (sg (dq (num (4294967296) (gBool ((r.getD x0.toNat []).getD 0 .top)) (gInts ((r.getD x0.toNat []).getD 1 .top))) (N (4294967296) (gcdL (dl vs r))))) (lb (4294967296) (dq (num (4294967296) (gBool ((r.getD x0.toNat []).getD 0 .top)) (gInts ((r.getD x0.toNat []).getD 1 .top))) (N (4294967296) (gcdL (dl vs r))))) && decide (l0.length ≤ 100000) && decide (r0.length ≤ 100000) && true && true then some (.normal, st0 vs r b m s l (IntKind.i64.wrap (x0 + 1)) (putV (N (4294967296) (dq (num (4294967296) (gBool ((r.getD x0.toNat []).getD 0 .top)) (gInts ((r.getD x0.toNat []).getD 1 .top))) (N (4294967296) (gcdL (dl vs r))))) l0 (rd vs x0)) (putR (N (4294967296) (dq (num (4294967296) (gBool ((r.getD x0.toNat []).getD 0 .top)) (gInts ((r.getD x0.toNat []).getD 1 .top))) (N (4294967296) (gcdL (dl vs r))))) r0 [.bool (sg (dq (num (4294967296) (gBool ((r.getD x0.toNat []).getD 0 .top)) (gInts ((r.getD x0.toNat []).getD 1 .top))) (N (4294967296) (gcdL (dl vs r))))), .ints .u32 (lb (4294967296) (dq (num (4294967296) (gBool ((r.getD x0.toNat []).getD 0 .top)) (gInts ((r.getD x0.toNat []).getD 1 .top))) (N (4294967296) (gcdL (dl vs r)))))])) else none) else none) else none) else none) else none) else some (.exit 0, st0 vs r b m s l x0 l0 r0)) := by kernel_rfl
-- loop 0 ends exit0 st0 vs r b m s l x0 l0 r0
theorem rest (vs : List Int) (r : List (List AV)) (b : Bool) (m : List Int) (s : Bool) (l : List Int) (l1 : List Int) (r1 : List (List AV)) (x1 : Int) : runT T orc (tabOf T orc [(6, 50023372020407860542733940905981293513040552842377359224063586030, .exit 0, st0 vs r b m s l x1 l1 r1)]) Try.f22 [.agg [.ints .i64 vs, .rows 2 r, .bool b, .ints .u32 m, .bool s, .ints .u32 l]] =
    (bif isl vs r then (bif cn (4294967296) (sg (gcdL (dl vs r))) (lb (4294967296) (gcdL (dl vs r))) && true then (bif decide (cmpZ (N (4294967296) (gcdL (dl vs r))) (num (4294967296) false (lb (4294967296) (1))) ≤ 0) then some (.val (.agg [.ints .i64 vs, .rows 2 r, .bool b, .ints .u32 m, .bool s, .ints .u32 l])) else (bif cdec (Ends T orc L0 D0 (st0 vs r b m s l (0) ([]) ([])) (.exit 0) (st0 vs r b m s l x1 l1 r1)) then (bif cn (4294967296) s l && cn (4294967296) (sg (gcdL (dl vs r))) (lb (4294967296) (gcdL (dl vs r))) then some (.val (.agg [.ints .i64 l1, .rows 2 r1, .bool false, .ints .u32 [], .bool (sg (dq (num (4294967296) s l) (N (4294967296) (gcdL (dl vs r))))), .ints .u32 (lb (4294967296) (dq (num (4294967296) s l) (N (4294967296) (gcdL (dl vs r)))))])) else none) else none)) else none) else none) := by kernel_rfl
end NTight
end
end Go.Abs
end
section
/- What linear's functions answer: a row that is read, a row made tight. -/
namespace Go.Abs
open Go.Proofs Go.Dig
/-- A loop's first round, and what follows. -/
theorem loop_first {T : Tbl} {orc : Orc} {L : Code} {D : List Nat} {S : St} {y : Option (Ex × St)} {tab : Tab} (Q : Ex → St → Prop) (hL : ∃ a, L = .loop a) (ht : ∀ C, TabOk T orc tab C) (h : goL T orc tab D L S = y)
    (hy : Lands y (fun e S' => match e with | .normal => ∃ e S1, Ends T orc L D S' e S1 ∧ Q e S1 | e => Q e S')) : ∃ e S1, Ends T orc L D S e S1 ∧ Q e S1 := by
  obtain ⟨a, rfl⟩ := hL
  obtain ⟨e, S', rfl, h2⟩ := hy
  cases e with
  | normal =>
    obtain ⟨e, S1, h3, h4⟩ := h2
    exact ⟨e, S1, ends_next (ht _) h h3, h4⟩
  | exit i => exact ⟨_, S', ends_exit (ht _) h, h2⟩
  | ret => exact ⟨_, S', ends_ret (ht _) h, h2⟩
theorem cP0 (p : Int × ByteArray) : gInt ((cP p).getD 0 .top) = p.1 := rfl
theorem cP1 (p : Int × ByteArray) : gStr ((cP p).getD 1 .top) = p.2 := rfl
theorem cPeta (p : Int × ByteArray) : etasOk [.int .i64 0, .str { data := #[] }] (cP p) = true := rfl
theorem dl_nil : dl [] [] = [] := dl_map []
theorem isT_nil : isT [] [] false [] = true := isT_row (isl_iff.2 ⟨[], okL_nil, rfl, rfl⟩)
theorem scale_lone (v : Int) {k : Int} (hk : fits k = true) : scE (lone v 1) 0 k = 0 ∧ scL (lone v 1) 0 k = lone v k ∧ scC (lone v 1) 0 k = 0 := by
  have hz : ∀ w, cf (lone v 1) w * k = if (0 ≤ v ∧ v < 4096) ∧ w = v then k else 0 := fun w => by
    rw [cf_lone]; split
    · exact Int.one_mul k
    · exact Int.zero_mul k
  rcases scE_cases (lone v 1) 0 k with ⟨e1, e2, e3, _⟩ | ⟨_, _, _, e4⟩
  · refine ⟨e1, ?_, by rw [e3, Int.zero_mul]⟩
    rw [e2]
    have h1 : okL (lone v k) := okL_lone v hk
    refine (ofF_congr (fun w h1 h2 => ?_)).trans (okL_canon h1).symm
    rw [hz, cf_lone]
  · refine absurd ⟨by rw [Int.zero_mul]; exact fits0, fun w => ?_⟩ e4
    rw [hz]; split
    · exact hk
    · exact fits0
theorem addC_zero (l m : List (Int × Int)) : addC l m 0 0 = 0 := by
  rcases addE_cases l m 0 0 with ⟨_, _, h, _⟩ | ⟨_, _, h, _⟩ <;> rw [h]
  rfl
theorem rdF_drop {ms : List (Int × ByteArray)} {i : Nat} (hi : i < ms.length) (q : List (Int × Int)) : rdF q (ms.drop i) = bif !(vE ms[i].1 == 0) then (vE ms[i].1, []) else bif !(re ms[i].2 == 0) then (re ms[i].2, []) else bif addE q (lone ms[i].1 (rv ms[i].2)) 0 0 == 0 then rdF (addL q (lone ms[i].1 (rv ms[i].2)) 0 0) (ms.drop (i + 1)) else (addE q (lone ms[i].1 (rv ms[i].2)) 0 0, []) := by
  rw [List.drop_eq_getElem_cons hi]; rfl
theorem vE_cases (v : Int) : (vok v = true ∧ vE v = 0) ∨ (vok v = false ∧ vE v = 30) := by
  unfold vE
  cases vok v with
  | true => exact .inl ⟨rfl, rfl⟩
  | false => exact .inr ⟨rfl, rfl⟩
namespace NRead
def Post (ms : List (Int × ByteArray)) (s : ByteArray) (e : Ex) (S1 : St) : Prop :=
  (e = .exit 0 ∧ ∃ q, okL q ∧ rdF [] ms = (0, q) ∧ ((∃ x, S1 = st0 (ms.map cP) s x (lvs q) (lrs q) false []) ∨ (q = [] ∧ S1 = st0e (ms.map cP) s))) ∨
  (e = .ret ∧ ∃ n, n ≠ 0 ∧ rdF [] ms = (n, []) ∧ ((∃ x l r b l', S1 = st0x0 (ms.map cP) s n x l r b l') ∨ (n = vE (gInt (((ms.map cP).getD 0 []).getD 0 .top)) ∧ S1 = st0x1 (ms.map cP) s) ∨ (n = re (gStr (((ms.map cP).getD 0 []).getD 1 .top)) ∧ S1 = st0x2 (ms.map cP) s)))
theorem loop (ms : List (Int × ByteArray)) (s : ByteArray) (hm : ∀ p ∈ ms, p.2.size ≤ 10000) (hlen : ms.length ≤ 4096) (i0 : Nat) (q0 : List (Int × Int)) (h0 : i0 ≤ ms.length) (hq0 : okL q0) (hr0 : rdF q0 (ms.drop i0) = rdF [] ms) : ∃ e S1, Ends T orc L0 D0 (st0 (ms.map cP) s i0 (lvs q0) (lrs q0) false []) e S1 ∧ Post ms s e S1 := by
  refine loop_inv2 (fun (i : Nat) (q : List (Int × Int)) => st0 (ms.map cP) s i (lvs q) (lrs q) false []) (fun i q => i ≤ ms.length ∧ okL q ∧ rdF q (ms.drop i) = rdF [] ms) (fun i q => ms.length - i)
    (Post ms s) isL0 ?_ i0 q0 ⟨h0, hq0, hr0⟩
  intro i q ⟨h1, h2, h3⟩
  refine ⟨noTab, noTab_all, lands_of (round0 ..) ?_⟩
  by_cases hi : i < ms.length
  · have hsz := hm _ (List.getElem_mem hi)
    rw [rdF_drop hi] at h3
    rw [List.length_map, ltN hi, inN hi, getP hi]
    simp only [cP0, cP1, cPeta, cond_true, hsz, decide_true]
    rcases vE_cases ms[i].1 with ⟨v1, v2⟩ | ⟨v1, v2⟩
    · rw [v2] at h3
      rw [v2, v1]
      by_cases he : re ms[i].2 = 0
      · rw [he] at h3
        have hfr := fits_rv ms[i].2
        obtain ⟨s1, s2, s3⟩ := scale_lone ms[i].1 hfr
        rw [he]
        simp only [bne_self_eq_false, cond_true, cond_false, isT_of0 (okL_lone ms[i].1 (show fits 1 = true from by kernel_rfl)), cnW_fits hfr, N_eq, hfr, Bool.and_self, dl_lvs, s1, s2, s3, isT_of0 h2, isT_of (okL_lone ms[i].1 hfr) fits0, num_zero]
        have h3 : (bif addE q (lone ms[i].1 (rv ms[i].2)) 0 0 == 0 then rdF (addL q (lone ms[i].1 (rv ms[i].2)) 0 0) (ms.drop (i + 1)) else (addE q (lone ms[i].1 (rv ms[i].2)) 0 0, [])) = rdF [] ms := h3
        rcases addE_cases q (lone ms[i].1 (rv ms[i].2)) 0 0 with ⟨a1, _⟩ | ⟨a1, _⟩
        · rw [a1] at h3
          rw [a1, addC_zero]
          simp only [bne_self_eq_false, cond_false, wi_succ (show i < 4611686018427387904 by omega), lands_some, Turns2]
          exact ⟨i + 1, addL q (lone ms[i].1 (rv ms[i].2)) 0 0, rfl, ⟨by omega, okL_add _ _ _ _, h3⟩, by omega⟩
        · rw [a1] at h3
          rw [a1]
          simp only [show ((11 : Int) != 0) = true from rfl, cond_true, lands_some, Turns2]
          exact .inr ⟨rfl, 11, by decide, h3.symm, .inl ⟨i, _, _, _, _, rfl⟩⟩
      · rw [show (re ms[i].2 == 0) = false from beq_eq_false_iff_ne.2 he] at h3
        rw [ne_b he]
        simp only [bne_self_eq_false, cond_true, cond_false, lands_some, Turns2]
        exact .inr ⟨rfl, re ms[i].2, he, h3.symm, .inl ⟨i, _, _, _, _, rfl⟩⟩
    · rw [v2] at h3
      rw [v2]
      simp only [show ((30 : Int) != 0) = true from rfl, cond_true, lands_some, Turns2]
      exact .inr ⟨rfl, 30, by decide, h3.symm, .inl ⟨i, _, _, _, _, rfl⟩⟩
  · have hd : ms.drop i = [] := List.drop_of_length_le (by omega)
    rw [hd] at h3
    rw [List.length_map, ltN' hi]
    simp only [cond_false, lands_some, Turns2]
    exact .inl ⟨rfl, q, h2, h3.symm, .inl ⟨i, rfl⟩⟩
theorem first (ms : List (Int × ByteArray)) (s : ByteArray) (hm : ∀ p ∈ ms, p.2.size ≤ 10000) (hlen : ms.length ≤ 4096) : ∃ e S1, Ends T orc L0 D0 (st0e (ms.map cP) s) e S1 ∧ Post ms s e S1 := by
  refine loop_first (Post ms s) isL0 noTab_all (round0e ..) ?_
  by_cases hi : 0 < ms.length
  · have hsz := hm _ (List.getElem_mem hi)
    have h3 : rdF [] ms = _ := rdF_drop hi []
    have hget : (ms.map cP).getD 0 [] = cP ms[0] := getP hi
    rw [List.length_map, show decide ((0 : Int) < (ms.length : Int)) = true from decide_eq_true (by omega), show inB 0 ms.length = true from inN hi, hget]
    simp only [cP0, cP1, cPeta, cond_true, hsz, decide_true]
    rcases vE_cases ms[0].1 with ⟨v1, v2⟩ | ⟨v1, v2⟩
    · rw [v2] at h3
      rw [v2, v1]
      by_cases he : re ms[0].2 = 0
      · rw [he] at h3
        have hfr := fits_rv ms[0].2
        obtain ⟨s1, s2, s3⟩ := scale_lone ms[0].1 hfr
        rw [he]
        simp only [bne_self_eq_false, cond_true, cond_false, isT_of0 (okL_lone ms[0].1 (show fits 1 = true from by kernel_rfl)), cnW_fits hfr, N_eq, hfr, Bool.and_self, dl_lvs, s1, s2, s3, dl_nil, isT_nil, isT_of (okL_lone ms[0].1 hfr) fits0, num_zero]
        have h3 : rdF [] ms = (bif addE [] (lone ms[0].1 (rv ms[0].2)) 0 0 == 0 then rdF (addL [] (lone ms[0].1 (rv ms[0].2)) 0 0) (ms.drop (0 + 1)) else (addE [] (lone ms[0].1 (rv ms[0].2)) 0 0, [])) := h3
        rcases addE_cases [] (lone ms[0].1 (rv ms[0].2)) 0 0 with ⟨a1, _⟩ | ⟨a1, _⟩
        · rw [a1] at h3
          rw [a1, addC_zero]
          simp only [bne_self_eq_false, cond_false, lands_some]
          exact loop ms s hm hlen 1 (addL [] (lone ms[0].1 (rv ms[0].2)) 0 0) hi (okL_add _ _ _ _) h3.symm
        · rw [a1] at h3
          rw [a1]
          simp only [show ((11 : Int) != 0) = true from rfl, cond_true, lands_some]
          exact .inr ⟨rfl, 11, by decide, h3, .inl ⟨0, _, _, _, _, rfl⟩⟩
      · rw [show (re ms[0].2 == 0) = false from beq_eq_false_iff_ne.2 he] at h3
        rw [ne_b he]
        simp only [bne_self_eq_false, cond_true, cond_false, lands_some]
        refine .inr ⟨rfl, re ms[0].2, he, h3, .inr (.inr ⟨?_, rfl⟩)⟩
        rw [hget]
        rfl
    · rw [v2] at h3
      rw [v2]
      simp only [show ((30 : Int) != 0) = true from rfl, cond_true, lands_some]
      refine .inr ⟨rfl, 30, by decide, h3, .inr (.inl ⟨?_, rfl⟩)⟩
      rw [hget]
      exact v2.symm
  · have hd : ms = [] := List.eq_nil_of_length_eq_zero (by omega)
    subst hd
    rw [show decide ((0 : Int) < (([] : List (Int × ByteArray)).map cP).length) = false from rfl]
    simp only [cond_false, lands_some]
    exact .inl ⟨rfl, [], okL_nil, rfl, .inr ⟨rfl, rfl⟩⟩
end NRead
theorem okL_rdF : ∀ (ms : List (Int × ByteArray)) (q : List (Int × Int)), okL q → okL (rdF q ms).2
  | [], q, h => h
  | (v, s) :: r, q, h => by
    show okL (bif !(vE v == 0) then (vE v, []) else bif !(re s == 0) then (re s, []) else bif addE q (lone v (rv s)) 0 0 == 0 then rdF (addL q (lone v (rv s)) 0 0) r else (addE q (lone v (rv s)) 0 0, [])).2
    cases !(vE v == 0) with
    | true => exact okL_nil
    | false =>
      cases !(re s == 0) with
      | true => exact okL_nil
      | false =>
        cases addE q (lone v (rv s)) 0 0 == 0 with
        | true => exact okL_rdF r _ (okL_add _ _ _ _)
        | false => exact okL_nil
theorem okL_rd (ms : List (Int × ByteArray)) (s : ByteArray) : okL (rdL ms s) := by
  rw [rdL_eq]
  cases rdE ms s == 0 with
  | true => exact okL_rdF ms [] okL_nil
  | false => exact okL_nil
theorem fits_rdM (ms : List (Int × ByteArray)) (s : ByteArray) : fits (rdM ms s) = true := by
  rw [rdM_eq]
  cases rdE ms s == 0 with
  | true => exact fits_rv s
  | false => exact fits0
/-- What is read, case by case. -/
theorem rd_cases (ms : List (Int × ByteArray)) (s : ByteArray) : (ms.length > 4096 ∧ rdE ms s = 2 ∧ rdL ms s = [] ∧ rdM ms s = 0) ∨ (ms.length ≤ 4096 ∧ re s ≠ 0 ∧ rdE ms s = re s ∧ rdL ms s = [] ∧ rdM ms s = 0) ∨
    (ms.length ≤ 4096 ∧ re s = 0 ∧ rdE ms s = (rdF [] ms).1 ∧ (((rdF [] ms).1 = 0 ∧ rdL ms s = (rdF [] ms).2 ∧ rdM ms s = rv s) ∨ ((rdF [] ms).1 ≠ 0 ∧ rdL ms s = [] ∧ rdM ms s = 0))) := by
  have hE := rdE_eq ms s
  have hL := rdL_eq ms s
  have hM := rdM_eq ms s
  by_cases h1 : ms.length > 4096
  · rw [decide_eq_true h1] at hE
    have hE : rdE ms s = 2 := hE
    rw [hE] at hL hM
    exact .inl ⟨h1, hE, hL, hM⟩
  · rw [decide_eq_false h1, cond_false] at hE
    by_cases h2 : re s = 0
    · rw [h2] at hE
      have hE : rdE ms s = (rdF [] ms).1 := hE
      refine .inr (.inr ⟨by omega, h2, hE, ?_⟩)
      rw [hE] at hL hM
      by_cases h3 : (rdF [] ms).1 = 0
      · rw [h3] at hL hM
        exact .inl ⟨h3, hL, hM⟩
      · rw [show ((rdF [] ms).1 == 0) = false from beq_eq_false_iff_ne.2 h3] at hL hM
        exact .inr ⟨h3, hL, hM⟩
    · have hb : (re s == 0) = false := beq_eq_false_iff_ne.2 h2
      rw [hb] at hE
      have hE : rdE ms s = re s := hE
      rw [hE, hb] at hL hM
      exact .inr (.inl ⟨by omega, h2, hE, hL, hM⟩)
theorem meets_nread (hadd : Meets Try.prog 46 ansLAdd) : Meets Try.prog 15 ansLRead := by
  refine meets_fn (orc_ok (l := NRead.ans) ⟨meets_parse, meets_nvar, meets_nscale, hadd, trivial⟩) Try.f15 Try.func15 (by kernel_rfl) (fun args r h => ?_)
  unfold ansLRead at h
  split at h
  · rename_i x s
    simp only [Option.some.injEq, Prod.mk.injEq, Bool.and_eq_true, Bool.or_eq_true, decide_eq_true_eq] at h
    obtain ⟨⟨⟨h1, h2⟩, h3⟩, rfl⟩ := h
    obtain ⟨ms, _, rfl⟩ := isq_iff.1 h2
    rw [dp_map]
    rw [List.length_map] at h3
    rcases rd_cases ms s with ⟨c1, c2, c3, c4⟩ | ⟨c1, c0, c2, c3, c4⟩ | ⟨c1, c0, c2, c3⟩
    · rw [c2, c3, c4, lvs_nil, lrs_nil]
      refine ⟨rfl, _, tabOf_all _, (NRead.rest_4 (ms.map cP) s).trans (bT ?_)⟩
      rw [List.length_map, decide_eq_true_eq]; omega
    · rw [c2, c3, c4, lvs_nil, lrs_nil]
      refine ⟨rfl, _, tabOf_all _, (NRead.rest_4 (ms.map cP) s).trans ((bF ?_).trans ((bT (decide_eq_true h1)).trans (bT (ne_b c0))))⟩
      rw [List.length_map, decide_eq_false_iff_not]; omega
    · have hg : decide (((ms.map cP).length : Int) > 4096) = false := by rw [List.length_map, decide_eq_false_iff_not]; omega
      have hm : ∀ p ∈ ms, p.2.size ≤ 10000 := by
        rcases h3 with h3 | h3
        · omega
        · obtain ⟨ms', k1, k2⟩ := isp_iff.1 h3
          have : ms = ms' := by rw [← dp_map ms, ← dp_map ms', k2]
          subst this
          exact fun p hp => (k1 p hp).2
      obtain ⟨e1, S1, hE1, hP⟩ := NRead.first ms s hm c1
      rcases hP with ⟨rfl, q, k1, k2, ⟨x, rfl⟩ | ⟨rfl, rfl⟩⟩ | ⟨rfl, n, k1, k2, ⟨x, l, r, b, l', rfl⟩ | ⟨k3, rfl⟩ | ⟨k3, rfl⟩⟩
      · rw [k2] at c2 c3
        rcases c3 with ⟨_, c3, c4⟩ | ⟨c3, _⟩
        · rw [c2, c3, c4]
          exact ⟨rfl, _, tabOf_all _, (NRead.rest_1 (ms.map cP) s (lvs q) (lrs q) false [] x).trans ((bF hg).trans ((bT (decide_eq_true h1)).trans ((bF (eq_b c0)).trans (bT (cdec_true hE1)))))⟩
        · exact absurd rfl c3
      · rw [k2] at c2 c3
        rcases c3 with ⟨_, c3, c4⟩ | ⟨c3, _⟩
        · rw [c2, c3, c4, lvs_nil, lrs_nil]
          exact ⟨rfl, _, tabOf_all _, (NRead.rest_4 (ms.map cP) s).trans ((bF hg).trans ((bT (decide_eq_true h1)).trans ((bF (eq_b c0)).trans (bT (cdec_true hE1)))))⟩
        · exact absurd rfl c3
      · rw [k2] at c2 c3
        rcases c3 with ⟨c3, _⟩ | ⟨_, c3, c4⟩
        · exact absurd c3 k1
        · rw [c2, c3, c4, lvs_nil, lrs_nil]
          exact ⟨rfl, _, tabOf_all _, (NRead.rest_0 (ms.map cP) s n x l r b l').trans ((bF hg).trans ((bT (decide_eq_true h1)).trans ((bF (eq_b c0)).trans (bT (cdec_true hE1)))))⟩
      · rw [k2] at c2 c3
        rcases c3 with ⟨c3, _⟩ | ⟨_, c3, c4⟩
        · exact absurd c3 k1
        · rw [c2, c3, c4, lvs_nil, lrs_nil]
          exact ⟨rfl, _, tabOf_all _, (NRead.rest_2 (ms.map cP) s).trans ((bF hg).trans ((bT (decide_eq_true h1)).trans ((bF (eq_b c0)).trans ((bT (cdec_true hE1)).trans (by rw [k3]; rfl)))))⟩
      · rw [k2] at c2 c3
        rcases c3 with ⟨c3, _⟩ | ⟨_, c3, c4⟩
        · exact absurd c3 k1
        · rw [c2, c3, c4, lvs_nil, lrs_nil]
          exact ⟨rfl, _, tabOf_all _, (NRead.rest_3 (ms.map cP) s).trans ((bF hg).trans ((bT (decide_eq_true h1)).trans ((bF (eq_b c0)).trans ((bT (cdec_true hE1)).trans (by rw [k3]; rfl)))))⟩
  · cases h
theorem dq_zero (g : Int) : dq 0 g = 0 := by unfold dq; split <;> simp
theorem fits_dqz {x y : Int} (h : fits x = true) : fits (dq x y) = true := by
  unfold dq
  split
  · exact fits0
  · rename_i h0
    refine fits_le h ?_
    rcases Int.lt_trichotomy y 0 with hy | hy | hy
    · rw [show x.fdiv y = (-x).fdiv (-y) from (Int.neg_fdiv_neg x y).symm, Int.fdiv_eq_ediv_of_nonneg _ (by omega)]
      have := Int.natAbs_ediv_le_natAbs (-x) (-y)
      omega
    · exact absurd hy h0
    · rw [Int.fdiv_eq_ediv_of_nonneg _ (by omega)]
      exact Int.natAbs_ediv_le_natAbs x y
theorem okL_ti {l : List (Int × Int)} (h : okL l) : okL (tiL l) := by
  rw [tiL_eq]
  cases decide (gcdL l ≤ 1) with
  | true => exact h
  | false =>
    rw [cond_false]
    exact okL_ofF (fun v _ _ => fits_dqz (okL_cf h v))
theorem fits_tiM {l : List (Int × Int)} {c : Int} (h : fits c = true) : fits (tiM l c) = true := by
  rw [tiM_eq]
  cases decide (gcdL l ≤ 1) with
  | true => exact h
  | false => exact fits_dqz h
namespace NTight
theorem loop (l : List (Int × Int)) (b : Bool) (m : List Int) (s : Bool) (ll : List Int) (hl : okL l) : ∃ e S1, Ends T orc L0 D0 (st0 (l.map (fun p => p.1)) (l.map cL) b m s ll 0 [] []) e S1 ∧ e = .exit 0 ∧ ∃ x, S1 = st0 (l.map (fun p => p.1)) (l.map cL) b m s ll x ((ofF (fun v => dq (cf l v) (gcdL l))).map (fun p => p.1)) ((ofF (fun v => dq (cf l v) (gcdL l))).map cL) := by
  have g0 : ∀ w : Int, dq 0 (gcdL l) = 0 := fun w => dq_zero _
  have hz := map_step0 (g := fun _ z => dq z (gcdL l)) g0 l
  have key : ∃ e S1, Ends T orc L0 D0 (st0 (l.map (fun p => p.1)) (l.map cL) b m s ll ((0 : Nat) : Int) ((ofF (fun v => dq (cf (l.take 0) v) (gcdL l))).map (fun p => p.1)) ((ofF (fun v => dq (cf (l.take 0) v) (gcdL l))).map cL)) e S1 ∧ e = .exit 0 ∧ ∃ x, S1 = st0 (l.map (fun p => p.1)) (l.map cL) b m s ll x ((ofF (fun v => dq (cf l v) (gcdL l))).map (fun p => p.1)) ((ofF (fun v => dq (cf l v) (gcdL l))).map cL) := by
    refine loop_inv1 (fun (i : Nat) => st0 (l.map (fun p => p.1)) (l.map cL) b m s ll i ((ofF (fun v => dq (cf (l.take i) v) (gcdL l))).map (fun p => p.1)) ((ofF (fun v => dq (cf (l.take i) v) (gcdL l))).map cL)) (fun i => i ≤ l.length) (fun i => l.length - i)
      (fun e S1 => e = .exit 0 ∧ ∃ x, S1 = st0 (l.map (fun p => p.1)) (l.map cL) b m s ll x ((ofF (fun v => dq (cf l v) (gcdL l))).map (fun p => p.1)) ((ofF (fun v => dq (cf l v) (gcdL l))).map cL)) isL0 ?_ 0 (Nat.zero_le _)
    intro i h1
    have hlen := okL_len hl
    refine ⟨noTab, noTab_all, lands_of (round0 ..) ?_⟩
    by_cases hi : i < l.length
    · have hf := okL_mem hl (List.getElem_mem hi)
      have hs := map_step (okL_asc hl) (okL_in hl) (g := fun _ z => dq z (gcdL l)) g0 hi
      have ho := ofF_len (fun v => dq (cf (l.take i) v) (gcdL l))
      have hd := fits_dqz (y := gcdL l) hf
      rw [List.length_map, List.length_map, ltN hi, inN hi, getL hi, rdV hi, dl_map]
      simp only [cL0, cL1, cLeta, cnW_fits hf, num_lbW, N_eq, cnW_fits (gcdL_fits hl), cnW_fits hd, cond_true, Bool.true_and, Bool.and_true, List.length_map]
      rw [decide_eq_true (show (ofF (fun v => dq (cf (l.take i) v) (gcdL l))).length ≤ 100000 by omega), putV_map, putR_map, hs]
      simp only [cond_true, Bool.and_self, wi_succ (show i < 4611686018427387904 by omega), lands_some, Turns1]
      exact ⟨i + 1, rfl, by omega, by omega⟩
    · rw [List.length_map, ltN' hi]
      simp only [cond_false, lands_some, Turns1]
      have hil : l.take i = l := List.take_of_length_le (by omega)
      rw [hil]
      exact ⟨trivial, i, rfl⟩
  rw [hz] at key
  exact key
end NTight
theorem meets_ntight : Meets Try.prog 22 ansLTight := by
  refine meets_fn (orc_ok (l := NTight.ans) ⟨meets_ncommon, meets_cmp, meets_from, meets_div, meets_lput, trivial⟩) Try.f22 Try.func22 (by kernel_rfl) (fun args r h => ?_)
  unfold ansLTight at h
  split at h
  · rename_i vs r b m s ll
    simp only [Option.some.injEq, Prod.mk.injEq, Bool.and_eq_true, Bool.not_eq_true'] at h
    obtain ⟨⟨⟨⟨⟨h1, rfl⟩, h3⟩, h4⟩, h5⟩, rfl⟩ := h
    obtain rfl := isEmpty_nil h3
    obtain ⟨c, rfl, rfl, _⟩ := (cn_iff W_two).1 h4
    rw [num_lbW] at h5
    obtain ⟨l, k1, rfl, rfl⟩ := isl_iff.1 h1
    obtain ⟨e1, S1, hE1, rfl, x, rfl⟩ := NTight.loop l false [] (sg c) (lb 4294967296 c) k1
    refine ⟨rfl, _, tabOf_all _, (NTight.rest _ _ _ _ _ _ ((ofF (fun v => dq (cf l v) (gcdL l))).map (fun p => p.1)) ((ofF (fun v => dq (cf l v) (gcdL l))).map cL) x).trans ?_⟩
    have hL := tiL_eq l
    have hM := tiM_eq l c
    rw [h1, dl_map, cnW_fits (gcdL_fits k1), N_eq, num_lbW, cmp_le, show num 4294967296 false (lb 4294967296 1) = 1 from num_lbW 1, h4, cdec_true hE1]
    cases hb : decide (gcdL l ≤ 1) with
    | true =>
      rw [hb, cond_true] at hL hM
      rw [hL, hM, lvs_eq l, lrs_eq l]
      rfl
    | false =>
      rw [hb, cond_false] at hL hM
      rw [hL, hM, lvs_eq, lrs_eq]
      rfl
  · cases h
end Go.Abs
end
section
/- What the reference of linear answers: rows that are read, compared, made tight, turned about; the term of a list of parts. -/
namespace Go.Abs
open Go.Proofs Go.Dig
theorem gcdF_dvd (l : List (Int × Int)) : ∀ g : Int, l.foldl (fun g p => gz g p.2) g ∣ g ∧ ∀ p ∈ l, l.foldl (fun g p => gz g p.2) g ∣ p.2 := by
  induction l with
  | nil => exact fun g => ⟨Int.dvd_refl g, fun p hp => by cases hp⟩
  | cons q l ih =>
    intro g
    obtain ⟨h1, h2⟩ := ih (gz g q.2)
    have ha : gz g q.2 ∣ g := Int.gcd_dvd_left ..
    have hb : gz g q.2 ∣ q.2 := Int.gcd_dvd_right ..
    refine ⟨Int.dvd_trans h1 ha, fun p hp => ?_⟩
    rcases List.mem_cons.1 hp with rfl | hp
    · exact Int.dvd_trans h1 hb
    · exact h2 p hp
theorem gcdL_dvd {l : List (Int × Int)} {p : Int × Int} (hp : p ∈ l) : gcdL l ∣ p.2 := by rw [gcdL_eq]; exact (gcdF_dvd l 0).2 p hp
theorem dq_exact {x g : Int} (hg : 1 < g) (h : g ∣ x) : dq x g * g = x := by
  unfold dq
  rw [if_neg (by omega), Int.fdiv_eq_ediv_of_nonneg _ (by omega)]
  exact Int.ediv_mul_cancel h
theorem dq_ne {x g : Int} (hg : 1 < g) (h : g ∣ x) (hx : x ≠ 0) : dq x g ≠ 0 := fun h0 => hx (by rw [← dq_exact hg h, h0, Int.zero_mul])
namespace ESameRow
def Post (ms ns : List (Int × ByteArray)) (s sz : ByteArray) (e : Ex) (S1 : St) : Prop :=
  (e = .exit 0 ∧ ms = ns ∧ ∃ x, S1 = st0 (ms.map cP) s (ns.map cP) sz x) ∨ (e = .ret ∧ ms ≠ ns ∧ ∃ x, S1 = st0 (ms.map cP) s (ns.map cP) sz x)
theorem loop (ms ns : List (Int × ByteArray)) (s sz : ByteArray) (hl : ms.length = ns.length) (hm : ms.length ≤ 100000) : ∃ e S1, Ends T orc L0 D0 (st0 (ms.map cP) s (ns.map cP) sz 0) e S1 ∧ Post ms ns s sz e S1 := by
  refine loop_inv1 (fun (i : Nat) => st0 (ms.map cP) s (ns.map cP) sz i) (fun i => i ≤ ms.length ∧ ms.take i = ns.take i) (fun i => ms.length - i) (Post ms ns s sz) isL0 ?_ 0 ⟨Nat.zero_le _, by rw [List.take_zero, List.take_zero]⟩
  intro i ⟨h1, h2⟩
  refine ⟨noTab, noTab_all, lands_of (round0 ..) ?_⟩
  by_cases hi : i < ms.length
  · have hi2 : i < ns.length := by omega
    rw [List.length_map, List.length_map, ltN hi, inN hi, inN hi2, getP hi, getP hi2]
    simp only [cP0, cP1, cPeta, cond_true, bytes_beq]
    by_cases he : ms[i] = ns[i]
    · rw [he, beq_self_eq_true, decide_eq_true rfl]
      simp only [Bool.and_self, Bool.not_true, cond_false, wi_succ (show i < 4611686018427387904 by omega), lands_some, Turns1]
      refine ⟨i + 1, rfl, ⟨by omega, ?_⟩, by omega⟩
      rw [List.take_add_one, List.take_add_one, h2, List.getElem?_eq_getElem hi, List.getElem?_eq_getElem hi2, he]
    · have hb : (ms[i].1 == ns[i].1 && decide (ms[i].2 = ns[i].2)) = false := by
        rw [Bool.eq_false_iff, ne_eq, Bool.and_eq_true, beq_iff_eq, decide_eq_true_eq]
        exact fun hh => he (Prod.ext hh.1 hh.2)
      rw [hb]
      simp only [Bool.not_false, cond_true, lands_some, Turns1]
      refine .inr ⟨rfl, fun hh => he ?_, i, rfl⟩
      subst hh; rfl
  · rw [List.length_map, ltN' hi]
    simp only [cond_false, lands_some, Turns1]
    rw [List.take_of_length_le (by omega), List.take_of_length_le (by omega)] at h2
    exact .inl ⟨rfl, h2, i, rfl⟩
end ESameRow
theorem meets_esamerow : Meets Try.prog 17 ansMSameRow := by
  refine meets_fn (orc_ok (l := ESameRow.ans) trivial) Try.f17 Try.func17 (by kernel_rfl) (fun args r h => ?_)
  unfold ansMSameRow at h
  split at h
  · rename_i x s xz sz
    simp only [Option.some.injEq, Prod.mk.injEq, Bool.and_eq_true, decide_eq_true_eq] at h
    obtain ⟨⟨⟨⟨h1, h2⟩, h3⟩, h4⟩, rfl⟩ := h
    obtain ⟨ms, _, rfl⟩ := isq_iff.1 h1
    obtain ⟨ns, _, rfl⟩ := isq_iff.1 h2
    rw [List.length_map] at h3 h4
    rw [dp_map, dp_map]
    have hS := sameP_eq ms s ns sz
    have cF : ∀ {p : Prop}, ¬ p → cdec p = false := fun h => by rw [Bool.eq_false_iff]; exact fun hh => h (cdec_iff hh)
    by_cases e1 : s = sz
    · by_cases e2 : ms.length = ns.length
      · obtain ⟨e, S1, hE1, hP⟩ := ESameRow.loop ms ns s sz e2 h3
        have hb1 : (!s.toList == sz.toList) = false := by rw [bytes_beq, decide_eq_true e1]; rfl
        have hb2 : (((ms.map cP).length : Int) != ((ns.map cP).length : Int)) = false := by rw [List.length_map, List.length_map, e2]; exact eq_b rfl
        rcases hP with ⟨rfl, he, x, rfl⟩ | ⟨rfl, he, x, rfl⟩
        · rw [hS, cdec_true ⟨he, e1⟩]
          exact ⟨rfl, _, tabOf_all _, (ESameRow.rest_1 _ _ _ _ x).trans ((bF hb1).trans ((bF hb2).trans (bT (cdec_true hE1))))⟩
        · rw [hS, cF (fun hh => he hh.1)]
          exact ⟨rfl, _, tabOf_all _, (ESameRow.rest_0 _ _ _ _ x).trans ((bF hb1).trans ((bF hb2).trans (bT (cdec_true hE1))))⟩
      · rw [hS, cF (fun hh => e2 (by rw [hh.1]))]
        refine ⟨rfl, _, tabOf_all _, (ESameRow.rest_0 _ _ _ _ 0).trans ((bF ?_).trans (bT (ne_b ?_)))⟩
        · rw [bytes_beq, decide_eq_true e1]; rfl
        · rw [List.length_map, List.length_map]; omega
    · rw [hS, cF (fun hh => e1 hh.2)]
      refine ⟨rfl, _, tabOf_all _, (ESameRow.rest_0 _ _ _ _ 0).trans (bT ?_)⟩
      rw [bytes_beq, decide_eq_false e1]; rfl
  · cases h
theorem add_lone {q : List (Int × Int)} (hq : okL q) {v c : Int} (hv : 0 ≤ v ∧ v < 4096) (hc : fits c = true) : (fits (cf q v + c) = true → addE q (lone v c) 0 0 = 0 ∧ addL q (lone v c) 0 0 = wiL q v c) ∧ (fits (cf q v + c) = false → addE q (lone v c) 0 0 = 11) := by
  have hz : ∀ w, cf q w + cf (lone v c) w = if w = v then cf q v + c else cf q w := fun w => by
    rw [cf_lone]
    by_cases hw : w = v
    · rw [if_pos ⟨hv, hw⟩, if_pos hw, hw]
    · rw [if_neg (fun hh => hw hh.2), if_neg hw, Int.add_zero]
  constructor
  · intro hf
    rcases addE_cases q (lone v c) 0 0 with ⟨e1, e2, _⟩ | ⟨_, _, _, e4⟩
    · refine ⟨e1, ?_⟩
      rw [e2, wiL_eq]
      refine ofF_congr (fun w _ _ => ?_)
      rw [hz]
      by_cases hw : w = v
      · rw [decide_eq_true hw, if_pos hw, hw]; rfl
      · rw [decide_eq_false hw, if_neg hw]; rfl
    · refine absurd ⟨fits0, fun w => ?_⟩ e4
      rw [hz]; split
      · exact hf
      · exact okL_cf hq w
  · intro hf
    rcases addE_cases q (lone v c) 0 0 with ⟨_, _, _, _, e5⟩ | ⟨e1, _⟩
    · have := e5 v
      rw [hz, if_pos rfl, hf] at this
      cases this
    · exact e1
end Go.Abs
end
section
/- States and rounds of the functions of linear and of its reference, as a program of this session printed them. -/
set_option maxRecDepth 10000
namespace Go.Abs
open Go.Proofs Go.Dig
noncomputable section
namespace NAdd
abbrev ans : Ans := [(56, ansAdd), (68, ansLPut)]
abbrev orc : Orc := orcOf ans
noncomputable def L0 : Code := lp Try.f46 0
theorem isL0 : ∃ a, L0 = .loop a := ⟨_, rfl⟩
abbrev D0 : List Nat := [0, 1, 2, 3, 4, 5, 6, 7, 8, 9, 10, 13, 14, 15, 16, 17, 18, 19, 20, 21, 22, 25, 26]
abbrev st0 (vs : List Int) (r : List (List AV)) (b : Bool) (m : List Int) (vsz : List Int) (rz : List (List AV)) (bz : Bool) (mz : List Int) (x0 : Int) (x1 : Int) (l0 : List Int) (r0 : List (List AV)) : St := ⟨.agg [.ints .i64 vs, .rows 2 r, .bool b, .ints .u32 m] :: .agg [.ints .i64 vsz, .rows 2 rz, .bool bz, .ints .u32 mz] :: .ptr 2 0 0 :: .ptr 3 0 0 :: .ptr 4 0 0 :: .int .i64 (0) :: .ptr 6 0 0 :: .int .i64 (he (num (4294967296) b m + num (4294967296) bz mz)) :: .ptr 8 0 0 :: .int .i64 x0 :: .int .i64 x1 :: tops 2 (.tup [R (hz (num (4294967296) b m + num (4294967296) bz mz)), .int .i64 (he (num (4294967296) b m + num (4294967296) bz mz))] :: .ptr 2 0 2 :: .agg [.bool b, .ints .u32 m] :: .ptr 3 0 2 :: .agg [.bool bz, .ints .u32 mz] :: .tup [R (hz (num (4294967296) b m + num (4294967296) bz mz)), .int .i64 (he (num (4294967296) b m + num (4294967296) bz mz))] :: R (hz (num (4294967296) b m + num (4294967296) bz mz)) :: .int .i64 (he (num (4294967296) b m + num (4294967296) bz mz)) :: .int .i64 (he (num (4294967296) b m + num (4294967296) bz mz)) :: .bool (he (num (4294967296) b m + num (4294967296) bz mz) != 0) :: tops 2 (R (hz (num (4294967296) b m + num (4294967296) bz mz)) :: .agg [.nil, .nil, .bool (sg (hz (num (4294967296) b m + num (4294967296) bz mz))), .ints .u32 (lb (4294967296) (hz (num (4294967296) b m + num (4294967296) bz mz)))] :: tops 113 ([]))), nos 2 (varE [(false, .ints .i64 vs), (false, .rows 2 r), (false, .bool b), (false, .ints .u32 m)] :: varE [(false, .ints .i64 vsz), (false, .rows 2 rz), (false, .bool bz), (false, .ints .u32 mz)] :: varE [(true, .ints .i64 []), (true, .rows 2 []), (false, .bool false), (true, .ints .u32 [])] :: nos 1 (varE [(false, .bool (sg (hz (num (4294967296) b m + num (4294967296) bz mz)))), (false, .ints .u32 (lb (4294967296) (hz (num (4294967296) b m + num (4294967296) bz mz))))] :: nos 1 (varE [(true, .ints .i64 l0), (true, .rows 2 r0), (false, .bool (sg (hz (num (4294967296) b m + num (4294967296) bz mz)))), (false, .ints .u32 (lb (4294967296) (hz (num (4294967296) b m + num (4294967296) bz mz))))] :: nos 131 ([]))))⟩
abbrev st0x0 (vs : List Int) (r : List (List AV)) (b : Bool) (m : List Int) (vsz : List Int) (rz : List (List AV)) (bz : Bool) (mz : List Int) (x2 : Int) (x0 : Int) (x1 : Int) (l0 : List Int) (r0 : List (List AV)) : St := ⟨.agg [.ints .i64 vs, .rows 2 r, .bool b, .ints .u32 m] :: .agg [.ints .i64 vsz, .rows 2 rz, .bool bz, .ints .u32 mz] :: .ptr 2 0 0 :: .ptr 3 0 0 :: .ptr 4 0 0 :: .int .i64 x2 :: .ptr 6 0 0 :: .int .i64 (he (num (4294967296) b m + num (4294967296) bz mz)) :: .ptr 8 0 0 :: .int .i64 x0 :: .int .i64 x1 :: tops 2 (.tup [R (hz (num (4294967296) b m + num (4294967296) bz mz)), .int .i64 (he (num (4294967296) b m + num (4294967296) bz mz))] :: .ptr 2 0 2 :: .agg [.bool b, .ints .u32 m] :: .ptr 3 0 2 :: .agg [.bool bz, .ints .u32 mz] :: .tup [R (hz (num (4294967296) b m + num (4294967296) bz mz)), .int .i64 (he (num (4294967296) b m + num (4294967296) bz mz))] :: R (hz (num (4294967296) b m + num (4294967296) bz mz)) :: .int .i64 (he (num (4294967296) b m + num (4294967296) bz mz)) :: .int .i64 (he (num (4294967296) b m + num (4294967296) bz mz)) :: .bool (he (num (4294967296) b m + num (4294967296) bz mz) != 0) :: tops 2 (R (hz (num (4294967296) b m + num (4294967296) bz mz)) :: .agg [.nil, .nil, .bool (sg (hz (num (4294967296) b m + num (4294967296) bz mz))), .ints .u32 (lb (4294967296) (hz (num (4294967296) b m + num (4294967296) bz mz)))] :: tops 113 ([]))), nos 2 (varE [(false, .ints .i64 vs), (false, .rows 2 r), (false, .bool b), (false, .ints .u32 m)] :: varE [(false, .ints .i64 vsz), (false, .rows 2 rz), (false, .bool bz), (false, .ints .u32 mz)] :: varE [(true, .ints .i64 []), (true, .rows 2 []), (false, .bool false), (true, .ints .u32 [])] :: nos 1 (varE [(false, .bool (sg (hz (num (4294967296) b m + num (4294967296) bz mz)))), (false, .ints .u32 (lb (4294967296) (hz (num (4294967296) b m + num (4294967296) bz mz))))] :: nos 1 (varE [(true, .ints .i64 l0), (true, .rows 2 r0), (false, .bool (sg (hz (num (4294967296) b m + num (4294967296) bz mz)))), (false, .ints .u32 (lb (4294967296) (hz (num (4294967296) b m + num (4294967296) bz mz))))] :: nos 131 ([]))))⟩
theorem round0 (vs : List Int) (r : List (List AV)) (b : Bool) (m : List Int) (vsz : List Int) (rz : List (List AV)) (bz : Bool) (mz : List Int) (x0 : Int) (x1 : Int) (l0 : List Int) (r0 : List (List AV)) : goL T orc (noTab) D0 L0 (st0 vs r b m vsz rz bz mz x0 x1 l0 r0) =
    (bif decide (x0 < (↑vs.length : Int)) then (bif x1 == (↑vsz.length : Int) then (bif inB x0 vs.length then (bif inB x0 r.length then (bif etasOk [.bool false, .ints .u32 []] (r.getD x0.toNat []) then (bif cn (4294967296) (gBool ((r.getD x0.toNat []).getD 0 .top)) (gInts ((r.getD x0.toNat []).getD 1 .top)) && decide (l0.length ≤ 100000) && decide (r0.length ≤ 100000) && true && true then some (.normal, st0 vs r b m vsz rz bz mz (IntKind.i64.wrap (x0 + 1)) x1 (putV (num (4294967296) (gBool ((r.getD x0.toNat []).getD 0 .top)) (gInts ((r.getD x0.toNat []).getD 1 .top))) l0 (rd vs x0)) (putR (num (4294967296) (gBool ((r.getD x0.toNat []).getD 0 .top)) (gInts ((r.getD x0.toNat []).getD 1 .top))) r0 [.bool (gBool ((r.getD x0.toNat []).getD 0 .top)), .ints .u32 (gInts ((r.getD x0.toNat []).getD 1 .top))])) else none) else none) else none) else none) else (bif decide (x0 < (↑vs.length : Int)) then (bif inB x0 vs.length then (bif inB x1 vsz.length then (bif decide (rd vs x0 < rd vsz x1) then (bif inB x0 vs.length then (bif inB x0 r.length then (bif etasOk [.bool false, .ints .u32 []] (r.getD x0.toNat []) then (bif cn (4294967296) (gBool ((r.getD x0.toNat []).getD 0 .top)) (gInts ((r.getD x0.toNat []).getD 1 .top)) && decide (l0.length ≤ 100000) && decide (r0.length ≤ 100000) && true && true then some (.normal, st0 vs r b m vsz rz bz mz (IntKind.i64.wrap (x0 + 1)) x1 (putV (num (4294967296) (gBool ((r.getD x0.toNat []).getD 0 .top)) (gInts ((r.getD x0.toNat []).getD 1 .top))) l0 (rd vs x0)) (putR (num (4294967296) (gBool ((r.getD x0.toNat []).getD 0 .top)) (gInts ((r.getD x0.toNat []).getD 1 .top))) r0 [.bool (gBool ((r.getD x0.toNat []).getD 0 .top)), .ints .u32 (gInts ((r.getD x0.toNat []).getD 1 .top))])) else none) else none) else none) else none) else (bif x0 == (↑vs.length : Int) then (bif inB x1 vsz.length then (bif inB x1 rz.length then (bif etasOk [.bool false, .ints .u32 []] (rz.getD x1.toNat []) then (bif cn (4294967296) (gBool ((rz.getD x1.toNat []).getD 0 .top)) (gInts ((rz.getD x1.toNat []).getD 1 .top)) && decide (l0.length ≤ 100000) && decide (r0.length ≤ 100000) && true && true then some (.normal, st0 vs r b m vsz rz bz mz x0 (IntKind.i64.wrap (x1 + 1)) (putV (num (4294967296) (gBool ((rz.getD x1.toNat []).getD 0 .top)) (gInts ((rz.getD x1.toNat []).getD 1 .top))) l0 (rd vsz x1)) (putR (num (4294967296) (gBool ((rz.getD x1.toNat []).getD 0 .top)) (gInts ((rz.getD x1.toNat []).getD 1 .top))) r0 [.bool (gBool ((rz.getD x1.toNat []).getD 0 .top)), .ints .u32 (gInts ((rz.getD x1.toNat []).getD 1 .top))])) else none) else none) else none) else none) else (bif inB x1 vsz.length then (bif inB x0 vs.length then (bif decide (rd vsz x1 < rd vs x0) then (bif inB x1 vsz.length then (bif inB x1 rz.length then (bif etasOk [.bool false, .ints .u32 []] (rz.getD x1.toNat []) then (bif cn (4294967296) (gBool ((rz.getD x1.toNat []).getD 0 .top)) (gInts ((rz.getD x1.toNat []).getD 1 .top)) && decide (l0.length ≤ 100000) && decide (r0.length ≤ 100000) && true && true then some (.normal, st0 vs r b m vsz rz bz mz x0 (IntKind.i64.wrap (x1 + 1)) (putV (num (4294967296) (gBool ((rz.getD x1.toNat []).getD 0 .top)) (gInts ((rz.getD x1.toNat []).getD 1 .top))) l0 (rd vsz x1)) (putR (num (4294967296) (gBool ((rz.getD x1.toNat []).getD 0 .top)) (gInts ((rz.getD x1.toNat []).getD 1 .top))) r0 [.bool (gBool ((rz.getD x1.toNat []).getD 0 .top)), .ints .u32 (gInts ((rz.getD x1.toNat []).getD 1 .top))])) else none) else none) else none) else none) else (bif inB x0 r.length then (bif etasOk [.bool false, .ints .u32 []] (r.getD x0.toNat []) then (bif inB x1 rz.length then (bif etasOk [.bool false, .ints .u32 []] (rz.getD x1.toNat []) then (bif cn (4294967296) (gBool ((r.getD x0.toNat []).getD 0 .top)) (gInts ((r.getD x0.toNat []).getD 1 .top)) && cn (4294967296) (gBool ((rz.getD x1.toNat []).getD 0 .top)) (gInts ((rz.getD x1.toNat []).getD 1 .top)) && fits (num (4294967296) (gBool ((r.getD x0.toNat []).getD 0 .top)) (gInts ((r.getD x0.toNat []).getD 1 .top))) && fits (num (4294967296) (gBool ((rz.getD x1.toNat []).getD 0 .top)) (gInts ((rz.getD x1.toNat []).getD 1 .top))) then (bif he (num (4294967296) (gBool ((r.getD x0.toNat []).getD 0 .top)) (gInts ((r.getD x0.toNat []).getD 1 .top)) + num (4294967296) (gBool ((rz.getD x1.toNat []).getD 0 .top)) (gInts ((rz.getD x1.toNat []).getD 1 .top))) != 0 then some (.ret, st0x0 vs r b m vsz rz bz mz (he (num (4294967296) (gBool ((r.getD x0.toNat []).getD 0 .top)) (gInts ((r.getD x0.toNat []).getD 1 .top)) + num (4294967296) (gBool ((rz.getD x1.toNat []).getD 0 .top)) (gInts ((rz.getD x1.toNat []).getD 1 .top)))) x0 x1 l0 r0) else (bif inB x0 vs.length then (bif cn (4294967296) (sg (hz (num (4294967296) (gBool ((r.getD x0.toNat []).getD 0 .top)) (gInts ((r.getD x0.toNat []).getD 1 .top)) + num (4294967296) (gBool ((rz.getD x1.toNat []).getD 0 .top)) (gInts ((rz.getD x1.toNat []).getD 1 .top))))) (lb (4294967296) (hz (num (4294967296) (gBool ((r.getD x0.toNat []).getD 0 .top)) (gInts ((r.getD x0.toNat []).getD 1 .top)) + num (4294967296) (gBool ((rz.getD x1.toNat []).getD 0 .top)) (gInts ((rz.getD x1.toNat []).getD 1 .top))))) && decide (l0.length ≤ 100000) && decide (r0.length ≤ 100000) && true && true then some (.normal, st0 vs r b m vsz rz bz mz (IntKind.i64.wrap (x0 + 1)) (IntKind.i64.wrap (x1 + 1)) (putV (N (4294967296) (hz (num (4294967296) (gBool ((r.getD x0.toNat []).getD 0 .top)) (gInts ((r.getD x0.toNat []).getD 1 .top)) + num (4294967296) (gBool ((rz.getD x1.toNat []).getD 0 .top)) (gInts ((rz.getD x1.toNat []).getD 1 .top))))) l0 (rd vs x0)) (putR (N (4294967296) (hz (num (4294967296) (gBool ((r.getD x0.toNat []).getD 0 .top)) (gInts ((r.getD x0.toNat []).getD 1 .top)) + num (4294967296) (gBool ((rz.getD x1.toNat []).getD 0 .top)) (gInts ((rz.getD x1.toNat []).getD 1 .top))))) r0 [.bool (sg (hz (num (4294967296) (gBool ((r.getD x0.toNat []).getD 0 .top)) (gInts ((r.getD x0.toNat []).getD 1 .top)) + num (4294967296) (gBool ((rz.getD x1.toNat []).getD 0 .top)) (gInts ((rz.getD x1.toNat []).getD 1 .top))))), .ints .u32 (lb (4294967296) (hz (num (4294967296) (gBool ((r.getD x0.toNat []).getD 0 .top)) (gInts ((r.getD x0.toNat []).getD 1 .top)) + num (4294967296) (gBool ((rz.getD x1.toNat []).getD 0 .top)) (gInts ((rz.getD x1.toNat []).getD 1 .top)))))])) else none) else none)) else none) else none) else none) else none) else none)) else none) else none))) else none) else none) else (bif x0 == (↑vs.length : Int) then (bif inB x1 vsz.length then (bif inB x1 rz.length then (bif etasOk [.bool false, .ints .u32 []] (rz.getD x1.toNat []) then (bif cn (4294967296) (gBool ((rz.getD x1.toNat []).getD 0 .top)) (gInts ((rz.getD x1.toNat []).getD 1 .top)) && decide (l0.length ≤ 100000) && decide (r0.length ≤ 100000) && true && true then some (.normal, st0 vs r b m vsz rz bz mz x0 (IntKind.i64.wrap (x1 + 1)) (putV (num (4294967296) (gBool ((rz.getD x1.toNat []).getD 0 .top)) (gInts ((rz.getD x1.toNat []).getD 1 .top))) l0 (rd vsz x1)) (putR (num (4294967296) (gBool ((rz.getD x1.toNat []).getD 0 .top)) (gInts ((rz.getD x1.toNat []).getD 1 .top))) r0 [.bool (gBool ((rz.getD x1.toNat []).getD 0 .top)), .ints .u32 (gInts ((rz.getD x1.toNat []).getD 1 .top))])) else none) else none) else none) else none) else (bif inB x1 vsz.length then (bif inB x0 vs.length then (bif decide (rd vsz x1 < rd vs x0) then (bif inB x1 vsz.length then (bif inB x1 rz.length then (bif etasOk [.bool false, .ints .u32 []] (rz.getD x1.toNat []) then (bif cn (4294967296) (gBool ((rz.getD x1.toNat []).getD 0 .top)) (gInts ((rz.getD x1.toNat []).getD 1 .top)) && decide (l0.length ≤ 100000) && decide (r0.length ≤ 100000) && true && true then some (.normal, st0 vs r b m vsz rz bz mz x0 (IntKind.i64.wrap (x1 + 1)) (putV (num (4294967296) (gBool ((rz.getD x1.toNat []).getD 0 .top)) (gInts ((rz.getD x1.toNat []).getD 1 .top))) l0 (rd vsz x1)) (putR (num (4294967296) (gBool ((rz.getD x1.toNat []).getD 0 .top)) (gInts ((rz.getD x1.toNat []).getD 1 .top))) r0 [.bool (gBool ((rz.getD x1.toNat []).getD 0 .top)), .ints .u32 (gInts ((rz.getD x1.toNat []).getD 1 .top))])) else none) else none) else none) else none) else (bif inB x0 r.length then (bif etasOk [.bool false, .ints .u32 []] (r.getD x0.toNat []) then (bif inB x1 rz.length then (bif etasOk [.bool false, .ints .u32 []] (rz.getD x1.toNat []) then (bif cn (4294967296) (gBool ((r.getD x0.toNat []).getD 0 .top)) (gInts ((r.getD x0.toNat []).getD 1 .top)) && cn (4294967296) (gBool ((rz.getD x1.toNat []).getD 0 .top)) (gInts ((rz.getD x1.toNat []).getD 1 .top)) && fits (num (4294967296) (gBool ((r.getD x0.toNat []).getD 0 .top)) (gInts ((r.getD x0.toNat []).getD 1 .top))) && fits (num (4294967296) (gBool ((rz.getD x1.toNat []).getD 0 .top)) (gInts ((rz.getD x1.toNat []).getD 1 .top))) then (bif he (num (4294967296) (gBool ((r.getD x0.toNat []).getD 0 .top)) (gInts ((r.getD x0.toNat []).getD 1 .top)) + num (4294967296) (gBool ((rz.getD x1.toNat []).getD 0 .top)) (gInts ((rz.getD x1.toNat []).getD 1 .top))) != 0 then some (.ret, st0x0 vs r b m vsz rz bz mz (he (num (4294967296) (gBool ((r.getD x0.toNat []).getD 0 .top)) (gInts ((r.getD x0.toNat []).getD 1 .top)) + num (4294967296) (gBool ((rz.getD x1.toNat []).getD 0 .top)) (gInts ((rz.getD x1.toNat []).getD 1 .top)))) x0 x1 l0 r0) else (bif inB x0 vs.length then (bif cn (4294967296) (sg (hz (num (4294967296) (gBool ((r.getD x0.toNat []).getD 0 .top)) (gInts ((r.getD x0.toNat []).getD 1 .top)) + num (4294967296) (gBool ((rz.getD x1.toNat []).getD 0 .top)) (gInts ((rz.getD x1.toNat []).getD 1 .top))))) (lb (4294967296) (hz (num (4294967296) (gBool ((r.getD x0.toNat []).getD 0 .top)) (gInts ((r.getD x0.toNat []).getD 1 .top)) + num (4294967296) (gBool ((rz.getD x1.toNat []).getD 0 .top)) (gInts ((rz.getD x1.toNat []).getD 1 .top))))) && decide (l0.length ≤ 100000) && decide (r0.length ≤ 100000) && true && true then some (.normal, st0 vs r b m vsz rz bz mz (IntKind.i64.wrap (x0 + 1)) (IntKind.i64.wrap (x1 + 1)) (putV (N (4294967296) (hz (num (4294967296) (gBool ((r.getD x0.toNat []).getD 0 .top)) (gInts ((r.getD x0.toNat []).getD 1 .top)) + num (4294967296) (gBool ((rz.getD x1.toNat []).getD 0 .top)) (gInts ((rz.getD x1.toNat []).getD 1 .top))))) l0 (rd vs x0)) (putR (N (4294967296) (hz (num (4294967296) (gBool ((r.getD x0.toNat []).getD 0 .top)) (gInts ((r.getD x0.toNat []).getD 1 .top)) + num (4294967296) (gBool ((rz.getD x1.toNat []).getD 0 .top)) (gInts ((rz.getD x1.toNat []).getD 1 .top))))) r0 [.bool (sg (hz (num (4294967296) (gBool ((r.getD x0.toNat []).getD 0 .top)) (gInts ((r.getD x0.toNat []).getD 1 .top)) + num (4294967296) (gBool ((rz.getD x1.toNat []).getD 0 .top)) (gInts ((rz.getD x1.toNat []).getD 1 .top))))), .ints .u32 (lb (4294967296) (hz (num (4294967296) (gBool ((r.getD x0.toNat []).getD 0 .top)) (gInts ((r.getD x0.toNat []).getD 1 .top)) + num (4294967296) (gBool ((rz.getD x1.toNat []).getD 0 .top)) (gInts ((rz.getD x1.toNat []).getD 1 .top)))))])) else none) else none)) else none) else none) else none) else none) else none)) else none) else none)))) else (bif decide (x1 < (↑vsz.length : Int)) then (bif x1 == (↑vsz.length : Int) then (bif inB x0 vs.length then (bif inB x0 r.length then (bif etasOk [.bool false, .ints .u32 []] (r.getD x0.toNat []) then (bif cn (4294967296) (gBool ((r.getD x0.toNat []).getD 0 .top)) (gInts ((r.getD x0.toNat []).getD 1 .top)) && decide (l0.length ≤ 100000) && decide (r0.length ≤ 100000) && true && true then some (.normal, st0 vs r b m vsz rz bz mz (IntKind.i64.wrap (x0 + 1)) x1 (putV (num (4294967296) (gBool ((r.getD x0.toNat []).getD 0 .top)) (gInts ((r.getD x0.toNat []).getD 1 .top))) l0 (rd vs x0)) (putR (num (4294967296) (gBool ((r.getD x0.toNat []).getD 0 .top)) (gInts ((r.getD x0.toNat []).getD 1 .top))) r0 [.bool (gBool ((r.getD x0.toNat []).getD 0 .top)), .ints .u32 (gInts ((r.getD x0.toNat []).getD 1 .top))])) else none) else none) else none) else none) else (bif decide (x0 < (↑vs.length : Int)) then (bif inB x0 vs.length then (bif inB x1 vsz.length then (bif decide (rd vs x0 < rd vsz x1) then (bif inB x0 vs.length then (bif inB x0 r.length then (bif etasOk [.bool false, .ints .u32 []] (r.getD x0.toNat []) then (bif cn (4294967296) (gBool ((r.getD x0.toNat []).getD 0 .top)) (gInts ((r.getD x0.toNat []).getD 1 .top)) && decide (l0.length ≤ 100000) && decide (r0.length ≤ 100000) && true && true then some (.normal, st0 vs r b m vsz rz bz mz (IntKind.i64.wrap (x0 + 1)) x1 (putV (num (4294967296) (gBool ((r.getD x0.toNat []).getD 0 .top)) (gInts ((r.getD x0.toNat []).getD 1 .top))) l0 (rd vs x0)) (putR (num (4294967296) (gBool ((r.getD x0.toNat []).getD 0 .top)) (gInts ((r.getD x0.toNat []).getD 1 .top))) r0 [.bool (gBool ((r.getD x0.toNat []).getD 0 .top)), .ints .u32 (gInts ((r.getD x0.toNat []).getD 1 .top))])) else none) else none) else none) else none) else (bif x0 == (↑vs.length : Int) then (bif inB x1 vsz.length then (bif inB x1 rz.length then (bif etasOk [.bool false, .ints .u32 []] (rz.getD x1.toNat []) then (bif cn (4294967296) (gBool ((rz.getD x1.toNat []).getD 0 .top)) (gInts ((rz.getD x1.toNat []).getD 1 .top)) && decide (l0.length ≤ 100000) && decide (r0.length ≤ 100000) && true && true then some (.normal, st0 vs r b m vsz rz bz mz x0 (IntKind.i64.wrap (x1 + 1)) (putV (num (4294967296) (gBool ((rz.getD x1.toNat []).getD 0 .top)) (gInts ((rz.getD x1.toNat []).getD 1 .top))) l0 (rd vsz x1)) (putR (num (4294967296) (gBool ((rz.getD x1.toNat []).getD 0 .top)) (gInts ((rz.getD x1.toNat []).getD 1 .top))) r0 [.bool (gBool ((rz.getD x1.toNat []).getD 0 .top)), .ints .u32 (gInts ((rz.getD x1.toNat []).getD 1 .top))])) else none) else none) else none) else none) else (bif inB x1 vsz.length then (bif inB x0 vs.length then (bif decide (rd vsz x1 < rd vs x0) then (bif inB x1 vsz.length then (bif inB x1 rz.length then (bif etasOk [.bool false, .ints .u32 []] (rz.getD x1.toNat []) then (bif cn (4294967296) (gBool ((rz.getD x1.toNat []).getD 0 .top)) (gInts ((rz.getD x1.toNat []).getD 1 .top)) && decide (l0.length ≤ 100000) && decide (r0.length ≤ 100000) && true && true then some (.normal, st0 vs r b m vsz rz bz mz x0 (IntKind.i64.wrap (x1 + 1)) (putV (num (4294967296) (gBool ((rz.getD x1.toNat []).getD 0 .top)) (gInts ((rz.getD x1.toNat []).getD 1 .top))) l0 (rd vsz x1)) (putR (num (4294967296) (gBool ((rz.getD x1.toNat []).getD 0 .top)) (gInts ((rz.getD x1.toNat []).getD 1 .top))) r0 [.bool (gBool ((rz.getD x1.toNat []).getD 0 .top)), .ints .u32 (gInts ((rz.getD x1.toNat []).getD 1 .top))])) else none) else none) else none) else none) else (bif inB x0 r.length then (bif etasOk [.bool false, .ints .u32 []] (r.getD x0.toNat []) then (bif inB x1 rz.length then (bif etasOk [.bool false, .ints .u32 []] (rz.getD x1.toNat []) then (bif cn (4294967296) (gBool ((r.getD x0.toNat []).getD 0 .top)) (gInts ((r.getD x0.toNat []).getD 1 .top)) && cn (4294967296) (gBool ((rz.getD x1.toNat []).getD 0 .top)) (gInts ((rz.getD x1.toNat []).getD 1 .top)) && fits (num (4294967296) (gBool ((r.getD x0.toNat []).getD 0 .top)) (gInts ((r.getD x0.toNat []).getD 1 .top))) && fits (num (4294967296) (gBool ((rz.getD x1.toNat []).getD 0 .top)) (gInts ((rz.getD x1.toNat []).getD 1 .top))) then (bif he (num (4294967296) (gBool ((r.getD x0.toNat []).getD 0 .top)) (gInts ((r.getD x0.toNat []).getD 1 .top)) + num (4294967296) (gBool ((rz.getD x1.toNat []).getD 0 .top)) (gInts ((rz.getD x1.toNat []).getD 1 .top))) != 0 then some (.ret, st0x0 vs r b m vsz rz bz mz (he (num (4294967296) (gBool ((r.getD x0.toNat []).getD 0 .top)) (gInts ((r.getD x0.toNat []).getD 1 .top)) + num (4294967296) (gBool ((rz.getD x1.toNat []).getD 0 .top)) (gInts ((rz.getD x1.toNat []).getD 1 .top)))) x0 x1 l0 r0) else (bif inB x0 vs.length then (bif cn (4294967296) (sg (hz (num (4294967296) (gBool ((r.getD x0.toNat []).getD 0 .top)) (gInts ((r.getD x0.toNat []).getD 1 .top)) + num (4294967296) (gBool ((rz.getD x1.toNat []).getD 0 .top)) (gInts ((rz.getD x1.toNat []).getD 1 .top))))) (lb (4294967296) (hz (num (4294967296) (gBool ((r.getD x0.toNat []).getD 0 .top)) (gInts ((r.getD x0.toNat []).getD 1 .top)) + num (4294967296) (gBool ((rz.getD x1.toNat []).getD 0 .top)) (gInts ((rz.getD x1.toNat []).getD 1 .top))))) && decide (l0.length ≤ 100000) && decide (r0.length ≤ 100000) && true && true then some (.normal, st0 vs r b m vsz rz bz mz (IntKind.i64.wrap (x0 + 1)) (IntKind.i64.wrap (x1 + 1)) (putV (N (4294967296) (hz (num (4294967296) (gBool ((r.getD x0.toNat []).getD 0 .top)) (gInts ((r.getD x0.toNat []).getD 1 .top)) + num (4294967296) (gBool ((rz.getD x1.toNat []).getD 0 .top)) (gInts ((rz.getD x1.toNat []).getD 1 .top))))) l0 (rd vs x0)) (putR (N (4294967296) (hz (num (4294967296) (gBool ((r.getD x0.toNat []).getD 0 .top)) (gInts ((r.getD x0.toNat []).getD 1 .top)) + num (4294967296) (gBool ((rz.getD x1.toNat []).getD 0 .top)) (gInts ((rz.getD x1.toNat []).getD 1 .top))))) r0 [.bool (sg (hz (num (4294967296) (gBool ((r.getD x0.toNat []).getD 0 .top)) (gInts ((r.getD x0.toNat []).getD 1 .top)) + num (4294967296) (gBool ((rz.getD x1.toNat []).getD 0 .top)) (gInts ((rz.getD x1.toNat []).getD 1 .top))))), .ints .u32 (lb (4294967296) (hz (num (4294967296) (gBool ((r.getD x0.toNat []).getD 0 .top)) (gInts ((r.getD x0.toNat []).getD 1 .top)) + num (4294967296) (gBool ((rz.getD x1.toNat []).getD 0 .top)) (gInts ((rz.getD x1.toNat []).getD 1 .top)))))])) else none) else none)) else none) else none) else none) else none) else none)) else none) else none))) else none) else none) else (bif x0 == (↑vs.length : Int) then (bif inB x1 vsz.length then (bif inB x1 rz.length then (bif etasOk [.bool false, .ints .u32 []] (rz.getD x1.toNat []) then (bif cn (4294967296) (gBool ((rz.getD x1.toNat []).getD 0 .top)) (gInts ((rz.getD x1.toNat []).getD 1 .top)) && decide (l0.length ≤ 100000) && decide (r0.length ≤ 100000) && true && true then some (.normal, st0 vs r b m vsz rz bz mz x0 (IntKind.i64.wrap (x1 + 1)) (putV (num (4294967296) (gBool ((rz.getD x1.toNat []).getD 0 .top)) (gInts ((rz.getD x1.toNat []).getD 1 .top))) l0 (rd vsz x1)) (putR (num (4294967296) (gBool ((rz.getD x1.toNat []).getD 0 .top)) (gInts ((rz.getD x1.toNat []).getD 1 .top))) r0 [.bool (gBool ((rz.getD x1.toNat []).getD 0 .top)), .ints .u32 (gInts ((rz.getD x1.toNat []).getD 1 .top))])) else none) else none) else none) else none) else (bif inB x1 vsz.length then (bif inB x0 vs.length then (bif decide (rd vsz x1 < rd vs x0) then (bif inB x1 vsz.length then (bif inB x1 rz.length then (bif etasOk [.bool false, .ints .u32 []] (rz.getD x1.toNat []) then (bif cn (4294967296) (gBool ((rz.getD x1.toNat []).getD 0 .top)) (gInts ((rz.getD x1.toNat []).getD 1 .top)) && decide (l0.length ≤ 100000) && decide (r0.length ≤ 100000) && true && true then some (.normal, st0 vs r b m vsz rz bz mz x0 (IntKind.i64.wrap (x1 + 1)) (putV (num (4294967296) (gBool ((rz.getD x1.toNat []).getD 0 .top)) (gInts ((rz.getD x1.toNat []).getD 1 .top))) l0 (rd vsz x1)) (putR (num (4294967296) (gBool ((rz.getD x1.toNat []).getD 0 .top)) (gInts ((rz.getD x1.toNat []).getD 1 .top))) r0 [.bool (gBool ((rz.getD x1.toNat []).getD 0 .top)), .ints .u32 (gInts ((rz.getD x1.toNat []).getD 1 .top))])) else none) else none) else none) else none) else (bif inB x0 r.length then (bif etasOk [.bool false, .ints .u32 []] (r.getD x0.toNat []) then (bif inB x1 rz.length then (bif etasOk [.bool false, .ints .u32 []] (rz.getD x1.toNat []) then (bif cn (4294967296) (gBool ((r.getD x0.toNat []).getD 0 .top)) (gInts ((r.getD x0.toNat []).getD 1 .top)) && cn (4294967296) (gBool ((rz.getD x1.toNat []).getD 0 .top)) (gInts ((rz.getD x1.toNat []).getD 1 .top)) && fits (num (4294967296) (gBool ((r.getD x0.toNat []).getD 0 .top)) (gInts ((r.getD x0.toNat []).getD 1 .top))) && fits (num (4294967296) (gBool ((rz.getD x1.toNat []).getD 0 .top)) (gInts ((rz.getD x1.toNat []).getD 1 .top))) then (bif he (num (4294967296) (gBool ((r.getD x0.toNat []).getD 0 .top)) (gInts ((r.getD x0.toNat []).getD 1 .top)) + num (4294967296) (gBool ((rz.getD x1.toNat []).getD 0 .top)) (gInts ((rz.getD x1.toNat []).getD 1 .top))) != 0 then some (.ret, st0x0 vs r b m vsz rz bz mz (he (num (4294967296) (gBool ((r.getD x0.toNat []).getD 0 .top)) (gInts ((r.getD x0.toNat []).getD 1 .top)) + num (4294967296) (gBool ((rz.getD x1.toNat []).getD 0 .top)) (gInts ((rz.getD x1.toNat []).getD 1 .top)))) x0 x1 l0 r0) else (bif inB x0 vs.length then (bif cn (4294967296) (sg (hz (num (4294967296) (gBool ((r.getD x0.toNat []).getD 0 .top)) (gInts ((r.getD x0.toNat []).getD 1 .top)) + num (4294967296) (gBool ((rz.getD x1.toNat []).getD 0 .top)) (gInts ((rz.getD x1.toNat []).getD 1 .top))))) (lb (4294967296) (hz (num (4294967296) (gBool ((r.getD x0.toNat []).getD 0 .top)) (gInts ((r.getD x0.toNat []).getD 1 .top)) + num (4294967296) (gBool ((rz.getD x1.toNat []).getD 0 .top)) (gInts ((rz.getD x1.toNat []).getD 1 .top))))) && decide (l0.length ≤ 100000) && decide (r0.length ≤ 100000) && true && true then some (.normal, st0 vs r b m vsz rz bz mz (IntKind.i64.wrap (x0 + 1)) (IntKind.i64.wrap (x1 + 1)) (putV (N (4294967296) (hz (num (4294967296) (gBool ((r.getD x0.toNat []).getD 0 .top)) (gInts ((r.getD x0.toNat []).getD 1 .top)) + num (4294967296) (gBool ((rz.getD x1.toNat []).getD 0 .top)) (gInts ((rz.getD x1.toNat []).getD 1 .top))))) l0 (rd vs x0)) (putR (N (4294967296) (hz (num (4294967296) (gBool ((r.getD x0.toNat []).getD 0 .top)) (gInts ((r.getD x0.toNat []).getD 1 .top)) + num (4294967296) (gBool ((rz.getD x1.toNat []).getD 0 .top)) (gInts ((rz.getD x1.toNat []).getD 1 .top))))) r0 [.bool (sg (hz (num (4294967296) (gBool ((r.getD x0.toNat []).getD 0 .top)) (gInts ((r.getD x0.toNat []).getD 1 .top)) + num (4294967296) (gBool ((rz.getD x1.toNat []).getD 0 .top)) (gInts ((rz.getD x1.toNat []).getD 1 .top))))), .ints .u32 (lb (4294967296) (hz (num (4294967296) (gBool ((r.getD x0.toNat []).getD 0 .top)) (gInts ((r.getD x0.toNat []).getD 1 .top)) + num (4294967296) (gBool ((rz.getD x1.toNat []).getD 0 .top)) (gInts ((rz.getD x1.toNat []).getD 1 .top)))))])) else none) else none)) else none) else none) else none) else none) else none)) else none) else none)))) else some (.exit 0, st0 vs r b m vsz rz bz mz x0 x1 l0 r0))) := by kernel_rfl
-- loop 0 ends ret st0x0 vs r b m vsz rz bz mz x2 x0 x1 l0 r0
-- loop 0 ends exit0 st0 vs r b m vsz rz bz mz x0 x1 l0 r0
theorem rest_0 (vs : List Int) (r : List (List AV)) (b : Bool) (m : List Int) (vsz : List Int) (rz : List (List AV)) (bz : Bool) (mz : List Int) (x3 : Int) (x4 : Int) (x5 : Int) (l1 : List Int) (r1 : List (List AV)) : runT T orc (tabOf T orc [(6, 1763146263722139015387046794638778454507682840383767806305557027341505186273382073010780345587440650389762056797356181821709806360394890272848033735547697980202627821294, .ret, st0x0 vs r b m vsz rz bz mz x3 x4 x5 l1 r1)]) Try.f46 [.agg [.ints .i64 vs, .rows 2 r, .bool b, .ints .u32 m], .agg [.ints .i64 vsz, .rows 2 rz, .bool bz, .ints .u32 mz]] =
    (bif cn (4294967296) b m && cn (4294967296) bz mz && fits (num (4294967296) b m) && fits (num (4294967296) bz mz) then (bif he (num (4294967296) b m + num (4294967296) bz mz) != 0 then some (.val (.tup [.agg [.ints .i64 [], .rows 2 [], .bool false, .ints .u32 []], .int .i64 (he (num (4294967296) b m + num (4294967296) bz mz))])) else (bif cdec (Ends T orc L0 D0 (st0 vs r b m vsz rz bz mz (0) (0) ([]) ([])) .ret (st0x0 vs r b m vsz rz bz mz x3 x4 x5 l1 r1)) then some (.val (.tup [.agg [.ints .i64 [], .rows 2 [], .bool false, .ints .u32 []], .int .i64 x3])) else none)) else none) := by kernel_rfl
theorem rest_1 (vs : List Int) (r : List (List AV)) (b : Bool) (m : List Int) (vsz : List Int) (rz : List (List AV)) (bz : Bool) (mz : List Int) (l2 : List Int) (r2 : List (List AV)) (x6 : Int) (x7 : Int) : runT T orc (tabOf T orc [(6, 1763146263722139015387046794638778454507682840383767806305557027341505186273382073010780345587440650389762056797356181821709806360394890272848033735547697980202627821294, .exit 0, st0 vs r b m vsz rz bz mz x6 x7 l2 r2)]) Try.f46 [.agg [.ints .i64 vs, .rows 2 r, .bool b, .ints .u32 m], .agg [.ints .i64 vsz, .rows 2 rz, .bool bz, .ints .u32 mz]] =
    (bif cn (4294967296) b m && cn (4294967296) bz mz && fits (num (4294967296) b m) && fits (num (4294967296) bz mz) then (bif he (num (4294967296) b m + num (4294967296) bz mz) != 0 then some (.val (.tup [.agg [.ints .i64 [], .rows 2 [], .bool false, .ints .u32 []], .int .i64 (he (num (4294967296) b m + num (4294967296) bz mz))])) else (bif cdec (Ends T orc L0 D0 (st0 vs r b m vsz rz bz mz (0) (0) ([]) ([])) (.exit 0) (st0 vs r b m vsz rz bz mz x6 x7 l2 r2)) then some (.val (.tup [.agg [.ints .i64 l2, .rows 2 r2, .bool (sg (hz (num (4294967296) b m + num (4294967296) bz mz))), .ints .u32 (lb (4294967296) (hz (num (4294967296) b m + num (4294967296) bz mz)))], .int .i64 (0)])) else none)) else none) := by kernel_rfl
end NAdd
end
end Go.Abs
end
section
/- What linear's functions answer: the sum of two terms. -/
namespace Go.Abs
open Go.Proofs Go.Dig
theorem beqN {i n : Nat} (h : i < n) : ((i : Int) == (n : Int)) = false := beq_eq_false_iff_ne.2 (by omega)
theorem beqNN {i n : Nat} (h : i = n) : ((i : Int) == (n : Int)) = true := beq_iff_eq.2 (by omega)
namespace NAdd
/-- The sum of two lists' first parts. -/
noncomputable abbrev sofar (l m : List (Int × Int)) (i k : Nat) : List (Int × Int) := ofF (fun v => cf (l.take i) v + cf (m.take k) v)
theorem sofar_comm (l m : List (Int × Int)) (i k : Nat) : sofar l m i k = sofar m l k i := ofF_congr (fun v _ _ => Int.add_comm _ _)
structure Inv (l m : List (Int × Int)) (i k : Nat) : Prop where
  li : i ≤ l.length
  lk : k ≤ m.length
  a : ∀ p ∈ m.take k, ∀ h : i < l.length, p.1 < l[i].1
  b : ∀ p ∈ l.take i, ∀ h : k < m.length, p.1 < m[k].1
  f : ∀ v, fits (cf (l.take i) v + cf (m.take k) v) = true
theorem Inv.symm {l m : List (Int × Int)} {i k : Nat} (h : Inv l m i k) : Inv m l k i := ⟨h.lk, h.li, h.b, h.a, fun v => by rw [Int.add_comm]; exact h.f v⟩
theorem take_mem {l : List (Int × Int)} {i : Nat} (hi : i < l.length) {p : Int × Int} (h : p ∈ l.take (i + 1)) : p ∈ l.take i ∨ p = l[i] := by
  rw [List.take_add_one, List.getElem?_eq_getElem hi] at h
  rcases List.mem_append.1 h with h | h
  · exact .inl h
  · exact .inr (List.mem_singleton.1 h)
theorem left {l m : List (Int × Int)} (hl : okL l) (hm : okL m) {i k : Nat} (h : Inv l m i k) (hi : i < l.length) (hk : ∀ h : k < m.length, l[i].1 < m[k].1) : putL l[i].2 (sofar l m i k) l[i].1 = sofar l m (i + 1) k ∧ Inv l m (i + 1) k := by
  have h0 : ∀ w, l[i].1 ≤ w → cf (m.take k) w = 0 := fun w hw => cf_none (fun p hp hpv => by have := h.a p hp hi; omega)
  refine ⟨putL_snoc (okL_in hl _ (List.getElem_mem hi)) (fun w h1 h2 => ?_) (fun w h1 h2 => ?_), ⟨hi, h.lk, fun p hp h2 => ?_, fun p hp h2 => ?_, fun v => ?_⟩⟩
  · rw [cf_take_ge (okL_asc hl) hi h1, h0 w h1]; rfl
  · rw [cf_take_succ (okL_asc hl) hi]
    by_cases hw : w = l[i].1
    · rw [if_pos hw, if_pos hw, h0 w (by omega), Int.add_zero]
    · rw [if_neg hw, if_neg hw]
  · have := h.a p hp hi
    have := List.pairwise_iff_getElem.1 (okL_asc hl) i (i + 1) hi h2 (by omega)
    omega
  · rcases take_mem hi hp with hp | rfl
    · exact h.b p hp h2
    · exact hk h2
  · rw [cf_take_succ (okL_asc hl) hi]
    by_cases hw : v = l[i].1
    · rw [if_pos hw, h0 v (by omega), Int.add_zero]
      exact okL_mem hl (List.getElem_mem hi)
    · rw [if_neg hw]; exact h.f v
theorem right {l m : List (Int × Int)} (hl : okL l) (hm : okL m) {i k : Nat} (h : Inv l m i k) (hk : k < m.length) (hi : ∀ h : i < l.length, m[k].1 < l[i].1) : putL m[k].2 (sofar l m i k) m[k].1 = sofar l m i (k + 1) ∧ Inv l m i (k + 1) := by
  obtain ⟨h1, h2⟩ := left hm hl h.symm hk hi
  rw [sofar_comm l m, sofar_comm l m]
  exact ⟨h1, h2.symm⟩
theorem both {l m : List (Int × Int)} (hl : okL l) (hm : okL m) {i k : Nat} (h : Inv l m i k) (hi : i < l.length) (hk : k < m.length) (he : l[i].1 = m[k].1) (hf : fits (l[i].2 + m[k].2) = true) : putL (l[i].2 + m[k].2) (sofar l m i k) l[i].1 = sofar l m (i + 1) (k + 1) ∧ Inv l m (i + 1) (k + 1) := by
  have h0 : ∀ w, l[i].1 ≤ w → cf (m.take k) w = 0 := fun w hw => cf_none (fun p hp hpv => by have := h.a p hp hi; omega)
  have hA : ∀ v, cf (l.take (i + 1)) v + cf (m.take (k + 1)) v = if v = l[i].1 then l[i].2 + m[k].2 else cf (l.take i) v + cf (m.take k) v := fun v => by
    rw [cf_take_succ (okL_asc hl) hi, cf_take_succ (okL_asc hm) hk]
    by_cases hw : v = l[i].1
    · rw [if_pos hw, if_pos (by omega), if_pos hw]
    · rw [if_neg hw, if_neg (by omega), if_neg hw]
  refine ⟨putL_snoc (okL_in hl _ (List.getElem_mem hi)) (fun w h1 h2 => ?_) (fun w h1 h2 => hA w), ⟨hi, hk, fun p hp h2 => ?_, fun p hp h2 => ?_, fun v => ?_⟩⟩
  · rw [cf_take_ge (okL_asc hl) hi h1, h0 w h1]; rfl
  · have h3 := List.pairwise_iff_getElem.1 (okL_asc hl) i (i + 1) hi h2 (by omega)
    rcases take_mem hk hp with hp | rfl
    · have := h.a p hp hi; omega
    · omega
  · have h3 := List.pairwise_iff_getElem.1 (okL_asc hm) k (k + 1) hk h2 (by omega)
    rcases take_mem hi hp with hp | rfl
    · have := h.b p hp hk; omega
    · omega
  · rw [hA]
    split
    · exact hf
    · exact h.f v
def Post (l m : List (Int × Int)) (b : Bool) (bl : List Int) (bz : Bool) (mz : List Int) (e : Ex) (S1 : St) : Prop :=
  (e = .exit 0 ∧ (∀ v, fits (cf l v + cf m v) = true) ∧ ∃ x y, S1 = st0 (l.map (fun p => p.1)) (l.map cL) b bl (m.map (fun p => p.1)) (m.map cL) bz mz x y ((ofF (fun v => cf l v + cf m v)).map (fun p => p.1)) ((ofF (fun v => cf l v + cf m v)).map cL)) ∨
  (e = .ret ∧ (¬ ∀ v, fits (cf l v + cf m v) = true) ∧ ∃ x y l' r', S1 = st0x0 (l.map (fun p => p.1)) (l.map cL) b bl (m.map (fun p => p.1)) (m.map cL) bz mz 11 x y l' r')
theorem loop (l m : List (Int × Int)) (b : Bool) (bl : List Int) (bz : Bool) (mz : List Int) (hl : okL l) (hm : okL m) : ∃ e S1, Ends T orc L0 D0 (st0 (l.map (fun p => p.1)) (l.map cL) b bl (m.map (fun p => p.1)) (m.map cL) bz mz 0 0 [] []) e S1 ∧ Post l m b bl bz mz e S1 := by
  have hz : sofar l m 0 0 = [] := by
    refine (ofF_congr (fun v _ _ => ?_)).trans ofF_zero
    rw [List.take_zero, List.take_zero]; rfl
  have key : ∃ e S1, Ends T orc L0 D0 (st0 (l.map (fun p => p.1)) (l.map cL) b bl (m.map (fun p => p.1)) (m.map cL) bz mz ((0 : Nat) : Int) ((0 : Nat) : Int) ((sofar l m 0 0).map (fun p => p.1)) ((sofar l m 0 0).map cL)) e S1 ∧ Post l m b bl bz mz e S1 := by
    refine loop_inv2 (fun (i k : Nat) => st0 (l.map (fun p => p.1)) (l.map cL) b bl (m.map (fun p => p.1)) (m.map cL) bz mz i k ((sofar l m i k).map (fun p => p.1)) ((sofar l m i k).map cL)) (fun i k => Inv l m i k) (fun i k => (l.length - i) + (m.length - k)) (Post l m b bl bz mz) isL0 ?_ 0 0
      ⟨Nat.zero_le _, Nat.zero_le _, fun p hp => (by rw [List.take_zero] at hp; cases hp), fun p hp => (by rw [List.take_zero] at hp; cases hp), fun v => by rw [List.take_zero, List.take_zero]; exact fits0⟩
    intro i k h
    have hll := okL_len hl
    have hml := okL_len hm
    have hik := h.li
    have hkk := h.lk
    have ho : (sofar l m i k).length ≤ 4096 := ofF_len _
    have hd : decide ((sofar l m i k).length ≤ 100000) = true := decide_eq_true (by omega)
    have si := wi_succ (show i < 4611686018427387904 by omega)
    have sk := wi_succ (show k < 4611686018427387904 by omega)
    refine ⟨noTab, noTab_all, lands_of (round0 ..) ?_⟩
    rw [List.length_map, List.length_map, List.length_map, List.length_map]
    by_cases hi : i < l.length
    · have hfi := okL_mem hl (List.getElem_mem hi)
      have goL : (∀ h : k < m.length, l[i].1 < m[k].1) → Turns2 (fun (i k : Nat) => st0 (l.map (fun p => p.1)) (l.map cL) b bl (m.map (fun p => p.1)) (m.map cL) bz mz i k ((sofar l m i k).map (fun p => p.1)) ((sofar l m i k).map cL)) (fun i k => Inv l m i k) (fun i k => (l.length - i) + (m.length - k)) (Post l m b bl bz mz) ((l.length - i) + (m.length - k)) .normal (st0 (l.map (fun p => p.1)) (l.map cL) b bl (m.map (fun p => p.1)) (m.map cL) bz mz ((i + 1 : Nat) : Int) k ((putL l[i].2 (sofar l m i k) l[i].1).map (fun p => p.1)) ((putL l[i].2 (sofar l m i k) l[i].1).map cL)) := fun hlt => by
        obtain ⟨h1, h2⟩ := left hl hm h hi hlt
        rw [h1]
        refine ⟨i + 1, k, rfl, h2, ?_⟩
        show (l.length - (i + 1)) + (m.length - k) < _
        omega
      rw [ltN hi, inN hi, rdV hi, getL hi]
      by_cases hk : k < m.length
      · have hfk := okL_mem hm (List.getElem_mem hk)
        rw [beqN hk, beqN hi, inN hk, rdV hk, getL hk]
        by_cases h1 : l[i].1 < m[k].1
        · rw [decide_eq_true h1]
          simp only [cL0, cL1, cLeta, cnW_fits hfi, num_lbW, hd, List.length_map, inN hi, cond_true, cond_false, Bool.and_self, si, lands_some]
          rw [putV_map, putR_map l[i].2 _ l[i].1]
          exact goL (fun _ => h1)
        · rw [decide_eq_false h1]
          by_cases h2 : m[k].1 < l[i].1
          · rw [decide_eq_true h2]
            simp only [cL0, cL1, cLeta, cnW_fits hfk, num_lbW, hd, List.length_map, inN hi, inN hk, cond_true, cond_false, Bool.and_self, sk, lands_some, Turns2]
            obtain ⟨h3, h4⟩ := right hl hm h hk (fun _ => h2)
            rw [putV_map, putR_map m[k].2 _ m[k].1, h3]
            exact ⟨i, k + 1, rfl, h4, by omega⟩
          · rw [decide_eq_false h2]
            have he : l[i].1 = m[k].1 := by omega
            simp only [cL0, cL1, cLeta, cnW_fits hfk, cnW_fits hfi, num_lbW, hfi, hfk, hd, List.length_map, inN hi, inN hk, cond_true, cond_false, Bool.and_self, N_eq]
            cases hf : fits (l[i].2 + m[k].2) with
            | false =>
              rw [ne0_of_big hf, he_big hf]
              simp only [cond_true, lands_some, Turns2]
              refine .inr ⟨rfl, fun hall => ?_, i, k, _, _, rfl⟩
              have := hall l[i].1
              rw [cf_mem (okL_asc hl) (List.getElem_mem hi), he, cf_mem (okL_asc hm) (List.getElem_mem hk), hf] at this
              cases this
            | true =>
              rw [eq0_of_fit hf, hz_fit hf, cnW_fits hf]
              simp only [cond_true, cond_false, Bool.and_self, hd, List.length_map, si, sk, lands_some, Turns2]
              obtain ⟨h3, h4⟩ := both hl hm h hi hk he hf
              rw [putV_map, putR_map (l[i].2 + m[k].2) _ l[i].1, h3]
              exact ⟨i + 1, k + 1, rfl, h4, by omega⟩
      · rw [beqNN (show k = m.length by omega)]
        simp only [cL0, cL1, cLeta, cnW_fits hfi, num_lbW, hd, List.length_map, inN hi, cond_true, cond_false, Bool.and_self, si, lands_some]
        rw [putV_map, putR_map l[i].2 _ l[i].1]
        exact goL (fun h => absurd h hk)
    · rw [ltN' hi, beqNN (show i = l.length by omega)]
      by_cases hk : k < m.length
      · have hfk := okL_mem hm (List.getElem_mem hk)
        rw [ltN hk, beqN hk, inN hk, rdV hk, getL hk]
        simp only [cL0, cL1, cLeta, cnW_fits hfk, num_lbW, hd, List.length_map, inN hk, cond_true, cond_false, Bool.and_self, sk, lands_some, Turns2]
        obtain ⟨h3, h4⟩ := right hl hm h hk (fun h => absurd h hi)
        rw [putV_map, putR_map m[k].2 _ m[k].1, h3]
        exact ⟨i, k + 1, rfl, h4, by omega⟩
      · rw [ltN' hk]
        simp only [cond_false, lands_some, Turns2]
        have e1 : l.take i = l := List.take_of_length_le (by omega)
        have e2 : m.take k = m := List.take_of_length_le (by omega)
        have hf := h.f
        unfold sofar
        rw [e1, e2] at hf ⊢
        exact .inl ⟨rfl, hf, i, k, rfl⟩
  rw [hz] at key
  exact key
end NAdd
theorem meets_nadd : Meets Try.prog 46 ansLAdd := by
  refine meets_fn (orc_ok (l := NAdd.ans) ⟨meets_add, meets_lput, trivial⟩) Try.f46 Try.func46 (by kernel_rfl) (fun args r h => ?_)
  unfold ansLAdd at h
  split at h
  · rename_i vs r b m vsz rz bz mz
    simp only [Option.some.injEq, Prod.mk.injEq, Bool.and_eq_true] at h
    obtain ⟨⟨h1, h2⟩, rfl⟩ := h
    obtain ⟨l, c, k1, k2, rfl, rfl, rfl, rfl⟩ := isT_iff.1 h1
    obtain ⟨k, d, k3, k4, rfl, rfl, rfl, rfl⟩ := isT_iff.1 h2
    rw [dl_map, dl_map, num_lbW, num_lbW]
    obtain ⟨e1, S1, hE1, hP⟩ := NAdd.loop l k (sg c) (lb 4294967296 c) (sg d) (lb 4294967296 d) k1 k3
    rcases hP with ⟨rfl, hall, x, y, rfl⟩ | ⟨rfl, hall, x, y, l', r', rfl⟩
    · refine ⟨rfl, _, tabOf_all _, (NAdd.rest_1 _ _ _ _ _ _ _ _ ((ofF (fun v => cf l v + cf k v)).map (fun p => p.1)) ((ofF (fun v => cf l v + cf k v)).map cL) x y).trans ?_⟩
      rw [num_lbW, num_lbW, cnW_fits k2, cnW_fits k4, k2, k4]
      rcases addE_cases l k c d with ⟨e1, e2, e3, e4, _⟩ | ⟨e1, e2, e3, e4⟩
      · rw [e1, e2, e3, eq0_of_fit e4, hz_fit e4, cdec_true hE1, lvs_eq, lrs_eq]
        rfl
      · have hcb : fits (c + d) = false := by rw [Bool.eq_false_iff]; exact fun hh => e4 ⟨hh, hall⟩
        rw [e1, e2, e3, ne0_of_big hcb, he_big hcb, lvs_nil, lrs_nil]
        rfl
    · refine ⟨rfl, _, tabOf_all _, (NAdd.rest_0 _ _ _ _ _ _ _ _ 11 x y l' r').trans ?_⟩
      rw [num_lbW, num_lbW, cnW_fits k2, cnW_fits k4, k2, k4]
      rcases addE_cases l k c d with ⟨e1, e2, e3, e4, e5⟩ | ⟨e1, e2, e3, e4⟩
      · exact absurd e5 hall
      · rw [e1, e2, e3, lvs_nil, lrs_nil, cdec_true hE1]
        cases hcb : fits (c + d) with
        | false => rw [ne0_of_big hcb, he_big hcb]; rfl
        | true => rw [eq0_of_fit hcb]; rfl
  · cases h
end Go.Abs
end
section
/- The statements of layer 3: what their helpers answer. -/
namespace Go.Abs
open Go.Proofs Go.Dig
theorem cut_le {s : ByteArray} (h : ¬ s.size > 400) : cut 400 s = s := by unfold cut; rw [decide_eq_false h]; rfl
theorem cut_gt {s : ByteArray} (h : s.size > 400) : cut 400 s = s.extract 0 400 := by unfold cut; rw [decide_eq_true h]; rfl
theorem cut_sz (s : ByteArray) : (cut 400 s).size ≤ 400 := by
  by_cases h : s.size > 400
  · rw [cut_gt h, ByteArray.size_extract]; omega
  · rw [cut_le h]; omega
theorem room24 {l : List (List AV)} (h : l.length ≤ 100000) : (true && decide (l.length * 24 ≤ 140737488355328)) = true := by
  rw [Bool.true_and, decide_eq_true_eq]; omega
abbrev rowOf (p : Int × ByteArray) : Int × ByteArray := (p.1, cut 400 p.2)
namespace JRow
theorem loop (ms : List (Int × ByteArray)) (s : ByteArray) : ∃ e S1, Ends T orc L0 D0 (st0 (ms.map cP) s 0 []) e S1 ∧ e = .exit 0 ∧ ∃ x, S1 = st0 (ms.map cP) s x (((ms.take 12).map rowOf).map cP) := by
  have key : ∃ e S1, Ends T orc L0 D0 (st0 (ms.map cP) s ((0 : Nat) : Int) (((ms.take 0).map rowOf).map cP)) e S1 ∧ e = .exit 0 ∧ ∃ x, S1 = st0 (ms.map cP) s x (((ms.take 12).map rowOf).map cP) := by
    refine loop_inv1 (fun (i : Nat) => st0 (ms.map cP) s i (((ms.take i).map rowOf).map cP)) (fun i => i ≤ ms.length ∧ i ≤ 12) (fun i => 12 - i)
      (fun e S1 => e = .exit 0 ∧ ∃ x, S1 = st0 (ms.map cP) s x (((ms.take 12).map rowOf).map cP)) isL0 ?_ 0 ⟨Nat.zero_le _, by omega⟩
    intro i ⟨h1, h2⟩
    refine ⟨noTab, noTab_all, lands_of (round0 ..) ?_⟩
    rw [List.length_map]
    by_cases hi : i < ms.length
    · by_cases hj : i < 12
      · have e : ((ms.take i).map rowOf).map cP ++ [cP (rowOf ms[i])] = ((ms.take (i + 1)).map rowOf).map cP := by
          rw [List.take_add_one, List.getElem?_eq_getElem hi, List.map_append, List.map_append]; rfl
        have hr : (true && decide ((((ms.take (i + 1)).map rowOf).map cP).length * 24 ≤ 140737488355328)) = true := room24 (by rw [List.length_map, List.length_map, List.length_take]; omega)
        have fin : Turns1 (fun (i : Nat) => st0 (ms.map cP) s i (((ms.take i).map rowOf).map cP)) (fun i => i ≤ ms.length ∧ i ≤ 12) (fun i => 12 - i) (fun e S1 => e = .exit 0 ∧ ∃ x, S1 = st0 (ms.map cP) s x (((ms.take 12).map rowOf).map cP)) (12 - i) .normal (st0 (ms.map cP) s ((i + 1 : Nat) : Int) (((ms.take (i + 1)).map rowOf).map cP)) := ⟨i + 1, rfl, ⟨by omega, by omega⟩, by show 12 - (i + 1) < _; omega⟩
        rw [ltN hi, inN hi, getP hi, decide_eq_true (show (i : Int) < 12 by omega)]
        have si := wi_succ (show i < 4611686018427387904 by omega)
        by_cases hs : ms[i].2.size > 400
        · have hs1 : ((ms[i].2.size : Nat) : Int) > 400 := by omega
          have hs2 : 400 ≤ ((ms[i].2.size : Nat) : Int) := by omega
          rw [show rowOf ms[i] = (ms[i].1, ms[i].2.extract 0 400) from by unfold rowOf; rw [cut_gt hs]] at e
          have e : ((ms.take i).map rowOf).map cP ++ [[AV.int .i64 ms[i].1, .str (ms[i].2.extract 0 400)]] = ((ms.take (i + 1)).map rowOf).map cP := e
          simp only [cP0, cP1, cPeta, cond_true, cond_false, hs1, hs2, decide_true, decide_false, Bool.and_self, e, hr, si, lands_some]
          exact fin
        · have hs1 : ¬ ((ms[i].2.size : Nat) : Int) > 400 := by omega
          rw [show rowOf ms[i] = (ms[i].1, ms[i].2) from by unfold rowOf; rw [cut_le hs]] at e
          have e : ((ms.take i).map rowOf).map cP ++ [[AV.int .i64 ms[i].1, .str ms[i].2]] = ((ms.take (i + 1)).map rowOf).map cP := e
          simp only [cP0, cP1, cPeta, cond_true, cond_false, hs1, decide_true, decide_false, e, hr, si, lands_some]
          exact fin
      · have hij : i = 12 := by omega
        subst hij
        rw [ltN hi, decide_eq_false (show ¬ ((12 : Nat) : Int) < 12 by omega)]
        simp only [cond_true, cond_false, lands_some, Turns1]
        exact ⟨trivial, _, rfl⟩
    · rw [ltN' hi]
      simp only [cond_false, lands_some, Turns1]
      have e1 : ms.take i = ms := List.take_of_length_le (by omega)
      have e2 : ms.take 12 = ms := List.take_of_length_le (by omega)
      rw [e1, e2]
      exact ⟨trivial, i, rfl⟩
  exact key
theorem loopa (ms : List (Int × ByteArray)) (s : ByteArray) : ∃ e S1, Ends T orc L0a D0a (st0a (ms.map cP) s 0 []) e S1 ∧ e = .exit 0 ∧ ∃ x, S1 = st0a (ms.map cP) s x (((ms.take 12).map rowOf).map cP) := by
  have key : ∃ e S1, Ends T orc L0a D0a (st0a (ms.map cP) s ((0 : Nat) : Int) (((ms.take 0).map rowOf).map cP)) e S1 ∧ e = .exit 0 ∧ ∃ x, S1 = st0a (ms.map cP) s x (((ms.take 12).map rowOf).map cP) := by
    refine loop_inv1 (fun (i : Nat) => st0a (ms.map cP) s i (((ms.take i).map rowOf).map cP)) (fun i => i ≤ ms.length ∧ i ≤ 12) (fun i => 12 - i)
      (fun e S1 => e = .exit 0 ∧ ∃ x, S1 = st0a (ms.map cP) s x (((ms.take 12).map rowOf).map cP)) isL0a ?_ 0 ⟨Nat.zero_le _, by omega⟩
    intro i ⟨h1, h2⟩
    refine ⟨noTab, noTab_all, lands_of (round0a ..) ?_⟩
    rw [List.length_map]
    by_cases hi : i < ms.length
    · by_cases hj : i < 12
      · have e : ((ms.take i).map rowOf).map cP ++ [cP (rowOf ms[i])] = ((ms.take (i + 1)).map rowOf).map cP := by
          rw [List.take_add_one, List.getElem?_eq_getElem hi, List.map_append, List.map_append]; rfl
        have hr : (true && decide ((((ms.take (i + 1)).map rowOf).map cP).length * 24 ≤ 140737488355328)) = true := room24 (by rw [List.length_map, List.length_map, List.length_take]; omega)
        have fin : Turns1 (fun (i : Nat) => st0a (ms.map cP) s i (((ms.take i).map rowOf).map cP)) (fun i => i ≤ ms.length ∧ i ≤ 12) (fun i => 12 - i) (fun e S1 => e = .exit 0 ∧ ∃ x, S1 = st0a (ms.map cP) s x (((ms.take 12).map rowOf).map cP)) (12 - i) .normal (st0a (ms.map cP) s ((i + 1 : Nat) : Int) (((ms.take (i + 1)).map rowOf).map cP)) := ⟨i + 1, rfl, ⟨by omega, by omega⟩, by show 12 - (i + 1) < _; omega⟩
        rw [ltN hi, inN hi, getP hi, decide_eq_true (show (i : Int) < 12 by omega)]
        have si := wi_succ (show i < 4611686018427387904 by omega)
        by_cases hs : ms[i].2.size > 400
        · have hs1 : ((ms[i].2.size : Nat) : Int) > 400 := by omega
          have hs2 : 400 ≤ ((ms[i].2.size : Nat) : Int) := by omega
          rw [show rowOf ms[i] = (ms[i].1, ms[i].2.extract 0 400) from by unfold rowOf; rw [cut_gt hs]] at e
          have e : ((ms.take i).map rowOf).map cP ++ [[AV.int .i64 ms[i].1, .str (ms[i].2.extract 0 400)]] = ((ms.take (i + 1)).map rowOf).map cP := e
          simp only [cP0, cP1, cPeta, cond_true, cond_false, hs1, hs2, decide_true, decide_false, Bool.and_self, e, hr, si, lands_some]
          exact fin
        · have hs1 : ¬ ((ms[i].2.size : Nat) : Int) > 400 := by omega
          rw [show rowOf ms[i] = (ms[i].1, ms[i].2) from by unfold rowOf; rw [cut_le hs]] at e
          have e : ((ms.take i).map rowOf).map cP ++ [[AV.int .i64 ms[i].1, .str ms[i].2]] = ((ms.take (i + 1)).map rowOf).map cP := e
          simp only [cP0, cP1, cPeta, cond_true, cond_false, hs1, decide_true, decide_false, e, hr, si, lands_some]
          exact fin
      · have hij : i = 12 := by omega
        subst hij
        rw [ltN hi, decide_eq_false (show ¬ ((12 : Nat) : Int) < 12 by omega)]
        simp only [cond_true, cond_false, lands_some, Turns1]
        exact ⟨trivial, _, rfl⟩
    · rw [ltN' hi]
      simp only [cond_false, lands_some, Turns1]
      have e1 : ms.take i = ms := List.take_of_length_le (by omega)
      have e2 : ms.take 12 = ms := List.take_of_length_le (by omega)
      rw [e1, e2]
      exact ⟨trivial, i, rfl⟩
  exact key
end JRow
theorem meets_jrow : Meets Try.prog 14 anjRow := by
  refine meets_fn (orc_ok (l := JRow.ans) trivial) Try.f14 Try.func14 (by kernel_rfl) (fun args r h => ?_)
  unfold anjRow at h
  split at h
  · rename_i x s
    simp only [Option.some.injEq, Prod.mk.injEq] at h
    obtain ⟨h1, rfl⟩ := h
    obtain ⟨ms, _, rfl⟩ := isq_iff.1 h1
    rw [dp_map, prs_eq, rowP_eq]
    obtain ⟨e1, S1, hE1, rfl, x, rfl⟩ := JRow.loop ms s
    obtain ⟨e2, S2, hE2, rfl, y, rfl⟩ := JRow.loopa ms s
    refine ⟨rfl, _, tabOf_all _, (JRow.rest _ _ (((ms.take 12).map rowOf).map cP) y (((ms.take 12).map rowOf).map cP) x).trans ?_⟩
    rw [List.length_map, cdec_true hE1, cdec_true hE2]
    by_cases hs : s.size > 400
    · rw [cut_gt hs]
      refine (bT (decide_eq_true (by omega))).trans ((bT ?_).trans ?_)
      · rw [Bool.true_and, decide_eq_true_eq]; omega
      · by_cases hl : ms.length > 4096
        · rw [decide_eq_true hl]
          exact bT (decide_eq_true (by omega))
        · rw [decide_eq_false hl]
          exact bF (decide_eq_false (by omega))
    · rw [cut_le hs]
      refine (bF (decide_eq_false (by omega))).trans ?_
      by_cases hl : ms.length > 4096
      · rw [decide_eq_true hl]
        exact bT (decide_eq_true (by omega))
      · rw [decide_eq_false hl]
        exact bF (decide_eq_false (by omega))
  · cases h
end Go.Abs
end
