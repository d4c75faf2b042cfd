/- What the rows of this seat rest on, part 5: an abstract machine for the model, proved sound, and the functions that the statements reach. No conditions. -/
import Derived.Test.YtehpihdiahbaeaaXBase4
set_option linter.unusedVariables false
set_option linter.unusedSimpArgs false
set_option linter.unnecessarySimpa false
set_option linter.unusedSectionVars false
section
/- States and rounds of the functions of linear and of its reference, as a program of this session printed them. -/
set_option maxRecDepth 10000
namespace Go.Abs
open Go.Proofs Go.Dig
noncomputable section
namespace NRead
abbrev ans : Ans := [(58, ansParse), (35, ansLVar), (52, ansLScale), (46, ansLAdd)]
abbrev orc : Orc := orcOf ans
noncomputable def L0 : Code := lp Try.f15 0
theorem isL0 : ∃ a, L0 = .loop a := ⟨_, rfl⟩
abbrev D0 : List Nat := [0, 1, 2, 3, 4, 5, 6, 12, 13, 14, 15, 17, 18, 19, 20, 21, 22, 23, 24, 27, 28, 29, 30]
abbrev st0 (x : List (List AV)) (s : ByteArray) (x1 : Int) (l0 : List Int) (r0 : List (List AV)) (b0 : Bool) (l1 : List Int) : St := ⟨.agg [.rows 2 x, .str s] :: .ptr 1 0 0 :: .ptr 2 0 0 :: .int .i64 (0) :: .ptr 4 0 0 :: .int .i64 (re s) :: .ptr 6 0 0 :: tops 5 (.ptr 1 0 0 :: .rows 2 x :: .int .i64 (↑x.length : Int) :: .bool (decide ((↑x.length : Int) > 4096)) :: tops 1 (.tup [R (rv s), .int .i64 (re s)] :: .ptr 1 0 1 :: .str s :: .tup [R (rv s), .int .i64 (re s)] :: R (rv s) :: .int .i64 (re s) :: .int .i64 (re s) :: .bool (re s != 0) :: tops 2 (.ptr 1 0 0 :: .rows 2 x :: .int .i64 (↑x.length : Int) :: .int .i64 x1 :: tops 43 ([])))), nos 1 (varE [(false, .rows 2 x), (false, .str s)] :: varE [(true, .ints .i64 []), (true, .rows 2 []), (false, .bool false), (true, .ints .u32 []), (false, .bool false), (true, .ints .u32 [])] :: nos 1 (varE [(false, .bool (sg (rv s))), (false, .ints .u32 (lb (4294967296) (rv s)))] :: nos 1 (varE [(false, .ints .i64 l0), (false, .rows 2 r0), (false, .bool b0), (false, .ints .u32 l1)] :: nos 67 ([]))))⟩
abbrev st0x0 (x : List (List AV)) (s : ByteArray) (x2 : Int) (x1 : Int) (l0 : List Int) (r0 : List (List AV)) (b0 : Bool) (l1 : List Int) : St := ⟨.agg [.rows 2 x, .str s] :: .ptr 1 0 0 :: .ptr 2 0 0 :: .int .i64 x2 :: .ptr 4 0 0 :: .int .i64 (re s) :: .ptr 6 0 0 :: tops 5 (.ptr 1 0 0 :: .rows 2 x :: .int .i64 (↑x.length : Int) :: .bool (decide ((↑x.length : Int) > 4096)) :: tops 1 (.tup [R (rv s), .int .i64 (re s)] :: .ptr 1 0 1 :: .str s :: .tup [R (rv s), .int .i64 (re s)] :: R (rv s) :: .int .i64 (re s) :: .int .i64 (re s) :: .bool (re s != 0) :: tops 2 (.ptr 1 0 0 :: .rows 2 x :: .int .i64 (↑x.length : Int) :: .int .i64 x1 :: tops 43 ([])))), nos 1 (varE [(false, .rows 2 x), (false, .str s)] :: varE [(true, .ints .i64 []), (true, .rows 2 []), (false, .bool false), (true, .ints .u32 []), (false, .bool false), (true, .ints .u32 [])] :: nos 1 (varE [(false, .bool (sg (rv s))), (false, .ints .u32 (lb (4294967296) (rv s)))] :: nos 1 (varE [(false, .ints .i64 l0), (false, .rows 2 r0), (false, .bool b0), (false, .ints .u32 l1)] :: nos 67 ([]))))⟩
abbrev st0x1 (x : List (List AV)) (s : ByteArray) : St := ⟨.agg [.rows 2 x, .str s] :: .ptr 1 0 0 :: .ptr 2 0 0 :: .int .i64 (vE (gInt ((x.getD 0 []).getD 0 .top))) :: .ptr 4 0 0 :: .int .i64 (re s) :: .ptr 6 0 0 :: tops 5 (.ptr 1 0 0 :: .rows 2 x :: .int .i64 (↑x.length : Int) :: .bool (decide ((↑x.length : Int) > 4096)) :: tops 1 (.tup [R (rv s), .int .i64 (re s)] :: .ptr 1 0 1 :: .str s :: .tup [R (rv s), .int .i64 (re s)] :: R (rv s) :: .int .i64 (re s) :: .int .i64 (re s) :: .bool (re s != 0) :: tops 2 (.ptr 1 0 0 :: .rows 2 x :: .int .i64 (↑x.length : Int) :: .int .i64 (0) :: tops 43 ([])))), nos 1 (varE [(false, .rows 2 x), (false, .str s)] :: varE [(true, .ints .i64 []), (true, .rows 2 []), (false, .bool false), (true, .ints .u32 []), (false, .bool false), (true, .ints .u32 [])] :: nos 1 (varE [(false, .bool (sg (rv s))), (false, .ints .u32 (lb (4294967296) (rv s)))] :: nos 1 (varE [(true, .ints .i64 []), (true, .rows 2 []), (false, .bool false), (true, .ints .u32 [])] :: nos 67 ([]))))⟩
abbrev st0x2 (x : List (List AV)) (s : ByteArray) : St := ⟨.agg [.rows 2 x, .str s] :: .ptr 1 0 0 :: .ptr 2 0 0 :: .int .i64 (re (gStr ((x.getD 0 []).getD 1 .top))) :: .ptr 4 0 0 :: .int .i64 (re s) :: .ptr 6 0 0 :: tops 5 (.ptr 1 0 0 :: .rows 2 x :: .int .i64 (↑x.length : Int) :: .bool (decide ((↑x.length : Int) > 4096)) :: tops 1 (.tup [R (rv s), .int .i64 (re s)] :: .ptr 1 0 1 :: .str s :: .tup [R (rv s), .int .i64 (re s)] :: R (rv s) :: .int .i64 (re s) :: .int .i64 (re s) :: .bool (re s != 0) :: tops 2 (.ptr 1 0 0 :: .rows 2 x :: .int .i64 (↑x.length : Int) :: .int .i64 (0) :: tops 43 ([])))), nos 1 (varE [(false, .rows 2 x), (false, .str s)] :: varE [(true, .ints .i64 []), (true, .rows 2 []), (false, .bool false), (true, .ints .u32 []), (false, .bool false), (true, .ints .u32 [])] :: nos 1 (varE [(false, .bool (sg (rv s))), (false, .ints .u32 (lb (4294967296) (rv s)))] :: nos 1 (varE [(true, .ints .i64 []), (true, .rows 2 []), (false, .bool false), (true, .ints .u32 [])] :: nos 67 ([]))))⟩
abbrev st0x3 (x : List (List AV)) (s : ByteArray) : St := ⟨.agg [.rows 2 x, .str s] :: .ptr 1 0 0 :: .ptr 2 0 0 :: .int .i64 (0) :: .ptr 4 0 0 :: .int .i64 (re s) :: .ptr 6 0 0 :: tops 5 (.ptr 1 0 0 :: .rows 2 x :: .int .i64 (↑x.length : Int) :: .bool (decide ((↑x.length : Int) > 4096)) :: tops 1 (.tup [R (rv s), .int .i64 (re s)] :: .ptr 1 0 1 :: .str s :: .tup [R (rv s), .int .i64 (re s)] :: R (rv s) :: .int .i64 (re s) :: .int .i64 (re s) :: .bool (re s != 0) :: tops 2 (.ptr 1 0 0 :: .rows 2 x :: .int .i64 (↑x.length : Int) :: .int .i64 (0) :: tops 43 ([])))), nos 1 (varE [(false, .rows 2 x), (false, .str s)] :: varE [(true, .ints .i64 []), (true, .rows 2 []), (false, .bool false), (true, .ints .u32 []), (false, .bool false), (true, .ints .u32 [])] :: nos 1 (varE [(false, .bool (sg (rv s))), (false, .ints .u32 (lb (4294967296) (rv s)))] :: nos 1 (varE [(true, .ints .i64 []), (true, .rows 2 []), (false, .bool false), (true, .ints .u32 [])] :: nos 67 ([]))))⟩
abbrev st0e (x : List (List AV)) (s : ByteArray) : St := ⟨.agg [.rows 2 x, .str s] :: .ptr 1 0 0 :: .ptr 2 0 0 :: .int .i64 (0) :: .ptr 4 0 0 :: .int .i64 (re s) :: .ptr 6 0 0 :: tops 5 (.ptr 1 0 0 :: .rows 2 x :: .int .i64 (↑x.length : Int) :: .bool (decide ((↑x.length : Int) > 4096)) :: tops 1 (.tup [R (rv s), .int .i64 (re s)] :: .ptr 1 0 1 :: .str s :: .tup [R (rv s), .int .i64 (re s)] :: R (rv s) :: .int .i64 (re s) :: .int .i64 (re s) :: .bool (re s != 0) :: tops 2 (.ptr 1 0 0 :: .rows 2 x :: .int .i64 (↑x.length : Int) :: .int .i64 (0) :: tops 43 ([])))), nos 1 (varE [(false, .rows 2 x), (false, .str s)] :: varE [(true, .ints .i64 []), (true, .rows 2 []), (false, .bool false), (true, .ints .u32 []), (false, .bool false), (true, .ints .u32 [])] :: nos 1 (varE [(false, .bool (sg (rv s))), (false, .ints .u32 (lb (4294967296) (rv s)))] :: nos 1 (varE [(true, .ints .i64 []), (true, .rows 2 []), (false, .bool false), (true, .ints .u32 [])] :: nos 67 ([]))))⟩
theorem round0e (x : List (List AV)) (s : ByteArray) : goL T orc (noTab) D0 L0 (st0e x s) =
    (bif decide (0 < (↑x.length : Int)) then (bif inB (0) x.length then (bif etasOk [.int .i64 (0), .str { data := #[] }] (x.getD 0 []) then (bif vE (gInt ((x.getD 0 []).getD 0 .top)) != 0 then some (.ret, st0x1 x s) else (bif decide ((gStr ((x.getD 0 []).getD 1 .top)).size ≤ 10000) then (bif re (gStr ((x.getD 0 []).getD 1 .top)) != 0 then some (.ret, st0x2 x s) else (bif isT (lvs (Bool.rec [] (lone (gInt ((x.getD 0 []).getD 0 .top)) (1)) (vok (gInt ((x.getD 0 []).getD 0 .top))))) (lrs (Bool.rec [] (lone (gInt ((x.getD 0 []).getD 0 .top)) (1)) (vok (gInt ((x.getD 0 []).getD 0 .top))))) false [] && (cn (4294967296) (sg (rv (gStr ((x.getD 0 []).getD 1 .top)))) (lb (4294967296) (rv (gStr ((x.getD 0 []).getD 1 .top)))) && fits (N (4294967296) (rv (gStr ((x.getD 0 []).getD 1 .top))))) then (bif isT [] [] false [] && isT (lvs (scL (dl (lvs (Bool.rec [] (lone (gInt ((x.getD 0 []).getD 0 .top)) (1)) (vok (gInt ((x.getD 0 []).getD 0 .top))))) (lrs (Bool.rec [] (lone (gInt ((x.getD 0 []).getD 0 .top)) (1)) (vok (gInt ((x.getD 0 []).getD 0 .top)))))) (0) (N (4294967296) (rv (gStr ((x.getD 0 []).getD 1 .top)))))) (lrs (scL (dl (lvs (Bool.rec [] (lone (gInt ((x.getD 0 []).getD 0 .top)) (1)) (vok (gInt ((x.getD 0 []).getD 0 .top))))) (lrs (Bool.rec [] (lone (gInt ((x.getD 0 []).getD 0 .top)) (1)) (vok (gInt ((x.getD 0 []).getD 0 .top)))))) (0) (N (4294967296) (rv (gStr ((x.getD 0 []).getD 1 .top)))))) (sg (scC (dl (lvs (Bool.rec [] (lone (gInt ((x.getD 0 []).getD 0 .top)) (1)) (vok (gInt ((x.getD 0 []).getD 0 .top))))) (lrs (Bool.rec [] (lone (gInt ((x.getD 0 []).getD 0 .top)) (1)) (vok (gInt ((x.getD 0 []).getD 0 .top)))))) (0) (N (4294967296) (rv (gStr ((x.getD 0 []).getD 1 .top)))))) (lb (4294967296) (scC (dl (lvs (Bool.rec [] (lone (gInt ((x.getD 0 []).getD 0 .top)) (1)) (vok (gInt ((x.getD 0 []).getD 0 .top))))) (lrs (Bool.rec [] (lone (gInt ((x.getD 0 []).getD 0 .top)) (1)) (vok (gInt ((x.getD 0 []).getD 0 .top)))))) (0) (N (4294967296) (rv (gStr ((x.getD 0 []).getD 1 .top)))))) then (bif addE (dl [] []) (dl (lvs (scL (dl (lvs (Bool.rec [] (lone (gInt ((x.getD 0 []).getD 0 .top)) (1)) (vok (gInt ((x.getD 0 []).getD 0 .top))))) (lrs (Bool.rec [] (lone (gInt ((x.getD 0 []).getD 0 .top)) (1)) (vok (gInt ((x.getD 0 []).getD 0 .top)))))) (0) (N (4294967296) (rv (gStr ((x.getD 0 []).getD 1 .top)))))) (lrs (scL (dl (lvs (Bool.rec [] (lone (gInt ((x.getD 0 []).getD 0 .top)) (1)) (vok (gInt ((x.getD 0 []).getD 0 .top))))) (lrs (Bool.rec [] (lone (gInt ((x.getD 0 []).getD 0 .top)) (1)) (vok (gInt ((x.getD 0 []).getD 0 .top)))))) (0) (N (4294967296) (rv (gStr ((x.getD 0 []).getD 1 .top))))))) (0) (N (4294967296) (scC (dl (lvs (Bool.rec [] (lone (gInt ((x.getD 0 []).getD 0 .top)) (1)) (vok (gInt ((x.getD 0 []).getD 0 .top))))) (lrs (Bool.rec [] (lone (gInt ((x.getD 0 []).getD 0 .top)) (1)) (vok (gInt ((x.getD 0 []).getD 0 .top)))))) (0) (N (4294967296) (rv (gStr ((x.getD 0 []).getD 1 .top)))))) != 0 then some (.ret, st0x0 x s (addE (dl [] []) (dl (lvs (scL (dl (lvs (Bool.rec [] (lone (gInt ((x.getD 0 []).getD 0 .top)) (1)) (vok (gInt ((x.getD 0 []).getD 0 .top))))) (lrs (Bool.rec [] (lone (gInt ((x.getD 0 []).getD 0 .top)) (1)) (vok (gInt ((x.getD 0 []).getD 0 .top)))))) (0) (N (4294967296) (rv (gStr ((x.getD 0 []).getD 1 .top)))))) (lrs (scL (dl (lvs (Bool.rec [] (lone (gInt ((x.getD 0 []).getD 0 .top)) (1)) (vok (gInt ((x.getD 0 []).getD 0 .top))))) (lrs (Bool.rec [] (lone (gInt ((x.getD 0 []).getD 0 .top)) (1)) (vok (gInt ((x.getD 0 []).getD 0 .top)))))) (0) (N (4294967296) (rv (gStr ((x.getD 0 []).getD 1 .top))))))) (0) (N (4294967296) (scC (dl (lvs (Bool.rec [] (lone (gInt ((x.getD 0 []).getD 0 .top)) (1)) (vok (gInt ((x.getD 0 []).getD 0 .top))))) (lrs (Bool.rec [] (lone (gInt ((x.getD 0 []).getD 0 .top)) (1)) (vok (gInt ((x.getD 0 []).getD 0 .top)))))) (0) (N (4294967296) (rv (gStr ((x.getD 0 []).getD 1 .top))))))) (0) (lvs (addL (dl [] []) (dl (lvs (scL (dl (lvs (Bool.rec [] (lone (gInt ((x.getD 0 []).getD 0 .top)) (1)) (vok (gInt ((x.getD 0 []).getD 0 .top))))) (lrs (Bool.rec [] (lone (gInt ((x.getD 0 []).getD 0 .top)) (1)) (vok (gInt ((x.getD 0 []).getD 0 .top)))))) (0) (N (4294967296) (rv (gStr ((x.getD 0 []).getD 1 .top)))))) (lrs (scL (dl (lvs (Bool.rec [] (lone (gInt ((x.getD 0 []).getD 0 .top)) (1)) (vok (gInt ((x.getD 0 []).getD 0 .top))))) (lrs (Bool.rec [] (lone (gInt ((x.getD 0 []).getD 0 .top)) (1)) (vok (gInt ((x.getD 0 []).getD 0 .top)))))) (0) (N (4294967296) (rv (gStr ((x.getD 0 []).getD 1 .top))))))) (0) (N (4294967296) (scC (dl (lvs (Bool.rec [] (lone (gInt ((x.getD 0 []).getD 0 .top)) (1)) (vok (gInt ((x.getD 0 []).getD 0 .top))))) (lrs (Bool.rec [] (lone (gInt ((x.getD 0 []).getD 0 .top)) (1)) (vok (gInt ((x.getD 0 []).getD 0 .top)))))) (0) (N (4294967296) (rv (gStr ((x.getD 0 []).getD 1 .top)))))))) (lrs (addL (dl [] []) (dl (lvs (scL (dl (lvs (Bool.rec [] (lone (gInt ((x.getD 0 []).getD 0 .top)) (1)) (vok (gInt ((x.getD 0 []).getD 0 .top))))) (lrs (Bool.rec [] (lone (gInt ((x.getD 0 []).getD 0 .top)) (1)) (vok (gInt ((x.getD 0 []).getD 0 .top)))))) (0) (N (4294967296) (rv (gStr ((x.getD 0 []).getD 1 .top)))))) (lrs (scL (dl (lvs (Bool.rec [] (lone (gInt ((x.getD 0 []).getD 0 .top)) (1)) (vok (gInt ((x.getD 0 []).getD 0 .top))))) (lrs (Bool.rec [] (lone (gInt ((x.getD 0 []).getD 0 .top)) (1)) (vok (gInt ((x.getD 0 []).getD 0 .top)))))) (0) (N (4294967296) (rv (gStr ((x.getD 0 []).getD 1 .top))))))) (0) (N (4294967296) (scC (dl (lvs (Bool.rec [] (lone (gInt ((x.getD 0 []).getD 0 .top)) (1)) (vok (gInt ((x.getD 0 []).getD 0 .top))))) (lrs (Bool.rec [] (lone (gInt ((x.getD 0 []).getD 0 .top)) (1)) (vok (gInt ((x.getD 0 []).getD 0 .top)))))) (0) (N (4294967296) (rv (gStr ((x.getD 0 []).getD 1 .top)))))))) (sg (addC (dl [] []) (dl (lvs (scL (dl (lvs (Bool.rec [] (lone (gInt ((x.getD 0 []).getD 0 .top)) (1)) (vok (gInt ((x.getD 0 []).getD 0 .top))))) (lrs (Bool.rec [] (lone (gInt ((x.getD 0 []).getD 0 .top)) (1)) (vok (gInt ((x.getD 0 []).getD 0 .top)))))) (0) (N (4294967296) (rv (gStr ((x.getD 0 []).getD 1 .top)))))) (lrs (scL (dl (lvs (Bool.rec [] (lone (gInt ((x.getD 0 []).getD 0 .top)) (1)) (vok (gInt ((x.getD 0 []).getD 0 .top))))) (lrs (Bool.rec [] (lone (gInt ((x.getD 0 []).getD 0 .top)) (1)) (vok (gInt ((x.getD 0 []).getD 0 .top)))))) (0) (N (4294967296) (rv (gStr ((x.getD 0 []).getD 1 .top))))))) (0) (N (4294967296) (scC (dl (lvs (Bool.rec [] (lone (gInt ((x.getD 0 []).getD 0 .top)) (1)) (vok (gInt ((x.getD 0 []).getD 0 .top))))) (lrs (Bool.rec [] (lone (gInt ((x.getD 0 []).getD 0 .top)) (1)) (vok (gInt ((x.getD 0 []).getD 0 .top)))))) (0) (N (4294967296) (rv (gStr ((x.getD 0 []).getD 1 .top)))))))) (lb (4294967296) (addC (dl [] []) (dl (lvs (scL (dl (lvs (Bool.rec [] (lone (gInt ((x.getD 0 []).getD 0 .top)) (1)) (vok (gInt ((x.getD 0 []).getD 0 .top))))) (lrs (Bool.rec [] (lone (gInt ((x.getD 0 []).getD 0 .top)) (1)) (vok (gInt ((x.getD 0 []).getD 0 .top)))))) (0) (N (4294967296) (rv (gStr ((x.getD 0 []).getD 1 .top)))))) (lrs (scL (dl (lvs (Bool.rec [] (lone (gInt ((x.getD 0 []).getD 0 .top)) (1)) (vok (gInt ((x.getD 0 []).getD 0 .top))))) (lrs (Bool.rec [] (lone (gInt ((x.getD 0 []).getD 0 .top)) (1)) (vok (gInt ((x.getD 0 []).getD 0 .top)))))) (0) (N (4294967296) (rv (gStr ((x.getD 0 []).getD 1 .top))))))) (0) (N (4294967296) (scC (dl (lvs (Bool.rec [] (lone (gInt ((x.getD 0 []).getD 0 .top)) (1)) (vok (gInt ((x.getD 0 []).getD 0 .top))))) (lrs (Bool.rec [] (lone (gInt ((x.getD 0 []).getD 0 .top)) (1)) (vok (gInt ((x.getD 0 []).getD 0 .top)))))) (0) (N (4294967296) (rv (gStr ((x.getD 0 []).getD 1 .top))))))))) else some (.normal, st0 x s (IntKind.i64.wrap (0 + 1)) (lvs (addL (dl [] []) (dl (lvs (scL (dl (lvs (Bool.rec [] (lone (gInt ((x.getD 0 []).getD 0 .top)) (1)) (vok (gInt ((x.getD 0 []).getD 0 .top))))) (lrs (Bool.rec [] (lone (gInt ((x.getD 0 []).getD 0 .top)) (1)) (vok (gInt ((x.getD 0 []).getD 0 .top)))))) (0) (N (4294967296) (rv (gStr ((x.getD 0 []).getD 1 .top)))))) (lrs (scL (dl (lvs (Bool.rec [] (lone (gInt ((x.getD 0 []).getD 0 .top)) (1)) (vok (gInt ((x.getD 0 []).getD 0 .top))))) (lrs (Bool.rec [] (lone (gInt ((x.getD 0 []).getD 0 .top)) (1)) (vok (gInt ((x.getD 0 []).getD 0 .top)))))) (0) (N (4294967296) (rv (gStr ((x.getD 0 []).getD 1 .top))))))) (0) (N (4294967296) (scC (dl (lvs (Bool.rec [] (lone (gInt ((x.getD 0 []).getD 0 .top)) (1)) (vok (gInt ((x.getD 0 []).getD 0 .top))))) (lrs (Bool.rec [] (lone (gInt ((x.getD 0 []).getD 0 .top)) (1)) (vok (gInt ((x.getD 0 []).getD 0 .top)))))) (0) (N (4294967296) (rv (gStr ((x.getD 0 []).getD 1 .top)))))))) (lrs (addL (dl [] []) (dl (lvs (scL (dl (lvs (Bool.rec [] (lone (gInt ((x.getD 0 []).getD 0 .top)) (1)) (vok (gInt ((x.getD 0 []).getD 0 .top))))) (lrs (Bool.rec [] (lone (gInt ((x.getD 0 []).getD 0 .top)) (1)) (vok (gInt ((x.getD 0 []).getD 0 .top)))))) (0) (N (4294967296) (rv (gStr ((x.getD 0 []).getD 1 .top)))))) (lrs (scL (dl (lvs (Bool.rec [] (lone (gInt ((x.getD 0 []).getD 0 .top)) (1)) (vok (gInt ((x.getD 0 []).getD 0 .top))))) (lrs (Bool.rec [] (lone (gInt ((x.getD 0 []).getD 0 .top)) (1)) (vok (gInt ((x.getD 0 []).getD 0 .top)))))) (0) (N (4294967296) (rv (gStr ((x.getD 0 []).getD 1 .top))))))) (0) (N (4294967296) (scC (dl (lvs (Bool.rec [] (lone (gInt ((x.getD 0 []).getD 0 .top)) (1)) (vok (gInt ((x.getD 0 []).getD 0 .top))))) (lrs (Bool.rec [] (lone (gInt ((x.getD 0 []).getD 0 .top)) (1)) (vok (gInt ((x.getD 0 []).getD 0 .top)))))) (0) (N (4294967296) (rv (gStr ((x.getD 0 []).getD 1 .top)))))))) (sg (addC (dl [] []) (dl (lvs (scL (dl (lvs (Bool.rec [] (lone (gInt ((x.getD 0 []).getD 0 .top)) (1)) (vok (gInt ((x.getD 0 []).getD 0 .top))))) (lrs (Bool.rec [] (lone (gInt ((x.getD 0 []).getD 0 .top)) (1)) (vok (gInt ((x.getD 0 []).getD 0 .top)))))) (0) (N (4294967296) (rv (gStr ((x.getD 0 []).getD 1 .top)))))) (lrs (scL (dl (lvs (Bool.rec [] (lone (gInt ((x.getD 0 []).getD 0 .top)) (1)) (vok (gInt ((x.getD 0 []).getD 0 .top))))) (lrs (Bool.rec [] (lone (gInt ((x.getD 0 []).getD 0 .top)) (1)) (vok (gInt ((x.getD 0 []).getD 0 .top)))))) (0) (N (4294967296) (rv (gStr ((x.getD 0 []).getD 1 .top))))))) (0) (N (4294967296) (scC (dl (lvs (Bool.rec [] (lone (gInt ((x.getD 0 []).getD 0 .top)) (1)) (vok (gInt ((x.getD 0 []).getD 0 .top))))) (lrs (Bool.rec [] (lone (gInt ((x.getD 0 []).getD 0 .top)) (1)) (vok (gInt ((x.getD 0 []).getD 0 .top)))))) (0) (N (4294967296) (rv (gStr ((x.getD 0 []).getD 1 .top)))))))) (lb (4294967296) (addC (dl [] []) (dl (lvs (scL (dl (lvs (Bool.rec [] (lone (gInt ((x.getD 0 []).getD 0 .top)) (1)) (vok (gInt ((x.getD 0 []).getD 0 .top))))) (lrs (Bool.rec [] (lone (gInt ((x.getD 0 []).getD 0 .top)) (1)) (vok (gInt ((x.getD 0 []).getD 0 .top)))))) (0) (N (4294967296) (rv (gStr ((x.getD 0 []).getD 1 .top)))))) (lrs (scL (dl (lvs (Bool.rec [] (lone (gInt ((x.getD 0 []).getD 0 .top)) (1)) (vok (gInt ((x.getD 0 []).getD 0 .top))))) (lrs (Bool.rec [] (lone (gInt ((x.getD 0 []).getD 0 .top)) (1)) (vok (gInt ((x.getD 0 []).getD 0 .top)))))) (0) (N (4294967296) (rv (gStr ((x.getD 0 []).getD 1 .top))))))) (0) (N (4294967296) (scC (dl (lvs (Bool.rec [] (lone (gInt ((x.getD 0 []).getD 0 .top)) (1)) (vok (gInt ((x.getD 0 []).getD 0 .top))))) (lrs (Bool.rec [] (lone (gInt ((x.getD 0 []).getD 0 .top)) (1)) (vok (gInt ((x.getD 0 []).getD 0 .top)))))) (0) (N (4294967296) (rv (gStr ((x.getD 0 []).getD 1 .top)))))))))) else none) else none)) else none)) else none) else none) else some (.exit 0, st0e x s)) := by kernel_rfl
theorem round0 (x : List (List AV)) (s : ByteArray) (x1 : Int) (l0 : List Int) (r0 : List (List AV)) (b0 : Bool) (l1 : List Int) : goL T orc (noTab) D0 L0 (st0 x s x1 l0 r0 b0 l1) =
    (bif decide (x1 < (↑x.length : Int)) then (bif inB x1 x.length then (bif etasOk [.int .i64 (0), .str { data := #[] }] (x.getD x1.toNat []) then (bif vE (gInt ((x.getD x1.toNat []).getD 0 .top)) != 0 then some (.ret, st0x0 x s (vE (gInt ((x.getD x1.toNat []).getD 0 .top))) x1 l0 r0 b0 l1) else (bif decide ((gStr ((x.getD x1.toNat []).getD 1 .top)).size ≤ 10000) then (bif re (gStr ((x.getD x1.toNat []).getD 1 .top)) != 0 then some (.ret, st0x0 x s (re (gStr ((x.getD x1.toNat []).getD 1 .top))) x1 l0 r0 b0 l1) else (bif isT (lvs (Bool.rec [] (lone (gInt ((x.getD x1.toNat []).getD 0 .top)) (1)) (vok (gInt ((x.getD x1.toNat []).getD 0 .top))))) (lrs (Bool.rec [] (lone (gInt ((x.getD x1.toNat []).getD 0 .top)) (1)) (vok (gInt ((x.getD x1.toNat []).getD 0 .top))))) false [] && (cn (4294967296) (sg (rv (gStr ((x.getD x1.toNat []).getD 1 .top)))) (lb (4294967296) (rv (gStr ((x.getD x1.toNat []).getD 1 .top)))) && fits (N (4294967296) (rv (gStr ((x.getD x1.toNat []).getD 1 .top))))) then (bif isT l0 r0 b0 l1 && isT (lvs (scL (dl (lvs (Bool.rec [] (lone (gInt ((x.getD x1.toNat []).getD 0 .top)) (1)) (vok (gInt ((x.getD x1.toNat []).getD 0 .top))))) (lrs (Bool.rec [] (lone (gInt ((x.getD x1.toNat []).getD 0 .top)) (1)) (vok (gInt ((x.getD x1.toNat []).getD 0 .top)))))) (0) (N (4294967296) (rv (gStr ((x.getD x1.toNat []).getD 1 .top)))))) (lrs (scL (dl (lvs (Bool.rec [] (lone (gInt ((x.getD x1.toNat []).getD 0 .top)) (1)) (vok (gInt ((x.getD x1.toNat []).getD 0 .top))))) (lrs (Bool.rec [] (lone (gInt ((x.getD x1.toNat []).getD 0 .top)) (1)) (vok (gInt ((x.getD x1.toNat []).getD 0 .top)))))) (0) (N (4294967296) (rv (gStr ((x.getD x1.toNat []).getD 1 .top)))))) (sg (scC (dl (lvs (Bool.rec [] (lone (gInt ((x.getD x1.toNat []).getD 0 .top)) (1)) (vok (gInt ((x.getD x1.toNat []).getD 0 .top))))) (lrs (Bool.rec [] (lone (gInt ((x.getD x1.toNat []).getD 0 .top)) (1)) (vok (gInt ((x.getD x1.toNat []).getD 0 .top)))))) (0) (N (4294967296) (rv (gStr ((x.getD x1.toNat []).getD 1 .top)))))) (lb (4294967296) (scC (dl (lvs (Bool.rec [] (lone (gInt ((x.getD x1.toNat []).getD 0 .top)) (1)) (vok (gInt ((x.getD x1.toNat []).getD 0 .top))))) (lrs (Bool.rec [] (lone (gInt ((x.getD x1.toNat []).getD 0 .top)) (1)) (vok (gInt ((x.getD x1.toNat []).getD 0 .top)))))) (0) (N (4294967296) (rv (gStr ((x.getD x1.toNat []).getD 1 .top)))))) then (bif addE (dl l0 r0) (dl (lvs (scL (dl (lvs (Bool.rec [] (lone (gInt ((x.getD x1.toNat []).getD 0 .top)) (1)) (vok (gInt ((x.getD x1.toNat []).getD 0 .top))))) (lrs (Bool.rec [] (lone (gInt ((x.getD x1.toNat []).getD 0 .top)) (1)) (vok (gInt ((x.getD x1.toNat []).getD 0 .top)))))) (0) (N (4294967296) (rv (gStr ((x.getD x1.toNat []).getD 1 .top)))))) (lrs (scL (dl (lvs (Bool.rec [] (lone (gInt ((x.getD x1.toNat []).getD 0 .top)) (1)) (vok (gInt ((x.getD x1.toNat []).getD 0 .top))))) (lrs (Bool.rec [] (lone (gInt ((x.getD x1.toNat []).getD 0 .top)) (1)) (vok (gInt ((x.getD x1.toNat []).getD 0 .top)))))) (0) (N (4294967296) (rv (gStr ((x.getD x1.toNat []).getD 1 .top))))))) (num (4294967296) b0 l1) (N (4294967296) (scC (dl (lvs (Bool.rec [] (lone (gInt ((x.getD x1.toNat []).getD 0 .top)) (1)) (vok (gInt ((x.getD x1.toNat []).getD 0 .top))))) (lrs (Bool.rec [] (lone (gInt ((x.getD x1.toNat []).getD 0 .top)) (1)) (vok (gInt ((x.getD x1.toNat []).getD 0 .top)))))) (0) (N (4294967296) (rv (gStr ((x.getD x1.toNat []).getD 1 .top)))))) != 0 then some (.ret, st0x0 x s (addE (dl l0 r0) (dl (lvs (scL (dl (lvs (Bool.rec [] (lone (gInt ((x.getD x1.toNat []).getD 0 .top)) (1)) (vok (gInt ((x.getD x1.toNat []).getD 0 .top))))) (lrs (Bool.rec [] (lone (gInt ((x.getD x1.toNat []).getD 0 .top)) (1)) (vok (gInt ((x.getD x1.toNat []).getD 0 .top)))))) (0) (N (4294967296) (rv (gStr ((x.getD x1.toNat []).getD 1 .top)))))) (lrs (scL (dl (lvs (Bool.rec [] (lone (gInt ((x.getD x1.toNat []).getD 0 .top)) (1)) (vok (gInt ((x.getD x1.toNat []).getD 0 .top))))) (lrs (Bool.rec [] (lone (gInt ((x.getD x1.toNat []).getD 0 .top)) (1)) (vok (gInt ((x.getD x1.toNat []).getD 0 .top)))))) (0) (N (4294967296) (rv (gStr ((x.getD x1.toNat []).getD 1 .top))))))) (num (4294967296) b0 l1) (N (4294967296) (scC (dl (lvs (Bool.rec [] (lone (gInt ((x.getD x1.toNat []).getD 0 .top)) (1)) (vok (gInt ((x.getD x1.toNat []).getD 0 .top))))) (lrs (Bool.rec [] (lone (gInt ((x.getD x1.toNat []).getD 0 .top)) (1)) (vok (gInt ((x.getD x1.toNat []).getD 0 .top)))))) (0) (N (4294967296) (rv (gStr ((x.getD x1.toNat []).getD 1 .top))))))) x1 (lvs (addL (dl l0 r0) (dl (lvs (scL (dl (lvs (Bool.rec [] (lone (gInt ((x.getD x1.toNat []).getD 0 .top)) (1)) (vok (gInt ((x.getD x1.toNat []).getD 0 .top))))) (lrs (Bool.rec [] (lone (gInt ((x.getD x1.toNat []).getD 0 .top)) (1)) (vok (gInt ((x.getD x1.toNat []).getD 0 .top)))))) (0) (N (4294967296) (rv (gStr ((x.getD x1.toNat []).getD 1 .top)))))) (lrs (scL (dl (lvs (Bool.rec [] (lone (gInt ((x.getD x1.toNat []).getD 0 .top)) (1)) (vok (gInt ((x.getD x1.toNat []).getD 0 .top))))) (lrs (Bool.rec [] (lone (gInt ((x.getD x1.toNat []).getD 0 .top)) (1)) (vok (gInt ((x.getD x1.toNat []).getD 0 .top)))))) (0) (N (4294967296) (rv (gStr ((x.getD x1.toNat []).getD 1 .top))))))) (num (4294967296) b0 l1) (N (4294967296) (scC (dl (lvs (Bool.rec [] (lone (gInt ((x.getD x1.toNat []).getD 0 .top)) (1)) (vok (gInt ((x.getD x1.toNat []).getD 0 .top))))) (lrs (Bool.rec [] (lone (gInt ((x.getD x1.toNat []).getD 0 .top)) (1)) (vok (gInt ((x.getD x1.toNat []).getD 0 .top)))))) (0) (N (4294967296) (rv (gStr ((x.getD x1.toNat []).getD 1 .top)))))))) (lrs (addL (dl l0 r0) (dl (lvs (scL (dl (lvs (Bool.rec [] (lone (gInt ((x.getD x1.toNat []).getD 0 .top)) (1)) (vok (gInt ((x.getD x1.toNat []).getD 0 .top))))) (lrs (Bool.rec [] (lone (gInt ((x.getD x1.toNat []).getD 0 .top)) (1)) (vok (gInt ((x.getD x1.toNat []).getD 0 .top)))))) (0) (N (4294967296) (rv (gStr ((x.getD x1.toNat []).getD 1 .top)))))) (lrs (scL (dl (lvs (Bool.rec [] (lone (gInt ((x.getD x1.toNat []).getD 0 .top)) (1)) (vok (gInt ((x.getD x1.toNat []).getD 0 .top))))) (lrs (Bool.rec [] (lone (gInt ((x.getD x1.toNat []).getD 0 .top)) (1)) (vok (gInt ((x.getD x1.toNat []).getD 0 .top)))))) (0) (N (4294967296) (rv (gStr ((x.getD x1.toNat []).getD 1 .top))))))) (num (4294967296) b0 l1) (N (4294967296) (scC (dl (lvs (Bool.rec [] (lone (gInt ((x.getD x1.toNat []).getD 0 .top)) (1)) (vok (gInt ((x.getD x1.toNat []).getD 0 .top))))) (lrs (Bool.rec [] (lone (gInt ((x.getD x1.toNat []).getD 0 .top)) (1)) (vok (gInt ((x.getD x1.toNat []).getD 0 .top)))))) (0) (N (4294967296) (rv (gStr ((x.getD x1.toNat []).getD 1 .top)))))))) (sg (addC (dl l0 r0) (dl (lvs (scL (dl (lvs (Bool.rec [] (lone (gInt ((x.getD x1.toNat []).getD 0 .top)) (1)) (vok (gInt ((x.getD x1.toNat []).getD 0 .top))))) (lrs (Bool.rec [] (lone (gInt ((x.getD x1.toNat []).getD 0 .top)) (1)) (vok (gInt ((x.getD x1.toNat []).getD 0 .top)))))) (0) (N (4294967296) (rv (gStr ((x.getD x1.toNat []).getD 1 .top)))))) (lrs (scL (dl (lvs (Bool.rec [] (lone (gInt ((x.getD x1.toNat []).getD 0 .top)) (1)) (vok (gInt ((x.getD x1.toNat []).getD 0 .top))))) (lrs (Bool.rec [] (lone (gInt ((x.getD x1.toNat []).getD 0 .top)) (1)) (vok (gInt ((x.getD x1.toNat []).getD 0 .top)))))) (0) (N (4294967296) (rv (gStr ((x.getD x1.toNat []).getD 1 .top))))))) (num (4294967296) b0 l1) (N (4294967296) (scC (dl (lvs (Bool.rec [] (lone (gInt ((x.getD x1.toNat []).getD 0 .top)) (1)) (vok (gInt ((x.getD x1.toNat []).getD 0 .top))))) (lrs (Bool.rec [] (lone (gInt ((x.getD x1.toNat []).getD 0 .top)) (1)) (vok (gInt ((x.getD x1.toNat []).getD 0 .top)))))) (0) (N (4294967296) (rv (gStr ((x.getD x1.toNat []).getD 1 .top)))))))) (lb (4294967296) (addC (dl l0 r0) (dl (lvs (scL (dl (lvs (Bool.rec [] (lone (gInt ((x.getD x1.toNat []).getD 0 .top)) (1)) (vok (gInt ((x.getD x1.toNat []).getD 0 .top))))) (lrs (Bool.rec [] (lone (gInt ((x.getD x1.toNat []).getD 0 .top)) (1)) (vok (gInt ((x.getD x1.toNat []).getD 0 .top)))))) (0) (N (4294967296) (rv (gStr ((x.getD x1.toNat []).getD 1 .top)))))) (lrs (scL (dl (lvs (Bool.rec [] (lone (gInt ((x.getD x1.toNat []).getD 0 .top)) (1)) (vok (gInt ((x.getD x1.toNat []).getD 0 .top))))) (lrs (Bool.rec [] (lone (gInt ((x.getD x1.toNat []).getD 0 .top)) (1)) (vok (gInt ((x.getD x1.toNat []).getD 0 .top)))))) (0) (N (4294967296) (rv (gStr ((x.getD x1.toNat []).getD 1 .top))))))) (num (4294967296) b0 l1) (N (4294967296) (scC (dl (lvs (Bool.rec [] (lone (gInt ((x.getD x1.toNat []).getD 0 .top)) (1)) (vok (gInt ((x.getD x1.toNat []).getD 0 .top))))) (lrs (Bool.rec [] (lone (gInt ((x.getD x1.toNat []).getD 0 .top)) (1)) (vok (gInt ((x.getD x1.toNat []).getD 0 .top)))))) (0) (N (4294967296) (rv (gStr ((x.getD x1.toNat []).getD 1 .top))))))))) else some (.normal, st0 x s (IntKind.i64.wrap (x1 + 1)) (lvs (addL (dl l0 r0) (dl (lvs (scL (dl (lvs (Bool.rec [] (lone (gInt ((x.getD x1.toNat []).getD 0 .top)) (1)) (vok (gInt ((x.getD x1.toNat []).getD 0 .top))))) (lrs (Bool.rec [] (lone (gInt ((x.getD x1.toNat []).getD 0 .top)) (1)) (vok (gInt ((x.getD x1.toNat []).getD 0 .top)))))) (0) (N (4294967296) (rv (gStr ((x.getD x1.toNat []).getD 1 .top)))))) (lrs (scL (dl (lvs (Bool.rec [] (lone (gInt ((x.getD x1.toNat []).getD 0 .top)) (1)) (vok (gInt ((x.getD x1.toNat []).getD 0 .top))))) (lrs (Bool.rec [] (lone (gInt ((x.getD x1.toNat []).getD 0 .top)) (1)) (vok (gInt ((x.getD x1.toNat []).getD 0 .top)))))) (0) (N (4294967296) (rv (gStr ((x.getD x1.toNat []).getD 1 .top))))))) (num (4294967296) b0 l1) (N (4294967296) (scC (dl (lvs (Bool.rec [] (lone (gInt ((x.getD x1.toNat []).getD 0 .top)) (1)) (vok (gInt ((x.getD x1.toNat []).getD 0 .top))))) (lrs (Bool.rec [] (lone (gInt ((x.getD x1.toNat []).getD 0 .top)) (1)) (vok (gInt ((x.getD x1.toNat []).getD 0 .top)))))) (0) (N (4294967296) (rv (gStr ((x.getD x1.toNat []).getD 1 .top)))))))) (lrs (addL (dl l0 r0) (dl (lvs (scL (dl (lvs (Bool.rec [] (lone (gInt ((x.getD x1.toNat []).getD 0 .top)) (1)) (vok (gInt ((x.getD x1.toNat []).getD 0 .top))))) (lrs (Bool.rec [] (lone (gInt ((x.getD x1.toNat []).getD 0 .top)) (1)) (vok (gInt ((x.getD x1.toNat []).getD 0 .top)))))) (0) (N (4294967296) (rv (gStr ((x.getD x1.toNat []).getD 1 .top)))))) (lrs (scL (dl (lvs (Bool.rec [] (lone (gInt ((x.getD x1.toNat []).getD 0 .top)) (1)) (vok (gInt ((x.getD x1.toNat []).getD 0 .top))))) (lrs (Bool.rec [] (lone (gInt ((x.getD x1.toNat []).getD 0 .top)) (1)) (vok (gInt ((x.getD x1.toNat []).getD 0 .top)))))) (0) (N (4294967296) (rv (gStr ((x.getD x1.toNat []).getD 1 .top))))))) (num (4294967296) b0 l1) (N (4294967296) (scC (dl (lvs (Bool.rec [] (lone (gInt ((x.getD x1.toNat []).getD 0 .top)) (1)) (vok (gInt ((x.getD x1.toNat []).getD 0 .top))))) (lrs (Bool.rec [] (lone (gInt ((x.getD x1.toNat []).getD 0 .top)) (1)) (vok (gInt ((x.getD x1.toNat []).getD 0 .top)))))) (0) (N (4294967296) (rv (gStr ((x.getD x1.toNat []).getD 1 .top)))))))) (sg (addC (dl l0 r0) (dl (lvs (scL (dl (lvs (Bool.rec [] (lone (gInt ((x.getD x1.toNat []).getD 0 .top)) (1)) (vok (gInt ((x.getD x1.toNat []).getD 0 .top))))) (lrs (Bool.rec [] (lone (gInt ((x.getD x1.toNat []).getD 0 .top)) (1)) (vok (gInt ((x.getD x1.toNat []).getD 0 .top)))))) (0) (N (4294967296) (rv (gStr ((x.getD x1.toNat []).getD 1 .top)))))) (lrs (scL (dl (lvs (Bool.rec [] (lone (gInt ((x.getD x1.toNat []).getD 0 .top)) (1)) (vok (gInt ((x.getD x1.toNat []).getD 0 .top))))) (lrs (Bool.rec [] (lone (gInt ((x.getD x1.toNat []).getD 0 .top)) (1)) (vok (gInt ((x.getD x1.toNat []).getD 0 .top)))))) (0) (N (4294967296) (rv (gStr ((x.getD x1.toNat []).getD 1 .top))))))) (num (4294967296) b0 l1) (N (4294967296) (scC (dl (lvs (Bool.rec [] (lone (gInt ((x.getD x1.toNat []).getD 0 .top)) (1)) (vok (gInt ((x.getD x1.toNat []).getD 0 .top))))) (lrs (Bool.rec [] (lone (gInt ((x.getD x1.toNat []).getD 0 .top)) (1)) (vok (gInt ((x.getD x1.toNat []).getD 0 .top)))))) (0) (N (4294967296) (rv (gStr ((x.getD x1.toNat []).getD 1 .top)))))))) (lb (4294967296) (addC (dl l0 r0) (dl (lvs (scL (dl (lvs (Bool.rec [] (lone (gInt ((x.getD x1.toNat []).getD 0 .top)) (1)) (vok (gInt ((x.getD x1.toNat []).getD 0 .top))))) (lrs (Bool.rec [] (lone (gInt ((x.getD x1.toNat []).getD 0 .top)) (1)) (vok (gInt ((x.getD x1.toNat []).getD 0 .top)))))) (0) (N (4294967296) (rv (gStr ((x.getD x1.toNat []).getD 1 .top)))))) (lrs (scL (dl (lvs (Bool.rec [] (lone (gInt ((x.getD x1.toNat []).getD 0 .top)) (1)) (vok (gInt ((x.getD x1.toNat []).getD 0 .top))))) (lrs (Bool.rec [] (lone (gInt ((x.getD x1.toNat []).getD 0 .top)) (1)) (vok (gInt ((x.getD x1.toNat []).getD 0 .top)))))) (0) (N (4294967296) (rv (gStr ((x.getD x1.toNat []).getD 1 .top))))))) (num (4294967296) b0 l1) (N (4294967296) (scC (dl (lvs (Bool.rec [] (lone (gInt ((x.getD x1.toNat []).getD 0 .top)) (1)) (vok (gInt ((x.getD x1.toNat []).getD 0 .top))))) (lrs (Bool.rec [] (lone (gInt ((x.getD x1.toNat []).getD 0 .top)) (1)) (vok (gInt ((x.getD x1.toNat []).getD 0 .top)))))) (0) (N (4294967296) (rv (gStr ((x.getD x1.toNat []).getD 1 .top)))))))))) else none) else none)) else none)) else none) else none) else some (.exit 0, st0 x s x1 l0 r0 b0 l1)) := by kernel_rfl
-- loop 0 ends ret st0x0 x s x2 x1 l0 r0 b0 l1
-- loop 0 ends exit0 st0 x s x1 l0 r0 b0 l1
-- loop 0 ends ret st0x1 x s
-- loop 0 ends ret st0x2 x s
-- loop 0 ends exit0 st0e x s
theorem rest_0 (x : List (List AV)) (s : ByteArray) (x3 : Int) (x4 : Int) (l2 : List Int) (r1 : List (List AV)) (b1 : Bool) (l3 : List Int) : runT T orc (tabOf T orc [(8, 60458903645984008203565024201108047226079202216835569304044148288175646339773922611752686, .ret, st0x0 x s x3 x4 l2 r1 b1 l3)]) Try.f15 [.agg [.rows 2 x, .str s]] =
    (bif decide ((↑x.length : Int) > 4096) then some (.val (.tup [.agg [.ints .i64 [], .rows 2 [], .bool false, .ints .u32 [], .bool false, .ints .u32 []], .int .i64 (2)])) else (bif decide (s.size ≤ 10000) then (bif re s != 0 then some (.val (.tup [.agg [.ints .i64 [], .rows 2 [], .bool false, .ints .u32 [], .bool false, .ints .u32 []], .int .i64 (re s)])) else (bif cdec (Ends T orc L0 D0 (st0e x s) .ret (st0x0 x s x3 x4 l2 r1 b1 l3)) then some (.val (.tup [.agg [.ints .i64 [], .rows 2 [], .bool false, .ints .u32 [], .bool false, .ints .u32 []], .int .i64 x3])) else none)) else none)) := by kernel_rfl
theorem rest_1 (x : List (List AV)) (s : ByteArray) (l4 : List Int) (r2 : List (List AV)) (b2 : Bool) (l5 : List Int) (x5 : Int) : runT T orc (tabOf T orc [(8, 60458903645984008203565024201108047226079202216835569304044148288175646339773922611752686, .exit 0, st0 x s x5 l4 r2 b2 l5)]) Try.f15 [.agg [.rows 2 x, .str s]] =
    (bif decide ((↑x.length : Int) > 4096) then some (.val (.tup [.agg [.ints .i64 [], .rows 2 [], .bool false, .ints .u32 [], .bool false, .ints .u32 []], .int .i64 (2)])) else (bif decide (s.size ≤ 10000) then (bif re s != 0 then some (.val (.tup [.agg [.ints .i64 [], .rows 2 [], .bool false, .ints .u32 [], .bool false, .ints .u32 []], .int .i64 (re s)])) else (bif cdec (Ends T orc L0 D0 (st0e x s) (.exit 0) (st0 x s x5 l4 r2 b2 l5)) then some (.val (.tup [.agg [.ints .i64 l4, .rows 2 r2, .bool b2, .ints .u32 l5, .bool (sg (rv s)), .ints .u32 (lb (4294967296) (rv s))], .int .i64 (0)])) else none)) else none)) := by kernel_rfl
theorem rest_2 (x : List (List AV)) (s : ByteArray) : runT T orc (tabOf T orc [(8, 60458903645984008203565024201108047226079202216835569304044148288175646339773922611752686, .ret, st0x1 x s)]) Try.f15 [.agg [.rows 2 x, .str s]] =
    (bif decide ((↑x.length : Int) > 4096) then some (.val (.tup [.agg [.ints .i64 [], .rows 2 [], .bool false, .ints .u32 [], .bool false, .ints .u32 []], .int .i64 (2)])) else (bif decide (s.size ≤ 10000) then (bif re s != 0 then some (.val (.tup [.agg [.ints .i64 [], .rows 2 [], .bool false, .ints .u32 [], .bool false, .ints .u32 []], .int .i64 (re s)])) else (bif cdec (Ends T orc L0 D0 (st0e x s) .ret (st0x1 x s)) then some (.val (.tup [.agg [.ints .i64 [], .rows 2 [], .bool false, .ints .u32 [], .bool false, .ints .u32 []], .int .i64 (vE (gInt ((x.getD 0 []).getD 0 .top)))])) else none)) else none)) := by kernel_rfl
theorem rest_3 (x : List (List AV)) (s : ByteArray) : runT T orc (tabOf T orc [(8, 60458903645984008203565024201108047226079202216835569304044148288175646339773922611752686, .ret, st0x2 x s)]) Try.f15 [.agg [.rows 2 x, .str s]] =
    (bif decide ((↑x.length : Int) > 4096) then some (.val (.tup [.agg [.ints .i64 [], .rows 2 [], .bool false, .ints .u32 [], .bool false, .ints .u32 []], .int .i64 (2)])) else (bif decide (s.size ≤ 10000) then (bif re s != 0 then some (.val (.tup [.agg [.ints .i64 [], .rows 2 [], .bool false, .ints .u32 [], .bool false, .ints .u32 []], .int .i64 (re s)])) else (bif cdec (Ends T orc L0 D0 (st0e x s) .ret (st0x2 x s)) then some (.val (.tup [.agg [.ints .i64 [], .rows 2 [], .bool false, .ints .u32 [], .bool false, .ints .u32 []], .int .i64 (re (gStr ((x.getD 0 []).getD 1 .top)))])) else none)) else none)) := by kernel_rfl
theorem rest_4 (x : List (List AV)) (s : ByteArray) : runT T orc (tabOf T orc [(8, 60458903645984008203565024201108047226079202216835569304044148288175646339773922611752686, .exit 0, st0e x s)]) Try.f15 [.agg [.rows 2 x, .str s]] =
    (bif decide ((↑x.length : Int) > 4096) then some (.val (.tup [.agg [.ints .i64 [], .rows 2 [], .bool false, .ints .u32 [], .bool false, .ints .u32 []], .int .i64 (2)])) else (bif decide (s.size ≤ 10000) then (bif re s != 0 then some (.val (.tup [.agg [.ints .i64 [], .rows 2 [], .bool false, .ints .u32 [], .bool false, .ints .u32 []], .int .i64 (re s)])) else (bif cdec (Ends T orc L0 D0 (st0e x s) (.exit 0) (st0e x s)) then some (.val (.tup [.agg [.ints .i64 [], .rows 2 [], .bool false, .ints .u32 [], .bool (sg (rv s)), .ints .u32 (lb (4294967296) (rv s))], .int .i64 (0)])) else none)) else none)) := by kernel_rfl
end NRead
namespace NTight
abbrev ans : Ans := [(25, ansLCommon), (57, ansCmp), (61, ansFrom), (67, ansDiv), (68, ansLPut)]
abbrev orc : Orc := orcOf ans
noncomputable def L0 : Code := lp Try.f22 0
theorem isL0 : ∃ a, L0 = .loop a := ⟨_, rfl⟩
abbrev D0 : List Nat := [0, 1, 2, 3, 4, 10, 11, 12, 13, 14, 15, 16, 18, 19, 20, 21, 22]
abbrev st0 (vs : List Int) (r : List (List AV)) (b : Bool) (m : List Int) (s : Bool) (l : List Int) (x0 : Int) (l0 : List Int) (r0 : List (List AV)) : St := ⟨.agg [.ints .i64 vs, .rows 2 r, .bool b, .ints .u32 m, .bool s, .ints .u32 l] :: .ptr 1 0 0 :: .ptr 2 0 0 :: .ptr 3 0 0 :: .ptr 4 0 0 :: tops 5 (.ptr 1 0 0 :: .agg [.ints .i64 vs, .rows 2 r, .bool b, .ints .u32 m] :: R (gcdL (dl vs r)) :: R (gcdL (dl vs r)) :: .agg [.bool false, .ints .u32 (lb (4294967296) (1))] :: .int .i64 (cmpZ (N (4294967296) (gcdL (dl vs r))) (num (4294967296) false (lb (4294967296) (1)))) :: .bool (decide (cmpZ (N (4294967296) (gcdL (dl vs r))) (num (4294967296) false (lb (4294967296) (1))) ≤ 0)) :: tops 1 (.ptr 1 0 0 :: .ptr 1 0 0 :: .ints .i64 vs :: .int .i64 (↑vs.length : Int) :: .int .i64 x0 :: tops 31 ([]))), nos 1 (varE [(false, .ints .i64 vs), (false, .rows 2 r), (false, .bool b), (false, .ints .u32 m), (false, .bool s), (false, .ints .u32 l)] :: varE [(true, .ints .i64 []), (true, .rows 2 []), (false, .bool false), (true, .ints .u32 []), (false, .bool false), (true, .ints .u32 [])] :: varE [(false, .bool (sg (gcdL (dl vs r)))), (false, .ints .u32 (lb (4294967296) (gcdL (dl vs r))))] :: varE [(true, .ints .i64 l0), (true, .rows 2 r0), (false, .bool false), (true, .ints .u32 []), (false, .bool false), (true, .ints .u32 [])] :: nos 49 ([]))⟩
theorem round0 (vs : List Int) (r : List (List AV)) (b : Bool) (m : List Int) (s : Bool) (l : List Int) (x0 : Int) (l0 : List Int) (r0 : List (List AV)) : goL T orc (noTab) D0 L0 (st0 vs r b m s l x0 l0 r0) =
    (bif decide (x0 < (↑vs.length : Int)) then (bif inB x0 vs.length then (bif inB x0 r.length then (bif etasOk [.bool false, .ints .u32 []] (r.getD x0.toNat []) then (bif cn (4294967296) (gBool ((r.getD x0.toNat []).getD 0 .top)) (gInts ((r.getD x0.toNat []).getD 1 .top)) && cn (4294967296) (sg (gcdL (dl vs r))) (lb (4294967296) (gcdL (dl vs r))) then (bif cn (4294967296) (sg (dq (num (4294967296) (gBool ((r.getD x0.toNat []).getD 0 .top)) (gInts ((r.getD x0.toNat []).getD 1 .top))) (N (4294967296) (gcdL (dl vs r))))) (lb (4294967296) (dq (num (4294967296) (gBool ((r.getD x0.toNat []).getD 0 .top)) (gInts ((r.getD x0.toNat []).getD 1 .top))) (N (4294967296) (gcdL (dl vs r))))) && decide (l0.length ≤ 100000) && decide (r0.length ≤ 100000) && true && true then some (.normal, st0 vs r b m s l (IntKind.i64.wrap (x0 + 1)) (putV (N (4294967296) (dq (num (4294967296) (gBool ((r.getD x0.toNat []).getD 0 .top)) (gInts ((r.getD x0.toNat []).getD 1 .top))) (N (4294967296) (gcdL (dl vs r))))) l0 (rd vs x0)) (putR (N (4294967296) (dq (num (4294967296) (gBool ((r.getD x0.toNat []).getD 0 .top)) (gInts ((r.getD x0.toNat []).getD 1 .top))) (N (4294967296) (gcdL (dl vs r))))) r0 [.bool (sg (dq (num (4294967296) (gBool ((r.getD x0.toNat []).getD 0 .top)) (gInts ((r.getD x0.toNat []).getD 1 .top))) (N (4294967296) (gcdL (dl vs r))))), .ints .u32 (lb (4294967296) (dq (num (4294967296) (gBool ((r.getD x0.toNat []).getD 0 .top)) (gInts ((r.getD x0.toNat []).getD 1 .top))) (N (4294967296) (gcdL (dl vs r)))))])) else none) else none) else none) else none) else none) else some (.exit 0, st0 vs r b m s l x0 l0 r0)) := by kernel_rfl
-- loop 0 ends exit0 st0 vs r b m s l x0 l0 r0
theorem rest (vs : List Int) (r : List (List AV)) (b : Bool) (m : List Int) (s : Bool) (l : List Int) (l1 : List Int) (r1 : List (List AV)) (x1 : Int) : runT T orc (tabOf T orc [(6, 50023372020407860542733940905981293513040552842377359224063586030, .exit 0, st0 vs r b m s l x1 l1 r1)]) Try.f22 [.agg [.ints .i64 vs, .rows 2 r, .bool b, .ints .u32 m, .bool s, .ints .u32 l]] =
    (bif isl vs r then (bif cn (4294967296) (sg (gcdL (dl vs r))) (lb (4294967296) (gcdL (dl vs r))) && true then (bif decide (cmpZ (N (4294967296) (gcdL (dl vs r))) (num (4294967296) false (lb (4294967296) (1))) ≤ 0) then some (.val (.agg [.ints .i64 vs, .rows 2 r, .bool b, .ints .u32 m, .bool s, .ints .u32 l])) else (bif cdec (Ends T orc L0 D0 (st0 vs r b m s l (0) ([]) ([])) (.exit 0) (st0 vs r b m s l x1 l1 r1)) then (bif cn (4294967296) s l && cn (4294967296) (sg (gcdL (dl vs r))) (lb (4294967296) (gcdL (dl vs r))) then some (.val (.agg [.ints .i64 l1, .rows 2 r1, .bool false, .ints .u32 [], .bool (sg (dq (num (4294967296) s l) (N (4294967296) (gcdL (dl vs r))))), .ints .u32 (lb (4294967296) (dq (num (4294967296) s l) (N (4294967296) (gcdL (dl vs r)))))])) else none) else none)) else none) else none) := by kernel_rfl
end NTight
end
end Go.Abs
end
section
/- What linear's functions answer: a row that is read, a row made tight. -/
namespace Go.Abs
open Go.Proofs Go.Dig
/-- A loop's first round, and what follows. -/
theorem loop_first {T : Tbl} {orc : Orc} {L : Code} {D : List Nat} {S : St} {y : Option (Ex × St)} {tab : Tab} (Q : Ex → St → Prop) (hL : ∃ a, L = .loop a) (ht : ∀ C, TabOk T orc tab C) (h : goL T orc tab D L S = y)
    (hy : Lands y (fun e S' => match e with | .normal => ∃ e S1, Ends T orc L D S' e S1 ∧ Q e S1 | e => Q e S')) : ∃ e S1, Ends T orc L D S e S1 ∧ Q e S1 := by
  obtain ⟨a, rfl⟩ := hL
  obtain ⟨e, S', rfl, h2⟩ := hy
  cases e with
  | normal =>
    obtain ⟨e, S1, h3, h4⟩ := h2
    exact ⟨e, S1, ends_next (ht _) h h3, h4⟩
  | exit i => exact ⟨_, S', ends_exit (ht _) h, h2⟩
  | ret => exact ⟨_, S', ends_ret (ht _) h, h2⟩
theorem cP0 (p : Int × ByteArray) : gInt ((cP p).getD 0 .top) = p.1 := rfl
theorem cP1 (p : Int × ByteArray) : gStr ((cP p).getD 1 .top) = p.2 := rfl
theorem cPeta (p : Int × ByteArray) : etasOk [.int .i64 0, .str { data := #[] }] (cP p) = true := rfl
theorem dl_nil : dl [] [] = [] := dl_map []
theorem isT_nil : isT [] [] false [] = true := isT_row (isl_iff.2 ⟨[], okL_nil, rfl, rfl⟩)
theorem scale_lone (v : Int) {k : Int} (hk : fits k = true) : scE (lone v 1) 0 k = 0 ∧ scL (lone v 1) 0 k = lone v k ∧ scC (lone v 1) 0 k = 0 := by
  have hz : ∀ w, cf (lone v 1) w * k = if (0 ≤ v ∧ v < 4096) ∧ w = v then k else 0 := fun w => by
    rw [cf_lone]; split
    · exact Int.one_mul k
    · exact Int.zero_mul k
  rcases scE_cases (lone v 1) 0 k with ⟨e1, e2, e3, _⟩ | ⟨_, _, _, e4⟩
  · refine ⟨e1, ?_, by rw [e3, Int.zero_mul]⟩
    rw [e2]
    have h1 : okL (lone v k) := okL_lone v hk
    refine (ofF_congr (fun w h1 h2 => ?_)).trans (okL_canon h1).symm
    rw [hz, cf_lone]
  · refine absurd ⟨by rw [Int.zero_mul]; exact fits0, fun w => ?_⟩ e4
    rw [hz]; split
    · exact hk
    · exact fits0
theorem addC_zero (l m : List (Int × Int)) : addC l m 0 0 = 0 := by
  rcases addE_cases l m 0 0 with ⟨_, _, h, _⟩ | ⟨_, _, h, _⟩ <;> rw [h]
  rfl
theorem rdF_drop {ms : List (Int × ByteArray)} {i : Nat} (hi : i < ms.length) (q : List (Int × Int)) : rdF q (ms.drop i) = bif !(vE ms[i].1 == 0) then (vE ms[i].1, []) else bif !(re ms[i].2 == 0) then (re ms[i].2, []) else bif addE q (lone ms[i].1 (rv ms[i].2)) 0 0 == 0 then rdF (addL q (lone ms[i].1 (rv ms[i].2)) 0 0) (ms.drop (i + 1)) else (addE q (lone ms[i].1 (rv ms[i].2)) 0 0, []) := by
  rw [List.drop_eq_getElem_cons hi]; rfl
theorem vE_cases (v : Int) : (vok v = true ∧ vE v = 0) ∨ (vok v = false ∧ vE v = 30) := by
  unfold vE
  cases vok v with
  | true => exact .inl ⟨rfl, rfl⟩
  | false => exact .inr ⟨rfl, rfl⟩
namespace NRead
def Post (ms : List (Int × ByteArray)) (s : ByteArray) (e : Ex) (S1 : St) : Prop :=
  (e = .exit 0 ∧ ∃ q, okL q ∧ rdF [] ms = (0, q) ∧ ((∃ x, S1 = st0 (ms.map cP) s x (lvs q) (lrs q) false []) ∨ (q = [] ∧ S1 = st0e (ms.map cP) s))) ∨
  (e = .ret ∧ ∃ n, n ≠ 0 ∧ rdF [] ms = (n, []) ∧ ((∃ x l r b l', S1 = st0x0 (ms.map cP) s n x l r b l') ∨ (n = vE (gInt (((ms.map cP).getD 0 []).getD 0 .top)) ∧ S1 = st0x1 (ms.map cP) s) ∨ (n = re (gStr (((ms.map cP).getD 0 []).getD 1 .top)) ∧ S1 = st0x2 (ms.map cP) s)))
theorem loop (ms : List (Int × ByteArray)) (s : ByteArray) (hm : ∀ p ∈ ms, p.2.size ≤ 10000) (hlen : ms.length ≤ 4096) (i0 : Nat) (q0 : List (Int × Int)) (h0 : i0 ≤ ms.length) (hq0 : okL q0) (hr0 : rdF q0 (ms.drop i0) = rdF [] ms) : ∃ e S1, Ends T orc L0 D0 (st0 (ms.map cP) s i0 (lvs q0) (lrs q0) false []) e S1 ∧ Post ms s e S1 := by
  refine loop_inv2 (fun (i : Nat) (q : List (Int × Int)) => st0 (ms.map cP) s i (lvs q) (lrs q) false []) (fun i q => i ≤ ms.length ∧ okL q ∧ rdF q (ms.drop i) = rdF [] ms) (fun i q => ms.length - i)
    (Post ms s) isL0 ?_ i0 q0 ⟨h0, hq0, hr0⟩
  intro i q ⟨h1, h2, h3⟩
  refine ⟨noTab, noTab_all, lands_of (round0 ..) ?_⟩
  by_cases hi : i < ms.length
  · have hsz := hm _ (List.getElem_mem hi)
    rw [rdF_drop hi] at h3
    rw [List.length_map, ltN hi, inN hi, getP hi]
    simp only [cP0, cP1, cPeta, cond_true, hsz, decide_true]
    rcases vE_cases ms[i].1 with ⟨v1, v2⟩ | ⟨v1, v2⟩
    · rw [v2] at h3
      rw [v2, v1]
      by_cases he : re ms[i].2 = 0
      · rw [he] at h3
        have hfr := fits_rv ms[i].2
        obtain ⟨s1, s2, s3⟩ := scale_lone ms[i].1 hfr
        rw [he]
        simp only [bne_self_eq_false, cond_true, cond_false, isT_of0 (okL_lone ms[i].1 (show fits 1 = true from by kernel_rfl)), cnW_fits hfr, N_eq, hfr, Bool.and_self, dl_lvs, s1, s2, s3, isT_of0 h2, isT_of (okL_lone ms[i].1 hfr) fits0, num_zero]
        have h3 : (bif addE q (lone ms[i].1 (rv ms[i].2)) 0 0 == 0 then rdF (addL q (lone ms[i].1 (rv ms[i].2)) 0 0) (ms.drop (i + 1)) else (addE q (lone ms[i].1 (rv ms[i].2)) 0 0, [])) = rdF [] ms := h3
        rcases addE_cases q (lone ms[i].1 (rv ms[i].2)) 0 0 with ⟨a1, _⟩ | ⟨a1, _⟩
        · rw [a1] at h3
          rw [a1, addC_zero]
          simp only [bne_self_eq_false, cond_false, wi_succ (show i < 4611686018427387904 by omega), lands_some, Turns2]
          exact ⟨i + 1, addL q (lone ms[i].1 (rv ms[i].2)) 0 0, rfl, ⟨by omega, okL_add _ _ _ _, h3⟩, by omega⟩
        · rw [a1] at h3
          rw [a1]
          simp only [show ((11 : Int) != 0) = true from rfl, cond_true, lands_some, Turns2]
          exact .inr ⟨rfl, 11, by decide, h3.symm, .inl ⟨i, _, _, _, _, rfl⟩⟩
      · rw [show (re ms[i].2 == 0) = false from beq_eq_false_iff_ne.2 he] at h3
        rw [ne_b he]
        simp only [bne_self_eq_false, cond_true, cond_false, lands_some, Turns2]
        exact .inr ⟨rfl, re ms[i].2, he, h3.symm, .inl ⟨i, _, _, _, _, rfl⟩⟩
    · rw [v2] at h3
      rw [v2]
      simp only [show ((30 : Int) != 0) = true from rfl, cond_true, lands_some, Turns2]
      exact .inr ⟨rfl, 30, by decide, h3.symm, .inl ⟨i, _, _, _, _, rfl⟩⟩
  · have hd : ms.drop i = [] := List.drop_of_length_le (by omega)
    rw [hd] at h3
    rw [List.length_map, ltN' hi]
    simp only [cond_false, lands_some, Turns2]
    exact .inl ⟨rfl, q, h2, h3.symm, .inl ⟨i, rfl⟩⟩
theorem first (ms : List (Int × ByteArray)) (s : ByteArray) (hm : ∀ p ∈ ms, p.2.size ≤ 10000) (hlen : ms.length ≤ 4096) : ∃ e S1, Ends T orc L0 D0 (st0e (ms.map cP) s) e S1 ∧ Post ms s e S1 := by
  refine loop_first (Post ms s) isL0 noTab_all (round0e ..) ?_
  by_cases hi : 0 < ms.length
  · have hsz := hm _ (List.getElem_mem hi)
    have h3 : rdF [] ms = _ := rdF_drop hi []
    have hget : (ms.map cP).getD 0 [] = cP ms[0] := getP hi
    rw [List.length_map, show decide ((0 : Int) < (ms.length : Int)) = true from decide_eq_true (by omega), show inB 0 ms.length = true from inN hi, hget]
    simp only [cP0, cP1, cPeta, cond_true, hsz, decide_true]
    rcases vE_cases ms[0].1 with ⟨v1, v2⟩ | ⟨v1, v2⟩
    · rw [v2] at h3
      rw [v2, v1]
      by_cases he : re ms[0].2 = 0
      · rw [he] at h3
        have hfr := fits_rv ms[0].2
        obtain ⟨s1, s2, s3⟩ := scale_lone ms[0].1 hfr
        rw [he]
        simp only [bne_self_eq_false, cond_true, cond_false, isT_of0 (okL_lone ms[0].1 (show fits 1 = true from by kernel_rfl)), cnW_fits hfr, N_eq, hfr, Bool.and_self, dl_lvs, s1, s2, s3, dl_nil, isT_nil, isT_of (okL_lone ms[0].1 hfr) fits0, num_zero]
        have h3 : rdF [] ms = (bif addE [] (lone ms[0].1 (rv ms[0].2)) 0 0 == 0 then rdF (addL [] (lone ms[0].1 (rv ms[0].2)) 0 0) (ms.drop (0 + 1)) else (addE [] (lone ms[0].1 (rv ms[0].2)) 0 0, [])) := h3
        rcases addE_cases [] (lone ms[0].1 (rv ms[0].2)) 0 0 with ⟨a1, _⟩ | ⟨a1, _⟩
        · rw [a1] at h3
          rw [a1, addC_zero]
          simp only [bne_self_eq_false, cond_false, lands_some]
          exact loop ms s hm hlen 1 (addL [] (lone ms[0].1 (rv ms[0].2)) 0 0) hi (okL_add _ _ _ _) h3.symm
        · rw [a1] at h3
          rw [a1]
          simp only [show ((11 : Int) != 0) = true from rfl, cond_true, lands_some]
          exact .inr ⟨rfl, 11, by decide, h3, .inl ⟨0, _, _, _, _, rfl⟩⟩
      · rw [show (re ms[0].2 == 0) = false from beq_eq_false_iff_ne.2 he] at h3
        rw [ne_b he]
        simp only [bne_self_eq_false, cond_true, cond_false, lands_some]
        refine .inr ⟨rfl, re ms[0].2, he, h3, .inr (.inr ⟨?_, rfl⟩)⟩
        rw [hget]
        rfl
    · rw [v2] at h3
      rw [v2]
      simp only [show ((30 : Int) != 0) = true from rfl, cond_true, lands_some]
      refine .inr ⟨rfl, 30, by decide, h3, .inr (.inl ⟨?_, rfl⟩)⟩
      rw [hget]
      exact v2.symm
  · have hd : ms = [] := List.eq_nil_of_length_eq_zero (by omega)
    subst hd
    rw [show decide ((0 : Int) < (([] : List (Int × ByteArray)).map cP).length) = false from rfl]
    simp only [cond_false, lands_some]
    exact .inl ⟨rfl, [], okL_nil, rfl, .inr ⟨rfl, rfl⟩⟩
end NRead
theorem okL_rdF : ∀ (ms : List (Int × ByteArray)) (q : List (Int × Int)), okL q → okL (rdF q ms).2
  | [], q, h => h
  | (v, s) :: r, q, h => by
    show okL (bif !(vE v == 0) then (vE v, []) else bif !(re s == 0) then (re s, []) else bif addE q (lone v (rv s)) 0 0 == 0 then rdF (addL q (lone v (rv s)) 0 0) r else (addE q (lone v (rv s)) 0 0, [])).2
    cases !(vE v == 0) with
    | true => exact okL_nil
    | false =>
      cases !(re s == 0) with
      | true => exact okL_nil
      | false =>
        cases addE q (lone v (rv s)) 0 0 == 0 with
        | true => exact okL_rdF r _ (okL_add _ _ _ _)
        | false => exact okL_nil
theorem okL_rd (ms : List (Int × ByteArray)) (s : ByteArray) : okL (rdL ms s) := by
  rw [rdL_eq]
  cases rdE ms s == 0 with
  | true => exact okL_rdF ms [] okL_nil
  | false => exact okL_nil
/-- What is read, case by case. -/
theorem rd_cases (ms : List (Int × ByteArray)) (s : ByteArray) : (ms.length > 4096 ∧ rdE ms s = 2 ∧ rdL ms s = [] ∧ rdM ms s = 0) ∨ (ms.length ≤ 4096 ∧ re s ≠ 0 ∧ rdE ms s = re s ∧ rdL ms s = [] ∧ rdM ms s = 0) ∨
    (ms.length ≤ 4096 ∧ re s = 0 ∧ rdE ms s = (rdF [] ms).1 ∧ (((rdF [] ms).1 = 0 ∧ rdL ms s = (rdF [] ms).2 ∧ rdM ms s = rv s) ∨ ((rdF [] ms).1 ≠ 0 ∧ rdL ms s = [] ∧ rdM ms s = 0))) := by
  have hE := rdE_eq ms s
  have hL := rdL_eq ms s
  have hM := rdM_eq ms s
  by_cases h1 : ms.length > 4096
  · rw [decide_eq_true h1] at hE
    have hE : rdE ms s = 2 := hE
    rw [hE] at hL hM
    exact .inl ⟨h1, hE, hL, hM⟩
  · rw [decide_eq_false h1, cond_false] at hE
    by_cases h2 : re s = 0
    · rw [h2] at hE
      have hE : rdE ms s = (rdF [] ms).1 := hE
      refine .inr (.inr ⟨by omega, h2, hE, ?_⟩)
      rw [hE] at hL hM
      by_cases h3 : (rdF [] ms).1 = 0
      · rw [h3] at hL hM
        exact .inl ⟨h3, hL, hM⟩
      · rw [show ((rdF [] ms).1 == 0) = false from beq_eq_false_iff_ne.2 h3] at hL hM
        exact .inr ⟨h3, hL, hM⟩
    · have hb : (re s == 0) = false := beq_eq_false_iff_ne.2 h2
      rw [hb] at hE
      have hE : rdE ms s = re s := hE
      rw [hE, hb] at hL hM
      exact .inr (.inl ⟨by omega, h2, hE, hL, hM⟩)
theorem meets_nread (hadd : Meets Try.prog 46 ansLAdd) : Meets Try.prog 15 ansLRead := by
  refine meets_fn (orc_ok (l := NRead.ans) ⟨meets_parse, meets_nvar, meets_nscale, hadd, trivial⟩) Try.f15 Try.func15 (by kernel_rfl) (fun args r h => ?_)
  unfold ansLRead at h
  split at h
  · rename_i x s
    simp only [Option.some.injEq, Prod.mk.injEq, Bool.and_eq_true, Bool.or_eq_true, decide_eq_true_eq] at h
    obtain ⟨⟨⟨h1, h2⟩, h3⟩, rfl⟩ := h
    obtain ⟨ms, _, rfl⟩ := isq_iff.1 h2
    rw [dp_map]
    rw [List.length_map] at h3
    rcases rd_cases ms s with ⟨c1, c2, c3, c4⟩ | ⟨c1, c0, c2, c3, c4⟩ | ⟨c1, c0, c2, c3⟩
    · rw [c2, c3, c4, lvs_nil, lrs_nil]
      refine ⟨rfl, _, tabOf_all _, (NRead.rest_4 (ms.map cP) s).trans (bT ?_)⟩
      rw [List.length_map, decide_eq_true_eq]; omega
    · rw [c2, c3, c4, lvs_nil, lrs_nil]
      refine ⟨rfl, _, tabOf_all _, (NRead.rest_4 (ms.map cP) s).trans ((bF ?_).trans ((bT (decide_eq_true h1)).trans (bT (ne_b c0))))⟩
      rw [List.length_map, decide_eq_false_iff_not]; omega
    · have hg : decide (((ms.map cP).length : Int) > 4096) = false := by rw [List.length_map, decide_eq_false_iff_not]; omega
      have hm : ∀ p ∈ ms, p.2.size ≤ 10000 := by
        rcases h3 with h3 | h3
        · omega
        · obtain ⟨ms', k1, k2⟩ := isp_iff.1 h3
          have : ms = ms' := by rw [← dp_map ms, ← dp_map ms', k2]
          subst this
          exact fun p hp => (k1 p hp).2
      obtain ⟨e1, S1, hE1, hP⟩ := NRead.first ms s hm c1
      rcases hP with ⟨rfl, q, k1, k2, ⟨x, rfl⟩ | ⟨rfl, rfl⟩⟩ | ⟨rfl, n, k1, k2, ⟨x, l, r, b, l', rfl⟩ | ⟨k3, rfl⟩ | ⟨k3, rfl⟩⟩
      · rw [k2] at c2 c3
        rcases c3 with ⟨_, c3, c4⟩ | ⟨c3, _⟩
        · rw [c2, c3, c4]
          exact ⟨rfl, _, tabOf_all _, (NRead.rest_1 (ms.map cP) s (lvs q) (lrs q) false [] x).trans ((bF hg).trans ((bT (decide_eq_true h1)).trans ((bF (eq_b c0)).trans (bT (cdec_true hE1)))))⟩
        · exact absurd rfl c3
      · rw [k2] at c2 c3
        rcases c3 with ⟨_, c3, c4⟩ | ⟨c3, _⟩
        · rw [c2, c3, c4, lvs_nil, lrs_nil]
          exact ⟨rfl, _, tabOf_all _, (NRead.rest_4 (ms.map cP) s).trans ((bF hg).trans ((bT (decide_eq_true h1)).trans ((bF (eq_b c0)).trans (bT (cdec_true hE1)))))⟩
        · exact absurd rfl c3
      · rw [k2] at c2 c3
        rcases c3 with ⟨c3, _⟩ | ⟨_, c3, c4⟩
        · exact absurd c3 k1
        · rw [c2, c3, c4, lvs_nil, lrs_nil]
          exact ⟨rfl, _, tabOf_all _, (NRead.rest_0 (ms.map cP) s n x l r b l').trans ((bF hg).trans ((bT (decide_eq_true h1)).trans ((bF (eq_b c0)).trans (bT (cdec_true hE1)))))⟩
      · rw [k2] at c2 c3
        rcases c3 with ⟨c3, _⟩ | ⟨_, c3, c4⟩
        · exact absurd c3 k1
        · rw [c2, c3, c4, lvs_nil, lrs_nil]
          exact ⟨rfl, _, tabOf_all _, (NRead.rest_2 (ms.map cP) s).trans ((bF hg).trans ((bT (decide_eq_true h1)).trans ((bF (eq_b c0)).trans ((bT (cdec_true hE1)).trans (by rw [k3]; rfl)))))⟩
      · rw [k2] at c2 c3
        rcases c3 with ⟨c3, _⟩ | ⟨_, c3, c4⟩
        · exact absurd c3 k1
        · rw [c2, c3, c4, lvs_nil, lrs_nil]
          exact ⟨rfl, _, tabOf_all _, (NRead.rest_3 (ms.map cP) s).trans ((bF hg).trans ((bT (decide_eq_true h1)).trans ((bF (eq_b c0)).trans ((bT (cdec_true hE1)).trans (by rw [k3]; rfl)))))⟩
  · cases h
theorem dq_zero (g : Int) : dq 0 g = 0 := by unfold dq; split <;> simp
theorem fits_dqz {x y : Int} (h : fits x = true) : fits (dq x y) = true := by
  unfold dq
  split
  · exact fits0
  · rename_i h0
    refine fits_le h ?_
    rcases Int.lt_trichotomy y 0 with hy | hy | hy
    · rw [show x.fdiv y = (-x).fdiv (-y) from (Int.neg_fdiv_neg x y).symm, Int.fdiv_eq_ediv_of_nonneg _ (by omega)]
      have := Int.natAbs_ediv_le_natAbs (-x) (-y)
      omega
    · exact absurd hy h0
    · rw [Int.fdiv_eq_ediv_of_nonneg _ (by omega)]
      exact Int.natAbs_ediv_le_natAbs x y
theorem okL_ti {l : List (Int × Int)} (h : okL l) : okL (tiL l) := by
  rw [tiL_eq]
  cases decide (gcdL l ≤ 1) with
  | true => exact h
  | false =>
    rw [cond_false]
    exact okL_ofF (fun v _ _ => fits_dqz (okL_cf h v))
namespace NTight
theorem loop (l : List (Int × Int)) (b : Bool) (m : List Int) (s : Bool) (ll : List Int) (hl : okL l) : ∃ e S1, Ends T orc L0 D0 (st0 (l.map (fun p => p.1)) (l.map cL) b m s ll 0 [] []) e S1 ∧ e = .exit 0 ∧ ∃ x, S1 = st0 (l.map (fun p => p.1)) (l.map cL) b m s ll x ((ofF (fun v => dq (cf l v) (gcdL l))).map (fun p => p.1)) ((ofF (fun v => dq (cf l v) (gcdL l))).map cL) := by
  have g0 : ∀ w : Int, dq 0 (gcdL l) = 0 := fun w => dq_zero _
  have hz := map_step0 (g := fun _ z => dq z (gcdL l)) g0 l
  have key : ∃ e S1, Ends T orc L0 D0 (st0 (l.map (fun p => p.1)) (l.map cL) b m s ll ((0 : Nat) : Int) ((ofF (fun v => dq (cf (l.take 0) v) (gcdL l))).map (fun p => p.1)) ((ofF (fun v => dq (cf (l.take 0) v) (gcdL l))).map cL)) e S1 ∧ e = .exit 0 ∧ ∃ x, S1 = st0 (l.map (fun p => p.1)) (l.map cL) b m s ll x ((ofF (fun v => dq (cf l v) (gcdL l))).map (fun p => p.1)) ((ofF (fun v => dq (cf l v) (gcdL l))).map cL) := by
    refine loop_inv1 (fun (i : Nat) => st0 (l.map (fun p => p.1)) (l.map cL) b m s ll i ((ofF (fun v => dq (cf (l.take i) v) (gcdL l))).map (fun p => p.1)) ((ofF (fun v => dq (cf (l.take i) v) (gcdL l))).map cL)) (fun i => i ≤ l.length) (fun i => l.length - i)
      (fun e S1 => e = .exit 0 ∧ ∃ x, S1 = st0 (l.map (fun p => p.1)) (l.map cL) b m s ll x ((ofF (fun v => dq (cf l v) (gcdL l))).map (fun p => p.1)) ((ofF (fun v => dq (cf l v) (gcdL l))).map cL)) isL0 ?_ 0 (Nat.zero_le _)
    intro i h1
    have hlen := okL_len hl
    refine ⟨noTab, noTab_all, lands_of (round0 ..) ?_⟩
    by_cases hi : i < l.length
    · have hf := okL_mem hl (List.getElem_mem hi)
      have hs := map_step (okL_asc hl) (okL_in hl) (g := fun _ z => dq z (gcdL l)) g0 hi
      have ho := ofF_len (fun v => dq (cf (l.take i) v) (gcdL l))
      have hd := fits_dqz (y := gcdL l) hf
      rw [List.length_map, List.length_map, ltN hi, inN hi, getL hi, rdV hi, dl_map]
      simp only [cL0, cL1, cLeta, cnW_fits hf, num_lbW, N_eq, cnW_fits (gcdL_fits hl), cnW_fits hd, cond_true, Bool.true_and, Bool.and_true, List.length_map]
      rw [decide_eq_true (show (ofF (fun v => dq (cf (l.take i) v) (gcdL l))).length ≤ 100000 by omega), putV_map, putR_map, hs]
      simp only [cond_true, Bool.and_self, wi_succ (show i < 4611686018427387904 by omega), lands_some, Turns1]
      exact ⟨i + 1, rfl, by omega, by omega⟩
    · rw [List.length_map, ltN' hi]
      simp only [cond_false, lands_some, Turns1]
      have hil : l.take i = l := List.take_of_length_le (by omega)
      rw [hil]
      exact ⟨trivial, i, rfl⟩
  rw [hz] at key
  exact key
end NTight
theorem meets_ntight : Meets Try.prog 22 ansLTight := by
  refine meets_fn (orc_ok (l := NTight.ans) ⟨meets_ncommon, meets_cmp, meets_from, meets_div, meets_lput, trivial⟩) Try.f22 Try.func22 (by kernel_rfl) (fun args r h => ?_)
  unfold ansLTight at h
  split at h
  · rename_i vs r b m s ll
    simp only [Option.some.injEq, Prod.mk.injEq, Bool.and_eq_true, Bool.not_eq_true'] at h
    obtain ⟨⟨⟨⟨⟨h1, rfl⟩, h3⟩, h4⟩, h5⟩, rfl⟩ := h
    obtain rfl := isEmpty_nil h3
    obtain ⟨c, rfl, rfl, _⟩ := (cn_iff W_two).1 h4
    rw [num_lbW] at h5
    obtain ⟨l, k1, rfl, rfl⟩ := isl_iff.1 h1
    obtain ⟨e1, S1, hE1, rfl, x, rfl⟩ := NTight.loop l false [] (sg c) (lb 4294967296 c) k1
    refine ⟨rfl, _, tabOf_all _, (NTight.rest _ _ _ _ _ _ ((ofF (fun v => dq (cf l v) (gcdL l))).map (fun p => p.1)) ((ofF (fun v => dq (cf l v) (gcdL l))).map cL) x).trans ?_⟩
    have hL := tiL_eq l
    have hM := tiM_eq l c
    rw [h1, dl_map, cnW_fits (gcdL_fits k1), N_eq, num_lbW, cmp_le, show num 4294967296 false (lb 4294967296 1) = 1 from num_lbW 1, h4, cdec_true hE1]
    cases hb : decide (gcdL l ≤ 1) with
    | true =>
      rw [hb, cond_true] at hL hM
      rw [hL, hM, lvs_eq l, lrs_eq l]
      rfl
    | false =>
      rw [hb, cond_false] at hL hM
      rw [hL, hM, lvs_eq, lrs_eq]
      rfl
  · cases h
end Go.Abs
end
section
/- What the reference of linear answers: rows that are read, compared, made tight, turned about; the term of a list of parts. -/
namespace Go.Abs
open Go.Proofs Go.Dig
theorem plP0 (p : Int × ByteArray) : gInt ((List.take 1 (List.drop 0 (cP p))).getD 0 .top) = p.1 := rfl
theorem plP0e (p : Int × ByteArray) : etaOk (.int .i64 0) ((List.take 1 (List.drop 0 (cP p))).getD 0 .top) = true := rfl
theorem plP1 (p : Int × ByteArray) : gStr ((List.take 1 (List.drop 1 (cP p))).getD 0 .top) = p.2 := rfl
theorem plP1e (p : Int × ByteArray) : etaOk (.str { data := #[] }) ((List.take 1 (List.drop 1 (cP p))).getD 0 .top) = true := rfl
theorem placeP1 (p : Int × ByteArray) : Nat.ble 1 (cP p).length = true := rfl
theorem placeP2 (p : Int × ByteArray) : Nat.ble 2 (cP p).length = true := rfl
theorem add_lone {q : List (Int × Int)} (hq : okL q) {v c : Int} (hv : 0 ≤ v ∧ v < 4096) (hc : fits c = true) : (fits (cf q v + c) = true → addE q (lone v c) 0 0 = 0 ∧ addL q (lone v c) 0 0 = wiL q v c) ∧ (fits (cf q v + c) = false → addE q (lone v c) 0 0 = 11) := by
  have hz : ∀ w, cf q w + cf (lone v c) w = if w = v then cf q v + c else cf q w := fun w => by
    rw [cf_lone]
    by_cases hw : w = v
    · rw [if_pos ⟨hv, hw⟩, if_pos hw, hw]
    · rw [if_neg (fun hh => hw hh.2), if_neg hw, Int.add_zero]
  constructor
  · intro hf
    rcases addE_cases q (lone v c) 0 0 with ⟨e1, e2, _⟩ | ⟨_, _, _, e4⟩
    · refine ⟨e1, ?_⟩
      rw [e2, wiL_eq]
      refine ofF_congr (fun w _ _ => ?_)
      rw [hz]
      by_cases hw : w = v
      · rw [decide_eq_true hw, if_pos hw, hw]; rfl
      · rw [decide_eq_false hw, if_neg hw]; rfl
    · refine absurd ⟨fits0, fun w => ?_⟩ e4
      rw [hz]; split
      · exact hf
      · exact okL_cf hq w
  · intro hf
    rcases addE_cases q (lone v c) 0 0 with ⟨_, _, _, _, e5⟩ | ⟨e1, _⟩
    · have := e5 v
      rw [hz, if_pos rfl, hf] at this
      cases this
    · exact e1
/-- The term of a list of parts, part by part. -/
theorem suF_drop {ms : List (Int × ByteArray)} {i : Nat} (hi : i < ms.length) (q : List (Int × Int)) (c : Int) : suF q c (ms.drop i) = bif !(re ms[i].2 == 0) then (re ms[i].2, q, c) else
      bif decide (0 ≤ ms[i].1) then (bif addE q (lone ms[i].1 (rv ms[i].2)) c 0 == 0 then suF (addL q (lone ms[i].1 (rv ms[i].2)) c 0) (addC q (lone ms[i].1 (rv ms[i].2)) c 0) (ms.drop (i + 1)) else (addE q (lone ms[i].1 (rv ms[i].2)) c 0, [], 0))
      else (bif addE q [] c (rv ms[i].2) == 0 then suF (addL q [] c (rv ms[i].2)) (addC q [] c (rv ms[i].2)) (ms.drop (i + 1)) else (addE q [] c (rv ms[i].2), [], 0)) := by
  rw [List.drop_eq_getElem_cons hi]; rfl
theorem suF_cons (v : Int) (s : ByteArray) (r : List (Int × ByteArray)) (q : List (Int × Int)) (c : Int) : suF q c ((v, s) :: r) = bif !(re s == 0) then (re s, q, c) else
      bif decide (0 ≤ v) then (bif addE q (lone v (rv s)) c 0 == 0 then suF (addL q (lone v (rv s)) c 0) (addC q (lone v (rv s)) c 0) r else (addE q (lone v (rv s)) c 0, [], 0))
      else (bif addE q [] c (rv s) == 0 then suF (addL q [] c (rv s)) (addC q [] c (rv s)) r else (addE q [] c (rv s), [], 0)) := rfl
def okP (x : Int × List (Int × Int) × Int) : Prop := okL x.2.1 ∧ fits x.2.2 = true
theorem okP_bif {b : Bool} {x y : Int × List (Int × Int) × Int} (hx : okP x) (hy : okP y) : okP (bif b then x else y) := by
  cases b
  · exact hy
  · exact hx
theorem okP_nil (n : Int) : okP (n, [], 0) := ⟨okL_nil, fits0⟩
theorem okP_suF (ms : List (Int × ByteArray)) : ∀ (q : List (Int × Int)) (c : Int), okL q → fits c = true → okP (suF q c ms) := by
  induction ms with
  | nil => exact fun q c h k => show okP (0, q, c) from And.intro h k
  | cons p r ih =>
    obtain ⟨v, s⟩ := p
    intro q c h k
    rw [suF_cons]
    exact okP_bif (And.intro h k) (okP_bif (okP_bif (ih _ _ (okL_add _ _ _ _) (fits_addC _ _ _ _)) (okP_nil _)) (okP_bif (ih _ _ (okL_add _ _ _ _) (fits_addC _ _ _ _)) (okP_nil _)))
theorem okL_suF (ms : List (Int × ByteArray)) (q : List (Int × Int)) (c : Int) (h : okL q) (k : fits c = true) : okL (suF q c ms).2.1 ∧ fits (suF q c ms).2.2 = true := okP_suF ms q c h k
theorem okL_te (ms : List (Int × ByteArray)) : okL (teL ms) := by rw [teL_eq]; exact (okL_suF ms [] 0 okL_nil fits0).1
theorem fits_te (ms : List (Int × ByteArray)) : fits (teC ms) = true := by rw [teC_eq]; exact (okL_suF ms [] 0 okL_nil fits0).2
end Go.Abs
end
section
/- States and rounds of the functions of linear and of its reference, as a program of this session printed them. -/
set_option maxRecDepth 10000
namespace Go.Abs
open Go.Proofs Go.Dig
noncomputable section
namespace NAdd
abbrev ans : Ans := [(56, ansAdd), (68, ansLPut)]
abbrev orc : Orc := orcOf ans
noncomputable def L0 : Code := lp Try.f46 0
theorem isL0 : ∃ a, L0 = .loop a := ⟨_, rfl⟩
abbrev D0 : List Nat := [0, 1, 2, 3, 4, 5, 6, 7, 8, 9, 10, 13, 14, 15, 16, 17, 18, 19, 20, 21, 22, 25, 26]
abbrev st0 (vs : List Int) (r : List (List AV)) (b : Bool) (m : List Int) (vsz : List Int) (rz : List (List AV)) (bz : Bool) (mz : List Int) (x0 : Int) (x1 : Int) (l0 : List Int) (r0 : List (List AV)) : St := ⟨.agg [.ints .i64 vs, .rows 2 r, .bool b, .ints .u32 m] :: .agg [.ints .i64 vsz, .rows 2 rz, .bool bz, .ints .u32 mz] :: .ptr 2 0 0 :: .ptr 3 0 0 :: .ptr 4 0 0 :: .int .i64 (0) :: .ptr 6 0 0 :: .int .i64 (he (num (4294967296) b m + num (4294967296) bz mz)) :: .ptr 8 0 0 :: .int .i64 x0 :: .int .i64 x1 :: tops 2 (.tup [R (hz (num (4294967296) b m + num (4294967296) bz mz)), .int .i64 (he (num (4294967296) b m + num (4294967296) bz mz))] :: .ptr 2 0 2 :: .agg [.bool b, .ints .u32 m] :: .ptr 3 0 2 :: .agg [.bool bz, .ints .u32 mz] :: .tup [R (hz (num (4294967296) b m + num (4294967296) bz mz)), .int .i64 (he (num (4294967296) b m + num (4294967296) bz mz))] :: R (hz (num (4294967296) b m + num (4294967296) bz mz)) :: .int .i64 (he (num (4294967296) b m + num (4294967296) bz mz)) :: .int .i64 (he (num (4294967296) b m + num (4294967296) bz mz)) :: .bool (he (num (4294967296) b m + num (4294967296) bz mz) != 0) :: tops 2 (R (hz (num (4294967296) b m + num (4294967296) bz mz)) :: .agg [.nil, .nil, .bool (sg (hz (num (4294967296) b m + num (4294967296) bz mz))), .ints .u32 (lb (4294967296) (hz (num (4294967296) b m + num (4294967296) bz mz)))] :: tops 113 ([]))), nos 2 (varE [(false, .ints .i64 vs), (false, .rows 2 r), (false, .bool b), (false, .ints .u32 m)] :: varE [(false, .ints .i64 vsz), (false, .rows 2 rz), (false, .bool bz), (false, .ints .u32 mz)] :: varE [(true, .ints .i64 []), (true, .rows 2 []), (false, .bool false), (true, .ints .u32 [])] :: nos 1 (varE [(false, .bool (sg (hz (num (4294967296) b m + num (4294967296) bz mz)))), (false, .ints .u32 (lb (4294967296) (hz (num (4294967296) b m + num (4294967296) bz mz))))] :: nos 1 (varE [(true, .ints .i64 l0), (true, .rows 2 r0), (false, .bool (sg (hz (num (4294967296) b m + num (4294967296) bz mz)))), (false, .ints .u32 (lb (4294967296) (hz (num (4294967296) b m + num (4294967296) bz mz))))] :: nos 131 ([]))))⟩
abbrev st0x0 (vs : List Int) (r : List (List AV)) (b : Bool) (m : List Int) (vsz : List Int) (rz : List (List AV)) (bz : Bool) (mz : List Int) (x2 : Int) (x0 : Int) (x1 : Int) (l0 : List Int) (r0 : List (List AV)) : St := ⟨.agg [.ints .i64 vs, .rows 2 r, .bool b, .ints .u32 m] :: .agg [.ints .i64 vsz, .rows 2 rz, .bool bz, .ints .u32 mz] :: .ptr 2 0 0 :: .ptr 3 0 0 :: .ptr 4 0 0 :: .int .i64 x2 :: .ptr 6 0 0 :: .int .i64 (he (num (4294967296) b m + num (4294967296) bz mz)) :: .ptr 8 0 0 :: .int .i64 x0 :: .int .i64 x1 :: tops 2 (.tup [R (hz (num (4294967296) b m + num (4294967296) bz mz)), .int .i64 (he (num (4294967296) b m + num (4294967296) bz mz))] :: .ptr 2 0 2 :: .agg [.bool b, .ints .u32 m] :: .ptr 3 0 2 :: .agg [.bool bz, .ints .u32 mz] :: .tup [R (hz (num (4294967296) b m + num (4294967296) bz mz)), .int .i64 (he (num (4294967296) b m + num (4294967296) bz mz))] :: R (hz (num (4294967296) b m + num (4294967296) bz mz)) :: .int .i64 (he (num (4294967296) b m + num (4294967296) bz mz)) :: .int .i64 (he (num (4294967296) b m + num (4294967296) bz mz)) :: .bool (he (num (4294967296) b m + num (4294967296) bz mz) != 0) :: tops 2 (R (hz (num (4294967296) b m + num (4294967296) bz mz)) :: .agg [.nil, .nil, .bool (sg (hz (num (4294967296) b m + num (4294967296) bz mz))), .ints .u32 (lb (4294967296) (hz (num (4294967296) b m + num (4294967296) bz mz)))] :: tops 113 ([]))), nos 2 (varE [(false, .ints .i64 vs), (false, .rows 2 r), (false, .bool b), (false, .ints .u32 m)] :: varE [(false, .ints .i64 vsz), (false, .rows 2 rz), (false, .bool bz), (false, .ints .u32 mz)] :: varE [(true, .ints .i64 []), (true, .rows 2 []), (false, .bool false), (true, .ints .u32 [])] :: nos 1 (varE [(false, .bool (sg (hz (num (4294967296) b m + num (4294967296) bz mz)))), (false, .ints .u32 (lb (4294967296) (hz (num (4294967296) b m + num (4294967296) bz mz))))] :: nos 1 (varE [(true, .ints .i64 l0), (true, .rows 2 r0), (false, .bool (sg (hz (num (4294967296) b m + num (4294967296) bz mz)))), (false, .ints .u32 (lb (4294967296) (hz (num (4294967296) b m + num (4294967296) bz mz))))] :: nos 131 ([]))))⟩
theorem round0 (vs : List Int) (r : List (List AV)) (b : Bool) (m : List Int) (vsz : List Int) (rz : List (List AV)) (bz : Bool) (mz : List Int) (x0 : Int) (x1 : Int) (l0 : List Int) (r0 : List (List AV)) : goL T orc (noTab) D0 L0 (st0 vs r b m vsz rz bz mz x0 x1 l0 r0) =
    (bif decide (x0 < (↑vs.length : Int)) then (bif x1 == (↑vsz.length : Int) then (bif inB x0 vs.length then (bif inB x0 r.length then (bif etasOk [.bool false, .ints .u32 []] (r.getD x0.toNat []) then (bif cn (4294967296) (gBool ((r.getD x0.toNat []).getD 0 .top)) (gInts ((r.getD x0.toNat []).getD 1 .top)) && decide (l0.length ≤ 100000) && decide (r0.length ≤ 100000) && true && true then some (.normal, st0 vs r b m vsz rz bz mz (IntKind.i64.wrap (x0 + 1)) x1 (putV (num (4294967296) (gBool ((r.getD x0.toNat []).getD 0 .top)) (gInts ((r.getD x0.toNat []).getD 1 .top))) l0 (rd vs x0)) (putR (num (4294967296) (gBool ((r.getD x0.toNat []).getD 0 .top)) (gInts ((r.getD x0.toNat []).getD 1 .top))) r0 [.bool (gBool ((r.getD x0.toNat []).getD 0 .top)), .ints .u32 (gInts ((r.getD x0.toNat []).getD 1 .top))])) else none) else none) else none) else none) else (bif decide (x0 < (↑vs.length : Int)) then (bif inB x0 vs.length then (bif inB x1 vsz.length then (bif decide (rd vs x0 < rd vsz x1) then (bif inB x0 vs.length then (bif inB x0 r.length then (bif etasOk [.bool false, .ints .u32 []] (r.getD x0.toNat []) then (bif cn (4294967296) (gBool ((r.getD x0.toNat []).getD 0 .top)) (gInts ((r.getD x0.toNat []).getD 1 .top)) && decide (l0.length ≤ 100000) && decide (r0.length ≤ 100000) && true && true then some (.normal, st0 vs r b m vsz rz bz mz (IntKind.i64.wrap (x0 + 1)) x1 (putV (num (4294967296) (gBool ((r.getD x0.toNat []).getD 0 .top)) (gInts ((r.getD x0.toNat []).getD 1 .top))) l0 (rd vs x0)) (putR (num (4294967296) (gBool ((r.getD x0.toNat []).getD 0 .top)) (gInts ((r.getD x0.toNat []).getD 1 .top))) r0 [.bool (gBool ((r.getD x0.toNat []).getD 0 .top)), .ints .u32 (gInts ((r.getD x0.toNat []).getD 1 .top))])) else none) else none) else none) else none) else (bif x0 == (↑vs.length : Int) then (bif inB x1 vsz.length then (bif inB x1 rz.length then (bif etasOk [.bool false, .ints .u32 []] (rz.getD x1.toNat []) then (bif cn (4294967296) (gBool ((rz.getD x1.toNat []).getD 0 .top)) (gInts ((rz.getD x1.toNat []).getD 1 .top)) && decide (l0.length ≤ 100000) && decide (r0.length ≤ 100000) && true && true then some (.normal, st0 vs r b m vsz rz bz mz x0 (IntKind.i64.wrap (x1 + 1)) (putV (num (4294967296) (gBool ((rz.getD x1.toNat []).getD 0 .top)) (gInts ((rz.getD x1.toNat []).getD 1 .top))) l0 (rd vsz x1)) (putR (num (4294967296) (gBool ((rz.getD x1.toNat []).getD 0 .top)) (gInts ((rz.getD x1.toNat []).getD 1 .top))) r0 [.bool (gBool ((rz.getD x1.toNat []).getD 0 .top)), .ints .u32 (gInts ((rz.getD x1.toNat []).getD 1 .top))])) else none) else none) else none) else none) else (bif inB x1 vsz.length then (bif inB x0 vs.length then (bif decide (rd vsz x1 < rd vs x0) then (bif inB x1 vsz.length then (bif inB x1 rz.length then (bif etasOk [.bool false, .ints .u32 []] (rz.getD x1.toNat []) then (bif cn (4294967296) (gBool ((rz.getD x1.toNat []).getD 0 .top)) (gInts ((rz.getD x1.toNat []).getD 1 .top)) && decide (l0.length ≤ 100000) && decide (r0.length ≤ 100000) && true && true then some (.normal, st0 vs r b m vsz rz bz mz x0 (IntKind.i64.wrap (x1 + 1)) (putV (num (4294967296) (gBool ((rz.getD x1.toNat []).getD 0 .top)) (gInts ((rz.getD x1.toNat []).getD 1 .top))) l0 (rd vsz x1)) (putR (num (4294967296) (gBool ((rz.getD x1.toNat []).getD 0 .top)) (gInts ((rz.getD x1.toNat []).getD 1 .top))) r0 [.bool (gBool ((rz.getD x1.toNat []).getD 0 .top)), .ints .u32 (gInts ((rz.getD x1.toNat []).getD 1 .top))])) else none) else none) else none) else none) else (bif inB x0 r.length then (bif etasOk [.bool false, .ints .u32 []] (r.getD x0.toNat []) then (bif inB x1 rz.length then (bif etasOk [.bool false, .ints .u32 []] (rz.getD x1.toNat []) then (bif cn (4294967296) (gBool ((r.getD x0.toNat []).getD 0 .top)) (gInts ((r.getD x0.toNat []).getD 1 .top)) && cn (4294967296) (gBool ((rz.getD x1.toNat []).getD 0 .top)) (gInts ((rz.getD x1.toNat []).getD 1 .top)) && fits (num (4294967296) (gBool ((r.getD x0.toNat []).getD 0 .top)) (gInts ((r.getD x0.toNat []).getD 1 .top))) && fits (num (4294967296) (gBool ((rz.getD x1.toNat []).getD 0 .top)) (gInts ((rz.getD x1.toNat []).getD 1 .top))) then (bif he (num (4294967296) (gBool ((r.getD x0.toNat []).getD 0 .top)) (gInts ((r.getD x0.toNat []).getD 1 .top)) + num (4294967296) (gBool ((rz.getD x1.toNat []).getD 0 .top)) (gInts ((rz.getD x1.toNat []).getD 1 .top))) != 0 then some (.ret, st0x0 vs r b m vsz rz bz mz (he (num (4294967296) (gBool ((r.getD x0.toNat []).getD 0 .top)) (gInts ((r.getD x0.toNat []).getD 1 .top)) + num (4294967296) (gBool ((rz.getD x1.toNat []).getD 0 .top)) (gInts ((rz.getD x1.toNat []).getD 1 .top)))) x0 x1 l0 r0) else (bif inB x0 vs.length then (bif cn (4294967296) (sg (hz (num (4294967296) (gBool ((r.getD x0.toNat []).getD 0 .top)) (gInts ((r.getD x0.toNat []).getD 1 .top)) + num (4294967296) (gBool ((rz.getD x1.toNat []).getD 0 .top)) (gInts ((rz.getD x1.toNat []).getD 1 .top))))) (lb (4294967296) (hz (num (4294967296) (gBool ((r.getD x0.toNat []).getD 0 .top)) (gInts ((r.getD x0.toNat []).getD 1 .top)) + num (4294967296) (gBool ((rz.getD x1.toNat []).getD 0 .top)) (gInts ((rz.getD x1.toNat []).getD 1 .top))))) && decide (l0.length ≤ 100000) && decide (r0.length ≤ 100000) && true && true then some (.normal, st0 vs r b m vsz rz bz mz (IntKind.i64.wrap (x0 + 1)) (IntKind.i64.wrap (x1 + 1)) (putV (N (4294967296) (hz (num (4294967296) (gBool ((r.getD x0.toNat []).getD 0 .top)) (gInts ((r.getD x0.toNat []).getD 1 .top)) + num (4294967296) (gBool ((rz.getD x1.toNat []).getD 0 .top)) (gInts ((rz.getD x1.toNat []).getD 1 .top))))) l0 (rd vs x0)) (putR (N (4294967296) (hz (num (4294967296) (gBool ((r.getD x0.toNat []).getD 0 .top)) (gInts ((r.getD x0.toNat []).getD 1 .top)) + num (4294967296) (gBool ((rz.getD x1.toNat []).getD 0 .top)) (gInts ((rz.getD x1.toNat []).getD 1 .top))))) r0 [.bool (sg (hz (num (4294967296) (gBool ((r.getD x0.toNat []).getD 0 .top)) (gInts ((r.getD x0.toNat []).getD 1 .top)) + num (4294967296) (gBool ((rz.getD x1.toNat []).getD 0 .top)) (gInts ((rz.getD x1.toNat []).getD 1 .top))))), .ints .u32 (lb (4294967296) (hz (num (4294967296) (gBool ((r.getD x0.toNat []).getD 0 .top)) (gInts ((r.getD x0.toNat []).getD 1 .top)) + num (4294967296) (gBool ((rz.getD x1.toNat []).getD 0 .top)) (gInts ((rz.getD x1.toNat []).getD 1 .top)))))])) else none) else none)) else none) else none) else none) else none) else none)) else none) else none))) else none) else none) else (bif x0 == (↑vs.length : Int) then (bif inB x1 vsz.length then (bif inB x1 rz.length then (bif etasOk [.bool false, .ints .u32 []] (rz.getD x1.toNat []) then (bif cn (4294967296) (gBool ((rz.getD x1.toNat []).getD 0 .top)) (gInts ((rz.getD x1.toNat []).getD 1 .top)) && decide (l0.length ≤ 100000) && decide (r0.length ≤ 100000) && true && true then some (.normal, st0 vs r b m vsz rz bz mz x0 (IntKind.i64.wrap (x1 + 1)) (putV (num (4294967296) (gBool ((rz.getD x1.toNat []).getD 0 .top)) (gInts ((rz.getD x1.toNat []).getD 1 .top))) l0 (rd vsz x1)) (putR (num (4294967296) (gBool ((rz.getD x1.toNat []).getD 0 .top)) (gInts ((rz.getD x1.toNat []).getD 1 .top))) r0 [.bool (gBool ((rz.getD x1.toNat []).getD 0 .top)), .ints .u32 (gInts ((rz.getD x1.toNat []).getD 1 .top))])) else none) else none) else none) else none) else (bif inB x1 vsz.length then (bif inB x0 vs.length then (bif decide (rd vsz x1 < rd vs x0) then (bif inB x1 vsz.length then (bif inB x1 rz.length then (bif etasOk [.bool false, .ints .u32 []] (rz.getD x1.toNat []) then (bif cn (4294967296) (gBool ((rz.getD x1.toNat []).getD 0 .top)) (gInts ((rz.getD x1.toNat []).getD 1 .top)) && decide (l0.length ≤ 100000) && decide (r0.length ≤ 100000) && true && true then some (.normal, st0 vs r b m vsz rz bz mz x0 (IntKind.i64.wrap (x1 + 1)) (putV (num (4294967296) (gBool ((rz.getD x1.toNat []).getD 0 .top)) (gInts ((rz.getD x1.toNat []).getD 1 .top))) l0 (rd vsz x1)) (putR (num (4294967296) (gBool ((rz.getD x1.toNat []).getD 0 .top)) (gInts ((rz.getD x1.toNat []).getD 1 .top))) r0 [.bool (gBool ((rz.getD x1.toNat []).getD 0 .top)), .ints .u32 (gInts ((rz.getD x1.toNat []).getD 1 .top))])) else none) else none) else none) else none) else (bif inB x0 r.length then (bif etasOk [.bool false, .ints .u32 []] (r.getD x0.toNat []) then (bif inB x1 rz.length then (bif etasOk [.bool false, .ints .u32 []] (rz.getD x1.toNat []) then (bif cn (4294967296) (gBool ((r.getD x0.toNat []).getD 0 .top)) (gInts ((r.getD x0.toNat []).getD 1 .top)) && cn (4294967296) (gBool ((rz.getD x1.toNat []).getD 0 .top)) (gInts ((rz.getD x1.toNat []).getD 1 .top)) && fits (num (4294967296) (gBool ((r.getD x0.toNat []).getD 0 .top)) (gInts ((r.getD x0.toNat []).getD 1 .top))) && fits (num (4294967296) (gBool ((rz.getD x1.toNat []).getD 0 .top)) (gInts ((rz.getD x1.toNat []).getD 1 .top))) then (bif he (num (4294967296) (gBool ((r.getD x0.toNat []).getD 0 .top)) (gInts ((r.getD x0.toNat []).getD 1 .top)) + num (4294967296) (gBool ((rz.getD x1.toNat []).getD 0 .top)) (gInts ((rz.getD x1.toNat []).getD 1 .top))) != 0 then some (.ret, st0x0 vs r b m vsz rz bz mz (he (num (4294967296) (gBool ((r.getD x0.toNat []).getD 0 .top)) (gInts ((r.getD x0.toNat []).getD 1 .top)) + num (4294967296) (gBool ((rz.getD x1.toNat []).getD 0 .top)) (gInts ((rz.getD x1.toNat []).getD 1 .top)))) x0 x1 l0 r0) else (bif inB x0 vs.length then (bif cn (4294967296) (sg (hz (num (4294967296) (gBool ((r.getD x0.toNat []).getD 0 .top)) (gInts ((r.getD x0.toNat []).getD 1 .top)) + num (4294967296) (gBool ((rz.getD x1.toNat []).getD 0 .top)) (gInts ((rz.getD x1.toNat []).getD 1 .top))))) (lb (4294967296) (hz (num (4294967296) (gBool ((r.getD x0.toNat []).getD 0 .top)) (gInts ((r.getD x0.toNat []).getD 1 .top)) + num (4294967296) (gBool ((rz.getD x1.toNat []).getD 0 .top)) (gInts ((rz.getD x1.toNat []).getD 1 .top))))) && decide (l0.length ≤ 100000) && decide (r0.length ≤ 100000) && true && true then some (.normal, st0 vs r b m vsz rz bz mz (IntKind.i64.wrap (x0 + 1)) (IntKind.i64.wrap (x1 + 1)) (putV (N (4294967296) (hz (num (4294967296) (gBool ((r.getD x0.toNat []).getD 0 .top)) (gInts ((r.getD x0.toNat []).getD 1 .top)) + num (4294967296) (gBool ((rz.getD x1.toNat []).getD 0 .top)) (gInts ((rz.getD x1.toNat []).getD 1 .top))))) l0 (rd vs x0)) (putR (N (4294967296) (hz (num (4294967296) (gBool ((r.getD x0.toNat []).getD 0 .top)) (gInts ((r.getD x0.toNat []).getD 1 .top)) + num (4294967296) (gBool ((rz.getD x1.toNat []).getD 0 .top)) (gInts ((rz.getD x1.toNat []).getD 1 .top))))) r0 [.bool (sg (hz (num (4294967296) (gBool ((r.getD x0.toNat []).getD 0 .top)) (gInts ((r.getD x0.toNat []).getD 1 .top)) + num (4294967296) (gBool ((rz.getD x1.toNat []).getD 0 .top)) (gInts ((rz.getD x1.toNat []).getD 1 .top))))), .ints .u32 (lb (4294967296) (hz (num (4294967296) (gBool ((r.getD x0.toNat []).getD 0 .top)) (gInts ((r.getD x0.toNat []).getD 1 .top)) + num (4294967296) (gBool ((rz.getD x1.toNat []).getD 0 .top)) (gInts ((rz.getD x1.toNat []).getD 1 .top)))))])) else none) else none)) else none) else none) else none) else none) else none)) else none) else none)))) else (bif decide (x1 < (↑vsz.length : Int)) then (bif x1 == (↑vsz.length : Int) then (bif inB x0 vs.length then (bif inB x0 r.length then (bif etasOk [.bool false, .ints .u32 []] (r.getD x0.toNat []) then (bif cn (4294967296) (gBool ((r.getD x0.toNat []).getD 0 .top)) (gInts ((r.getD x0.toNat []).getD 1 .top)) && decide (l0.length ≤ 100000) && decide (r0.length ≤ 100000) && true && true then some (.normal, st0 vs r b m vsz rz bz mz (IntKind.i64.wrap (x0 + 1)) x1 (putV (num (4294967296) (gBool ((r.getD x0.toNat []).getD 0 .top)) (gInts ((r.getD x0.toNat []).getD 1 .top))) l0 (rd vs x0)) (putR (num (4294967296) (gBool ((r.getD x0.toNat []).getD 0 .top)) (gInts ((r.getD x0.toNat []).getD 1 .top))) r0 [.bool (gBool ((r.getD x0.toNat []).getD 0 .top)), .ints .u32 (gInts ((r.getD x0.toNat []).getD 1 .top))])) else none) else none) else none) else none) else (bif decide (x0 < (↑vs.length : Int)) then (bif inB x0 vs.length then (bif inB x1 vsz.length then (bif decide (rd vs x0 < rd vsz x1) then (bif inB x0 vs.length then (bif inB x0 r.length then (bif etasOk [.bool false, .ints .u32 []] (r.getD x0.toNat []) then (bif cn (4294967296) (gBool ((r.getD x0.toNat []).getD 0 .top)) (gInts ((r.getD x0.toNat []).getD 1 .top)) && decide (l0.length ≤ 100000) && decide (r0.length ≤ 100000) && true && true then some (.normal, st0 vs r b m vsz rz bz mz (IntKind.i64.wrap (x0 + 1)) x1 (putV (num (4294967296) (gBool ((r.getD x0.toNat []).getD 0 .top)) (gInts ((r.getD x0.toNat []).getD 1 .top))) l0 (rd vs x0)) (putR (num (4294967296) (gBool ((r.getD x0.toNat []).getD 0 .top)) (gInts ((r.getD x0.toNat []).getD 1 .top))) r0 [.bool (gBool ((r.getD x0.toNat []).getD 0 .top)), .ints .u32 (gInts ((r.getD x0.toNat []).getD 1 .top))])) else none) else none) else none) else none) else (bif x0 == (↑vs.length : Int) then (bif inB x1 vsz.length then (bif inB x1 rz.length then (bif etasOk [.bool false, .ints .u32 []] (rz.getD x1.toNat []) then (bif cn (4294967296) (gBool ((rz.getD x1.toNat []).getD 0 .top)) (gInts ((rz.getD x1.toNat []).getD 1 .top)) && decide (l0.length ≤ 100000) && decide (r0.length ≤ 100000) && true && true then some (.normal, st0 vs r b m vsz rz bz mz x0 (IntKind.i64.wrap (x1 + 1)) (putV (num (4294967296) (gBool ((rz.getD x1.toNat []).getD 0 .top)) (gInts ((rz.getD x1.toNat []).getD 1 .top))) l0 (rd vsz x1)) (putR (num (4294967296) (gBool ((rz.getD x1.toNat []).getD 0 .top)) (gInts ((rz.getD x1.toNat []).getD 1 .top))) r0 [.bool (gBool ((rz.getD x1.toNat []).getD 0 .top)), .ints .u32 (gInts ((rz.getD x1.toNat []).getD 1 .top))])) else none) else none) else none) else none) else (bif inB x1 vsz.length then (bif inB x0 vs.length then (bif decide (rd vsz x1 < rd vs x0) then (bif inB x1 vsz.length then (bif inB x1 rz.length then (bif etasOk [.bool false, .ints .u32 []] (rz.getD x1.toNat []) then (bif cn (4294967296) (gBool ((rz.getD x1.toNat []).getD 0 .top)) (gInts ((rz.getD x1.toNat []).getD 1 .top)) && decide (l0.length ≤ 100000) && decide (r0.length ≤ 100000) && true && true then some (.normal, st0 vs r b m vsz rz bz mz x0 (IntKind.i64.wrap (x1 + 1)) (putV (num (4294967296) (gBool ((rz.getD x1.toNat []).getD 0 .top)) (gInts ((rz.getD x1.toNat []).getD 1 .top))) l0 (rd vsz x1)) (putR (num (4294967296) (gBool ((rz.getD x1.toNat []).getD 0 .top)) (gInts ((rz.getD x1.toNat []).getD 1 .top))) r0 [.bool (gBool ((rz.getD x1.toNat []).getD 0 .top)), .ints .u32 (gInts ((rz.getD x1.toNat []).getD 1 .top))])) else none) else none) else none) else none) else (bif inB x0 r.length then (bif etasOk [.bool false, .ints .u32 []] (r.getD x0.toNat []) then (bif inB x1 rz.length then (bif etasOk [.bool false, .ints .u32 []] (rz.getD x1.toNat []) then (bif cn (4294967296) (gBool ((r.getD x0.toNat []).getD 0 .top)) (gInts ((r.getD x0.toNat []).getD 1 .top)) && cn (4294967296) (gBool ((rz.getD x1.toNat []).getD 0 .top)) (gInts ((rz.getD x1.toNat []).getD 1 .top)) && fits (num (4294967296) (gBool ((r.getD x0.toNat []).getD 0 .top)) (gInts ((r.getD x0.toNat []).getD 1 .top))) && fits (num (4294967296) (gBool ((rz.getD x1.toNat []).getD 0 .top)) (gInts ((rz.getD x1.toNat []).getD 1 .top))) then (bif he (num (4294967296) (gBool ((r.getD x0.toNat []).getD 0 .top)) (gInts ((r.getD x0.toNat []).getD 1 .top)) + num (4294967296) (gBool ((rz.getD x1.toNat []).getD 0 .top)) (gInts ((rz.getD x1.toNat []).getD 1 .top))) != 0 then some (.ret, st0x0 vs r b m vsz rz bz mz (he (num (4294967296) (gBool ((r.getD x0.toNat []).getD 0 .top)) (gInts ((r.getD x0.toNat []).getD 1 .top)) + num (4294967296) (gBool ((rz.getD x1.toNat []).getD 0 .top)) (gInts ((rz.getD x1.toNat []).getD 1 .top)))) x0 x1 l0 r0) else (bif inB x0 vs.length then (bif cn (4294967296) (sg (hz (num (4294967296) (gBool ((r.getD x0.toNat []).getD 0 .top)) (gInts ((r.getD x0.toNat []).getD 1 .top)) + num (4294967296) (gBool ((rz.getD x1.toNat []).getD 0 .top)) (gInts ((rz.getD x1.toNat []).getD 1 .top))))) (lb (4294967296) (hz (num (4294967296) (gBool ((r.getD x0.toNat []).getD 0 .top)) (gInts ((r.getD x0.toNat []).getD 1 .top)) + num (4294967296) (gBool ((rz.getD x1.toNat []).getD 0 .top)) (gInts ((rz.getD x1.toNat []).getD 1 .top))))) && decide (l0.length ≤ 100000) && decide (r0.length ≤ 100000) && true && true then some (.normal, st0 vs r b m vsz rz bz mz (IntKind.i64.wrap (x0 + 1)) (IntKind.i64.wrap (x1 + 1)) (putV (N (4294967296) (hz (num (4294967296) (gBool ((r.getD x0.toNat []).getD 0 .top)) (gInts ((r.getD x0.toNat []).getD 1 .top)) + num (4294967296) (gBool ((rz.getD x1.toNat []).getD 0 .top)) (gInts ((rz.getD x1.toNat []).getD 1 .top))))) l0 (rd vs x0)) (putR (N (4294967296) (hz (num (4294967296) (gBool ((r.getD x0.toNat []).getD 0 .top)) (gInts ((r.getD x0.toNat []).getD 1 .top)) + num (4294967296) (gBool ((rz.getD x1.toNat []).getD 0 .top)) (gInts ((rz.getD x1.toNat []).getD 1 .top))))) r0 [.bool (sg (hz (num (4294967296) (gBool ((r.getD x0.toNat []).getD 0 .top)) (gInts ((r.getD x0.toNat []).getD 1 .top)) + num (4294967296) (gBool ((rz.getD x1.toNat []).getD 0 .top)) (gInts ((rz.getD x1.toNat []).getD 1 .top))))), .ints .u32 (lb (4294967296) (hz (num (4294967296) (gBool ((r.getD x0.toNat []).getD 0 .top)) (gInts ((r.getD x0.toNat []).getD 1 .top)) + num (4294967296) (gBool ((rz.getD x1.toNat []).getD 0 .top)) (gInts ((rz.getD x1.toNat []).getD 1 .top)))))])) else none) else none)) else none) else none) else none) else none) else none)) else none) else none))) else none) else none) else (bif x0 == (↑vs.length : Int) then (bif inB x1 vsz.length then (bif inB x1 rz.length then (bif etasOk [.bool false, .ints .u32 []] (rz.getD x1.toNat []) then (bif cn (4294967296) (gBool ((rz.getD x1.toNat []).getD 0 .top)) (gInts ((rz.getD x1.toNat []).getD 1 .top)) && decide (l0.length ≤ 100000) && decide (r0.length ≤ 100000) && true && true then some (.normal, st0 vs r b m vsz rz bz mz x0 (IntKind.i64.wrap (x1 + 1)) (putV (num (4294967296) (gBool ((rz.getD x1.toNat []).getD 0 .top)) (gInts ((rz.getD x1.toNat []).getD 1 .top))) l0 (rd vsz x1)) (putR (num (4294967296) (gBool ((rz.getD x1.toNat []).getD 0 .top)) (gInts ((rz.getD x1.toNat []).getD 1 .top))) r0 [.bool (gBool ((rz.getD x1.toNat []).getD 0 .top)), .ints .u32 (gInts ((rz.getD x1.toNat []).getD 1 .top))])) else none) else none) else none) else none) else (bif inB x1 vsz.length then (bif inB x0 vs.length then (bif decide (rd vsz x1 < rd vs x0) then (bif inB x1 vsz.length then (bif inB x1 rz.length then (bif etasOk [.bool false, .ints .u32 []] (rz.getD x1.toNat []) then (bif cn (4294967296) (gBool ((rz.getD x1.toNat []).getD 0 .top)) (gInts ((rz.getD x1.toNat []).getD 1 .top)) && decide (l0.length ≤ 100000) && decide (r0.length ≤ 100000) && true && true then some (.normal, st0 vs r b m vsz rz bz mz x0 (IntKind.i64.wrap (x1 + 1)) (putV (num (4294967296) (gBool ((rz.getD x1.toNat []).getD 0 .top)) (gInts ((rz.getD x1.toNat []).getD 1 .top))) l0 (rd vsz x1)) (putR (num (4294967296) (gBool ((rz.getD x1.toNat []).getD 0 .top)) (gInts ((rz.getD x1.toNat []).getD 1 .top))) r0 [.bool (gBool ((rz.getD x1.toNat []).getD 0 .top)), .ints .u32 (gInts ((rz.getD x1.toNat []).getD 1 .top))])) else none) else none) else none) else none) else (bif inB x0 r.length then (bif etasOk [.bool false, .ints .u32 []] (r.getD x0.toNat []) then (bif inB x1 rz.length then (bif etasOk [.bool false, .ints .u32 []] (rz.getD x1.toNat []) then (bif cn (4294967296) (gBool ((r.getD x0.toNat []).getD 0 .top)) (gInts ((r.getD x0.toNat []).getD 1 .top)) && cn (4294967296) (gBool ((rz.getD x1.toNat []).getD 0 .top)) (gInts ((rz.getD x1.toNat []).getD 1 .top)) && fits (num (4294967296) (gBool ((r.getD x0.toNat []).getD 0 .top)) (gInts ((r.getD x0.toNat []).getD 1 .top))) && fits (num (4294967296) (gBool ((rz.getD x1.toNat []).getD 0 .top)) (gInts ((rz.getD x1.toNat []).getD 1 .top))) then (bif he (num (4294967296) (gBool ((r.getD x0.toNat []).getD 0 .top)) (gInts ((r.getD x0.toNat []).getD 1 .top)) + num (4294967296) (gBool ((rz.getD x1.toNat []).getD 0 .top)) (gInts ((rz.getD x1.toNat []).getD 1 .top))) != 0 then some (.ret, st0x0 vs r b m vsz rz bz mz (he (num (4294967296) (gBool ((r.getD x0.toNat []).getD 0 .top)) (gInts ((r.getD x0.toNat []).getD 1 .top)) + num (4294967296) (gBool ((rz.getD x1.toNat []).getD 0 .top)) (gInts ((rz.getD x1.toNat []).getD 1 .top)))) x0 x1 l0 r0) else (bif inB x0 vs.length then (bif cn (4294967296) (sg (hz (num (4294967296) (gBool ((r.getD x0.toNat []).getD 0 .top)) (gInts ((r.getD x0.toNat []).getD 1 .top)) + num (4294967296) (gBool ((rz.getD x1.toNat []).getD 0 .top)) (gInts ((rz.getD x1.toNat []).getD 1 .top))))) (lb (4294967296) (hz (num (4294967296) (gBool ((r.getD x0.toNat []).getD 0 .top)) (gInts ((r.getD x0.toNat []).getD 1 .top)) + num (4294967296) (gBool ((rz.getD x1.toNat []).getD 0 .top)) (gInts ((rz.getD x1.toNat []).getD 1 .top))))) && decide (l0.length ≤ 100000) && decide (r0.length ≤ 100000) && true && true then some (.normal, st0 vs r b m vsz rz bz mz (IntKind.i64.wrap (x0 + 1)) (IntKind.i64.wrap (x1 + 1)) (putV (N (4294967296) (hz (num (4294967296) (gBool ((r.getD x0.toNat []).getD 0 .top)) (gInts ((r.getD x0.toNat []).getD 1 .top)) + num (4294967296) (gBool ((rz.getD x1.toNat []).getD 0 .top)) (gInts ((rz.getD x1.toNat []).getD 1 .top))))) l0 (rd vs x0)) (putR (N (4294967296) (hz (num (4294967296) (gBool ((r.getD x0.toNat []).getD 0 .top)) (gInts ((r.getD x0.toNat []).getD 1 .top)) + num (4294967296) (gBool ((rz.getD x1.toNat []).getD 0 .top)) (gInts ((rz.getD x1.toNat []).getD 1 .top))))) r0 [.bool (sg (hz (num (4294967296) (gBool ((r.getD x0.toNat []).getD 0 .top)) (gInts ((r.getD x0.toNat []).getD 1 .top)) + num (4294967296) (gBool ((rz.getD x1.toNat []).getD 0 .top)) (gInts ((rz.getD x1.toNat []).getD 1 .top))))), .ints .u32 (lb (4294967296) (hz (num (4294967296) (gBool ((r.getD x0.toNat []).getD 0 .top)) (gInts ((r.getD x0.toNat []).getD 1 .top)) + num (4294967296) (gBool ((rz.getD x1.toNat []).getD 0 .top)) (gInts ((rz.getD x1.toNat []).getD 1 .top)))))])) else none) else none)) else none) else none) else none) else none) else none)) else none) else none)))) else some (.exit 0, st0 vs r b m vsz rz bz mz x0 x1 l0 r0))) := by kernel_rfl
-- loop 0 ends ret st0x0 vs r b m vsz rz bz mz x2 x0 x1 l0 r0
-- loop 0 ends exit0 st0 vs r b m vsz rz bz mz x0 x1 l0 r0
theorem rest_0 (vs : List Int) (r : List (List AV)) (b : Bool) (m : List Int) (vsz : List Int) (rz : List (List AV)) (bz : Bool) (mz : List Int) (x3 : Int) (x4 : Int) (x5 : Int) (l1 : List Int) (r1 : List (List AV)) : runT T orc (tabOf T orc [(6, 1763146263722139015387046794638778454507682840383767806305557027341505186273382073010780345587440650389762056797356181821709806360394890272848033735547697980202627821294, .ret, st0x0 vs r b m vsz rz bz mz x3 x4 x5 l1 r1)]) Try.f46 [.agg [.ints .i64 vs, .rows 2 r, .bool b, .ints .u32 m], .agg [.ints .i64 vsz, .rows 2 rz, .bool bz, .ints .u32 mz]] =
    (bif cn (4294967296) b m && cn (4294967296) bz mz && fits (num (4294967296) b m) && fits (num (4294967296) bz mz) then (bif he (num (4294967296) b m + num (4294967296) bz mz) != 0 then some (.val (.tup [.agg [.ints .i64 [], .rows 2 [], .bool false, .ints .u32 []], .int .i64 (he (num (4294967296) b m + num (4294967296) bz mz))])) else (bif cdec (Ends T orc L0 D0 (st0 vs r b m vsz rz bz mz (0) (0) ([]) ([])) .ret (st0x0 vs r b m vsz rz bz mz x3 x4 x5 l1 r1)) then some (.val (.tup [.agg [.ints .i64 [], .rows 2 [], .bool false, .ints .u32 []], .int .i64 x3])) else none)) else none) := by kernel_rfl
theorem rest_1 (vs : List Int) (r : List (List AV)) (b : Bool) (m : List Int) (vsz : List Int) (rz : List (List AV)) (bz : Bool) (mz : List Int) (l2 : List Int) (r2 : List (List AV)) (x6 : Int) (x7 : Int) : runT T orc (tabOf T orc [(6, 1763146263722139015387046794638778454507682840383767806305557027341505186273382073010780345587440650389762056797356181821709806360394890272848033735547697980202627821294, .exit 0, st0 vs r b m vsz rz bz mz x6 x7 l2 r2)]) Try.f46 [.agg [.ints .i64 vs, .rows 2 r, .bool b, .ints .u32 m], .agg [.ints .i64 vsz, .rows 2 rz, .bool bz, .ints .u32 mz]] =
    (bif cn (4294967296) b m && cn (4294967296) bz mz && fits (num (4294967296) b m) && fits (num (4294967296) bz mz) then (bif he (num (4294967296) b m + num (4294967296) bz mz) != 0 then some (.val (.tup [.agg [.ints .i64 [], .rows 2 [], .bool false, .ints .u32 []], .int .i64 (he (num (4294967296) b m + num (4294967296) bz mz))])) else (bif cdec (Ends T orc L0 D0 (st0 vs r b m vsz rz bz mz (0) (0) ([]) ([])) (.exit 0) (st0 vs r b m vsz rz bz mz x6 x7 l2 r2)) then some (.val (.tup [.agg [.ints .i64 l2, .rows 2 r2, .bool (sg (hz (num (4294967296) b m + num (4294967296) bz mz))), .ints .u32 (lb (4294967296) (hz (num (4294967296) b m + num (4294967296) bz mz)))], .int .i64 (0)])) else none)) else none) := by kernel_rfl
end NAdd
end
end Go.Abs
end
section
/- What linear's functions answer: the sum of two terms. -/
namespace Go.Abs
open Go.Proofs Go.Dig
theorem beqN {i n : Nat} (h : i < n) : ((i : Int) == (n : Int)) = false := beq_eq_false_iff_ne.2 (by omega)
theorem beqNN {i n : Nat} (h : i = n) : ((i : Int) == (n : Int)) = true := beq_iff_eq.2 (by omega)
namespace NAdd
/-- The sum of two lists' first parts. -/
noncomputable abbrev sofar (l m : List (Int × Int)) (i k : Nat) : List (Int × Int) := ofF (fun v => cf (l.take i) v + cf (m.take k) v)
theorem sofar_comm (l m : List (Int × Int)) (i k : Nat) : sofar l m i k = sofar m l k i := ofF_congr (fun v _ _ => Int.add_comm _ _)
structure Inv (l m : List (Int × Int)) (i k : Nat) : Prop where
  li : i ≤ l.length
  lk : k ≤ m.length
  a : ∀ p ∈ m.take k, ∀ h : i < l.length, p.1 < l[i].1
  b : ∀ p ∈ l.take i, ∀ h : k < m.length, p.1 < m[k].1
  f : ∀ v, fits (cf (l.take i) v + cf (m.take k) v) = true
theorem Inv.symm {l m : List (Int × Int)} {i k : Nat} (h : Inv l m i k) : Inv m l k i := ⟨h.lk, h.li, h.b, h.a, fun v => by rw [Int.add_comm]; exact h.f v⟩
theorem take_mem {l : List (Int × Int)} {i : Nat} (hi : i < l.length) {p : Int × Int} (h : p ∈ l.take (i + 1)) : p ∈ l.take i ∨ p = l[i] := by
  rw [List.take_add_one, List.getElem?_eq_getElem hi] at h
  rcases List.mem_append.1 h with h | h
  · exact .inl h
  · exact .inr (List.mem_singleton.1 h)
theorem left {l m : List (Int × Int)} (hl : okL l) (hm : okL m) {i k : Nat} (h : Inv l m i k) (hi : i < l.length) (hk : ∀ h : k < m.length, l[i].1 < m[k].1) : putL l[i].2 (sofar l m i k) l[i].1 = sofar l m (i + 1) k ∧ Inv l m (i + 1) k := by
  have h0 : ∀ w, l[i].1 ≤ w → cf (m.take k) w = 0 := fun w hw => cf_none (fun p hp hpv => by have := h.a p hp hi; omega)
  refine ⟨putL_snoc (okL_in hl _ (List.getElem_mem hi)) (fun w h1 h2 => ?_) (fun w h1 h2 => ?_), ⟨hi, h.lk, fun p hp h2 => ?_, fun p hp h2 => ?_, fun v => ?_⟩⟩
  · rw [cf_take_ge (okL_asc hl) hi h1, h0 w h1]; rfl
  · rw [cf_take_succ (okL_asc hl) hi]
    by_cases hw : w = l[i].1
    · rw [if_pos hw, if_pos hw, h0 w (by omega), Int.add_zero]
    · rw [if_neg hw, if_neg hw]
  · have := h.a p hp hi
    have := List.pairwise_iff_getElem.1 (okL_asc hl) i (i + 1) hi h2 (by omega)
    omega
  · rcases take_mem hi hp with hp | rfl
    · exact h.b p hp h2
    · exact hk h2
  · rw [cf_take_succ (okL_asc hl) hi]
    by_cases hw : v = l[i].1
    · rw [if_pos hw, h0 v (by omega), Int.add_zero]
      exact okL_mem hl (List.getElem_mem hi)
    · rw [if_neg hw]; exact h.f v
theorem right {l m : List (Int × Int)} (hl : okL l) (hm : okL m) {i k : Nat} (h : Inv l m i k) (hk : k < m.length) (hi : ∀ h : i < l.length, m[k].1 < l[i].1) : putL m[k].2 (sofar l m i k) m[k].1 = sofar l m i (k + 1) ∧ Inv l m i (k + 1) := by
  obtain ⟨h1, h2⟩ := left hm hl h.symm hk hi
  rw [sofar_comm l m, sofar_comm l m]
  exact ⟨h1, h2.symm⟩
theorem both {l m : List (Int × Int)} (hl : okL l) (hm : okL m) {i k : Nat} (h : Inv l m i k) (hi : i < l.length) (hk : k < m.length) (he : l[i].1 = m[k].1) (hf : fits (l[i].2 + m[k].2) = true) : putL (l[i].2 + m[k].2) (sofar l m i k) l[i].1 = sofar l m (i + 1) (k + 1) ∧ Inv l m (i + 1) (k + 1) := by
  have h0 : ∀ w, l[i].1 ≤ w → cf (m.take k) w = 0 := fun w hw => cf_none (fun p hp hpv => by have := h.a p hp hi; omega)
  have hA : ∀ v, cf (l.take (i + 1)) v + cf (m.take (k + 1)) v = if v = l[i].1 then l[i].2 + m[k].2 else cf (l.take i) v + cf (m.take k) v := fun v => by
    rw [cf_take_succ (okL_asc hl) hi, cf_take_succ (okL_asc hm) hk]
    by_cases hw : v = l[i].1
    · rw [if_pos hw, if_pos (by omega), if_pos hw]
    · rw [if_neg hw, if_neg (by omega), if_neg hw]
  refine ⟨putL_snoc (okL_in hl _ (List.getElem_mem hi)) (fun w h1 h2 => ?_) (fun w h1 h2 => hA w), ⟨hi, hk, fun p hp h2 => ?_, fun p hp h2 => ?_, fun v => ?_⟩⟩
  · rw [cf_take_ge (okL_asc hl) hi h1, h0 w h1]; rfl
  · have h3 := List.pairwise_iff_getElem.1 (okL_asc hl) i (i + 1) hi h2 (by omega)
    rcases take_mem hk hp with hp | rfl
    · have := h.a p hp hi; omega
    · omega
  · have h3 := List.pairwise_iff_getElem.1 (okL_asc hm) k (k + 1) hk h2 (by omega)
    rcases take_mem hi hp with hp | rfl
    · have := h.b p hp hk; omega
    · omega
  · rw [hA]
    split
    · exact hf
    · exact h.f v
def Post (l m : List (Int × Int)) (b : Bool) (bl : List Int) (bz : Bool) (mz : List Int) (e : Ex) (S1 : St) : Prop :=
  (e = .exit 0 ∧ (∀ v, fits (cf l v + cf m v) = true) ∧ ∃ x y, S1 = st0 (l.map (fun p => p.1)) (l.map cL) b bl (m.map (fun p => p.1)) (m.map cL) bz mz x y ((ofF (fun v => cf l v + cf m v)).map (fun p => p.1)) ((ofF (fun v => cf l v + cf m v)).map cL)) ∨
  (e = .ret ∧ (¬ ∀ v, fits (cf l v + cf m v) = true) ∧ ∃ x y l' r', S1 = st0x0 (l.map (fun p => p.1)) (l.map cL) b bl (m.map (fun p => p.1)) (m.map cL) bz mz 11 x y l' r')
theorem loop (l m : List (Int × Int)) (b : Bool) (bl : List Int) (bz : Bool) (mz : List Int) (hl : okL l) (hm : okL m) : ∃ e S1, Ends T orc L0 D0 (st0 (l.map (fun p => p.1)) (l.map cL) b bl (m.map (fun p => p.1)) (m.map cL) bz mz 0 0 [] []) e S1 ∧ Post l m b bl bz mz e S1 := by
  have hz : sofar l m 0 0 = [] := by
    refine (ofF_congr (fun v _ _ => ?_)).trans ofF_zero
    rw [List.take_zero, List.take_zero]; rfl
  have key : ∃ e S1, Ends T orc L0 D0 (st0 (l.map (fun p => p.1)) (l.map cL) b bl (m.map (fun p => p.1)) (m.map cL) bz mz ((0 : Nat) : Int) ((0 : Nat) : Int) ((sofar l m 0 0).map (fun p => p.1)) ((sofar l m 0 0).map cL)) e S1 ∧ Post l m b bl bz mz e S1 := by
    refine loop_inv2 (fun (i k : Nat) => st0 (l.map (fun p => p.1)) (l.map cL) b bl (m.map (fun p => p.1)) (m.map cL) bz mz i k ((sofar l m i k).map (fun p => p.1)) ((sofar l m i k).map cL)) (fun i k => Inv l m i k) (fun i k => (l.length - i) + (m.length - k)) (Post l m b bl bz mz) isL0 ?_ 0 0
      ⟨Nat.zero_le _, Nat.zero_le _, fun p hp => (by rw [List.take_zero] at hp; cases hp), fun p hp => (by rw [List.take_zero] at hp; cases hp), fun v => by rw [List.take_zero, List.take_zero]; exact fits0⟩
    intro i k h
    have hll := okL_len hl
    have hml := okL_len hm
    have hik := h.li
    have hkk := h.lk
    have ho : (sofar l m i k).length ≤ 4096 := ofF_len _
    have hd : decide ((sofar l m i k).length ≤ 100000) = true := decide_eq_true (by omega)
    have si := wi_succ (show i < 4611686018427387904 by omega)
    have sk := wi_succ (show k < 4611686018427387904 by omega)
    refine ⟨noTab, noTab_all, lands_of (round0 ..) ?_⟩
    rw [List.length_map, List.length_map, List.length_map, List.length_map]
    by_cases hi : i < l.length
    · have hfi := okL_mem hl (List.getElem_mem hi)
      have goL : (∀ h : k < m.length, l[i].1 < m[k].1) → Turns2 (fun (i k : Nat) => st0 (l.map (fun p => p.1)) (l.map cL) b bl (m.map (fun p => p.1)) (m.map cL) bz mz i k ((sofar l m i k).map (fun p => p.1)) ((sofar l m i k).map cL)) (fun i k => Inv l m i k) (fun i k => (l.length - i) + (m.length - k)) (Post l m b bl bz mz) ((l.length - i) + (m.length - k)) .normal (st0 (l.map (fun p => p.1)) (l.map cL) b bl (m.map (fun p => p.1)) (m.map cL) bz mz ((i + 1 : Nat) : Int) k ((putL l[i].2 (sofar l m i k) l[i].1).map (fun p => p.1)) ((putL l[i].2 (sofar l m i k) l[i].1).map cL)) := fun hlt => by
        obtain ⟨h1, h2⟩ := left hl hm h hi hlt
        rw [h1]
        refine ⟨i + 1, k, rfl, h2, ?_⟩
        show (l.length - (i + 1)) + (m.length - k) < _
        omega
      rw [ltN hi, inN hi, rdV hi, getL hi]
      by_cases hk : k < m.length
      · have hfk := okL_mem hm (List.getElem_mem hk)
        rw [beqN hk, beqN hi, inN hk, rdV hk, getL hk]
        by_cases h1 : l[i].1 < m[k].1
        · rw [decide_eq_true h1]
          simp only [cL0, cL1, cLeta, cnW_fits hfi, num_lbW, hd, List.length_map, inN hi, cond_true, cond_false, Bool.and_self, si, lands_some]
          rw [putV_map, putR_map l[i].2 _ l[i].1]
          exact goL (fun _ => h1)
        · rw [decide_eq_false h1]
          by_cases h2 : m[k].1 < l[i].1
          · rw [decide_eq_true h2]
            simp only [cL0, cL1, cLeta, cnW_fits hfk, num_lbW, hd, List.length_map, inN hi, inN hk, cond_true, cond_false, Bool.and_self, sk, lands_some, Turns2]
            obtain ⟨h3, h4⟩ := right hl hm h hk (fun _ => h2)
            rw [putV_map, putR_map m[k].2 _ m[k].1, h3]
            exact ⟨i, k + 1, rfl, h4, by omega⟩
          · rw [decide_eq_false h2]
            have he : l[i].1 = m[k].1 := by omega
            simp only [cL0, cL1, cLeta, cnW_fits hfk, cnW_fits hfi, num_lbW, hfi, hfk, hd, List.length_map, inN hi, inN hk, cond_true, cond_false, Bool.and_self, N_eq]
            cases hf : fits (l[i].2 + m[k].2) with
            | false =>
              rw [ne0_of_big hf, he_big hf]
              simp only [cond_true, lands_some, Turns2]
              refine .inr ⟨rfl, fun hall => ?_, i, k, _, _, rfl⟩
              have := hall l[i].1
              rw [cf_mem (okL_asc hl) (List.getElem_mem hi), he, cf_mem (okL_asc hm) (List.getElem_mem hk), hf] at this
              cases this
            | true =>
              rw [eq0_of_fit hf, hz_fit hf, cnW_fits hf]
              simp only [cond_true, cond_false, Bool.and_self, hd, List.length_map, si, sk, lands_some, Turns2]
              obtain ⟨h3, h4⟩ := both hl hm h hi hk he hf
              rw [putV_map, putR_map (l[i].2 + m[k].2) _ l[i].1, h3]
              exact ⟨i + 1, k + 1, rfl, h4, by omega⟩
      · rw [beqNN (show k = m.length by omega)]
        simp only [cL0, cL1, cLeta, cnW_fits hfi, num_lbW, hd, List.length_map, inN hi, cond_true, cond_false, Bool.and_self, si, lands_some]
        rw [putV_map, putR_map l[i].2 _ l[i].1]
        exact goL (fun h => absurd h hk)
    · rw [ltN' hi, beqNN (show i = l.length by omega)]
      by_cases hk : k < m.length
      · have hfk := okL_mem hm (List.getElem_mem hk)
        rw [ltN hk, beqN hk, inN hk, rdV hk, getL hk]
        simp only [cL0, cL1, cLeta, cnW_fits hfk, num_lbW, hd, List.length_map, inN hk, cond_true, cond_false, Bool.and_self, sk, lands_some, Turns2]
        obtain ⟨h3, h4⟩ := right hl hm h hk (fun h => absurd h hi)
        rw [putV_map, putR_map m[k].2 _ m[k].1, h3]
        exact ⟨i, k + 1, rfl, h4, by omega⟩
      · rw [ltN' hk]
        simp only [cond_false, lands_some, Turns2]
        have e1 : l.take i = l := List.take_of_length_le (by omega)
        have e2 : m.take k = m := List.take_of_length_le (by omega)
        have hf := h.f
        unfold sofar
        rw [e1, e2] at hf ⊢
        exact .inl ⟨rfl, hf, i, k, rfl⟩
  rw [hz] at key
  exact key
end NAdd
theorem meets_nadd : Meets Try.prog 46 ansLAdd := by
  refine meets_fn (orc_ok (l := NAdd.ans) ⟨meets_add, meets_lput, trivial⟩) Try.f46 Try.func46 (by kernel_rfl) (fun args r h => ?_)
  unfold ansLAdd at h
  split at h
  · rename_i vs r b m vsz rz bz mz
    simp only [Option.some.injEq, Prod.mk.injEq, Bool.and_eq_true] at h
    obtain ⟨⟨h1, h2⟩, rfl⟩ := h
    obtain ⟨l, c, k1, k2, rfl, rfl, rfl, rfl⟩ := isT_iff.1 h1
    obtain ⟨k, d, k3, k4, rfl, rfl, rfl, rfl⟩ := isT_iff.1 h2
    rw [dl_map, dl_map, num_lbW, num_lbW]
    obtain ⟨e1, S1, hE1, hP⟩ := NAdd.loop l k (sg c) (lb 4294967296 c) (sg d) (lb 4294967296 d) k1 k3
    rcases hP with ⟨rfl, hall, x, y, rfl⟩ | ⟨rfl, hall, x, y, l', r', rfl⟩
    · refine ⟨rfl, _, tabOf_all _, (NAdd.rest_1 _ _ _ _ _ _ _ _ ((ofF (fun v => cf l v + cf k v)).map (fun p => p.1)) ((ofF (fun v => cf l v + cf k v)).map cL) x y).trans ?_⟩
      rw [num_lbW, num_lbW, cnW_fits k2, cnW_fits k4, k2, k4]
      rcases addE_cases l k c d with ⟨e1, e2, e3, e4, _⟩ | ⟨e1, e2, e3, e4⟩
      · rw [e1, e2, e3, eq0_of_fit e4, hz_fit e4, cdec_true hE1, lvs_eq, lrs_eq]
        rfl
      · have hcb : fits (c + d) = false := by rw [Bool.eq_false_iff]; exact fun hh => e4 ⟨hh, hall⟩
        rw [e1, e2, e3, ne0_of_big hcb, he_big hcb, lvs_nil, lrs_nil]
        rfl
    · refine ⟨rfl, _, tabOf_all _, (NAdd.rest_0 _ _ _ _ _ _ _ _ 11 x y l' r').trans ?_⟩
      rw [num_lbW, num_lbW, cnW_fits k2, cnW_fits k4, k2, k4]
      rcases addE_cases l k c d with ⟨e1, e2, e3, e4, e5⟩ | ⟨e1, e2, e3, e4⟩
      · exact absurd e5 hall
      · rw [e1, e2, e3, lvs_nil, lrs_nil, cdec_true hE1]
        cases hcb : fits (c + d) with
        | false => rw [ne0_of_big hcb, he_big hcb]; rfl
        | true => rw [eq0_of_fit hcb]; rfl
  · cases h
end Go.Abs
end
section
/- The statements of layer 3: what their helpers answer. -/
namespace Go.Abs
open Go.Proofs Go.Dig
/-- A row of one's own that is handed back is a value that is read. -/
theorem own_val {P : Program} {f : Nat} {A B : List AV → Option (Bool × Res)} (h : Meets P f A) (hB : ∀ args r, B args = some (true, r) → ∃ x, r = .val x ∧ A args = some (true, .own x)) : Meets P f B := by
  intro args r hr F w vs hF hav
  obtain ⟨x, rfl, hA⟩ := hB args r hr
  obtain ⟨fn, h1, h2, h3, h4⟩ := h args _ hA F w vs hF hav
  refine ⟨fn, h1, h2, h3, h4.mono (fun e w' he => ?_)⟩
  obtain ⟨v, e1, k1, F', k2, k3, k4⟩ := he
  refine ⟨v, e1, k1, fun b => F' b ∨ v.ownBlock = some b, ⟨fun k hk => .inl (k2.up k hk), fun k hk => ?_, fun k hk => ?_⟩, k3.rep (fun _ h => .inl h) (fun b hb => .inr hb)⟩
  · rcases hk with hk | hk
    · exact k2.new k hk
    · exact .inr (k4 k hk).1
  · rcases hk with hk | hk
    · exact k2.lt k hk
    · exact (k4 k hk).2.1
theorem cut_le {s : ByteArray} (h : ¬ s.size > 400) : cut 400 s = s := by unfold cut; rw [decide_eq_false h]; rfl
theorem cut_gt {s : ByteArray} (h : s.size > 400) : cut 400 s = s.extract 0 400 := by unfold cut; rw [decide_eq_true h]; rfl
theorem cut_sz (s : ByteArray) : (cut 400 s).size ≤ 400 := by
  by_cases h : s.size > 400
  · rw [cut_gt h, ByteArray.size_extract]; omega
  · rw [cut_le h]; omega
abbrev fewOf (p : Int × ByteArray) : Int × ByteArray := (bif decide (p.1 ≥ 4096) then 4095 else p.1, cut 400 p.2)
theorem room24 {l : List (List AV)} (h : l.length ≤ 100000) : (true && decide (l.length * 24 ≤ 140737488355328)) = true := by
  rw [Bool.true_and, decide_eq_true_eq]; omega
namespace JFew
theorem loop (ms : List (Int × ByteArray)) : ∃ e S1, Ends T orc L0 D0 (st0 (ms.map cP) 0 []) e S1 ∧ e = .exit 0 ∧ ∃ x, S1 = st0 (ms.map cP) x (((ms.take 12).map fewOf).map cP) := by
  have key : ∃ e S1, Ends T orc L0 D0 (st0 (ms.map cP) ((0 : Nat) : Int) (((ms.take 0).map fewOf).map cP)) e S1 ∧ e = .exit 0 ∧ ∃ x, S1 = st0 (ms.map cP) x (((ms.take 12).map fewOf).map cP) := by
    refine loop_inv1 (fun (i : Nat) => st0 (ms.map cP) i (((ms.take i).map fewOf).map cP)) (fun i => i ≤ ms.length ∧ i ≤ 12) (fun i => 12 - i)
      (fun e S1 => e = .exit 0 ∧ ∃ x, S1 = st0 (ms.map cP) x (((ms.take 12).map fewOf).map cP)) isL0 ?_ 0 ⟨Nat.zero_le _, by omega⟩
    intro i ⟨h1, h2⟩
    refine ⟨noTab, noTab_all, lands_of (round0 ..) ?_⟩
    rw [List.length_map]
    by_cases hi : i < ms.length
    · by_cases hj : i < 12
      · have e : ((ms.take i).map fewOf).map cP ++ [cP (fewOf ms[i])] = ((ms.take (i + 1)).map fewOf).map cP := by
          rw [List.take_add_one, List.getElem?_eq_getElem hi, List.map_append, List.map_append]; rfl
        have hr : (true && decide ((((ms.take (i + 1)).map fewOf).map cP).length * 24 ≤ 140737488355328)) = true := room24 (by rw [List.length_map, List.length_map, List.length_take]; omega)
        have fin : Turns1 (fun (i : Nat) => st0 (ms.map cP) i (((ms.take i).map fewOf).map cP)) (fun i => i ≤ ms.length ∧ i ≤ 12) (fun i => 12 - i) (fun e S1 => e = .exit 0 ∧ ∃ x, S1 = st0 (ms.map cP) x (((ms.take 12).map fewOf).map cP)) (12 - i) .normal (st0 (ms.map cP) ((i + 1 : Nat) : Int) (((ms.take (i + 1)).map fewOf).map cP)) := ⟨i + 1, rfl, ⟨by omega, by omega⟩, by show 12 - (i + 1) < _; omega⟩
        rw [ltN hi, inN hi, getP hi, decide_eq_true (show (i : Int) < 12 by omega)]
        have si := wi_succ (show i < 4611686018427387904 by omega)
        by_cases hs : ms[i].2.size > 400
        · have hs1 : ((ms[i].2.size : Nat) : Int) > 400 := by omega
          have hs2 : 400 ≤ ((ms[i].2.size : Nat) : Int) := by omega
          rw [show fewOf ms[i] = (bif decide (ms[i].1 ≥ 4096) then 4095 else ms[i].1, ms[i].2.extract 0 400) from by unfold fewOf; rw [cut_gt hs]] at e
          by_cases hv : ms[i].1 ≥ 4096
          · rw [decide_eq_true hv] at e
            have e : ((ms.take i).map fewOf).map cP ++ [[AV.int .i64 4095, .str (ms[i].2.extract 0 400)]] = ((ms.take (i + 1)).map fewOf).map cP := e
            simp only [cP0, cP1, cPeta, cond_true, hs1, hs2, hv, decide_true, Bool.and_self, e, hr, si, lands_some]
            exact fin
          · rw [decide_eq_false hv] at e
            have e : ((ms.take i).map fewOf).map cP ++ [[AV.int .i64 ms[i].1, .str (ms[i].2.extract 0 400)]] = ((ms.take (i + 1)).map fewOf).map cP := e
            simp only [cP0, cP1, cPeta, cond_true, cond_false, hs1, hs2, hv, decide_true, decide_false, Bool.and_self, e, hr, si, lands_some]
            exact fin
        · have hs1 : ¬ ((ms[i].2.size : Nat) : Int) > 400 := by omega
          rw [show fewOf ms[i] = (bif decide (ms[i].1 ≥ 4096) then 4095 else ms[i].1, ms[i].2) from by unfold fewOf; rw [cut_le hs]] at e
          by_cases hv : ms[i].1 ≥ 4096
          · rw [decide_eq_true hv] at e
            have e : ((ms.take i).map fewOf).map cP ++ [[AV.int .i64 4095, .str ms[i].2]] = ((ms.take (i + 1)).map fewOf).map cP := e
            simp only [cP0, cP1, cPeta, cond_true, cond_false, hs1, hv, decide_true, decide_false, e, hr, si, lands_some]
            exact fin
          · rw [decide_eq_false hv] at e
            have e : ((ms.take i).map fewOf).map cP ++ [[AV.int .i64 ms[i].1, .str ms[i].2]] = ((ms.take (i + 1)).map fewOf).map cP := e
            simp only [cP0, cP1, cPeta, cond_true, cond_false, hs1, hv, decide_true, decide_false, e, hr, si, lands_some]
            exact fin
      · have hij : i = 12 := by omega
        subst hij
        rw [ltN hi, decide_eq_false (show ¬ ((12 : Nat) : Int) < 12 by omega)]
        simp only [cond_true, cond_false, lands_some, Turns1]
        exact ⟨trivial, _, rfl⟩
    · rw [ltN' hi]
      simp only [cond_false, lands_some, Turns1]
      have e1 : ms.take i = ms := List.take_of_length_le (by omega)
      have e2 : ms.take 12 = ms := List.take_of_length_le (by omega)
      rw [e1, e2]
      exact ⟨trivial, i, rfl⟩
  exact key
end JFew
theorem meets_jfew : Meets Try.prog 28 anjFew := by
  have key : Meets Try.prog 28 (fun a => match a with | [.rows 2 x] => some (isq x, .own (.rows 2 (prs (fewP (dp x))))) | _ => none) := by
    refine meets_fn (orc_ok (l := JFew.ans) trivial) Try.f28 Try.func28 (by kernel_rfl) (fun args r h => ?_)
    split at h
    · rename_i x
      simp only [Option.some.injEq, Prod.mk.injEq] at h
      obtain ⟨h1, rfl⟩ := h
      obtain ⟨ms, _, rfl⟩ := isq_iff.1 h1
      rw [dp_map, prs_eq, fewP_eq]
      obtain ⟨e1, S1, hE1, rfl, x, rfl⟩ := JFew.loop ms
      exact ⟨rfl, _, tabOf_all _, (JFew.rest _ (((ms.take 12).map fewOf).map cP) x).trans (bT (cdec_true hE1))⟩
    · cases h
  refine own_val key (fun args r h => ?_)
  unfold anjFew at h
  split at h
  · simp only [Option.some.injEq, Prod.mk.injEq] at h
    obtain ⟨h1, rfl⟩ := h
    exact ⟨_, rfl, by simp only [h1]⟩
  · cases h
end Go.Abs
end
section
/- The statements of layer 3: the term of a list of parts; the page's examples. -/
namespace Go.Abs
open Go.Proofs Go.Dig
theorem isT_nilc {c : Int} (h : fits c = true) : isT [] [] (sg c) (lb 4294967296 c) = true := isT_iff.2 ⟨[], c, okL_nil, h, rfl, rfl, rfl, rfl⟩
theorem fits_one : fits 1 = true := by kernel_rfl
namespace JTerm
def Post (ms : List (Int × ByteArray)) (e : Ex) (S1 : St) : Prop :=
  (e = .exit 0 ∧ ((∃ q c x, suF [] 0 ms = (0, q, c) ∧ S1 = st0 (ms.map cP) x (lvs q) (lrs q) (sg c) (lb 4294967296 c)) ∨ (ms = [] ∧ S1 = st0e (ms.map cP)))) ∨
  (e = .ret ∧ ∃ n q c, n ≠ 0 ∧ suF [] 0 ms = (n, q, c) ∧ ((∃ x, S1 = st0x0 (ms.map cP) x (lvs q) (lrs q) (sg c) (lb 4294967296 c)) ∨ (q = [] ∧ c = 0 ∧ ∃ x l r b l', S1 = st0 (ms.map cP) x l r b l')))
theorem loop (ms : List (Int × ByteArray)) (hm : ∀ p ∈ ms, i64B p.1 = true ∧ p.1 < 4096 ∧ p.2.size ≤ 10000) (hlen : ms.length ≤ 100000) (i0 : Nat) (q0 : List (Int × Int)) (c0 : Int) (g0 : i0 ≤ ms.length) (g1 : okL q0) (g2 : fits c0 = true) (g3 : suF q0 c0 (ms.drop i0) = suF [] 0 ms) : ∃ e S1, Ends T orc L0 D0 (st0 (ms.map cP) i0 (lvs q0) (lrs q0) (sg c0) (lb 4294967296 c0)) e S1 ∧ Post ms e S1 := by
  refine loop_inv3 (fun (i : Nat) (q : List (Int × Int)) (c : Int) => st0 (ms.map cP) i (lvs q) (lrs q) (sg c) (lb 4294967296 c)) (fun i q c => i ≤ ms.length ∧ okL q ∧ fits c = true ∧ suF q c (ms.drop i) = suF [] 0 ms) (fun i q c => ms.length - i)
    (Post ms) isL0 ?_ i0 q0 c0 ⟨g0, g1, g2, g3⟩
  intro i q c ⟨h1, h2, h4, h3⟩
  refine ⟨noTab, noTab_all, lands_of (round0 ..) ?_⟩
  by_cases hi : i < ms.length
  · obtain ⟨_, hv4, hsz⟩ := hm _ (List.getElem_mem hi)
    rw [suF_drop hi] at h3
    rw [List.length_map, ltN hi, inN hi, getP hi]
    have hfr := fits_rv ms[i].2
    by_cases he : re ms[i].2 = 0
    · rw [he] at h3
      by_cases hv : ms[i].1 ≥ 0
      · have h3 : (bif decide (0 ≤ ms[i].1) then (bif addE q (lone ms[i].1 (rv ms[i].2)) c 0 == 0 then suF (addL q (lone ms[i].1 (rv ms[i].2)) c 0) (addC q (lone ms[i].1 (rv ms[i].2)) c 0) (ms.drop (i + 1)) else (addE q (lone ms[i].1 (rv ms[i].2)) c 0, [], 0)) else _) = suF [] 0 ms := h3
        rw [decide_eq_true (show 0 ≤ ms[i].1 from hv), cond_true] at h3
        have v1 : vok ms[i].1 = true := vok_iff.2 ⟨hv, hv4⟩
        have v2 : vE ms[i].1 = 0 := by unfold vE; rw [v1]; rfl
        obtain ⟨s1, s2, s3⟩ := scale_lone ms[i].1 hfr
        simp only [plP0, plP0e, plP1, plP1e, placeP1, placeP2, cond_true, hsz, hv, decide_true, he, bne_self_eq_false, cond_false, v1, v2, isT_of0 (okL_lone ms[i].1 fits_one), cnW_fits hfr, N_eq, hfr, Bool.and_self, dl_lvs, s1, s2, s3, isT_of h2 h4, isT_of (okL_lone ms[i].1 hfr) fits0, num_lbW]
        rcases addE_cases q (lone ms[i].1 (rv ms[i].2)) c 0 with ⟨a1, _⟩ | ⟨a1, _⟩
        · rw [a1] at h3 ⊢
          simp only [bne_self_eq_false, cond_false, wi_succ (show i < 4611686018427387904 by omega), lands_some, Turns3]
          exact ⟨i + 1, addL q (lone ms[i].1 (rv ms[i].2)) c 0, addC q (lone ms[i].1 (rv ms[i].2)) c 0, rfl, ⟨by omega, okL_add _ _ _ _, fits_addC _ _ _ _, h3⟩, by omega⟩
        · rw [a1] at h3 ⊢
          simp only [show ((11 : Int) != 0) = true from rfl, cond_true, lands_some, Turns3]
          exact .inr ⟨rfl, 11, [], 0, by decide, h3.symm, .inr ⟨rfl, rfl, i, _, _, _, _, rfl⟩⟩
      · have h3 : (bif decide (0 ≤ ms[i].1) then _ else (bif addE q [] c (rv ms[i].2) == 0 then suF (addL q [] c (rv ms[i].2)) (addC q [] c (rv ms[i].2)) (ms.drop (i + 1)) else (addE q [] c (rv ms[i].2), [], 0))) = suF [] 0 ms := h3
        rw [decide_eq_false (show ¬ 0 ≤ ms[i].1 from hv), cond_false] at h3
        simp only [plP0, plP0e, plP1, plP1e, placeP1, placeP2, cond_true, hsz, hv, decide_true, decide_false, he, bne_self_eq_false, cond_false, N_eq, isT_nilc hfr, isT_of h2 h4, Bool.and_self, dl_lvs, dl_nil, num_lbW]
        rcases addE_cases q [] c (rv ms[i].2) with ⟨a1, _⟩ | ⟨a1, _⟩
        · rw [a1] at h3 ⊢
          simp only [bne_self_eq_false, cond_false, wi_succ (show i < 4611686018427387904 by omega), lands_some, Turns3]
          exact ⟨i + 1, addL q [] c (rv ms[i].2), addC q [] c (rv ms[i].2), rfl, ⟨by omega, okL_add _ _ _ _, fits_addC _ _ _ _, h3⟩, by omega⟩
        · rw [a1] at h3 ⊢
          simp only [show ((11 : Int) != 0) = true from rfl, cond_true, lands_some, Turns3]
          exact .inr ⟨rfl, 11, [], 0, by decide, h3.symm, .inr ⟨rfl, rfl, i, _, _, _, _, rfl⟩⟩
    · rw [show (re ms[i].2 == 0) = false from beq_eq_false_iff_ne.2 he] at h3
      simp only [plP0, plP0e, plP1, plP1e, placeP1, placeP2, cond_true, hsz, decide_true, ne_b he, lands_some, Turns3]
      exact .inr ⟨rfl, re ms[i].2, q, c, he, h3.symm, .inl ⟨i, rfl⟩⟩
  · have hd : ms.drop i = [] := List.drop_of_length_le (by omega)
    rw [hd] at h3
    rw [List.length_map, ltN' hi]
    simp only [cond_false, lands_some, Turns3]
    exact .inl ⟨rfl, .inl ⟨q, c, i, h3.symm, rfl⟩⟩
theorem first (ms : List (Int × ByteArray)) (hm : ∀ p ∈ ms, i64B p.1 = true ∧ p.1 < 4096 ∧ p.2.size ≤ 10000) (hlen : ms.length ≤ 100000) : ∃ e S1, Ends T orc L0 D0 (st0e (ms.map cP)) e S1 ∧ Post ms e S1 := by
  refine loop_first (Post ms) isL0 noTab_all (round0e ..) ?_
  by_cases hi : 0 < ms.length
  · obtain ⟨_, hv4, hsz⟩ := hm _ (List.getElem_mem hi)
    have h3 : suF [] 0 ms = _ := suF_drop hi [] 0
    have hget : (ms.map cP).getD 0 [] = cP ms[0] := getP hi
    rw [List.length_map, show decide ((0 : Int) < (ms.length : Int)) = true from decide_eq_true (by omega), show inB 0 ms.length = true from inN hi, hget]
    have hfr := fits_rv ms[0].2
    by_cases he : re ms[0].2 = 0
    · rw [he] at h3
      by_cases hv : ms[0].1 ≥ 0
      · have h3 : suF [] 0 ms = (bif decide (0 ≤ ms[0].1) then (bif addE [] (lone ms[0].1 (rv ms[0].2)) 0 0 == 0 then suF (addL [] (lone ms[0].1 (rv ms[0].2)) 0 0) (addC [] (lone ms[0].1 (rv ms[0].2)) 0 0) (ms.drop (0 + 1)) else (addE [] (lone ms[0].1 (rv ms[0].2)) 0 0, [], 0)) else _) := h3
        rw [decide_eq_true (show 0 ≤ ms[0].1 from hv), cond_true] at h3
        have v1 : vok ms[0].1 = true := vok_iff.2 ⟨hv, hv4⟩
        have v2 : vE ms[0].1 = 0 := by unfold vE; rw [v1]; rfl
        obtain ⟨s1, s2, s3⟩ := scale_lone ms[0].1 hfr
        simp only [plP0, plP0e, plP1, plP1e, placeP1, placeP2, cond_true, hsz, hv, decide_true, he, bne_self_eq_false, cond_false, v1, v2, isT_of0 (okL_lone ms[0].1 fits_one), cnW_fits hfr, N_eq, hfr, Bool.and_self, dl_lvs, dl_nil, s1, s2, s3, isT_nil, isT_of (okL_lone ms[0].1 hfr) fits0, num_zero]
        rcases addE_cases [] (lone ms[0].1 (rv ms[0].2)) 0 0 with ⟨a1, _⟩ | ⟨a1, _⟩
        · rw [a1] at h3 ⊢
          simp only [bne_self_eq_false, cond_false, lands_some]
          exact loop ms hm hlen 1 _ _ hi (okL_add _ _ _ _) (fits_addC _ _ _ _) h3.symm
        · rw [a1] at h3 ⊢
          simp only [show ((11 : Int) != 0) = true from rfl, cond_true, lands_some]
          exact .inr ⟨rfl, 11, [], 0, by decide, h3, .inr ⟨rfl, rfl, 0, _, _, _, _, rfl⟩⟩
      · have h3 : suF [] 0 ms = (bif decide (0 ≤ ms[0].1) then _ else (bif addE [] [] 0 (rv ms[0].2) == 0 then suF (addL [] [] 0 (rv ms[0].2)) (addC [] [] 0 (rv ms[0].2)) (ms.drop (0 + 1)) else (addE [] [] 0 (rv ms[0].2), [], 0))) := h3
        rw [decide_eq_false (show ¬ 0 ≤ ms[0].1 from hv), cond_false] at h3
        simp only [plP0, plP0e, plP1, plP1e, placeP1, placeP2, cond_true, hsz, hv, decide_true, decide_false, he, bne_self_eq_false, cond_false, N_eq, isT_nilc hfr, isT_nil, Bool.and_self, dl_lvs, dl_nil, num_zero]
        rcases addE_cases [] [] 0 (rv ms[0].2) with ⟨a1, _⟩ | ⟨a1, _⟩
        · rw [a1] at h3 ⊢
          simp only [bne_self_eq_false, cond_false, lands_some]
          exact loop ms hm hlen 1 _ _ hi (okL_add _ _ _ _) (fits_addC _ _ _ _) h3.symm
        · rw [a1] at h3 ⊢
          simp only [show ((11 : Int) != 0) = true from rfl, cond_true, lands_some]
          exact .inr ⟨rfl, 11, [], 0, by decide, h3, .inr ⟨rfl, rfl, 0, _, _, _, _, rfl⟩⟩
    · rw [show (re ms[0].2 == 0) = false from beq_eq_false_iff_ne.2 he] at h3
      simp only [plP0, plP0e, plP1, plP1e, placeP1, placeP2, cond_true, hsz, decide_true, ne_b he, lands_some]
      refine .inr ⟨rfl, re ms[0].2, [], 0, he, h3, .inl ⟨0, ?_⟩⟩
      rw [lvs_nil, lrs_nil]; rfl
  · have hd : ms = [] := List.eq_nil_of_length_eq_zero (by omega)
    subst hd
    rw [show decide ((0 : Int) < (([] : List (Int × ByteArray)).map cP).length) = false from rfl]
    simp only [cond_false, lands_some]
    exact .inl ⟨rfl, .inr ⟨rfl, rfl⟩⟩
end JTerm
theorem meets_jterm : Meets Try.prog 29 anjTerm := by
  refine meets_fn (orc_ok (l := JTerm.ans) ⟨meets_parse, meets_nnum, meets_nvar, meets_nscale, meets_nadd, trivial⟩) Try.f29 Try.func29 (by kernel_rfl) (fun args r h => ?_)
  unfold anjTerm at h
  split at h
  · rename_i x
    simp only [Option.some.injEq, Prod.mk.injEq] at h
    obtain ⟨h1, rfl⟩ := h
    obtain ⟨ms, k1, k2, rfl⟩ := isg_iff.1 h1
    rw [dp_map]
    have hE := suE_eq ms
    have hl := teL_eq ms
    have hc := teC_eq ms
    obtain ⟨e1, S1, hE1, hP⟩ := JTerm.first ms k1 k2
    rcases hP with ⟨rfl, ⟨q, c, x, h3, rfl⟩ | ⟨rfl, rfl⟩⟩ | ⟨rfl, n, q, c, h4, h3, ⟨x, rfl⟩ | ⟨rfl, rfl, x, l, r, b, l', rfl⟩⟩
    · rw [h3] at hE hl hc
      have hE : suE ms = 0 := hE
      have hl : teL ms = q := hl
      have hc : teC ms = c := hc
      rw [hE, hl, hc]
      exact ⟨rfl, _, tabOf_all _, (JTerm.rest_2 _ (lvs q) (lrs q) (sg c) (lb 4294967296 c) x).trans (bT (cdec_true hE1))⟩
    · have hE : suE [] = 0 := hE
      have hl : teL [] = [] := hl
      have hc : teC [] = 0 := hc
      rw [hE, hl, hc, lvs_nil, lrs_nil]
      exact ⟨rfl, _, tabOf_all _, (JTerm.rest_3 _).trans (bT (cdec_true hE1))⟩
    · rw [h3] at hE hl hc
      have hE : suE ms = n := hE
      have hl : teL ms = q := hl
      have hc : teC ms = c := hc
      rw [hE, hl, hc, show (n == 0) = false from beq_eq_false_iff_ne.2 h4]
      exact ⟨rfl, _, tabOf_all _, (JTerm.rest_0 _ (lvs q) (lrs q) (sg c) (lb 4294967296 c) x).trans (bT (cdec_true hE1))⟩
    · rw [h3] at hE hl hc
      have hE : suE ms = n := hE
      have hl : teL ms = [] := hl
      have hc : teC ms = 0 := hc
      rw [hE, hl, hc, lvs_nil, lrs_nil, show (n == 0) = false from beq_eq_false_iff_ne.2 h4]
      exact ⟨rfl, _, tabOf_all _, (JTerm.rest_1 _ x l r b l').trans (bT (cdec_true hE1))⟩
  · cases h
/-- The page's examples. -/
abbrev aw : List (Int × ByteArray) := [(0, ⟨#[50]⟩), (1, ⟨#[45, 52]⟩)]
abbrev awL : List (Int × Int) := [(0, 2), (1, -4)]
theorem aw_two : (rv ⟨#[50]⟩ = 2 ∧ re ⟨#[50]⟩ = 0) ∧ (rv ⟨#[45, 52]⟩ = -4 ∧ re ⟨#[45, 52]⟩ = 0) ∧ rv ⟨#[51]⟩ = 3 ∧ re ⟨#[51]⟩ = 0 := ⟨⟨by kernel_rfl, by kernel_rfl⟩, ⟨by kernel_rfl, by kernel_rfl⟩, by kernel_rfl, by kernel_rfl⟩
theorem aw_ofF {a b : Int} (ha : a ≠ 0) (hb : b ≠ 0) {f : Int → Int} (h : ∀ v, 0 ≤ v → v < 4096 → f v = if v = 0 then a else if v = 1 then b else 0) : ofF f = [(0, a), (1, b)] := by
  refine (eq_ofF ?_ ?_ (fun v => ?_)).symm
  · exact List.pairwise_cons.2 ⟨fun p hp => by rw [List.mem_singleton.1 hp]; exact (by decide : (0 : Int) < 1), List.pairwise_singleton ..⟩
  · intro p hp
    rcases List.mem_cons.1 hp with rfl | hp
    · exact ha
    · rw [List.mem_singleton.1 hp]; exact hb
  · rw [cf_cons, cf_cons, cf_nil]
    by_cases hv : 0 ≤ v ∧ v < 4096
    · rw [if_pos hv, h v hv.1 hv.2]
      by_cases h0 : v = 0
      · rw [if_pos h0, if_pos h0.symm]
      · rw [if_neg h0, if_neg (fun hh => h0 hh.symm)]
        by_cases h1 : v = 1
        · rw [if_pos h1, if_pos h1.symm]
        · rw [if_neg h1, if_neg (fun hh => h1 hh.symm)]
    · rw [if_neg hv, if_neg (by show ¬ (0 : Int) = v; omega), if_neg (by show ¬ (1 : Int) = v; omega)]
theorem aw_cf (v : Int) : cf awL v = if v = 0 then 2 else if v = 1 then -4 else 0 := by
  rw [cf_cons, cf_cons, cf_nil]
  by_cases h0 : v = 0
  · rw [if_pos h0, if_pos h0.symm]
  · rw [if_neg h0, if_neg (fun hh => h0 hh.symm)]
    by_cases h1 : v = 1
    · rw [if_pos h1, if_pos h1.symm]
    · rw [if_neg h1, if_neg (fun hh => h1 hh.symm)]
theorem fits_m4 : fits (-4) = true := by kernel_rfl
theorem fits_two : fits 2 = true := by kernel_rfl
theorem fits_three : fits 3 = true := by kernel_rfl
theorem aw_rdF : rdF [] aw = (0, awL) := by
  obtain ⟨⟨a1, a2⟩, ⟨a3, a4⟩, _⟩ := aw_two
  have h1 : rdF [] aw = bif !(vE 0 == 0) then (vE 0, []) else bif !(re ⟨#[50]⟩ == 0) then (re ⟨#[50]⟩, []) else bif addE [] (lone 0 (rv ⟨#[50]⟩)) 0 0 == 0 then rdF (addL [] (lone 0 (rv ⟨#[50]⟩)) 0 0) [(1, ⟨#[45, 52]⟩)] else (addE [] (lone 0 (rv ⟨#[50]⟩)) 0 0, []) := rfl
  have h2 : ∀ q, rdF q [(1, ⟨#[45, 52]⟩)] = bif !(vE 1 == 0) then (vE 1, []) else bif !(re ⟨#[45, 52]⟩ == 0) then (re ⟨#[45, 52]⟩, []) else bif addE q (lone 1 (rv ⟨#[45, 52]⟩)) 0 0 == 0 then (0, addL q (lone 1 (rv ⟨#[45, 52]⟩)) 0 0) else (addE q (lone 1 (rv ⟨#[45, 52]⟩)) 0 0, []) := fun q => rfl
  obtain ⟨b1, b2⟩ := (add_lone okL_nil (v := 0) (c := 2) (by omega) fits_two).1 (by rw [cf_nil]; exact fits_two)
  have b3 : addL [] (lone 0 2) 0 0 = lone 0 2 := by
    rw [b2, wiL_eq, lone_eq]
    refine ofF_congr (fun w _ _ => ?_)
    rw [cf_nil, Int.zero_add]
  have hok : okL (lone 0 2) := okL_lone 0 fits_two
  have hc : cf (lone 0 2) 1 = 0 := by rw [cf_lone, if_neg (fun hh => absurd hh.2 (by decide))]
  obtain ⟨d1, d2⟩ := (add_lone hok (v := 1) (c := -4) (by omega) fits_m4).1 (by rw [hc]; exact fits_m4)
  have d3 : addL (lone 0 2) (lone 1 (-4)) 0 0 = awL := by
    rw [d2, wiL_eq]
    refine aw_ofF (by decide) (by decide) (fun w _ _ => ?_)
    rw [cf_lone]
    by_cases h0 : w = 0
    · rw [if_pos h0, decide_eq_false (by omega), if_pos ⟨by omega, h0⟩]; rfl
    · rw [if_neg h0, if_neg (fun hh => h0 hh.2)]
      by_cases h1 : w = 1
      · rw [if_pos h1, decide_eq_true h1]; rfl
      · rw [if_neg h1, decide_eq_false h1]; rfl
  rw [h1, a2, a1, b1, b3, h2, a4, a3, d1, d3]
  rfl
theorem aw_rd : rdE aw ⟨#[51]⟩ = 0 ∧ rdL aw ⟨#[51]⟩ = awL ∧ rdM aw ⟨#[51]⟩ = 3 := by
  obtain ⟨_, _, a5, a6⟩ := aw_two
  rcases rd_cases aw ⟨#[51]⟩ with ⟨c1, _⟩ | ⟨_, c0, _⟩ | ⟨_, _, c2, c3⟩
  · exact absurd c1 (by decide)
  · exact absurd a6 c0
  · rw [aw_rdF] at c2 c3
    rcases c3 with ⟨_, c3, c4⟩ | ⟨c3, _⟩
    · exact ⟨c2, c3, c4.trans a5⟩
    · exact absurd rfl c3
theorem aw_okL : okL awL := by
  have := okL_rd aw ⟨#[51]⟩
  rw [aw_rd.2.1] at this
  exact this
theorem aw_gcd : gcdL awL = 2 := by rw [gcdL_eq]; kernel_rfl
theorem aw_ti : tiL awL = [(0, 1), (1, -2)] ∧ tiM awL 3 = 1 := by
  have h1 := tiL_eq awL
  have h2 := tiM_eq awL 3
  rw [aw_gcd] at h1 h2
  have h1 : tiL awL = ofF (fun v => dq (cf awL v) 2) := h1
  have h2 : tiM awL 3 = dq 3 2 := h2
  refine ⟨?_, h2⟩
  rw [h1]
  refine aw_ofF (by decide) (by decide) (fun w _ _ => ?_)
  rw [aw_cf]
  by_cases h0 : w = 0
  · rw [if_pos h0, if_pos h0]; rfl
  · rw [if_neg h0, if_neg h0]
    by_cases h1 : w = 1
    · rw [if_pos h1, if_pos h1]; rfl
    · rw [if_neg h1, if_neg h1]; rfl
theorem aw_no : noL awL 3 = [(0, -2), (1, 4)] ∧ noM 3 = -4 ∧ he (3 + 1) = 0 := by
  have h1 := noL_eq awL 3
  have h2 := noM_eq 3
  have h3 : he (3 + 1) = 0 := by kernel_rfl
  rw [h3] at h1 h2
  have h1 : noL awL 3 = negL awL := h1
  have h2 : noM 3 = -4 := h2
  refine ⟨?_, h2, h3⟩
  rw [h1, negL_eq]
  refine aw_ofF (by decide) (by decide) (fun w _ _ => ?_)
  rw [aw_cf]
  by_cases h0 : w = 0
  · rw [if_pos h0, if_pos h0]
  · rw [if_neg h0, if_neg h0]
    by_cases h1 : w = 1
    · rw [if_pos h1, if_pos h1]; rfl
    · rw [if_neg h1, if_neg h1]; rfl
theorem aw_t1 : ((ttxt [(0, 1), (1, -2)] 0).toList == [(49 : UInt8), (42 : UInt8), (120 : UInt8), (48 : UInt8), (32 : UInt8), (43 : UInt8), (32 : UInt8), (45 : UInt8), (50 : UInt8), (42 : UInt8), (120 : UInt8), (49 : UInt8)]) = true := by rw [ttxt_eq]; kernel_rfl
theorem aw_t2 : ((ttxt [(0, -2), (1, 4)] 0).toList == [(45 : UInt8), (50 : UInt8), (42 : UInt8), (120 : UInt8), (48 : UInt8), (32 : UInt8), (43 : UInt8), (32 : UInt8), (52 : UInt8), (42 : UInt8), (120 : UInt8), (49 : UInt8)]) = true := by rw [ttxt_eq]; kernel_rfl
theorem meets_jawake : Meets Try.prog 13 anlAwake := by
  refine meets_fn (orc_ok (l := JAwake.ans) ⟨meets_nread meets_nadd, meets_nnot, meets_ntight, meets_ntext, meets_text, trivial⟩) Try.f13 Try.func13 (by kernel_rfl) (fun args r h => ?_)
  unfold anlAwake at h
  split at h
  · simp only [Option.some.injEq, Prod.mk.injEq] at h
    obtain ⟨_, rfl⟩ := h
    refine ⟨rfl, _, noTab_all, JAwake.rest.trans ?_⟩
    have hr : ([[AV.int .i64 0, .str { data := #[50] }], [.int .i64 1, .str { data := #[45, 52] }]] : List (List AV)) = aw.map cP := rfl
    have hq : isq (aw.map cP) = true := isq_iff.2 ⟨aw, fun p hp => by
      rcases List.mem_cons.1 hp with rfl | hp
      · rfl
      · rw [List.mem_singleton.1 hp]; rfl, rfl⟩
    have hp : isp (aw.map cP) = true := isp_iff.2 ⟨aw, fun p hp => by
      rcases List.mem_cons.1 hp with rfl | hp
      · exact ⟨rfl, by decide⟩
      · rw [List.mem_singleton.1 hp]; exact ⟨rfl, by decide⟩, rfl⟩
    obtain ⟨r1, r2, r3⟩ := aw_rd
    obtain ⟨t1, t2⟩ := aw_ti
    obtain ⟨n1, n2, n3⟩ := aw_no
    have x1 : ((txt 1).toList == [(49 : UInt8)]) = true := by kernel_rfl
    have x2 : ((txt (-4)).toList == [(45 : UInt8), (52 : UInt8)]) = true := by kernel_rfl
    have o1 : okL [(0, 1), (1, -2)] := by have := okL_ti aw_okL; rw [t1] at this; exact this
    have o2 : okL [(0, -2), (1, 4)] := by
      have := okL_neg aw_okL
      have h1 := noL_eq awL 3
      rw [n3] at h1
      have h1 : noL awL 3 = negL awL := h1
      rw [← h1, n1] at this
      exact this
    rw [hr, hq, hp, dp_map, r1, r2, r3, isl_lvs aw_okL, N_eq, dl_lvs, t1, t2, n1, n2, n3, isT_of0 o1, isT_of0 o2, dl_lvs, dl_lvs, N_eq, N_eq, aw_t1, aw_t2, x1, x2, cnW_fits fits_three, fits_three, cnW_fits fits_one, cnW_fits fits_m4]
    rfl
  · cases h
end Go.Abs
end
section
/- The statements of layer 3: rows. -/
namespace Go.Abs
open Go.Proofs Go.Dig
theorem sameT_self (l : List (Int × Int)) (c : Int) : sameT l c l c = true := by rw [sameT_eq]; exact decide_eq_true rfl
end Go.Abs
end
section
/- The statements of layer 3: values. -/
namespace Go.Abs
open Go.Proofs Go.Dig
/-- A statement's parts. -/
theorem few_ok {ms : List (Int × ByteArray)} (hm : ∀ p ∈ ms, i64B p.1 = true) : isg (prs (fewP ms)) = true := isg_iff.2 ⟨fewP ms, fun p hp => by
  rw [fewP_eq] at hp
  obtain ⟨q, hq, rfl⟩ := List.mem_map.1 hp
  have h1 := hm q (List.mem_of_mem_take hq)
  have h2 := cut_sz q.2
  refine ⟨?_, ?_, by show (cut 400 q.2).size ≤ 10000; omega⟩
  · show i64B (bif decide (q.1 ≥ 4096) then 4095 else q.1) = true
    cases decide (q.1 ≥ 4096) with
    | true => rfl
    | false => exact h1
  · show (bif decide (q.1 ≥ 4096) then (4095 : Int) else q.1) < 4096
    by_cases h : q.1 ≥ 4096
    · rw [decide_eq_true h, cond_true]; decide
    · rw [decide_eq_false h, cond_false]; omega, by rw [fewP_eq, List.length_map, List.length_take]; omega, prs_eq _⟩
end Go.Abs
end
section
/- The statements of layer 3: sums and differences, a term in the place of a variable. -/
namespace Go.Abs
open Go.Proofs Go.Dig
theorem cmp_same (z : Int) : cmpZ z z = 0 := by unfold cmpZ; rw [if_neg (by omega), if_neg (by omega)]
/-- A term less itself. -/
theorem add_negself {l : List (Int × Int)} {c : Int} (h : okL l) : addE l (negL l) c (-c) = 0 ∧ addL l (negL l) c (-c) = [] ∧ addC l (negL l) c (-c) = 0 := by
  have e : ∀ v, cf l v + cf (negL l) v = 0 := fun v => by
    rw [negL_eq, cf_ofF]
    by_cases hv : 0 ≤ v ∧ v < 4096
    · rw [if_pos hv]; omega
    · rw [if_neg hv, cf_out (okL_in h) hv]; rfl
  have e0 : c + -c = 0 := by omega
  rcases addE_cases l (negL l) c (-c) with ⟨h1, h2, h3, _⟩ | ⟨_, _, _, h4⟩
  · refine ⟨h1, ?_, h3.trans e0⟩
    rw [h2, funext e, ofF_zero]
  · exact absurd ⟨by rw [e0]; exact fits0, fun v => by rw [e]; exact fits0⟩ h4
/-- A sum less what was added. -/
theorem add_back {q r : List (Int × Int)} {c d : Int} (hq : okL q) (hr : okL r) (h0 : addE q r c d = 0) (h1 : addE (addL q r c d) (negL r) (addC q r c d) (-d) = 0) : addL (addL q r c d) (negL r) (addC q r c d) (-d) = q ∧ addC (addL q r c d) (negL r) (addC q r c d) (-d) = c := by
  rcases addE_cases q r c d with ⟨_, a2, a3, _⟩ | ⟨a1, _⟩
  · rcases addE_cases (addL q r c d) (negL r) (addC q r c d) (-d) with ⟨_, b2, b3, _⟩ | ⟨b1, _⟩
    · refine ⟨?_, ?_⟩
      · have ok := okL_add (addL q r c d) (negL r) (addC q r c d) (-d)
        refine okL_eq ok hq (fun v => ?_)
        rw [b2, cf_ofF]
        by_cases hv : 0 ≤ v ∧ v < 4096
        · rw [if_pos hv, a2, cf_ofF, if_pos hv, negL_eq, cf_ofF, if_pos hv]; omega
        · rw [if_neg hv, cf_out (okL_in hq) hv]
      · rw [b3, a3]; omega
    · rw [h1] at b1; cases b1
  · rw [h0] at a1; cases a1
/-- A variable is gone where a term without it was put in its place. -/
theorem pt_gone {q r : List (Int × Int)} {c d v : Int} (h0 : ptE q c v r d = 0) (h1 : cf r v = 0) : cf (ptL q c v r d) v = 0 := by
  have hE := ptE_eq q c v r d
  have hL := ptL_eq q c v r d
  rw [h0] at hE
  by_cases hz : cf q v = 0
  · rw [hz] at hL
    have hL : ptL q c v r d = q := hL
    rw [hL, hz]
  · have hb : (cf q v == 0) = false := beq_eq_false_iff_ne.2 hz
    rw [hb, cond_false] at hE hL
    by_cases hs : scE r d (cf q v) = 0
    · have hs2 : (scE r d (cf q v) == 0) = true := beq_iff_eq.2 hs
      rw [hs2, cond_true] at hE hL
      rcases addE_cases (remL q v) (scL r d (cf q v)) c (scC r d (cf q v)) with ⟨_, a2, _⟩ | ⟨a1, _⟩
      · rcases scE_cases r d (cf q v) with ⟨_, s2, _⟩ | ⟨s1, _⟩
        · rw [hL, a2, cf_ofF, s2, cf_ofF, remL_eq, cf_ofF, h1, Int.zero_mul, decide_eq_true rfl, cond_true]
          simp
        · rw [hs] at s1; cases s1
      · rw [a1] at hE; cases hE
    · have hs2 : (scE r d (cf q v) == 0) = false := beq_eq_false_iff_ne.2 hs
      rw [hs2, cond_false] at hE
      exact absurd hE.symm hs
theorem law_cancels : Meets Try.prog 11 (fun a => match a with | [.rows 2 x, .rows 2 xz, .int .i64 _] => some (isq x && isq xz, .val (.bool true)) | _ => none) := by
  refine meets_fn (orc_ok (l := KCancels.ans) ⟨meets_jawake, meets_jfew, meets_jterm, meets_nsub meets_nadd, meets_nisnum, meets_nrest, meets_sign, meets_nadd, meets_nsame meets_ntext, meets_nputv meets_nscale meets_nadd, meets_ncoef, trivial⟩) Try.f11 Try.func11 (by kernel_rfl) (fun args r h => ?_)
  split at h
  · rename_i x xz v
    simp only [Option.some.injEq, Prod.mk.injEq, Bool.and_eq_true] at h
    obtain ⟨⟨h1, h2⟩, rfl⟩ := h
    refine ⟨rfl, _, noTab_all, (KCancels.rest x xz v).trans ((bT h1).trans ?_)⟩
    obtain ⟨ms, hm, rfl⟩ := isq_iff.1 h1
    obtain ⟨ns, hn, rfl⟩ := isq_iff.1 h2
    rw [dp_map, dp_map]
    refine (bT (few_ok hm)).trans ((bT h2).trans ((bT (few_ok hn)).trans ?_))
    rw [dp_prs, dp_prs]
    have oQ := okL_te (fewP ms)
    have fQ := fits_te (fewP ms)
    have oR := okL_te (fewP ns)
    have fR := fits_te (fewP ns)
    by_cases e1 : suE (fewP ms) = 0
    · refine (bF (by rw [e1]; rfl)).trans ?_
      by_cases e2 : suE (fewP ns) = 0
      · refine (bF (by rw [e2]; rfl)).trans ?_
        generalize teL (fewP ms) = q at *
        generalize teC (fewP ms) = c at *
        generalize teL (fewP ns) = r at *
        generalize teC (fewP ns) = d at *
        obtain ⟨n1, n2, n3⟩ := add_negself (c := c) oQ
        have oP := okL_pt (m := r) (c := c) (d := d) oQ v
        simp only [isT_of oQ fQ, isT_of oR fR, dl_lvs, N_eq, Bool.and_self, cond_true, n1, n2, n3, lvs_len, List.length_nil, Int.natCast_zero, beq_self_eq_true, bne_self_eq_false, Bool.not_true, cond_false, cnW_fits fits0, cmp_same,
          isT_of (okL_add q r c d) (fits_addC q r c d), isT_of (okL_add (addL q r c d) (negL r) (addC q r c d) (-d)) (fits_addC (addL q r c d) (negL r) (addC q r c d) (-d)), isl_lvs oR, isl_lvs oP, cnW_fits (okL_cf oR v), cnW_fits (okL_cf oP v)]
        have put : (bif ptE q c v r d != 0 then some (Res.val (AV.bool true)) else bif cmpZ (cf r v) 0 != 0 then some (Res.val (AV.bool true)) else some (Res.val (AV.bool (cmpZ (cf (ptL q c v r d) v) 0 == 0)))) = some (Res.val (AV.bool true)) := by
          by_cases p1 : ptE q c v r d = 0
          · refine (bF (eq_b p1)).trans ?_
            rw [cmpZ_zero, cmpZ_zero']
            by_cases p2 : cf r v = 0
            · refine (bF (by rw [p2]; rfl)).trans ?_
              rw [pt_gone p1 p2]; rfl
            · exact bT (by rw [beq_eq_false_iff_ne.2 p2]; rfl)
          · exact bT (ne_b p1)
        by_cases a1 : addE q r c d = 0
        · refine (bT (beq_iff_eq.2 a1)).trans ?_
          by_cases a2 : addE (addL q r c d) (negL r) (addC q r c d) (-d) = 0
          · refine (bT (beq_iff_eq.2 a2)).trans ?_
            obtain ⟨b1, b2⟩ := add_back oQ oR a1 a2
            rw [b1, b2]
            exact (bF (by rw [sameT_self]; rfl)).trans put
          · exact (bF (beq_eq_false_iff_ne.2 a2)).trans put
        · exact (bF (beq_eq_false_iff_ne.2 a1)).trans put
      · exact bT (by rw [show (suE (fewP ns) == 0) = false from beq_eq_false_iff_ne.2 e2]; rfl)
    · exact bT (by rw [show (suE (fewP ms) == 0) = false from beq_eq_false_iff_ne.2 e1]; rfl)
  · cases h
end Go.Abs
end
