/- What the rows of this seat rest on, part 5: an abstract machine for the model, proved sound, and the functions that the statements reach. No conditions. -/
import Derived.Test.YtehpihdiahbaeaaXBase4
set_option linter.unusedVariables false
set_option linter.unusedSimpArgs false
set_option linter.unnecessarySimpa false
set_option linter.unusedSectionVars false
section
/- States and rounds of the functions of linear and of its reference, as a program of this session printed them. -/
set_option maxRecDepth 10000
namespace Go.Abs
open Go.Proofs Go.Dig
noncomputable section
namespace NRead
abbrev ans : Ans := [(58, ansParse), (35, ansLVar), (52, ansLScale), (46, ansLAdd)]
abbrev orc : Orc := orcOf ans
noncomputable def L0 : Code := lp Try.f15 0
theorem isL0 : ∃ a, L0 = .loop a := ⟨_, rfl⟩
abbrev D0 : List Nat := [0, 1, 2, 3, 4, 5, 6, 12, 13, 14, 15, 17, 18, 19, 20, 21, 22, 23, 24, 27, 28, 29, 30]
abbrev st0 (x : List (List AV)) (s : ByteArray) (x1 : Int) (l0 : List Int) (r0 : List (List AV)) (b0 : Bool) (l1 : List Int) : St := ⟨.agg [.rows 2 x, .str s] :: .ptr 1 0 0 :: .ptr 2 0 0 :: .int .i64 (0) :: .ptr 4 0 0 :: .int .i64 (re s) :: .ptr 6 0 0 :: tops 5 (.ptr 1 0 0 :: .rows 2 x :: .int .i64 (↑x.length : Int) :: .bool (decide ((↑x.length : Int) > 4096)) :: tops 1 (.tup [R (rv s), .int .i64 (re s)] :: .ptr 1 0 1 :: .str s :: .tup [R (rv s), .int .i64 (re s)] :: R (rv s) :: .int .i64 (re s) :: .int .i64 (re s) :: .bool (re s != 0) :: tops 2 (.ptr 1 0 0 :: .rows 2 x :: .int .i64 (↑x.length : Int) :: .int .i64 x1 :: tops 43 ([])))), nos 1 (varE [(false, .rows 2 x), (false, .str s)] :: varE [(true, .ints .i64 []), (true, .rows 2 []), (false, .bool false), (true, .ints .u32 []), (false, .bool false), (true, .ints .u32 [])] :: nos 1 (varE [(false, .bool (sg (rv s))), (false, .ints .u32 (lb (4294967296) (rv s)))] :: nos 1 (varE [(false, .ints .i64 l0), (false, .rows 2 r0), (false, .bool b0), (false, .ints .u32 l1)] :: nos 67 ([]))))⟩
abbrev st0x0 (x : List (List AV)) (s : ByteArray) (x2 : Int) (x1 : Int) (l0 : List Int) (r0 : List (List AV)) (b0 : Bool) (l1 : List Int) : St := ⟨.agg [.rows 2 x, .str s] :: .ptr 1 0 0 :: .ptr 2 0 0 :: .int .i64 x2 :: .ptr 4 0 0 :: .int .i64 (re s) :: .ptr 6 0 0 :: tops 5 (.ptr 1 0 0 :: .rows 2 x :: .int .i64 (↑x.length : Int) :: .bool (decide ((↑x.length : Int) > 4096)) :: tops 1 (.tup [R (rv s), .int .i64 (re s)] :: .ptr 1 0 1 :: .str s :: .tup [R (rv s), .int .i64 (re s)] :: R (rv s) :: .int .i64 (re s) :: .int .i64 (re s) :: .bool (re s != 0) :: tops 2 (.ptr 1 0 0 :: .rows 2 x :: .int .i64 (↑x.length : Int) :: .int .i64 x1 :: tops 43 ([])))), nos 1 (varE [(false, .rows 2 x), (false, .str s)] :: varE [(true, .ints .i64 []), (true, .rows 2 []), (false, .bool false), (true, .ints .u32 []), (false, .bool false), (true, .ints .u32 [])] :: nos 1 (varE [(false, .bool (sg (rv s))), (false, .ints .u32 (lb (4294967296) (rv s)))] :: nos 1 (varE [(false, .ints .i64 l0), (false, .rows 2 r0), (false, .bool b0), (false, .ints .u32 l1)] :: nos 67 ([]))))⟩
abbrev st0x1 (x : List (List AV)) (s : ByteArray) : St := ⟨.agg [.rows 2 x, .str s] :: .ptr 1 0 0 :: .ptr 2 0 0 :: .int .i64 (vE (gInt ((x.getD 0 []).getD 0 .top))) :: .ptr 4 0 0 :: .int .i64 (re s) :: .ptr 6 0 0 :: tops 5 (.ptr 1 0 0 :: .rows 2 x :: .int .i64 (↑x.length : Int) :: .bool (decide ((↑x.length : Int) > 4096)) :: tops 1 (.tup [R (rv s), .int .i64 (re s)] :: .ptr 1 0 1 :: .str s :: .tup [R (rv s), .int .i64 (re s)] :: R (rv s) :: .int .i64 (re s) :: .int .i64 (re s) :: .bool (re s != 0) :: tops 2 (.ptr 1 0 0 :: .rows 2 x :: .int .i64 (↑x.length : Int) :: .int .i64 (0) :: tops 43 ([])))), nos 1 (varE [(false, .rows 2 x), (false, .str s)] :: varE [(true, .ints .i64 []), (true, .rows 2 []), (false, .bool false), (true, .ints .u32 []), (false, .bool false), (true, .ints .u32 [])] :: nos 1 (varE [(false, .bool (sg (rv s))), (false, .ints .u32 (lb (4294967296) (rv s)))] :: nos 1 (varE [(true, .ints .i64 []), (true, .rows 2 []), (false, .bool false), (true, .ints .u32 [])] :: nos 67 ([]))))⟩
abbrev st0x2 (x : List (List AV)) (s : ByteArray) : St := ⟨.agg [.rows 2 x, .str s] :: .ptr 1 0 0 :: .ptr 2 0 0 :: .int .i64 (re (gStr ((x.getD 0 []).getD 1 .top))) :: .ptr 4 0 0 :: .int .i64 (re s) :: .ptr 6 0 0 :: tops 5 (.ptr 1 0 0 :: .rows 2 x :: .int .i64 (↑x.length : Int) :: .bool (decide ((↑x.length : Int) > 4096)) :: tops 1 (.tup [R (rv s), .int .i64 (re s)] :: .ptr 1 0 1 :: .str s :: .tup [R (rv s), .int .i64 (re s)] :: R (rv s) :: .int .i64 (re s) :: .int .i64 (re s) :: .bool (re s != 0) :: tops 2 (.ptr 1 0 0 :: .rows 2 x :: .int .i64 (↑x.length : Int) :: .int .i64 (0) :: tops 43 ([])))), nos 1 (varE [(false, .rows 2 x), (false, .str s)] :: varE [(true, .ints .i64 []), (true, .rows 2 []), (false, .bool false), (true, .ints .u32 []), (false, .bool false), (true, .ints .u32 [])] :: nos 1 (varE [(false, .bool (sg (rv s))), (false, .ints .u32 (lb (4294967296) (rv s)))] :: nos 1 (varE [(true, .ints .i64 []), (true, .rows 2 []), (false, .bool false), (true, .ints .u32 [])] :: nos 67 ([]))))⟩
abbrev st0x3 (x : List (List AV)) (s : ByteArray) : St := ⟨.agg [.rows 2 x, .str s] :: .ptr 1 0 0 :: .ptr 2 0 0 :: .int .i64 (0) :: .ptr 4 0 0 :: .int .i64 (re s) :: .ptr 6 0 0 :: tops 5 (.ptr 1 0 0 :: .rows 2 x :: .int .i64 (↑x.length : Int) :: .bool (decide ((↑x.length : Int) > 4096)) :: tops 1 (.tup [R (rv s), .int .i64 (re s)] :: .ptr 1 0 1 :: .str s :: .tup [R (rv s), .int .i64 (re s)] :: R (rv s) :: .int .i64 (re s) :: .int .i64 (re s) :: .bool (re s != 0) :: tops 2 (.ptr 1 0 0 :: .rows 2 x :: .int .i64 (↑x.length : Int) :: .int .i64 (0) :: tops 43 ([])))), nos 1 (varE [(false, .rows 2 x), (false, .str s)] :: varE [(true, .ints .i64 []), (true, .rows 2 []), (false, .bool false), (true, .ints .u32 []), (false, .bool false), (true, .ints .u32 [])] :: nos 1 (varE [(false, .bool (sg (rv s))), (false, .ints .u32 (lb (4294967296) (rv s)))] :: nos 1 (varE [(true, .ints .i64 []), (true, .rows 2 []), (false, .bool false), (true, .ints .u32 [])] :: nos 67 ([]))))⟩
abbrev st0e (x : List (List AV)) (s : ByteArray) : St := ⟨.agg [.rows 2 x, .str s] :: .ptr 1 0 0 :: .ptr 2 0 0 :: .int .i64 (0) :: .ptr 4 0 0 :: .int .i64 (re s) :: .ptr 6 0 0 :: tops 5 (.ptr 1 0 0 :: .rows 2 x :: .int .i64 (↑x.length : Int) :: .bool (decide ((↑x.length : Int) > 4096)) :: tops 1 (.tup [R (rv s), .int .i64 (re s)] :: .ptr 1 0 1 :: .str s :: .tup [R (rv s), .int .i64 (re s)] :: R (rv s) :: .int .i64 (re s) :: .int .i64 (re s) :: .bool (re s != 0) :: tops 2 (.ptr 1 0 0 :: .rows 2 x :: .int .i64 (↑x.length : Int) :: .int .i64 (0) :: tops 43 ([])))), nos 1 (varE [(false, .rows 2 x), (false, .str s)] :: varE [(true, .ints .i64 []), (true, .rows 2 []), (false, .bool false), (true, .ints .u32 []), (false, .bool false), (true, .ints .u32 [])] :: nos 1 (varE [(false, .bool (sg (rv s))), (false, .ints .u32 (lb (4294967296) (rv s)))] :: nos 1 (varE [(true, .ints .i64 []), (true, .rows 2 []), (false, .bool false), (true, .ints .u32 [])] :: nos 67 ([]))))⟩
theorem round0e (x : List (List AV)) (s : ByteArray) : goL T orc (noTab) D0 L0 (st0e x s) =
    (bif decide (0 < (↑x.length : Int)) then (bif inB (0) x.length then (bif etasOk [.int .i64 (0), .str { data := #[] }] (x.getD 0 []) then (bif vE (gInt ((x.getD 0 []).getD 0 .top)) != 0 then some (.ret, st0x1 x s) else (bif decide ((gStr ((x.getD 0 []).getD 1 .top)).size ≤ 10000) then (bif re (gStr ((x.getD 0 []).getD 1 .top)) != 0 then some (.ret, st0x2 x s) else (bif isT (lvs (Bool.rec [] (lone (gInt ((x.getD 0 []).getD 0 .top)) (1)) (vok (gInt ((x.getD 0 []).getD 0 .top))))) (lrs (Bool.rec [] (lone (gInt ((x.getD 0 []).getD 0 .top)) (1)) (vok (gInt ((x.getD 0 []).getD 0 .top))))) false [] && (cn (4294967296) (sg (rv (gStr ((x.getD 0 []).getD 1 .top)))) (lb (4294967296) (rv (gStr ((x.getD 0 []).getD 1 .top)))) && fits (N (4294967296) (rv (gStr ((x.getD 0 []).getD 1 .top))))) then (bif isT [] [] false [] && isT (lvs (scL (dl (lvs (Bool.rec [] (lone (gInt ((x.getD 0 []).getD 0 .top)) (1)) (vok (gInt ((x.getD 0 []).getD 0 .top))))) (lrs (Bool.rec [] (lone (gInt ((x.getD 0 []).getD 0 .top)) (1)) (vok (gInt ((x.getD 0 []).getD 0 .top)))))) (0) (N (4294967296) (rv (gStr ((x.getD 0 []).getD 1 .top)))))) (lrs (scL (dl (lvs (Bool.rec [] (lone (gInt ((x.getD 0 []).getD 0 .top)) (1)) (vok (gInt ((x.getD 0 []).getD 0 .top))))) (lrs (Bool.rec [] (lone (gInt ((x.getD 0 []).getD 0 .top)) (1)) (vok (gInt ((x.getD 0 []).getD 0 .top)))))) (0) (N (4294967296) (rv (gStr ((x.getD 0 []).getD 1 .top)))))) (sg (scC (dl (lvs (Bool.rec [] (lone (gInt ((x.getD 0 []).getD 0 .top)) (1)) (vok (gInt ((x.getD 0 []).getD 0 .top))))) (lrs (Bool.rec [] (lone (gInt ((x.getD 0 []).getD 0 .top)) (1)) (vok (gInt ((x.getD 0 []).getD 0 .top)))))) (0) (N (4294967296) (rv (gStr ((x.getD 0 []).getD 1 .top)))))) (lb (4294967296) (scC (dl (lvs (Bool.rec [] (lone (gInt ((x.getD 0 []).getD 0 .top)) (1)) (vok (gInt ((x.getD 0 []).getD 0 .top))))) (lrs (Bool.rec [] (lone (gInt ((x.getD 0 []).getD 0 .top)) (1)) (vok (gInt ((x.getD 0 []).getD 0 .top)))))) (0) (N (4294967296) (rv (gStr ((x.getD 0 []).getD 1 .top)))))) then (bif addE (dl [] []) (dl (lvs (scL (dl (lvs (Bool.rec [] (lone (gInt ((x.getD 0 []).getD 0 .top)) (1)) (vok (gInt ((x.getD 0 []).getD 0 .top))))) (lrs (Bool.rec [] (lone (gInt ((x.getD 0 []).getD 0 .top)) (1)) (vok (gInt ((x.getD 0 []).getD 0 .top)))))) (0) (N (4294967296) (rv (gStr ((x.getD 0 []).getD 1 .top)))))) (lrs (scL (dl (lvs (Bool.rec [] (lone (gInt ((x.getD 0 []).getD 0 .top)) (1)) (vok (gInt ((x.getD 0 []).getD 0 .top))))) (lrs (Bool.rec [] (lone (gInt ((x.getD 0 []).getD 0 .top)) (1)) (vok (gInt ((x.getD 0 []).getD 0 .top)))))) (0) (N (4294967296) (rv (gStr ((x.getD 0 []).getD 1 .top))))))) (0) (N (4294967296) (scC (dl (lvs (Bool.rec [] (lone (gInt ((x.getD 0 []).getD 0 .top)) (1)) (vok (gInt ((x.getD 0 []).getD 0 .top))))) (lrs (Bool.rec [] (lone (gInt ((x.getD 0 []).getD 0 .top)) (1)) (vok (gInt ((x.getD 0 []).getD 0 .top)))))) (0) (N (4294967296) (rv (gStr ((x.getD 0 []).getD 1 .top)))))) != 0 then some (.ret, st0x0 x s (addE (dl [] []) (dl (lvs (scL (dl (lvs (Bool.rec [] (lone (gInt ((x.getD 0 []).getD 0 .top)) (1)) (vok (gInt ((x.getD 0 []).getD 0 .top))))) (lrs (Bool.rec [] (lone (gInt ((x.getD 0 []).getD 0 .top)) (1)) (vok (gInt ((x.getD 0 []).getD 0 .top)))))) (0) (N (4294967296) (rv (gStr ((x.getD 0 []).getD 1 .top)))))) (lrs (scL (dl (lvs (Bool.rec [] (lone (gInt ((x.getD 0 []).getD 0 .top)) (1)) (vok (gInt ((x.getD 0 []).getD 0 .top))))) (lrs (Bool.rec [] (lone (gInt ((x.getD 0 []).getD 0 .top)) (1)) (vok (gInt ((x.getD 0 []).getD 0 .top)))))) (0) (N (4294967296) (rv (gStr ((x.getD 0 []).getD 1 .top))))))) (0) (N (4294967296) (scC (dl (lvs (Bool.rec [] (lone (gInt ((x.getD 0 []).getD 0 .top)) (1)) (vok (gInt ((x.getD 0 []).getD 0 .top))))) (lrs (Bool.rec [] (lone (gInt ((x.getD 0 []).getD 0 .top)) (1)) (vok (gInt ((x.getD 0 []).getD 0 .top)))))) (0) (N (4294967296) (rv (gStr ((x.getD 0 []).getD 1 .top))))))) (0) (lvs (addL (dl [] []) (dl (lvs (scL (dl (lvs (Bool.rec [] (lone (gInt ((x.getD 0 []).getD 0 .top)) (1)) (vok (gInt ((x.getD 0 []).getD 0 .top))))) (lrs (Bool.rec [] (lone (gInt ((x.getD 0 []).getD 0 .top)) (1)) (vok (gInt ((x.getD 0 []).getD 0 .top)))))) (0) (N (4294967296) (rv (gStr ((x.getD 0 []).getD 1 .top)))))) (lrs (scL (dl (lvs (Bool.rec [] (lone (gInt ((x.getD 0 []).getD 0 .top)) (1)) (vok (gInt ((x.getD 0 []).getD 0 .top))))) (lrs (Bool.rec [] (lone (gInt ((x.getD 0 []).getD 0 .top)) (1)) (vok (gInt ((x.getD 0 []).getD 0 .top)))))) (0) (N (4294967296) (rv (gStr ((x.getD 0 []).getD 1 .top))))))) (0) (N (4294967296) (scC (dl (lvs (Bool.rec [] (lone (gInt ((x.getD 0 []).getD 0 .top)) (1)) (vok (gInt ((x.getD 0 []).getD 0 .top))))) (lrs (Bool.rec [] (lone (gInt ((x.getD 0 []).getD 0 .top)) (1)) (vok (gInt ((x.getD 0 []).getD 0 .top)))))) (0) (N (4294967296) (rv (gStr ((x.getD 0 []).getD 1 .top)))))))) (lrs (addL (dl [] []) (dl (lvs (scL (dl (lvs (Bool.rec [] (lone (gInt ((x.getD 0 []).getD 0 .top)) (1)) (vok (gInt ((x.getD 0 []).getD 0 .top))))) (lrs (Bool.rec [] (lone (gInt ((x.getD 0 []).getD 0 .top)) (1)) (vok (gInt ((x.getD 0 []).getD 0 .top)))))) (0) (N (4294967296) (rv (gStr ((x.getD 0 []).getD 1 .top)))))) (lrs (scL (dl (lvs (Bool.rec [] (lone (gInt ((x.getD 0 []).getD 0 .top)) (1)) (vok (gInt ((x.getD 0 []).getD 0 .top))))) (lrs (Bool.rec [] (lone (gInt ((x.getD 0 []).getD 0 .top)) (1)) (vok (gInt ((x.getD 0 []).getD 0 .top)))))) (0) (N (4294967296) (rv (gStr ((x.getD 0 []).getD 1 .top))))))) (0) (N (4294967296) (scC (dl (lvs (Bool.rec [] (lone (gInt ((x.getD 0 []).getD 0 .top)) (1)) (vok (gInt ((x.getD 0 []).getD 0 .top))))) (lrs (Bool.rec [] (lone (gInt ((x.getD 0 []).getD 0 .top)) (1)) (vok (gInt ((x.getD 0 []).getD 0 .top)))))) (0) (N (4294967296) (rv (gStr ((x.getD 0 []).getD 1 .top)))))))) (sg (addC (dl [] []) (dl (lvs (scL (dl (lvs (Bool.rec [] (lone (gInt ((x.getD 0 []).getD 0 .top)) (1)) (vok (gInt ((x.getD 0 []).getD 0 .top))))) (lrs (Bool.rec [] (lone (gInt ((x.getD 0 []).getD 0 .top)) (1)) (vok (gInt ((x.getD 0 []).getD 0 .top)))))) (0) (N (4294967296) (rv (gStr ((x.getD 0 []).getD 1 .top)))))) (lrs (scL (dl (lvs (Bool.rec [] (lone (gInt ((x.getD 0 []).getD 0 .top)) (1)) (vok (gInt ((x.getD 0 []).getD 0 .top))))) (lrs (Bool.rec [] (lone (gInt ((x.getD 0 []).getD 0 .top)) (1)) (vok (gInt ((x.getD 0 []).getD 0 .top)))))) (0) (N (4294967296) (rv (gStr ((x.getD 0 []).getD 1 .top))))))) (0) (N (4294967296) (scC (dl (lvs (Bool.rec [] (lone (gInt ((x.getD 0 []).getD 0 .top)) (1)) (vok (gInt ((x.getD 0 []).getD 0 .top))))) (lrs (Bool.rec [] (lone (gInt ((x.getD 0 []).getD 0 .top)) (1)) (vok (gInt ((x.getD 0 []).getD 0 .top)))))) (0) (N (4294967296) (rv (gStr ((x.getD 0 []).getD 1 .top)))))))) (lb (4294967296) (addC (dl [] []) (dl (lvs (scL (dl (lvs (Bool.rec [] (lone (gInt ((x.getD 0 []).getD 0 .top)) (1)) (vok (gInt ((x.getD 0 []).getD 0 .top))))) (lrs (Bool.rec [] (lone (gInt ((x.getD 0 []).getD 0 .top)) (1)) (vok (gInt ((x.getD 0 []).getD 0 .top)))))) (0) (N (4294967296) (rv (gStr ((x.getD 0 []).getD 1 .top)))))) (lrs (scL (dl (lvs (Bool.rec [] (lone (gInt ((x.getD 0 []).getD 0 .top)) (1)) (vok (gInt ((x.getD 0 []).getD 0 .top))))) (lrs (Bool.rec [] (lone (gInt ((x.getD 0 []).getD 0 .top)) (1)) (vok (gInt ((x.getD 0 []).getD 0 .top)))))) (0) (N (4294967296) (rv (gStr ((x.getD 0 []).getD 1 .top))))))) (0) (N (4294967296) (scC (dl (lvs (Bool.rec [] (lone (gInt ((x.getD 0 []).getD 0 .top)) (1)) (vok (gInt ((x.getD 0 []).getD 0 .top))))) (lrs (Bool.rec [] (lone (gInt ((x.getD 0 []).getD 0 .top)) (1)) (vok (gInt ((x.getD 0 []).getD 0 .top)))))) (0) (N (4294967296) (rv (gStr ((x.getD 0 []).getD 1 .top))))))))) else some (.normal, st0 x s (IntKind.i64.wrap (0 + 1)) (lvs (addL (dl [] []) (dl (lvs (scL (dl (lvs (Bool.rec [] (lone (gInt ((x.getD 0 []).getD 0 .top)) (1)) (vok (gInt ((x.getD 0 []).getD 0 .top))))) (lrs (Bool.rec [] (lone (gInt ((x.getD 0 []).getD 0 .top)) (1)) (vok (gInt ((x.getD 0 []).getD 0 .top)))))) (0) (N (4294967296) (rv (gStr ((x.getD 0 []).getD 1 .top)))))) (lrs (scL (dl (lvs (Bool.rec [] (lone (gInt ((x.getD 0 []).getD 0 .top)) (1)) (vok (gInt ((x.getD 0 []).getD 0 .top))))) (lrs (Bool.rec [] (lone (gInt ((x.getD 0 []).getD 0 .top)) (1)) (vok (gInt ((x.getD 0 []).getD 0 .top)))))) (0) (N (4294967296) (rv (gStr ((x.getD 0 []).getD 1 .top))))))) (0) (N (4294967296) (scC (dl (lvs (Bool.rec [] (lone (gInt ((x.getD 0 []).getD 0 .top)) (1)) (vok (gInt ((x.getD 0 []).getD 0 .top))))) (lrs (Bool.rec [] (lone (gInt ((x.getD 0 []).getD 0 .top)) (1)) (vok (gInt ((x.getD 0 []).getD 0 .top)))))) (0) (N (4294967296) (rv (gStr ((x.getD 0 []).getD 1 .top)))))))) (lrs (addL (dl [] []) (dl (lvs (scL (dl (lvs (Bool.rec [] (lone (gInt ((x.getD 0 []).getD 0 .top)) (1)) (vok (gInt ((x.getD 0 []).getD 0 .top))))) (lrs (Bool.rec [] (lone (gInt ((x.getD 0 []).getD 0 .top)) (1)) (vok (gInt ((x.getD 0 []).getD 0 .top)))))) (0) (N (4294967296) (rv (gStr ((x.getD 0 []).getD 1 .top)))))) (lrs (scL (dl (lvs (Bool.rec [] (lone (gInt ((x.getD 0 []).getD 0 .top)) (1)) (vok (gInt ((x.getD 0 []).getD 0 .top))))) (lrs (Bool.rec [] (lone (gInt ((x.getD 0 []).getD 0 .top)) (1)) (vok (gInt ((x.getD 0 []).getD 0 .top)))))) (0) (N (4294967296) (rv (gStr ((x.getD 0 []).getD 1 .top))))))) (0) (N (4294967296) (scC (dl (lvs (Bool.rec [] (lone (gInt ((x.getD 0 []).getD 0 .top)) (1)) (vok (gInt ((x.getD 0 []).getD 0 .top))))) (lrs (Bool.rec [] (lone (gInt ((x.getD 0 []).getD 0 .top)) (1)) (vok (gInt ((x.getD 0 []).getD 0 .top)))))) (0) (N (4294967296) (rv (gStr ((x.getD 0 []).getD 1 .top)))))))) (sg (addC (dl [] []) (dl (lvs (scL (dl (lvs (Bool.rec [] (lone (gInt ((x.getD 0 []).getD 0 .top)) (1)) (vok (gInt ((x.getD 0 []).getD 0 .top))))) (lrs (Bool.rec [] (lone (gInt ((x.getD 0 []).getD 0 .top)) (1)) (vok (gInt ((x.getD 0 []).getD 0 .top)))))) (0) (N (4294967296) (rv (gStr ((x.getD 0 []).getD 1 .top)))))) (lrs (scL (dl (lvs (Bool.rec [] (lone (gInt ((x.getD 0 []).getD 0 .top)) (1)) (vok (gInt ((x.getD 0 []).getD 0 .top))))) (lrs (Bool.rec [] (lone (gInt ((x.getD 0 []).getD 0 .top)) (1)) (vok (gInt ((x.getD 0 []).getD 0 .top)))))) (0) (N (4294967296) (rv (gStr ((x.getD 0 []).getD 1 .top))))))) (0) (N (4294967296) (scC (dl (lvs (Bool.rec [] (lone (gInt ((x.getD 0 []).getD 0 .top)) (1)) (vok (gInt ((x.getD 0 []).getD 0 .top))))) (lrs (Bool.rec [] (lone (gInt ((x.getD 0 []).getD 0 .top)) (1)) (vok (gInt ((x.getD 0 []).getD 0 .top)))))) (0) (N (4294967296) (rv (gStr ((x.getD 0 []).getD 1 .top)))))))) (lb (4294967296) (addC (dl [] []) (dl (lvs (scL (dl (lvs (Bool.rec [] (lone (gInt ((x.getD 0 []).getD 0 .top)) (1)) (vok (gInt ((x.getD 0 []).getD 0 .top))))) (lrs (Bool.rec [] (lone (gInt ((x.getD 0 []).getD 0 .top)) (1)) (vok (gInt ((x.getD 0 []).getD 0 .top)))))) (0) (N (4294967296) (rv (gStr ((x.getD 0 []).getD 1 .top)))))) (lrs (scL (dl (lvs (Bool.rec [] (lone (gInt ((x.getD 0 []).getD 0 .top)) (1)) (vok (gInt ((x.getD 0 []).getD 0 .top))))) (lrs (Bool.rec [] (lone (gInt ((x.getD 0 []).getD 0 .top)) (1)) (vok (gInt ((x.getD 0 []).getD 0 .top)))))) (0) (N (4294967296) (rv (gStr ((x.getD 0 []).getD 1 .top))))))) (0) (N (4294967296) (scC (dl (lvs (Bool.rec [] (lone (gInt ((x.getD 0 []).getD 0 .top)) (1)) (vok (gInt ((x.getD 0 []).getD 0 .top))))) (lrs (Bool.rec [] (lone (gInt ((x.getD 0 []).getD 0 .top)) (1)) (vok (gInt ((x.getD 0 []).getD 0 .top)))))) (0) (N (4294967296) (rv (gStr ((x.getD 0 []).getD 1 .top)))))))))) else none) else none)) else none)) else none) else none) else some (.exit 0, st0e x s)) := by kernel_rfl
theorem round0 (x : List (List AV)) (s : ByteArray) (x1 : Int) (l0 : List Int) (r0 : List (List AV)) (b0 : Bool) (l1 : List Int) : goL T orc (noTab) D0 L0 (st0 x s x1 l0 r0 b0 l1) =
    (bif decide (x1 < (↑x.length : Int)) then (bif inB x1 x.length then (bif etasOk [.int .i64 (0), .str { data := #[] }] (x.getD x1.toNat []) then (bif vE (gInt ((x.getD x1.toNat []).getD 0 .top)) != 0 then some (.ret, st0x0 x s (vE (gInt ((x.getD x1.toNat []).getD 0 .top))) x1 l0 r0 b0 l1) else (bif decide ((gStr ((x.getD x1.toNat []).getD 1 .top)).size ≤ 10000) then (bif re (gStr ((x.getD x1.toNat []).getD 1 .top)) != 0 then some (.ret, st0x0 x s (re (gStr ((x.getD x1.toNat []).getD 1 .top))) x1 l0 r0 b0 l1) else (bif isT (lvs (Bool.rec [] (lone (gInt ((x.getD x1.toNat []).getD 0 .top)) (1)) (vok (gInt ((x.getD x1.toNat []).getD 0 .top))))) (lrs (Bool.rec [] (lone (gInt ((x.getD x1.toNat []).getD 0 .top)) (1)) (vok (gInt ((x.getD x1.toNat []).getD 0 .top))))) false [] && (cn (4294967296) (sg (rv (gStr ((x.getD x1.toNat []).getD 1 .top)))) (lb (4294967296) (rv (gStr ((x.getD x1.toNat []).getD 1 .top)))) && fits (N (4294967296) (rv (gStr ((x.getD x1.toNat []).getD 1 .top))))) then (bif isT l0 r0 b0 l1 && isT (lvs (scL (dl (lvs (Bool.rec [] (lone (gInt ((x.getD x1.toNat []).getD 0 .top)) (1)) (vok (gInt ((x.getD x1.toNat []).getD 0 .top))))) (lrs (Bool.rec [] (lone (gInt ((x.getD x1.toNat []).getD 0 .top)) (1)) (vok (gInt ((x.getD x1.toNat []).getD 0 .top)))))) (0) (N (4294967296) (rv (gStr ((x.getD x1.toNat []).getD 1 .top)))))) (lrs (scL (dl (lvs (Bool.rec [] (lone (gInt ((x.getD x1.toNat []).getD 0 .top)) (1)) (vok (gInt ((x.getD x1.toNat []).getD 0 .top))))) (lrs (Bool.rec [] (lone (gInt ((x.getD x1.toNat []).getD 0 .top)) (1)) (vok (gInt ((x.getD x1.toNat []).getD 0 .top)))))) (0) (N (4294967296) (rv (gStr ((x.getD x1.toNat []).getD 1 .top)))))) (sg (scC (dl (lvs (Bool.rec [] (lone (gInt ((x.getD x1.toNat []).getD 0 .top)) (1)) (vok (gInt ((x.getD x1.toNat []).getD 0 .top))))) (lrs (Bool.rec [] (lone (gInt ((x.getD x1.toNat []).getD 0 .top)) (1)) (vok (gInt ((x.getD x1.toNat []).getD 0 .top)))))) (0) (N (4294967296) (rv (gStr ((x.getD x1.toNat []).getD 1 .top)))))) (lb (4294967296) (scC (dl (lvs (Bool.rec [] (lone (gInt ((x.getD x1.toNat []).getD 0 .top)) (1)) (vok (gInt ((x.getD x1.toNat []).getD 0 .top))))) (lrs (Bool.rec [] (lone (gInt ((x.getD x1.toNat []).getD 0 .top)) (1)) (vok (gInt ((x.getD x1.toNat []).getD 0 .top)))))) (0) (N (4294967296) (rv (gStr ((x.getD x1.toNat []).getD 1 .top)))))) then (bif addE (dl l0 r0) (dl (lvs (scL (dl (lvs (Bool.rec [] (lone (gInt ((x.getD x1.toNat []).getD 0 .top)) (1)) (vok (gInt ((x.getD x1.toNat []).getD 0 .top))))) (lrs (Bool.rec [] (lone (gInt ((x.getD x1.toNat []).getD 0 .top)) (1)) (vok (gInt ((x.getD x1.toNat []).getD 0 .top)))))) (0) (N (4294967296) (rv (gStr ((x.getD x1.toNat []).getD 1 .top)))))) (lrs (scL (dl (lvs (Bool.rec [] (lone (gInt ((x.getD x1.toNat []).getD 0 .top)) (1)) (vok (gInt ((x.getD x1.toNat []).getD 0 .top))))) (lrs (Bool.rec [] (lone (gInt ((x.getD x1.toNat []).getD 0 .top)) (1)) (vok (gInt ((x.getD x1.toNat []).getD 0 .top)))))) (0) (N (4294967296) (rv (gStr ((x.getD x1.toNat []).getD 1 .top))))))) (num (4294967296) b0 l1) (N (4294967296) (scC (dl (lvs (Bool.rec [] (lone (gInt ((x.getD x1.toNat []).getD 0 .top)) (1)) (vok (gInt ((x.getD x1.toNat []).getD 0 .top))))) (lrs (Bool.rec [] (lone (gInt ((x.getD x1.toNat []).getD 0 .top)) (1)) (vok (gInt ((x.getD x1.toNat []).getD 0 .top)))))) (0) (N (4294967296) (rv (gStr ((x.getD x1.toNat []).getD 1 .top)))))) != 0 then some (.ret, st0x0 x s (addE (dl l0 r0) (dl (lvs (scL (dl (lvs (Bool.rec [] (lone (gInt ((x.getD x1.toNat []).getD 0 .top)) (1)) (vok (gInt ((x.getD x1.toNat []).getD 0 .top))))) (lrs (Bool.rec [] (lone (gInt ((x.getD x1.toNat []).getD 0 .top)) (1)) (vok (gInt ((x.getD x1.toNat []).getD 0 .top)))))) (0) (N (4294967296) (rv (gStr ((x.getD x1.toNat []).getD 1 .top)))))) (lrs (scL (dl (lvs (Bool.rec [] (lone (gInt ((x.getD x1.toNat []).getD 0 .top)) (1)) (vok (gInt ((x.getD x1.toNat []).getD 0 .top))))) (lrs (Bool.rec [] (lone (gInt ((x.getD x1.toNat []).getD 0 .top)) (1)) (vok (gInt ((x.getD x1.toNat []).getD 0 .top)))))) (0) (N (4294967296) (rv (gStr ((x.getD x1.toNat []).getD 1 .top))))))) (num (4294967296) b0 l1) (N (4294967296) (scC (dl (lvs (Bool.rec [] (lone (gInt ((x.getD x1.toNat []).getD 0 .top)) (1)) (vok (gInt ((x.getD x1.toNat []).getD 0 .top))))) (lrs (Bool.rec [] (lone (gInt ((x.getD x1.toNat []).getD 0 .top)) (1)) (vok (gInt ((x.getD x1.toNat []).getD 0 .top)))))) (0) (N (4294967296) (rv (gStr ((x.getD x1.toNat []).getD 1 .top))))))) x1 (lvs (addL (dl l0 r0) (dl (lvs (scL (dl (lvs (Bool.rec [] (lone (gInt ((x.getD x1.toNat []).getD 0 .top)) (1)) (vok (gInt ((x.getD x1.toNat []).getD 0 .top))))) (lrs (Bool.rec [] (lone (gInt ((x.getD x1.toNat []).getD 0 .top)) (1)) (vok (gInt ((x.getD x1.toNat []).getD 0 .top)))))) (0) (N (4294967296) (rv (gStr ((x.getD x1.toNat []).getD 1 .top)))))) (lrs (scL (dl (lvs (Bool.rec [] (lone (gInt ((x.getD x1.toNat []).getD 0 .top)) (1)) (vok (gInt ((x.getD x1.toNat []).getD 0 .top))))) (lrs (Bool.rec [] (lone (gInt ((x.getD x1.toNat []).getD 0 .top)) (1)) (vok (gInt ((x.getD x1.toNat []).getD 0 .top)))))) (0) (N (4294967296) (rv (gStr ((x.getD x1.toNat []).getD 1 .top))))))) (num (4294967296) b0 l1) (N (4294967296) (scC (dl (lvs (Bool.rec [] (lone (gInt ((x.getD x1.toNat []).getD 0 .top)) (1)) (vok (gInt ((x.getD x1.toNat []).getD 0 .top))))) (lrs (Bool.rec [] (lone (gInt ((x.getD x1.toNat []).getD 0 .top)) (1)) (vok (gInt ((x.getD x1.toNat []).getD 0 .top)))))) (0) (N (4294967296) (rv (gStr ((x.getD x1.toNat []).getD 1 .top)))))))) (lrs (addL (dl l0 r0) (dl (lvs (scL (dl (lvs (Bool.rec [] (lone (gInt ((x.getD x1.toNat []).getD 0 .top)) (1)) (vok (gInt ((x.getD x1.toNat []).getD 0 .top))))) (lrs (Bool.rec [] (lone (gInt ((x.getD x1.toNat []).getD 0 .top)) (1)) (vok (gInt ((x.getD x1.toNat []).getD 0 .top)))))) (0) (N (4294967296) (rv (gStr ((x.getD x1.toNat []).getD 1 .top)))))) (lrs (scL (dl (lvs (Bool.rec [] (lone (gInt ((x.getD x1.toNat []).getD 0 .top)) (1)) (vok (gInt ((x.getD x1.toNat []).getD 0 .top))))) (lrs (Bool.rec [] (lone (gInt ((x.getD x1.toNat []).getD 0 .top)) (1)) (vok (gInt ((x.getD x1.toNat []).getD 0 .top)))))) (0) (N (4294967296) (rv (gStr ((x.getD x1.toNat []).getD 1 .top))))))) (num (4294967296) b0 l1) (N (4294967296) (scC (dl (lvs (Bool.rec [] (lone (gInt ((x.getD x1.toNat []).getD 0 .top)) (1)) (vok (gInt ((x.getD x1.toNat []).getD 0 .top))))) (lrs (Bool.rec [] (lone (gInt ((x.getD x1.toNat []).getD 0 .top)) (1)) (vok (gInt ((x.getD x1.toNat []).getD 0 .top)))))) (0) (N (4294967296) (rv (gStr ((x.getD x1.toNat []).getD 1 .top)))))))) (sg (addC (dl l0 r0) (dl (lvs (scL (dl (lvs (Bool.rec [] (lone (gInt ((x.getD x1.toNat []).getD 0 .top)) (1)) (vok (gInt ((x.getD x1.toNat []).getD 0 .top))))) (lrs (Bool.rec [] (lone (gInt ((x.getD x1.toNat []).getD 0 .top)) (1)) (vok (gInt ((x.getD x1.toNat []).getD 0 .top)))))) (0) (N (4294967296) (rv (gStr ((x.getD x1.toNat []).getD 1 .top)))))) (lrs (scL (dl (lvs (Bool.rec [] (lone (gInt ((x.getD x1.toNat []).getD 0 .top)) (1)) (vok (gInt ((x.getD x1.toNat []).getD 0 .top))))) (lrs (Bool.rec [] (lone (gInt ((x.getD x1.toNat []).getD 0 .top)) (1)) (vok (gInt ((x.getD x1.toNat []).getD 0 .top)))))) (0) (N (4294967296) (rv (gStr ((x.getD x1.toNat []).getD 1 .top))))))) (num (4294967296) b0 l1) (N (4294967296) (scC (dl (lvs (Bool.rec [] (lone (gInt ((x.getD x1.toNat []).getD 0 .top)) (1)) (vok (gInt ((x.getD x1.toNat []).getD 0 .top))))) (lrs (Bool.rec [] (lone (gInt ((x.getD x1.toNat []).getD 0 .top)) (1)) (vok (gInt ((x.getD x1.toNat []).getD 0 .top)))))) (0) (N (4294967296) (rv (gStr ((x.getD x1.toNat []).getD 1 .top)))))))) (lb (4294967296) (addC (dl l0 r0) (dl (lvs (scL (dl (lvs (Bool.rec [] (lone (gInt ((x.getD x1.toNat []).getD 0 .top)) (1)) (vok (gInt ((x.getD x1.toNat []).getD 0 .top))))) (lrs (Bool.rec [] (lone (gInt ((x.getD x1.toNat []).getD 0 .top)) (1)) (vok (gInt ((x.getD x1.toNat []).getD 0 .top)))))) (0) (N (4294967296) (rv (gStr ((x.getD x1.toNat []).getD 1 .top)))))) (lrs (scL (dl (lvs (Bool.rec [] (lone (gInt ((x.getD x1.toNat []).getD 0 .top)) (1)) (vok (gInt ((x.getD x1.toNat []).getD 0 .top))))) (lrs (Bool.rec [] (lone (gInt ((x.getD x1.toNat []).getD 0 .top)) (1)) (vok (gInt ((x.getD x1.toNat []).getD 0 .top)))))) (0) (N (4294967296) (rv (gStr ((x.getD x1.toNat []).getD 1 .top))))))) (num (4294967296) b0 l1) (N (4294967296) (scC (dl (lvs (Bool.rec [] (lone (gInt ((x.getD x1.toNat []).getD 0 .top)) (1)) (vok (gInt ((x.getD x1.toNat []).getD 0 .top))))) (lrs (Bool.rec [] (lone (gInt ((x.getD x1.toNat []).getD 0 .top)) (1)) (vok (gInt ((x.getD x1.toNat []).getD 0 .top)))))) (0) (N (4294967296) (rv (gStr ((x.getD x1.toNat []).getD 1 .top))))))))) else some (.normal, st0 x s (IntKind.i64.wrap (x1 + 1)) (lvs (addL (dl l0 r0) (dl (lvs (scL (dl (lvs (Bool.rec [] (lone (gInt ((x.getD x1.toNat []).getD 0 .top)) (1)) (vok (gInt ((x.getD x1.toNat []).getD 0 .top))))) (lrs (Bool.rec [] (lone (gInt ((x.getD x1.toNat []).getD 0 .top)) (1)) (vok (gInt ((x.getD x1.toNat []).getD 0 .top)))))) (0) (N (4294967296) (rv (gStr ((x.getD x1.toNat []).getD 1 .top)))))) (lrs (scL (dl (lvs (Bool.rec [] (lone (gInt ((x.getD x1.toNat []).getD 0 .top)) (1)) (vok (gInt ((x.getD x1.toNat []).getD 0 .top))))) (lrs (Bool.rec [] (lone (gInt ((x.getD x1.toNat []).getD 0 .top)) (1)) (vok (gInt ((x.getD x1.toNat []).getD 0 .top)))))) (0) (N (4294967296) (rv (gStr ((x.getD x1.toNat []).getD 1 .top))))))) (num (4294967296) b0 l1) (N (4294967296) (scC (dl (lvs (Bool.rec [] (lone (gInt ((x.getD x1.toNat []).getD 0 .top)) (1)) (vok (gInt ((x.getD x1.toNat []).getD 0 .top))))) (lrs (Bool.rec [] (lone (gInt ((x.getD x1.toNat []).getD 0 .top)) (1)) (vok (gInt ((x.getD x1.toNat []).getD 0 .top)))))) (0) (N (4294967296) (rv (gStr ((x.getD x1.toNat []).getD 1 .top)))))))) (lrs (addL (dl l0 r0) (dl (lvs (scL (dl (lvs (Bool.rec [] (lone (gInt ((x.getD x1.toNat []).getD 0 .top)) (1)) (vok (gInt ((x.getD x1.toNat []).getD 0 .top))))) (lrs (Bool.rec [] (lone (gInt ((x.getD x1.toNat []).getD 0 .top)) (1)) (vok (gInt ((x.getD x1.toNat []).getD 0 .top)))))) (0) (N (4294967296) (rv (gStr ((x.getD x1.toNat []).getD 1 .top)))))) (lrs (scL (dl (lvs (Bool.rec [] (lone (gInt ((x.getD x1.toNat []).getD 0 .top)) (1)) (vok (gInt ((x.getD x1.toNat []).getD 0 .top))))) (lrs (Bool.rec [] (lone (gInt ((x.getD x1.toNat []).getD 0 .top)) (1)) (vok (gInt ((x.getD x1.toNat []).getD 0 .top)))))) (0) (N (4294967296) (rv (gStr ((x.getD x1.toNat []).getD 1 .top))))))) (num (4294967296) b0 l1) (N (4294967296) (scC (dl (lvs (Bool.rec [] (lone (gInt ((x.getD x1.toNat []).getD 0 .top)) (1)) (vok (gInt ((x.getD x1.toNat []).getD 0 .top))))) (lrs (Bool.rec [] (lone (gInt ((x.getD x1.toNat []).getD 0 .top)) (1)) (vok (gInt ((x.getD x1.toNat []).getD 0 .top)))))) (0) (N (4294967296) (rv (gStr ((x.getD x1.toNat []).getD 1 .top)))))))) (sg (addC (dl l0 r0) (dl (lvs (scL (dl (lvs (Bool.rec [] (lone (gInt ((x.getD x1.toNat []).getD 0 .top)) (1)) (vok (gInt ((x.getD x1.toNat []).getD 0 .top))))) (lrs (Bool.rec [] (lone (gInt ((x.getD x1.toNat []).getD 0 .top)) (1)) (vok (gInt ((x.getD x1.toNat []).getD 0 .top)))))) (0) (N (4294967296) (rv (gStr ((x.getD x1.toNat []).getD 1 .top)))))) (lrs (scL (dl (lvs (Bool.rec [] (lone (gInt ((x.getD x1.toNat []).getD 0 .top)) (1)) (vok (gInt ((x.getD x1.toNat []).getD 0 .top))))) (lrs (Bool.rec [] (lone (gInt ((x.getD x1.toNat []).getD 0 .top)) (1)) (vok (gInt ((x.getD x1.toNat []).getD 0 .top)))))) (0) (N (4294967296) (rv (gStr ((x.getD x1.toNat []).getD 1 .top))))))) (num (4294967296) b0 l1) (N (4294967296) (scC (dl (lvs (Bool.rec [] (lone (gInt ((x.getD x1.toNat []).getD 0 .top)) (1)) (vok (gInt ((x.getD x1.toNat []).getD 0 .top))))) (lrs (Bool.rec [] (lone (gInt ((x.getD x1.toNat []).getD 0 .top)) (1)) (vok (gInt ((x.getD x1.toNat []).getD 0 .top)))))) (0) (N (4294967296) (rv (gStr ((x.getD x1.toNat []).getD 1 .top)))))))) (lb (4294967296) (addC (dl l0 r0) (dl (lvs (scL (dl (lvs (Bool.rec [] (lone (gInt ((x.getD x1.toNat []).getD 0 .top)) (1)) (vok (gInt ((x.getD x1.toNat []).getD 0 .top))))) (lrs (Bool.rec [] (lone (gInt ((x.getD x1.toNat []).getD 0 .top)) (1)) (vok (gInt ((x.getD x1.toNat []).getD 0 .top)))))) (0) (N (4294967296) (rv (gStr ((x.getD x1.toNat []).getD 1 .top)))))) (lrs (scL (dl (lvs (Bool.rec [] (lone (gInt ((x.getD x1.toNat []).getD 0 .top)) (1)) (vok (gInt ((x.getD x1.toNat []).getD 0 .top))))) (lrs (Bool.rec [] (lone (gInt ((x.getD x1.toNat []).getD 0 .top)) (1)) (vok (gInt ((x.getD x1.toNat []).getD 0 .top)))))) (0) (N (4294967296) (rv (gStr ((x.getD x1.toNat []).getD 1 .top))))))) (num (4294967296) b0 l1) (N (4294967296) (scC (dl (lvs (Bool.rec [] (lone (gInt ((x.getD x1.toNat []).getD 0 .top)) (1)) (vok (gInt ((x.getD x1.toNat []).getD 0 .top))))) (lrs (Bool.rec [] (lone (gInt ((x.getD x1.toNat []).getD 0 .top)) (1)) (vok (gInt ((x.getD x1.toNat []).getD 0 .top)))))) (0) (N (4294967296) (rv (gStr ((x.getD x1.toNat []).getD 1 .top)))))))))) else none) else none)) else none)) else none) else none) else some (.exit 0, st0 x s x1 l0 r0 b0 l1)) := by kernel_rfl
-- loop 0 ends ret st0x0 x s x2 x1 l0 r0 b0 l1
-- loop 0 ends exit0 st0 x s x1 l0 r0 b0 l1
-- loop 0 ends ret st0x1 x s
-- loop 0 ends ret st0x2 x s
-- loop 0 ends exit0 st0e x s
theorem rest_0 (x : List (List AV)) (s : ByteArray) (x3 : Int) (x4 : Int) (l2 : List Int) (r1 : List (List AV)) (b1 : Bool) (l3 : List Int) : runT T orc (tabOf T orc [(8, 60458903645984008203565024201108047226079202216835569304044148288175646339773922611752686, .ret, st0x0 x s x3 x4 l2 r1 b1 l3)]) Try.f15 [.agg [.rows 2 x, .str s]] =
    (bif decide ((↑x.length : Int) > 4096) then some (.val (.tup [.agg [.ints .i64 [], .rows 2 [], .bool false, .ints .u32 [], .bool false, .ints .u32 []], .int .i64 (2)])) else (bif decide (s.size ≤ 10000) then (bif re s != 0 then some (.val (.tup [.agg [.ints .i64 [], .rows 2 [], .bool false, .ints .u32 [], .bool false, .ints .u32 []], .int .i64 (re s)])) else (bif cdec (Ends T orc L0 D0 (st0e x s) .ret (st0x0 x s x3 x4 l2 r1 b1 l3)) then some (.val (.tup [.agg [.ints .i64 [], .rows 2 [], .bool false, .ints .u32 [], .bool false, .ints .u32 []], .int .i64 x3])) else none)) else none)) := by kernel_rfl
theorem rest_1 (x : List (List AV)) (s : ByteArray) (l4 : List Int) (r2 : List (List AV)) (b2 : Bool) (l5 : List Int) (x5 : Int) : runT T orc (tabOf T orc [(8, 60458903645984008203565024201108047226079202216835569304044148288175646339773922611752686, .exit 0, st0 x s x5 l4 r2 b2 l5)]) Try.f15 [.agg [.rows 2 x, .str s]] =
    (bif decide ((↑x.length : Int) > 4096) then some (.val (.tup [.agg [.ints .i64 [], .rows 2 [], .bool false, .ints .u32 [], .bool false, .ints .u32 []], .int .i64 (2)])) else (bif decide (s.size ≤ 10000) then (bif re s != 0 then some (.val (.tup [.agg [.ints .i64 [], .rows 2 [], .bool false, .ints .u32 [], .bool false, .ints .u32 []], .int .i64 (re s)])) else (bif cdec (Ends T orc L0 D0 (st0e x s) (.exit 0) (st0 x s x5 l4 r2 b2 l5)) then some (.val (.tup [.agg [.ints .i64 l4, .rows 2 r2, .bool b2, .ints .u32 l5, .bool (sg (rv s)), .ints .u32 (lb (4294967296) (rv s))], .int .i64 (0)])) else none)) else none)) := by kernel_rfl
theorem rest_2 (x : List (List AV)) (s : ByteArray) : runT T orc (tabOf T orc [(8, 60458903645984008203565024201108047226079202216835569304044148288175646339773922611752686, .ret, st0x1 x s)]) Try.f15 [.agg [.rows 2 x, .str s]] =
    (bif decide ((↑x.length : Int) > 4096) then some (.val (.tup [.agg [.ints .i64 [], .rows 2 [], .bool false, .ints .u32 [], .bool false, .ints .u32 []], .int .i64 (2)])) else (bif decide (s.size ≤ 10000) then (bif re s != 0 then some (.val (.tup [.agg [.ints .i64 [], .rows 2 [], .bool false, .ints .u32 [], .bool false, .ints .u32 []], .int .i64 (re s)])) else (bif cdec (Ends T orc L0 D0 (st0e x s) .ret (st0x1 x s)) then some (.val (.tup [.agg [.ints .i64 [], .rows 2 [], .bool false, .ints .u32 [], .bool false, .ints .u32 []], .int .i64 (vE (gInt ((x.getD 0 []).getD 0 .top)))])) else none)) else none)) := by kernel_rfl
theorem rest_3 (x : List (List AV)) (s : ByteArray) : runT T orc (tabOf T orc [(8, 60458903645984008203565024201108047226079202216835569304044148288175646339773922611752686, .ret, st0x2 x s)]) Try.f15 [.agg [.rows 2 x, .str s]] =
    (bif decide ((↑x.length : Int) > 4096) then some (.val (.tup [.agg [.ints .i64 [], .rows 2 [], .bool false, .ints .u32 [], .bool false, .ints .u32 []], .int .i64 (2)])) else (bif decide (s.size ≤ 10000) then (bif re s != 0 then some (.val (.tup [.agg [.ints .i64 [], .rows 2 [], .bool false, .ints .u32 [], .bool false, .ints .u32 []], .int .i64 (re s)])) else (bif cdec (Ends T orc L0 D0 (st0e x s) .ret (st0x2 x s)) then some (.val (.tup [.agg [.ints .i64 [], .rows 2 [], .bool false, .ints .u32 [], .bool false, .ints .u32 []], .int .i64 (re (gStr ((x.getD 0 []).getD 1 .top)))])) else none)) else none)) := by kernel_rfl
theorem rest_4 (x : List (List AV)) (s : ByteArray) : runT T orc (tabOf T orc [(8, 60458903645984008203565024201108047226079202216835569304044148288175646339773922611752686, .exit 0, st0e x s)]) Try.f15 [.agg [.rows 2 x, .str s]] =
    (bif decide ((↑x.length : Int) > 4096) then some (.val (.tup [.agg [.ints .i64 [], .rows 2 [], .bool false, .ints .u32 [], .bool false, .ints .u32 []], .int .i64 (2)])) else (bif decide (s.size ≤ 10000) then (bif re s != 0 then some (.val (.tup [.agg [.ints .i64 [], .rows 2 [], .bool false, .ints .u32 [], .bool false, .ints .u32 []], .int .i64 (re s)])) else (bif cdec (Ends T orc L0 D0 (st0e x s) (.exit 0) (st0e x s)) then some (.val (.tup [.agg [.ints .i64 [], .rows 2 [], .bool false, .ints .u32 [], .bool (sg (rv s)), .ints .u32 (lb (4294967296) (rv s))], .int .i64 (0)])) else none)) else none)) := by kernel_rfl
end NRead
namespace NTight
abbrev ans : Ans := [(25, ansLCommon), (57, ansCmp), (61, ansFrom), (67, ansDiv), (68, ansLPut)]
abbrev orc : Orc := orcOf ans
noncomputable def L0 : Code := lp Try.f22 0
theorem isL0 : ∃ a, L0 = .loop a := ⟨_, rfl⟩
abbrev D0 : List Nat := [0, 1, 2, 3, 4, 10, 11, 12, 13, 14, 15, 16, 18, 19, 20, 21, 22]
abbrev st0 (vs : List Int) (r : List (List AV)) (b : Bool) (m : List Int) (s : Bool) (l : List Int) (x0 : Int) (l0 : List Int) (r0 : List (List AV)) : St := ⟨.agg [.ints .i64 vs, .rows 2 r, .bool b, .ints .u32 m, .bool s, .ints .u32 l] :: .ptr 1 0 0 :: .ptr 2 0 0 :: .ptr 3 0 0 :: .ptr 4 0 0 :: tops 5 (.ptr 1 0 0 :: .agg [.ints .i64 vs, .rows 2 r, .bool b, .ints .u32 m] :: R (gcdL (dl vs r)) :: R (gcdL (dl vs r)) :: .agg [.bool false, .ints .u32 (lb (4294967296) (1))] :: .int .i64 (cmpZ (N (4294967296) (gcdL (dl vs r))) (num (4294967296) false (lb (4294967296) (1)))) :: .bool (decide (cmpZ (N (4294967296) (gcdL (dl vs r))) (num (4294967296) false (lb (4294967296) (1))) ≤ 0)) :: tops 1 (.ptr 1 0 0 :: .ptr 1 0 0 :: .ints .i64 vs :: .int .i64 (↑vs.length : Int) :: .int .i64 x0 :: tops 31 ([]))), nos 1 (varE [(false, .ints .i64 vs), (false, .rows 2 r), (false, .bool b), (false, .ints .u32 m), (false, .bool s), (false, .ints .u32 l)] :: varE [(true, .ints .i64 []), (true, .rows 2 []), (false, .bool false), (true, .ints .u32 []), (false, .bool false), (true, .ints .u32 [])] :: varE [(false, .bool (sg (gcdL (dl vs r)))), (false, .ints .u32 (lb (4294967296) (gcdL (dl vs r))))] :: varE [(true, .ints .i64 l0), (true, .rows 2 r0), (false, .bool false), (true, .ints .u32 []), (false, .bool false), (true, .ints .u32 [])] :: nos 49 ([]))⟩
theorem round0 (vs : List Int) (r : List (List AV)) (b : Bool) (m : List Int) (s : Bool) (l : List Int) (x0 : Int) (l0 : List Int) (r0 : List (List AV)) : goL T orc (noTab) D0 L0 (st0 vs r b m s l x0 l0 r0) =
    (bif decide (x0 < (↑vs.length : Int)) then (bif inB x0 vs.length then (bif inB x0 r.length then (bif etasOk [.bool false, .ints .u32 []] (r.getD x0.toNat []) then (bif cn (4294967296) (gBool ((r.getD x0.toNat []).getD 0 .top)) (gInts ((r.getD x0.toNat []).getD 1 .top)) && cn (4294967296) (sg (gcdL (dl vs r))) (lb (4294967296) (gcdL (dl vs r))) then (bif cn (4294967296) (sg (dq (num (4294967296) (gBool ((r.getD x0.toNat []).getD 0 .top)) (gInts ((r.getD x0.toNat []).getD 1 .top))) (N (4294967296) (gcdL (dl vs r))))) (lb (4294967296) (dq (num (4294967296) (gBool ((r.getD x0.toNat []).getD 0 .top)) (gInts ((r.getD x0.toNat []).getD 1 .top))) (N (4294967296) (gcdL (dl vs r))))) && decide (l0.length ≤ 100000) && decide (r0.length ≤ 100000) && true && true then some (.normal, st0 vs r b m s l (IntKind.i64.wrap (x0 + 1)) (putV (N (4294967296) (dq (num (4294967296) (gBool ((r.getD x0.toNat []).getD 0 .top)) (gInts ((r.getD x0.toNat []).getD 1 .top))) (N (4294967296) (gcdL (dl vs r))))) l0 (rd vs x0)) (putR (N (4294967296) (dq (num (4294967296) (gBool ((r.getD x0.toNat []).getD 0 .top)) (gInts ((r.getD x0.toNat []).getD 1 .top))) (N (4294967296) (gcdL (dl vs r))))) r0 [.bool (sg (dq (num (4294967296) (gBool ((r.getD x0.toNat []).getD 0 .top)) (gInts ((r.getD x0.toNat []).getD 1 .top))) (N (4294967296) (gcdL (dl vs r))))), .ints .u32 (lb (4294967296) (dq (num (4294967296) (gBool ((r.getD x0.toNat []).getD 0 .top)) (gInts ((r.getD x0.toNat []).getD 1 .top))) (N (4294967296) (gcdL (dl vs r)))))])) else none) else none) else none) else none) else none) else some (.exit 0, st0 vs r b m s l x0 l0 r0)) := by kernel_rfl
-- loop 0 ends exit0 st0 vs r b m s l x0 l0 r0
theorem rest (vs : List Int) (r : List (List AV)) (b : Bool) (m : List Int) (s : Bool) (l : List Int) (l1 : List Int) (r1 : List (List AV)) (x1 : Int) : runT T orc (tabOf T orc [(6, 50023372020407860542733940905981293513040552842377359224063586030, .exit 0, st0 vs r b m s l x1 l1 r1)]) Try.f22 [.agg [.ints .i64 vs, .rows 2 r, .bool b, .ints .u32 m, .bool s, .ints .u32 l]] =
    (bif isl vs r then (bif cn (4294967296) (sg (gcdL (dl vs r))) (lb (4294967296) (gcdL (dl vs r))) && true then (bif decide (cmpZ (N (4294967296) (gcdL (dl vs r))) (num (4294967296) false (lb (4294967296) (1))) ≤ 0) then some (.val (.agg [.ints .i64 vs, .rows 2 r, .bool b, .ints .u32 m, .bool s, .ints .u32 l])) else (bif cdec (Ends T orc L0 D0 (st0 vs r b m s l (0) ([]) ([])) (.exit 0) (st0 vs r b m s l x1 l1 r1)) then (bif cn (4294967296) s l && cn (4294967296) (sg (gcdL (dl vs r))) (lb (4294967296) (gcdL (dl vs r))) then some (.val (.agg [.ints .i64 l1, .rows 2 r1, .bool false, .ints .u32 [], .bool (sg (dq (num (4294967296) s l) (N (4294967296) (gcdL (dl vs r))))), .ints .u32 (lb (4294967296) (dq (num (4294967296) s l) (N (4294967296) (gcdL (dl vs r)))))])) else none) else none)) else none) else none) := by kernel_rfl
end NTight
end
end Go.Abs
end
section
/- What linear's functions answer: a row that is read, a row made tight. -/
namespace Go.Abs
open Go.Proofs Go.Dig
/-- A loop's first round, and what follows. -/
theorem loop_first {T : Tbl} {orc : Orc} {L : Code} {D : List Nat} {S : St} {y : Option (Ex × St)} {tab : Tab} (Q : Ex → St → Prop) (hL : ∃ a, L = .loop a) (ht : ∀ C, TabOk T orc tab C) (h : goL T orc tab D L S = y)
    (hy : Lands y (fun e S' => match e with | .normal => ∃ e S1, Ends T orc L D S' e S1 ∧ Q e S1 | e => Q e S')) : ∃ e S1, Ends T orc L D S e S1 ∧ Q e S1 := by
  obtain ⟨a, rfl⟩ := hL
  obtain ⟨e, S', rfl, h2⟩ := hy
  cases e with
  | normal =>
    obtain ⟨e, S1, h3, h4⟩ := h2
    exact ⟨e, S1, ends_next (ht _) h h3, h4⟩
  | exit i => exact ⟨_, S', ends_exit (ht _) h, h2⟩
  | ret => exact ⟨_, S', ends_ret (ht _) h, h2⟩
theorem cP0 (p : Int × ByteArray) : gInt ((cP p).getD 0 .top) = p.1 := rfl
theorem cP1 (p : Int × ByteArray) : gStr ((cP p).getD 1 .top) = p.2 := rfl
theorem cPeta (p : Int × ByteArray) : etasOk [.int .i64 0, .str { data := #[] }] (cP p) = true := rfl
theorem dl_nil : dl [] [] = [] := dl_map []
theorem isT_nil : isT [] [] false [] = true := isT_row (isl_iff.2 ⟨[], okL_nil, rfl, rfl⟩)
theorem scale_lone (v : Int) {k : Int} (hk : fits k = true) : scE (lone v 1) 0 k = 0 ∧ scL (lone v 1) 0 k = lone v k ∧ scC (lone v 1) 0 k = 0 := by
  have hz : ∀ w, cf (lone v 1) w * k = if (0 ≤ v ∧ v < 4096) ∧ w = v then k else 0 := fun w => by
    rw [cf_lone]; split
    · exact Int.one_mul k
    · exact Int.zero_mul k
  rcases scE_cases (lone v 1) 0 k with ⟨e1, e2, e3, _⟩ | ⟨_, _, _, e4⟩
  · refine ⟨e1, ?_, by rw [e3, Int.zero_mul]⟩
    rw [e2]
    have h1 : okL (lone v k) := okL_lone v hk
    refine (ofF_congr (fun w h1 h2 => ?_)).trans (okL_canon h1).symm
    rw [hz, cf_lone]
  · refine absurd ⟨by rw [Int.zero_mul]; exact fits0, fun w => ?_⟩ e4
    rw [hz]; split
    · exact hk
    · exact fits0
theorem addC_zero (l m : List (Int × Int)) : addC l m 0 0 = 0 := by
  rcases addE_cases l m 0 0 with ⟨_, _, h, _⟩ | ⟨_, _, h, _⟩ <;> rw [h]
  rfl
theorem rdF_drop {ms : List (Int × ByteArray)} {i : Nat} (hi : i < ms.length) (q : List (Int × Int)) : rdF q (ms.drop i) = bif !(vE ms[i].1 == 0) then (vE ms[i].1, []) else bif !(re ms[i].2 == 0) then (re ms[i].2, []) else bif addE q (lone ms[i].1 (rv ms[i].2)) 0 0 == 0 then rdF (addL q (lone ms[i].1 (rv ms[i].2)) 0 0) (ms.drop (i + 1)) else (addE q (lone ms[i].1 (rv ms[i].2)) 0 0, []) := by
  rw [List.drop_eq_getElem_cons hi]; rfl
theorem vE_cases (v : Int) : (vok v = true ∧ vE v = 0) ∨ (vok v = false ∧ vE v = 30) := by
  unfold vE
  cases vok v with
  | true => exact .inl ⟨rfl, rfl⟩
  | false => exact .inr ⟨rfl, rfl⟩
namespace NRead
def Post (ms : List (Int × ByteArray)) (s : ByteArray) (e : Ex) (S1 : St) : Prop :=
  (e = .exit 0 ∧ ∃ q, okL q ∧ rdF [] ms = (0, q) ∧ ((∃ x, S1 = st0 (ms.map cP) s x (lvs q) (lrs q) false []) ∨ (q = [] ∧ S1 = st0e (ms.map cP) s))) ∨
  (e = .ret ∧ ∃ n, n ≠ 0 ∧ rdF [] ms = (n, []) ∧ ((∃ x l r b l', S1 = st0x0 (ms.map cP) s n x l r b l') ∨ (n = vE (gInt (((ms.map cP).getD 0 []).getD 0 .top)) ∧ S1 = st0x1 (ms.map cP) s) ∨ (n = re (gStr (((ms.map cP).getD 0 []).getD 1 .top)) ∧ S1 = st0x2 (ms.map cP) s)))
theorem loop (ms : List (Int × ByteArray)) (s : ByteArray) (hm : ∀ p ∈ ms, p.2.size ≤ 10000) (hlen : ms.length ≤ 4096) (i0 : Nat) (q0 : List (Int × Int)) (h0 : i0 ≤ ms.length) (hq0 : okL q0) (hr0 : rdF q0 (ms.drop i0) = rdF [] ms) : ∃ e S1, Ends T orc L0 D0 (st0 (ms.map cP) s i0 (lvs q0) (lrs q0) false []) e S1 ∧ Post ms s e S1 := by
  refine loop_inv2 (fun (i : Nat) (q : List (Int × Int)) => st0 (ms.map cP) s i (lvs q) (lrs q) false []) (fun i q => i ≤ ms.length ∧ okL q ∧ rdF q (ms.drop i) = rdF [] ms) (fun i q => ms.length - i)
    (Post ms s) isL0 ?_ i0 q0 ⟨h0, hq0, hr0⟩
  intro i q ⟨h1, h2, h3⟩
  refine ⟨noTab, noTab_all, lands_of (round0 ..) ?_⟩
  by_cases hi : i < ms.length
  · have hsz := hm _ (List.getElem_mem hi)
    rw [rdF_drop hi] at h3
    rw [List.length_map, ltN hi, inN hi, getP hi]
    simp only [cP0, cP1, cPeta, cond_true, hsz, decide_true]
    rcases vE_cases ms[i].1 with ⟨v1, v2⟩ | ⟨v1, v2⟩
    · rw [v2] at h3
      rw [v2, v1]
      by_cases he : re ms[i].2 = 0
      · rw [he] at h3
        have hfr := fits_rv ms[i].2
        obtain ⟨s1, s2, s3⟩ := scale_lone ms[i].1 hfr
        rw [he]
        simp only [bne_self_eq_false, cond_true, cond_false, isT_of0 (okL_lone ms[i].1 (show fits 1 = true from by kernel_rfl)), cnW_fits hfr, N_eq, hfr, Bool.and_self, dl_lvs, s1, s2, s3, isT_of0 h2, isT_of (okL_lone ms[i].1 hfr) fits0, num_zero]
        have h3 : (bif addE q (lone ms[i].1 (rv ms[i].2)) 0 0 == 0 then rdF (addL q (lone ms[i].1 (rv ms[i].2)) 0 0) (ms.drop (i + 1)) else (addE q (lone ms[i].1 (rv ms[i].2)) 0 0, [])) = rdF [] ms := h3
        rcases addE_cases q (lone ms[i].1 (rv ms[i].2)) 0 0 with ⟨a1, _⟩ | ⟨a1, _⟩
        · rw [a1] at h3
          rw [a1, addC_zero]
          simp only [bne_self_eq_false, cond_false, wi_succ (show i < 4611686018427387904 by omega), lands_some, Turns2]
          exact ⟨i + 1, addL q (lone ms[i].1 (rv ms[i].2)) 0 0, rfl, ⟨by omega, okL_add _ _ _ _, h3⟩, by omega⟩
        · rw [a1] at h3
          rw [a1]
          simp only [show ((11 : Int) != 0) = true from rfl, cond_true, lands_some, Turns2]
          exact .inr ⟨rfl, 11, by decide, h3.symm, .inl ⟨i, _, _, _, _, rfl⟩⟩
      · rw [show (re ms[i].2 == 0) = false from beq_eq_false_iff_ne.2 he] at h3
        rw [ne_b he]
        simp only [bne_self_eq_false, cond_true, cond_false, lands_some, Turns2]
        exact .inr ⟨rfl, re ms[i].2, he, h3.symm, .inl ⟨i, _, _, _, _, rfl⟩⟩
    · rw [v2] at h3
      rw [v2]
      simp only [show ((30 : Int) != 0) = true from rfl, cond_true, lands_some, Turns2]
      exact .inr ⟨rfl, 30, by decide, h3.symm, .inl ⟨i, _, _, _, _, rfl⟩⟩
  · have hd : ms.drop i = [] := List.drop_of_length_le (by omega)
    rw [hd] at h3
    rw [List.length_map, ltN' hi]
    simp only [cond_false, lands_some, Turns2]
    exact .inl ⟨rfl, q, h2, h3.symm, .inl ⟨i, rfl⟩⟩
theorem first (ms : List (Int × ByteArray)) (s : ByteArray) (hm : ∀ p ∈ ms, p.2.size ≤ 10000) (hlen : ms.length ≤ 4096) : ∃ e S1, Ends T orc L0 D0 (st0e (ms.map cP) s) e S1 ∧ Post ms s e S1 := by
  refine loop_first (Post ms s) isL0 noTab_all (round0e ..) ?_
  by_cases hi : 0 < ms.length
  · have hsz := hm _ (List.getElem_mem hi)
    have h3 : rdF [] ms = _ := rdF_drop hi []
    have hget : (ms.map cP).getD 0 [] = cP ms[0] := getP hi
    rw [List.length_map, show decide ((0 : Int) < (ms.length : Int)) = true from decide_eq_true (by omega), show inB 0 ms.length = true from inN hi, hget]
    simp only [cP0, cP1, cPeta, cond_true, hsz, decide_true]
    rcases vE_cases ms[0].1 with ⟨v1, v2⟩ | ⟨v1, v2⟩
    · rw [v2] at h3
      rw [v2, v1]
      by_cases he : re ms[0].2 = 0
      · rw [he] at h3
        have hfr := fits_rv ms[0].2
        obtain ⟨s1, s2, s3⟩ := scale_lone ms[0].1 hfr
        rw [he]
        simp only [bne_self_eq_false, cond_true, cond_false, isT_of0 (okL_lone ms[0].1 (show fits 1 = true from by kernel_rfl)), cnW_fits hfr, N_eq, hfr, Bool.and_self, dl_lvs, s1, s2, s3, dl_nil, isT_nil, isT_of (okL_lone ms[0].1 hfr) fits0, num_zero]
        have h3 : rdF [] ms = (bif addE [] (lone ms[0].1 (rv ms[0].2)) 0 0 == 0 then rdF (addL [] (lone ms[0].1 (rv ms[0].2)) 0 0) (ms.drop (0 + 1)) else (addE [] (lone ms[0].1 (rv ms[0].2)) 0 0, [])) := h3
        rcases addE_cases [] (lone ms[0].1 (rv ms[0].2)) 0 0 with ⟨a1, _⟩ | ⟨a1, _⟩
        · rw [a1] at h3
          rw [a1, addC_zero]
          simp only [bne_self_eq_false, cond_false, lands_some]
          exact loop ms s hm hlen 1 (addL [] (lone ms[0].1 (rv ms[0].2)) 0 0) hi (okL_add _ _ _ _) h3.symm
        · rw [a1] at h3
          rw [a1]
          simp only [show ((11 : Int) != 0) = true from rfl, cond_true, lands_some]
          exact .inr ⟨rfl, 11, by decide, h3, .inl ⟨0, _, _, _, _, rfl⟩⟩
      · rw [show (re ms[0].2 == 0) = false from beq_eq_false_iff_ne.2 he] at h3
        rw [ne_b he]
        simp only [bne_self_eq_false, cond_true, cond_false, lands_some]
        refine .inr ⟨rfl, re ms[0].2, he, h3, .inr (.inr ⟨?_, rfl⟩)⟩
        rw [hget]
        rfl
    · rw [v2] at h3
      rw [v2]
      simp only [show ((30 : Int) != 0) = true from rfl, cond_true, lands_some]
      refine .inr ⟨rfl, 30, by decide, h3, .inr (.inl ⟨?_, rfl⟩)⟩
      rw [hget]
      exact v2.symm
  · have hd : ms = [] := List.eq_nil_of_length_eq_zero (by omega)
    subst hd
    rw [show decide ((0 : Int) < (([] : List (Int × ByteArray)).map cP).length) = false from rfl]
    simp only [cond_false, lands_some]
    exact .inl ⟨rfl, [], okL_nil, rfl, .inr ⟨rfl, rfl⟩⟩
end NRead
theorem okL_rdF : ∀ (ms : List (Int × ByteArray)) (q : List (Int × Int)), okL q → okL (rdF q ms).2
  | [], q, h => h
  | (v, s) :: r, q, h => by
    show okL (bif !(vE v == 0) then (vE v, []) else bif !(re s == 0) then (re s, []) else bif addE q (lone v (rv s)) 0 0 == 0 then rdF (addL q (lone v (rv s)) 0 0) r else (addE q (lone v (rv s)) 0 0, [])).2
    cases !(vE v == 0) with
    | true => exact okL_nil
    | false =>
      cases !(re s == 0) with
      | true => exact okL_nil
      | false =>
        cases addE q (lone v (rv s)) 0 0 == 0 with
        | true => exact okL_rdF r _ (okL_add _ _ _ _)
        | false => exact okL_nil
theorem okL_rd (ms : List (Int × ByteArray)) (s : ByteArray) : okL (rdL ms s) := by
  rw [rdL_eq]
  cases rdE ms s == 0 with
  | true => exact okL_rdF ms [] okL_nil
  | false => exact okL_nil
theorem fits_rdM (ms : List (Int × ByteArray)) (s : ByteArray) : fits (rdM ms s) = true := by
  rw [rdM_eq]
  cases rdE ms s == 0 with
  | true => exact fits_rv s
  | false => exact fits0
/-- What is read, case by case. -/
theorem rd_cases (ms : List (Int × ByteArray)) (s : ByteArray) : (ms.length > 4096 ∧ rdE ms s = 2 ∧ rdL ms s = [] ∧ rdM ms s = 0) ∨ (ms.length ≤ 4096 ∧ re s ≠ 0 ∧ rdE ms s = re s ∧ rdL ms s = [] ∧ rdM ms s = 0) ∨
    (ms.length ≤ 4096 ∧ re s = 0 ∧ rdE ms s = (rdF [] ms).1 ∧ (((rdF [] ms).1 = 0 ∧ rdL ms s = (rdF [] ms).2 ∧ rdM ms s = rv s) ∨ ((rdF [] ms).1 ≠ 0 ∧ rdL ms s = [] ∧ rdM ms s = 0))) := by
  have hE := rdE_eq ms s
  have hL := rdL_eq ms s
  have hM := rdM_eq ms s
  by_cases h1 : ms.length > 4096
  · rw [decide_eq_true h1] at hE
    have hE : rdE ms s = 2 := hE
    rw [hE] at hL hM
    exact .inl ⟨h1, hE, hL, hM⟩
  · rw [decide_eq_false h1, cond_false] at hE
    by_cases h2 : re s = 0
    · rw [h2] at hE
      have hE : rdE ms s = (rdF [] ms).1 := hE
      refine .inr (.inr ⟨by omega, h2, hE, ?_⟩)
      rw [hE] at hL hM
      by_cases h3 : (rdF [] ms).1 = 0
      · rw [h3] at hL hM
        exact .inl ⟨h3, hL, hM⟩
      · rw [show ((rdF [] ms).1 == 0) = false from beq_eq_false_iff_ne.2 h3] at hL hM
        exact .inr ⟨h3, hL, hM⟩
    · have hb : (re s == 0) = false := beq_eq_false_iff_ne.2 h2
      rw [hb] at hE
      have hE : rdE ms s = re s := hE
      rw [hE, hb] at hL hM
      exact .inr (.inl ⟨by omega, h2, hE, hL, hM⟩)
theorem meets_nread (hadd : Meets Try.prog 46 ansLAdd) : Meets Try.prog 15 ansLRead := by
  refine meets_fn (orc_ok (l := NRead.ans) ⟨meets_parse, meets_nvar, meets_nscale, hadd, trivial⟩) Try.f15 Try.func15 (by kernel_rfl) (fun args r h => ?_)
  unfold ansLRead at h
  split at h
  · rename_i x s
    simp only [Option.some.injEq, Prod.mk.injEq, Bool.and_eq_true, Bool.or_eq_true, decide_eq_true_eq] at h
    obtain ⟨⟨⟨h1, h2⟩, h3⟩, rfl⟩ := h
    obtain ⟨ms, _, rfl⟩ := isq_iff.1 h2
    rw [dp_map]
    rw [List.length_map] at h3
    rcases rd_cases ms s with ⟨c1, c2, c3, c4⟩ | ⟨c1, c0, c2, c3, c4⟩ | ⟨c1, c0, c2, c3⟩
    · rw [c2, c3, c4, lvs_nil, lrs_nil]
      refine ⟨rfl, _, tabOf_all _, (NRead.rest_4 (ms.map cP) s).trans (bT ?_)⟩
      rw [List.length_map, decide_eq_true_eq]; omega
    · rw [c2, c3, c4, lvs_nil, lrs_nil]
      refine ⟨rfl, _, tabOf_all _, (NRead.rest_4 (ms.map cP) s).trans ((bF ?_).trans ((bT (decide_eq_true h1)).trans (bT (ne_b c0))))⟩
      rw [List.length_map, decide_eq_false_iff_not]; omega
    · have hg : decide (((ms.map cP).length : Int) > 4096) = false := by rw [List.length_map, decide_eq_false_iff_not]; omega
      have hm : ∀ p ∈ ms, p.2.size ≤ 10000 := by
        rcases h3 with h3 | h3
        · omega
        · obtain ⟨ms', k1, k2⟩ := isp_iff.1 h3
          have : ms = ms' := by rw [← dp_map ms, ← dp_map ms', k2]
          subst this
          exact fun p hp => (k1 p hp).2
      obtain ⟨e1, S1, hE1, hP⟩ := NRead.first ms s hm c1
      rcases hP with ⟨rfl, q, k1, k2, ⟨x, rfl⟩ | ⟨rfl, rfl⟩⟩ | ⟨rfl, n, k1, k2, ⟨x, l, r, b, l', rfl⟩ | ⟨k3, rfl⟩ | ⟨k3, rfl⟩⟩
      · rw [k2] at c2 c3
        rcases c3 with ⟨_, c3, c4⟩ | ⟨c3, _⟩
        · rw [c2, c3, c4]
          exact ⟨rfl, _, tabOf_all _, (NRead.rest_1 (ms.map cP) s (lvs q) (lrs q) false [] x).trans ((bF hg).trans ((bT (decide_eq_true h1)).trans ((bF (eq_b c0)).trans (bT (cdec_true hE1)))))⟩
        · exact absurd rfl c3
      · rw [k2] at c2 c3
        rcases c3 with ⟨_, c3, c4⟩ | ⟨c3, _⟩
        · rw [c2, c3, c4, lvs_nil, lrs_nil]
          exact ⟨rfl, _, tabOf_all _, (NRead.rest_4 (ms.map cP) s).trans ((bF hg).trans ((bT (decide_eq_true h1)).trans ((bF (eq_b c0)).trans (bT (cdec_true hE1)))))⟩
        · exact absurd rfl c3
      · rw [k2] at c2 c3
        rcases c3 with ⟨c3, _⟩ | ⟨_, c3, c4⟩
        · exact absurd c3 k1
        · rw [c2, c3, c4, lvs_nil, lrs_nil]
          exact ⟨rfl, _, tabOf_all _, (NRead.rest_0 (ms.map cP) s n x l r b l').trans ((bF hg).trans ((bT (decide_eq_true h1)).trans ((bF (eq_b c0)).trans (bT (cdec_true hE1)))))⟩
      · rw [k2] at c2 c3
        rcases c3 with ⟨c3, _⟩ | ⟨_, c3, c4⟩
        · exact absurd c3 k1
        · rw [c2, c3, c4, lvs_nil, lrs_nil]
          exact ⟨rfl, _, tabOf_all _, (NRead.rest_2 (ms.map cP) s).trans ((bF hg).trans ((bT (decide_eq_true h1)).trans ((bF (eq_b c0)).trans ((bT (cdec_true hE1)).trans (by rw [k3]; rfl)))))⟩
      · rw [k2] at c2 c3
        rcases c3 with ⟨c3, _⟩ | ⟨_, c3, c4⟩
        · exact absurd c3 k1
        · rw [c2, c3, c4, lvs_nil, lrs_nil]
          exact ⟨rfl, _, tabOf_all _, (NRead.rest_3 (ms.map cP) s).trans ((bF hg).trans ((bT (decide_eq_true h1)).trans ((bF (eq_b c0)).trans ((bT (cdec_true hE1)).trans (by rw [k3]; rfl)))))⟩
  · cases h
theorem dq_zero (g : Int) : dq 0 g = 0 := by unfold dq; split <;> simp
theorem fits_dqz {x y : Int} (h : fits x = true) : fits (dq x y) = true := by
  unfold dq
  split
  · exact fits0
  · rename_i h0
    refine fits_le h ?_
    rcases Int.lt_trichotomy y 0 with hy | hy | hy
    · rw [show x.fdiv y = (-x).fdiv (-y) from (Int.neg_fdiv_neg x y).symm, Int.fdiv_eq_ediv_of_nonneg _ (by omega)]
      have := Int.natAbs_ediv_le_natAbs (-x) (-y)
      omega
    · exact absurd hy h0
    · rw [Int.fdiv_eq_ediv_of_nonneg _ (by omega)]
      exact Int.natAbs_ediv_le_natAbs x y
theorem okL_ti {l : List (Int × Int)} (h : okL l) : okL (tiL l) := by
  rw [tiL_eq]
  cases decide (gcdL l ≤ 1) with
  | true => exact h
  | false =>
    rw [cond_false]
    exact okL_ofF (fun v _ _ => fits_dqz (okL_cf h v))
theorem fits_tiM {l : List (Int × Int)} {c : Int} (h : fits c = true) : fits (tiM l c) = true := by
  rw [tiM_eq]
  cases decide (gcdL l ≤ 1) with
  | true => exact h
  | false => exact fits_dqz h
namespace NTight
theorem loop (l : List (Int × Int)) (b : Bool) (m : List Int) (s : Bool) (ll : List Int) (hl : okL l) : ∃ e S1, Ends T orc L0 D0 (st0 (l.map (fun p => p.1)) (l.map cL) b m s ll 0 [] []) e S1 ∧ e = .exit 0 ∧ ∃ x, S1 = st0 (l.map (fun p => p.1)) (l.map cL) b m s ll x ((ofF (fun v => dq (cf l v) (gcdL l))).map (fun p => p.1)) ((ofF (fun v => dq (cf l v) (gcdL l))).map cL) := by
  have g0 : ∀ w : Int, dq 0 (gcdL l) = 0 := fun w => dq_zero _
  have hz := map_step0 (g := fun _ z => dq z (gcdL l)) g0 l
  have key : ∃ e S1, Ends T orc L0 D0 (st0 (l.map (fun p => p.1)) (l.map cL) b m s ll ((0 : Nat) : Int) ((ofF (fun v => dq (cf (l.take 0) v) (gcdL l))).map (fun p => p.1)) ((ofF (fun v => dq (cf (l.take 0) v) (gcdL l))).map cL)) e S1 ∧ e = .exit 0 ∧ ∃ x, S1 = st0 (l.map (fun p => p.1)) (l.map cL) b m s ll x ((ofF (fun v => dq (cf l v) (gcdL l))).map (fun p => p.1)) ((ofF (fun v => dq (cf l v) (gcdL l))).map cL) := by
    refine loop_inv1 (fun (i : Nat) => st0 (l.map (fun p => p.1)) (l.map cL) b m s ll i ((ofF (fun v => dq (cf (l.take i) v) (gcdL l))).map (fun p => p.1)) ((ofF (fun v => dq (cf (l.take i) v) (gcdL l))).map cL)) (fun i => i ≤ l.length) (fun i => l.length - i)
      (fun e S1 => e = .exit 0 ∧ ∃ x, S1 = st0 (l.map (fun p => p.1)) (l.map cL) b m s ll x ((ofF (fun v => dq (cf l v) (gcdL l))).map (fun p => p.1)) ((ofF (fun v => dq (cf l v) (gcdL l))).map cL)) isL0 ?_ 0 (Nat.zero_le _)
    intro i h1
    have hlen := okL_len hl
    refine ⟨noTab, noTab_all, lands_of (round0 ..) ?_⟩
    by_cases hi : i < l.length
    · have hf := okL_mem hl (List.getElem_mem hi)
      have hs := map_step (okL_asc hl) (okL_in hl) (g := fun _ z => dq z (gcdL l)) g0 hi
      have ho := ofF_len (fun v => dq (cf (l.take i) v) (gcdL l))
      have hd := fits_dqz (y := gcdL l) hf
      rw [List.length_map, List.length_map, ltN hi, inN hi, getL hi, rdV hi, dl_map]
      simp only [cL0, cL1, cLeta, cnW_fits hf, num_lbW, N_eq, cnW_fits (gcdL_fits hl), cnW_fits hd, cond_true, Bool.true_and, Bool.and_true, List.length_map]
      rw [decide_eq_true (show (ofF (fun v => dq (cf (l.take i) v) (gcdL l))).length ≤ 100000 by omega), putV_map, putR_map, hs]
      simp only [cond_true, Bool.and_self, wi_succ (show i < 4611686018427387904 by omega), lands_some, Turns1]
      exact ⟨i + 1, rfl, by omega, by omega⟩
    · rw [List.length_map, ltN' hi]
      simp only [cond_false, lands_some, Turns1]
      have hil : l.take i = l := List.take_of_length_le (by omega)
      rw [hil]
      exact ⟨trivial, i, rfl⟩
  rw [hz] at key
  exact key
end NTight
theorem meets_ntight : Meets Try.prog 22 ansLTight := by
  refine meets_fn (orc_ok (l := NTight.ans) ⟨meets_ncommon, meets_cmp, meets_from, meets_div, meets_lput, trivial⟩) Try.f22 Try.func22 (by kernel_rfl) (fun args r h => ?_)
  unfold ansLTight at h
  split at h
  · rename_i vs r b m s ll
    simp only [Option.some.injEq, Prod.mk.injEq, Bool.and_eq_true, Bool.not_eq_true'] at h
    obtain ⟨⟨⟨⟨⟨h1, rfl⟩, h3⟩, h4⟩, h5⟩, rfl⟩ := h
    obtain rfl := isEmpty_nil h3
    obtain ⟨c, rfl, rfl, _⟩ := (cn_iff W_two).1 h4
    rw [num_lbW] at h5
    obtain ⟨l, k1, rfl, rfl⟩ := isl_iff.1 h1
    obtain ⟨e1, S1, hE1, rfl, x, rfl⟩ := NTight.loop l false [] (sg c) (lb 4294967296 c) k1
    refine ⟨rfl, _, tabOf_all _, (NTight.rest _ _ _ _ _ _ ((ofF (fun v => dq (cf l v) (gcdL l))).map (fun p => p.1)) ((ofF (fun v => dq (cf l v) (gcdL l))).map cL) x).trans ?_⟩
    have hL := tiL_eq l
    have hM := tiM_eq l c
    rw [h1, dl_map, cnW_fits (gcdL_fits k1), N_eq, num_lbW, cmp_le, show num 4294967296 false (lb 4294967296 1) = 1 from num_lbW 1, h4, cdec_true hE1]
    cases hb : decide (gcdL l ≤ 1) with
    | true =>
      rw [hb, cond_true] at hL hM
      rw [hL, hM, lvs_eq l, lrs_eq l]
      rfl
    | false =>
      rw [hb, cond_false] at hL hM
      rw [hL, hM, lvs_eq, lrs_eq]
      rfl
  · cases h
end Go.Abs
end
section
/- What the reference of linear answers: multiples, values, texts. -/
namespace Go.Abs
open Go.Proofs Go.Dig
abbrev cX (z : Int) : List AV := [.bool (sg z), .ints .i64 (lb 10 z)]
end Go.Abs
end
section
/- What the reference of linear answers: rows that are read, compared, made tight, turned about; the term of a list of parts. -/
namespace Go.Abs
open Go.Proofs Go.Dig
theorem gcdF_dvd (l : List (Int × Int)) : ∀ g : Int, l.foldl (fun g p => gz g p.2) g ∣ g ∧ ∀ p ∈ l, l.foldl (fun g p => gz g p.2) g ∣ p.2 := by
  induction l with
  | nil => exact fun g => ⟨Int.dvd_refl g, fun p hp => by cases hp⟩
  | cons q l ih =>
    intro g
    obtain ⟨h1, h2⟩ := ih (gz g q.2)
    have ha : gz g q.2 ∣ g := Int.gcd_dvd_left ..
    have hb : gz g q.2 ∣ q.2 := Int.gcd_dvd_right ..
    refine ⟨Int.dvd_trans h1 ha, fun p hp => ?_⟩
    rcases List.mem_cons.1 hp with rfl | hp
    · exact Int.dvd_trans h1 hb
    · exact h2 p hp
theorem gcdL_dvd {l : List (Int × Int)} {p : Int × Int} (hp : p ∈ l) : gcdL l ∣ p.2 := by rw [gcdL_eq]; exact (gcdF_dvd l 0).2 p hp
theorem dq_exact {x g : Int} (hg : 1 < g) (h : g ∣ x) : dq x g * g = x := by
  unfold dq
  rw [if_neg (by omega), Int.fdiv_eq_ediv_of_nonneg _ (by omega)]
  exact Int.ediv_mul_cancel h
theorem add_lone {q : List (Int × Int)} (hq : okL q) {v c : Int} (hv : 0 ≤ v ∧ v < 4096) (hc : fits c = true) : (fits (cf q v + c) = true → addE q (lone v c) 0 0 = 0 ∧ addL q (lone v c) 0 0 = wiL q v c) ∧ (fits (cf q v + c) = false → addE q (lone v c) 0 0 = 11) := by
  have hz : ∀ w, cf q w + cf (lone v c) w = if w = v then cf q v + c else cf q w := fun w => by
    rw [cf_lone]
    by_cases hw : w = v
    · rw [if_pos ⟨hv, hw⟩, if_pos hw, hw]
    · rw [if_neg (fun hh => hw hh.2), if_neg hw, Int.add_zero]
  constructor
  · intro hf
    rcases addE_cases q (lone v c) 0 0 with ⟨e1, e2, _⟩ | ⟨_, _, _, e4⟩
    · refine ⟨e1, ?_⟩
      rw [e2, wiL_eq]
      refine ofF_congr (fun w _ _ => ?_)
      rw [hz]
      by_cases hw : w = v
      · rw [decide_eq_true hw, if_pos hw, hw]; rfl
      · rw [decide_eq_false hw, if_neg hw]; rfl
    · refine absurd ⟨fits0, fun w => ?_⟩ e4
      rw [hz]; split
      · exact hf
      · exact okL_cf hq w
  · intro hf
    rcases addE_cases q (lone v c) 0 0 with ⟨_, _, _, _, e5⟩ | ⟨e1, _⟩
    · have := e5 v
      rw [hz, if_pos rfl, hf] at this
      cases this
    · exact e1
end Go.Abs
end
section
/- States and rounds of the functions of linear and of its reference, as a program of this session printed them. -/
set_option maxRecDepth 10000
namespace Go.Abs
open Go.Proofs Go.Dig
noncomputable section
namespace NAdd
abbrev ans : Ans := [(56, ansAdd), (68, ansLPut)]
abbrev orc : Orc := orcOf ans
noncomputable def L0 : Code := lp Try.f46 0
theorem isL0 : ∃ a, L0 = .loop a := ⟨_, rfl⟩
abbrev D0 : List Nat := [0, 1, 2, 3, 4, 5, 6, 7, 8, 9, 10, 13, 14, 15, 16, 17, 18, 19, 20, 21, 22, 25, 26]
abbrev st0 (vs : List Int) (r : List (List AV)) (b : Bool) (m : List Int) (vsz : List Int) (rz : List (List AV)) (bz : Bool) (mz : List Int) (x0 : Int) (x1 : Int) (l0 : List Int) (r0 : List (List AV)) : St := ⟨.agg [.ints .i64 vs, .rows 2 r, .bool b, .ints .u32 m] :: .agg [.ints .i64 vsz, .rows 2 rz, .bool bz, .ints .u32 mz] :: .ptr 2 0 0 :: .ptr 3 0 0 :: .ptr 4 0 0 :: .int .i64 (0) :: .ptr 6 0 0 :: .int .i64 (he (num (4294967296) b m + num (4294967296) bz mz)) :: .ptr 8 0 0 :: .int .i64 x0 :: .int .i64 x1 :: tops 2 (.tup [R (hz (num (4294967296) b m + num (4294967296) bz mz)), .int .i64 (he (num (4294967296) b m + num (4294967296) bz mz))] :: .ptr 2 0 2 :: .agg [.bool b, .ints .u32 m] :: .ptr 3 0 2 :: .agg [.bool bz, .ints .u32 mz] :: .tup [R (hz (num (4294967296) b m + num (4294967296) bz mz)), .int .i64 (he (num (4294967296) b m + num (4294967296) bz mz))] :: R (hz (num (4294967296) b m + num (4294967296) bz mz)) :: .int .i64 (he (num (4294967296) b m + num (4294967296) bz mz)) :: .int .i64 (he (num (4294967296) b m + num (4294967296) bz mz)) :: .bool (he (num (4294967296) b m + num (4294967296) bz mz) != 0) :: tops 2 (R (hz (num (4294967296) b m + num (4294967296) bz mz)) :: .agg [.nil, .nil, .bool (sg (hz (num (4294967296) b m + num (4294967296) bz mz))), .ints .u32 (lb (4294967296) (hz (num (4294967296) b m + num (4294967296) bz mz)))] :: tops 113 ([]))), nos 2 (varE [(false, .ints .i64 vs), (false, .rows 2 r), (false, .bool b), (false, .ints .u32 m)] :: varE [(false, .ints .i64 vsz), (false, .rows 2 rz), (false, .bool bz), (false, .ints .u32 mz)] :: varE [(true, .ints .i64 []), (true, .rows 2 []), (false, .bool false), (true, .ints .u32 [])] :: nos 1 (varE [(false, .bool (sg (hz (num (4294967296) b m + num (4294967296) bz mz)))), (false, .ints .u32 (lb (4294967296) (hz (num (4294967296) b m + num (4294967296) bz mz))))] :: nos 1 (varE [(true, .ints .i64 l0), (true, .rows 2 r0), (false, .bool (sg (hz (num (4294967296) b m + num (4294967296) bz mz)))), (false, .ints .u32 (lb (4294967296) (hz (num (4294967296) b m + num (4294967296) bz mz))))] :: nos 131 ([]))))⟩
abbrev st0x0 (vs : List Int) (r : List (List AV)) (b : Bool) (m : List Int) (vsz : List Int) (rz : List (List AV)) (bz : Bool) (mz : List Int) (x2 : Int) (x0 : Int) (x1 : Int) (l0 : List Int) (r0 : List (List AV)) : St := ⟨.agg [.ints .i64 vs, .rows 2 r, .bool b, .ints .u32 m] :: .agg [.ints .i64 vsz, .rows 2 rz, .bool bz, .ints .u32 mz] :: .ptr 2 0 0 :: .ptr 3 0 0 :: .ptr 4 0 0 :: .int .i64 x2 :: .ptr 6 0 0 :: .int .i64 (he (num (4294967296) b m + num (4294967296) bz mz)) :: .ptr 8 0 0 :: .int .i64 x0 :: .int .i64 x1 :: tops 2 (.tup [R (hz (num (4294967296) b m + num (4294967296) bz mz)), .int .i64 (he (num (4294967296) b m + num (4294967296) bz mz))] :: .ptr 2 0 2 :: .agg [.bool b, .ints .u32 m] :: .ptr 3 0 2 :: .agg [.bool bz, .ints .u32 mz] :: .tup [R (hz (num (4294967296) b m + num (4294967296) bz mz)), .int .i64 (he (num (4294967296) b m + num (4294967296) bz mz))] :: R (hz (num (4294967296) b m + num (4294967296) bz mz)) :: .int .i64 (he (num (4294967296) b m + num (4294967296) bz mz)) :: .int .i64 (he (num (4294967296) b m + num (4294967296) bz mz)) :: .bool (he (num (4294967296) b m + num (4294967296) bz mz) != 0) :: tops 2 (R (hz (num (4294967296) b m + num (4294967296) bz mz)) :: .agg [.nil, .nil, .bool (sg (hz (num (4294967296) b m + num (4294967296) bz mz))), .ints .u32 (lb (4294967296) (hz (num (4294967296) b m + num (4294967296) bz mz)))] :: tops 113 ([]))), nos 2 (varE [(false, .ints .i64 vs), (false, .rows 2 r), (false, .bool b), (false, .ints .u32 m)] :: varE [(false, .ints .i64 vsz), (false, .rows 2 rz), (false, .bool bz), (false, .ints .u32 mz)] :: varE [(true, .ints .i64 []), (true, .rows 2 []), (false, .bool false), (true, .ints .u32 [])] :: nos 1 (varE [(false, .bool (sg (hz (num (4294967296) b m + num (4294967296) bz mz)))), (false, .ints .u32 (lb (4294967296) (hz (num (4294967296) b m + num (4294967296) bz mz))))] :: nos 1 (varE [(true, .ints .i64 l0), (true, .rows 2 r0), (false, .bool (sg (hz (num (4294967296) b m + num (4294967296) bz mz)))), (false, .ints .u32 (lb (4294967296) (hz (num (4294967296) b m + num (4294967296) bz mz))))] :: nos 131 ([]))))⟩
theorem round0 (vs : List Int) (r : List (List AV)) (b : Bool) (m : List Int) (vsz : List Int) (rz : List (List AV)) (bz : Bool) (mz : List Int) (x0 : Int) (x1 : Int) (l0 : List Int) (r0 : List (List AV)) : goL T orc (noTab) D0 L0 (st0 vs r b m vsz rz bz mz x0 x1 l0 r0) =
    (bif decide (x0 < (↑vs.length : Int)) then (bif x1 == (↑vsz.length : Int) then (bif inB x0 vs.length then (bif inB x0 r.length then (bif etasOk [.bool false, .ints .u32 []] (r.getD x0.toNat []) then (bif cn (4294967296) (gBool ((r.getD x0.toNat []).getD 0 .top)) (gInts ((r.getD x0.toNat []).getD 1 .top)) && decide (l0.length ≤ 100000) && decide (r0.length ≤ 100000) && true && true then some (.normal, st0 vs r b m vsz rz bz mz (IntKind.i64.wrap (x0 + 1)) x1 (putV (num (4294967296) (gBool ((r.getD x0.toNat []).getD 0 .top)) (gInts ((r.getD x0.toNat []).getD 1 .top))) l0 (rd vs x0)) (putR (num (4294967296) (gBool ((r.getD x0.toNat []).getD 0 .top)) (gInts ((r.getD x0.toNat []).getD 1 .top))) r0 [.bool (gBool ((r.getD x0.toNat []).getD 0 .top)), .ints .u32 (gInts ((r.getD x0.toNat []).getD 1 .top))])) else none) else none) else none) else none) else (bif decide (x0 < (↑vs.length : Int)) then (bif inB x0 vs.length then (bif inB x1 vsz.length then (bif decide (rd vs x0 < rd vsz x1) then (bif inB x0 vs.length then (bif inB x0 r.length then (bif etasOk [.bool false, .ints .u32 []] (r.getD x0.toNat []) then (bif cn (4294967296) (gBool ((r.getD x0.toNat []).getD 0 .top)) (gInts ((r.getD x0.toNat []).getD 1 .top)) && decide (l0.length ≤ 100000) && decide (r0.length ≤ 100000) && true && true then some (.normal, st0 vs r b m vsz rz bz mz (IntKind.i64.wrap (x0 + 1)) x1 (putV (num (4294967296) (gBool ((r.getD x0.toNat []).getD 0 .top)) (gInts ((r.getD x0.toNat []).getD 1 .top))) l0 (rd vs x0)) (putR (num (4294967296) (gBool ((r.getD x0.toNat []).getD 0 .top)) (gInts ((r.getD x0.toNat []).getD 1 .top))) r0 [.bool (gBool ((r.getD x0.toNat []).getD 0 .top)), .ints .u32 (gInts ((r.getD x0.toNat []).getD 1 .top))])) else none) else none) else none) else none) else (bif x0 == (↑vs.length : Int) then (bif inB x1 vsz.length then (bif inB x1 rz.length then (bif etasOk [.bool false, .ints .u32 []] (rz.getD x1.toNat []) then (bif cn (4294967296) (gBool ((rz.getD x1.toNat []).getD 0 .top)) (gInts ((rz.getD x1.toNat []).getD 1 .top)) && decide (l0.length ≤ 100000) && decide (r0.length ≤ 100000) && true && true then some (.normal, st0 vs r b m vsz rz bz mz x0 (IntKind.i64.wrap (x1 + 1)) (putV (num (4294967296) (gBool ((rz.getD x1.toNat []).getD 0 .top)) (gInts ((rz.getD x1.toNat []).getD 1 .top))) l0 (rd vsz x1)) (putR (num (4294967296) (gBool ((rz.getD x1.toNat []).getD 0 .top)) (gInts ((rz.getD x1.toNat []).getD 1 .top))) r0 [.bool (gBool ((rz.getD x1.toNat []).getD 0 .top)), .ints .u32 (gInts ((rz.getD x1.toNat []).getD 1 .top))])) else none) else none) else none) else none) else (bif inB x1 vsz.length then (bif inB x0 vs.length then (bif decide (rd vsz x1 < rd vs x0) then (bif inB x1 vsz.length then (bif inB x1 rz.length then (bif etasOk [.bool false, .ints .u32 []] (rz.getD x1.toNat []) then (bif cn (4294967296) (gBool ((rz.getD x1.toNat []).getD 0 .top)) (gInts ((rz.getD x1.toNat []).getD 1 .top)) && decide (l0.length ≤ 100000) && decide (r0.length ≤ 100000) && true && true then some (.normal, st0 vs r b m vsz rz bz mz x0 (IntKind.i64.wrap (x1 + 1)) (putV (num (4294967296) (gBool ((rz.getD x1.toNat []).getD 0 .top)) (gInts ((rz.getD x1.toNat []).getD 1 .top))) l0 (rd vsz x1)) (putR (num (4294967296) (gBool ((rz.getD x1.toNat []).getD 0 .top)) (gInts ((rz.getD x1.toNat []).getD 1 .top))) r0 [.bool (gBool ((rz.getD x1.toNat []).getD 0 .top)), .ints .u32 (gInts ((rz.getD x1.toNat []).getD 1 .top))])) else none) else none) else none) else none) else (bif inB x0 r.length then (bif etasOk [.bool false, .ints .u32 []] (r.getD x0.toNat []) then (bif inB x1 rz.length then (bif etasOk [.bool false, .ints .u32 []] (rz.getD x1.toNat []) then (bif cn (4294967296) (gBool ((r.getD x0.toNat []).getD 0 .top)) (gInts ((r.getD x0.toNat []).getD 1 .top)) && cn (4294967296) (gBool ((rz.getD x1.toNat []).getD 0 .top)) (gInts ((rz.getD x1.toNat []).getD 1 .top)) && fits (num (4294967296) (gBool ((r.getD x0.toNat []).getD 0 .top)) (gInts ((r.getD x0.toNat []).getD 1 .top))) && fits (num (4294967296) (gBool ((rz.getD x1.toNat []).getD 0 .top)) (gInts ((rz.getD x1.toNat []).getD 1 .top))) then (bif he (num (4294967296) (gBool ((r.getD x0.toNat []).getD 0 .top)) (gInts ((r.getD x0.toNat []).getD 1 .top)) + num (4294967296) (gBool ((rz.getD x1.toNat []).getD 0 .top)) (gInts ((rz.getD x1.toNat []).getD 1 .top))) != 0 then some (.ret, st0x0 vs r b m vsz rz bz mz (he (num (4294967296) (gBool ((r.getD x0.toNat []).getD 0 .top)) (gInts ((r.getD x0.toNat []).getD 1 .top)) + num (4294967296) (gBool ((rz.getD x1.toNat []).getD 0 .top)) (gInts ((rz.getD x1.toNat []).getD 1 .top)))) x0 x1 l0 r0) else (bif inB x0 vs.length then (bif cn (4294967296) (sg (hz (num (4294967296) (gBool ((r.getD x0.toNat []).getD 0 .top)) (gInts ((r.getD x0.toNat []).getD 1 .top)) + num (4294967296) (gBool ((rz.getD x1.toNat []).getD 0 .top)) (gInts ((rz.getD x1.toNat []).getD 1 .top))))) (lb (4294967296) (hz (num (4294967296) (gBool ((r.getD x0.toNat []).getD 0 .top)) (gInts ((r.getD x0.toNat []).getD 1 .top)) + num (4294967296) (gBool ((rz.getD x1.toNat []).getD 0 .top)) (gInts ((rz.getD x1.toNat []).getD 1 .top))))) && decide (l0.length ≤ 100000) && decide (r0.length ≤ 100000) && true && true then some (.normal, st0 vs r b m vsz rz bz mz (IntKind.i64.wrap (x0 + 1)) (IntKind.i64.wrap (x1 + 1)) (putV (N (4294967296) (hz (num (4294967296) (gBool ((r.getD x0.toNat []).getD 0 .top)) (gInts ((r.getD x0.toNat []).getD 1 .top)) + num (4294967296) (gBool ((rz.getD x1.toNat []).getD 0 .top)) (gInts ((rz.getD x1.toNat []).getD 1 .top))))) l0 (rd vs x0)) (putR (N (4294967296) (hz (num (4294967296) (gBool ((r.getD x0.toNat []).getD 0 .top)) (gInts ((r.getD x0.toNat []).getD 1 .top)) + num (4294967296) (gBool ((rz.getD x1.toNat []).getD 0 .top)) (gInts ((rz.getD x1.toNat []).getD 1 .top))))) r0 [.bool (sg (hz (num (4294967296) (gBool ((r.getD x0.toNat []).getD 0 .top)) (gInts ((r.getD x0.toNat []).getD 1 .top)) + num (4294967296) (gBool ((rz.getD x1.toNat []).getD 0 .top)) (gInts ((rz.getD x1.toNat []).getD 1 .top))))), .ints .u32 (lb (4294967296) (hz (num (4294967296) (gBool ((r.getD x0.toNat []).getD 0 .top)) (gInts ((r.getD x0.toNat []).getD 1 .top)) + num (4294967296) (gBool ((rz.getD x1.toNat []).getD 0 .top)) (gInts ((rz.getD x1.toNat []).getD 1 .top)))))])) else none) else none)) else none) else none) else none) else none) else none)) else none) else none))) else none) else none) else (bif x0 == (↑vs.length : Int) then (bif inB x1 vsz.length then (bif inB x1 rz.length then (bif etasOk [.bool false, .ints .u32 []] (rz.getD x1.toNat []) then (bif cn (4294967296) (gBool ((rz.getD x1.toNat []).getD 0 .top)) (gInts ((rz.getD x1.toNat []).getD 1 .top)) && decide (l0.length ≤ 100000) && decide (r0.length ≤ 100000) && true && true then some (.normal, st0 vs r b m vsz rz bz mz x0 (IntKind.i64.wrap (x1 + 1)) (putV (num (4294967296) (gBool ((rz.getD x1.toNat []).getD 0 .top)) (gInts ((rz.getD x1.toNat []).getD 1 .top))) l0 (rd vsz x1)) (putR (num (4294967296) (gBool ((rz.getD x1.toNat []).getD 0 .top)) (gInts ((rz.getD x1.toNat []).getD 1 .top))) r0 [.bool (gBool ((rz.getD x1.toNat []).getD 0 .top)), .ints .u32 (gInts ((rz.getD x1.toNat []).getD 1 .top))])) else none) else none) else none) else none) else (bif inB x1 vsz.length then (bif inB x0 vs.length then (bif decide (rd vsz x1 < rd vs x0) then (bif inB x1 vsz.length then (bif inB x1 rz.length then (bif etasOk [.bool false, .ints .u32 []] (rz.getD x1.toNat []) then (bif cn (4294967296) (gBool ((rz.getD x1.toNat []).getD 0 .top)) (gInts ((rz.getD x1.toNat []).getD 1 .top)) && decide (l0.length ≤ 100000) && decide (r0.length ≤ 100000) && true && true then some (.normal, st0 vs r b m vsz rz bz mz x0 (IntKind.i64.wrap (x1 + 1)) (putV (num (4294967296) (gBool ((rz.getD x1.toNat []).getD 0 .top)) (gInts ((rz.getD x1.toNat []).getD 1 .top))) l0 (rd vsz x1)) (putR (num (4294967296) (gBool ((rz.getD x1.toNat []).getD 0 .top)) (gInts ((rz.getD x1.toNat []).getD 1 .top))) r0 [.bool (gBool ((rz.getD x1.toNat []).getD 0 .top)), .ints .u32 (gInts ((rz.getD x1.toNat []).getD 1 .top))])) else none) else none) else none) else none) else (bif inB x0 r.length then (bif etasOk [.bool false, .ints .u32 []] (r.getD x0.toNat []) then (bif inB x1 rz.length then (bif etasOk [.bool false, .ints .u32 []] (rz.getD x1.toNat []) then (bif cn (4294967296) (gBool ((r.getD x0.toNat []).getD 0 .top)) (gInts ((r.getD x0.toNat []).getD 1 .top)) && cn (4294967296) (gBool ((rz.getD x1.toNat []).getD 0 .top)) (gInts ((rz.getD x1.toNat []).getD 1 .top)) && fits (num (4294967296) (gBool ((r.getD x0.toNat []).getD 0 .top)) (gInts ((r.getD x0.toNat []).getD 1 .top))) && fits (num (4294967296) (gBool ((rz.getD x1.toNat []).getD 0 .top)) (gInts ((rz.getD x1.toNat []).getD 1 .top))) then (bif he (num (4294967296) (gBool ((r.getD x0.toNat []).getD 0 .top)) (gInts ((r.getD x0.toNat []).getD 1 .top)) + num (4294967296) (gBool ((rz.getD x1.toNat []).getD 0 .top)) (gInts ((rz.getD x1.toNat []).getD 1 .top))) != 0 then some (.ret, st0x0 vs r b m vsz rz bz mz (he (num (4294967296) (gBool ((r.getD x0.toNat []).getD 0 .top)) (gInts ((r.getD x0.toNat []).getD 1 .top)) + num (4294967296) (gBool ((rz.getD x1.toNat []).getD 0 .top)) (gInts ((rz.getD x1.toNat []).getD 1 .top)))) x0 x1 l0 r0) else (bif inB x0 vs.length then (bif cn (4294967296) (sg (hz (num (4294967296) (gBool ((r.getD x0.toNat []).getD 0 .top)) (gInts ((r.getD x0.toNat []).getD 1 .top)) + num (4294967296) (gBool ((rz.getD x1.toNat []).getD 0 .top)) (gInts ((rz.getD x1.toNat []).getD 1 .top))))) (lb (4294967296) (hz (num (4294967296) (gBool ((r.getD x0.toNat []).getD 0 .top)) (gInts ((r.getD x0.toNat []).getD 1 .top)) + num (4294967296) (gBool ((rz.getD x1.toNat []).getD 0 .top)) (gInts ((rz.getD x1.toNat []).getD 1 .top))))) && decide (l0.length ≤ 100000) && decide (r0.length ≤ 100000) && true && true then some (.normal, st0 vs r b m vsz rz bz mz (IntKind.i64.wrap (x0 + 1)) (IntKind.i64.wrap (x1 + 1)) (putV (N (4294967296) (hz (num (4294967296) (gBool ((r.getD x0.toNat []).getD 0 .top)) (gInts ((r.getD x0.toNat []).getD 1 .top)) + num (4294967296) (gBool ((rz.getD x1.toNat []).getD 0 .top)) (gInts ((rz.getD x1.toNat []).getD 1 .top))))) l0 (rd vs x0)) (putR (N (4294967296) (hz (num (4294967296) (gBool ((r.getD x0.toNat []).getD 0 .top)) (gInts ((r.getD x0.toNat []).getD 1 .top)) + num (4294967296) (gBool ((rz.getD x1.toNat []).getD 0 .top)) (gInts ((rz.getD x1.toNat []).getD 1 .top))))) r0 [.bool (sg (hz (num (4294967296) (gBool ((r.getD x0.toNat []).getD 0 .top)) (gInts ((r.getD x0.toNat []).getD 1 .top)) + num (4294967296) (gBool ((rz.getD x1.toNat []).getD 0 .top)) (gInts ((rz.getD x1.toNat []).getD 1 .top))))), .ints .u32 (lb (4294967296) (hz (num (4294967296) (gBool ((r.getD x0.toNat []).getD 0 .top)) (gInts ((r.getD x0.toNat []).getD 1 .top)) + num (4294967296) (gBool ((rz.getD x1.toNat []).getD 0 .top)) (gInts ((rz.getD x1.toNat []).getD 1 .top)))))])) else none) else none)) else none) else none) else none) else none) else none)) else none) else none)))) else (bif decide (x1 < (↑vsz.length : Int)) then (bif x1 == (↑vsz.length : Int) then (bif inB x0 vs.length then (bif inB x0 r.length then (bif etasOk [.bool false, .ints .u32 []] (r.getD x0.toNat []) then (bif cn (4294967296) (gBool ((r.getD x0.toNat []).getD 0 .top)) (gInts ((r.getD x0.toNat []).getD 1 .top)) && decide (l0.length ≤ 100000) && decide (r0.length ≤ 100000) && true && true then some (.normal, st0 vs r b m vsz rz bz mz (IntKind.i64.wrap (x0 + 1)) x1 (putV (num (4294967296) (gBool ((r.getD x0.toNat []).getD 0 .top)) (gInts ((r.getD x0.toNat []).getD 1 .top))) l0 (rd vs x0)) (putR (num (4294967296) (gBool ((r.getD x0.toNat []).getD 0 .top)) (gInts ((r.getD x0.toNat []).getD 1 .top))) r0 [.bool (gBool ((r.getD x0.toNat []).getD 0 .top)), .ints .u32 (gInts ((r.getD x0.toNat []).getD 1 .top))])) else none) else none) else none) else none) else (bif decide (x0 < (↑vs.length : Int)) then (bif inB x0 vs.length then (bif inB x1 vsz.length then (bif decide (rd vs x0 < rd vsz x1) then (bif inB x0 vs.length then (bif inB x0 r.length then (bif etasOk [.bool false, .ints .u32 []] (r.getD x0.toNat []) then (bif cn (4294967296) (gBool ((r.getD x0.toNat []).getD 0 .top)) (gInts ((r.getD x0.toNat []).getD 1 .top)) && decide (l0.length ≤ 100000) && decide (r0.length ≤ 100000) && true && true then some (.normal, st0 vs r b m vsz rz bz mz (IntKind.i64.wrap (x0 + 1)) x1 (putV (num (4294967296) (gBool ((r.getD x0.toNat []).getD 0 .top)) (gInts ((r.getD x0.toNat []).getD 1 .top))) l0 (rd vs x0)) (putR (num (4294967296) (gBool ((r.getD x0.toNat []).getD 0 .top)) (gInts ((r.getD x0.toNat []).getD 1 .top))) r0 [.bool (gBool ((r.getD x0.toNat []).getD 0 .top)), .ints .u32 (gInts ((r.getD x0.toNat []).getD 1 .top))])) else none) else none) else none) else none) else (bif x0 == (↑vs.length : Int) then (bif inB x1 vsz.length then (bif inB x1 rz.length then (bif etasOk [.bool false, .ints .u32 []] (rz.getD x1.toNat []) then (bif cn (4294967296) (gBool ((rz.getD x1.toNat []).getD 0 .top)) (gInts ((rz.getD x1.toNat []).getD 1 .top)) && decide (l0.length ≤ 100000) && decide (r0.length ≤ 100000) && true && true then some (.normal, st0 vs r b m vsz rz bz mz x0 (IntKind.i64.wrap (x1 + 1)) (putV (num (4294967296) (gBool ((rz.getD x1.toNat []).getD 0 .top)) (gInts ((rz.getD x1.toNat []).getD 1 .top))) l0 (rd vsz x1)) (putR (num (4294967296) (gBool ((rz.getD x1.toNat []).getD 0 .top)) (gInts ((rz.getD x1.toNat []).getD 1 .top))) r0 [.bool (gBool ((rz.getD x1.toNat []).getD 0 .top)), .ints .u32 (gInts ((rz.getD x1.toNat []).getD 1 .top))])) else none) else none) else none) else none) else (bif inB x1 vsz.length then (bif inB x0 vs.length then (bif decide (rd vsz x1 < rd vs x0) then (bif inB x1 vsz.length then (bif inB x1 rz.length then (bif etasOk [.bool false, .ints .u32 []] (rz.getD x1.toNat []) then (bif cn (4294967296) (gBool ((rz.getD x1.toNat []).getD 0 .top)) (gInts ((rz.getD x1.toNat []).getD 1 .top)) && decide (l0.length ≤ 100000) && decide (r0.length ≤ 100000) && true && true then some (.normal, st0 vs r b m vsz rz bz mz x0 (IntKind.i64.wrap (x1 + 1)) (putV (num (4294967296) (gBool ((rz.getD x1.toNat []).getD 0 .top)) (gInts ((rz.getD x1.toNat []).getD 1 .top))) l0 (rd vsz x1)) (putR (num (4294967296) (gBool ((rz.getD x1.toNat []).getD 0 .top)) (gInts ((rz.getD x1.toNat []).getD 1 .top))) r0 [.bool (gBool ((rz.getD x1.toNat []).getD 0 .top)), .ints .u32 (gInts ((rz.getD x1.toNat []).getD 1 .top))])) else none) else none) else none) else none) else (bif inB x0 r.length then (bif etasOk [.bool false, .ints .u32 []] (r.getD x0.toNat []) then (bif inB x1 rz.length then (bif etasOk [.bool false, .ints .u32 []] (rz.getD x1.toNat []) then (bif cn (4294967296) (gBool ((r.getD x0.toNat []).getD 0 .top)) (gInts ((r.getD x0.toNat []).getD 1 .top)) && cn (4294967296) (gBool ((rz.getD x1.toNat []).getD 0 .top)) (gInts ((rz.getD x1.toNat []).getD 1 .top)) && fits (num (4294967296) (gBool ((r.getD x0.toNat []).getD 0 .top)) (gInts ((r.getD x0.toNat []).getD 1 .top))) && fits (num (4294967296) (gBool ((rz.getD x1.toNat []).getD 0 .top)) (gInts ((rz.getD x1.toNat []).getD 1 .top))) then (bif he (num (4294967296) (gBool ((r.getD x0.toNat []).getD 0 .top)) (gInts ((r.getD x0.toNat []).getD 1 .top)) + num (4294967296) (gBool ((rz.getD x1.toNat []).getD 0 .top)) (gInts ((rz.getD x1.toNat []).getD 1 .top))) != 0 then some (.ret, st0x0 vs r b m vsz rz bz mz (he (num (4294967296) (gBool ((r.getD x0.toNat []).getD 0 .top)) (gInts ((r.getD x0.toNat []).getD 1 .top)) + num (4294967296) (gBool ((rz.getD x1.toNat []).getD 0 .top)) (gInts ((rz.getD x1.toNat []).getD 1 .top)))) x0 x1 l0 r0) else (bif inB x0 vs.length then (bif cn (4294967296) (sg (hz (num (4294967296) (gBool ((r.getD x0.toNat []).getD 0 .top)) (gInts ((r.getD x0.toNat []).getD 1 .top)) + num (4294967296) (gBool ((rz.getD x1.toNat []).getD 0 .top)) (gInts ((rz.getD x1.toNat []).getD 1 .top))))) (lb (4294967296) (hz (num (4294967296) (gBool ((r.getD x0.toNat []).getD 0 .top)) (gInts ((r.getD x0.toNat []).getD 1 .top)) + num (4294967296) (gBool ((rz.getD x1.toNat []).getD 0 .top)) (gInts ((rz.getD x1.toNat []).getD 1 .top))))) && decide (l0.length ≤ 100000) && decide (r0.length ≤ 100000) && true && true then some (.normal, st0 vs r b m vsz rz bz mz (IntKind.i64.wrap (x0 + 1)) (IntKind.i64.wrap (x1 + 1)) (putV (N (4294967296) (hz (num (4294967296) (gBool ((r.getD x0.toNat []).getD 0 .top)) (gInts ((r.getD x0.toNat []).getD 1 .top)) + num (4294967296) (gBool ((rz.getD x1.toNat []).getD 0 .top)) (gInts ((rz.getD x1.toNat []).getD 1 .top))))) l0 (rd vs x0)) (putR (N (4294967296) (hz (num (4294967296) (gBool ((r.getD x0.toNat []).getD 0 .top)) (gInts ((r.getD x0.toNat []).getD 1 .top)) + num (4294967296) (gBool ((rz.getD x1.toNat []).getD 0 .top)) (gInts ((rz.getD x1.toNat []).getD 1 .top))))) r0 [.bool (sg (hz (num (4294967296) (gBool ((r.getD x0.toNat []).getD 0 .top)) (gInts ((r.getD x0.toNat []).getD 1 .top)) + num (4294967296) (gBool ((rz.getD x1.toNat []).getD 0 .top)) (gInts ((rz.getD x1.toNat []).getD 1 .top))))), .ints .u32 (lb (4294967296) (hz (num (4294967296) (gBool ((r.getD x0.toNat []).getD 0 .top)) (gInts ((r.getD x0.toNat []).getD 1 .top)) + num (4294967296) (gBool ((rz.getD x1.toNat []).getD 0 .top)) (gInts ((rz.getD x1.toNat []).getD 1 .top)))))])) else none) else none)) else none) else none) else none) else none) else none)) else none) else none))) else none) else none) else (bif x0 == (↑vs.length : Int) then (bif inB x1 vsz.length then (bif inB x1 rz.length then (bif etasOk [.bool false, .ints .u32 []] (rz.getD x1.toNat []) then (bif cn (4294967296) (gBool ((rz.getD x1.toNat []).getD 0 .top)) (gInts ((rz.getD x1.toNat []).getD 1 .top)) && decide (l0.length ≤ 100000) && decide (r0.length ≤ 100000) && true && true then some (.normal, st0 vs r b m vsz rz bz mz x0 (IntKind.i64.wrap (x1 + 1)) (putV (num (4294967296) (gBool ((rz.getD x1.toNat []).getD 0 .top)) (gInts ((rz.getD x1.toNat []).getD 1 .top))) l0 (rd vsz x1)) (putR (num (4294967296) (gBool ((rz.getD x1.toNat []).getD 0 .top)) (gInts ((rz.getD x1.toNat []).getD 1 .top))) r0 [.bool (gBool ((rz.getD x1.toNat []).getD 0 .top)), .ints .u32 (gInts ((rz.getD x1.toNat []).getD 1 .top))])) else none) else none) else none) else none) else (bif inB x1 vsz.length then (bif inB x0 vs.length then (bif decide (rd vsz x1 < rd vs x0) then (bif inB x1 vsz.length then (bif inB x1 rz.length then (bif etasOk [.bool false, .ints .u32 []] (rz.getD x1.toNat []) then (bif cn (4294967296) (gBool ((rz.getD x1.toNat []).getD 0 .top)) (gInts ((rz.getD x1.toNat []).getD 1 .top)) && decide (l0.length ≤ 100000) && decide (r0.length ≤ 100000) && true && true then some (.normal, st0 vs r b m vsz rz bz mz x0 (IntKind.i64.wrap (x1 + 1)) (putV (num (4294967296) (gBool ((rz.getD x1.toNat []).getD 0 .top)) (gInts ((rz.getD x1.toNat []).getD 1 .top))) l0 (rd vsz x1)) (putR (num (4294967296) (gBool ((rz.getD x1.toNat []).getD 0 .top)) (gInts ((rz.getD x1.toNat []).getD 1 .top))) r0 [.bool (gBool ((rz.getD x1.toNat []).getD 0 .top)), .ints .u32 (gInts ((rz.getD x1.toNat []).getD 1 .top))])) else none) else none) else none) else none) else (bif inB x0 r.length then (bif etasOk [.bool false, .ints .u32 []] (r.getD x0.toNat []) then (bif inB x1 rz.length then (bif etasOk [.bool false, .ints .u32 []] (rz.getD x1.toNat []) then (bif cn (4294967296) (gBool ((r.getD x0.toNat []).getD 0 .top)) (gInts ((r.getD x0.toNat []).getD 1 .top)) && cn (4294967296) (gBool ((rz.getD x1.toNat []).getD 0 .top)) (gInts ((rz.getD x1.toNat []).getD 1 .top)) && fits (num (4294967296) (gBool ((r.getD x0.toNat []).getD 0 .top)) (gInts ((r.getD x0.toNat []).getD 1 .top))) && fits (num (4294967296) (gBool ((rz.getD x1.toNat []).getD 0 .top)) (gInts ((rz.getD x1.toNat []).getD 1 .top))) then (bif he (num (4294967296) (gBool ((r.getD x0.toNat []).getD 0 .top)) (gInts ((r.getD x0.toNat []).getD 1 .top)) + num (4294967296) (gBool ((rz.getD x1.toNat []).getD 0 .top)) (gInts ((rz.getD x1.toNat []).getD 1 .top))) != 0 then some (.ret, st0x0 vs r b m vsz rz bz mz (he (num (4294967296) (gBool ((r.getD x0.toNat []).getD 0 .top)) (gInts ((r.getD x0.toNat []).getD 1 .top)) + num (4294967296) (gBool ((rz.getD x1.toNat []).getD 0 .top)) (gInts ((rz.getD x1.toNat []).getD 1 .top)))) x0 x1 l0 r0) else (bif inB x0 vs.length then (bif cn (4294967296) (sg (hz (num (4294967296) (gBool ((r.getD x0.toNat []).getD 0 .top)) (gInts ((r.getD x0.toNat []).getD 1 .top)) + num (4294967296) (gBool ((rz.getD x1.toNat []).getD 0 .top)) (gInts ((rz.getD x1.toNat []).getD 1 .top))))) (lb (4294967296) (hz (num (4294967296) (gBool ((r.getD x0.toNat []).getD 0 .top)) (gInts ((r.getD x0.toNat []).getD 1 .top)) + num (4294967296) (gBool ((rz.getD x1.toNat []).getD 0 .top)) (gInts ((rz.getD x1.toNat []).getD 1 .top))))) && decide (l0.length ≤ 100000) && decide (r0.length ≤ 100000) && true && true then some (.normal, st0 vs r b m vsz rz bz mz (IntKind.i64.wrap (x0 + 1)) (IntKind.i64.wrap (x1 + 1)) (putV (N (4294967296) (hz (num (4294967296) (gBool ((r.getD x0.toNat []).getD 0 .top)) (gInts ((r.getD x0.toNat []).getD 1 .top)) + num (4294967296) (gBool ((rz.getD x1.toNat []).getD 0 .top)) (gInts ((rz.getD x1.toNat []).getD 1 .top))))) l0 (rd vs x0)) (putR (N (4294967296) (hz (num (4294967296) (gBool ((r.getD x0.toNat []).getD 0 .top)) (gInts ((r.getD x0.toNat []).getD 1 .top)) + num (4294967296) (gBool ((rz.getD x1.toNat []).getD 0 .top)) (gInts ((rz.getD x1.toNat []).getD 1 .top))))) r0 [.bool (sg (hz (num (4294967296) (gBool ((r.getD x0.toNat []).getD 0 .top)) (gInts ((r.getD x0.toNat []).getD 1 .top)) + num (4294967296) (gBool ((rz.getD x1.toNat []).getD 0 .top)) (gInts ((rz.getD x1.toNat []).getD 1 .top))))), .ints .u32 (lb (4294967296) (hz (num (4294967296) (gBool ((r.getD x0.toNat []).getD 0 .top)) (gInts ((r.getD x0.toNat []).getD 1 .top)) + num (4294967296) (gBool ((rz.getD x1.toNat []).getD 0 .top)) (gInts ((rz.getD x1.toNat []).getD 1 .top)))))])) else none) else none)) else none) else none) else none) else none) else none)) else none) else none)))) else some (.exit 0, st0 vs r b m vsz rz bz mz x0 x1 l0 r0))) := by kernel_rfl
-- loop 0 ends ret st0x0 vs r b m vsz rz bz mz x2 x0 x1 l0 r0
-- loop 0 ends exit0 st0 vs r b m vsz rz bz mz x0 x1 l0 r0
theorem rest_0 (vs : List Int) (r : List (List AV)) (b : Bool) (m : List Int) (vsz : List Int) (rz : List (List AV)) (bz : Bool) (mz : List Int) (x3 : Int) (x4 : Int) (x5 : Int) (l1 : List Int) (r1 : List (List AV)) : runT T orc (tabOf T orc [(6, 1763146263722139015387046794638778454507682840383767806305557027341505186273382073010780345587440650389762056797356181821709806360394890272848033735547697980202627821294, .ret, st0x0 vs r b m vsz rz bz mz x3 x4 x5 l1 r1)]) Try.f46 [.agg [.ints .i64 vs, .rows 2 r, .bool b, .ints .u32 m], .agg [.ints .i64 vsz, .rows 2 rz, .bool bz, .ints .u32 mz]] =
    (bif cn (4294967296) b m && cn (4294967296) bz mz && fits (num (4294967296) b m) && fits (num (4294967296) bz mz) then (bif he (num (4294967296) b m + num (4294967296) bz mz) != 0 then some (.val (.tup [.agg [.ints .i64 [], .rows 2 [], .bool false, .ints .u32 []], .int .i64 (he (num (4294967296) b m + num (4294967296) bz mz))])) else (bif cdec (Ends T orc L0 D0 (st0 vs r b m vsz rz bz mz (0) (0) ([]) ([])) .ret (st0x0 vs r b m vsz rz bz mz x3 x4 x5 l1 r1)) then some (.val (.tup [.agg [.ints .i64 [], .rows 2 [], .bool false, .ints .u32 []], .int .i64 x3])) else none)) else none) := by kernel_rfl
theorem rest_1 (vs : List Int) (r : List (List AV)) (b : Bool) (m : List Int) (vsz : List Int) (rz : List (List AV)) (bz : Bool) (mz : List Int) (l2 : List Int) (r2 : List (List AV)) (x6 : Int) (x7 : Int) : runT T orc (tabOf T orc [(6, 1763146263722139015387046794638778454507682840383767806305557027341505186273382073010780345587440650389762056797356181821709806360394890272848033735547697980202627821294, .exit 0, st0 vs r b m vsz rz bz mz x6 x7 l2 r2)]) Try.f46 [.agg [.ints .i64 vs, .rows 2 r, .bool b, .ints .u32 m], .agg [.ints .i64 vsz, .rows 2 rz, .bool bz, .ints .u32 mz]] =
    (bif cn (4294967296) b m && cn (4294967296) bz mz && fits (num (4294967296) b m) && fits (num (4294967296) bz mz) then (bif he (num (4294967296) b m + num (4294967296) bz mz) != 0 then some (.val (.tup [.agg [.ints .i64 [], .rows 2 [], .bool false, .ints .u32 []], .int .i64 (he (num (4294967296) b m + num (4294967296) bz mz))])) else (bif cdec (Ends T orc L0 D0 (st0 vs r b m vsz rz bz mz (0) (0) ([]) ([])) (.exit 0) (st0 vs r b m vsz rz bz mz x6 x7 l2 r2)) then some (.val (.tup [.agg [.ints .i64 l2, .rows 2 r2, .bool (sg (hz (num (4294967296) b m + num (4294967296) bz mz))), .ints .u32 (lb (4294967296) (hz (num (4294967296) b m + num (4294967296) bz mz)))], .int .i64 (0)])) else none)) else none) := by kernel_rfl
end NAdd
end
end Go.Abs
end
section
/- What linear's functions answer: the sum of two terms. -/
namespace Go.Abs
open Go.Proofs Go.Dig
theorem beqN {i n : Nat} (h : i < n) : ((i : Int) == (n : Int)) = false := beq_eq_false_iff_ne.2 (by omega)
theorem beqNN {i n : Nat} (h : i = n) : ((i : Int) == (n : Int)) = true := beq_iff_eq.2 (by omega)
namespace NAdd
/-- The sum of two lists' first parts. -/
noncomputable abbrev sofar (l m : List (Int × Int)) (i k : Nat) : List (Int × Int) := ofF (fun v => cf (l.take i) v + cf (m.take k) v)
theorem sofar_comm (l m : List (Int × Int)) (i k : Nat) : sofar l m i k = sofar m l k i := ofF_congr (fun v _ _ => Int.add_comm _ _)
structure Inv (l m : List (Int × Int)) (i k : Nat) : Prop where
  li : i ≤ l.length
  lk : k ≤ m.length
  a : ∀ p ∈ m.take k, ∀ h : i < l.length, p.1 < l[i].1
  b : ∀ p ∈ l.take i, ∀ h : k < m.length, p.1 < m[k].1
  f : ∀ v, fits (cf (l.take i) v + cf (m.take k) v) = true
theorem Inv.symm {l m : List (Int × Int)} {i k : Nat} (h : Inv l m i k) : Inv m l k i := ⟨h.lk, h.li, h.b, h.a, fun v => by rw [Int.add_comm]; exact h.f v⟩
theorem take_mem {l : List (Int × Int)} {i : Nat} (hi : i < l.length) {p : Int × Int} (h : p ∈ l.take (i + 1)) : p ∈ l.take i ∨ p = l[i] := by
  rw [List.take_add_one, List.getElem?_eq_getElem hi] at h
  rcases List.mem_append.1 h with h | h
  · exact .inl h
  · exact .inr (List.mem_singleton.1 h)
theorem left {l m : List (Int × Int)} (hl : okL l) (hm : okL m) {i k : Nat} (h : Inv l m i k) (hi : i < l.length) (hk : ∀ h : k < m.length, l[i].1 < m[k].1) : putL l[i].2 (sofar l m i k) l[i].1 = sofar l m (i + 1) k ∧ Inv l m (i + 1) k := by
  have h0 : ∀ w, l[i].1 ≤ w → cf (m.take k) w = 0 := fun w hw => cf_none (fun p hp hpv => by have := h.a p hp hi; omega)
  refine ⟨putL_snoc (okL_in hl _ (List.getElem_mem hi)) (fun w h1 h2 => ?_) (fun w h1 h2 => ?_), ⟨hi, h.lk, fun p hp h2 => ?_, fun p hp h2 => ?_, fun v => ?_⟩⟩
  · rw [cf_take_ge (okL_asc hl) hi h1, h0 w h1]; rfl
  · rw [cf_take_succ (okL_asc hl) hi]
    by_cases hw : w = l[i].1
    · rw [if_pos hw, if_pos hw, h0 w (by omega), Int.add_zero]
    · rw [if_neg hw, if_neg hw]
  · have := h.a p hp hi
    have := List.pairwise_iff_getElem.1 (okL_asc hl) i (i + 1) hi h2 (by omega)
    omega
  · rcases take_mem hi hp with hp | rfl
    · exact h.b p hp h2
    · exact hk h2
  · rw [cf_take_succ (okL_asc hl) hi]
    by_cases hw : v = l[i].1
    · rw [if_pos hw, h0 v (by omega), Int.add_zero]
      exact okL_mem hl (List.getElem_mem hi)
    · rw [if_neg hw]; exact h.f v
theorem right {l m : List (Int × Int)} (hl : okL l) (hm : okL m) {i k : Nat} (h : Inv l m i k) (hk : k < m.length) (hi : ∀ h : i < l.length, m[k].1 < l[i].1) : putL m[k].2 (sofar l m i k) m[k].1 = sofar l m i (k + 1) ∧ Inv l m i (k + 1) := by
  obtain ⟨h1, h2⟩ := left hm hl h.symm hk hi
  rw [sofar_comm l m, sofar_comm l m]
  exact ⟨h1, h2.symm⟩
theorem both {l m : List (Int × Int)} (hl : okL l) (hm : okL m) {i k : Nat} (h : Inv l m i k) (hi : i < l.length) (hk : k < m.length) (he : l[i].1 = m[k].1) (hf : fits (l[i].2 + m[k].2) = true) : putL (l[i].2 + m[k].2) (sofar l m i k) l[i].1 = sofar l m (i + 1) (k + 1) ∧ Inv l m (i + 1) (k + 1) := by
  have h0 : ∀ w, l[i].1 ≤ w → cf (m.take k) w = 0 := fun w hw => cf_none (fun p hp hpv => by have := h.a p hp hi; omega)
  have hA : ∀ v, cf (l.take (i + 1)) v + cf (m.take (k + 1)) v = if v = l[i].1 then l[i].2 + m[k].2 else cf (l.take i) v + cf (m.take k) v := fun v => by
    rw [cf_take_succ (okL_asc hl) hi, cf_take_succ (okL_asc hm) hk]
    by_cases hw : v = l[i].1
    · rw [if_pos hw, if_pos (by omega), if_pos hw]
    · rw [if_neg hw, if_neg (by omega), if_neg hw]
  refine ⟨putL_snoc (okL_in hl _ (List.getElem_mem hi)) (fun w h1 h2 => ?_) (fun w h1 h2 => hA w), ⟨hi, hk, fun p hp h2 => ?_, fun p hp h2 => ?_, fun v => ?_⟩⟩
  · rw [cf_take_ge (okL_asc hl) hi h1, h0 w h1]; rfl
  · have h3 := List.pairwise_iff_getElem.1 (okL_asc hl) i (i + 1) hi h2 (by omega)
    rcases take_mem hk hp with hp | rfl
    · have := h.a p hp hi; omega
    · omega
  · have h3 := List.pairwise_iff_getElem.1 (okL_asc hm) k (k + 1) hk h2 (by omega)
    rcases take_mem hi hp with hp | rfl
    · have := h.b p hp hk; omega
    · omega
  · rw [hA]
    split
    · exact hf
    · exact h.f v
def Post (l m : List (Int × Int)) (b : Bool) (bl : List Int) (bz : Bool) (mz : List Int) (e : Ex) (S1 : St) : Prop :=
  (e = .exit 0 ∧ (∀ v, fits (cf l v + cf m v) = true) ∧ ∃ x y, S1 = st0 (l.map (fun p => p.1)) (l.map cL) b bl (m.map (fun p => p.1)) (m.map cL) bz mz x y ((ofF (fun v => cf l v + cf m v)).map (fun p => p.1)) ((ofF (fun v => cf l v + cf m v)).map cL)) ∨
  (e = .ret ∧ (¬ ∀ v, fits (cf l v + cf m v) = true) ∧ ∃ x y l' r', S1 = st0x0 (l.map (fun p => p.1)) (l.map cL) b bl (m.map (fun p => p.1)) (m.map cL) bz mz 11 x y l' r')
theorem loop (l m : List (Int × Int)) (b : Bool) (bl : List Int) (bz : Bool) (mz : List Int) (hl : okL l) (hm : okL m) : ∃ e S1, Ends T orc L0 D0 (st0 (l.map (fun p => p.1)) (l.map cL) b bl (m.map (fun p => p.1)) (m.map cL) bz mz 0 0 [] []) e S1 ∧ Post l m b bl bz mz e S1 := by
  have hz : sofar l m 0 0 = [] := by
    refine (ofF_congr (fun v _ _ => ?_)).trans ofF_zero
    rw [List.take_zero, List.take_zero]; rfl
  have key : ∃ e S1, Ends T orc L0 D0 (st0 (l.map (fun p => p.1)) (l.map cL) b bl (m.map (fun p => p.1)) (m.map cL) bz mz ((0 : Nat) : Int) ((0 : Nat) : Int) ((sofar l m 0 0).map (fun p => p.1)) ((sofar l m 0 0).map cL)) e S1 ∧ Post l m b bl bz mz e S1 := by
    refine loop_inv2 (fun (i k : Nat) => st0 (l.map (fun p => p.1)) (l.map cL) b bl (m.map (fun p => p.1)) (m.map cL) bz mz i k ((sofar l m i k).map (fun p => p.1)) ((sofar l m i k).map cL)) (fun i k => Inv l m i k) (fun i k => (l.length - i) + (m.length - k)) (Post l m b bl bz mz) isL0 ?_ 0 0
      ⟨Nat.zero_le _, Nat.zero_le _, fun p hp => (by rw [List.take_zero] at hp; cases hp), fun p hp => (by rw [List.take_zero] at hp; cases hp), fun v => by rw [List.take_zero, List.take_zero]; exact fits0⟩
    intro i k h
    have hll := okL_len hl
    have hml := okL_len hm
    have hik := h.li
    have hkk := h.lk
    have ho : (sofar l m i k).length ≤ 4096 := ofF_len _
    have hd : decide ((sofar l m i k).length ≤ 100000) = true := decide_eq_true (by omega)
    have si := wi_succ (show i < 4611686018427387904 by omega)
    have sk := wi_succ (show k < 4611686018427387904 by omega)
    refine ⟨noTab, noTab_all, lands_of (round0 ..) ?_⟩
    rw [List.length_map, List.length_map, List.length_map, List.length_map]
    by_cases hi : i < l.length
    · have hfi := okL_mem hl (List.getElem_mem hi)
      have goL : (∀ h : k < m.length, l[i].1 < m[k].1) → Turns2 (fun (i k : Nat) => st0 (l.map (fun p => p.1)) (l.map cL) b bl (m.map (fun p => p.1)) (m.map cL) bz mz i k ((sofar l m i k).map (fun p => p.1)) ((sofar l m i k).map cL)) (fun i k => Inv l m i k) (fun i k => (l.length - i) + (m.length - k)) (Post l m b bl bz mz) ((l.length - i) + (m.length - k)) .normal (st0 (l.map (fun p => p.1)) (l.map cL) b bl (m.map (fun p => p.1)) (m.map cL) bz mz ((i + 1 : Nat) : Int) k ((putL l[i].2 (sofar l m i k) l[i].1).map (fun p => p.1)) ((putL l[i].2 (sofar l m i k) l[i].1).map cL)) := fun hlt => by
        obtain ⟨h1, h2⟩ := left hl hm h hi hlt
        rw [h1]
        refine ⟨i + 1, k, rfl, h2, ?_⟩
        show (l.length - (i + 1)) + (m.length - k) < _
        omega
      rw [ltN hi, inN hi, rdV hi, getL hi]
      by_cases hk : k < m.length
      · have hfk := okL_mem hm (List.getElem_mem hk)
        rw [beqN hk, beqN hi, inN hk, rdV hk, getL hk]
        by_cases h1 : l[i].1 < m[k].1
        · rw [decide_eq_true h1]
          simp only [cL0, cL1, cLeta, cnW_fits hfi, num_lbW, hd, List.length_map, inN hi, cond_true, cond_false, Bool.and_self, si, lands_some]
          rw [putV_map, putR_map l[i].2 _ l[i].1]
          exact goL (fun _ => h1)
        · rw [decide_eq_false h1]
          by_cases h2 : m[k].1 < l[i].1
          · rw [decide_eq_true h2]
            simp only [cL0, cL1, cLeta, cnW_fits hfk, num_lbW, hd, List.length_map, inN hi, inN hk, cond_true, cond_false, Bool.and_self, sk, lands_some, Turns2]
            obtain ⟨h3, h4⟩ := right hl hm h hk (fun _ => h2)
            rw [putV_map, putR_map m[k].2 _ m[k].1, h3]
            exact ⟨i, k + 1, rfl, h4, by omega⟩
          · rw [decide_eq_false h2]
            have he : l[i].1 = m[k].1 := by omega
            simp only [cL0, cL1, cLeta, cnW_fits hfk, cnW_fits hfi, num_lbW, hfi, hfk, hd, List.length_map, inN hi, inN hk, cond_true, cond_false, Bool.and_self, N_eq]
            cases hf : fits (l[i].2 + m[k].2) with
            | false =>
              rw [ne0_of_big hf, he_big hf]
              simp only [cond_true, lands_some, Turns2]
              refine .inr ⟨rfl, fun hall => ?_, i, k, _, _, rfl⟩
              have := hall l[i].1
              rw [cf_mem (okL_asc hl) (List.getElem_mem hi), he, cf_mem (okL_asc hm) (List.getElem_mem hk), hf] at this
              cases this
            | true =>
              rw [eq0_of_fit hf, hz_fit hf, cnW_fits hf]
              simp only [cond_true, cond_false, Bool.and_self, hd, List.length_map, si, sk, lands_some, Turns2]
              obtain ⟨h3, h4⟩ := both hl hm h hi hk he hf
              rw [putV_map, putR_map (l[i].2 + m[k].2) _ l[i].1, h3]
              exact ⟨i + 1, k + 1, rfl, h4, by omega⟩
      · rw [beqNN (show k = m.length by omega)]
        simp only [cL0, cL1, cLeta, cnW_fits hfi, num_lbW, hd, List.length_map, inN hi, cond_true, cond_false, Bool.and_self, si, lands_some]
        rw [putV_map, putR_map l[i].2 _ l[i].1]
        exact goL (fun h => absurd h hk)
    · rw [ltN' hi, beqNN (show i = l.length by omega)]
      by_cases hk : k < m.length
      · have hfk := okL_mem hm (List.getElem_mem hk)
        rw [ltN hk, beqN hk, inN hk, rdV hk, getL hk]
        simp only [cL0, cL1, cLeta, cnW_fits hfk, num_lbW, hd, List.length_map, inN hk, cond_true, cond_false, Bool.and_self, sk, lands_some, Turns2]
        obtain ⟨h3, h4⟩ := right hl hm h hk (fun h => absurd h hi)
        rw [putV_map, putR_map m[k].2 _ m[k].1, h3]
        exact ⟨i, k + 1, rfl, h4, by omega⟩
      · rw [ltN' hk]
        simp only [cond_false, lands_some, Turns2]
        have e1 : l.take i = l := List.take_of_length_le (by omega)
        have e2 : m.take k = m := List.take_of_length_le (by omega)
        have hf := h.f
        unfold sofar
        rw [e1, e2] at hf ⊢
        exact .inl ⟨rfl, hf, i, k, rfl⟩
  rw [hz] at key
  exact key
end NAdd
theorem meets_nadd : Meets Try.prog 46 ansLAdd := by
  refine meets_fn (orc_ok (l := NAdd.ans) ⟨meets_add, meets_lput, trivial⟩) Try.f46 Try.func46 (by kernel_rfl) (fun args r h => ?_)
  unfold ansLAdd at h
  split at h
  · rename_i vs r b m vsz rz bz mz
    simp only [Option.some.injEq, Prod.mk.injEq, Bool.and_eq_true] at h
    obtain ⟨⟨h1, h2⟩, rfl⟩ := h
    obtain ⟨l, c, k1, k2, rfl, rfl, rfl, rfl⟩ := isT_iff.1 h1
    obtain ⟨k, d, k3, k4, rfl, rfl, rfl, rfl⟩ := isT_iff.1 h2
    rw [dl_map, dl_map, num_lbW, num_lbW]
    obtain ⟨e1, S1, hE1, hP⟩ := NAdd.loop l k (sg c) (lb 4294967296 c) (sg d) (lb 4294967296 d) k1 k3
    rcases hP with ⟨rfl, hall, x, y, rfl⟩ | ⟨rfl, hall, x, y, l', r', rfl⟩
    · refine ⟨rfl, _, tabOf_all _, (NAdd.rest_1 _ _ _ _ _ _ _ _ ((ofF (fun v => cf l v + cf k v)).map (fun p => p.1)) ((ofF (fun v => cf l v + cf k v)).map cL) x y).trans ?_⟩
      rw [num_lbW, num_lbW, cnW_fits k2, cnW_fits k4, k2, k4]
      rcases addE_cases l k c d with ⟨e1, e2, e3, e4, _⟩ | ⟨e1, e2, e3, e4⟩
      · rw [e1, e2, e3, eq0_of_fit e4, hz_fit e4, cdec_true hE1, lvs_eq, lrs_eq]
        rfl
      · have hcb : fits (c + d) = false := by rw [Bool.eq_false_iff]; exact fun hh => e4 ⟨hh, hall⟩
        rw [e1, e2, e3, ne0_of_big hcb, he_big hcb, lvs_nil, lrs_nil]
        rfl
    · refine ⟨rfl, _, tabOf_all _, (NAdd.rest_0 _ _ _ _ _ _ _ _ 11 x y l' r').trans ?_⟩
      rw [num_lbW, num_lbW, cnW_fits k2, cnW_fits k4, k2, k4]
      rcases addE_cases l k c d with ⟨e1, e2, e3, e4, e5⟩ | ⟨e1, e2, e3, e4⟩
      · exact absurd e5 hall
      · rw [e1, e2, e3, lvs_nil, lrs_nil, cdec_true hE1]
        cases hcb : fits (c + d) with
        | false => rw [ne0_of_big hcb, he_big hcb]; rfl
        | true => rw [eq0_of_fit hcb]; rfl
  · cases h
end Go.Abs
end
section
/- The statements of layer 3: what their helpers answer. -/
namespace Go.Abs
open Go.Proofs Go.Dig
theorem cut_le {s : ByteArray} (h : ¬ s.size > 400) : cut 400 s = s := by unfold cut; rw [decide_eq_false h]; rfl
theorem cut_gt {s : ByteArray} (h : s.size > 400) : cut 400 s = s.extract 0 400 := by unfold cut; rw [decide_eq_true h]; rfl
theorem cut_sz (s : ByteArray) : (cut 400 s).size ≤ 400 := by
  by_cases h : s.size > 400
  · rw [cut_gt h, ByteArray.size_extract]; omega
  · rw [cut_le h]; omega
theorem room24 {l : List (List AV)} (h : l.length ≤ 100000) : (true && decide (l.length * 24 ≤ 140737488355328)) = true := by
  rw [Bool.true_and, decide_eq_true_eq]; omega
namespace JVals
theorem loop (ss : List ByteArray) : ∃ e S1, Ends T orc L0 D0 (st0 (ss.map (fun s => [AV.str s])) 0 [] []) e S1 ∧ e = .exit 0 ∧ ∃ x, S1 = st0 (ss.map (fun s => [AV.str s])) x (((ss.take 12).map nv).map cV) (((ss.take 12).map nv).map cX) := by
  have key : ∃ e S1, Ends T orc L0 D0 (st0 (ss.map (fun s => [AV.str s])) ((0 : Nat) : Int) (((ss.take 0).map nv).map cV) (((ss.take 0).map nv).map cX)) e S1 ∧ e = .exit 0 ∧ ∃ x, S1 = st0 (ss.map (fun s => [AV.str s])) x (((ss.take 12).map nv).map cV) (((ss.take 12).map nv).map cX) := by
    refine loop_inv1 (fun (i : Nat) => st0 (ss.map (fun s => [AV.str s])) i (((ss.take i).map nv).map cV) (((ss.take i).map nv).map cX)) (fun i => i ≤ ss.length ∧ i ≤ 12) (fun i => 12 - i)
      (fun e S1 => e = .exit 0 ∧ ∃ x, S1 = st0 (ss.map (fun s => [AV.str s])) x (((ss.take 12).map nv).map cV) (((ss.take 12).map nv).map cX)) isL0 ?_ 0 ⟨Nat.zero_le _, by omega⟩
    intro i ⟨h1, h2⟩
    refine ⟨noTab, noTab_all, lands_of (round0 ..) ?_⟩
    rw [List.length_map]
    by_cases hi : i < ss.length
    · by_cases hj : i < 12
      · have hg : (ss.map (fun s => [AV.str s])).getD (i : Int).toNat [] = [.str ss[i]] := by
          rw [Int.toNat_natCast, getD_at (by rw [List.length_map]; exact hi), List.getElem_map]
        have f1 : gStr ([AV.str ss[i]].getD 0 .top) = ss[i] := rfl
        have f2 : etaOk (.str { data := #[] }) ([AV.str ss[i]].getD 0 .top) = true := rfl
        have a1 : ((ss.take i).map nv).map cV ++ [cV (nv ss[i])] = ((ss.take (i + 1)).map nv).map cV := by
          rw [List.take_add_one, List.getElem?_eq_getElem hi, List.map_append, List.map_append]; rfl
        have a2 : ((ss.take i).map nv).map cX ++ [cX (nv ss[i])] = ((ss.take (i + 1)).map nv).map cX := by
          rw [List.take_add_one, List.getElem?_eq_getElem hi, List.map_append, List.map_append]; rfl
        have r1 : (true && decide ((((ss.take (i + 1)).map nv).map cV).length * 32 ≤ 140737488355328)) = true := by
          rw [Bool.true_and, decide_eq_true_eq, List.length_map, List.length_map, List.length_take]; omega
        have r2 : (true && decide ((((ss.take (i + 1)).map nv).map cX).length * 32 ≤ 140737488355328)) = true := by
          rw [Bool.true_and, decide_eq_true_eq, List.length_map, List.length_map, List.length_take]; omega
        have fin : Turns1 (fun (i : Nat) => st0 (ss.map (fun s => [AV.str s])) i (((ss.take i).map nv).map cV) (((ss.take i).map nv).map cX)) (fun i => i ≤ ss.length ∧ i ≤ 12) (fun i => 12 - i) (fun e S1 => e = .exit 0 ∧ ∃ x, S1 = st0 (ss.map (fun s => [AV.str s])) x (((ss.take 12).map nv).map cV) (((ss.take 12).map nv).map cX)) (12 - i) .normal (st0 (ss.map (fun s => [AV.str s])) ((i + 1 : Nat) : Int) (((ss.take (i + 1)).map nv).map cV) (((ss.take (i + 1)).map nv).map cX)) := ⟨i + 1, rfl, ⟨by omega, by omega⟩, by show 12 - (i + 1) < _; omega⟩
        rw [ltN hi, inN hi, hg, decide_eq_true (show (i : Int) < 12 by omega)]
        have si := wi_succ (show i < 4611686018427387904 by omega)
        by_cases hs : ss[i].size > 400
        · have hs1 : ((ss[i].size : Nat) : Int) > 400 := by omega
          have hs2 : 400 ≤ ((ss[i].size : Nat) : Int) := by omega
          have hsz : (ss[i].extract 0 400).size ≤ 10000 := by rw [ByteArray.size_extract]; omega
          have hn : nv ss[i] = rv (ss[i].extract 0 400) := by unfold nv; rw [cut_gt hs]
          rw [hn] at a1 a2
          simp only [f1, f2, cond_true, hs1, hs2, hsz, decide_true, Bool.and_self, a1, a2, r1, r2, si, lands_some]
          exact fin
        · have hs1 : ¬ ((ss[i].size : Nat) : Int) > 400 := by omega
          have hsz : ss[i].size ≤ 10000 := by omega
          have hn : nv ss[i] = rv ss[i] := by unfold nv; rw [cut_le hs]
          rw [hn] at a1 a2
          simp only [f1, f2, cond_true, cond_false, hs1, hsz, decide_true, decide_false, a1, a2, r1, r2, si, lands_some]
          exact fin
      · have hij : i = 12 := by omega
        subst hij
        rw [ltN hi, decide_eq_false (show ¬ ((12 : Nat) : Int) < 12 by omega)]
        simp only [cond_true, cond_false, lands_some, Turns1]
        exact ⟨trivial, _, rfl⟩
    · rw [ltN' hi]
      simp only [cond_false, lands_some, Turns1]
      have e1 : ss.take i = ss := List.take_of_length_le (by omega)
      have e2 : ss.take 12 = ss := List.take_of_length_le (by omega)
      rw [e1, e2]
      exact ⟨trivial, i, rfl⟩
  exact key
end JVals
theorem meets_jvals : Meets Try.prog 31 anjValues := by
  refine meets_fn (orc_ok (l := JVals.ans) ⟨meets_parse, meets_rparse, trivial⟩) Try.f31 Try.func31 (by kernel_rfl) (fun args r h => ?_)
  unfold anjValues at h
  split at h
  · rename_i x
    simp only [Option.some.injEq, Prod.mk.injEq] at h
    obtain ⟨h1, rfl⟩ := h
    obtain ⟨ss, rfl⟩ := isStrs_iff.1 h1
    rw [strL_map, vws_eq, vts_eq, vals_eq]
    obtain ⟨e1, S1, hE1, rfl, x, rfl⟩ := JVals.loop ss
    exact ⟨rfl, _, tabOf_all _, (JVals.rest _ (((ss.take 12).map nv).map cV) (((ss.take 12).map nv).map cX) x).trans (bT (cdec_true hE1))⟩
  · cases h
theorem vals_fits (ss : List ByteArray) : ∀ z ∈ vals ss, fits z = true := fun z hz => by
  rw [vals_eq] at hz
  obtain ⟨s, _, rfl⟩ := List.mem_map.1 hz
  exact fits_nv s
theorem vals_len (ss : List ByteArray) : (vals ss).length ≤ 12 := by rw [vals_eq, List.length_map, List.length_take]; omega
theorem isvw_vals (ss : List ByteArray) : isvw (vws (vals ss)) = true := isvw_iff.2 ⟨_, vals_fits ss, by have := vals_len ss; omega, vws_eq _⟩
abbrev rowOf (p : Int × ByteArray) : Int × ByteArray := (p.1, cut 400 p.2)
namespace JRow
theorem loop (ms : List (Int × ByteArray)) (s : ByteArray) : ∃ e S1, Ends T orc L0 D0 (st0 (ms.map cP) s 0 []) e S1 ∧ e = .exit 0 ∧ ∃ x, S1 = st0 (ms.map cP) s x (((ms.take 12).map rowOf).map cP) := by
  have key : ∃ e S1, Ends T orc L0 D0 (st0 (ms.map cP) s ((0 : Nat) : Int) (((ms.take 0).map rowOf).map cP)) e S1 ∧ e = .exit 0 ∧ ∃ x, S1 = st0 (ms.map cP) s x (((ms.take 12).map rowOf).map cP) := by
    refine loop_inv1 (fun (i : Nat) => st0 (ms.map cP) s i (((ms.take i).map rowOf).map cP)) (fun i => i ≤ ms.length ∧ i ≤ 12) (fun i => 12 - i)
      (fun e S1 => e = .exit 0 ∧ ∃ x, S1 = st0 (ms.map cP) s x (((ms.take 12).map rowOf).map cP)) isL0 ?_ 0 ⟨Nat.zero_le _, by omega⟩
    intro i ⟨h1, h2⟩
    refine ⟨noTab, noTab_all, lands_of (round0 ..) ?_⟩
    rw [List.length_map]
    by_cases hi : i < ms.length
    · by_cases hj : i < 12
      · have e : ((ms.take i).map rowOf).map cP ++ [cP (rowOf ms[i])] = ((ms.take (i + 1)).map rowOf).map cP := by
          rw [List.take_add_one, List.getElem?_eq_getElem hi, List.map_append, List.map_append]; rfl
        have hr : (true && decide ((((ms.take (i + 1)).map rowOf).map cP).length * 24 ≤ 140737488355328)) = true := room24 (by rw [List.length_map, List.length_map, List.length_take]; omega)
        have fin : Turns1 (fun (i : Nat) => st0 (ms.map cP) s i (((ms.take i).map rowOf).map cP)) (fun i => i ≤ ms.length ∧ i ≤ 12) (fun i => 12 - i) (fun e S1 => e = .exit 0 ∧ ∃ x, S1 = st0 (ms.map cP) s x (((ms.take 12).map rowOf).map cP)) (12 - i) .normal (st0 (ms.map cP) s ((i + 1 : Nat) : Int) (((ms.take (i + 1)).map rowOf).map cP)) := ⟨i + 1, rfl, ⟨by omega, by omega⟩, by show 12 - (i + 1) < _; omega⟩
        rw [ltN hi, inN hi, getP hi, decide_eq_true (show (i : Int) < 12 by omega)]
        have si := wi_succ (show i < 4611686018427387904 by omega)
        by_cases hs : ms[i].2.size > 400
        · have hs1 : ((ms[i].2.size : Nat) : Int) > 400 := by omega
          have hs2 : 400 ≤ ((ms[i].2.size : Nat) : Int) := by omega
          rw [show rowOf ms[i] = (ms[i].1, ms[i].2.extract 0 400) from by unfold rowOf; rw [cut_gt hs]] at e
          have e : ((ms.take i).map rowOf).map cP ++ [[AV.int .i64 ms[i].1, .str (ms[i].2.extract 0 400)]] = ((ms.take (i + 1)).map rowOf).map cP := e
          simp only [cP0, cP1, cPeta, cond_true, cond_false, hs1, hs2, decide_true, decide_false, Bool.and_self, e, hr, si, lands_some]
          exact fin
        · have hs1 : ¬ ((ms[i].2.size : Nat) : Int) > 400 := by omega
          rw [show rowOf ms[i] = (ms[i].1, ms[i].2) from by unfold rowOf; rw [cut_le hs]] at e
          have e : ((ms.take i).map rowOf).map cP ++ [[AV.int .i64 ms[i].1, .str ms[i].2]] = ((ms.take (i + 1)).map rowOf).map cP := e
          simp only [cP0, cP1, cPeta, cond_true, cond_false, hs1, decide_true, decide_false, e, hr, si, lands_some]
          exact fin
      · have hij : i = 12 := by omega
        subst hij
        rw [ltN hi, decide_eq_false (show ¬ ((12 : Nat) : Int) < 12 by omega)]
        simp only [cond_true, cond_false, lands_some, Turns1]
        exact ⟨trivial, _, rfl⟩
    · rw [ltN' hi]
      simp only [cond_false, lands_some, Turns1]
      have e1 : ms.take i = ms := List.take_of_length_le (by omega)
      have e2 : ms.take 12 = ms := List.take_of_length_le (by omega)
      rw [e1, e2]
      exact ⟨trivial, i, rfl⟩
  exact key
theorem loopa (ms : List (Int × ByteArray)) (s : ByteArray) : ∃ e S1, Ends T orc L0a D0a (st0a (ms.map cP) s 0 []) e S1 ∧ e = .exit 0 ∧ ∃ x, S1 = st0a (ms.map cP) s x (((ms.take 12).map rowOf).map cP) := by
  have key : ∃ e S1, Ends T orc L0a D0a (st0a (ms.map cP) s ((0 : Nat) : Int) (((ms.take 0).map rowOf).map cP)) e S1 ∧ e = .exit 0 ∧ ∃ x, S1 = st0a (ms.map cP) s x (((ms.take 12).map rowOf).map cP) := by
    refine loop_inv1 (fun (i : Nat) => st0a (ms.map cP) s i (((ms.take i).map rowOf).map cP)) (fun i => i ≤ ms.length ∧ i ≤ 12) (fun i => 12 - i)
      (fun e S1 => e = .exit 0 ∧ ∃ x, S1 = st0a (ms.map cP) s x (((ms.take 12).map rowOf).map cP)) isL0a ?_ 0 ⟨Nat.zero_le _, by omega⟩
    intro i ⟨h1, h2⟩
    refine ⟨noTab, noTab_all, lands_of (round0a ..) ?_⟩
    rw [List.length_map]
    by_cases hi : i < ms.length
    · by_cases hj : i < 12
      · have e : ((ms.take i).map rowOf).map cP ++ [cP (rowOf ms[i])] = ((ms.take (i + 1)).map rowOf).map cP := by
          rw [List.take_add_one, List.getElem?_eq_getElem hi, List.map_append, List.map_append]; rfl
        have hr : (true && decide ((((ms.take (i + 1)).map rowOf).map cP).length * 24 ≤ 140737488355328)) = true := room24 (by rw [List.length_map, List.length_map, List.length_take]; omega)
        have fin : Turns1 (fun (i : Nat) => st0a (ms.map cP) s i (((ms.take i).map rowOf).map cP)) (fun i => i ≤ ms.length ∧ i ≤ 12) (fun i => 12 - i) (fun e S1 => e = .exit 0 ∧ ∃ x, S1 = st0a (ms.map cP) s x (((ms.take 12).map rowOf).map cP)) (12 - i) .normal (st0a (ms.map cP) s ((i + 1 : Nat) : Int) (((ms.take (i + 1)).map rowOf).map cP)) := ⟨i + 1, rfl, ⟨by omega, by omega⟩, by show 12 - (i + 1) < _; omega⟩
        rw [ltN hi, inN hi, getP hi, decide_eq_true (show (i : Int) < 12 by omega)]
        have si := wi_succ (show i < 4611686018427387904 by omega)
        by_cases hs : ms[i].2.size > 400
        · have hs1 : ((ms[i].2.size : Nat) : Int) > 400 := by omega
          have hs2 : 400 ≤ ((ms[i].2.size : Nat) : Int) := by omega
          rw [show rowOf ms[i] = (ms[i].1, ms[i].2.extract 0 400) from by unfold rowOf; rw [cut_gt hs]] at e
          have e : ((ms.take i).map rowOf).map cP ++ [[AV.int .i64 ms[i].1, .str (ms[i].2.extract 0 400)]] = ((ms.take (i + 1)).map rowOf).map cP := e
          simp only [cP0, cP1, cPeta, cond_true, cond_false, hs1, hs2, decide_true, decide_false, Bool.and_self, e, hr, si, lands_some]
          exact fin
        · have hs1 : ¬ ((ms[i].2.size : Nat) : Int) > 400 := by omega
          rw [show rowOf ms[i] = (ms[i].1, ms[i].2) from by unfold rowOf; rw [cut_le hs]] at e
          have e : ((ms.take i).map rowOf).map cP ++ [[AV.int .i64 ms[i].1, .str ms[i].2]] = ((ms.take (i + 1)).map rowOf).map cP := e
          simp only [cP0, cP1, cPeta, cond_true, cond_false, hs1, decide_true, decide_false, e, hr, si, lands_some]
          exact fin
      · have hij : i = 12 := by omega
        subst hij
        rw [ltN hi, decide_eq_false (show ¬ ((12 : Nat) : Int) < 12 by omega)]
        simp only [cond_true, cond_false, lands_some, Turns1]
        exact ⟨trivial, _, rfl⟩
    · rw [ltN' hi]
      simp only [cond_false, lands_some, Turns1]
      have e1 : ms.take i = ms := List.take_of_length_le (by omega)
      have e2 : ms.take 12 = ms := List.take_of_length_le (by omega)
      rw [e1, e2]
      exact ⟨trivial, i, rfl⟩
  exact key
end JRow
theorem meets_jrow : Meets Try.prog 14 anjRow := by
  refine meets_fn (orc_ok (l := JRow.ans) trivial) Try.f14 Try.func14 (by kernel_rfl) (fun args r h => ?_)
  unfold anjRow at h
  split at h
  · rename_i x s
    simp only [Option.some.injEq, Prod.mk.injEq] at h
    obtain ⟨h1, rfl⟩ := h
    obtain ⟨ms, _, rfl⟩ := isq_iff.1 h1
    rw [dp_map, prs_eq, rowP_eq]
    obtain ⟨e1, S1, hE1, rfl, x, rfl⟩ := JRow.loop ms s
    obtain ⟨e2, S2, hE2, rfl, y, rfl⟩ := JRow.loopa ms s
    refine ⟨rfl, _, tabOf_all _, (JRow.rest _ _ (((ms.take 12).map rowOf).map cP) y (((ms.take 12).map rowOf).map cP) x).trans ?_⟩
    rw [List.length_map, cdec_true hE1, cdec_true hE2]
    by_cases hs : s.size > 400
    · rw [cut_gt hs]
      refine (bT (decide_eq_true (by omega))).trans ((bT ?_).trans ?_)
      · rw [Bool.true_and, decide_eq_true_eq]; omega
      · by_cases hl : ms.length > 4096
        · rw [decide_eq_true hl]
          exact bT (decide_eq_true (by omega))
        · rw [decide_eq_false hl]
          exact bF (decide_eq_false (by omega))
    · rw [cut_le hs]
      refine (bF (decide_eq_false (by omega))).trans ?_
      by_cases hl : ms.length > 4096
      · rw [decide_eq_true hl]
        exact bT (decide_eq_true (by omega))
      · rw [decide_eq_false hl]
        exact bF (decide_eq_false (by omega))
  · cases h
end Go.Abs
end
section
/- The statements of layer 3: the term of a list of parts; the page's examples. -/
namespace Go.Abs
open Go.Proofs Go.Dig
theorem fits_one : fits 1 = true := by kernel_rfl
/-- The page's examples. -/
abbrev aw : List (Int × ByteArray) := [(0, ⟨#[50]⟩), (1, ⟨#[45, 52]⟩)]
abbrev awL : List (Int × Int) := [(0, 2), (1, -4)]
theorem aw_two : (rv ⟨#[50]⟩ = 2 ∧ re ⟨#[50]⟩ = 0) ∧ (rv ⟨#[45, 52]⟩ = -4 ∧ re ⟨#[45, 52]⟩ = 0) ∧ rv ⟨#[51]⟩ = 3 ∧ re ⟨#[51]⟩ = 0 := ⟨⟨by kernel_rfl, by kernel_rfl⟩, ⟨by kernel_rfl, by kernel_rfl⟩, by kernel_rfl, by kernel_rfl⟩
theorem aw_ofF {a b : Int} (ha : a ≠ 0) (hb : b ≠ 0) {f : Int → Int} (h : ∀ v, 0 ≤ v → v < 4096 → f v = if v = 0 then a else if v = 1 then b else 0) : ofF f = [(0, a), (1, b)] := by
  refine (eq_ofF ?_ ?_ (fun v => ?_)).symm
  · exact List.pairwise_cons.2 ⟨fun p hp => by rw [List.mem_singleton.1 hp]; exact (by decide : (0 : Int) < 1), List.pairwise_singleton ..⟩
  · intro p hp
    rcases List.mem_cons.1 hp with rfl | hp
    · exact ha
    · rw [List.mem_singleton.1 hp]; exact hb
  · rw [cf_cons, cf_cons, cf_nil]
    by_cases hv : 0 ≤ v ∧ v < 4096
    · rw [if_pos hv, h v hv.1 hv.2]
      by_cases h0 : v = 0
      · rw [if_pos h0, if_pos h0.symm]
      · rw [if_neg h0, if_neg (fun hh => h0 hh.symm)]
        by_cases h1 : v = 1
        · rw [if_pos h1, if_pos h1.symm]
        · rw [if_neg h1, if_neg (fun hh => h1 hh.symm)]
    · rw [if_neg hv, if_neg (by show ¬ (0 : Int) = v; omega), if_neg (by show ¬ (1 : Int) = v; omega)]
theorem aw_cf (v : Int) : cf awL v = if v = 0 then 2 else if v = 1 then -4 else 0 := by
  rw [cf_cons, cf_cons, cf_nil]
  by_cases h0 : v = 0
  · rw [if_pos h0, if_pos h0.symm]
  · rw [if_neg h0, if_neg (fun hh => h0 hh.symm)]
    by_cases h1 : v = 1
    · rw [if_pos h1, if_pos h1.symm]
    · rw [if_neg h1, if_neg (fun hh => h1 hh.symm)]
theorem fits_m4 : fits (-4) = true := by kernel_rfl
theorem fits_two : fits 2 = true := by kernel_rfl
theorem fits_three : fits 3 = true := by kernel_rfl
theorem aw_rdF : rdF [] aw = (0, awL) := by
  obtain ⟨⟨a1, a2⟩, ⟨a3, a4⟩, _⟩ := aw_two
  have h1 : rdF [] aw = bif !(vE 0 == 0) then (vE 0, []) else bif !(re ⟨#[50]⟩ == 0) then (re ⟨#[50]⟩, []) else bif addE [] (lone 0 (rv ⟨#[50]⟩)) 0 0 == 0 then rdF (addL [] (lone 0 (rv ⟨#[50]⟩)) 0 0) [(1, ⟨#[45, 52]⟩)] else (addE [] (lone 0 (rv ⟨#[50]⟩)) 0 0, []) := rfl
  have h2 : ∀ q, rdF q [(1, ⟨#[45, 52]⟩)] = bif !(vE 1 == 0) then (vE 1, []) else bif !(re ⟨#[45, 52]⟩ == 0) then (re ⟨#[45, 52]⟩, []) else bif addE q (lone 1 (rv ⟨#[45, 52]⟩)) 0 0 == 0 then (0, addL q (lone 1 (rv ⟨#[45, 52]⟩)) 0 0) else (addE q (lone 1 (rv ⟨#[45, 52]⟩)) 0 0, []) := fun q => rfl
  obtain ⟨b1, b2⟩ := (add_lone okL_nil (v := 0) (c := 2) (by omega) fits_two).1 (by rw [cf_nil]; exact fits_two)
  have b3 : addL [] (lone 0 2) 0 0 = lone 0 2 := by
    rw [b2, wiL_eq, lone_eq]
    refine ofF_congr (fun w _ _ => ?_)
    rw [cf_nil, Int.zero_add]
  have hok : okL (lone 0 2) := okL_lone 0 fits_two
  have hc : cf (lone 0 2) 1 = 0 := by rw [cf_lone, if_neg (fun hh => absurd hh.2 (by decide))]
  obtain ⟨d1, d2⟩ := (add_lone hok (v := 1) (c := -4) (by omega) fits_m4).1 (by rw [hc]; exact fits_m4)
  have d3 : addL (lone 0 2) (lone 1 (-4)) 0 0 = awL := by
    rw [d2, wiL_eq]
    refine aw_ofF (by decide) (by decide) (fun w _ _ => ?_)
    rw [cf_lone]
    by_cases h0 : w = 0
    · rw [if_pos h0, decide_eq_false (by omega), if_pos ⟨by omega, h0⟩]; rfl
    · rw [if_neg h0, if_neg (fun hh => h0 hh.2)]
      by_cases h1 : w = 1
      · rw [if_pos h1, decide_eq_true h1]; rfl
      · rw [if_neg h1, decide_eq_false h1]; rfl
  rw [h1, a2, a1, b1, b3, h2, a4, a3, d1, d3]
  rfl
theorem aw_rd : rdE aw ⟨#[51]⟩ = 0 ∧ rdL aw ⟨#[51]⟩ = awL ∧ rdM aw ⟨#[51]⟩ = 3 := by
  obtain ⟨_, _, a5, a6⟩ := aw_two
  rcases rd_cases aw ⟨#[51]⟩ with ⟨c1, _⟩ | ⟨_, c0, _⟩ | ⟨_, _, c2, c3⟩
  · exact absurd c1 (by decide)
  · exact absurd a6 c0
  · rw [aw_rdF] at c2 c3
    rcases c3 with ⟨_, c3, c4⟩ | ⟨c3, _⟩
    · exact ⟨c2, c3, c4.trans a5⟩
    · exact absurd rfl c3
theorem aw_okL : okL awL := by
  have := okL_rd aw ⟨#[51]⟩
  rw [aw_rd.2.1] at this
  exact this
theorem aw_gcd : gcdL awL = 2 := by rw [gcdL_eq]; kernel_rfl
theorem aw_ti : tiL awL = [(0, 1), (1, -2)] ∧ tiM awL 3 = 1 := by
  have h1 := tiL_eq awL
  have h2 := tiM_eq awL 3
  rw [aw_gcd] at h1 h2
  have h1 : tiL awL = ofF (fun v => dq (cf awL v) 2) := h1
  have h2 : tiM awL 3 = dq 3 2 := h2
  refine ⟨?_, h2⟩
  rw [h1]
  refine aw_ofF (by decide) (by decide) (fun w _ _ => ?_)
  rw [aw_cf]
  by_cases h0 : w = 0
  · rw [if_pos h0, if_pos h0]; rfl
  · rw [if_neg h0, if_neg h0]
    by_cases h1 : w = 1
    · rw [if_pos h1, if_pos h1]; rfl
    · rw [if_neg h1, if_neg h1]; rfl
theorem aw_no : noL awL 3 = [(0, -2), (1, 4)] ∧ noM 3 = -4 ∧ he (3 + 1) = 0 := by
  have h1 := noL_eq awL 3
  have h2 := noM_eq 3
  have h3 : he (3 + 1) = 0 := by kernel_rfl
  rw [h3] at h1 h2
  have h1 : noL awL 3 = negL awL := h1
  have h2 : noM 3 = -4 := h2
  refine ⟨?_, h2, h3⟩
  rw [h1, negL_eq]
  refine aw_ofF (by decide) (by decide) (fun w _ _ => ?_)
  rw [aw_cf]
  by_cases h0 : w = 0
  · rw [if_pos h0, if_pos h0]
  · rw [if_neg h0, if_neg h0]
    by_cases h1 : w = 1
    · rw [if_pos h1, if_pos h1]; rfl
    · rw [if_neg h1, if_neg h1]; rfl
theorem aw_t1 : ((ttxt [(0, 1), (1, -2)] 0).toList == [(49 : UInt8), (42 : UInt8), (120 : UInt8), (48 : UInt8), (32 : UInt8), (43 : UInt8), (32 : UInt8), (45 : UInt8), (50 : UInt8), (42 : UInt8), (120 : UInt8), (49 : UInt8)]) = true := by rw [ttxt_eq]; kernel_rfl
theorem aw_t2 : ((ttxt [(0, -2), (1, 4)] 0).toList == [(45 : UInt8), (50 : UInt8), (42 : UInt8), (120 : UInt8), (48 : UInt8), (32 : UInt8), (43 : UInt8), (32 : UInt8), (52 : UInt8), (42 : UInt8), (120 : UInt8), (49 : UInt8)]) = true := by rw [ttxt_eq]; kernel_rfl
theorem meets_jawake : Meets Try.prog 13 anlAwake := by
  refine meets_fn (orc_ok (l := JAwake.ans) ⟨meets_nread meets_nadd, meets_nnot, meets_ntight, meets_ntext, meets_text, trivial⟩) Try.f13 Try.func13 (by kernel_rfl) (fun args r h => ?_)
  unfold anlAwake at h
  split at h
  · simp only [Option.some.injEq, Prod.mk.injEq] at h
    obtain ⟨_, rfl⟩ := h
    refine ⟨rfl, _, noTab_all, JAwake.rest.trans ?_⟩
    have hr : ([[AV.int .i64 0, .str { data := #[50] }], [.int .i64 1, .str { data := #[45, 52] }]] : List (List AV)) = aw.map cP := rfl
    have hq : isq (aw.map cP) = true := isq_iff.2 ⟨aw, fun p hp => by
      rcases List.mem_cons.1 hp with rfl | hp
      · rfl
      · rw [List.mem_singleton.1 hp]; rfl, rfl⟩
    have hp : isp (aw.map cP) = true := isp_iff.2 ⟨aw, fun p hp => by
      rcases List.mem_cons.1 hp with rfl | hp
      · exact ⟨rfl, by decide⟩
      · rw [List.mem_singleton.1 hp]; exact ⟨rfl, by decide⟩, rfl⟩
    obtain ⟨r1, r2, r3⟩ := aw_rd
    obtain ⟨t1, t2⟩ := aw_ti
    obtain ⟨n1, n2, n3⟩ := aw_no
    have x1 : ((txt 1).toList == [(49 : UInt8)]) = true := by kernel_rfl
    have x2 : ((txt (-4)).toList == [(45 : UInt8), (52 : UInt8)]) = true := by kernel_rfl
    have o1 : okL [(0, 1), (1, -2)] := by have := okL_ti aw_okL; rw [t1] at this; exact this
    have o2 : okL [(0, -2), (1, 4)] := by
      have := okL_neg aw_okL
      have h1 := noL_eq awL 3
      rw [n3] at h1
      have h1 : noL awL 3 = negL awL := h1
      rw [← h1, n1] at this
      exact this
    rw [hr, hq, hp, dp_map, r1, r2, r3, isl_lvs aw_okL, N_eq, dl_lvs, t1, t2, n1, n2, n3, isT_of0 o1, isT_of0 o2, dl_lvs, dl_lvs, N_eq, N_eq, aw_t1, aw_t2, x1, x2, cnW_fits fits_three, fits_three, cnW_fits fits_one, cnW_fits fits_m4]
    rfl
  · cases h
end Go.Abs
end
section
/- The statements of layer 3: rows. -/
namespace Go.Abs
open Go.Proofs Go.Dig
theorem okL_no {l : List (Int × Int)} {c : Int} (h : okL l) : okL (noL l c) := by
  rw [noL_eq]
  cases he (c + 1) == 0 with
  | true => exact okL_neg h
  | false => exact okL_nil
theorem fits_noM (c : Int) : fits (noM c) = true := by
  rw [noM_eq]
  cases h : fits (c + 1) with
  | true => rw [he_fit h]; exact fits_neg h
  | false => rw [he_big h]; exact fits0
/-- What a statement's row is. -/
theorem row_ok {ms : List (Int × ByteArray)} (s : ByteArray) (hm : ∀ p ∈ ms, i64B p.1 = true) : (decide ((cut 400 s).size ≤ 10000) && isq (prs (rowP ms)) && (decide ((prs (rowP ms)).length > 4096) || isp (prs (rowP ms)))) = true := by
  have hs := cut_sz s
  have hR := rowP_eq ms
  rw [decide_eq_true (show (cut 400 s).size ≤ 10000 by omega), Bool.true_and, Bool.and_eq_true]
  by_cases hl : ms.length > 4096
  · rw [decide_eq_true hl, cond_true] at hR
    rw [hR]
    refine ⟨isq_iff.2 ⟨ms, hm, prs_eq ms⟩, ?_⟩
    rw [prs_len, decide_eq_true hl]; rfl
  · rw [decide_eq_false hl, cond_false] at hR
    have h1 : ∀ p ∈ rowP ms, i64B p.1 = true ∧ p.2.size ≤ 10000 := fun p hp => by
      rw [hR] at hp
      obtain ⟨q, hq, rfl⟩ := List.mem_map.1 hp
      have := cut_sz q.2
      exact ⟨hm q (List.mem_of_mem_take hq), by show (cut 400 q.2).size ≤ 10000; omega⟩
    refine ⟨isq_iff.2 ⟨rowP ms, fun p hp => (h1 p hp).1, prs_eq _⟩, ?_⟩
    rw [Bool.or_eq_true]
    exact .inr (isp_iff.2 ⟨rowP ms, h1, prs_eq _⟩)
end Go.Abs
end
section
/- The statements of layer 3: values. -/
namespace Go.Abs
open Go.Proofs Go.Dig
/-- A sum's value at some values, none refused. -/
def lin (l : List (Int × Int)) (xs : List Int) : Int := (l.map (fun p => p.2 * xs.getD p.1.toNat 0)).sum
def SL (L : List Nat) (f : Int → Int) (xs : List Int) : Int := (L.map (fun (v : Nat) => f (v : Int) * xs.getD v 0)).sum
theorem SL_cons (v : Nat) (L : List Nat) (f : Int → Int) (xs : List Int) : SL (v :: L) f xs = f (v : Int) * xs.getD v 0 + SL L f xs := by
  unfold SL; rw [List.map_cons, List.sum_cons]
abbrev SR (f : Int → Int) (xs : List Int) : Int := SL (List.range 4096) f xs
theorem lin_cons (p : Int × Int) (l : List (Int × Int)) (xs : List Int) : lin (p :: l) xs = p.2 * xs.getD p.1.toNat 0 + lin l xs := by
  unfold lin; rw [List.map_cons, List.sum_cons]
theorem lin_filter (f : Int → Int) (xs : List Int) (L : List Nat) : lin ((L.map (fun (v : Nat) => ((v : Int), f v))).filter (fun p => p.2 != 0)) xs = SL L f xs := by
  induction L with
  | nil => rfl
  | cons v L ih =>
    rw [SL_cons, List.map_cons, List.filter_cons]
    by_cases h : f (v : Int) = 0
    · rw [if_neg (by simp only [h, bne_self_eq_false]; exact Bool.false_ne_true), ih, h, Int.zero_mul, Int.zero_add]
    · rw [if_pos (bne_iff_ne.2 h), lin_cons, ih]
      rfl
theorem lin_ofF (f : Int → Int) (xs : List Int) : lin (ofF f) xs = SR f xs := by rw [ofF_eq]; exact lin_filter f xs _
theorem lin_cf {l : List (Int × Int)} (h : okL l) (xs : List Int) : lin l xs = SR (cf l) xs := by
  rw [← lin_ofF, ← okL_canon h]
theorem SL_mul (L : List Nat) (f : Int → Int) (k : Int) (xs : List Int) : SL L (fun v => f v * k) xs = k * SL L f xs := by
  induction L with
  | nil => show (0 : Int) = k * 0; omega
  | cons v L ih =>
    rw [SL_cons, SL_cons, ih, Int.mul_add, Int.mul_comm (f v) k, Int.mul_assoc]
theorem SL_neg (L : List Nat) (f : Int → Int) (xs : List Int) : SL L (fun v => - f v) xs = - SL L f xs := by
  induction L with
  | nil => rfl
  | cons v L ih => rw [SL_cons, SL_cons, ih, Int.neg_mul]; omega
theorem SL_congr {L : List Nat} {f g : Int → Int} (h : ∀ v ∈ L, f (v : Int) = g (v : Int)) (xs : List Int) : SL L f xs = SL L g xs := by
  induction L with
  | nil => rfl
  | cons v L ih => rw [SL_cons, SL_cons, ih (fun w hw => h w (List.mem_cons_of_mem _ hw)), h v List.mem_cons_self]
theorem SR_congr {f g : Int → Int} (h : ∀ v, 0 ≤ v → v < 4096 → f v = g v) (xs : List Int) : SR f xs = SR g xs :=
  SL_congr (fun v hv => h v (by omega) (by have := List.mem_range.1 hv; omega)) xs
theorem atO_lin {xs : List Int} : ∀ {l : List (Int × Int)} {c s : Int}, In l → atO l xs c = some s → s = c + lin l xs
  | [], c, s, _, h => by
    have h : some c = some s := h
    rw [Option.some.injEq] at h
    rw [← h]
    show c = c + 0
    omega
  | p :: l, c, s, hin, h => by
    have h : (bif decide ((xs.length : Int) ≤ p.1) then atO l xs c else bif fits (p.2 * xs.getD p.1.toNat 0) && fits (c + p.2 * xs.getD p.1.toNat 0) then atO l xs (c + p.2 * xs.getD p.1.toNat 0) else none) = some s := h
    have hl : In l := fun q hq => hin q (List.mem_cons_of_mem _ hq)
    have hp := hin p List.mem_cons_self
    rw [lin_cons]
    by_cases hx : (xs.length : Int) ≤ p.1
    · rw [decide_eq_true hx, cond_true] at h
      rw [atO_lin hl h, show xs.getD p.1.toNat 0 = 0 from by rw [List.getD_eq_getElem?_getD, List.getElem?_eq_none (by omega)]; rfl]
      omega
    · rw [decide_eq_false hx, cond_false] at h
      cases hb : (fits (p.2 * xs.getD p.1.toNat 0) && fits (c + p.2 * xs.getD p.1.toNat 0)) with
      | true =>
        rw [hb, cond_true] at h
        rw [atO_lin hl h]
        omega
      | false => rw [hb] at h; cases h
theorem atE_cases (l : List (Int × Int)) (xs : List Int) (c : Int) (hl : okL l) : (atE l xs c = 0 ∧ atV l xs c = c + lin l xs) ∨ (atE l xs c = 11 ∧ atV l xs c = 0) := by
  have h1 := atE_eq l xs c
  have h2 := atV_eq l xs c
  cases ho : atO l xs c with
  | none =>
    rw [ho] at h1 h2
    exact .inr ⟨h1, h2⟩
  | some s =>
    rw [ho] at h1 h2
    exact .inl ⟨h1, h2.trans (atO_lin (okL_in hl) ho)⟩
theorem lin_neg {l : List (Int × Int)} (h : okL l) (xs : List Int) : lin (negL l) xs = - lin l xs := by
  rw [negL_eq, lin_ofF, lin_cf h]
  exact SL_neg (List.range 4096) (cf l) xs
theorem lin_ti {l : List (Int × Int)} (h : okL l) (hg : 1 < gcdL l) (xs : List Int) : lin (tiL l) xs * gcdL l = lin l xs := by
  have hT := tiL_eq l
  rw [decide_eq_false (show ¬ gcdL l ≤ 1 by omega), cond_false] at hT
  rw [hT, lin_ofF, lin_cf h, Int.mul_comm, ← SL_mul]
  refine SR_congr (fun v h1 h2 => ?_) xs
  by_cases hv : ∃ p ∈ l, p.1 = v
  · obtain ⟨p, hp, rfl⟩ := hv
    rw [cf_mem (okL_asc h) hp]
    exact dq_exact hg (gcdL_dvd hp)
  · rw [cf_none (fun p hp hpv => hv ⟨p, hp, hpv⟩), dq_zero, Int.zero_mul]
theorem ho_bad {l : List (Int × Int)} {c : Int} {xs : List Int} (h : atE l xs 0 ≠ 0) : hoB l c xs = false := by
  rw [hoB_eq, decide_eq_false h]; rfl
theorem ho_good {l : List (Int × Int)} (hl : okL l) {c : Int} {xs : List Int} (h : atE l xs 0 = 0) : hoB l c xs = decide (lin l xs ≤ c) := by
  rcases atE_cases l xs 0 hl with ⟨_, v⟩ | ⟨k, _⟩
  · rw [hoB_eq, h, v, decide_eq_true rfl, Bool.true_and, Int.zero_add]
  · rw [h] at k; cases k
theorem ho_ti {l : List (Int × Int)} (hl : okL l) {c : Int} {xs : List Int} (h1 : atE l xs 0 = 0) (h2 : atE (tiL l) xs 0 = 0) : hoB l c xs = hoB (tiL l) (tiM l c) xs := by
  rw [ho_good hl h1, ho_good (okL_ti hl) h2]
  have hT := tiL_eq l
  have hM := tiM_eq l c
  by_cases hg : gcdL l ≤ 1
  · rw [decide_eq_true hg, cond_true] at hT hM
    rw [hT, hM]
  · rw [decide_eq_false hg, cond_false] at hM
    have hl2 := lin_ti hl (by omega) xs
    rw [hM, ← hl2]
    generalize lin (tiL l) xs = y
    generalize gcdL l = g at *
    rw [decide_eq_decide]
    unfold dq
    rw [if_neg (by omega), Int.fdiv_eq_ediv_of_nonneg _ (by omega)]
    exact (Int.le_ediv_iff_mul_le (by omega)).symm
theorem ho_no {l : List (Int × Int)} (hl : okL l) {c : Int} {xs : List Int} (hf : he (c + 1) = 0) (h1 : atE l xs 0 = 0) (h2 : atE (noL l c) xs 0 = 0) : hoB (noL l c) (noM c) xs = !hoB l c xs := by
  rw [ho_good hl h1, ho_good (okL_no hl) h2]
  have hN := noL_eq l c
  have hM := noM_eq c
  rw [hf] at hN hM
  have hN : noL l c = negL l := hN
  have hM : noM c = -(c + 1) := hM
  rw [hN, hM, lin_neg hl]
  rw [Bool.eq_iff_iff, decide_eq_true_eq, Bool.not_eq_true', decide_eq_false_iff_not]
  omega
theorem law_holds : Meets Try.prog 8 (fun a => match a with | [.agg [.rows 2 x, .str _], .rows 1 w] => some (isq x && isStrs w, .val (.bool true)) | _ => none) := by
  refine meets_fn (orc_ok (l := KHolds.ans) ⟨meets_jawake, meets_jrow, meets_nread meets_nadd, meets_jvals, meets_nnot, meets_nholds, meets_ntight, trivial⟩) Try.f8 Try.func8 (by kernel_rfl) (fun args r h => ?_)
  split at h
  · rename_i x s w
    simp only [Option.some.injEq, Prod.mk.injEq, Bool.and_eq_true] at h
    obtain ⟨⟨h1, h2⟩, rfl⟩ := h
    refine ⟨rfl, _, noTab_all, (KHolds.rest x s w).trans ((bT h1).trans ?_)⟩
    obtain ⟨ms, hm, rfl⟩ := isq_iff.1 h1
    have hR := row_ok s hm
    rw [dp_map]
    refine (bT hR).trans ?_
    rw [dp_prs]
    have oQ := okL_rd (rowP ms) (cut 400 s)
    have fQ := fits_rdM (rowP ms) (cut 400 s)
    generalize rdL (rowP ms) (cut 400 s) = q at *
    generalize rdM (rowP ms) (cut 400 s) = c at *
    generalize rdE (rowP ms) (cut 400 s) = e at *
    have oT := okL_ti oQ
    have fT := fits_tiM (l := q) fQ
    have oN := okL_no (c := c) oQ
    have fN := fits_noM c
    by_cases he0 : e = 0
    · refine (bF (eq_b he0)).trans ((bT h2).trans ?_)
      simp only [isl_lvs oQ, dl_lvs, dvw_vws, N_eq, cnW_fits fQ, fQ, isvw_vals, isl_lvs oT, cnW_fits fT, isl_lvs oN, cnW_fits fN, Bool.and_self, cond_true]
      generalize vals (strL w) = xs at *
      by_cases e1 : atE q xs 0 = 0
      · by_cases e2 : atE (tiL q) xs 0 = 0
        · by_cases e3 : atE (noL q c) xs 0 = 0
          · simp only [e1, e2, e3, bne_self_eq_false, cond_false]
            by_cases e4 : he (c + 1) = 0
            · refine (bF (eq_b e4)).trans ?_
              rw [← ho_ti oQ e1 e2, ho_no oQ e4 e1 e3]
              cases hoB q c xs <;> rfl
            · exact bT (ne_b e4)
          · simp only [e1, e2, ne_b e3, ho_bad e3, bne_self_eq_false, cond_false, cond_true]
            cases (he (c + 1) != 0) <;> rfl
        · simp only [e1, ne_b e2, ho_bad e2, bne_self_eq_false, cond_false, cond_true]
          by_cases e3 : atE (noL q c) xs 0 = 0
          · simp only [e3, bne_self_eq_false, cond_false, cond_true]
            cases (he (c + 1) != 0) <;> rfl
          · simp only [ne_b e3, ho_bad e3, cond_false, cond_true]
            cases (he (c + 1) != 0) <;> rfl
      · simp only [ne_b e1, ho_bad e1, bne_self_eq_false, cond_false, cond_true]
        by_cases e2 : atE (tiL q) xs 0 = 0
        · by_cases e3 : atE (noL q c) xs 0 = 0
          · simp only [e2, e3, bne_self_eq_false, cond_false, cond_true]
            cases (he (c + 1) != 0) <;> rfl
          · simp only [e2, ne_b e3, ho_bad e3, bne_self_eq_false, cond_false, cond_true]
            cases (he (c + 1) != 0) <;> rfl
        · by_cases e3 : atE (noL q c) xs 0 = 0
          · simp only [ne_b e2, ho_bad e2, e3, bne_self_eq_false, cond_false, cond_true]
            cases (he (c + 1) != 0) <;> rfl
          · simp only [ne_b e2, ho_bad e2, ne_b e3, ho_bad e3, cond_false, cond_true]
            cases (he (c + 1) != 0) <;> rfl
    · exact bT (ne_b he0)
  · cases h
end Go.Abs
end
