/- What the rows of this seat rest on, part 5: an abstract machine for the model, proved sound, and the functions that the statements reach. No conditions. -/
import Derived.Test.YtnbeejpnfoegdaaXBase4
set_option linter.unusedVariables false
set_option linter.unusedSimpArgs false
set_option linter.unnecessarySimpa false
set_option linter.unusedSectionVars false
section
/- States and rounds of ratio, its longer functions, as a program of this session printed them. -/
set_option maxRecDepth 10000
namespace Go.Abs
open Go.Proofs Go.Dig
noncomputable section
namespace QAdd
abbrev ans : Ans := [(20, ansDen), (22, ansGcd), (64, ansOver), (72, ansMul), (31, ansAdd), (63, ansMade)]
abbrev orc : Orc := orcOf ans
theorem rest (s : Bool) (l : List Int) (t : Bool) (m : List Int) (sy : Bool) (ly : List Int) (ty : Bool) (my : List Int) : runT T orc (noTab) Try.f29 [.agg [.bool s, .ints .u32 l, .bool t, .ints .u32 m], .agg [.bool sy, .ints .u32 ly, .bool ty, .ints .u32 my]] =
    (bif cn (4294967296) t m then (bif cn (4294967296) ty my then (bif cn (4294967296) (sg (dn (num (4294967296) t m))) (lb (4294967296) (dn (num (4294967296) t m))) && cn (4294967296) (sg (dn (num (4294967296) ty my))) (lb (4294967296) (dn (num (4294967296) ty my))) then (bif cn (4294967296) (sg (dn (num (4294967296) ty my))) (lb (4294967296) (dn (num (4294967296) ty my))) && cn (4294967296) false (lb (4294967296) (gz (N (4294967296) (dn (num (4294967296) t m))) (N (4294967296) (dn (num (4294967296) ty my))))) then (bif cn (4294967296) s l && cn (4294967296) (sg (dq (N (4294967296) (dn (num (4294967296) ty my))) (num (4294967296) false (lb (4294967296) (gz (N (4294967296) (dn (num (4294967296) t m))) (N (4294967296) (dn (num (4294967296) ty my)))))))) (lb (4294967296) (dq (N (4294967296) (dn (num (4294967296) ty my))) (num (4294967296) false (lb (4294967296) (gz (N (4294967296) (dn (num (4294967296) t m))) (N (4294967296) (dn (num (4294967296) ty my)))))))) && fits (num (4294967296) s l) && fits (N (4294967296) (dq (N (4294967296) (dn (num (4294967296) ty my))) (num (4294967296) false (lb (4294967296) (gz (N (4294967296) (dn (num (4294967296) t m))) (N (4294967296) (dn (num (4294967296) ty my)))))))) then (bif he (num (4294967296) s l * N (4294967296) (dq (N (4294967296) (dn (num (4294967296) ty my))) (num (4294967296) false (lb (4294967296) (gz (N (4294967296) (dn (num (4294967296) t m))) (N (4294967296) (dn (num (4294967296) ty my)))))))) != 0 then some (.val (.tup [.agg [.bool false, .ints .u32 [], .bool false, .ints .u32 []], .int .i64 (he (num (4294967296) s l * N (4294967296) (dq (N (4294967296) (dn (num (4294967296) ty my))) (num (4294967296) false (lb (4294967296) (gz (N (4294967296) (dn (num (4294967296) t m))) (N (4294967296) (dn (num (4294967296) ty my)))))))))])) else (bif cn (4294967296) (sg (dn (num (4294967296) t m))) (lb (4294967296) (dn (num (4294967296) t m))) && cn (4294967296) false (lb (4294967296) (gz (N (4294967296) (dn (num (4294967296) t m))) (N (4294967296) (dn (num (4294967296) ty my))))) then (bif cn (4294967296) sy ly && cn (4294967296) (sg (dq (N (4294967296) (dn (num (4294967296) t m))) (num (4294967296) false (lb (4294967296) (gz (N (4294967296) (dn (num (4294967296) t m))) (N (4294967296) (dn (num (4294967296) ty my)))))))) (lb (4294967296) (dq (N (4294967296) (dn (num (4294967296) t m))) (num (4294967296) false (lb (4294967296) (gz (N (4294967296) (dn (num (4294967296) t m))) (N (4294967296) (dn (num (4294967296) ty my)))))))) && fits (num (4294967296) sy ly) && fits (N (4294967296) (dq (N (4294967296) (dn (num (4294967296) t m))) (num (4294967296) false (lb (4294967296) (gz (N (4294967296) (dn (num (4294967296) t m))) (N (4294967296) (dn (num (4294967296) ty my)))))))) then (bif he (num (4294967296) sy ly * N (4294967296) (dq (N (4294967296) (dn (num (4294967296) t m))) (num (4294967296) false (lb (4294967296) (gz (N (4294967296) (dn (num (4294967296) t m))) (N (4294967296) (dn (num (4294967296) ty my)))))))) != 0 then some (.val (.tup [.agg [.bool false, .ints .u32 [], .bool false, .ints .u32 []], .int .i64 (he (num (4294967296) sy ly * N (4294967296) (dq (N (4294967296) (dn (num (4294967296) t m))) (num (4294967296) false (lb (4294967296) (gz (N (4294967296) (dn (num (4294967296) t m))) (N (4294967296) (dn (num (4294967296) ty my)))))))))])) else (bif cn (4294967296) (sg (hz (num (4294967296) s l * N (4294967296) (dq (N (4294967296) (dn (num (4294967296) ty my))) (num (4294967296) false (lb (4294967296) (gz (N (4294967296) (dn (num (4294967296) t m))) (N (4294967296) (dn (num (4294967296) ty my)))))))))) (lb (4294967296) (hz (num (4294967296) s l * N (4294967296) (dq (N (4294967296) (dn (num (4294967296) ty my))) (num (4294967296) false (lb (4294967296) (gz (N (4294967296) (dn (num (4294967296) t m))) (N (4294967296) (dn (num (4294967296) ty my)))))))))) && cn (4294967296) (sg (hz (num (4294967296) sy ly * N (4294967296) (dq (N (4294967296) (dn (num (4294967296) t m))) (num (4294967296) false (lb (4294967296) (gz (N (4294967296) (dn (num (4294967296) t m))) (N (4294967296) (dn (num (4294967296) ty my)))))))))) (lb (4294967296) (hz (num (4294967296) sy ly * N (4294967296) (dq (N (4294967296) (dn (num (4294967296) t m))) (num (4294967296) false (lb (4294967296) (gz (N (4294967296) (dn (num (4294967296) t m))) (N (4294967296) (dn (num (4294967296) ty my)))))))))) && fits (N (4294967296) (hz (num (4294967296) s l * N (4294967296) (dq (N (4294967296) (dn (num (4294967296) ty my))) (num (4294967296) false (lb (4294967296) (gz (N (4294967296) (dn (num (4294967296) t m))) (N (4294967296) (dn (num (4294967296) ty my)))))))))) && fits (N (4294967296) (hz (num (4294967296) sy ly * N (4294967296) (dq (N (4294967296) (dn (num (4294967296) t m))) (num (4294967296) false (lb (4294967296) (gz (N (4294967296) (dn (num (4294967296) t m))) (N (4294967296) (dn (num (4294967296) ty my)))))))))) then (bif he (N (4294967296) (hz (num (4294967296) s l * N (4294967296) (dq (N (4294967296) (dn (num (4294967296) ty my))) (num (4294967296) false (lb (4294967296) (gz (N (4294967296) (dn (num (4294967296) t m))) (N (4294967296) (dn (num (4294967296) ty my))))))))) + N (4294967296) (hz (num (4294967296) sy ly * N (4294967296) (dq (N (4294967296) (dn (num (4294967296) t m))) (num (4294967296) false (lb (4294967296) (gz (N (4294967296) (dn (num (4294967296) t m))) (N (4294967296) (dn (num (4294967296) ty my)))))))))) != 0 then some (.val (.tup [.agg [.bool false, .ints .u32 [], .bool false, .ints .u32 []], .int .i64 (he (N (4294967296) (hz (num (4294967296) s l * N (4294967296) (dq (N (4294967296) (dn (num (4294967296) ty my))) (num (4294967296) false (lb (4294967296) (gz (N (4294967296) (dn (num (4294967296) t m))) (N (4294967296) (dn (num (4294967296) ty my))))))))) + N (4294967296) (hz (num (4294967296) sy ly * N (4294967296) (dq (N (4294967296) (dn (num (4294967296) t m))) (num (4294967296) false (lb (4294967296) (gz (N (4294967296) (dn (num (4294967296) t m))) (N (4294967296) (dn (num (4294967296) ty my)))))))))))])) else (bif cn (4294967296) (sg (hz (N (4294967296) (hz (num (4294967296) s l * N (4294967296) (dq (N (4294967296) (dn (num (4294967296) ty my))) (num (4294967296) false (lb (4294967296) (gz (N (4294967296) (dn (num (4294967296) t m))) (N (4294967296) (dn (num (4294967296) ty my))))))))) + N (4294967296) (hz (num (4294967296) sy ly * N (4294967296) (dq (N (4294967296) (dn (num (4294967296) t m))) (num (4294967296) false (lb (4294967296) (gz (N (4294967296) (dn (num (4294967296) t m))) (N (4294967296) (dn (num (4294967296) ty my)))))))))))) (lb (4294967296) (hz (N (4294967296) (hz (num (4294967296) s l * N (4294967296) (dq (N (4294967296) (dn (num (4294967296) ty my))) (num (4294967296) false (lb (4294967296) (gz (N (4294967296) (dn (num (4294967296) t m))) (N (4294967296) (dn (num (4294967296) ty my))))))))) + N (4294967296) (hz (num (4294967296) sy ly * N (4294967296) (dq (N (4294967296) (dn (num (4294967296) t m))) (num (4294967296) false (lb (4294967296) (gz (N (4294967296) (dn (num (4294967296) t m))) (N (4294967296) (dn (num (4294967296) ty my)))))))))))) && cn (4294967296) false (lb (4294967296) (gz (N (4294967296) (dn (num (4294967296) t m))) (N (4294967296) (dn (num (4294967296) ty my))))) then (bif cn (4294967296) (sg (dn (num (4294967296) t m))) (lb (4294967296) (dn (num (4294967296) t m))) && cn (4294967296) false (lb (4294967296) (gz (N (4294967296) (dn (num (4294967296) t m))) (N (4294967296) (dn (num (4294967296) ty my))))) then (bif cn (4294967296) (sg (dn (num (4294967296) ty my))) (lb (4294967296) (dn (num (4294967296) ty my))) && cn (4294967296) false (lb (4294967296) (gz (N (4294967296) (hz (N (4294967296) (hz (num (4294967296) s l * N (4294967296) (dq (N (4294967296) (dn (num (4294967296) ty my))) (num (4294967296) false (lb (4294967296) (gz (N (4294967296) (dn (num (4294967296) t m))) (N (4294967296) (dn (num (4294967296) ty my))))))))) + N (4294967296) (hz (num (4294967296) sy ly * N (4294967296) (dq (N (4294967296) (dn (num (4294967296) t m))) (num (4294967296) false (lb (4294967296) (gz (N (4294967296) (dn (num (4294967296) t m))) (N (4294967296) (dn (num (4294967296) ty my)))))))))))) (num (4294967296) false (lb (4294967296) (gz (N (4294967296) (dn (num (4294967296) t m))) (N (4294967296) (dn (num (4294967296) ty my)))))))) then (bif cn (4294967296) (sg (dq (N (4294967296) (dn (num (4294967296) t m))) (num (4294967296) false (lb (4294967296) (gz (N (4294967296) (dn (num (4294967296) t m))) (N (4294967296) (dn (num (4294967296) ty my)))))))) (lb (4294967296) (dq (N (4294967296) (dn (num (4294967296) t m))) (num (4294967296) false (lb (4294967296) (gz (N (4294967296) (dn (num (4294967296) t m))) (N (4294967296) (dn (num (4294967296) ty my)))))))) && cn (4294967296) (sg (dq (N (4294967296) (dn (num (4294967296) ty my))) (num (4294967296) false (lb (4294967296) (gz (N (4294967296) (hz (N (4294967296) (hz (num (4294967296) s l * N (4294967296) (dq (N (4294967296) (dn (num (4294967296) ty my))) (num (4294967296) false (lb (4294967296) (gz (N (4294967296) (dn (num (4294967296) t m))) (N (4294967296) (dn (num (4294967296) ty my))))))))) + N (4294967296) (hz (num (4294967296) sy ly * N (4294967296) (dq (N (4294967296) (dn (num (4294967296) t m))) (num (4294967296) false (lb (4294967296) (gz (N (4294967296) (dn (num (4294967296) t m))) (N (4294967296) (dn (num (4294967296) ty my)))))))))))) (num (4294967296) false (lb (4294967296) (gz (N (4294967296) (dn (num (4294967296) t m))) (N (4294967296) (dn (num (4294967296) ty my))))))))))) (lb (4294967296) (dq (N (4294967296) (dn (num (4294967296) ty my))) (num (4294967296) false (lb (4294967296) (gz (N (4294967296) (hz (N (4294967296) (hz (num (4294967296) s l * N (4294967296) (dq (N (4294967296) (dn (num (4294967296) ty my))) (num (4294967296) false (lb (4294967296) (gz (N (4294967296) (dn (num (4294967296) t m))) (N (4294967296) (dn (num (4294967296) ty my))))))))) + N (4294967296) (hz (num (4294967296) sy ly * N (4294967296) (dq (N (4294967296) (dn (num (4294967296) t m))) (num (4294967296) false (lb (4294967296) (gz (N (4294967296) (dn (num (4294967296) t m))) (N (4294967296) (dn (num (4294967296) ty my)))))))))))) (num (4294967296) false (lb (4294967296) (gz (N (4294967296) (dn (num (4294967296) t m))) (N (4294967296) (dn (num (4294967296) ty my))))))))))) && fits (N (4294967296) (dq (N (4294967296) (dn (num (4294967296) t m))) (num (4294967296) false (lb (4294967296) (gz (N (4294967296) (dn (num (4294967296) t m))) (N (4294967296) (dn (num (4294967296) ty my)))))))) && fits (N (4294967296) (dq (N (4294967296) (dn (num (4294967296) ty my))) (num (4294967296) false (lb (4294967296) (gz (N (4294967296) (hz (N (4294967296) (hz (num (4294967296) s l * N (4294967296) (dq (N (4294967296) (dn (num (4294967296) ty my))) (num (4294967296) false (lb (4294967296) (gz (N (4294967296) (dn (num (4294967296) t m))) (N (4294967296) (dn (num (4294967296) ty my))))))))) + N (4294967296) (hz (num (4294967296) sy ly * N (4294967296) (dq (N (4294967296) (dn (num (4294967296) t m))) (num (4294967296) false (lb (4294967296) (gz (N (4294967296) (dn (num (4294967296) t m))) (N (4294967296) (dn (num (4294967296) ty my)))))))))))) (num (4294967296) false (lb (4294967296) (gz (N (4294967296) (dn (num (4294967296) t m))) (N (4294967296) (dn (num (4294967296) ty my))))))))))) then (bif he (N (4294967296) (dq (N (4294967296) (dn (num (4294967296) t m))) (num (4294967296) false (lb (4294967296) (gz (N (4294967296) (dn (num (4294967296) t m))) (N (4294967296) (dn (num (4294967296) ty my))))))) * N (4294967296) (dq (N (4294967296) (dn (num (4294967296) ty my))) (num (4294967296) false (lb (4294967296) (gz (N (4294967296) (hz (N (4294967296) (hz (num (4294967296) s l * N (4294967296) (dq (N (4294967296) (dn (num (4294967296) ty my))) (num (4294967296) false (lb (4294967296) (gz (N (4294967296) (dn (num (4294967296) t m))) (N (4294967296) (dn (num (4294967296) ty my))))))))) + N (4294967296) (hz (num (4294967296) sy ly * N (4294967296) (dq (N (4294967296) (dn (num (4294967296) t m))) (num (4294967296) false (lb (4294967296) (gz (N (4294967296) (dn (num (4294967296) t m))) (N (4294967296) (dn (num (4294967296) ty my)))))))))))) (num (4294967296) false (lb (4294967296) (gz (N (4294967296) (dn (num (4294967296) t m))) (N (4294967296) (dn (num (4294967296) ty my))))))))))) != 0 then some (.val (.tup [.agg [.bool false, .ints .u32 [], .bool false, .ints .u32 []], .int .i64 (he (N (4294967296) (dq (N (4294967296) (dn (num (4294967296) t m))) (num (4294967296) false (lb (4294967296) (gz (N (4294967296) (dn (num (4294967296) t m))) (N (4294967296) (dn (num (4294967296) ty my))))))) * N (4294967296) (dq (N (4294967296) (dn (num (4294967296) ty my))) (num (4294967296) false (lb (4294967296) (gz (N (4294967296) (hz (N (4294967296) (hz (num (4294967296) s l * N (4294967296) (dq (N (4294967296) (dn (num (4294967296) ty my))) (num (4294967296) false (lb (4294967296) (gz (N (4294967296) (dn (num (4294967296) t m))) (N (4294967296) (dn (num (4294967296) ty my))))))))) + N (4294967296) (hz (num (4294967296) sy ly * N (4294967296) (dq (N (4294967296) (dn (num (4294967296) t m))) (num (4294967296) false (lb (4294967296) (gz (N (4294967296) (dn (num (4294967296) t m))) (N (4294967296) (dn (num (4294967296) ty my)))))))))))) (num (4294967296) false (lb (4294967296) (gz (N (4294967296) (dn (num (4294967296) t m))) (N (4294967296) (dn (num (4294967296) ty my))))))))))))])) else (bif cn (4294967296) (sg (hz (N (4294967296) (hz (num (4294967296) s l * N (4294967296) (dq (N (4294967296) (dn (num (4294967296) ty my))) (num (4294967296) false (lb (4294967296) (gz (N (4294967296) (dn (num (4294967296) t m))) (N (4294967296) (dn (num (4294967296) ty my))))))))) + N (4294967296) (hz (num (4294967296) sy ly * N (4294967296) (dq (N (4294967296) (dn (num (4294967296) t m))) (num (4294967296) false (lb (4294967296) (gz (N (4294967296) (dn (num (4294967296) t m))) (N (4294967296) (dn (num (4294967296) ty my)))))))))))) (lb (4294967296) (hz (N (4294967296) (hz (num (4294967296) s l * N (4294967296) (dq (N (4294967296) (dn (num (4294967296) ty my))) (num (4294967296) false (lb (4294967296) (gz (N (4294967296) (dn (num (4294967296) t m))) (N (4294967296) (dn (num (4294967296) ty my))))))))) + N (4294967296) (hz (num (4294967296) sy ly * N (4294967296) (dq (N (4294967296) (dn (num (4294967296) t m))) (num (4294967296) false (lb (4294967296) (gz (N (4294967296) (dn (num (4294967296) t m))) (N (4294967296) (dn (num (4294967296) ty my)))))))))))) && cn (4294967296) false (lb (4294967296) (gz (N (4294967296) (hz (N (4294967296) (hz (num (4294967296) s l * N (4294967296) (dq (N (4294967296) (dn (num (4294967296) ty my))) (num (4294967296) false (lb (4294967296) (gz (N (4294967296) (dn (num (4294967296) t m))) (N (4294967296) (dn (num (4294967296) ty my))))))))) + N (4294967296) (hz (num (4294967296) sy ly * N (4294967296) (dq (N (4294967296) (dn (num (4294967296) t m))) (num (4294967296) false (lb (4294967296) (gz (N (4294967296) (dn (num (4294967296) t m))) (N (4294967296) (dn (num (4294967296) ty my)))))))))))) (num (4294967296) false (lb (4294967296) (gz (N (4294967296) (dn (num (4294967296) t m))) (N (4294967296) (dn (num (4294967296) ty my)))))))) then (bif cn (4294967296) (sg (hz (N (4294967296) (dq (N (4294967296) (dn (num (4294967296) t m))) (num (4294967296) false (lb (4294967296) (gz (N (4294967296) (dn (num (4294967296) t m))) (N (4294967296) (dn (num (4294967296) ty my))))))) * N (4294967296) (dq (N (4294967296) (dn (num (4294967296) ty my))) (num (4294967296) false (lb (4294967296) (gz (N (4294967296) (hz (N (4294967296) (hz (num (4294967296) s l * N (4294967296) (dq (N (4294967296) (dn (num (4294967296) ty my))) (num (4294967296) false (lb (4294967296) (gz (N (4294967296) (dn (num (4294967296) t m))) (N (4294967296) (dn (num (4294967296) ty my))))))))) + N (4294967296) (hz (num (4294967296) sy ly * N (4294967296) (dq (N (4294967296) (dn (num (4294967296) t m))) (num (4294967296) false (lb (4294967296) (gz (N (4294967296) (dn (num (4294967296) t m))) (N (4294967296) (dn (num (4294967296) ty my)))))))))))) (num (4294967296) false (lb (4294967296) (gz (N (4294967296) (dn (num (4294967296) t m))) (N (4294967296) (dn (num (4294967296) ty my))))))))))))) (lb (4294967296) (hz (N (4294967296) (dq (N (4294967296) (dn (num (4294967296) t m))) (num (4294967296) false (lb (4294967296) (gz (N (4294967296) (dn (num (4294967296) t m))) (N (4294967296) (dn (num (4294967296) ty my))))))) * N (4294967296) (dq (N (4294967296) (dn (num (4294967296) ty my))) (num (4294967296) false (lb (4294967296) (gz (N (4294967296) (hz (N (4294967296) (hz (num (4294967296) s l * N (4294967296) (dq (N (4294967296) (dn (num (4294967296) ty my))) (num (4294967296) false (lb (4294967296) (gz (N (4294967296) (dn (num (4294967296) t m))) (N (4294967296) (dn (num (4294967296) ty my))))))))) + N (4294967296) (hz (num (4294967296) sy ly * N (4294967296) (dq (N (4294967296) (dn (num (4294967296) t m))) (num (4294967296) false (lb (4294967296) (gz (N (4294967296) (dn (num (4294967296) t m))) (N (4294967296) (dn (num (4294967296) ty my)))))))))))) (num (4294967296) false (lb (4294967296) (gz (N (4294967296) (dn (num (4294967296) t m))) (N (4294967296) (dn (num (4294967296) ty my))))))))))))) then some (.val (.tup [.agg [.bool (sg (dq (N (4294967296) (hz (N (4294967296) (hz (num (4294967296) s l * N (4294967296) (dq (N (4294967296) (dn (num (4294967296) ty my))) (num (4294967296) false (lb (4294967296) (gz (N (4294967296) (dn (num (4294967296) t m))) (N (4294967296) (dn (num (4294967296) ty my))))))))) + N (4294967296) (hz (num (4294967296) sy ly * N (4294967296) (dq (N (4294967296) (dn (num (4294967296) t m))) (num (4294967296) false (lb (4294967296) (gz (N (4294967296) (dn (num (4294967296) t m))) (N (4294967296) (dn (num (4294967296) ty my)))))))))))) (num (4294967296) false (lb (4294967296) (gz (N (4294967296) (hz (N (4294967296) (hz (num (4294967296) s l * N (4294967296) (dq (N (4294967296) (dn (num (4294967296) ty my))) (num (4294967296) false (lb (4294967296) (gz (N (4294967296) (dn (num (4294967296) t m))) (N (4294967296) (dn (num (4294967296) ty my))))))))) + N (4294967296) (hz (num (4294967296) sy ly * N (4294967296) (dq (N (4294967296) (dn (num (4294967296) t m))) (num (4294967296) false (lb (4294967296) (gz (N (4294967296) (dn (num (4294967296) t m))) (N (4294967296) (dn (num (4294967296) ty my)))))))))))) (num (4294967296) false (lb (4294967296) (gz (N (4294967296) (dn (num (4294967296) t m))) (N (4294967296) (dn (num (4294967296) ty my))))))))))), .ints .u32 (lb (4294967296) (dq (N (4294967296) (hz (N (4294967296) (hz (num (4294967296) s l * N (4294967296) (dq (N (4294967296) (dn (num (4294967296) ty my))) (num (4294967296) false (lb (4294967296) (gz (N (4294967296) (dn (num (4294967296) t m))) (N (4294967296) (dn (num (4294967296) ty my))))))))) + N (4294967296) (hz (num (4294967296) sy ly * N (4294967296) (dq (N (4294967296) (dn (num (4294967296) t m))) (num (4294967296) false (lb (4294967296) (gz (N (4294967296) (dn (num (4294967296) t m))) (N (4294967296) (dn (num (4294967296) ty my)))))))))))) (num (4294967296) false (lb (4294967296) (gz (N (4294967296) (hz (N (4294967296) (hz (num (4294967296) s l * N (4294967296) (dq (N (4294967296) (dn (num (4294967296) ty my))) (num (4294967296) false (lb (4294967296) (gz (N (4294967296) (dn (num (4294967296) t m))) (N (4294967296) (dn (num (4294967296) ty my))))))))) + N (4294967296) (hz (num (4294967296) sy ly * N (4294967296) (dq (N (4294967296) (dn (num (4294967296) t m))) (num (4294967296) false (lb (4294967296) (gz (N (4294967296) (dn (num (4294967296) t m))) (N (4294967296) (dn (num (4294967296) ty my)))))))))))) (num (4294967296) false (lb (4294967296) (gz (N (4294967296) (dn (num (4294967296) t m))) (N (4294967296) (dn (num (4294967296) ty my))))))))))), .bool (sg (zd (N (4294967296) (hz (N (4294967296) (dq (N (4294967296) (dn (num (4294967296) t m))) (num (4294967296) false (lb (4294967296) (gz (N (4294967296) (dn (num (4294967296) t m))) (N (4294967296) (dn (num (4294967296) ty my))))))) * N (4294967296) (dq (N (4294967296) (dn (num (4294967296) ty my))) (num (4294967296) false (lb (4294967296) (gz (N (4294967296) (hz (N (4294967296) (hz (num (4294967296) s l * N (4294967296) (dq (N (4294967296) (dn (num (4294967296) ty my))) (num (4294967296) false (lb (4294967296) (gz (N (4294967296) (dn (num (4294967296) t m))) (N (4294967296) (dn (num (4294967296) ty my))))))))) + N (4294967296) (hz (num (4294967296) sy ly * N (4294967296) (dq (N (4294967296) (dn (num (4294967296) t m))) (num (4294967296) false (lb (4294967296) (gz (N (4294967296) (dn (num (4294967296) t m))) (N (4294967296) (dn (num (4294967296) ty my)))))))))))) (num (4294967296) false (lb (4294967296) (gz (N (4294967296) (dn (num (4294967296) t m))) (N (4294967296) (dn (num (4294967296) ty my))))))))))))))), .ints .u32 (lb (4294967296) (zd (N (4294967296) (hz (N (4294967296) (dq (N (4294967296) (dn (num (4294967296) t m))) (num (4294967296) false (lb (4294967296) (gz (N (4294967296) (dn (num (4294967296) t m))) (N (4294967296) (dn (num (4294967296) ty my))))))) * N (4294967296) (dq (N (4294967296) (dn (num (4294967296) ty my))) (num (4294967296) false (lb (4294967296) (gz (N (4294967296) (hz (N (4294967296) (hz (num (4294967296) s l * N (4294967296) (dq (N (4294967296) (dn (num (4294967296) ty my))) (num (4294967296) false (lb (4294967296) (gz (N (4294967296) (dn (num (4294967296) t m))) (N (4294967296) (dn (num (4294967296) ty my))))))))) + N (4294967296) (hz (num (4294967296) sy ly * N (4294967296) (dq (N (4294967296) (dn (num (4294967296) t m))) (num (4294967296) false (lb (4294967296) (gz (N (4294967296) (dn (num (4294967296) t m))) (N (4294967296) (dn (num (4294967296) ty my)))))))))))) (num (4294967296) false (lb (4294967296) (gz (N (4294967296) (dn (num (4294967296) t m))) (N (4294967296) (dn (num (4294967296) ty my)))))))))))))))], .int .i64 (0)])) else none) else none)) else none) else none) else none) else none)) else none)) else none) else none)) else none) else none) else none) else none) else none) := by kernel_rfl
end QAdd
end
end Go.Abs
end
section
/- Sums and products in ratio answer as the tables say. -/
namespace Go.Abs
open Go.Proofs Go.Dig
theorem dq_gz (a b : Int) (c : Nat) (hc : c ≠ 0) (x : Int) : dq x (gz b (c : Int)) = x / (Nat.gcd b.natAbs c : Nat) := by
  have hp : 0 < Nat.gcd b.natAbs c := Nat.gcd_pos_of_pos_right _ (by omega)
  unfold dq gz
  rw [show Int.gcd b (c : Int) = Nat.gcd b.natAbs c from rfl, if_neg (by omega), Int.fdiv_eq_ediv_of_nonneg _ (by omega)]
theorem meets_qadd : Meets Try.prog 29 ansQAdd := by
  refine meets_fn (orc_ok (l := QAdd.ans) ⟨meets_qden, meets_gcd, meets_over, meets_mul, meets_add, meets_made, trivial⟩) Try.f29 Try.func29 (by kernel_rfl) (fun args r h => ?_)
  unfold ansQAdd at h
  split at h
  · rename_i s l t m s' l' t' m'
    simp only [Option.some.injEq, Prod.mk.injEq] at h
    obtain ⟨h1, rfl⟩ := h
    rw [Bool.and_eq_true] at h1
    refine ⟨rfl, _, noTab_all, (QAdd.rest s l t m s' l' t' m').trans ?_⟩
    obtain ⟨q, hq, rfl, rfl, rfl, rfl⟩ := isQ_iff.1 h1.1
    obtain ⟨p, hp, rfl, rfl, rfl, rfl⟩ := isQ_iff.1 h1.2
    have fqn := (fitsQ_iff.1 hq).1
    have fqd := (fitsQ_iff.1 hq).2
    have fpn := (fitsQ_iff.1 hp).1
    have fpd := (fitsQ_iff.1 hp).2
    have fg := fits_gz fqd fpd
    have f3 := fits_dq (y := gz q.den p.den) fqd
    have f4 := fits_dq (y := gz q.den p.den) fpd
    simp only [cn_zd hq, cn_zd hp, cn_nm hq, cn_nm hp, num_zd, dn_den, cn_den hq, cn_den hp, num_lbW, N_eq, rq_Q, cnW_gz, numW_gz, cnW, fqn, fpn, fit_lim fg, fit_lim f3, fit_lim f4, f3, f4, decide_eq_true (small_hz _), fits_hz, Bool.and_self, cond_true]
    have hgz : gz (q.den : Int) p.den = ((Nat.gcd q.den p.den : Nat) : Int) := rfl
    rw [hgz] at fg f3 f4 ⊢
    obtain ⟨g, hg⟩ : ∃ g, g = Nat.gcd q.den p.den := ⟨_, rfl⟩
    have hgp : 0 < g := hg ▸ Nat.gcd_pos_of_pos_right _ (by have := p.den_nz; omega)
    have hE := eadd_eq q p
    rw [← hg] at fg f3 f4 hE ⊢
    have hdq : ∀ x : Int, dq x (g : Int) = x / (g : Int) := fun x => by unfold dq; rw [if_neg (by omega), Int.fdiv_eq_ediv_of_nonneg _ (by omega)]
    rw [hdq] at f3 f4
    rw [hdq, hdq]
    dsimp only at hE
    obtain ⟨n1, n2⟩ := add_parts q p g (q.num * (p.den / g : Nat) + p.num * (q.den / g : Nat)) hg rfl
    have n2' : ((q + p).den : Int) = ((q.den : Int) / g) * ((p.den : Int) / (Nat.gcd (q.num * ((p.den : Int) / g) + p.num * ((q.den : Int) / g)).natAbs g : Nat)) := by
      simp only [n2, Int.natCast_mul, Int.natCast_ediv]
    have hgc : ∀ T : Int, Int.gcd T (g : Int) = Nat.gcd T.natAbs g := fun _ => rfl
    rw [hgc, ← n2'] at hE
    rw [Int.natCast_ediv, Int.natCast_ediv] at n1
    have hgg : ∀ x : Int, dq x (gz (q.num * ((p.den : Int) / g) + p.num * ((q.den : Int) / g)) (g : Int)) = x / (Nat.gcd (q.num * ((p.den : Int) / g) + p.num * ((q.den : Int) / g)).natAbs g : Nat) := fun x => dq_gz 0 _ _ (by omega) x
    have hsm : ∀ T : Int, (gz T (g : Int)).natAbs < Lim := fun T => by
      refine Nat.lt_of_le_of_lt ?_ (small_of_fits fg)
      unfold gz
      rw [Int.natAbs_natCast]
      exact Nat.le_of_dvd (by omega) (Nat.gcd_dvd_right ..)
    rw [qadd_eq]
    generalize (q.den : Int) / g = B at *
    generalize (p.den : Int) / g = D at *
    by_cases a1 : he (q.num * D) = 0
    · refine (bF (eq_b a1)).trans ?_
      by_cases a2 : he (p.num * B) = 0
      · refine (bF (eq_b a2)).trans ?_
        rw [hz_he a1, hz_he a2]
        by_cases a3 : he (q.num * D + p.num * B) = 0
        · refine (bF (eq_b a3)).trans ?_
          rw [hz_he a3, hgg, hgg]
          have fk : fits ((p.den : Int) / (Nat.gcd (q.num * D + p.num * B).natAbs g : Nat)) = true := fits_le' fpd (Int.natAbs_ediv_le_natAbs ..)
          rw [fk, decide_eq_true (hsm _), fit_lim fk]
          refine (bT rfl).trans ((bT rfl).trans ?_)
          rw [← n2', ← n1]
          by_cases a4 : he ((q + p).den : Int) = 0
          · refine (bF (eq_b a4)).trans ((bT rfl).trans ?_)
            have : eadd q p = 0 := by
              rw [hE, he_zero.1 a1, he_zero.1 a2, he_zero.1 a3]
              exact bT (by rw [he_zero.1 a4]; rfl)
            rw [this, hz_he a4, sg_nn (zd_nn (Int.natCast_nonneg _))]
            rfl
          · refine (bT (ne_b a4)).trans ?_
            have : eadd q p = 11 := by
              rw [hE, he_zero.1 a1, he_zero.1 a2, he_zero.1 a3]
              refine bF ?_
              rw [show fits ((q + p).den : Int) = false from by rw [Bool.eq_false_iff, ne_eq, ← he_zero]; exact a4]
              rfl
            rw [this, (he_cases _).resolve_left a4]
            rfl
        · refine (bT (ne_b a3)).trans ?_
          have : eadd q p = 11 := by
            rw [hE, he_zero.1 a1, he_zero.1 a2, show fits (q.num * D + p.num * B) = false from by rw [Bool.eq_false_iff, ne_eq, ← he_zero]; exact a3]
            rfl
          rw [this, (he_cases _).resolve_left a3]
          rfl
      · refine (bT (ne_b a2)).trans ?_
        have : eadd q p = 11 := by
          rw [hE, he_zero.1 a1, show fits (p.num * B) = false from by rw [Bool.eq_false_iff, ne_eq, ← he_zero]; exact a2]
          rfl
        rw [this, (he_cases _).resolve_left a2]
        rfl
    · refine (bT (ne_b a1)).trans ?_
      have : eadd q p = 11 := by
        rw [hE, show fits (q.num * D) = false from by rw [Bool.eq_false_iff, ne_eq, ← he_zero]; exact a1]
        rfl
      rw [this, (he_cases _).resolve_left a1]
      rfl
  · cases h
end Go.Abs
end
section
/- States and rounds of ratio, its longer functions (2), as a program of this session printed them. -/
set_option maxRecDepth 10000
namespace Go.Abs
open Go.Proofs Go.Dig
noncomputable section
namespace QParse
abbrev ans : Ans := [(15, ansParse), (30, ansWhole), (47, ansFrom), (34, ansCmp), (22, ansGcd), (63, ansMade)]
abbrev orc : Orc := orcOf ans
noncomputable def L0 : Code := lp Try.f25 0
theorem isL0 : ∃ a, L0 = .loop a := ⟨_, rfl⟩
abbrev D0 : List Nat := [0, 2, 3, 4, 13, 14, 15]
abbrev st0 (s : ByteArray) (x0 : Int) (x1 : Int) : St := ⟨.str s :: tops 1 (.ptr 2 0 0 :: .int .i64 (0) :: .int .i64 x0 :: tops 8 (.str s :: .int .i64 (↑s.size : Int) :: .int .i64 x1 :: tops 71 ([]))), nos 2 (varE [(false, .bool false), (true, .ints .u32 []), (false, .bool false), (true, .ints .u32 [])] :: nos 84 ([]))⟩
theorem round0 (s : ByteArray) (x0 : Int) (x1 : Int) : goL T orc (noTab) D0 L0 (st0 s x0 x1) =
    (bif decide (x1 < (↑s.size : Int)) then (bif inB x1 s.size then (bif bt s x1 == 47 then (bif decide (x0 < 0) then some (.normal, st0 s x1 (IntKind.i64.wrap (x1 + 1))) else some (.normal, st0 s x0 (IntKind.i64.wrap (x1 + 1)))) else some (.normal, st0 s x0 (IntKind.i64.wrap (x1 + 1)))) else none) else some (.exit 0, st0 s x0 x1)) := by kernel_rfl
-- loop 0 ends exit0 st0 s x0 x1
theorem rest (s : ByteArray) (x2 : Int) (x3 : Int) : runT T orc (tabOf T orc [(3, 140133836606581558694960775030421191700613803428593887861770753779035683561919948981276573565390563503854, .exit 0, st0 s x2 x3)]) Try.f25 [.str s] =
    (bif cdec (Ends T orc L0 D0 (st0 s (-1) (0)) (.exit 0) (st0 s x2 x3)) then (bif decide (x2 < 0) then (bif decide (s.size ≤ 10000) then some (.val (.tup [.agg [.bool (sg (rv s)), .ints .u32 (lb (4294967296) (rv s)), .bool false, .ints .u32 []], .int .i64 (re s)])) else none) else (bif decide (0 ≤ x2) && decide (x2 ≤ (↑s.size : Int)) then (bif decide ((s.extract 0 x2.toNat).size ≤ 10000) then (bif decide (0 ≤ IntKind.i64.wrap (x2 + 1)) && decide (IntKind.i64.wrap (x2 + 1) ≤ (↑s.size : Int)) then (bif decide ((s.extract (IntKind.i64.wrap (x2 + 1)).toNat s.size).size ≤ 10000) then (bif re (s.extract 0 x2.toNat) == 10 then some (.val (.tup [.agg [.bool false, .ints .u32 [], .bool false, .ints .u32 []], .int .i64 (10)])) else (bif re (s.extract (IntKind.i64.wrap (x2 + 1)).toNat s.size) == 10 then some (.val (.tup [.agg [.bool false, .ints .u32 [], .bool false, .ints .u32 []], .int .i64 (10)])) else (bif re (s.extract 0 x2.toNat) != 0 then some (.val (.tup [.agg [.bool false, .ints .u32 [], .bool false, .ints .u32 []], .int .i64 (11)])) else (bif re (s.extract (IntKind.i64.wrap (x2 + 1)).toNat s.size) != 0 then some (.val (.tup [.agg [.bool false, .ints .u32 [], .bool false, .ints .u32 []], .int .i64 (11)])) else (bif cn (4294967296) (sg (rv (s.extract (IntKind.i64.wrap (x2 + 1)).toNat s.size))) (lb (4294967296) (rv (s.extract (IntKind.i64.wrap (x2 + 1)).toNat s.size))) && true then (bif decide (cmpZ (N (4294967296) (rv (s.extract (IntKind.i64.wrap (x2 + 1)).toNat s.size))) (num (4294967296) false (lb (4294967296) (1))) ≤ 0) then some (.val (.tup [.agg [.bool false, .ints .u32 [], .bool false, .ints .u32 []], .int .i64 (10)])) else (bif cn (4294967296) (sg (rv (s.extract 0 x2.toNat))) (lb (4294967296) (rv (s.extract 0 x2.toNat))) && cn (4294967296) (sg (rv (s.extract (IntKind.i64.wrap (x2 + 1)).toNat s.size))) (lb (4294967296) (rv (s.extract (IntKind.i64.wrap (x2 + 1)).toNat s.size))) then (bif cn (4294967296) false (lb (4294967296) (gz (N (4294967296) (rv (s.extract 0 x2.toNat))) (N (4294967296) (rv (s.extract (IntKind.i64.wrap (x2 + 1)).toNat s.size))))) && true then (bif cmpZ (num (4294967296) false (lb (4294967296) (gz (N (4294967296) (rv (s.extract 0 x2.toNat))) (N (4294967296) (rv (s.extract (IntKind.i64.wrap (x2 + 1)).toNat s.size)))))) (num (4294967296) false (lb (4294967296) (1))) != 0 then some (.val (.tup [.agg [.bool false, .ints .u32 [], .bool false, .ints .u32 []], .int .i64 (10)])) else (bif cn (4294967296) (sg (rv (s.extract (IntKind.i64.wrap (x2 + 1)).toNat s.size))) (lb (4294967296) (rv (s.extract (IntKind.i64.wrap (x2 + 1)).toNat s.size))) then some (.val (.tup [.agg [.bool (sg (rv (s.extract 0 x2.toNat))), .ints .u32 (lb (4294967296) (rv (s.extract 0 x2.toNat))), .bool (sg (zd (N (4294967296) (rv (s.extract (IntKind.i64.wrap (x2 + 1)).toNat s.size))))), .ints .u32 (lb (4294967296) (zd (N (4294967296) (rv (s.extract (IntKind.i64.wrap (x2 + 1)).toNat s.size)))))], .int .i64 (0)])) else none)) else none) else none)) else none))))) else none) else none) else none) else none)) else none) := by kernel_rfl
end QParse
end
end Go.Abs
end
section
/- Sums of lists and the reading of texts in ratio. -/
namespace Go.Abs
open Go.Proofs Go.Dig
theorem rowIsQ_iff {c : List AV} : rowIsQ c = true ↔ ∃ q : Rat, fitsQ q = true ∧ c = [.bool (sg q.num), .ints .u32 (lb 4294967296 q.num), .bool false, .ints .u32 (lb 4294967296 (zd q.den))] := by
  constructor
  · intro h
    unfold rowIsQ at h
    split at h
    · obtain ⟨q, hq, rfl, rfl, rfl, rfl⟩ := isQ_iff.1 h
      exact ⟨q, hq, rfl⟩
    · cases h
  · rintro ⟨q, hq, rfl⟩
    show isQ _ _ _ _ = true
    rw [isQ_Q]; exact hq
abbrev cQ (q : Rat) : List AV := [.bool (sg q.num), .ints .u32 (lb 4294967296 q.num), .bool false, .ints .u32 (lb 4294967296 (zd q.den))]
theorem rowQ_Q (q : Rat) : rowQ (cQ q) = q := rq_Q q
theorem rows_Q : ∀ {r : List (List AV)}, r.all rowIsQ = true → ∃ l : List Rat, r = l.map cQ ∧ ∀ q ∈ l, fitsQ q = true
  | [], _ => ⟨[], rfl, fun q h => by cases h⟩
  | c :: r, h => by
    rw [List.all_cons, Bool.and_eq_true] at h
    obtain ⟨l, rfl, hl⟩ := rows_Q h.2
    obtain ⟨q, hq, rfl⟩ := rowIsQ_iff.1 h.1
    exact ⟨q :: l, rfl, fun p hp => by
      rcases List.mem_cons.1 hp with rfl | hp
      · exact hq
      · exact hl p hp⟩
theorem map_rowQ (l : List Rat) : (l.map cQ).map rowQ = l := by rw [List.map_map]; exact (List.map_congr_left (fun q _ => rowQ_Q q)).trans (List.map_id l)
theorem tw_spec (p : Int → Bool) : ∀ (l : List Int), (l.takeWhile p).length ≤ l.length ∧ ((l.takeWhile p).length < l.length → p (l.getD (l.takeWhile p).length 0) = false) ∧ ∀ j, j < (l.takeWhile p).length → p (l.getD j 0) = true
  | [] => ⟨Nat.le_refl _, fun h => absurd h (Nat.lt_irrefl _), fun j h => absurd h (Nat.not_lt_zero _)⟩
  | a :: l => by
    obtain ⟨h1, h2, h3⟩ := tw_spec p l
    cases hp : p a with
    | true =>
      rw [List.takeWhile_cons_of_pos hp]
      refine ⟨Nat.succ_le_succ h1, fun h => h2 (Nat.lt_of_succ_lt_succ h), fun j hj => ?_⟩
      cases j with
      | zero => exact hp
      | succ j => exact h3 j (Nat.lt_of_succ_lt_succ hj)
    | false =>
      rw [List.takeWhile_cons_of_neg (by rw [hp]; decide)]
      exact ⟨Nat.zero_le _, fun _ => hp, fun j h => absurd h (Nat.not_lt_zero _)⟩
theorem bytesOf_size (s : ByteArray) : (bytesOf s).length = s.size := by unfold bytesOf; rw [List.length_map]; rfl
theorem ct_le (s : ByteArray) : ct s ≤ s.size := by have := (tw_spec (fun c => !(c == 47)) (bytesOf s)).1; rw [bytesOf_size] at this; exact this
theorem ct_at {s : ByteArray} (h : ct s < s.size) : bt s (ct s : Nat) = 47 := by
  have := (tw_spec (fun c => !(c == 47)) (bytesOf s)).2.1 (by rw [bytesOf_size]; exact h)
  rw [Bool.not_eq_false', beq_iff_eq] at this
  rw [bt_nat]; exact this
theorem ct_before {s : ByteArray} {j : Nat} (h : j < ct s) : bt s (j : Nat) ≠ 47 := by
  have := (tw_spec (fun c => !(c == 47)) (bytesOf s)).2.2 j h
  rw [Bool.not_eq_true', beq_eq_false_iff_ne] at this
  rw [bt_nat]; exact this
/-- What a stroke's place is, as far as it was looked for. -/
def seek (s : ByteArray) (i : Nat) : Int := if ct s < i then ct s else -1
namespace QParse
theorem loop (s : ByteArray) (hs : s.size ≤ 10000) : ∃ e S1, Ends T orc L0 D0 (st0 s (-1) 0) e S1 ∧ e = .exit 0 ∧ ∃ x, S1 = st0 s (seek s s.size) x := by
  refine loop_inv1 (fun (i : Nat) => st0 s (seek s i) i) (fun i => i ≤ s.size) (fun i => s.size - i) (fun e S1 => e = .exit 0 ∧ ∃ x, S1 = st0 s (seek s s.size) x) isL0 ?_ 0 (Nat.zero_le _)
  intro i hi
  refine ⟨noTab, noTab_all, lands_of (round0 ..) ?_⟩
  by_cases hlt : i < s.size
  · have hb : inB (i : Int) s.size = true := by rw [inB_iff]; omega
    rw [hb, decide_eq_true (show (i : Int) < s.size by omega)]
    simp only [cond_true, wi_succ (show i < 4611686018427387904 by omega)]
    by_cases hc : bt s i = 47
    · have hle : ct s ≤ i := Nat.not_lt.1 (fun h => ct_before h hc)
      rw [show (bt s i == 47) = true from by rw [beq_iff_eq]; exact hc, cond_true]
      have e1 : seek s (i + 1) = ct s := by unfold seek; rw [if_pos (by omega)]
      by_cases h0 : ct s < i
      · have e0 : seek s i = ct s := by unfold seek; rw [if_pos h0]
        rw [decide_eq_false (by rw [e0]; omega), cond_false]
        simp only [lands_some, Turns1]
        exact ⟨i + 1, by rw [e1, e0], by omega, by omega⟩
      · have e0 : seek s i = -1 := by unfold seek; rw [if_neg h0]
        rw [decide_eq_true (by rw [e0]; omega), cond_true]
        simp only [lands_some, Turns1]
        exact ⟨i + 1, by rw [e1, show ct s = i by omega], by omega, by omega⟩
    · rw [show (bt s i == 47) = false from by rw [beq_eq_false_iff_ne]; exact hc, cond_false]
      have hne : ct s ≠ i := fun h => hc (by rw [← h]; exact ct_at (by omega))
      have e1 : seek s (i + 1) = seek s i := by unfold seek; (repeat' split) <;> omega
      simp only [lands_some, Turns1]
      exact ⟨i + 1, by rw [e1], by omega, by omega⟩
  · obtain rfl : i = s.size := by omega
    rw [decide_eq_false (by omega), cond_false]
    simp only [lands_some, Turns1]
    exact ⟨trivial, _, rfl⟩
end QParse
end Go.Abs
end
section
/- States and rounds of the reference of ratio, as a program of this session printed them. -/
set_option maxRecDepth 10000
namespace Go.Abs
open Go.Proofs Go.Dig
noncomputable section
namespace MOne
abbrev ans : Ans := [(92, anrFrom)]
abbrev orc : Orc := orcOf ans
theorem rest : runT T orc (noTab) Try.f70 [] =
    some (.val (.agg [.bool false, .ints .i64 (lb (10) (1))])) := by kernel_rfl
end MOne
namespace MParse
abbrev ans : Ans := [(16, anrParse), (70, ansmOne), (69, anrCmp), (71, anrGcd)]
abbrev orc : Orc := orcOf ans
noncomputable def L0 : Code := lp Try.f26 0
theorem isL0 : ∃ a, L0 = .loop a := ⟨_, rfl⟩
abbrev D0 : List Nat := [0, 2, 3, 4]
abbrev st0 (s : ByteArray) (x0 : Int) : St := ⟨.str s :: tops 1 (.ptr 2 0 0 :: .int .i64 (0) :: .int .i64 x0 :: tops 66 ([])), nos 2 (varE [(false, .bool false), (true, .ints .i64 []), (false, .bool false), (true, .ints .i64 [])] :: nos 68 ([]))⟩
theorem round0 (s : ByteArray) (x0 : Int) : goL T orc (noTab) D0 L0 (st0 s x0) =
    (bif decide (x0 < (↑s.size : Int)) then (bif inB x0 s.size then (bif bt s x0 != 47 then some (.normal, st0 s (IntKind.i64.wrap (x0 + 1))) else some (.exit 0, st0 s x0)) else none) else some (.exit 0, st0 s x0)) := by kernel_rfl
-- loop 0 ends exit0 st0 s x0
theorem rest (s : ByteArray) (x1 : Int) : runT T orc (tabOf T orc [(2, 7596670504379226840294537141090342652073400789044068403014916331572478854264230178542, .exit 0, st0 s x1)]) Try.f26 [.str s] =
    (bif cdec (Ends T orc L0 D0 (st0 s (0)) (.exit 0) (st0 s x1)) then (bif decide (0 ≤ x1) && decide (x1 ≤ (↑s.size : Int)) then (bif decide ((s.extract 0 x1.toNat).size ≤ 10000) then (bif x1 == (↑s.size : Int) then some (.val (.tup [.agg [.bool (sg (rv (s.extract 0 x1.toNat))), .ints .i64 (lb (10) (rv (s.extract 0 x1.toNat))), .bool false, .ints .i64 []], .int .i64 (re (s.extract 0 x1.toNat))])) else (bif decide (0 ≤ IntKind.i64.wrap (x1 + 1)) && decide (IntKind.i64.wrap (x1 + 1) ≤ (↑s.size : Int)) then (bif decide ((s.extract (IntKind.i64.wrap (x1 + 1)).toNat s.size).size ≤ 10000) then (bif re (s.extract 0 x1.toNat) == 10 then some (.val (.tup [.agg [.bool false, .ints .i64 [], .bool false, .ints .i64 []], .int .i64 (10)])) else (bif re (s.extract (IntKind.i64.wrap (x1 + 1)).toNat s.size) == 10 then some (.val (.tup [.agg [.bool false, .ints .i64 [], .bool false, .ints .i64 []], .int .i64 (10)])) else (bif IntKind.i64.wrap (re (s.extract 0 x1.toNat) + re (s.extract (IntKind.i64.wrap (x1 + 1)).toNat s.size)) != 0 then some (.val (.tup [.agg [.bool false, .ints .i64 [], .bool false, .ints .i64 []], .int .i64 (11)])) else (bif cn (10) (sg (rv (s.extract (IntKind.i64.wrap (x1 + 1)).toNat s.size))) (lb (10) (rv (s.extract (IntKind.i64.wrap (x1 + 1)).toNat s.size))) && true then (bif decide (cmpZ (N (10) (rv (s.extract (IntKind.i64.wrap (x1 + 1)).toNat s.size))) (num (10) false (lb (10) (1))) ≤ 0) then some (.val (.tup [.agg [.bool false, .ints .i64 [], .bool false, .ints .i64 []], .int .i64 (10)])) else (bif cn (10) (sg (rv (s.extract 0 x1.toNat))) (lb (10) (rv (s.extract 0 x1.toNat))) && cn (10) (sg (rv (s.extract (IntKind.i64.wrap (x1 + 1)).toNat s.size))) (lb (10) (rv (s.extract (IntKind.i64.wrap (x1 + 1)).toNat s.size))) then (bif cn (10) false (lb (10) (gz (N (10) (rv (s.extract 0 x1.toNat))) (N (10) (rv (s.extract (IntKind.i64.wrap (x1 + 1)).toNat s.size))))) && true then (bif cmpZ (num (10) false (lb (10) (gz (N (10) (rv (s.extract 0 x1.toNat))) (N (10) (rv (s.extract (IntKind.i64.wrap (x1 + 1)).toNat s.size)))))) (num (10) false (lb (10) (1))) != 0 then some (.val (.tup [.agg [.bool false, .ints .i64 [], .bool false, .ints .i64 []], .int .i64 (10)])) else some (.val (.tup [.agg [.bool (sg (rv (s.extract 0 x1.toNat))), .ints .i64 (lb (10) (rv (s.extract 0 x1.toNat))), .bool (sg (rv (s.extract (IntKind.i64.wrap (x1 + 1)).toNat s.size))), .ints .i64 (lb (10) (rv (s.extract (IntKind.i64.wrap (x1 + 1)).toNat s.size)))], .int .i64 (0)]))) else none) else none)) else none)))) else none) else none)) else none) else none) else none) := by kernel_rfl
end MParse
end
end Go.Abs
end
section
/- The reading of texts in ratio and in its reference. -/
namespace Go.Abs
open Go.Proofs Go.Dig
/-- A text's two parts. -/
abbrev pa (s : ByteArray) : ByteArray := s.extract 0 (ct s)
abbrev pb (s : ByteArray) : ByteArray := s.extract (ct s + 1) s.size
theorem qe_none {s : ByteArray} (h : ¬ ct s < s.size) : qe s = re s := by rw [qe_eq, decide_eq_false h, cond_false]
theorem qv_none {s : ByteArray} (h : ¬ ct s < s.size) : qv s = ((rv s : Int) : Rat) := by rw [qv_eq, decide_eq_false h, cond_false]
theorem qe_some {s : ByteArray} (h : ct s < s.size) : qe s = bif re (pa s) == 10 || re (pb s) == 10 then 10 else bif !(re (pa s) == 0) || !(re (pb s) == 0) then 11 else bif decide (rv (pb s) ≤ 1) || !(gz (rv (pa s)) (rv (pb s)) == 1) then 10 else 0 := by rw [qe_eq, decide_eq_true h, cond_true]
theorem qv_err {s : ByteArray} (h : ct s < s.size) (he : qe s ≠ 0) : qv s = 0 := by rw [qv_eq, decide_eq_true h, cond_true, show (qe s == 0) = false from by rw [beq_eq_false_iff_ne]; exact he, cond_false]
theorem qv_ok {s : ByteArray} (h : ct s < s.size) (he : qe s = 0) : qv s = ofQ (rv (pa s)) (rv (pb s)) := by rw [qv_eq, decide_eq_true h, cond_true, he, show ((0 : Int) == 0) = true from rfl, cond_true, ofQ_eq]
theorem ofQ_low {a b : Int} (hb : 1 < b) (hg : gz a b = 1) : (ofQ a b).num = a ∧ ((ofQ a b).den : Int) = b := by
  have h1 : Int.gcd a b = 1 := by unfold gz at hg; omega
  rw [ofQ_num (by omega), ofQ_den (by omega), h1]
  exact ⟨Int.ediv_one a, Int.ediv_one b⟩
theorem re_cases (s : ByteArray) : re s = 0 ∨ re s = 10 ∨ re s = 11 := by
  unfold re
  cases form (bytesOf s) with
  | true => rcases he_cases (tval (bytesOf s)) with h | h <;> rw [cond_true, h] <;> simp
  | false => rw [cond_false]; simp
/-- The ways that a text with a stroke may go. -/
theorem qe_ways {s : ByteArray} (h : ct s < s.size) :
    (re (pa s) = 10 ∧ qe s = 10) ∨ (re (pa s) ≠ 10 ∧ re (pb s) = 10 ∧ qe s = 10) ∨ (re (pa s) = 11 ∧ re (pb s) ≠ 10 ∧ qe s = 11) ∨ (re (pa s) = 0 ∧ re (pb s) = 11 ∧ qe s = 11) ∨
    (re (pa s) = 0 ∧ re (pb s) = 0 ∧ rv (pb s) ≤ 1 ∧ qe s = 10) ∨ (re (pa s) = 0 ∧ re (pb s) = 0 ∧ 1 < rv (pb s) ∧ gz (rv (pa s)) (rv (pb s)) ≠ 1 ∧ qe s = 10) ∨ (re (pa s) = 0 ∧ re (pb s) = 0 ∧ 1 < rv (pb s) ∧ gz (rv (pa s)) (rv (pb s)) = 1 ∧ qe s = 0) := by
  rw [qe_some h]
  have b1 : ∀ x y : Int, x = y → (x == y) = true := fun x y h => by rw [beq_iff_eq]; exact h
  have b0 : ∀ x y : Int, x ≠ y → (x == y) = false := fun x y h => by rw [beq_eq_false_iff_ne]; exact h
  rcases re_cases (pa s) with h1 | h1 | h1 <;> rcases re_cases (pb s) with h2 | h2 | h2 <;> rw [h1, h2] <;> simp <;> try trivial
  by_cases h3 : rv (pb s) ≤ 1
  · rw [decide_eq_true h3]; simp; omega
  · rw [decide_eq_false h3]
    by_cases h4 : gz (rv (pa s)) (rv (pb s)) = 1
    · rw [b1 _ _ h4]; simp; omega
    · rw [b0 _ _ h4]; simp; omega
theorem extract_le (s : ByteArray) (a b : Nat) : (s.extract a b).size ≤ s.size := by rw [ByteArray.size_extract]; omega
theorem Q_of {q : Rat} {n d : Int} (h1 : q.num = n) (h2 : (q.den : Int) = d) : Q q = .agg [.bool (sg n), .ints .u32 (lb 4294967296 n), .bool false, .ints .u32 (lb 4294967296 (zd d))] := by subst h1; subst h2; rfl
theorem Md_of {q : Rat} {n d : Int} (h1 : q.num = n) : Md q d = .agg [.bool (sg n), .ints .i64 (lb 10 n), .bool false, .ints .i64 (lb 10 d)] := by subst h1; rfl
theorem n1W : num 4294967296 false (lb 4294967296 1) = 1 := num_nnW (by decide)
theorem n110 : num 10 false (lb 10 1) = 1 := num_nn10 (by decide)
theorem cmpZ_le0 (x : Int) : decide (cmpZ x 1 ≤ 0) = decide (x ≤ 1) := by
  rw [decide_eq_decide]; unfold cmpZ; (repeat' split) <;> omega
theorem cmpZ_ne0 (x : Int) : (cmpZ x 1 != 0) = !(x == 1) := by
  rw [Bool.eq_iff_iff, bne_iff_ne, Bool.not_eq_true', beq_eq_false_iff_ne]; unfold cmpZ; (repeat' split) <;> omega
theorem meets_qparse : Meets Try.prog 25 ansQParse := by
  refine meets_fn (orc_ok (l := QParse.ans) ⟨meets_parse, meets_whole, meets_from, meets_cmp, meets_gcd, meets_made, trivial⟩) Try.f25 Try.func25 (by kernel_rfl) (fun args r h => ?_)
  unfold ansQParse at h
  split at h
  · rename_i s
    simp only [Option.some.injEq, Prod.mk.injEq] at h
    obtain ⟨h1, rfl⟩ := h
    rw [decide_eq_true_eq] at h1
    obtain ⟨e1, S1, hE1, rfl, x, rfl⟩ := QParse.loop s h1
    refine ⟨rfl, _, tabOf_all _, (QParse.rest s (seek s s.size) x).trans ((bT (cdec_true hE1)).trans ?_)⟩
    by_cases hc : ct s < s.size
    · have hk : seek s s.size = (ct s : Int) := by unfold seek; rw [if_pos hc]
      rw [hk, wi_succ (show ct s < 4611686018427387904 by omega), Int.toNat_natCast, Int.toNat_natCast]
      have x1 := extract_le s 0 (ct s)
      have x2 := extract_le s (ct s + 1) s.size
      have g1 : (gz (rv (pa s)) (rv (pb s))).natAbs < Lim := small_of_fits (fits_gz (fits_rv _) (fits_rv _))
      refine (bF (decide_eq_false (by omega))).trans ((bT (by rw [decide_eq_true (show (0 : Int) ≤ (ct s : Int) by omega), decide_eq_true (show (ct s : Int) ≤ (s.size : Int) by omega)]; rfl)).trans ((bT (decide_eq_true (by omega))).trans ((bT (by rw [decide_eq_true (show (0 : Int) ≤ ((ct s + 1 : Nat) : Int) by omega), decide_eq_true (show ((ct s + 1 : Nat) : Int) ≤ (s.size : Int) by omega)]; rfl)).trans ((bT (decide_eq_true (by omega))).trans ?_))))
      simp only [N_eq, cnW, cnW_gz, numW_gz, n1W, decide_eq_true (small_rv _), decide_eq_true g1, Bool.and_self, cond_true, cmpZ_le0, cmpZ_ne0]
      show (bif re (pa s) == 10 then _ else bif re (pb s) == 10 then _ else bif re (pa s) != 0 then _ else bif re (pb s) != 0 then _ else bif decide (rv (pb s) ≤ 1) then _ else bif !(gz (rv (pa s)) (rv (pb s)) == 1) then _ else _) = _
      rcases qe_ways hc with ⟨a1, q⟩ | ⟨a1, a2, q⟩ | ⟨a1, a2, q⟩ | ⟨a1, a2, q⟩ | ⟨a1, a2, a3, q⟩ | ⟨a1, a2, a3, a4, q⟩ | ⟨a1, a2, a3, a4, q⟩
      · rw [qv_err hc (by rw [q]; decide), q, a1]; rfl
      · rw [qv_err hc (by rw [q]; decide), q, a2]; exact (bF (by rw [beq_eq_false_iff_ne]; exact a1)).trans rfl
      · rw [qv_err hc (by rw [q]; decide), q, a1]; exact (bF rfl).trans ((bF (by rw [beq_eq_false_iff_ne]; exact a2)).trans rfl)
      · rw [qv_err hc (by rw [q]; decide), q, a1, a2]; rfl
      · rw [qv_err hc (by rw [q]; decide), q, a1, a2, decide_eq_true a3]; rfl
      · rw [qv_err hc (by rw [q]; decide), q, a1, a2, decide_eq_false (show ¬ rv (pb s) ≤ 1 by omega), show (gz (rv (pa s)) (rv (pb s)) == 1) = false from by rw [beq_eq_false_iff_ne]; exact a4]; rfl
      · obtain ⟨w1, w2⟩ := ofQ_low a3 a4
        rw [qv_ok hc q, q, a1, a2, Q_of w1 w2, decide_eq_false (show ¬ rv (pb s) ≤ 1 by omega), a4, sg_nn (zd_nn (show 0 ≤ rv (pb s) by omega))]; rfl
    · have hk : seek s s.size = -1 := by unfold seek; rw [if_neg hc]
      rw [hk, qe_none hc, qv_none hc]
      exact (bT rfl).trans (bT (decide_eq_true h1))
  · cases h
end Go.Abs
end
section
/- The reference of ratio: its functions answer as the tables say. -/
namespace Go.Abs
open Go.Proofs Go.Dig
theorem meets_mone : Meets Try.prog 70 ansmOne := by
  refine meets_fn (orc_ok (l := MOne.ans) ⟨meets_rfrom, trivial⟩) Try.f70 Try.func70 (by kernel_rfl) (fun args r h => ?_)
  unfold ansmOne at h
  split at h
  · simp only [Option.some.injEq, Prod.mk.injEq] at h
    obtain ⟨_, rfl⟩ := h
    exact ⟨rfl, _, noTab_all, MOne.rest⟩
  · cases h
end Go.Abs
end
section
/- The reference of ratio: lists and texts. -/
namespace Go.Abs
open Go.Proofs Go.Dig
namespace MParse
theorem loop (s : ByteArray) (hs : s.size ≤ 10000) : ∃ e S1, Ends T orc L0 D0 (st0 s 0) e S1 ∧ e = .exit 0 ∧ S1 = st0 s (ct s : Nat) := by
  refine loop_inv1 (fun (i : Nat) => st0 s i) (fun i => i ≤ ct s) (fun i => ct s - i) (fun e S1 => e = .exit 0 ∧ S1 = st0 s (ct s : Nat)) isL0 ?_ 0 (Nat.zero_le _)
  intro i hi
  refine ⟨noTab, noTab_all, lands_of (round0 ..) ?_⟩
  have hle := ct_le s
  by_cases hlt : i < s.size
  · have hb : inB (i : Int) s.size = true := by rw [inB_iff]; omega
    rw [hb, decide_eq_true (show (i : Int) < s.size by omega)]
    simp only [cond_true, wi_succ (show i < 4611686018427387904 by omega)]
    by_cases hc : bt s i = 47
    · rw [show (bt s i != 47) = false from by rw [hc]; rfl, cond_false]
      have h1 : i = ct s := Nat.le_antisymm hi (Nat.not_lt.1 (fun h => ct_before h hc))
      simp only [lands_some, Turns1]
      exact ⟨trivial, by rw [h1]⟩
    · rw [ne_b hc, cond_true]
      have hne : i ≠ ct s := fun h => hc (by rw [h]; exact ct_at (by omega))
      simp only [lands_some, Turns1]
      exact ⟨i + 1, rfl, by omega, by omega⟩
  · rw [decide_eq_false (by omega), cond_false]
    simp only [lands_some, Turns1]
    exact ⟨trivial, by rw [show i = ct s by omega]⟩
end MParse
theorem meets_mparse : Meets Try.prog 26 ansmParse := by
  refine meets_fn (orc_ok (l := MParse.ans) ⟨meets_rparse, meets_mone, meets_rcmp, meets_rgcd, trivial⟩) Try.f26 Try.func26 (by kernel_rfl) (fun args r h => ?_)
  unfold ansmParse at h
  split at h
  · rename_i s
    simp only [Option.some.injEq, Prod.mk.injEq] at h
    obtain ⟨h1, rfl⟩ := h
    rw [decide_eq_true_eq] at h1
    obtain ⟨e1, S1, hE1, rfl, rfl⟩ := MParse.loop s h1
    refine ⟨rfl, _, tabOf_all _, (MParse.rest s (ct s : Nat)).trans ((bT (cdec_true hE1)).trans ?_)⟩
    have hle := ct_le s
    have x1 := extract_le s 0 (ct s)
    have x2 := extract_le s (ct s + 1) s.size
    rw [Int.toNat_natCast]
    refine (bT (by rw [decide_eq_true (show (0 : Int) ≤ (ct s : Int) by omega), decide_eq_true (show (ct s : Int) ≤ (s.size : Int) by omega)]; rfl)).trans ((bT (decide_eq_true (by omega))).trans ?_)
    by_cases hc : ct s < s.size
    · have g1 : (gz (rv (pa s)) (rv (pb s))).natAbs < Lim := small_of_fits (fits_gz (fits_rv _) (fits_rv _))
      refine (bF (by rw [beq_eq_false_iff_ne]; omega)).trans ?_
      rw [wi_succ (show ct s < 4611686018427387904 by omega), Int.toNat_natCast]
      refine (bT (by rw [decide_eq_true (show (0 : Int) ≤ ((ct s + 1 : Nat) : Int) by omega), decide_eq_true (show ((ct s + 1 : Nat) : Int) ≤ (s.size : Int) by omega)]; rfl)).trans ((bT (decide_eq_true (by omega))).trans ?_)
      simp only [N10_eq, cn10, cn10_gz, num10_gz, n110, decide_eq_true (small_rv _), decide_eq_true g1, Bool.and_self, cond_true, cmpZ_le0, cmpZ_ne0]
      show (bif re (pa s) == 10 then _ else bif re (pb s) == 10 then _ else bif IntKind.i64.wrap (re (pa s) + re (pb s)) != 0 then _ else bif decide (rv (pb s) ≤ 1) then _ else bif !(gz (rv (pa s)) (rv (pb s)) == 1) then _ else _) = _
      rcases qe_ways hc with ⟨a1, q⟩ | ⟨a1, a2, q⟩ | ⟨a1, a2, q⟩ | ⟨a1, a2, q⟩ | ⟨a1, a2, a3, q⟩ | ⟨a1, a2, a3, a4, q⟩ | ⟨a1, a2, a3, a4, q⟩
      · rw [qv_err hc (by rw [q]; decide), q, a1]; rfl
      · rw [qv_err hc (by rw [q]; decide), q, a2]; exact (bF (by rw [beq_eq_false_iff_ne]; exact a1)).trans rfl
      · rw [qv_err hc (by rw [q]; decide), q, a1]
        refine (bF rfl).trans ((bF (by rw [beq_eq_false_iff_ne]; exact a2)).trans ((bT ?_).trans rfl))
        rcases re_cases (pb s) with h | h | h
        · rw [h]; rfl
        · exact absurd h a2
        · rw [h]; rfl
      · rw [qv_err hc (by rw [q]; decide), q, a1, a2]; rfl
      · rw [qv_err hc (by rw [q]; decide), q, a1, a2, decide_eq_true a3]; rfl
      · rw [qv_err hc (by rw [q]; decide), q, a1, a2, decide_eq_false (show ¬ rv (pb s) ≤ 1 by omega), show (gz (rv (pa s)) (rv (pb s)) == 1) = false from by rw [beq_eq_false_iff_ne]; exact a4]; rfl
      · obtain ⟨w1, w2⟩ := ofQ_low a3 a4
        have hz : zd (rv (pb s)) = rv (pb s) := by unfold zd; rw [show (rv (pb s) == 1) = false from by rw [beq_eq_false_iff_ne]; omega, cond_false]
        rw [qv_ok hc q, q, a1, a2, w2, hz, Md_of w1, decide_eq_false (show ¬ rv (pb s) ≤ 1 by omega), a4, sg_nn (show 0 ≤ rv (pb s) by omega)]; rfl
    · have hk : ct s = s.size := by omega
      rw [hk, qe_none hc, qv_none hc, ByteArray.extract_zero_size]
      refine (bT (by rw [beq_iff_eq])).trans rfl
  · cases h
end Go.Abs
end
section
/- States and rounds of the statements of layer 2, as a program of this session printed them. -/
set_option maxRecDepth 10000
namespace Go.Abs
open Go.Proofs Go.Dig
noncomputable section
namespace KAwake
abbrev ans : Ans := [(47, ansFrom), (17, ansOf), (29, ansQAdd), (30, ansWhole), (27, ansQText), (32, ansFloor), (24, ansText)]
abbrev orc : Orc := orcOf ans
theorem rest : runT T orc (noTab) Try.f14 [] =
    (bif isQ (sg (ofQ (num (4294967296) false (lb (4294967296) (6))) (-4)).num) (lb (4294967296) (ofQ (num (4294967296) false (lb (4294967296) (6))) (-4)).num) false (lb (4294967296) (zd (↑(ofQ (num (4294967296) false (lb (4294967296) (6))) (-4)).den : Int))) && isQ false (lb (4294967296) (2)) false [] then (bif eadd (rq (sg (ofQ (num (4294967296) false (lb (4294967296) (6))) (-4)).num) (lb (4294967296) (ofQ (num (4294967296) false (lb (4294967296) (6))) (-4)).num) (lb (4294967296) (zd (↑(ofQ (num (4294967296) false (lb (4294967296) (6))) (-4)).den : Int)))) (rq false (lb (4294967296) (2)) []) == 0 then (bif isQ (sg (ofQ (num (4294967296) false (lb (4294967296) (6))) (-4)).num) (lb (4294967296) (ofQ (num (4294967296) false (lb (4294967296) (6))) (-4)).num) false (lb (4294967296) (zd (↑(ofQ (num (4294967296) false (lb (4294967296) (6))) (-4)).den : Int))) then (bif (qtxt (rq (sg (ofQ (N 4294967296 6) (N 4294967296 (-4))).num) (lb 4294967296 (ofQ (N 4294967296 6) (N 4294967296 (-4))).num) (lb 4294967296 (zd (↑(ofQ (N 4294967296 6) (N 4294967296 (-4))).den : Int))))).toList == [(45 : UInt8), (51 : UInt8), (47 : UInt8), (50 : UInt8)] then (bif isQ (sg (qadd (rq (sg (ofQ (num (4294967296) false (lb (4294967296) (6))) (-4)).num) (lb (4294967296) (ofQ (num (4294967296) false (lb (4294967296) (6))) (-4)).num) (lb (4294967296) (zd (↑(ofQ (num (4294967296) false (lb (4294967296) (6))) (-4)).den : Int)))) (rq false (lb (4294967296) (2)) [])).num) (lb (4294967296) (qadd (rq (sg (ofQ (num (4294967296) false (lb (4294967296) (6))) (-4)).num) (lb (4294967296) (ofQ (num (4294967296) false (lb (4294967296) (6))) (-4)).num) (lb (4294967296) (zd (↑(ofQ (num (4294967296) false (lb (4294967296) (6))) (-4)).den : Int)))) (rq false (lb (4294967296) (2)) [])).num) false (lb (4294967296) (zd (↑(qadd (rq (sg (ofQ (num (4294967296) false (lb (4294967296) (6))) (-4)).num) (lb (4294967296) (ofQ (num (4294967296) false (lb (4294967296) (6))) (-4)).num) (lb (4294967296) (zd (↑(ofQ (num (4294967296) false (lb (4294967296) (6))) (-4)).den : Int)))) (rq false (lb (4294967296) (2)) [])).den : Int))) then (bif (qtxt (rq (sg (qadd (rq (sg (ofQ (N 4294967296 6) (N 4294967296 (-4))).num) (lb 4294967296 (ofQ (N 4294967296 6) (N 4294967296 (-4))).num) (lb 4294967296 (zd (↑(ofQ (N 4294967296 6) (N 4294967296 (-4))).den : Int)))) (rq (sg 2) (lb 4294967296 2) [])).num) (lb 4294967296 (qadd (rq (sg (ofQ (N 4294967296 6) (N 4294967296 (-4))).num) (lb 4294967296 (ofQ (N 4294967296 6) (N 4294967296 (-4))).num) (lb 4294967296 (zd (↑(ofQ (N 4294967296 6) (N 4294967296 (-4))).den : Int)))) (rq (sg 2) (lb 4294967296 2) [])).num) (lb 4294967296 (zd (↑(qadd (rq (sg (ofQ (N 4294967296 6) (N 4294967296 (-4))).num) (lb 4294967296 (ofQ (N 4294967296 6) (N 4294967296 (-4))).num) (lb 4294967296 (zd (↑(ofQ (N 4294967296 6) (N 4294967296 (-4))).den : Int)))) (rq (sg 2) (lb 4294967296 2) [])).den : Int))))).toList == [(49 : UInt8), (47 : UInt8), (50 : UInt8)] then (bif isQ (sg (ofQ (num (4294967296) false (lb (4294967296) (6))) (-4)).num) (lb (4294967296) (ofQ (num (4294967296) false (lb (4294967296) (6))) (-4)).num) false (lb (4294967296) (zd (↑(ofQ (num (4294967296) false (lb (4294967296) (6))) (-4)).den : Int))) then (bif cn (4294967296) (sg (rq (sg (ofQ (num (4294967296) false (lb (4294967296) (6))) (-4)).num) (lb (4294967296) (ofQ (num (4294967296) false (lb (4294967296) (6))) (-4)).num) (lb (4294967296) (zd (↑(ofQ (num (4294967296) false (lb (4294967296) (6))) (-4)).den : Int)))).floor) (lb (4294967296) (rq (sg (ofQ (num (4294967296) false (lb (4294967296) (6))) (-4)).num) (lb (4294967296) (ofQ (num (4294967296) false (lb (4294967296) (6))) (-4)).num) (lb (4294967296) (zd (↑(ofQ (num (4294967296) false (lb (4294967296) (6))) (-4)).den : Int)))).floor) then some (.val (.bool ((txt (N 4294967296 (rq (sg (ofQ (N 4294967296 6) (N 4294967296 (-4))).num) (lb 4294967296 (ofQ (N 4294967296 6) (N 4294967296 (-4))).num) (lb 4294967296 (zd (↑(ofQ (N 4294967296 6) (N 4294967296 (-4))).den : Int)))).floor)).toList == [(45 : UInt8), (50 : UInt8)]))) else none) else none) else some (.val (.bool false))) else none) else some (.val (.bool false))) else none) else some (.val (.bool false))) else none) := by kernel_rfl
end KAwake
namespace KRat
abbrev ans : Ans := [(25, ansQParse), (26, ansmParse)]
abbrev orc : Orc := orcOf ans
theorem rest (s : ByteArray) : runT T orc (noTab) Try.f28 [.str s] =
    (bif decide ((↑s.size : Int) > 700) then (bif true && decide (700 ≤ (↑s.size : Int)) then (bif decide ((s.extract 0 700).size ≤ 10000) then (bif decide ((s.extract 0 700).size ≤ 10000) then some (.val (.tup [.agg [.bool (sg (qv (s.extract 0 700)).num), .ints .u32 (lb (4294967296) (qv (s.extract 0 700)).num), .bool false, .ints .u32 (lb (4294967296) (zd (↑(qv (s.extract 0 700)).den : Int)))], .agg [.bool (sg (qv (s.extract 0 700)).num), .ints .i64 (lb (10) (qv (s.extract 0 700)).num), .bool false, .ints .i64 (lb (10) (zd (↑(qv (s.extract 0 700)).den : Int)))]])) else none) else none) else none) else (bif decide (s.size ≤ 10000) then (bif decide (s.size ≤ 10000) then some (.val (.tup [.agg [.bool (sg (qv s).num), .ints .u32 (lb (4294967296) (qv s).num), .bool false, .ints .u32 (lb (4294967296) (zd (↑(qv s).den : Int)))], .agg [.bool (sg (qv s).num), .ints .i64 (lb (10) (qv s).num), .bool false, .ints .i64 (lb (10) (zd (↑(qv s).den : Int)))]])) else none) else none)) := by kernel_rfl
end KRat
end
end Go.Abs
end
section
/- The helpers of layer 2's statements. -/
namespace Go.Abs
open Go.Proofs Go.Dig
theorem fitsQ_cast {z : Int} (h : fits z = true) : fitsQ ((z : Int) : Rat) = true := fitsQ_iff.2 ⟨h, by show fits 1 = true; kernel_rfl⟩
theorem fitsQ_qv (s : ByteArray) : fitsQ (qv s) = true := by
  by_cases hc : ct s < s.size
  · by_cases he : qe s = 0
    · rw [qv_ok hc he]; exact ofQ_fits (fits_rv _) (fits_rv _)
    · rw [qv_err hc he]; exact fitsQ_0
  · rw [qv_none hc]; exact fitsQ_cast (fits_rv s)
theorem cut_700 (s : ByteArray) : cut 700 s = if s.size > 700 then s.extract 0 700 else s := by
  unfold cut
  by_cases h : s.size > 700
  · rw [if_pos h, decide_eq_true h]; rfl
  · rw [if_neg h, decide_eq_false h]; rfl
theorem meets_qrat : Meets Try.prog 28 anqRat := by
  refine meets_fn (orc_ok (l := KRat.ans) ⟨meets_qparse, meets_mparse, trivial⟩) Try.f28 Try.func28 (by kernel_rfl) (fun args r h => ?_)
  unfold anqRat at h
  split at h
  · rename_i s
    simp only [Option.some.injEq, Prod.mk.injEq] at h
    obtain ⟨_, rfl⟩ := h
    refine ⟨rfl, _, noTab_all, (KRat.rest s).trans ?_⟩
    rw [cut_700]
    by_cases h : s.size > 700
    · rw [if_pos h]
      have h2 : (s.extract 0 700).size ≤ 10000 := by rw [ByteArray.size_extract]; omega
      exact (bT (decide_eq_true (by omega))).trans ((bT (by rw [decide_eq_true (show (700 : Int) ≤ (s.size : Int) by omega)]; rfl)).trans ((bT (decide_eq_true h2)).trans (bT (decide_eq_true h2))))
    · rw [if_neg h]
      exact (bF (decide_eq_false (by omega))).trans ((bT (decide_eq_true (show s.size ≤ 10000 by omega))).trans (bT (decide_eq_true (show s.size ≤ 10000 by omega))))
  · cases h
end Go.Abs
end
section
/- The page's example of layer 2, and the reading of texts. -/
namespace Go.Abs
open Go.Proofs Go.Dig
abbrev e1v : Rat := mkRat (-3) 2
theorem e1_eq : ofQ 6 (-4) = e1v := by rw [ofQ_eq]; kernel_rfl
theorem e1_fits : fitsQ e1v = true := by rw [fitsQ_eq]; kernel_rfl
theorem two_fits : fitsQ (2 : Rat) = true := by rw [fitsQ_eq]; kernel_rfl
theorem e1_add : eadd e1v 2 = 0 := by rw [eadd_eq]; kernel_rfl
theorem e1_sum : qadd e1v 2 = mkRat 1 2 := by rw [qadd_eq, e1_add]; kernel_rfl
theorem e2_fits : fitsQ (mkRat 1 2) = true := by rw [fitsQ_eq]; kernel_rfl
theorem e1_txt : ((qtxt e1v).toList == [(45 : UInt8), (51 : UInt8), (47 : UInt8), (50 : UInt8)]) = true := by rw [qtxt_eq]; kernel_rfl
theorem e2_txt : ((qtxt (mkRat 1 2)).toList == [(49 : UInt8), (47 : UInt8), (50 : UInt8)]) = true := by rw [qtxt_eq]; kernel_rfl
theorem e1_floor : e1v.floor = -2 := by kernel_rfl
theorem rq_two : rq false (lb 4294967296 2) [] = 2 := rq_Q (2 : Rat)
theorem isQ_two : isQ false (lb 4294967296 2) false [] = true := (isQ_Q (2 : Rat)).trans two_fits
theorem meets_kawake : Meets Try.prog 14 anlAwake := by
  refine meets_fn (orc_ok (l := KAwake.ans) ⟨meets_from, meets_of, meets_qadd, meets_whole, meets_qtext, meets_floor, meets_text, trivial⟩) Try.f14 Try.func14 (by kernel_rfl) (fun args r h => ?_)
  unfold anlAwake at h
  split at h
  · simp only [Option.some.injEq, Prod.mk.injEq] at h
    obtain ⟨_, rfl⟩ := h
    refine ⟨rfl, _, noTab_all, KAwake.rest.trans ?_⟩
    have n6 : num 4294967296 false (lb 4294967296 6) = 6 := num_nnW (by decide)
    have r2 : rq (sg 2) (lb 4294967296 2) [] = 2 := rq_two
    have t2 : ((txt (-2)).toList == [(45 : UInt8), (50 : UInt8)]) = true := by kernel_rfl
    simp only [n6, N_eq, e1_eq, isQ_Q, rq_Q, rq_two, r2, isQ_two, e1_fits, e1_add, e1_sum, e2_fits, e1_txt, e2_txt, e1_floor, t2, Bool.and_self, cond_true]
    rw [cnW, fit_lim (show fits (-2) = true by kernel_rfl)]
    rfl
  · cases h
end Go.Abs
end
section
/- The statements of layer 1: sums of lists. -/
namespace Go.Abs
open Go.Proofs Go.Dig
def isS : List AV → Bool
  | [.str _] => true
  | _ => false
theorem isS_map : ∀ {r : List (List AV)}, r.all isS = true → ∃ ss : List ByteArray, r = ss.map (fun s => [.str s])
  | [], _ => ⟨[], rfl⟩
  | c :: r, h => by
    rw [List.all_cons, Bool.and_eq_true] at h
    obtain ⟨ss, rfl⟩ := isS_map h.2
    have h1 := h.1
    unfold isS at h1
    split at h1
    · rename_i s; exact ⟨s :: ss, rfl⟩
    · cases h1
theorem isS_of (l : List ByteArray) : ((l.map fun s => [AV.str s]).all isS) = true := by
  rw [List.all_eq_true]
  intro c hc
  obtain ⟨s, _, rfl⟩ := List.mem_map.1 hc
  rfl
end Go.Abs
end
section
/- The statements of layer 2: the field's laws, sums of lists. -/
namespace Go.Abs
open Go.Proofs Go.Dig
theorem all_rowsQ {l : List Rat} (h : ∀ q ∈ l, fitsQ q = true) : (l.map cQ).all rowIsQ = true := by
  rw [List.all_eq_true]
  intro c hc
  obtain ⟨q, hq, rfl⟩ := List.mem_map.1 hc
  exact rowIsQ_iff.2 ⟨q, h q hq, rfl⟩
noncomputable abbrev qs (s : ByteArray) : Rat := qv (cut 700 s)
theorem fits_qs (ss : List ByteArray) (n : Nat) : ∀ q ∈ (ss.map qs).take n, fitsQ q = true := fun z hz => by
  obtain ⟨s, _, rfl⟩ := List.mem_map.1 (List.mem_of_mem_take hz)
  exact fitsQ_qv _
end Go.Abs
end
section
/- A fold whose step counts: ratio.Fold, and the statement RatioFolds. -/
namespace Go.Abs
open Go.Proofs Go.Dig
theorem meets_fnC {orc : Orc} (horc : OrcOk Try.prog orc) {f : Nat} (fn : Func) (hf : Try.prog.funcs[f]? = some fn) (hnm : (fn.name == "runtime.NumGoroutine") = false) {A : List AV → Option (Bool × Res)}
    (h : ∀ args r, A args = some (true, r) → (∃ x y v, r = .clo x y v) ∧ ∃ tab, (∀ C, TabOk T orc tab C) ∧ runTC T orc tab fn args = some r) : Meets Try.prog f A := by
  refine meets_runC T_ok horc mixed hf hnm (fun args r hA => ?_)
  obtain ⟨⟨x, y, v, rfl⟩, tab, h2, h3⟩ := h args r hA
  obtain ⟨o, rest, x1, x2, rfl, n, h4⟩ := runC_tab (h2 _) h3
  exact ⟨o, rest, x1, x2, x, y, v, rfl, rfl, n, h4⟩
theorem meets_step : Meets Try.prog 38 ansStep := by
  refine meets_fnC noOrc_ok Try.f38 Try.func38 (by kernel_rfl) (fun args r h => ?_)
  unfold ansStep at h
  split at h
  · rename_i s l t m s' l' t' m' i k
    simp only [Option.some.injEq, Prod.mk.injEq, true_and] at h
    subst h
    refine ⟨⟨_, _, _, rfl⟩, _, noTab_all, (KStep.rest s l t m s' l' t' m' i k).trans ?_⟩
    by_cases hik : i = k
    · rw [decide_eq_true hik]
      exact bT (beq_iff_eq.2 hik)
    · rw [decide_eq_false hik]
      exact bF (beq_eq_false_iff_ne.2 hik)
  · cases h
theorem stops_in {k : Int} {n : Nat} (h0 : 0 ≤ k) (h : k < n) : stops k n = true := by unfold stops; rw [decide_eq_true h0, decide_eq_true h]; rfl
theorem stops_out {k : Int} {n : Nat} (h : ¬ (0 ≤ k ∧ k < n)) : stops k n = false := by
  unfold stops
  cases hb : (decide (0 ≤ k) && decide (k < n)) with
  | false => rfl
  | true =>
    rw [Bool.and_eq_true, decide_eq_true_eq, decide_eq_true_eq] at hb
    exact absurd hb h
theorem last_take {l : List Rat} {i : Nat} (hi : i < l.length) : (l.take (i + 1)).getLastD 0 = l[i] := by
  rw [List.take_add_one, List.getElem?_eq_getElem hi]
  show (l.take i ++ [l[i]]).getLastD 0 = l[i]
  exact List.getLastD_concat
namespace KFold
theorem loop (l : List Rat) (k : Int) (hn : l.length ≤ 100000) :
    ∃ e S1, Ends T orc L0 D0 (st0 (l.map cQ) 0 0 k (sg (0 : Rat).num) (lb 4294967296 (0 : Rat).num) false (lb 4294967296 (zd (0 : Rat).den))) e S1 ∧
      ((e = .exit 0 ∧ stops k l.length = false ∧ ∃ x, S1 = st0 (l.map cQ) x l.length k (sg (l.getLastD 0).num) (lb 4294967296 (l.getLastD 0).num) false (lb 4294967296 (zd (l.getLastD 0).den))) ∨ (e = .ret ∧ stops k l.length = true ∧ ∃ x b u c v, S1 = st0x0 (l.map cQ) 2 x k k b u c v)) := by
  refine loop_inv2 (fun (i : Nat) (s : Rat) => st0 (l.map cQ) i i k (sg s.num) (lb 4294967296 s.num) false (lb 4294967296 (zd s.den))) (fun i s => i ≤ l.length ∧ (∀ j : Nat, j < i → (j : Int) ≠ k) ∧ s = (l.take i).getLastD 0) (fun i s => l.length - i)
    (fun e S1 => (e = .exit 0 ∧ stops k l.length = false ∧ ∃ x, S1 = st0 (l.map cQ) x l.length k (sg (l.getLastD 0).num) (lb 4294967296 (l.getLastD 0).num) false (lb 4294967296 (zd (l.getLastD 0).den))) ∨ (e = .ret ∧ stops k l.length = true ∧ ∃ x b u c v, S1 = st0x0 (l.map cQ) 2 x k k b u c v)) isL0 ?_ 0 0 ?_
  · intro i s ⟨k1, k2, k3⟩
    refine ⟨noTab, noTab_all, lands_of (round0 ..) ?_⟩
    rw [List.length_map]
    by_cases hi : i < l.length
    · have hg : (l.map cQ).getD (i : Int).toNat [] = cQ l[i] := by rw [Int.toNat_natCast, getD_at (by rw [List.length_map]; exact hi), List.getElem_map]
      have e0 : gBool ((cQ l[i]).getD 0 .top) = sg l[i].num := rfl
      have e1 : gInts ((cQ l[i]).getD 1 .top) = lb 4294967296 l[i].num := rfl
      have e2 : gBool ((cQ l[i]).getD 2 .top) = false := rfl
      have e3 : gInts ((cQ l[i]).getD 3 .top) = lb 4294967296 (zd l[i].den) := rfl
      have e4 : etasOk [.bool false, .ints .u32 [], .bool false, .ints .u32 []] (cQ l[i]) = true := rfl
      have hb : inB (i : Int) l.length = true := by rw [inB_iff]; omega
      rw [hg, e0, e1, e2, e3, e4, hb, decide_eq_true (show (i : Int) < l.length by omega)]
      simp only [cond_true, wi_succ (show i < 4611686018427387904 by omega)]
      by_cases he : (i : Int) = k
      · rw [decide_eq_true he]
        simp only [cond_true]
        rw [show ((2 : Int) != 0) = true from rfl, cond_true]
        simp only [lands_some, Turns2]
        refine .inr ⟨trivial, stops_in (by omega) (by omega), i, sg s.num, lb 4294967296 s.num, false, lb 4294967296 (zd s.den), ?_⟩
        rw [he]
      · rw [decide_eq_false he]
        simp only [cond_false]
        rw [show ((0 : Int) != 0) = false from rfl, cond_false]
        simp only [lands_some, Turns2]
        refine ⟨i + 1, l[i], rfl, ⟨by omega, fun j hj => ?_, (last_take hi).symm⟩, by omega⟩
        by_cases hji : j = i
        · rw [hji]; exact he
        · exact k2 j (by omega)
    · rw [decide_eq_false (by omega), cond_false]
      simp only [lands_some, Turns2]
      have hil : i = l.length := by omega
      rw [List.take_of_length_le (by omega)] at k3
      refine .inl ⟨trivial, stops_out (fun ⟨h0, h1⟩ => ?_), i, ?_⟩
      · obtain ⟨m, rfl⟩ : ∃ m : Nat, k = (m : Int) := ⟨k.toNat, by omega⟩
        exact k2 m (by omega) rfl
      · rw [k3, hil]
  · exact ⟨Nat.zero_le _, fun j hj => by omega, by rw [List.take_zero]; rfl⟩
end KFold
theorem meets_foldstep : Meets Try.prog 37 (ansFoldStep 38) := by
  refine meets_fnC (orc_ok (l := KFold.ans) ⟨meets_step, trivial⟩) Try.f37 Try.func37 (by kernel_rfl) (fun args r h => ?_)
  unfold ansFoldStep at h
  split at h
  · rename_i r f i k
    simp only [Option.some.injEq, Prod.mk.injEq] at h
    obtain ⟨h1, rfl⟩ := h
    rw [Bool.and_eq_true, Bool.and_eq_true, Bool.and_eq_true, decide_eq_true_eq, decide_eq_true_eq] at h1
    obtain rfl := Nat.eq_of_beq_eq_true h1.1
    obtain rfl := h1.2.1
    obtain ⟨l, rfl, hl⟩ := rows_Q h1.2.2.1
    have hn := h1.2.2.2
    rw [List.length_map] at hn
    refine ⟨⟨_, _, _, rfl⟩, ?_⟩
    rw [map_rowQ, foV_eq, foS_eq, foE_eq]
    obtain ⟨e1, S1, hE1, h⟩ := KFold.loop l k hn
    rcases h with ⟨rfl, hs, x, rfl⟩ | ⟨rfl, hs, x, b, u, c, v, rfl⟩
    · rw [hs]
      exact ⟨_, tabOf_all _, (KFold.rest_1 (l.map cQ) 0 k l.length (sg (l.getLastD 0).num) (lb 4294967296 (l.getLastD 0).num) false (lb 4294967296 (zd (l.getLastD 0).den)) x).trans (bT (cdec_true hE1))⟩
    · rw [hs]
      exact ⟨_, tabOf_all _, (KFold.rest_0 (l.map cQ) 0 k k 2 x b u c v).trans (bT (cdec_true hE1))⟩
  · cases h
namespace KFolds
theorem loop (ss : List ByteArray) (k : Int) : ∃ e S1, Ends T orc L0 D0 (st0 (ss.map (fun s => [AV.str s])) k 0 []) e S1 ∧ e = .exit 0 ∧ ∃ n x, n ≤ 12 ∧ S1 = st0 (ss.map (fun s => [AV.str s])) k x (((ss.map qs).take n).map cQ) := by
  refine loop_inv1 (fun (i : Nat) => st0 (ss.map (fun s => [AV.str s])) k i (((ss.map qs).take i).map cQ)) (fun i => i ≤ 12 ∧ i ≤ ss.length) (fun i => 12 - i)
    (fun e S1 => e = .exit 0 ∧ ∃ n x, n ≤ 12 ∧ S1 = st0 (ss.map (fun s => [AV.str s])) k x (((ss.map qs).take n).map cQ)) isL0 ?_ 0 ?_
  · intro i ⟨h1, h2⟩
    refine ⟨noTab, noTab_all, lands_of (round0 ..) ?_⟩
    rw [List.length_map]
    by_cases hi : i < ss.length ∧ i < 12
    · obtain ⟨hi, hj⟩ := hi
      have hg : (ss.map (fun s => [AV.str s])).getD (i : Int).toNat [] = [.str ss[i]] := by
        rw [Int.toNat_natCast, getD_at (by rw [List.length_map]; exact hi), List.getElem_map]
      have e1 : gStr ([AV.str ss[i]].getD 0 .top) = ss[i] := rfl
      have e2 : etaOk (.str { data := #[] }) ([AV.str ss[i]].getD 0 .top) = true := rfl
      have e3 : inB (i : Int) ss.length = true := by rw [inB_iff]; omega
      have hz : (ss.map qs).take (i + 1) = (ss.map qs).take i ++ [qs ss[i]] := by
        rw [List.take_add_one, List.getElem?_map, List.getElem?_eq_getElem hi]; rfl
      have hlen : ((ss.map qs).take (i + 1)).length ≤ 12 := by rw [List.length_take]; omega
      have hW : ((ss.map qs).take i).map cQ ++ [[AV.bool (sg (qv (cut 700 ss[i])).num), .ints .u32 (lb (4294967296) (qv (cut 700 ss[i])).num), .bool false, .ints .u32 (lb (4294967296) (zd (qv (cut 700 ss[i])).den))]] = ((ss.map qs).take (i + 1)).map cQ := by rw [hz, List.map_append]; rfl
      rw [hg, e1, e2, e3, hW, List.length_map, decide_eq_true (show (i : Int) < ss.length by omega), decide_eq_true (show (i : Int) < 12 by omega), decide_eq_true (show ((ss.map qs).take (i + 1)).length * 64 ≤ 140737488355328 by omega)]
      simp only [Bool.and_self, cond_true, wi_succ (show i < 4611686018427387904 by omega), lands_some, Turns1]
      exact ⟨i + 1, rfl, ⟨by omega, by omega⟩, by omega⟩
    · by_cases hl : i < ss.length
      · rw [decide_eq_true (show (i : Int) < ss.length by omega), decide_eq_false (show ¬ (i : Int) < 12 by omega)]
        simp only [cond_true, cond_false, lands_some, Turns1]
        exact ⟨trivial, i, i, h1, rfl⟩
      · rw [decide_eq_false (show ¬ (i : Int) < ss.length by omega)]
        simp only [cond_true, cond_false, lands_some, Turns1]
        exact ⟨trivial, i, i, h1, rfl⟩
  · exact ⟨by omega, by omega⟩
end KFolds
theorem law_qfolds : Meets Try.prog 7 (fun a => match a with | [.rows 1 r, .int .i64 _] => some (r.all isS, .val (.bool true)) | _ => none) := by
  refine meets_fn (orc_ok (l := KFolds.ans) ⟨meets_kawake, meets_qrat, meets_foldstep, meets_qsign, meets_qtext, trivial⟩) Try.f7 Try.func7 (by kernel_rfl) (fun args r h => ?_)
  split at h
  · rename_i r k
    simp only [Option.some.injEq, Prod.mk.injEq] at h
    obtain ⟨h1, rfl⟩ := h
    obtain ⟨ss, rfl⟩ := isS_map h1
    obtain ⟨e1, S1, hE1, rfl, n, x, hn, rfl⟩ := KFolds.loop ss k
    refine ⟨rfl, _, tabOf_all _, (KFolds.rest _ k (((ss.map qs).take n).map cQ) x).trans ((bT (cdec_true hE1)).trans ?_)⟩
    have hf := fits_qs ss n
    have hl : ((ss.map qs).take n).length ≤ 100000 := by rw [List.length_take]; omega
    generalize (ss.map qs).take n = l at *
    rw [all_rowsQ hf, map_rowQ, List.length_map, decide_eq_true hl]
    refine (bT rfl).trans ?_
    have fin : stops k l.length = false → (bif foE k l == 0 then (bif foS k l == (l.length : Int) then (bif foS k l == 0 then some (Res.val (.bool true)) else (bif isQ (sg (foV k l).num) (lb (4294967296) (foV k l).num) false (lb (4294967296) (zd ((foV k l).den : Int))) then (bif inB (IntKind.i64.wrap (foS k l - 1)) l.length then (bif etasOk [.bool false, .ints .u32 [], .bool false, .ints .u32 []] ((l.map cQ).getD (IntKind.i64.wrap (foS k l - 1)).toNat []) then (bif isQ (gBool (((l.map cQ).getD (IntKind.i64.wrap (foS k l - 1)).toNat []).getD 0 .top)) (gInts (((l.map cQ).getD (IntKind.i64.wrap (foS k l - 1)).toNat []).getD 1 .top)) (gBool (((l.map cQ).getD (IntKind.i64.wrap (foS k l - 1)).toNat []).getD 2 .top)) (gInts (((l.map cQ).getD (IntKind.i64.wrap (foS k l - 1)).toNat []).getD 3 .top)) then some (.val (.bool ((qtxt (rq (sg (foV k l).num) (lb (4294967296) (foV k l).num) (lb (4294967296) (zd ((foV k l).den : Int))))).toList == (qtxt (rq (gBool (((l.map cQ).getD (IntKind.i64.wrap (foS k l - 1)).toNat []).getD 0 .top)) (gInts (((l.map cQ).getD (IntKind.i64.wrap (foS k l - 1)).toNat []).getD 1 .top)) (gInts (((l.map cQ).getD (IntKind.i64.wrap (foS k l - 1)).toNat []).getD 3 .top)))).toList))) else none) else none) else none) else none)) else some (.val (.bool false))) else some (.val (.bool false))) = some (Res.val (.bool true)) := by
      intro hs
      have hV := foV_eq k l
      have hS := foS_eq k l
      have hE := foE_eq k l
      rw [hs, cond_false] at hV hS hE
      rw [hE, hS]
      refine (bT rfl).trans ((bT (beq_self_eq_true _)).trans ?_)
      by_cases h0 : l.length = 0
      · exact bT (by rw [h0]; rfl)
      · refine (bF (beq_eq_false_iff_ne.2 (by omega))).trans ?_
        have hi : l.length - 1 < l.length := by omega
        have hw : IntKind.i64.wrap ((l.length : Int) - 1) = ((l.length - 1 : Nat) : Int) := by
          rw [w64 (n := (l.length : Int) - 1) (by omega) (by omega)]; omega
        have hg : (l.map cQ).getD ((l.length - 1 : Nat) : Int).toNat [] = cQ l[l.length - 1] := by rw [Int.toNat_natCast, getD_at (by rw [List.length_map]; exact hi), List.getElem_map]
        have hL : l.getLastD 0 = l[l.length - 1] := by
          have := last_take hi
          rwa [List.take_of_length_le (by omega)] at this
        have hfl := hf _ (List.getElem_mem hi)
        have e0 : gBool ((cQ l[l.length - 1]).getD 0 .top) = sg l[l.length - 1].num := rfl
        have e1 : gInts ((cQ l[l.length - 1]).getD 1 .top) = lb 4294967296 l[l.length - 1].num := rfl
        have e2 : gBool ((cQ l[l.length - 1]).getD 2 .top) = false := rfl
        have e3 : gInts ((cQ l[l.length - 1]).getD 3 .top) = lb 4294967296 (zd l[l.length - 1].den) := rfl
        have e4 : etasOk [.bool false, .ints .u32 [], .bool false, .ints .u32 []] (cQ l[l.length - 1]) = true := rfl
        have hb : inB ((l.length - 1 : Nat) : Int) l.length = true := by rw [inB_iff]; omega
        rw [hw, hg, hV, hL, e0, e1, e2, e3, e4, hb, isQ_Q, rq_Q, hfl]
        simp only [cond_true, beq_self_eq_true]
    by_cases h0 : 0 ≤ k
    · refine (bT (decide_eq_true h0)).trans ?_
      by_cases h1 : k < (l.length : Int)
      · refine (bT (decide_eq_true h1)).trans ?_
        have hs := stops_in h0 h1
        have hV := foV_eq k l
        have hS := foS_eq k l
        have hE := foE_eq k l
        rw [hs, cond_true] at hV hS hE
        rw [hE, hS, hV]
        refine (bT rfl).trans ((bT (beq_self_eq_true _)).trans ((bT (cn_nm fitsQ_0)).trans ?_))
        rw [N_eq]; rfl
      · exact (bF (decide_eq_false h1)).trans (fin (stops_out (fun hh => h1 hh.2)))
    · exact (bF (decide_eq_false h0)).trans (fin (stops_out (fun hh => h0 hh.1)))
  · cases h
end Go.Abs
end
