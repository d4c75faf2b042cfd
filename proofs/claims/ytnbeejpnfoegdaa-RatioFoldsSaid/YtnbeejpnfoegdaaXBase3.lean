/- What the rows of this seat rest on, part 3: an abstract machine for the model, proved sound, and the functions that the statements reach. No conditions. -/
import Derived.Test.YtnbeejpnfoegdaaXBase2
set_option linter.unusedVariables false
set_option linter.unusedSimpArgs false
set_option linter.unnecessarySimpa false
set_option linter.unusedSectionVars false
section
/- What arith's functions answer, in whole numbers: the tables (proved in the texts behind). -/
namespace Go.Abs
open Go.Dig
/-- How many binary digits. -/
def blen (n : Int) : Int := if n = 0 then 0 else (n.toNat.log2 : Int) + 1
/-- No number is as large as this. -/
def Lim : Nat := 10 ^ 10000
/-- Sign and digits as they are of a number that isn't too large. -/
def cn (B : Int) (s : Bool) (l : List Int) : Bool := decide (s = sg (num B s l)) && decide (l = lb B (num B s l)) && decide ((num B s l).natAbs < Lim)
/-- Digits as they are. -/
def cl (B : Int) (l : List Int) : Bool := few l && decide (l = limbs B (val B l)) && decide (0 ≤ val B l)
def i64B (n : Int) : Bool := decide (-9223372036854775808 ≤ n) && decide (n ≤ 9223372036854775807)
/-- A number that is held, or nought and the error's number. -/
def fits (z : Int) : Bool := decide (z.natAbs < 2 ^ 1024)
def hz (z : Int) : Int := bif fits z then z else 0
def he (z : Int) : Int := bif fits z then 0 else 11
/-- Quotient, rest, error of a division. -/
def dq (x y : Int) : Int := if y = 0 then 0 else x.fdiv y
def dr (x y : Int) : Int := if y = 0 then 0 else x.fmod y
def dc (y : Int) : Int := if y = 0 then 12 else 0
def gz (x y : Int) : Int := (Int.gcd x y : Int)
def az (x : Int) : Int := (x.natAbs : Int)
/-- A small number, or nought. -/
def sz (x : Int) : Int := bif i64B x then x else 0
/-- A number's text. -/
def dig (l : List Int) : List Int := l.reverse.map (· + 48)
def txtL (z : Int) : List Int := if z = 0 then [48] else (if z < 0 then [45] else []) ++ dig (limbs 10 z.natAbs)
def txt (z : Int) : ByteArray := strOf (txtL z)
/-- A text of a number: its digits, is it one, its number. -/
def isDig (c : Int) : Bool := decide (48 ≤ c) && decide (c ≤ 57)
def hasNeg (l : List Int) : Bool := match l with
  | c :: _ => c == 45
  | [] => false
def digs (l : List Int) : List Int := bif hasNeg l then l.drop 1 else l
def form (l : List Int) : Bool := !(digs l).isEmpty && !((digs l).getD 0 0 == 48 && (decide ((digs l).length > 1) || hasNeg l)) && (digs l).all isDig
def dval (l : List Int) : Int := val 10 (l.reverse.map (· - 48))
def tval (l : List Int) : Int := bif hasNeg l then - dval (digs l) else dval (digs l)
/-- What is read of a text. -/
def rv (s : ByteArray) : Int := bif form (bytesOf s) then hz (tval (bytesOf s)) else 0
def re (s : ByteArray) : Int := bif form (bytesOf s) then he (tval (bytesOf s)) else 10
def leftL (l : List Int) (sh : Int) : List Int := digN 4294967296 (l.length + 1) (val 4294967296 l * 2 ^ sh.toNat)
def rightL (l : List Int) (sh : Int) : List Int := digN 4294967296 l.length (val 4294967296 l / 2 ^ sh.toNat)
def plusL (a b : List Int) : List Int := digN 4294967296 (max a.length b.length + 1) (val 4294967296 a + val 4294967296 b)
def lessL (a b : List Int) : List Int := digN 4294967296 a.length (val 4294967296 a - val 4294967296 b)
def timesL (a b : List Int) : List Int := digN 4294967296 (a.length + b.length) (val 4294967296 a * val 4294967296 b)
def b2i (c : Bool) : Int := bif c then 1 else 0
def ansSub32 : List AV → Option (Bool × Res)
  | [.int .u32 x, .int .u32 y, .int .u32 b] => some (decide (0 ≤ x) && decide (x < 4294967296) && decide (0 ≤ y) && decide (y < 4294967296) && decide (0 ≤ b) && decide (b ≤ 1), .val (.tup [.int .u32 ((x - y - b) % 4294967296), .int .u32 (b2i (decide (x < y + b)))]))
  | _ => none
def ansAdd32 : List AV → Option (Bool × Res)
  | [.int .u32 x, .int .u32 y, .int .u32 b] => some (decide (0 ≤ x) && decide (x < 4294967296) && decide (0 ≤ y) && decide (y < 4294967296) && decide (0 ≤ b) && decide (b ≤ 1), .val (.tup [.int .u32 ((x + y + b) % 4294967296), .int .u32 (b2i (decide (4294967296 ≤ x + y + b)))]))
  | _ => none
def ansLen32 : List AV → Option (Bool × Res)
  | [.int .u32 n] => some (decide (0 ≤ n) && decide (n < 4294967296), .val (.int .i64 (blen n)))
  | _ => none
def ansLz32 : List AV → Option (Bool × Res)
  | [.int .u32 n] => some (decide (0 ≤ n) && decide (n < 4294967296), .val (.int .i64 (32 - blen n)))
  | _ => none
def ansNorm : List AV → Option (Bool × Res)
  | [.bool s, .ints .u32 l] => some (few l && okB 4294967296 l, .val (R (num 4294967296 s l)))
  | _ => none
def ansHeld : List AV → Option (Bool × Res)
  | [.agg [.bool s, .ints .u32 l]] => some (cn 4294967296 s l, .val (.tup [R (hz (num 4294967296 s l)), .int .i64 (he (num 4294967296 s l))]))
  | _ => none
def ansFrom : List AV → Option (Bool × Res)
  | [.int .i64 n] => some (i64B n, .val (R n))
  | _ => none
def ansParse : List AV → Option (Bool × Res)
  | [.str s] => some (decide (s.size ≤ 10000), .val (.tup [R (rv s), .int .i64 (re s)]))
  | _ => none
def scaleL (l : List Int) (m a : Int) : List Int := bif decide (val 4294967296 l * m + a < 4294967296 ^ l.length) then digN 4294967296 l.length (val 4294967296 l * m + a) else digN 4294967296 (l.length + 1) (val 4294967296 l * m + a)
def ansScale : List AV → Option (Bool × Res)
  | [.ints .u32 l, .int .u32 m, .int .u32 a] => some (few l && okB 4294967296 l && decide (0 ≤ m) && decide (m < 4294967296) && decide (0 ≤ a) && decide (a < 4294967296), .own (.ints .u32 (scaleL l m a)))
  | _ => none
def ansPart : List AV → Option (Bool × Res)
  | [.ints .u32 l, .int .u32 m] => some (few l && okB 4294967296 l && decide (0 < m) && decide (m < 4294967296), .val (.tup [.ints .u32 (limbs 4294967296 (val 4294967296 l / m)), .int .u32 (val 4294967296 l % m)]))
  | _ => none
def ansText : List AV → Option (Bool × Res)
  | [.agg [.bool s, .ints .u32 l]] => some (cn 4294967296 s l, .val (.str (txt (num 4294967296 s l))))
  | _ => none
def ansSign : List AV → Option (Bool × Res)
  | [.agg [.bool s, .ints .u32 l]] => some (cn 4294967296 s l, .val (.int .i64 (cmpZ (num 4294967296 s l) 0)))
  | _ => none
def ansBits : List AV → Option (Bool × Res)
  | [.agg [.bool s, .ints .u32 l]] => some (cn 4294967296 s l, .val (.int .i64 (blen (az (num 4294967296 s l)))))
  | _ => none
def ansNeg : List AV → Option (Bool × Res)
  | [.agg [.bool s, .ints .u32 l]] => some (cn 4294967296 s l, .val (R (- num 4294967296 s l)))
  | _ => none
def ansAbs : List AV → Option (Bool × Res)
  | [.agg [.bool s, .ints .u32 l]] => some (cn 4294967296 s l, .val (R (az (num 4294967296 s l))))
  | _ => none
def ansCmpMag : List AV → Option (Bool × Res)
  | [.ints .u32 a, .ints .u32 b] => some (cl 4294967296 a && cl 4294967296 b, .val (.int .i64 (cmpZ (val 4294967296 a) (val 4294967296 b))))
  | _ => none
def ansCmp : List AV → Option (Bool × Res)
  | [.agg [.bool s, .ints .u32 l], .agg [.bool t, .ints .u32 m]] => some (cn 4294967296 s l && cn 4294967296 t m, .val (.int .i64 (cmpZ (num 4294967296 s l) (num 4294967296 t m))))
  | _ => none
def ansPlusMag : List AV → Option (Bool × Res)
  | [.ints .u32 a, .ints .u32 b] => some (few a && few b && okB 4294967296 a && okB 4294967296 b, .own (.ints .u32 (plusL a b)))
  | _ => none
def ansLessMag : List AV → Option (Bool × Res)
  | [.ints .u32 a, .ints .u32 b] => some (few a && few b && okB 4294967296 a && okB 4294967296 b && decide (b.length ≤ a.length) && decide (val 4294967296 b ≤ val 4294967296 a), .own (.ints .u32 (lessL a b)))
  | _ => none
def ansPlus : List AV → Option (Bool × Res)
  | [.agg [.bool s, .ints .u32 l], .agg [.bool t, .ints .u32 m]] => some (cn 4294967296 s l && cn 4294967296 t m, .val (R (num 4294967296 s l + num 4294967296 t m)))
  | _ => none
def ansAdd : List AV → Option (Bool × Res)
  | [.agg [.bool s, .ints .u32 l], .agg [.bool t, .ints .u32 m]] => some (cn 4294967296 s l && cn 4294967296 t m && fits (num 4294967296 s l) && fits (num 4294967296 t m), .val (.tup [R (hz (num 4294967296 s l + num 4294967296 t m)), .int .i64 (he (num 4294967296 s l + num 4294967296 t m))]))
  | _ => none
def ansTimesMag : List AV → Option (Bool × Res)
  | [.ints .u32 a, .ints .u32 b] => some (few a && few b && okB 4294967296 a && okB 4294967296 b, .own (.ints .u32 (timesL a b)))
  | _ => none
def ansMul : List AV → Option (Bool × Res)
  | [.agg [.bool s, .ints .u32 l], .agg [.bool t, .ints .u32 m]] => some (cn 4294967296 s l && cn 4294967296 t m && fits (num 4294967296 s l) && fits (num 4294967296 t m), .val (.tup [R (hz (num 4294967296 s l * num 4294967296 t m)), .int .i64 (he (num 4294967296 s l * num 4294967296 t m))]))
  | _ => none
def splitQ (a b : List Int) : List Int := bif decide (val 4294967296 a < val 4294967296 b) then [] else bif b.length == 1 then limbs 4294967296 (val 4294967296 a / val 4294967296 b) else digN 4294967296 (a.length - b.length + 1) (val 4294967296 a / val 4294967296 b)
def splitR (a b : List Int) : List Int := bif decide (val 4294967296 a < val 4294967296 b) then a else digN 4294967296 b.length (val 4294967296 a % val 4294967296 b)
def ansSplitMag : List AV → Option (Bool × Res)
  | [.ints .u32 a, .ints .u32 b] => some (cl 4294967296 a && cl 4294967296 b && decide (0 < val 4294967296 b) && decide (a.length ≤ 50000), .val (.tup [.ints .u32 (splitQ a b), .ints .u32 (splitR a b)]))
  | _ => none
def ansLeft : List AV → Option (Bool × Res)
  | [.ints .u32 l, .int .i64 sh] => some (few l && okB 4294967296 l && decide (0 ≤ sh) && decide (sh ≤ 31), .own (.ints .u32 (leftL l sh)))
  | _ => none
def ansRight : List AV → Option (Bool × Res)
  | [.ints .u32 l, .int .i64 sh] => some (few l && okB 4294967296 l && decide (0 ≤ sh) && decide (sh ≤ 31), .own (.ints .u32 (rightL l sh)))
  | _ => none
/-- A place's digit of the quotient: the part of u that is looked at, and what is put there. -/
def seg (u : List Int) (j n : Nat) : List Int := (u.drop j).take n
def digQ (u v : List Int) (j : Nat) : Int := val 4294967296 (seg u j (v.length + 1)) / val 4294967296 v
def digU (u v : List Int) (j : Nat) : List Int := u.take j ++ digN 4294967296 (v.length + 1) (val 4294967296 (seg u j (v.length + 1)) % val 4294967296 v) ++ u.drop (j + v.length + 1)
def digOk (u v : List Int) (j n : Int) : Bool := few u && few v && okB 4294967296 u && okB 4294967296 v && decide (0 ≤ j) && decide (n = v.length) && decide (2 ≤ v.length) && decide (j.toNat + v.length + 1 ≤ u.length) && decide (2147483648 ≤ v.getD (v.length - 1) 0) && decide (val 4294967296 (seg u j.toNat (v.length + 1)) < 4294967296 * val 4294967296 v)
def ansDigit : List AV → Option (Bool × Res)
  | [] => some (true, .gave .top .top)
  | [.ints .u32 u, .ints .u32 v, .int .i64 j, .int .i64 n] => some (digOk u v j n, .gave (.ints .u32 (digU u v j.toNat)) (.int .u32 (digQ u v j.toNat)))
  | _ => none
def ansDiv : List AV → Option (Bool × Res)
  | [.agg [.bool s, .ints .u32 l], .agg [.bool t, .ints .u32 m]] => some (cn 4294967296 s l && cn 4294967296 t m, .val (.tup [R (dq (num 4294967296 s l) (num 4294967296 t m)), R (dr (num 4294967296 s l) (num 4294967296 t m)), .int .i64 (dc (num 4294967296 t m))]))
  | _ => none
def ansGcd : List AV → Option (Bool × Res)
  | [.agg [.bool s, .ints .u32 l], .agg [.bool t, .ints .u32 m]] => some (cn 4294967296 s l && cn 4294967296 t m, .val (R (gz (num 4294967296 s l) (num 4294967296 t m))))
  | _ => none
end Go.Abs
end
section
/- What the reference's functions and the laws of layer 1 answer: the tables (proved in the texts behind). -/
namespace Go.Abs
open Go.Dig
def anrTrim : List AV → Option (Bool × Res)
  | [.bool s, .ints .i64 l] => some (few l && okB 10 l, .val (M (num 10 s l)))
  | _ => none
def anrForm : List AV → Option (Bool × Res)
  | [.str s] => some (decide (s.size ≤ 10000), .val (.bool (form (bytesOf s))))
  | _ => none
def anrParse : List AV → Option (Bool × Res)
  | [.str s] => some (decide (s.size ≤ 10000), .val (.tup [M (rv s), .int .i64 (re s)]))
  | _ => none
def anrExact : List AV → Option (Bool × Res)
  | [.str s] => some (decide (s.size ≤ 10000) && form (bytesOf s), .val (M (tval (bytesOf s))))
  | _ => none
def anrFrom : List AV → Option (Bool × Res)
  | [.int .i64 n] => some (i64B n, .val (M n))
  | _ => none
def anrCmpMag : List AV → Option (Bool × Res)
  | [.ints .i64 a, .ints .i64 b] => some (cl 10 a && cl 10 b, .val (.int .i64 (cmpZ (val 10 a) (val 10 b))))
  | _ => none
def anrCmp : List AV → Option (Bool × Res)
  | [.agg [.bool s, .ints .i64 l], .agg [.bool t, .ints .i64 m]] => some (cn 10 s l && cn 10 t m, .val (.int .i64 (cmpZ (num 10 s l) (num 10 t m))))
  | _ => none
def plusD (a b : List Int) : List Int := bif decide (val 10 a + val 10 b < 10 ^ max a.length b.length) then digN 10 (max a.length b.length) (val 10 a + val 10 b) else digN 10 (max a.length b.length + 1) (val 10 a + val 10 b)
def lessD (a b : List Int) : List Int := digN 10 a.length (val 10 a - val 10 b)
def anrPlusMag : List AV → Option (Bool × Res)
  | [.ints .i64 a, .ints .i64 b] => some (few a && few b && okB 10 a && okB 10 b, .own (.ints .i64 (plusD a b)))
  | _ => none
def anrLessMag : List AV → Option (Bool × Res)
  | [.ints .i64 a, .ints .i64 b] => some (few a && few b && okB 10 a && okB 10 b && decide (b.length ≤ a.length) && decide (val 10 b ≤ val 10 a), .own (.ints .i64 (lessD a b)))
  | _ => none
def anrAbs : List AV → Option (Bool × Res)
  | [.agg [.bool s, .ints .i64 l]] => some (cn 10 s l, .val (M (az (num 10 s l))))
  | _ => none
def splitD (a b : List Int) : List Int := digN 10 a.length (val 10 a / val 10 b)
def anrSplit : List AV → Option (Bool × Res)
  | [.ints .i64 a, .ints .i64 b] => some (cl 10 a && cl 10 b && decide (0 < val 10 b) && decide (a.length ≤ 50000), .val (.tup [.ints .i64 (splitD a b), .ints .i64 (limbs 10 (val 10 a % val 10 b))]))
  | _ => none
def anrGcd : List AV → Option (Bool × Res)
  | [.agg [.bool s, .ints .i64 l], .agg [.bool t, .ints .i64 m]] => some (cn 10 s l && cn 10 t m, .val (M (gz (num 10 s l) (num 10 t m))))
  | _ => none
def anrPower : List AV → Option (Bool × Res)
  | [.int .i64 n] => some (decide (0 ≤ n) && decide (n ≤ 2000), .own (.ints .i64 (limbs 10 (2 ^ n.toNat))))
  | _ => none
def anrTooBig : List AV → Option (Bool × Res)
  | [.agg [.bool s, .ints .i64 l]] => some (cn 10 s l, .val (.bool (!fits (num 10 s l))))
  | _ => none
/-- A text, no longer than so much. -/
def cut (n : Nat) (s : ByteArray) : ByteArray := bif decide (s.size > n) then s.extract 0 n else s
def anlAwake : List AV → Option (Bool × Res)
  | [] => some (true, .val (.bool true))
  | _ => none
end Go.Abs
end
section
/- What the functions of ratio and of its reference answer: the tables (proved in the texts behind). -/
namespace Go.Abs
open Go.Dig
/-- The first of two, behind a veil: nothing unfolds it by reckoning. -/
noncomputable def veil {α : Type} (x y : α) : α := @ite α True (Classical.propDecidable True) x y
theorem veil_eq {α : Type} (x y : α) : veil x y = x := if_pos trivial
/-- What stands below, as it is kept (nought stands for 1), and as it is meant. -/
def zd (d : Int) : Int := bif d == 1 then 0 else d
def dn (d : Int) : Int := bif d == 0 then 1 else d
noncomputable def fitsQ (q : Rat) : Bool := veil (fits q.num && fits q.den) false
theorem fitsQ_eq (q : Rat) : fitsQ q = (fits q.num && fits q.den) := veil_eq _ _
abbrev Q (q : Rat) : AV := .agg [.bool (sg q.num), .ints .u32 (lb 4294967296 q.num), .bool false, .ints .u32 (lb 4294967296 (zd q.den))]
abbrev Md (q : Rat) (d : Int) : AV := .agg [.bool (sg q.num), .ints .i64 (lb 10 q.num), .bool false, .ints .i64 (lb 10 d)]
/-- The rational of two numbers in limbs; are they a rational's? -/
noncomputable def rq (s : Bool) (l m : List Int) : Rat := veil (mkRat (num 4294967296 s l) (dn (num 4294967296 false m)).toNat) 0
theorem rq_eq (s : Bool) (l m : List Int) : rq s l m = (mkRat (num 4294967296 s l) (dn (num 4294967296 false m)).toNat) := veil_eq _ _
noncomputable def isQ (s : Bool) (l : List Int) (t : Bool) (m : List Int) : Bool := veil (decide (s = sg (rq s l m).num) && decide (l = lb 4294967296 (rq s l m).num) && decide (t = false) && decide (m = lb 4294967296 (zd (rq s l m).den)) && fitsQ (rq s l m)) false
theorem isQ_eq (s : Bool) (l : List Int) (t : Bool) (m : List Int) : isQ s l t m = (decide (s = sg (rq s l m).num) && decide (l = lb 4294967296 (rq s l m).num) && decide (t = false) && decide (m = lb 4294967296 (zd (rq s l m).den)) && fitsQ (rq s l m)) := veil_eq _ _
/-- Is a sum refused on the way? -/
noncomputable def eadd (x y : Rat) : Int := veil (let g : Int := (Nat.gcd x.den y.den : Nat)
    let p := x.num * (y.den / g)
    let q := y.num * (x.den / g)
    bif fits p && fits q && fits (p + q) && fits ((x.den / g) * (y.den / (Int.gcd (p + q) g : Int))) then 0 else 11) 0
theorem eadd_eq (x y : Rat) : eadd x y = (let g : Int := (Nat.gcd x.den y.den : Nat)
    let p := x.num * (y.den / g)
    let q := y.num * (x.den / g)
    bif fits p && fits q && fits (p + q) && fits ((x.den / g) * (y.den / (Int.gcd (p + q) g : Int))) then 0 else 11) := veil_eq _ _
noncomputable def qadd (x y : Rat) : Rat := veil (bif eadd x y == 0 then x + y else 0) 0
theorem qadd_eq (x y : Rat) : qadd x y = (bif eadd x y == 0 then x + y else 0) := veil_eq _ _
noncomputable def ofQ (x y : Int) : Rat := veil (Rat.divInt x y) 0
theorem ofQ_eq (x y : Int) : ofQ x y = (Rat.divInt x y) := veil_eq _ _
noncomputable def rowQ (c : List AV) : Rat := match c with
  | [.bool s, .ints _ l, .bool _, .ints _ m] => rq s l m
  | _ => 0
noncomputable def rowIsQ (c : List AV) : Bool := match c with
  | [.bool s, .ints .u32 l, .bool t, .ints .u32 m] => isQ s l t m
  | _ => false
/-- Where a text's first stroke stands. -/
def ct (s : ByteArray) : Nat := ((bytesOf s).takeWhile (fun c => !(c == 47))).length
noncomputable def qe (s : ByteArray) : Int := veil (bif decide (ct s < s.size) then
      let a := s.extract 0 (ct s)
      let b := s.extract (ct s + 1) s.size
      bif re a == 10 || re b == 10 then 10 else bif !(re a == 0) || !(re b == 0) then 11 else bif decide (rv b ≤ 1) || !(gz (rv a) (rv b) == 1) then 10 else 0
    else re s) 0
theorem qe_eq (s : ByteArray) : qe s = (bif decide (ct s < s.size) then
      let a := s.extract 0 (ct s)
      let b := s.extract (ct s + 1) s.size
      bif re a == 10 || re b == 10 then 10 else bif !(re a == 0) || !(re b == 0) then 11 else bif decide (rv b ≤ 1) || !(gz (rv a) (rv b) == 1) then 10 else 0
    else re s) := veil_eq _ _
noncomputable def qv (s : ByteArray) : Rat := veil (bif decide (ct s < s.size) then (bif qe s == 0 then Rat.divInt (rv (s.extract 0 (ct s))) (rv (s.extract (ct s + 1) s.size)) else 0) else ((rv s : Int) : Rat)) 0
theorem qv_eq (s : ByteArray) : qv s = (bif decide (ct s < s.size) then (bif qe s == 0 then Rat.divInt (rv (s.extract 0 (ct s))) (rv (s.extract (ct s + 1) s.size)) else 0) else ((rv s : Int) : Rat)) := veil_eq _ _
noncomputable def qtxt (q : Rat) : ByteArray := veil (bif decide (q.den = 1) then txt q.num else txt q.num ++ (⟨#[47]⟩ ++ txt q.den)) ⟨#[]⟩
theorem qtxt_eq (q : Rat) : qtxt q = (bif decide (q.den = 1) then txt q.num else txt q.num ++ (⟨#[47]⟩ ++ txt q.den)) := veil_eq _ _
noncomputable def ansWhole : List AV → Option (Bool × Res)
  | [.agg [.bool s, .ints .u32 l]] => some (true, .val (.agg [.bool s, .ints .u32 l, .bool false, .ints .u32 []]))
  | _ => none
noncomputable def ansDen : List AV → Option (Bool × Res)
  | [.agg [.bool s, .ints .u32 l, .bool t, .ints .u32 m]] => some (cn 4294967296 t m, .val (R (dn (num 4294967296 t m))))
  | _ => none
noncomputable def ansMade : List AV → Option (Bool × Res)
  | [.agg [.bool s, .ints .u32 l], .agg [.bool t, .ints .u32 m]] => some (cn 4294967296 t m, .val (.agg [.bool s, .ints .u32 l, .bool (sg (zd (num 4294967296 t m))), .ints .u32 (lb 4294967296 (zd (num 4294967296 t m)))]))
  | _ => none
noncomputable def ansOver : List AV → Option (Bool × Res)
  | [.agg [.bool s, .ints .u32 l], .agg [.bool t, .ints .u32 m]] => some (cn 4294967296 s l && cn 4294967296 t m, .val (R (dq (num 4294967296 s l) (num 4294967296 t m))))
  | _ => none
noncomputable def ansOf : List AV → Option (Bool × Res)
  | [.agg [.bool s, .ints .u32 l], .agg [.bool t, .ints .u32 m]] => some (cn 4294967296 s l && cn 4294967296 t m, .val (.tup [Q (ofQ (num 4294967296 s l) (num 4294967296 t m)), .int .i64 (dc (num 4294967296 t m))]))
  | _ => none
noncomputable def ansQParse : List AV → Option (Bool × Res)
  | [.str s] => some (decide (s.size ≤ 10000), .val (.tup [Q (qv s), .int .i64 (qe s)]))
  | _ => none
noncomputable def ansQText : List AV → Option (Bool × Res)
  | [.agg [.bool s, .ints .u32 l, .bool t, .ints .u32 m]] => some (isQ s l t m, .val (.str (qtxt (rq s l m))))
  | _ => none
noncomputable def ansIsWhole : List AV → Option (Bool × Res)
  | [.agg [.bool s, .ints .u32 l, .bool t, .ints .u32 m]] => some (cn 4294967296 t m, .val (.bool (decide (num 4294967296 t m = 0))))
  | _ => none
noncomputable def ansQSign : List AV → Option (Bool × Res)
  | [.agg [.bool s, .ints .u32 l, .bool t, .ints .u32 m]] => some (cn 4294967296 s l, .val (.int .i64 (cmpZ (num 4294967296 s l) 0)))
  | _ => none
noncomputable def ansFloor : List AV → Option (Bool × Res)
  | [.agg [.bool s, .ints .u32 l, .bool t, .ints .u32 m]] => some (isQ s l t m, .val (R (rq s l m).floor))
  | _ => none
noncomputable def ansQAdd : List AV → Option (Bool × Res)
  | [.agg [.bool s, .ints .u32 l, .bool t, .ints .u32 m], .agg [.bool s', .ints .u32 l', .bool t', .ints .u32 m']] => some (isQ s l t m && isQ s' l' t' m', .val (.tup [Q (qadd (rq s l m) (rq s' l' m')), .int .i64 (eadd (rq s l m) (rq s' l' m'))]))
  | _ => none
noncomputable def ansmOne : List AV → Option (Bool × Res)
  | [] => some (true, .val (M 1))
  | _ => none
noncomputable def ansmParse : List AV → Option (Bool × Res)
  | [.str s] => some (decide (s.size ≤ 10000), .val (.tup [Md (qv s) (zd (qv s).den), .int .i64 (qe s)]))
  | _ => none
noncomputable def anqRat : List AV → Option (Bool × Res)
  | [.str s] => some (true, .val (.tup [Q (qv (cut 700 s)), Md (qv (cut 700 s)) (zd (qv (cut 700 s)).den)]))
  | _ => none
end Go.Abs
end
section
/- What ratio.Fold answers for a step that counts. -/
namespace Go.Abs
open Go.Dig
/-- Does the step refuse on the way? -/
def stops (k : Int) (n : Nat) : Bool := decide (0 ≤ k) && decide (k < n)
noncomputable def foV (k : Int) (l : List Rat) : Rat := veil (bif stops k l.length then 0 else l.getLastD 0) 0
theorem foV_eq (k : Int) (l : List Rat) : foV k l = (bif stops k l.length then 0 else l.getLastD 0) := veil_eq _ _
noncomputable def foS (k : Int) (l : List Rat) : Int := veil (bif stops k l.length then k else l.length) 0
theorem foS_eq (k : Int) (l : List Rat) : foS k l = (bif stops k l.length then k else l.length) := veil_eq _ _
noncomputable def foE (k : Int) (l : List Rat) : Int := veil (bif stops k l.length then 2 else 0) 0
theorem foE_eq (k : Int) (l : List Rat) : foE k l = (bif stops k l.length then 2 else 0) := veil_eq _ _
/-- The step: two rationals, how many were seen, where it stops. -/
noncomputable def ansStep : List AV → Option (Bool × Res)
  | [.agg [.bool s, .ints .u32 l, .bool t, .ints .u32 m], .agg [.bool s', .ints .u32 l', .bool t', .ints .u32 m'], .int .i64 i, .int .i64 k] => some (true, .clo (.int .i64 (bif decide (i = k) then i else IntKind.i64.wrap (i + 1))) (.int .i64 k)
      (.tup [.agg [.bool (bif decide (i = k) then false else s'), .ints .u32 (bif decide (i = k) then [] else l'), .bool (bif decide (i = k) then false else t'), .ints .u32 (bif decide (i = k) then [] else m')], .int .i64 (bif decide (i = k) then 2 else 0)]))
  | _ => none
noncomputable def ansFoldStep (g : Nat) : List AV → Option (Bool × Res)
  | [.agg [.bool false, .ints .u32 [], .bool false, .ints .u32 []], .rows 4 r, .fn f [.int .i64 i, .int .i64 k]] => some (Nat.beq f g && (decide (i = 0) && (r.all rowIsQ && decide (r.length ≤ 100000))), .clo (.int .i64 (foS k (r.map rowQ))) (.int .i64 k) (.tup [Q (foV k (r.map rowQ)), .int .i64 (foE k (r.map rowQ))]))
  | _ => none
end Go.Abs
end
section
/- States and rounds of a fold with a step that counts, as a program of this session printed them. -/
set_option maxRecDepth 10000
namespace Go.Abs
open Go.Proofs Go.Dig
noncomputable section
namespace KStep
theorem rest (s : Bool) (l : List Int) (t : Bool) (m : List Int) (sy : Bool) (ly : List Int) (ty : Bool) (my : List Int) (i : Int) (k : Int) : runTC T noOrc (noTab) Try.f38 [.agg [.bool s, .ints .u32 l, .bool t, .ints .u32 m], .agg [.bool sy, .ints .u32 ly, .bool ty, .ints .u32 my], .int .i64 i, .int .i64 k] =
    (bif i == k then some (.clo (.int .i64 i) (.int .i64 k) (.tup [.agg [.bool false, .ints .u32 [], .bool false, .ints .u32 []], .int .i64 (2)])) else some (.clo (.int .i64 (IntKind.i64.wrap (i + 1))) (.int .i64 k) (.tup [.agg [.bool sy, .ints .u32 ly, .bool ty, .ints .u32 my], .int .i64 (0)]))) := by kernel_rfl
end KStep
namespace KFold
abbrev ans : Ans := [(38, ansStep)]
abbrev orc : Orc := orcOf ans
noncomputable def L0 : Code := lp Try.f37 0
theorem isL0 : ∃ a, L0 = .loop a := ⟨_, rfl⟩
abbrev D0 : List Nat := [0, 1, 2, 3, 6, 7, 12, 13, 14]
abbrev st0 (r : List (List AV)) (x0 : Int) (x1 : Int) (k : Int) (b0 : Bool) (l0 : List Int) (b1 : Bool) (l1 : List Int) : St := ⟨.agg [.bool false, .ints .u32 [], .bool false, .ints .u32 []] :: .rows 4 r :: .clo 38 0 0 1 0 :: .ptr 3 0 0 :: tops 2 (.ptr 6 0 0 :: .int .i64 (0) :: tops 4 (.rows 4 r :: .int .i64 (↑r.length : Int) :: .int .i64 x0 :: tops 17 ([]))), varE [(false, .int .i64 x1)] :: varE [(false, .int .i64 k)] :: nos 1 (varE [(false, .bool b0), (false, .ints .u32 l0), (false, .bool b1), (false, .ints .u32 l1)] :: nos 2 (varE [(false, .bool false), (true, .ints .u32 []), (false, .bool false), (true, .ints .u32 [])] :: nos 25 ([])))⟩
abbrev st0x0 (r : List (List AV)) (x2 : Int) (x0 : Int) (x3 : Int) (k : Int) (b0 : Bool) (l0 : List Int) (b1 : Bool) (l1 : List Int) : St := ⟨.agg [.bool false, .ints .u32 [], .bool false, .ints .u32 []] :: .rows 4 r :: .clo 38 0 0 1 0 :: .ptr 3 0 0 :: tops 2 (.ptr 6 0 0 :: .int .i64 x2 :: tops 4 (.rows 4 r :: .int .i64 (↑r.length : Int) :: .int .i64 x0 :: tops 17 ([]))), varE [(false, .int .i64 x3)] :: varE [(false, .int .i64 k)] :: nos 1 (varE [(false, .bool b0), (false, .ints .u32 l0), (false, .bool b1), (false, .ints .u32 l1)] :: nos 2 (varE [(false, .bool false), (true, .ints .u32 []), (false, .bool false), (true, .ints .u32 [])] :: nos 25 ([])))⟩
theorem round0 (r : List (List AV)) (x0 : Int) (x1 : Int) (k : Int) (b0 : Bool) (l0 : List Int) (b1 : Bool) (l1 : List Int) : goL T orc (noTab) D0 L0 (st0 r x0 x1 k b0 l0 b1 l1) =
    (bif decide (x0 < (↑r.length : Int)) then (bif inB x0 r.length then (bif etasOk [.bool false, .ints .u32 [], .bool false, .ints .u32 []] (r.getD x0.toNat []) then (bif (bif decide (x1 = k) then (2 : Int) else 0) != 0 then some (.ret, st0x0 r (bif decide (x1 = k) then 2 else 0) x0 (bif decide (x1 = k) then x1 else IntKind.i64.wrap (x1 + 1)) k b0 l0 b1 l1) else some (.normal, st0 r (IntKind.i64.wrap (x0 + 1)) (bif decide (x1 = k) then x1 else IntKind.i64.wrap (x1 + 1)) k (bif decide (x1 = k) then false else gBool ((r.getD x0.toNat []).getD 0 .top)) (Bool.rec (gInts ((r.getD x0.toNat []).getD 1 .top)) [] (decide (x1 = k))) (bif decide (x1 = k) then false else gBool ((r.getD x0.toNat []).getD 2 .top)) (Bool.rec (gInts ((r.getD x0.toNat []).getD 3 .top)) [] (decide (x1 = k))))) else none) else none) else some (.exit 0, st0 r x0 x1 k b0 l0 b1 l1)) := by kernel_rfl
-- loop 0 ends ret st0x0 r x2 x0 x3 k b0 l0 b1 l1
-- loop 0 ends exit0 st0 r x0 x1 k b0 l0 b1 l1
theorem rest_0 (r : List (List AV)) (i : Int) (k : Int) (x6 : Int) (x4 : Int) (x5 : Int) (b2 : Bool) (l2 : List Int) (b3 : Bool) (l3 : List Int) : runTC T orc (tabOf T orc [(2, 156817396200125102639992174036544057070, .ret, st0x0 r x4 x5 x6 k b2 l2 b3 l3)]) Try.f37 [.agg [.bool false, .ints .u32 [], .bool false, .ints .u32 []], .rows 4 r, .fn 38 [.int .i64 i, .int .i64 k]] =
    (bif cdec (Ends T orc L0 D0 (st0 r (0) i k (false) ([]) (false) ([])) .ret (st0x0 r x4 x5 x6 k b2 l2 b3 l3)) then some (.clo (.int .i64 x6) (.int .i64 k) (.tup [.agg [.bool false, .ints .u32 [], .bool false, .ints .u32 []], .int .i64 x4])) else none) := by kernel_rfl
theorem rest_1 (r : List (List AV)) (i : Int) (k : Int) (x8 : Int) (b4 : Bool) (l4 : List Int) (b5 : Bool) (l5 : List Int) (x7 : Int) : runTC T orc (tabOf T orc [(2, 156817396200125102639992174036544057070, .exit 0, st0 r x7 x8 k b4 l4 b5 l5)]) Try.f37 [.agg [.bool false, .ints .u32 [], .bool false, .ints .u32 []], .rows 4 r, .fn 38 [.int .i64 i, .int .i64 k]] =
    (bif cdec (Ends T orc L0 D0 (st0 r (0) i k (false) ([]) (false) ([])) (.exit 0) (st0 r x7 x8 k b4 l4 b5 l5)) then some (.clo (.int .i64 x8) (.int .i64 k) (.tup [.agg [.bool b4, .ints .u32 l4, .bool b5, .ints .u32 l5], .int .i64 (0)])) else none) := by kernel_rfl
end KFold
namespace KFolds
abbrev ans : Ans := [(14, anlAwake), (28, anqRat), (37, ansFoldStep 38), (39, ansQSign), (27, ansQText)]
abbrev orc : Orc := orcOf ans
noncomputable def L0 : Code := lp Try.f7 0
theorem isL0 : ∃ a, L0 = .loop a := ⟨_, rfl⟩
abbrev D0 : List Nat := [0, 1, 3, 4, 5, 6, 12, 13]
abbrev st0 (r : List (List AV)) (k : Int) (x0 : Int) (r0 : List (List AV)) : St := ⟨.rows 1 r :: .int .i64 k :: tops 1 (.ptr 3 0 0 :: .bool false :: .sl 5 0 0 :: .int .i64 x0 :: tops 5 (.bool true :: .bool false :: tops 72 ([]))), nos 3 (varE [(false, .int .i64 k)] :: nos 1 (rowE (.rows 4 r0) :: nos 80 ([])))⟩
theorem round0 (r : List (List AV)) (k : Int) (x0 : Int) (r0 : List (List AV)) : goL T orc (noTab) D0 L0 (st0 r k x0 r0) =
    (bif decide (x0 < (↑r.length : Int)) then (bif decide (x0 < 12) then (bif inB x0 r.length then (bif etaOk (.str { data := #[] }) ((r.getD x0.toNat []).getD 0 .top) then (bif true && decide ((r0 ++ [[AV.bool (sg (qv (cut 700 (gStr ((r.getD x0.toNat []).getD 0 .top)))).num), .ints .u32 (lb (4294967296) (qv (cut 700 (gStr ((r.getD x0.toNat []).getD 0 .top)))).num), .bool false, .ints .u32 (lb (4294967296) (zd (↑(qv (cut 700 (gStr ((r.getD x0.toNat []).getD 0 .top)))).den : Int)))]]).length * 64 ≤ 140737488355328) then some (.normal, st0 r k (IntKind.i64.wrap (x0 + 1)) (r0 ++ [[AV.bool (sg (qv (cut 700 (gStr ((r.getD x0.toNat []).getD 0 .top)))).num), .ints .u32 (lb (4294967296) (qv (cut 700 (gStr ((r.getD x0.toNat []).getD 0 .top)))).num), .bool false, .ints .u32 (lb (4294967296) (zd (↑(qv (cut 700 (gStr ((r.getD x0.toNat []).getD 0 .top)))).den : Int)))]])) else none) else none) else none) else some (.exit 0, st0 r k x0 r0)) else some (.exit 0, st0 r k x0 r0)) := by kernel_rfl
-- loop 0 ends exit0 st0 r k x0 r0
theorem rest (r : List (List AV)) (k : Int) (r1 : List (List AV)) (x1 : Int) : runT T orc (tabOf T orc [(5, 11466205081547584991934951083942466187887057659065297832643447446866607733815008547711572154289398673134, .exit 0, st0 r k x1 r1)]) Try.f7 [.rows 1 r, .int .i64 k] =
    (bif cdec (Ends T orc L0 D0 (st0 r k (0) ([])) (.exit 0) (st0 r k x1 r1)) then (bif true && (true && (r1.all rowIsQ && decide (r1.length ≤ 100000))) && true then (bif decide (k ≥ 0) then (bif decide (k < (↑r1.length : Int)) then (bif foE k (List.map rowQ r1) == 2 then (bif foS k (List.map rowQ r1) == k then (bif cn (4294967296) (sg (foV k (List.map rowQ r1)).num) (lb (4294967296) (foV k (List.map rowQ r1)).num) then some (.val (.bool (cmpZ (N (4294967296) (foV k (List.map rowQ r1)).num) (0) == 0))) else none) else some (.val (.bool false))) else some (.val (.bool false))) else (bif foE k (List.map rowQ r1) == 0 then (bif foS k (List.map rowQ r1) == (↑r1.length : Int) then (bif foS k (List.map rowQ r1) == 0 then some (.val (.bool true)) else (bif isQ (sg (foV k (List.map rowQ r1)).num) (lb (4294967296) (foV k (List.map rowQ r1)).num) false (lb (4294967296) (zd (↑(foV k (List.map rowQ r1)).den : Int))) then (bif inB (IntKind.i64.wrap (foS k (List.map rowQ r1) - 1)) r1.length then (bif etasOk [.bool false, .ints .u32 [], .bool false, .ints .u32 []] (r1.getD (IntKind.i64.wrap (foS k (List.map rowQ r1) - 1)).toNat []) then (bif isQ (gBool ((r1.getD (IntKind.i64.wrap (foS k (List.map rowQ r1) - 1)).toNat []).getD 0 .top)) (gInts ((r1.getD (IntKind.i64.wrap (foS k (List.map rowQ r1) - 1)).toNat []).getD 1 .top)) (gBool ((r1.getD (IntKind.i64.wrap (foS k (List.map rowQ r1) - 1)).toNat []).getD 2 .top)) (gInts ((r1.getD (IntKind.i64.wrap (foS k (List.map rowQ r1) - 1)).toNat []).getD 3 .top)) then some (.val (.bool ((qtxt (rq (sg (foV k (List.map rowQ r1)).num) (lb (4294967296) (foV k (List.map rowQ r1)).num) (lb (4294967296) (zd (↑(foV k (List.map rowQ r1)).den : Int))))).toList == (qtxt (rq (gBool ((r1.getD (IntKind.i64.wrap (foS k (List.map rowQ r1) - 1)).toNat []).getD 0 .top)) (gInts ((r1.getD (IntKind.i64.wrap (foS k (List.map rowQ r1) - 1)).toNat []).getD 1 .top)) (gInts ((r1.getD (IntKind.i64.wrap (foS k (List.map rowQ r1) - 1)).toNat []).getD 3 .top)))).toList))) else none) else none) else none) else none)) else some (.val (.bool false))) else some (.val (.bool false)))) else (bif foE k (List.map rowQ r1) == 0 then (bif foS k (List.map rowQ r1) == (↑r1.length : Int) then (bif foS k (List.map rowQ r1) == 0 then some (.val (.bool true)) else (bif isQ (sg (foV k (List.map rowQ r1)).num) (lb (4294967296) (foV k (List.map rowQ r1)).num) false (lb (4294967296) (zd (↑(foV k (List.map rowQ r1)).den : Int))) then (bif inB (IntKind.i64.wrap (foS k (List.map rowQ r1) - 1)) r1.length then (bif etasOk [.bool false, .ints .u32 [], .bool false, .ints .u32 []] (r1.getD (IntKind.i64.wrap (foS k (List.map rowQ r1) - 1)).toNat []) then (bif isQ (gBool ((r1.getD (IntKind.i64.wrap (foS k (List.map rowQ r1) - 1)).toNat []).getD 0 .top)) (gInts ((r1.getD (IntKind.i64.wrap (foS k (List.map rowQ r1) - 1)).toNat []).getD 1 .top)) (gBool ((r1.getD (IntKind.i64.wrap (foS k (List.map rowQ r1) - 1)).toNat []).getD 2 .top)) (gInts ((r1.getD (IntKind.i64.wrap (foS k (List.map rowQ r1) - 1)).toNat []).getD 3 .top)) then some (.val (.bool ((qtxt (rq (sg (foV k (List.map rowQ r1)).num) (lb (4294967296) (foV k (List.map rowQ r1)).num) (lb (4294967296) (zd (↑(foV k (List.map rowQ r1)).den : Int))))).toList == (qtxt (rq (gBool ((r1.getD (IntKind.i64.wrap (foS k (List.map rowQ r1) - 1)).toNat []).getD 0 .top)) (gInts ((r1.getD (IntKind.i64.wrap (foS k (List.map rowQ r1) - 1)).toNat []).getD 1 .top)) (gInts ((r1.getD (IntKind.i64.wrap (foS k (List.map rowQ r1) - 1)).toNat []).getD 3 .top)))).toList))) else none) else none) else none) else none)) else some (.val (.bool false))) else some (.val (.bool false)))) else none) else none) := by kernel_rfl
end KFolds
end
end Go.Abs
end
section
/- States and rounds of the reference's functions of layer 1, as a program of this session printed them (5). -/
set_option maxRecDepth 10000
namespace Go.Abs
open Go.Proofs Go.Dig
namespace RPower
abbrev ans : Ans := [(99, anrPlusMag)]
abbrev orc : Orc := orcOf ans
noncomputable def L0 : Code := lp Try.f87 0
theorem isL0 : ∃ a, L0 = .loop a := ⟨_, rfl⟩
abbrev D0 : List Nat := [0, 2, 3, 4, 5]
abbrev st0 (n : Int) (x0 : Int) (l0 : List Int) : St := ⟨.int .i64 n :: tops 1 (.sl 2 0 0 :: .sl 3 0 0 :: .int .i64 x0 :: .sl 5 0 0 :: tops 9 ([])), nos 2 (rowE (.ints .i64 []) :: rowE (.ints .i64 l0) :: nos 1 ({ g := 0, pg := 0, o := some (AObj.row { g := 0, own := false, v := .top }) } :: nos 9 ([])))⟩
theorem round0 (n : Int) (x0 : Int) (l0 : List Int) : goL T orc (noTab) D0 L0 (st0 n x0 l0) =
    (bif decide (x0 < n) then (bif few l0 && few l0 && okB (10) l0 && okB (10) l0 then some (.normal, st0 n (IntKind.i64.wrap (x0 + 1)) (plusD l0 l0)) else none) else some (.exit 0, st0 n x0 l0)) := by kernel_rfl
-- loop 0 ends exit0 st0 n x0 l0
theorem rest (n : Int) (l1 : List Int) (x1 : Int) : runT T orc (tabOf T orc [(3, 138100511293239022, .exit 0, st0 n x1 l1)]) Try.f87 [.int .i64 n] =
    (bif cdec (Ends T orc L0 D0 (st0 n (0) ([1])) (.exit 0) (st0 n x1 l1)) then some (.own (.ints .i64 l1)) else none) := by kernel_rfl
end RPower
namespace RTooBig
abbrev ans : Ans := [(86, anrCmpMag), (87, anrPower)]
abbrev orc : Orc := orcOf ans
theorem rest (s : Bool) (l : List Int) : runT T orc (noTab) Try.f61 [.agg [.bool s, .ints .i64 l]] =
    (bif decide ((↑l.length : Int) > 309) then some (.val (.bool true)) else (bif (↑l.length : Int) == 309 then (bif cl (10) l && true then some (.val (.bool (decide (cmpZ (val (10) l) (val (10) (limbs (10) (2 ^ 1024))) ≥ 0)))) else none) else some (.val (.bool false)))) := by kernel_rfl
end RTooBig
end Go.Abs
end
section
/- States and rounds of the reference's functions of layer 1, as a program of this session printed them (1). -/
set_option maxRecDepth 10000
namespace Go.Abs
open Go.Proofs Go.Dig
namespace RTrim
noncomputable def L0 : Code := lp Try.f85 0
theorem isL0 : ∃ a, L0 = .loop a := ⟨_, rfl⟩
abbrev D0 : List Nat := [0, 1, 4, 5, 6, 7]
abbrev st0 (s : Bool) (l : List Int) (x0 : Int) : St := ⟨.bool s :: .ints .i64 l :: tops 2 (.ptr 4 0 0 :: .int .i64 x0 :: .ints .i64 l :: .int .i64 (↑l.length : Int) :: tops 22 ([])), nos 4 (varE [(false, .bool false), (true, .ints .i64 [])] :: nos 25 ([]))⟩
theorem round0 (s : Bool) (l : List Int) (x0 : Int) : goL T noOrc (noTab) D0 L0 (st0 s l x0) =
    (bif decide (x0 > 0) then (bif inB (IntKind.i64.wrap (x0 - 1)) l.length then (bif rd l (IntKind.i64.wrap (x0 - 1)) == 0 then some (.normal, st0 s l (IntKind.i64.wrap (x0 - 1))) else some (.exit 0, st0 s l x0)) else none) else some (.exit 0, st0 s l x0)) := by kernel_rfl
-- loop 0 ends exit0 st0 s l x0
theorem rest (s : Bool) (l : List Int) (x1 : Int) : runT T noOrc (tabOf T noOrc [(2, 191761408881865774737633242118024942, .exit 0, st0 s l x1)]) Try.f85 [.bool s, .ints .i64 l] =
    (bif cdec (Ends T noOrc L0 D0 (st0 s l ((↑l.length : Int))) (.exit 0) (st0 s l x1)) then (bif x1 == 0 then some (.val (.agg [.bool false, .ints .i64 []])) else (bif decide (0 ≤ x1) && decide (x1 ≤ (↑l.length : Int)) then (bif true && decide (([] ++ List.take x1.toNat l).length * 8 ≤ 140737488355328) then some (.val (.agg [.bool s, .ints .i64 ([] ++ List.take x1.toNat l)])) else none) else none)) else none) := by kernel_rfl
end RTrim
namespace RForm
noncomputable def L0 : Code := lp Try.f59 0
theorem isL0 : ∃ a, L0 = .loop a := ⟨_, rfl⟩
abbrev D0 : List Nat := [0, 2, 3, 4, 5, 6, 7, 11, 12, 13, 14, 15, 16, 26]
abbrev st0 (s : ByteArray) (x4 : Int) (b9 : Bool) (b10 : Bool) (x3 : Int) (b11 : Bool) (b12 : Bool) : St := ⟨.str s :: tops 1 (.bool false :: .int .i64 x4 :: .str s :: .int .i64 (↑s.size : Int) :: .bool (decide ((↑s.size : Int) > 0)) :: .bool b9 :: tops 3 (.bool b10 :: .int .i64 x3 :: .str s :: .int .i64 (↑s.size : Int) :: .bool b11 :: .bool false :: tops 9 (.bool b12 :: tops 16 ([])))), nos 43 ([])⟩
theorem round0 (s : ByteArray) (x4 : Int) (b9 : Bool) (b10 : Bool) (x3 : Int) (b11 : Bool) (b12 : Bool) : goL T noOrc (noTab) D0 L0 (st0 s x4 b9 b10 x3 b11 b12) =
    (bif decide (x4 < (↑s.size : Int)) then (bif inB x4 s.size then (bif decide (bt s x4 < 48) then some (.ret, st0 s x4 b9 b10 x3 b11 b12) else (bif inB x4 s.size then (bif decide (bt s x4 > 57) then some (.ret, st0 s x4 b9 b10 x3 b11 b12) else some (.normal, st0 s (IntKind.i64.wrap (x4 + 1)) b9 b10 x3 b11 b12)) else none)) else none) else some (.exit 0, st0 s x4 b9 b10 x3 b11 b12)) := by kernel_rfl
-- loop 0 ends ret st0 s x4 b9 b10 x3 b11 b12
-- loop 0 ends exit0 st0 s x4 b9 b10 x3 b11 b12
theorem rest_0 (s : ByteArray) (x5 : Int) (b13 : Bool) (b14 : Bool) (x6 : Int) (b15 : Bool) (b16 : Bool) : runT T noOrc (tabOf T noOrc [(6, 1452841503833173203039733547063278207365781283335918, .ret, st0 s x5 b13 b14 x6 b15 b16)]) Try.f59 [.str s] =
    (bif decide ((↑s.size : Int) > 0) then (bif inB (0) s.size then (bif bt s (0) == 45 then (bif 1 == (↑s.size : Int) then some (.val (.bool false)) else (bif inB (1) s.size then (bif bt s (1) == 48 then (bif decide ((↑s.size : Int) > 1) then some (.val (.bool false)) else (bif cdec (Ends T noOrc L0 D0 (st0 s (1) (true) (bt s (0) == 45) (1) (1 == (↑s.size : Int)) (decide ((↑s.size : Int) > 1))) .ret (st0 s x5 b13 b14 x6 b15 b16)) then some (.val (.bool false)) else none)) else (bif cdec (Ends T noOrc L0 D0 (st0 s (1) (true) (bt s (0) == 45) (1) (1 == (↑s.size : Int)) (false)) .ret (st0 s x5 b13 b14 x6 b15 b16)) then some (.val (.bool false)) else none)) else none)) else (bif 0 == (↑s.size : Int) then some (.val (.bool false)) else (bif inB (0) s.size then (bif bt s (0) == 48 then (bif decide ((↑s.size : Int) > 1) then some (.val (.bool false)) else (bif cdec (Ends T noOrc L0 D0 (st0 s (0) (true) (bt s (0) == 45) (0) (0 == (↑s.size : Int)) (decide ((↑s.size : Int) > 1))) .ret (st0 s x5 b13 b14 x6 b15 b16)) then some (.val (.bool false)) else none)) else (bif cdec (Ends T noOrc L0 D0 (st0 s (0) (true) (bt s (0) == 45) (0) (0 == (↑s.size : Int)) (false)) .ret (st0 s x5 b13 b14 x6 b15 b16)) then some (.val (.bool false)) else none)) else none))) else none) else (bif 0 == (↑s.size : Int) then some (.val (.bool false)) else (bif inB (0) s.size then (bif bt s (0) == 48 then (bif decide ((↑s.size : Int) > 1) then some (.val (.bool false)) else (bif cdec (Ends T noOrc L0 D0 (st0 s (0) (false) (false) (0) (0 == (↑s.size : Int)) (decide ((↑s.size : Int) > 1))) .ret (st0 s x5 b13 b14 x6 b15 b16)) then some (.val (.bool false)) else none)) else (bif cdec (Ends T noOrc L0 D0 (st0 s (0) (false) (false) (0) (0 == (↑s.size : Int)) (false)) .ret (st0 s x5 b13 b14 x6 b15 b16)) then some (.val (.bool false)) else none)) else none))) := by kernel_rfl
theorem rest_1 (s : ByteArray) (x7 : Int) (b17 : Bool) (b18 : Bool) (x8 : Int) (b19 : Bool) (b20 : Bool) : runT T noOrc (tabOf T noOrc [(6, 1452841503833173203039733547063278207365781283335918, .exit 0, st0 s x7 b17 b18 x8 b19 b20)]) Try.f59 [.str s] =
    (bif decide ((↑s.size : Int) > 0) then (bif inB (0) s.size then (bif bt s (0) == 45 then (bif 1 == (↑s.size : Int) then some (.val (.bool false)) else (bif inB (1) s.size then (bif bt s (1) == 48 then (bif decide ((↑s.size : Int) > 1) then some (.val (.bool false)) else (bif cdec (Ends T noOrc L0 D0 (st0 s (1) (true) (bt s (0) == 45) (1) (1 == (↑s.size : Int)) (decide ((↑s.size : Int) > 1))) (.exit 0) (st0 s x7 b17 b18 x8 b19 b20)) then some (.val (.bool true)) else none)) else (bif cdec (Ends T noOrc L0 D0 (st0 s (1) (true) (bt s (0) == 45) (1) (1 == (↑s.size : Int)) (false)) (.exit 0) (st0 s x7 b17 b18 x8 b19 b20)) then some (.val (.bool true)) else none)) else none)) else (bif 0 == (↑s.size : Int) then some (.val (.bool false)) else (bif inB (0) s.size then (bif bt s (0) == 48 then (bif decide ((↑s.size : Int) > 1) then some (.val (.bool false)) else (bif cdec (Ends T noOrc L0 D0 (st0 s (0) (true) (bt s (0) == 45) (0) (0 == (↑s.size : Int)) (decide ((↑s.size : Int) > 1))) (.exit 0) (st0 s x7 b17 b18 x8 b19 b20)) then some (.val (.bool true)) else none)) else (bif cdec (Ends T noOrc L0 D0 (st0 s (0) (true) (bt s (0) == 45) (0) (0 == (↑s.size : Int)) (false)) (.exit 0) (st0 s x7 b17 b18 x8 b19 b20)) then some (.val (.bool true)) else none)) else none))) else none) else (bif 0 == (↑s.size : Int) then some (.val (.bool false)) else (bif inB (0) s.size then (bif bt s (0) == 48 then (bif decide ((↑s.size : Int) > 1) then some (.val (.bool false)) else (bif cdec (Ends T noOrc L0 D0 (st0 s (0) (false) (false) (0) (0 == (↑s.size : Int)) (decide ((↑s.size : Int) > 1))) (.exit 0) (st0 s x7 b17 b18 x8 b19 b20)) then some (.val (.bool true)) else none)) else (bif cdec (Ends T noOrc L0 D0 (st0 s (0) (false) (false) (0) (0 == (↑s.size : Int)) (false)) (.exit 0) (st0 s x7 b17 b18 x8 b19 b20)) then some (.val (.bool true)) else none)) else none))) := by kernel_rfl
end RForm
namespace RParse
abbrev ans : Ans := [(59, anrForm), (60, anrExact), (61, anrTooBig)]
abbrev orc : Orc := orcOf ans
theorem rest (s : ByteArray) : runT T orc (noTab) Try.f16 [.str s] =
    (bif decide (s.size ≤ 10000) then (bif !form (bytesOf s) then some (.val (.tup [.agg [.bool false, .ints .i64 []], .int .i64 (10)])) else (bif decide ((↑s.size : Int) > 400) then some (.val (.tup [.agg [.bool false, .ints .i64 []], .int .i64 (11)])) else (bif decide (s.size ≤ 10000) && form (bytesOf s) then (bif cn (10) (sg (tval (bytesOf s))) (lb (10) (tval (bytesOf s))) then (bif !fits (N (10) (tval (bytesOf s))) then some (.val (.tup [.agg [.bool false, .ints .i64 []], .int .i64 (11)])) else some (.val (.tup [M (tval (bytesOf s)), .int .i64 (0)]))) else none) else none))) else none) := by kernel_rfl
end RParse
namespace RExact
abbrev ans : Ans := [(85, anrTrim)]
abbrev orc : Orc := orcOf ans
noncomputable def L0 : Code := lp Try.f60 0
theorem isL0 : ∃ a, L0 = .loop a := ⟨_, rfl⟩
abbrev D0 : List Nat := [0, 2, 3, 4, 5, 6, 7]
abbrev st0 (s : ByteArray) (x0 : Int) (l0 : List Int) : St := ⟨.str s :: tops 1 (.ptr 2 0 0 :: .sl 3 0 0 :: .int .i64 x0 :: .str s :: .int .i64 (↑s.size : Int) :: .int .i64 (IntKind.i64.wrap ((↑s.size : Int) - 1)) :: tops 23 ([])), nos 2 (varE [(false, .bool false), (true, .ints .i64 [])] :: rowE (.ints .i64 l0) :: nos 27 ([]))⟩
theorem round0 (s : ByteArray) (x0 : Int) (l0 : List Int) : goL T orc (noTab) D0 L0 (st0 s x0 l0) =
    (bif decide (x0 ≥ 0) then (bif inB x0 s.size then (bif bt s x0 != 45 then (bif inB x0 s.size then (bif true && decide ((l0 ++ [IntKind.i64.wrap (IntKind.u8.wrap (bt s x0 - 48))]).length * 8 ≤ 140737488355328) then some (.normal, st0 s (IntKind.i64.wrap (x0 - 1)) (l0 ++ [IntKind.i64.wrap (IntKind.u8.wrap (bt s x0 - 48))])) else none) else none) else some (.exit 0, st0 s x0 l0)) else none) else some (.exit 0, st0 s x0 l0)) := by kernel_rfl
-- loop 0 ends exit0 st0 s x0 l0
theorem rest (s : ByteArray) (l1 : List Int) (x1 : Int) : runT T orc (tabOf T orc [(3, 5200758515092916544523431875879825134, .exit 0, st0 s x1 l1)]) Try.f60 [.str s] =
    (bif cdec (Ends T orc L0 D0 (st0 s (IntKind.i64.wrap ((↑s.size : Int) - 1)) ([])) (.exit 0) (st0 s x1 l1)) then (bif inB (0) s.size then (bif few l1 && okB (10) l1 then some (.val (M (num (10) (bt s (0) == 45) l1))) else none) else none) else none) := by kernel_rfl
end RExact
end Go.Abs
end
section
/- States and rounds of the reference's functions of layer 1, as a program of this session printed them (2). -/
set_option maxRecDepth 10000
namespace Go.Abs
open Go.Proofs Go.Dig
namespace RFrom
abbrev ans : Ans := [(85, anrTrim)]
abbrev orc : Orc := orcOf ans
noncomputable def L0 : Code := lp Try.f92 0
theorem isL0 : ∃ a, L0 = .loop a := ⟨_, rfl⟩
abbrev D0 : List Nat := [0, 2, 3, 4, 5, 6, 7, 8, 9, 10]
abbrev st0 (n : Int) (x0 : Int) (l0 : List Int) : St := ⟨.int .i64 n :: tops 1 (.ptr 2 0 0 :: .int .u64 x0 :: .sl 4 0 0 :: .int .i64 n :: .int .u64 (IntKind.u64.wrap n) :: .int .i64 n :: .bool (decide (n < 0)) :: .int .u64 (IntKind.u64.wrap n) :: .int .u64 (IntKind.u64.wrap (0 - IntKind.u64.wrap n)) :: tops 14 ([])), nos 2 (varE [(false, .bool false), (true, .ints .i64 [])] :: nos 1 (rowE (.ints .i64 l0) :: nos 20 ([])))⟩
theorem round0 (n : Int) (x0 : Int) (l0 : List Int) : goL T orc (noTab) D0 L0 (st0 n x0 l0) =
    (bif decide (x0 > 0) then (bif true && decide ((l0 ++ [IntKind.i64.wrap (x0.tmod (10))]).length * 8 ≤ 140737488355328) then some (.normal, st0 n (IntKind.u64.wrap (x0.tdiv (10))) (l0 ++ [IntKind.i64.wrap (x0.tmod (10))])) else none) else some (.exit 0, st0 n x0 l0)) := by kernel_rfl
-- loop 0 ends exit0 st0 n x0 l0
noncomputable def L0a : Code := lp Try.f92 0
theorem isL0a : ∃ a, L0a = .loop a := ⟨_, rfl⟩
abbrev D0a : List Nat := [0, 2, 3, 4, 5, 6, 7, 8]
abbrev st0a (n : Int) (x2 : Int) (l2 : List Int) : St := ⟨.int .i64 n :: tops 1 (.ptr 2 0 0 :: .int .u64 x2 :: .sl 4 0 0 :: .int .i64 n :: .int .u64 (IntKind.u64.wrap n) :: .int .i64 n :: .bool (decide (n < 0)) :: tops 16 ([])), nos 2 (varE [(false, .bool false), (true, .ints .i64 [])] :: nos 1 (rowE (.ints .i64 l2) :: nos 20 ([])))⟩
theorem round0a (n : Int) (x2 : Int) (l2 : List Int) : goL T orc (noTab) D0a L0a (st0a n x2 l2) =
    (bif decide (x2 > 0) then (bif true && decide ((l2 ++ [IntKind.i64.wrap (x2.tmod (10))]).length * 8 ≤ 140737488355328) then some (.normal, st0a n (IntKind.u64.wrap (x2.tdiv (10))) (l2 ++ [IntKind.i64.wrap (x2.tmod (10))])) else none) else some (.exit 0, st0a n x2 l2)) := by kernel_rfl
-- loop 0a ends exit0 st0a n x2 l2
theorem rest (n : Int) (l3 : List Int) (x3 : Int) (l1 : List Int) (x1 : Int) : runT T orc (tabOf T orc [(5, 151369682487511553928781033198, .exit 0, st0 n x1 l1), (5, 151369682503436282211163107054, .exit 0, st0a n x3 l3)]) Try.f92 [.int .i64 n] =
    (bif decide (n < 0) then (bif cdec (Ends T orc L0 D0 (st0 n (IntKind.u64.wrap (0 - IntKind.u64.wrap n)) ([])) (.exit 0) (st0 n x1 l1)) then (bif few l1 && okB (10) l1 then some (.val (M (num (10) (decide (n < 0)) l1))) else none) else none) else (bif cdec (Ends T orc L0a D0a (st0a n (IntKind.u64.wrap n) ([])) (.exit 0) (st0a n x3 l3)) then (bif few l3 && okB (10) l3 then some (.val (M (num (10) (decide (n < 0)) l3))) else none) else none)) := by kernel_rfl
end RFrom
namespace RCmpMag
noncomputable def L0 : Code := lp Try.f86 0
theorem isL0 : ∃ a, L0 = .loop a := ⟨_, rfl⟩
abbrev D0 : List Nat := [0, 1, 4, 5, 6, 7, 8, 9, 10, 16, 17, 18]
abbrev st0 (a : List Int) (b : List Int) (x0 : Int) : St := ⟨.ints .i64 a :: .ints .i64 b :: tops 2 (.int .i64 (0) :: .int .i64 x0 :: .ints .i64 a :: .int .i64 (↑a.length : Int) :: .ints .i64 b :: .int .i64 (↑b.length : Int) :: .bool ((↑a.length : Int) != (↑b.length : Int)) :: tops 5 (.ints .i64 a :: .int .i64 (↑a.length : Int) :: .int .i64 (IntKind.i64.wrap ((↑a.length : Int) - 1)) :: tops 22 ([]))), nos 41 ([])⟩
abbrev st0x0 (a : List Int) (b : List Int) (x1 : Int) (x0 : Int) : St := ⟨.ints .i64 a :: .ints .i64 b :: tops 2 (.int .i64 x1 :: .int .i64 x0 :: .ints .i64 a :: .int .i64 (↑a.length : Int) :: .ints .i64 b :: .int .i64 (↑b.length : Int) :: .bool ((↑a.length : Int) != (↑b.length : Int)) :: tops 5 (.ints .i64 a :: .int .i64 (↑a.length : Int) :: .int .i64 (IntKind.i64.wrap ((↑a.length : Int) - 1)) :: tops 22 ([]))), nos 41 ([])⟩
theorem round0 (a : List Int) (b : List Int) (x0 : Int) : goL T noOrc (noTab) D0 L0 (st0 a b x0) =
    (bif decide (x0 ≥ 0) then (bif inB x0 a.length then (bif inB x0 b.length then (bif decide (rd a x0 < rd b x0) then some (.ret, st0x0 a b (-1) x0) else (bif inB x0 a.length then (bif inB x0 b.length then (bif decide (rd a x0 > rd b x0) then some (.ret, st0x0 a b (1) x0) else some (.normal, st0 a b (IntKind.i64.wrap (x0 - 1)))) else none) else none)) else none) else none) else some (.exit 0, st0 a b x0)) := by kernel_rfl
-- loop 0 ends ret st0x0 a b x1 x0
-- loop 0 ends exit0 st0 a b x0
theorem rest_0 (a : List Int) (b : List Int) (x2 : Int) (x3 : Int) : runT T noOrc (tabOf T noOrc [(6, 6296327246194073235394988886570687419353624669934, .ret, st0x0 a b x2 x3)]) Try.f86 [.ints .i64 a, .ints .i64 b] =
    (bif (↑a.length : Int) != (↑b.length : Int) then (bif decide ((↑a.length : Int) < (↑b.length : Int)) then some (.val (.int .i64 (-1))) else some (.val (.int .i64 (1)))) else (bif cdec (Ends T noOrc L0 D0 (st0 a b (IntKind.i64.wrap ((↑a.length : Int) - 1))) .ret (st0x0 a b x2 x3)) then some (.val (.int .i64 x2)) else none)) := by kernel_rfl
theorem rest_1 (a : List Int) (b : List Int) (x4 : Int) : runT T noOrc (tabOf T noOrc [(6, 6296327246194073235394988886570687419353624669934, .exit 0, st0 a b x4)]) Try.f86 [.ints .i64 a, .ints .i64 b] =
    (bif (↑a.length : Int) != (↑b.length : Int) then (bif decide ((↑a.length : Int) < (↑b.length : Int)) then some (.val (.int .i64 (-1))) else some (.val (.int .i64 (1)))) else (bif cdec (Ends T noOrc L0 D0 (st0 a b (IntKind.i64.wrap ((↑a.length : Int) - 1))) (.exit 0) (st0 a b x4)) then some (.val (.int .i64 (0))) else none)) := by kernel_rfl
end RCmpMag
namespace RCmp
abbrev ans : Ans := [(86, anrCmpMag)]
abbrev orc : Orc := orcOf ans
theorem rest (s : Bool) (l : List Int) (t : Bool) (m : List Int) : runT T orc (noTab) Try.f69 [.agg [.bool s, .ints .i64 l], .agg [.bool t, .ints .i64 m]] =
    (bif s then (bif !t then some (.val (.int .i64 (-1))) else (bif !s then (bif t then some (.val (.int .i64 (1))) else (bif s then (bif cl (10) m && cl (10) l then some (.val (.int .i64 (cmpZ (val (10) m) (val (10) l)))) else none) else (bif cl (10) l && cl (10) m then some (.val (.int .i64 (cmpZ (val (10) l) (val (10) m)))) else none))) else (bif s then (bif cl (10) m && cl (10) l then some (.val (.int .i64 (cmpZ (val (10) m) (val (10) l)))) else none) else (bif cl (10) l && cl (10) m then some (.val (.int .i64 (cmpZ (val (10) l) (val (10) m)))) else none)))) else (bif !s then (bif t then some (.val (.int .i64 (1))) else (bif s then (bif cl (10) m && cl (10) l then some (.val (.int .i64 (cmpZ (val (10) m) (val (10) l)))) else none) else (bif cl (10) l && cl (10) m then some (.val (.int .i64 (cmpZ (val (10) l) (val (10) m)))) else none))) else (bif s then (bif cl (10) m && cl (10) l then some (.val (.int .i64 (cmpZ (val (10) m) (val (10) l)))) else none) else (bif cl (10) l && cl (10) m then some (.val (.int .i64 (cmpZ (val (10) l) (val (10) m)))) else none)))) := by kernel_rfl
end RCmp
namespace RPlusMag
noncomputable def L0 : Code := lp Try.f99 0
theorem isL0 : ∃ a, L0 = .loop a := ⟨_, rfl⟩
abbrev D0 : List Nat := [0, 1, 4, 5, 6, 7]
abbrev st0 (a : List Int) (b : List Int) (x0 : Int) (x1 : Int) (l0 : List Int) : St := ⟨.ints .i64 a :: .ints .i64 b :: tops 2 (.sl 4 0 0 :: .sl 5 0 0 :: .int .i64 x0 :: .int .i64 x1 :: tops 44 ([])), nos 4 (rowE (.ints .i64 []) :: rowE (.ints .i64 l0) :: nos 46 ([]))⟩
theorem round0 (a : List Int) (b : List Int) (x0 : Int) (x1 : Int) (l0 : List Int) : goL T noOrc (noTab) D0 L0 (st0 a b x0 x1 l0) =
    (bif decide (x1 < (↑a.length : Int)) then (bif decide (x1 < (↑a.length : Int)) then (bif inB x1 a.length then (bif decide (x1 < (↑b.length : Int)) then (bif inB x1 b.length then (bif true && decide ((l0 ++ [(IntKind.i64.wrap (IntKind.i64.wrap (x0 + rd a x1) + rd b x1)).tmod (10)]).length * 8 ≤ 140737488355328) then some (.normal, st0 a b (IntKind.i64.wrap ((IntKind.i64.wrap (IntKind.i64.wrap (x0 + rd a x1) + rd b x1)).tdiv (10))) (IntKind.i64.wrap (x1 + 1)) (l0 ++ [(IntKind.i64.wrap (IntKind.i64.wrap (x0 + rd a x1) + rd b x1)).tmod (10)])) else none) else none) else (bif true && decide ((l0 ++ [(IntKind.i64.wrap (x0 + rd a x1)).tmod (10)]).length * 8 ≤ 140737488355328) then some (.normal, st0 a b (IntKind.i64.wrap ((IntKind.i64.wrap (x0 + rd a x1)).tdiv (10))) (IntKind.i64.wrap (x1 + 1)) (l0 ++ [(IntKind.i64.wrap (x0 + rd a x1)).tmod (10)])) else none)) else none) else (bif decide (x1 < (↑b.length : Int)) then (bif inB x1 b.length then (bif true && decide ((l0 ++ [(IntKind.i64.wrap (x0 + rd b x1)).tmod (10)]).length * 8 ≤ 140737488355328) then some (.normal, st0 a b (IntKind.i64.wrap ((IntKind.i64.wrap (x0 + rd b x1)).tdiv (10))) (IntKind.i64.wrap (x1 + 1)) (l0 ++ [(IntKind.i64.wrap (x0 + rd b x1)).tmod (10)])) else none) else none) else (bif true && decide ((l0 ++ [x0.tmod (10)]).length * 8 ≤ 140737488355328) then some (.normal, st0 a b (IntKind.i64.wrap (x0.tdiv (10))) (IntKind.i64.wrap (x1 + 1)) (l0 ++ [x0.tmod (10)])) else none))) else (bif decide (x1 < (↑b.length : Int)) then (bif decide (x1 < (↑a.length : Int)) then (bif inB x1 a.length then (bif decide (x1 < (↑b.length : Int)) then (bif inB x1 b.length then (bif true && decide ((l0 ++ [(IntKind.i64.wrap (IntKind.i64.wrap (x0 + rd a x1) + rd b x1)).tmod (10)]).length * 8 ≤ 140737488355328) then some (.normal, st0 a b (IntKind.i64.wrap ((IntKind.i64.wrap (IntKind.i64.wrap (x0 + rd a x1) + rd b x1)).tdiv (10))) (IntKind.i64.wrap (x1 + 1)) (l0 ++ [(IntKind.i64.wrap (IntKind.i64.wrap (x0 + rd a x1) + rd b x1)).tmod (10)])) else none) else none) else (bif true && decide ((l0 ++ [(IntKind.i64.wrap (x0 + rd a x1)).tmod (10)]).length * 8 ≤ 140737488355328) then some (.normal, st0 a b (IntKind.i64.wrap ((IntKind.i64.wrap (x0 + rd a x1)).tdiv (10))) (IntKind.i64.wrap (x1 + 1)) (l0 ++ [(IntKind.i64.wrap (x0 + rd a x1)).tmod (10)])) else none)) else none) else (bif decide (x1 < (↑b.length : Int)) then (bif inB x1 b.length then (bif true && decide ((l0 ++ [(IntKind.i64.wrap (x0 + rd b x1)).tmod (10)]).length * 8 ≤ 140737488355328) then some (.normal, st0 a b (IntKind.i64.wrap ((IntKind.i64.wrap (x0 + rd b x1)).tdiv (10))) (IntKind.i64.wrap (x1 + 1)) (l0 ++ [(IntKind.i64.wrap (x0 + rd b x1)).tmod (10)])) else none) else none) else (bif true && decide ((l0 ++ [x0.tmod (10)]).length * 8 ≤ 140737488355328) then some (.normal, st0 a b (IntKind.i64.wrap (x0.tdiv (10))) (IntKind.i64.wrap (x1 + 1)) (l0 ++ [x0.tmod (10)])) else none))) else (bif decide (x0 > 0) then (bif decide (x1 < (↑a.length : Int)) then (bif inB x1 a.length then (bif decide (x1 < (↑b.length : Int)) then (bif inB x1 b.length then (bif true && decide ((l0 ++ [(IntKind.i64.wrap (IntKind.i64.wrap (x0 + rd a x1) + rd b x1)).tmod (10)]).length * 8 ≤ 140737488355328) then some (.normal, st0 a b (IntKind.i64.wrap ((IntKind.i64.wrap (IntKind.i64.wrap (x0 + rd a x1) + rd b x1)).tdiv (10))) (IntKind.i64.wrap (x1 + 1)) (l0 ++ [(IntKind.i64.wrap (IntKind.i64.wrap (x0 + rd a x1) + rd b x1)).tmod (10)])) else none) else none) else (bif true && decide ((l0 ++ [(IntKind.i64.wrap (x0 + rd a x1)).tmod (10)]).length * 8 ≤ 140737488355328) then some (.normal, st0 a b (IntKind.i64.wrap ((IntKind.i64.wrap (x0 + rd a x1)).tdiv (10))) (IntKind.i64.wrap (x1 + 1)) (l0 ++ [(IntKind.i64.wrap (x0 + rd a x1)).tmod (10)])) else none)) else none) else (bif decide (x1 < (↑b.length : Int)) then (bif inB x1 b.length then (bif true && decide ((l0 ++ [(IntKind.i64.wrap (x0 + rd b x1)).tmod (10)]).length * 8 ≤ 140737488355328) then some (.normal, st0 a b (IntKind.i64.wrap ((IntKind.i64.wrap (x0 + rd b x1)).tdiv (10))) (IntKind.i64.wrap (x1 + 1)) (l0 ++ [(IntKind.i64.wrap (x0 + rd b x1)).tmod (10)])) else none) else none) else (bif true && decide ((l0 ++ [x0.tmod (10)]).length * 8 ≤ 140737488355328) then some (.normal, st0 a b (IntKind.i64.wrap (x0.tdiv (10))) (IntKind.i64.wrap (x1 + 1)) (l0 ++ [x0.tmod (10)])) else none))) else some (.exit 0, st0 a b x0 x1 l0)))) := by kernel_rfl
-- loop 0 ends exit0 st0 a b x0 x1 l0
theorem rest (a : List Int) (b : List Int) (l1 : List Int) (x2 : Int) (x3 : Int) : runT T noOrc (tabOf T noOrc [(4, 110769907328176609363524836942483623350493150449428125193268974, .exit 0, st0 a b x2 x3 l1)]) Try.f99 [.ints .i64 a, .ints .i64 b] =
    (bif cdec (Ends T noOrc L0 D0 (st0 a b (0) (0) ([])) (.exit 0) (st0 a b x2 x3 l1)) then some (.own (.ints .i64 l1)) else none) := by kernel_rfl
end RPlusMag
namespace RLessMag
noncomputable def L0 : Code := lp Try.f100 0
theorem isL0 : ∃ a, L0 = .loop a := ⟨_, rfl⟩
abbrev D0 : List Nat := [0, 1, 4, 5, 6, 7]
abbrev st0 (a : List Int) (b : List Int) (x0 : Int) (x1 : Int) (l0 : List Int) : St := ⟨.ints .i64 a :: .ints .i64 b :: tops 2 (.sl 4 0 0 :: .sl 5 0 0 :: .int .i64 x0 :: .int .i64 x1 :: tops 32 ([])), nos 4 (rowE (.ints .i64 []) :: rowE (.ints .i64 l0) :: nos 34 ([]))⟩
theorem round0 (a : List Int) (b : List Int) (x0 : Int) (x1 : Int) (l0 : List Int) : goL T noOrc (noTab) D0 L0 (st0 a b x0 x1 l0) =
    (bif decide (x1 < (↑a.length : Int)) then (bif inB x1 a.length then (bif decide (x1 < (↑b.length : Int)) then (bif inB x1 b.length then (bif decide (IntKind.i64.wrap (IntKind.i64.wrap (rd a x1 - x0) - rd b x1) < 0) then (bif true && decide ((l0 ++ [IntKind.i64.wrap (IntKind.i64.wrap (IntKind.i64.wrap (rd a x1 - x0) - rd b x1) + 10)]).length * 8 ≤ 140737488355328) then some (.normal, st0 a b (1) (IntKind.i64.wrap (x1 + 1)) (l0 ++ [IntKind.i64.wrap (IntKind.i64.wrap (IntKind.i64.wrap (rd a x1 - x0) - rd b x1) + 10)])) else none) else (bif true && decide ((l0 ++ [IntKind.i64.wrap (IntKind.i64.wrap (rd a x1 - x0) - rd b x1)]).length * 8 ≤ 140737488355328) then some (.normal, st0 a b (0) (IntKind.i64.wrap (x1 + 1)) (l0 ++ [IntKind.i64.wrap (IntKind.i64.wrap (rd a x1 - x0) - rd b x1)])) else none)) else none) else (bif decide (IntKind.i64.wrap (rd a x1 - x0) < 0) then (bif true && decide ((l0 ++ [IntKind.i64.wrap (IntKind.i64.wrap (rd a x1 - x0) + 10)]).length * 8 ≤ 140737488355328) then some (.normal, st0 a b (1) (IntKind.i64.wrap (x1 + 1)) (l0 ++ [IntKind.i64.wrap (IntKind.i64.wrap (rd a x1 - x0) + 10)])) else none) else (bif true && decide ((l0 ++ [IntKind.i64.wrap (rd a x1 - x0)]).length * 8 ≤ 140737488355328) then some (.normal, st0 a b (0) (IntKind.i64.wrap (x1 + 1)) (l0 ++ [IntKind.i64.wrap (rd a x1 - x0)])) else none))) else none) else some (.exit 0, st0 a b x0 x1 l0)) := by kernel_rfl
-- loop 0 ends exit0 st0 a b x0 x1 l0
theorem rest (a : List Int) (b : List Int) (l1 : List Int) (x2 : Int) (x3 : Int) : runT T noOrc (tabOf T noOrc [(4, 393533764964276888646298988811919710963469577966, .exit 0, st0 a b x2 x3 l1)]) Try.f100 [.ints .i64 a, .ints .i64 b] =
    (bif cdec (Ends T noOrc L0 D0 (st0 a b (0) (0) ([])) (.exit 0) (st0 a b x2 x3 l1)) then some (.own (.ints .i64 l1)) else none) := by kernel_rfl
end RLessMag
end Go.Abs
end
section
/- States and rounds of the reference's functions of layer 1, as a program of this session printed them (4). -/
set_option maxRecDepth 10000
namespace Go.Abs
open Go.Proofs Go.Dig
namespace RSplit
abbrev ans : Ans := [(85, anrTrim), (86, anrCmpMag), (100, anrLessMag)]
abbrev orc : Orc := orcOf ans
noncomputable def L1 : Code := lp Try.f94 1
theorem isL1 : ∃ a, L1 = .loop a := ⟨_, rfl⟩
abbrev D1 : List Nat := [0, 1, 4, 5, 6, 7, 8, 9, 10, 11, 12, 13, 14, 15, 16, 19, 20, 21, 22, 23, 24, 25, 26, 27]
abbrev st1 (a : List Int) (b : List Int) (l10 : List Int) (x0 : Int) (l8 : List Int) (l11 : List Int) : St := ⟨.ints .i64 a :: .ints .i64 b :: tops 2 (.sl 4 0 0 :: .sl 5 0 0 :: .sl 6 0 0 :: .ints .i64 l10 :: .int .i64 x0 :: .ints .i64 a :: .int .i64 (↑a.length : Int) :: .sl 11 0 0 :: .ints .i64 a :: .int .i64 (↑a.length : Int) :: .int .i64 (IntKind.i64.wrap ((↑a.length : Int) - 1)) :: .int .i64 x0 :: .bool (decide (x0 ≥ 0)) :: tops 2 (.ints .i64 a :: .int .i64 x0 :: .place [.int .i64 (rd a x0)] :: .int .i64 (rd a x0) :: .sl 23 0 0 :: .ints .i64 l8 :: .sl 25 0 0 :: M (num (10) false (rd a x0 :: l8)) :: .ints .i64 (lb (10) (num (10) false (rd a x0 :: l8))) :: tops 17 ([]))), nos 4 (rowE (.ints .i64 []) :: rowE (.ints .i64 []) :: rowE (.ints .i64 l11) :: rowE (.ints .i64 []) :: nos 3 ({ g := 0, pg := 0, o := some (AObj.row { g := 0, own := false, v := .top }) } :: nos 11 ({ g := 0, pg := 0, o := some (AObj.row { g := 0, own := false, v := .top }) } :: nos 1 ({ g := 0, pg := 0, o := some (AObj.row { g := 0, own := false, v := .ints .i64 (rd a x0 :: l8) }) } :: nos 19 ([])))))⟩
theorem round1 (a : List Int) (b : List Int) (l10 : List Int) (x0 : Int) (l8 : List Int) (l11 : List Int) : goL T orc (noTab) D1 L1 (st1 a b l10 x0 l8 l11) =
    (bif cl (10) l10 && cl (10) b then (bif decide (cmpZ (val (10) l10) (val (10) b) ≥ 0) then (bif few l10 && few b && okB (10) l10 && okB (10) b && decide (b.length ≤ l10.length) && decide (val (10) b ≤ val (10) l10) then (bif few (lessD l10 b) && okB (10) (lessD l10 b) then (bif inB x0 l11.length then (bif inB x0 l11.length then some (.normal, st1 a b (lb (10) (num (10) false (lessD l10 b))) x0 l8 (l11.set x0.toNat (IntKind.i64.wrap (rd l11 x0 + 1)))) else none) else none) else none) else none) else some (.exit 2, st1 a b l10 x0 l8 l11)) else none) := by kernel_rfl
-- loop 1 ends exit2 st1 a b l10 x0 l8 l11
noncomputable def L1a : Code := lp Try.f94 1
theorem isL1a : ∃ a, L1a = .loop a := ⟨_, rfl⟩
abbrev D1a : List Nat := [0, 1, 4, 5, 6, 7, 8, 9, 10, 11, 12, 13, 14, 15, 16, 19, 20, 21, 22, 23, 24, 25, 26, 27]
abbrev st1a (a : List Int) (b : List Int) (l14 : List Int) (l15 : List Int) : St := ⟨.ints .i64 a :: .ints .i64 b :: tops 2 (.sl 4 0 0 :: .sl 5 0 0 :: .sl 6 0 0 :: .ints .i64 l14 :: .int .i64 (IntKind.i64.wrap ((↑a.length : Int) - 1)) :: .ints .i64 a :: .int .i64 (↑a.length : Int) :: .sl 11 0 0 :: .ints .i64 a :: .int .i64 (↑a.length : Int) :: .int .i64 (IntKind.i64.wrap ((↑a.length : Int) - 1)) :: .int .i64 (IntKind.i64.wrap ((↑a.length : Int) - 1)) :: .bool (decide (IntKind.i64.wrap ((↑a.length : Int) - 1) ≥ 0)) :: tops 2 (.ints .i64 a :: .int .i64 (IntKind.i64.wrap ((↑a.length : Int) - 1)) :: .place [.int .i64 (rd a (IntKind.i64.wrap ((↑a.length : Int) - 1)))] :: .int .i64 (rd a (IntKind.i64.wrap ((↑a.length : Int) - 1))) :: .sl 23 0 0 :: .sl 7 0 0 :: .sl 25 0 0 :: M (num (10) false [rd a (IntKind.i64.wrap ((↑a.length : Int) - 1))]) :: .ints .i64 (lb (10) (num (10) false [rd a (IntKind.i64.wrap ((↑a.length : Int) - 1))])) :: tops 17 ([]))), nos 4 (rowE (.ints .i64 []) :: rowE (.ints .i64 []) :: rowE (.ints .i64 l15) :: rowE (.ints .i64 []) :: nos 3 ({ g := 0, pg := 0, o := some (AObj.row { g := 0, own := false, v := .top }) } :: nos 11 ({ g := 0, pg := 0, o := some (AObj.row { g := 0, own := false, v := .top }) } :: nos 1 ({ g := 0, pg := 0, o := some (AObj.row { g := 0, own := false, v := .ints .i64 [rd a (IntKind.i64.wrap ((↑a.length : Int) - 1))] }) } :: nos 19 ([])))))⟩
theorem round1a (a : List Int) (b : List Int) (l14 : List Int) (l15 : List Int) : goL T orc (noTab) D1a L1a (st1a a b l14 l15) =
    (bif cl (10) l14 && cl (10) b then (bif decide (cmpZ (val (10) l14) (val (10) b) ≥ 0) then (bif few l14 && few b && okB (10) l14 && okB (10) b && decide (b.length ≤ l14.length) && decide (val (10) b ≤ val (10) l14) then (bif few (lessD l14 b) && okB (10) (lessD l14 b) then (bif inB (IntKind.i64.wrap ((↑a.length : Int) - 1)) l15.length then (bif inB (IntKind.i64.wrap ((↑a.length : Int) - 1)) l15.length then some (.normal, st1a a b (lb (10) (num (10) false (lessD l14 b))) (l15.set (IntKind.i64.wrap ((↑a.length : Int) - 1)).toNat (IntKind.i64.wrap (rd l15 (IntKind.i64.wrap ((↑a.length : Int) - 1)) + 1)))) else none) else none) else none) else none) else some (.exit 2, st1a a b l14 l15)) else none) := by kernel_rfl
-- loop 1a ends exit2 st1a a b l14 l15
noncomputable def L0 : Code := lp Try.f94 0
theorem isL0 : ∃ a, L0 = .loop a := ⟨_, rfl⟩
abbrev D0 : List Nat := [0, 1, 4, 5, 6, 7, 8, 9, 10, 11, 12, 13, 14]
abbrev st0 (a : List Int) (b : List Int) (l8 : List Int) (x0 : Int) (l9 : List Int) : St := ⟨.ints .i64 a :: .ints .i64 b :: tops 2 (.sl 4 0 0 :: .sl 5 0 0 :: .sl 6 0 0 :: .ints .i64 l8 :: .int .i64 x0 :: .ints .i64 a :: .int .i64 (↑a.length : Int) :: .sl 11 0 0 :: .ints .i64 a :: .int .i64 (↑a.length : Int) :: .int .i64 (IntKind.i64.wrap ((↑a.length : Int) - 1)) :: tops 30 ([])), nos 4 (rowE (.ints .i64 []) :: rowE (.ints .i64 []) :: rowE (.ints .i64 l9) :: rowE (.ints .i64 []) :: nos 3 ({ g := 0, pg := 0, o := some (AObj.row { g := 0, own := false, v := .top }) } :: nos 33 ([])))⟩
abbrev st0x0 (a : List Int) (b : List Int) : St := ⟨.ints .i64 a :: .ints .i64 b :: tops 2 (.sl 4 0 0 :: .sl 5 0 0 :: .sl 6 0 0 :: .sl 7 0 0 :: .int .i64 (IntKind.i64.wrap ((↑a.length : Int) - 1)) :: .ints .i64 a :: .int .i64 (↑a.length : Int) :: .sl 11 0 0 :: .ints .i64 a :: .int .i64 (↑a.length : Int) :: .int .i64 (IntKind.i64.wrap ((↑a.length : Int) - 1)) :: tops 30 ([])), nos 4 (rowE (.ints .i64 []) :: rowE (.ints .i64 []) :: rowE (.ints .i64 (zeros (↑a.length : Int).toNat)) :: rowE (.ints .i64 []) :: nos 3 ({ g := 0, pg := 0, o := some (AObj.row { g := 0, own := false, v := .top }) } :: nos 33 ([])))⟩
abbrev st0e (a : List Int) (b : List Int) : St := ⟨.ints .i64 a :: .ints .i64 b :: tops 2 (.sl 4 0 0 :: .sl 5 0 0 :: .sl 6 0 0 :: .sl 7 0 0 :: .int .i64 (IntKind.i64.wrap ((↑a.length : Int) - 1)) :: .ints .i64 a :: .int .i64 (↑a.length : Int) :: .sl 11 0 0 :: .ints .i64 a :: .int .i64 (↑a.length : Int) :: .int .i64 (IntKind.i64.wrap ((↑a.length : Int) - 1)) :: tops 30 ([])), nos 4 (rowE (.ints .i64 []) :: rowE (.ints .i64 []) :: rowE (.ints .i64 (zeros (↑a.length : Int).toNat)) :: rowE (.ints .i64 []) :: nos 3 ({ g := 0, pg := 0, o := some (AObj.row { g := 0, own := false, v := .top }) } :: nos 33 ([])))⟩
theorem round0e (a : List Int) (b : List Int) (l16 : List Int) (l17 : List Int) : goL T orc (tabOf T orc [(7, 412650113277528720889256366602774743290728924956258030, .exit 2, st1a a b l16 l17)]) D0 L0 (st0e a b) =
    (bif decide (IntKind.i64.wrap ((↑a.length : Int) - 1) ≥ 0) then (bif inB (IntKind.i64.wrap ((↑a.length : Int) - 1)) a.length then (bif true && okB (10) [rd a (IntKind.i64.wrap ((↑a.length : Int) - 1))] then (bif cdec (Ends T orc L1a D1a (st1a a b (lb (10) (num (10) false [rd a (IntKind.i64.wrap ((↑a.length : Int) - 1))])) (zeros (↑a.length : Int).toNat)) (.exit 2) (st1a a b l16 l17)) then some (.normal, st0 a b l16 (IntKind.i64.wrap (IntKind.i64.wrap ((↑a.length : Int) - 1) - 1)) l17) else none) else none) else none) else some (.exit 0, st0e a b)) := by kernel_rfl
theorem round0 (a : List Int) (b : List Int) (l8 : List Int) (x0 : Int) (l9 : List Int) (l12 : List Int) (l13 : List Int) : goL T orc (tabOf T orc [(7, 412650113277528720889256366595521188373041149908020974, .exit 2, st1 a b l12 x0 l8 l13)]) D0 L0 (st0 a b l8 x0 l9) =
    (bif decide (x0 ≥ 0) then (bif inB x0 a.length then (bif true && decide ((rd a x0 :: l8).length * 8 ≤ 140737488355328) then (bif few (rd a x0 :: l8) && okB (10) (rd a x0 :: l8) then (bif cdec (Ends T orc L1 D1 (st1 a b (lb (10) (num (10) false (rd a x0 :: l8))) x0 l8 l9) (.exit 2) (st1 a b l12 x0 l8 l13)) then some (.normal, st0 a b l12 (IntKind.i64.wrap (x0 - 1)) l13) else none) else none) else none) else none) else some (.exit 0, st0 a b l8 x0 l9)) := by kernel_rfl
-- loop 0 ends exit0 st0 a b l8 x0 l9
-- loop 0 ends exit0 st0e a b
theorem rest_0 (a : List Int) (b : List Int) (l19 : List Int) (l18 : List Int) (x1 : Int) : runT T orc (tabOf T orc [(4, 412650115418400261090515217549351380665742919895805678, .exit 0, st0 a b l18 x1 l19)]) Try.f94 [.ints .i64 a, .ints .i64 b] =
    (bif true && decide ((↑a.length : Int) ≤ (↑a.length : Int)) && decide ((↑a.length : Int).toNat * 8 ≤ 281474976710656) then (bif cdec (Ends T orc L0 D0 (st0e a b) (.exit 0) (st0 a b l18 x1 l19)) then some (.val (.tup [.ints .i64 l19, .ints .i64 l18])) else none) else none) := by kernel_rfl
theorem rest_1 (a : List Int) (b : List Int) : runT T orc (tabOf T orc [(4, 412650115418400261090515217549351380665742919895805678, .exit 0, st0e a b)]) Try.f94 [.ints .i64 a, .ints .i64 b] =
    (bif true && decide ((↑a.length : Int) ≤ (↑a.length : Int)) && decide ((↑a.length : Int).toNat * 8 ≤ 281474976710656) then (bif cdec (Ends T orc L0 D0 (st0e a b) (.exit 0) (st0e a b)) then some (.val (.tup [.ints .i64 (zeros (↑a.length : Int).toNat), .ints .i64 []])) else none) else none) := by kernel_rfl
end RSplit
namespace RGcd
abbrev ans : Ans := [(93, anrAbs), (94, anrSplit), (85, anrTrim)]
abbrev orc : Orc := orcOf ans
noncomputable def L0 : Code := lp Try.f71 0
theorem isL0 : ∃ a, L0 = .loop a := ⟨_, rfl⟩
abbrev D0 : List Nat := [0, 1, 2, 3, 4, 5, 6, 9, 10, 11, 12]
abbrev st0 (s : Bool) (l : List Int) (t : Bool) (m : List Int) (b1 : Bool) (l0 : List Int) (b0 : Bool) (l1 : List Int) : St := ⟨.agg [.bool s, .ints .i64 l] :: .agg [.bool t, .ints .i64 m] :: .ptr 2 0 0 :: .ptr 3 0 0 :: .ptr 4 0 0 :: .ptr 5 0 0 :: .ptr 6 0 0 :: tops 2 (.agg [.bool s, .ints .i64 l] :: .agg [.bool false, .ints .i64 (lb (10) (az (num (10) s l)))] :: .agg [.bool t, .ints .i64 m] :: .agg [.bool false, .ints .i64 (lb (10) (az (num (10) t m)))] :: tops 16 ([])), nos 2 (varE [(false, .bool s), (false, .ints .i64 l)] :: varE [(false, .bool t), (false, .ints .i64 m)] :: varE [(false, .bool false), (true, .ints .i64 [])] :: varE [(false, .bool b1), (false, .ints .i64 l0)] :: varE [(false, .bool b0), (false, .ints .i64 l1)] :: nos 22 ([]))⟩
theorem round0 (s : Bool) (l : List Int) (t : Bool) (m : List Int) (b1 : Bool) (l0 : List Int) (b0 : Bool) (l1 : List Int) : goL T orc (noTab) D0 L0 (st0 s l t m b1 l0 b0 l1) =
    (bif decide ((↑l1.length : Int) > 0) then (bif cl (10) l0 && cl (10) l1 && decide (0 < val (10) l1) && decide (l0.length ≤ 50000) then (bif few (limbs (10) (val (10) l0 % val (10) l1)) && okB (10) (limbs (10) (val (10) l0 % val (10) l1)) then some (.normal, st0 s l t m b0 l1 (sg (num (10) false (limbs (10) (val (10) l0 % val (10) l1)))) (lb (10) (num (10) false (limbs (10) (val (10) l0 % val (10) l1))))) else none) else none) else some (.exit 0, st0 s l t m b1 l0 b0 l1)) := by kernel_rfl
-- loop 0 ends exit0 st0 s l t m b1 l0 b0 l1
theorem rest (s : Bool) (l : List Int) (t : Bool) (m : List Int) (b2 : Bool) (l2 : List Int) (b3 : Bool) (l3 : List Int) : runT T orc (tabOf T orc [(2, 38812419120145349689707557085441774, .exit 0, st0 s l t m b2 l2 b3 l3)]) Try.f71 [.agg [.bool s, .ints .i64 l], .agg [.bool t, .ints .i64 m]] =
    (bif cn (10) s l then (bif cn (10) t m then (bif cdec (Ends T orc L0 D0 (st0 s l t m (false) (lb (10) (az (num (10) s l))) (false) (lb (10) (az (num (10) t m)))) (.exit 0) (st0 s l t m b2 l2 b3 l3)) then some (.val (.agg [.bool b2, .ints .i64 l2])) else none) else none) else none) := by kernel_rfl
end RGcd
end Go.Abs
end
section
/- States and rounds of the reference's functions of layer 1, as a program of this session printed them (3). -/
set_option maxRecDepth 10000
namespace Go.Abs
open Go.Proofs Go.Dig
namespace RAbs
abbrev ans : Ans := [(85, anrTrim)]
abbrev orc : Orc := orcOf ans
theorem rest (s : Bool) (l : List Int) : runT T orc (noTab) Try.f93 [.agg [.bool s, .ints .i64 l]] =
    (bif few l && okB (10) l then some (.val (M (num (10) false l))) else none) := by kernel_rfl
end RAbs
end Go.Abs
end
section
/- States and rounds of arith's functions, as a program of this session printed them (8). -/
set_option maxRecDepth 10000
namespace Go.Abs
open Go.Proofs Go.Dig
namespace Div
abbrev ans : Ans := [(58, ansNorm), (21, ansSign), (67, ansSplitMag), (73, ansPlus), (47, ansFrom)]
abbrev orc : Orc := orcOf ans
theorem rest (s : Bool) (l : List Int) (t : Bool) (m : List Int) : runT T orc (noTab) Try.f74 [.agg [.bool s, .ints .u32 l], .agg [.bool t, .ints .u32 m]] =
    (bif cn (4294967296) t m then (bif cmpZ (num (4294967296) t m) (0) == 0 then some (.val (.tup [.agg [.bool false, .ints .u32 []], .agg [.bool false, .ints .u32 []], .int .i64 (12)])) else (bif cl (4294967296) l && cl (4294967296) m && decide (0 < val (4294967296) m) && decide (l.length ≤ 50000) then (bif few (splitQ l m) && okB (4294967296) (splitQ l m) then (bif few (splitR l m) && okB (4294967296) (splitR l m) then (bif cn (4294967296) (sg (num (4294967296) s (splitR l m))) (lb (4294967296) (num (4294967296) s (splitR l m))) then (bif cmpZ (N (4294967296) (num (4294967296) s (splitR l m))) (0) != 0 then (bif !s == t then (bif cn (4294967296) (sg (num (4294967296) (!s == t) (splitQ l m))) (lb (4294967296) (num (4294967296) (!s == t) (splitQ l m))) && true then (bif cn (4294967296) (sg (num (4294967296) s (splitR l m))) (lb (4294967296) (num (4294967296) s (splitR l m))) && cn (4294967296) t m then some (.val (.tup [R (N (4294967296) (num (4294967296) (!s == t) (splitQ l m)) + -1), R (N (4294967296) (num (4294967296) s (splitR l m)) + num (4294967296) t m), .int .i64 (0)])) else none) else none) else some (.val (.tup [R (num (4294967296) (!s == t) (splitQ l m)), R (num (4294967296) s (splitR l m)), .int .i64 (0)]))) else some (.val (.tup [R (num (4294967296) (!s == t) (splitQ l m)), R (num (4294967296) s (splitR l m)), .int .i64 (0)]))) else none) else none) else none) else none)) else none) := by kernel_rfl
end Div
namespace Gcd
abbrev ans : Ans := [(58, ansNorm), (66, ansAbs), (21, ansSign), (67, ansSplitMag)]
abbrev orc : Orc := orcOf ans
noncomputable def L0 : Code := lp Try.f22 0
theorem isL0 : ∃ a, L0 = .loop a := ⟨_, rfl⟩
abbrev D0 : List Nat := [0, 1, 2, 3, 4, 5, 6, 9, 10, 11, 12]
abbrev st0 (s : Bool) (l : List Int) (t : Bool) (m : List Int) (b1 : Bool) (l0 : List Int) (b0 : Bool) (l1 : List Int) : St := ⟨.agg [.bool s, .ints .u32 l] :: .agg [.bool t, .ints .u32 m] :: .ptr 2 0 0 :: .ptr 3 0 0 :: .ptr 4 0 0 :: .ptr 5 0 0 :: .ptr 6 0 0 :: tops 2 (.agg [.bool s, .ints .u32 l] :: .agg [.bool false, .ints .u32 (lb (4294967296) (az (num (4294967296) s l)))] :: .agg [.bool t, .ints .u32 m] :: .agg [.bool false, .ints .u32 (lb (4294967296) (az (num (4294967296) t m)))] :: tops 15 ([])), nos 2 (varE [(false, .bool s), (false, .ints .u32 l)] :: varE [(false, .bool t), (false, .ints .u32 m)] :: varE [(false, .bool false), (true, .ints .u32 [])] :: varE [(false, .bool b1), (false, .ints .u32 l0)] :: varE [(false, .bool b0), (false, .ints .u32 l1)] :: nos 21 ([]))⟩
theorem round0 (s : Bool) (l : List Int) (t : Bool) (m : List Int) (b1 : Bool) (l0 : List Int) (b0 : Bool) (l1 : List Int) : goL T orc (noTab) D0 L0 (st0 s l t m b1 l0 b0 l1) =
    (bif cn (4294967296) b0 l1 then (bif cmpZ (num (4294967296) b0 l1) (0) != 0 then (bif cl (4294967296) l0 && cl (4294967296) l1 && decide (0 < val (4294967296) l1) && decide (l0.length ≤ 50000) then (bif few (splitR l0 l1) && okB (4294967296) (splitR l0 l1) then some (.normal, st0 s l t m b0 l1 (sg (num (4294967296) false (splitR l0 l1))) (lb (4294967296) (num (4294967296) false (splitR l0 l1)))) else none) else none) else some (.exit 0, st0 s l t m b1 l0 b0 l1)) else none) := by kernel_rfl
-- loop 0 ends exit0 st0 s l t m b1 l0 b0 l1
theorem rest (s : Bool) (l : List Int) (t : Bool) (m : List Int) (b2 : Bool) (l2 : List Int) (b3 : Bool) (l3 : List Int) : runT T orc (tabOf T orc [(2, 2425776195009084355606722317840110, .exit 0, st0 s l t m b2 l2 b3 l3)]) Try.f22 [.agg [.bool s, .ints .u32 l], .agg [.bool t, .ints .u32 m]] =
    (bif cn (4294967296) s l then (bif cn (4294967296) t m then (bif cdec (Ends T orc L0 D0 (st0 s l t m (false) (lb (4294967296) (az (num (4294967296) s l))) (false) (lb (4294967296) (az (num (4294967296) t m)))) (.exit 0) (st0 s l t m b2 l2 b3 l3)) then some (.val (.agg [.bool b2, .ints .u32 l2])) else none) else none) else none) := by kernel_rfl
end Gcd
end Go.Abs
end
section
/- States and rounds of arith's functions, as a program of this session printed them (5). -/
set_option maxRecDepth 10000
namespace Go.Abs
open Go.Proofs Go.Dig
namespace Plus
abbrev ans : Ans := [(58, ansNorm), (75, ansCmpMag), (96, ansPlusMag), (97, ansLessMag)]
abbrev orc : Orc := orcOf ans
theorem rest (s : Bool) (l : List Int) (t : Bool) (m : List Int) : runT T orc (noTab) Try.f73 [.agg [.bool s, .ints .u32 l], .agg [.bool t, .ints .u32 m]] =
    (bif s == t then (bif few l && few m && okB (4294967296) l && okB (4294967296) m then (bif few (plusL l m) && okB (4294967296) (plusL l m) then some (.val (R (num (4294967296) s (plusL l m)))) else none) else none) else (bif cl (4294967296) l && cl (4294967296) m then (bif decide (cmpZ (val (4294967296) l) (val (4294967296) m) ≥ 0) then (bif few l && few m && okB (4294967296) l && okB (4294967296) m && decide (m.length ≤ l.length) && decide (val (4294967296) m ≤ val (4294967296) l) then (bif few (lessL l m) && okB (4294967296) (lessL l m) then some (.val (R (num (4294967296) s (lessL l m)))) else none) else none) else (bif few m && few l && okB (4294967296) m && okB (4294967296) l && decide (l.length ≤ m.length) && decide (val (4294967296) l ≤ val (4294967296) m) then (bif few (lessL m l) && okB (4294967296) (lessL m l) then some (.val (R (num (4294967296) t (lessL m l)))) else none) else none)) else none)) := by kernel_rfl
end Plus
namespace Add
abbrev ans : Ans := [(57, ansHeld), (73, ansPlus)]
abbrev orc : Orc := orcOf ans
theorem rest (s : Bool) (l : List Int) (t : Bool) (m : List Int) : runT T orc (noTab) Try.f31 [.agg [.bool s, .ints .u32 l], .agg [.bool t, .ints .u32 m]] =
    (bif cn (4294967296) s l && cn (4294967296) t m then (bif cn (4294967296) (sg (num (4294967296) s l + num (4294967296) t m)) (lb (4294967296) (num (4294967296) s l + num (4294967296) t m)) then some (.val (.tup [R (hz (N (4294967296) (num (4294967296) s l + num (4294967296) t m))), .int .i64 (he (N (4294967296) (num (4294967296) s l + num (4294967296) t m)))])) else none) else none) := by kernel_rfl
end Add
namespace Mul
abbrev ans : Ans := [(57, ansHeld), (58, ansNorm), (95, ansTimesMag)]
abbrev orc : Orc := orcOf ans
theorem rest (s : Bool) (l : List Int) (t : Bool) (m : List Int) : runT T orc (noTab) Try.f72 [.agg [.bool s, .ints .u32 l], .agg [.bool t, .ints .u32 m]] =
    (bif few l && few m && okB (4294967296) l && okB (4294967296) m then (bif few (timesL l m) && okB (4294967296) (timesL l m) then (bif cn (4294967296) (sg (num (4294967296) (!s == t) (timesL l m))) (lb (4294967296) (num (4294967296) (!s == t) (timesL l m))) then some (.val (.tup [R (hz (N (4294967296) (num (4294967296) (!s == t) (timesL l m)))), .int .i64 (he (N (4294967296) (num (4294967296) (!s == t) (timesL l m))))])) else none) else none) else none) := by kernel_rfl
end Mul
end Go.Abs
end
section
/- States and rounds of arith's functions, as a program of this session printed them (2). -/
set_option maxRecDepth 10000
namespace Go.Abs
open Go.Proofs Go.Dig
namespace LessMag
abbrev ans : Ans := [(102, ansSub32)]
abbrev orc : Orc := orcOf ans
noncomputable def L0 : Code := lp Try.f97 0
theorem isL0 : ∃ a, L0 = .loop a := ⟨_, rfl⟩
abbrev D0 : List Nat := [0, 1, 4, 5, 6, 9, 10, 11, 12, 13, 14]
abbrev st0 (a : List Int) (b : List Int) (x0 : Int) (x1 : Int) (l0 : List Int) : St := ⟨.ints .u32 a :: .ints .u32 b :: tops 2 (.sl 4 0 0 :: .sl 5 0 0 :: .int .u32 x0 :: tops 2 (.ints .u32 a :: .int .i64 (↑a.length : Int) :: .sl 11 0 0 :: .ints .u32 a :: .int .i64 (↑a.length : Int) :: .int .i64 x1 :: tops 25 ([]))), nos 4 (rowE (.ints .u32 []) :: rowE (.ints .u32 l0) :: nos 5 ({ g := 0, pg := 0, o := some (AObj.row { g := 0, own := false, v := .top }) } :: nos 28 ([])))⟩
theorem round0 (a : List Int) (b : List Int) (x0 : Int) (x1 : Int) (l0 : List Int) : goL T orc (noTab) D0 L0 (st0 a b x0 x1 l0) =
    (bif decide (x1 < (↑a.length : Int)) then (bif decide (x1 < (↑b.length : Int)) then (bif inB x1 b.length then (bif inB x1 a.length then (bif decide (0 ≤ rd a x1) && decide (rd a x1 < 4294967296) && decide (0 ≤ rd b x1) && decide (rd b x1 < 4294967296) && decide (0 ≤ x0) && decide (x0 ≤ 1) then (bif inB x1 l0.length then some (.normal, st0 a b (b2i (decide (rd a x1 < rd b x1 + x0))) (IntKind.i64.wrap (x1 + 1)) (l0.set x1.toNat ((rd a x1 - rd b x1 - x0) % 4294967296))) else none) else none) else none) else none) else (bif inB x1 a.length then (bif decide (0 ≤ rd a x1) && decide (rd a x1 < 4294967296) && true && true && decide (0 ≤ x0) && decide (x0 ≤ 1) then (bif inB x1 l0.length then some (.normal, st0 a b (b2i (decide (rd a x1 < 0 + x0))) (IntKind.i64.wrap (x1 + 1)) (l0.set x1.toNat ((rd a x1 - 0 - x0) % 4294967296))) else none) else none) else none)) else some (.exit 0, st0 a b x0 x1 l0)) := by kernel_rfl
-- loop 0 ends exit0 st0 a b x0 x1 l0
theorem rest (a : List Int) (b : List Int) (l1 : List Int) (x2 : Int) (x3 : Int) : runT T orc (tabOf T orc [(4, 393533769373551086390321236943537509420244070126, .exit 0, st0 a b x2 x3 l1)]) Try.f97 [.ints .u32 a, .ints .u32 b] =
    (bif true && decide ((↑a.length : Int) ≤ (↑a.length : Int)) && decide ((↑a.length : Int).toNat * 4 ≤ 281474976710656) then (bif cdec (Ends T orc L0 D0 (st0 a b (0) (0) (zeros (↑a.length : Int).toNat)) (.exit 0) (st0 a b x2 x3 l1)) then some (.own (.ints .u32 l1)) else none) else none) := by kernel_rfl
end LessMag
namespace Lz32
abbrev ans : Ans := [(101, ansLen32)]
abbrev orc : Orc := orcOf ans
theorem rest (n : Int) : runT T orc (noTab) Try.f88 [.int .u32 n] =
    (bif decide (0 ≤ n) && decide (n < 4294967296) then some (.val (.int .i64 (IntKind.i64.wrap (32 - blen n)))) else none) := by kernel_rfl
end Lz32
namespace Bits
abbrev ans : Ans := [(101, ansLen32)]
abbrev orc : Orc := orcOf ans
theorem rest (s : Bool) (l : List Int) : runT T orc (noTab) Try.f84 [.agg [.bool s, .ints .u32 l]] =
    (bif (↑l.length : Int) == 0 then some (.val (.int .i64 (0))) else (bif inB (IntKind.i64.wrap ((↑l.length : Int) - 1)) l.length then (bif decide (0 ≤ rd l (IntKind.i64.wrap ((↑l.length : Int) - 1))) && decide (rd l (IntKind.i64.wrap ((↑l.length : Int) - 1)) < 4294967296) then some (.val (.int .i64 (IntKind.i64.wrap (IntKind.i64.wrap (32 * IntKind.i64.wrap ((↑l.length : Int) - 1)) + blen (rd l (IntKind.i64.wrap ((↑l.length : Int) - 1))))))) else none) else none)) := by kernel_rfl
end Bits
namespace Held
abbrev ans : Ans := [(84, ansBits)]
abbrev orc : Orc := orcOf ans
theorem rest (s : Bool) (l : List Int) : runT T orc (noTab) Try.f57 [.agg [.bool s, .ints .u32 l]] =
    (bif cn (4294967296) s l then (bif decide (blen (az (num (4294967296) s l)) > 1024) then some (.val (.tup [.agg [.bool false, .ints .u32 []], .int .i64 (11)])) else some (.val (.tup [.agg [.bool s, .ints .u32 l], .int .i64 (0)]))) else none) := by kernel_rfl
end Held
namespace From
abbrev ans : Ans := [(58, ansNorm)]
abbrev orc : Orc := orcOf ans
theorem rest (n : Int) : runT T orc (noTab) Try.f47 [.int .i64 n] =
    (bif decide (n < 0) then (bif true && okB (4294967296) [IntKind.u32.wrap (IntKind.u64.wrap (0 - IntKind.u64.wrap n)), IntKind.u32.wrap ((IntKind.u64.wrap (0 - IntKind.u64.wrap n)).fdiv (2 ^ 32))] then some (.val (R (num (4294967296) (decide (n < 0)) [IntKind.u32.wrap (IntKind.u64.wrap (0 - IntKind.u64.wrap n)), IntKind.u32.wrap ((IntKind.u64.wrap (0 - IntKind.u64.wrap n)).fdiv (2 ^ 32))]))) else none) else (bif true && okB (4294967296) [IntKind.u32.wrap (IntKind.u64.wrap n), IntKind.u32.wrap ((IntKind.u64.wrap n).fdiv (2 ^ 32))] then some (.val (R (num (4294967296) (decide (n < 0)) [IntKind.u32.wrap (IntKind.u64.wrap n), IntKind.u32.wrap ((IntKind.u64.wrap n).fdiv (2 ^ 32))]))) else none)) := by kernel_rfl
end From
namespace Neg
abbrev ans : Ans := [(58, ansNorm)]
abbrev orc : Orc := orcOf ans
theorem rest (s : Bool) (l : List Int) : runT T orc (noTab) Try.f62 [.agg [.bool s, .ints .u32 l]] =
    (bif (↑l.length : Int) == 0 then some (.val (.agg [.bool false, .ints .u32 []])) else (bif few l && okB (4294967296) l then some (.val (R (num (4294967296) (!s) l))) else none)) := by kernel_rfl
end Neg
namespace Abs_
abbrev ans : Ans := [(58, ansNorm)]
abbrev orc : Orc := orcOf ans
theorem rest (s : Bool) (l : List Int) : runT T orc (noTab) Try.f66 [.agg [.bool s, .ints .u32 l]] =
    (bif few l && okB (4294967296) l then some (.val (R (num (4294967296) false l))) else none) := by kernel_rfl
end Abs_
namespace Cmp
abbrev ans : Ans := [(75, ansCmpMag)]
abbrev orc : Orc := orcOf ans
theorem rest (s : Bool) (l : List Int) (t : Bool) (m : List Int) : runT T orc (noTab) Try.f34 [.agg [.bool s, .ints .u32 l], .agg [.bool t, .ints .u32 m]] =
    (bif !s == t then (bif s then some (.val (.int .i64 (-1))) else some (.val (.int .i64 (1)))) else (bif s then (bif cl (4294967296) m && cl (4294967296) l then some (.val (.int .i64 (cmpZ (val (4294967296) m) (val (4294967296) l)))) else none) else (bif cl (4294967296) l && cl (4294967296) m then some (.val (.int .i64 (cmpZ (val (4294967296) l) (val (4294967296) m)))) else none))) := by kernel_rfl
end Cmp
end Go.Abs
end
section
/- States and rounds of arith's functions, as a program of this session printed them (6). -/
set_option maxRecDepth 10000
namespace Go.Abs
open Go.Proofs Go.Dig
namespace SplitMag
abbrev ans : Ans := [(75, ansCmpMag), (68, ansPart), (88, ansLz32), (89, ansLeft), (91, ansRight), (90, ansDigit)]
abbrev orc : Orc := orcOf ans
noncomputable def L0 : Code := lp Try.f67 0
theorem isL0 : ∃ a, L0 = .loop a := ⟨_, rfl⟩
abbrev D0 : List Nat := [0, 1, 4, 5, 8, 9, 10, 11, 12, 13, 14, 15, 16, 17, 18, 20, 21, 22, 34, 35, 36, 37, 38, 39, 40, 41, 42, 43, 44, 45, 46, 47, 48, 49, 50, 51, 52, 53, 54, 55, 56, 57, 58, 59, 60, 61]
abbrev st0 (a : List Int) (b : List Int) (x0 : Int) (b0 : Bool) (l0 : List Int) (l1 : List Int) : St := ⟨.ints .u32 a :: .ints .u32 b :: tops 2 (.sl 4 0 0 :: .sl 5 0 0 :: tops 2 (.int .i64 (32 - blen (rd b (IntKind.i64.wrap ((↑b.length : Int) - 1)))) :: .sl 9 0 0 :: .sl 10 0 0 :: .int .i64 (↑(List.take (↑b.length : Int).toNat (leftL b (32 - blen (rd b (IntKind.i64.wrap ((↑b.length : Int) - 1)))))).length : Int) :: .int .i64 (IntKind.i64.wrap (IntKind.i64.wrap ((↑(leftL a (32 - blen (rd b (IntKind.i64.wrap ((↑b.length : Int) - 1))))).length : Int) - (↑(List.take (↑b.length : Int).toNat (leftL b (32 - blen (rd b (IntKind.i64.wrap ((↑b.length : Int) - 1)))))).length : Int)) - 1)) :: .sl 13 0 0 :: .int .i64 x0 :: .ints .u32 a :: .ints .u32 b :: .int .i64 (cmpZ (val (4294967296) a) (val (4294967296) b)) :: .bool (decide (cmpZ (val (4294967296) a) (val (4294967296) b) < 0)) :: tops 1 (.ints .u32 b :: .int .i64 (↑b.length : Int) :: .bool ((↑b.length : Int) == 1) :: tops 11 (.ints .u32 b :: .ints .u32 b :: .int .i64 (↑b.length : Int) :: .int .i64 (IntKind.i64.wrap ((↑b.length : Int) - 1)) :: .place [.int .u32 (rd b (IntKind.i64.wrap ((↑b.length : Int) - 1)))] :: .int .u32 (rd b (IntKind.i64.wrap ((↑b.length : Int) - 1))) :: .int .i64 (32 - blen (rd b (IntKind.i64.wrap ((↑b.length : Int) - 1)))) :: .ints .u32 b :: .int .i64 (32 - blen (rd b (IntKind.i64.wrap ((↑b.length : Int) - 1)))) :: .sl 43 0 0 :: .ints .u32 b :: .int .i64 (↑b.length : Int) :: .sl 46 0 0 :: .ints .u32 a :: .int .i64 (32 - blen (rd b (IntKind.i64.wrap ((↑b.length : Int) - 1)))) :: .sl 49 0 0 :: .sl 9 0 0 :: .int .i64 (↑(List.take (↑b.length : Int).toNat (leftL b (32 - blen (rd b (IntKind.i64.wrap ((↑b.length : Int) - 1)))))).length : Int) :: .sl 10 0 0 :: .int .i64 (↑(leftL a (32 - blen (rd b (IntKind.i64.wrap ((↑b.length : Int) - 1))))).length : Int) :: .sl 9 0 0 :: .int .i64 (↑(List.take (↑b.length : Int).toNat (leftL b (32 - blen (rd b (IntKind.i64.wrap ((↑b.length : Int) - 1)))))).length : Int) :: .int .i64 (IntKind.i64.wrap ((↑(leftL a (32 - blen (rd b (IntKind.i64.wrap ((↑b.length : Int) - 1))))).length : Int) - (↑(List.take (↑b.length : Int).toNat (leftL b (32 - blen (rd b (IntKind.i64.wrap ((↑b.length : Int) - 1)))))).length : Int))) :: .int .i64 (IntKind.i64.wrap (IntKind.i64.wrap ((↑(leftL a (32 - blen (rd b (IntKind.i64.wrap ((↑b.length : Int) - 1))))).length : Int) - (↑(List.take (↑b.length : Int).toNat (leftL b (32 - blen (rd b (IntKind.i64.wrap ((↑b.length : Int) - 1)))))).length : Int)) - 1)) :: .int .i64 (IntKind.i64.wrap (IntKind.i64.wrap ((↑(leftL a (32 - blen (rd b (IntKind.i64.wrap ((↑b.length : Int) - 1))))).length : Int) - (↑(List.take (↑b.length : Int).toNat (leftL b (32 - blen (rd b (IntKind.i64.wrap ((↑b.length : Int) - 1)))))).length : Int)) - 1)) :: .int .i64 (IntKind.i64.wrap (IntKind.i64.wrap (IntKind.i64.wrap ((↑(leftL a (32 - blen (rd b (IntKind.i64.wrap ((↑b.length : Int) - 1))))).length : Int) - (↑(List.take (↑b.length : Int).toNat (leftL b (32 - blen (rd b (IntKind.i64.wrap ((↑b.length : Int) - 1)))))).length : Int)) - 1) + 1)) :: .sl 60 0 0 :: .int .i64 (IntKind.i64.wrap (IntKind.i64.wrap ((↑(leftL a (32 - blen (rd b (IntKind.i64.wrap ((↑b.length : Int) - 1))))).length : Int) - (↑(List.take (↑b.length : Int).toNat (leftL b (32 - blen (rd b (IntKind.i64.wrap ((↑b.length : Int) - 1)))))).length : Int)) - 1)) :: tops 18 ([]))))), nos 4 (rowE (.ints .u32 []) :: rowE (.ints .u32 []) :: nos 3 ({ g := 0, pg := 0, o := some (AObj.row { g := 0, own := b0, v := .ints .u32 (List.take (↑b.length : Int).toNat (leftL b (32 - blen (rd b (IntKind.i64.wrap ((↑b.length : Int) - 1)))))) }) } :: rowE (.ints .u32 l0) :: nos 2 (rowE (.ints .u32 l1) :: nos 29 ({ g := 0, pg := 0, o := some (AObj.row { g := 0, own := false, v := .top }) } :: nos 2 ({ g := 0, pg := 0, o := some (AObj.row { g := 0, own := false, v := .top }) } :: nos 2 ({ g := 0, pg := 0, o := some (AObj.row { g := 0, own := false, v := .top }) } :: nos 10 ({ g := 0, pg := 0, o := some (AObj.row { g := 0, own := false, v := .top }) } :: nos 19 ([]))))))))⟩
theorem round0 (a : List Int) (b : List Int) (x0 : Int) (b0 : Bool) (l0 : List Int) (l1 : List Int) : goL T orc (noTab) D0 L0 (st0 a b x0 b0 l0 l1) =
    (bif decide (x0 ≥ 0) then (bif digOk l0 (List.take (↑b.length : Int).toNat (leftL b (32 - blen (rd b (IntKind.i64.wrap ((↑b.length : Int) - 1)))))) x0 (↑(List.take (↑b.length : Int).toNat (leftL b (32 - blen (rd b (IntKind.i64.wrap ((↑b.length : Int) - 1)))))).length : Int) && (digU l0 (List.take (↑b.length : Int).toNat (leftL b (32 - blen (rd b (IntKind.i64.wrap ((↑b.length : Int) - 1)))))) x0.toNat).length.beq l0.length && true then (bif inB x0 l1.length then some (.normal, st0 a b (IntKind.i64.wrap (x0 - 1)) (false) (digU l0 (List.take (↑b.length : Int).toNat (leftL b (32 - blen (rd b (IntKind.i64.wrap ((↑b.length : Int) - 1)))))) x0.toNat) (l1.set x0.toNat (digQ l0 (List.take (↑b.length : Int).toNat (leftL b (32 - blen (rd b (IntKind.i64.wrap ((↑b.length : Int) - 1)))))) x0.toNat))) else none) else none) else some (.exit 0, st0 a b x0 b0 l0 l1)) := by kernel_rfl
-- loop 0 ends exit0 st0 a b x0 b0 l0 l1
theorem rest (a : List Int) (b : List Int) (l3 : List Int) (l2 : List Int) (x1 : Int) (b1 : Bool) : runT T orc (tabOf T orc [(12, 575150351336284203959915418691224027130420881949712434244709704683136546056633401481688513441518, .exit 0, st0 a b x1 b1 l2 l3)]) Try.f67 [.ints .u32 a, .ints .u32 b] =
    (bif cl (4294967296) a && cl (4294967296) b then (bif decide (cmpZ (val (4294967296) a) (val (4294967296) b) < 0) then some (.val (.tup [.ints .u32 [], .ints .u32 a])) else (bif (↑b.length : Int) == 1 then (bif inB (0) b.length then (bif few a && okB (4294967296) a && decide (0 < rd b (0)) && decide (rd b (0) < 4294967296) then some (.val (.tup [.ints .u32 (limbs (4294967296) (val (4294967296) a / rd b (0))), .ints .u32 [val (4294967296) a % rd b (0)]])) else none) else none) else (bif inB (IntKind.i64.wrap ((↑b.length : Int) - 1)) b.length then (bif decide (0 ≤ rd b (IntKind.i64.wrap ((↑b.length : Int) - 1))) && decide (rd b (IntKind.i64.wrap ((↑b.length : Int) - 1)) < 4294967296) then (bif few b && okB (4294967296) b && decide (0 ≤ 32 - blen (rd b (IntKind.i64.wrap ((↑b.length : Int) - 1)))) && decide (32 - blen (rd b (IntKind.i64.wrap ((↑b.length : Int) - 1))) ≤ 31) then (bif true && decide ((↑b.length : Int) ≤ (↑(leftL b (32 - blen (rd b (IntKind.i64.wrap ((↑b.length : Int) - 1))))).length : Int)) then (bif few a && okB (4294967296) a && decide (0 ≤ 32 - blen (rd b (IntKind.i64.wrap ((↑b.length : Int) - 1)))) && decide (32 - blen (rd b (IntKind.i64.wrap ((↑b.length : Int) - 1))) ≤ 31) then (bif decide (0 ≤ IntKind.i64.wrap (IntKind.i64.wrap (IntKind.i64.wrap ((↑(leftL a (32 - blen (rd b (IntKind.i64.wrap ((↑b.length : Int) - 1))))).length : Int) - (↑(List.take (↑b.length : Int).toNat (leftL b (32 - blen (rd b (IntKind.i64.wrap ((↑b.length : Int) - 1)))))).length : Int)) - 1) + 1)) && decide (IntKind.i64.wrap (IntKind.i64.wrap (IntKind.i64.wrap ((↑(leftL a (32 - blen (rd b (IntKind.i64.wrap ((↑b.length : Int) - 1))))).length : Int) - (↑(List.take (↑b.length : Int).toNat (leftL b (32 - blen (rd b (IntKind.i64.wrap ((↑b.length : Int) - 1)))))).length : Int)) - 1) + 1) ≤ IntKind.i64.wrap (IntKind.i64.wrap (IntKind.i64.wrap ((↑(leftL a (32 - blen (rd b (IntKind.i64.wrap ((↑b.length : Int) - 1))))).length : Int) - (↑(List.take (↑b.length : Int).toNat (leftL b (32 - blen (rd b (IntKind.i64.wrap ((↑b.length : Int) - 1)))))).length : Int)) - 1) + 1)) && decide ((IntKind.i64.wrap (IntKind.i64.wrap (IntKind.i64.wrap ((↑(leftL a (32 - blen (rd b (IntKind.i64.wrap ((↑b.length : Int) - 1))))).length : Int) - (↑(List.take (↑b.length : Int).toNat (leftL b (32 - blen (rd b (IntKind.i64.wrap ((↑b.length : Int) - 1)))))).length : Int)) - 1) + 1)).toNat * 4 ≤ 281474976710656) then (bif cdec (Ends T orc L0 D0 (st0 a b (IntKind.i64.wrap (IntKind.i64.wrap ((↑(leftL a (32 - blen (rd b (IntKind.i64.wrap ((↑b.length : Int) - 1))))).length : Int) - (↑(List.take (↑b.length : Int).toNat (leftL b (32 - blen (rd b (IntKind.i64.wrap ((↑b.length : Int) - 1)))))).length : Int)) - 1)) (true) (leftL a (32 - blen (rd b (IntKind.i64.wrap ((↑b.length : Int) - 1))))) (zeros (IntKind.i64.wrap (IntKind.i64.wrap (IntKind.i64.wrap ((↑(leftL a (32 - blen (rd b (IntKind.i64.wrap ((↑b.length : Int) - 1))))).length : Int) - (↑(List.take (↑b.length : Int).toNat (leftL b (32 - blen (rd b (IntKind.i64.wrap ((↑b.length : Int) - 1)))))).length : Int)) - 1) + 1)).toNat)) (.exit 0) (st0 a b x1 b1 l2 l3)) then (bif true && decide ((↑(List.take (↑b.length : Int).toNat (leftL b (32 - blen (rd b (IntKind.i64.wrap ((↑b.length : Int) - 1)))))).length : Int) ≤ (↑l2.length : Int)) then (bif few (List.take (↑(List.take (↑b.length : Int).toNat (leftL b (32 - blen (rd b (IntKind.i64.wrap ((↑b.length : Int) - 1)))))).length : Int).toNat l2) && okB (4294967296) (List.take (↑(List.take (↑b.length : Int).toNat (leftL b (32 - blen (rd b (IntKind.i64.wrap ((↑b.length : Int) - 1)))))).length : Int).toNat l2) && decide (0 ≤ 32 - blen (rd b (IntKind.i64.wrap ((↑b.length : Int) - 1)))) && decide (32 - blen (rd b (IntKind.i64.wrap ((↑b.length : Int) - 1))) ≤ 31) then some (.val (.tup [.ints .u32 l3, .ints .u32 (rightL (List.take (↑(List.take (↑b.length : Int).toNat (leftL b (32 - blen (rd b (IntKind.i64.wrap ((↑b.length : Int) - 1)))))).length : Int).toNat l2) (32 - blen (rd b (IntKind.i64.wrap ((↑b.length : Int) - 1)))))])) else none) else none) else none) else none) else none) else none) else none) else none) else none))) else none) := by kernel_rfl
end SplitMag
end Go.Abs
end
section
/- States and rounds of arith's functions, as a program of this session printed them (7). -/
set_option maxRecDepth 10000
namespace Go.Abs
open Go.Proofs Go.Dig
namespace Digit
abbrev ans : Ans := [(102, ansSub32), (103, ansAdd32)]
abbrev orc : Orc := orcOf ans
noncomputable def L0 : Code := lp Try.f90 0
theorem isL0 : ∃ a, L0 = .loop a := ⟨_, rfl⟩
abbrev D0 : List Nat := [0, 1, 2, 3, 8, 9, 10, 11, 17, 18, 19, 20, 21, 22, 23, 24, 25, 26, 27, 28, 29, 30, 31, 32, 33, 34, 35, 36, 37, 38, 39, 40, 41, 42, 43, 44, 45, 46, 47, 48, 49]
abbrev st0 (v : List Int) (j : Int) (n : Int) (u : List Int) (x0 : Int) (x1 : Int) : St := ⟨.sl 0 0 0 :: .ints .u32 v :: .int .i64 j :: .int .i64 n :: tops 4 (.int .u32 (0) :: .int .u64 (IntKind.u64.wrap (↑(BitVec.ofInt 64 (IntKind.u64.wrap (IntKind.u64.wrap (rd u (IntKind.i64.wrap (j + n))) * 2 ^ 32)) ||| BitVec.ofInt 64 (IntKind.u64.wrap (rd u (IntKind.i64.wrap (IntKind.i64.wrap (j + n) - 1))))).toNat : Int)) :: .int .u64 x0 :: .int .u64 x1 :: tops 5 (.sl 0 0 0 :: .int .i64 j :: .int .i64 n :: .int .i64 (IntKind.i64.wrap (j + n)) :: tops 1 (.int .u32 (rd u (IntKind.i64.wrap (j + n))) :: .int .u64 (IntKind.u64.wrap (rd u (IntKind.i64.wrap (j + n)))) :: .int .u64 (IntKind.u64.wrap (IntKind.u64.wrap (rd u (IntKind.i64.wrap (j + n))) * 2 ^ 32)) :: .sl 0 0 0 :: .int .i64 j :: .int .i64 n :: .int .i64 (IntKind.i64.wrap (j + n)) :: .int .i64 (IntKind.i64.wrap (IntKind.i64.wrap (j + n) - 1)) :: tops 1 (.int .u32 (rd u (IntKind.i64.wrap (IntKind.i64.wrap (j + n) - 1))) :: .int .u64 (IntKind.u64.wrap (rd u (IntKind.i64.wrap (IntKind.i64.wrap (j + n) - 1)))) :: .int .u64 (IntKind.u64.wrap (↑(BitVec.ofInt 64 (IntKind.u64.wrap (IntKind.u64.wrap (rd u (IntKind.i64.wrap (j + n))) * 2 ^ 32)) ||| BitVec.ofInt 64 (IntKind.u64.wrap (rd u (IntKind.i64.wrap (IntKind.i64.wrap (j + n) - 1))))).toNat : Int)) :: .int .u64 (IntKind.u64.wrap (↑(BitVec.ofInt 64 (IntKind.u64.wrap (IntKind.u64.wrap (rd u (IntKind.i64.wrap (j + n))) * 2 ^ 32)) ||| BitVec.ofInt 64 (IntKind.u64.wrap (rd u (IntKind.i64.wrap (IntKind.i64.wrap (j + n) - 1))))).toNat : Int)) :: .ints .u32 v :: .int .i64 n :: .int .i64 (IntKind.i64.wrap (n - 1)) :: .place [.int .u32 (rd v (IntKind.i64.wrap (n - 1)))] :: .int .u32 (rd v (IntKind.i64.wrap (n - 1))) :: .int .u64 (IntKind.u64.wrap (rd v (IntKind.i64.wrap (n - 1)))) :: .int .u64 (IntKind.u64.wrap ((IntKind.u64.wrap (↑(BitVec.ofInt 64 (IntKind.u64.wrap (IntKind.u64.wrap (rd u (IntKind.i64.wrap (j + n))) * 2 ^ 32)) ||| BitVec.ofInt 64 (IntKind.u64.wrap (rd u (IntKind.i64.wrap (IntKind.i64.wrap (j + n) - 1))))).toNat : Int)).tdiv (IntKind.u64.wrap (rd v (IntKind.i64.wrap (n - 1)))))) :: .int .u64 (IntKind.u64.wrap (↑(BitVec.ofInt 64 (IntKind.u64.wrap (IntKind.u64.wrap (rd u (IntKind.i64.wrap (j + n))) * 2 ^ 32)) ||| BitVec.ofInt 64 (IntKind.u64.wrap (rd u (IntKind.i64.wrap (IntKind.i64.wrap (j + n) - 1))))).toNat : Int)) :: .ints .u32 v :: .int .i64 n :: .int .i64 (IntKind.i64.wrap (n - 1)) :: .place [.int .u32 (rd v (IntKind.i64.wrap (n - 1)))] :: .int .u32 (rd v (IntKind.i64.wrap (n - 1))) :: .int .u64 (IntKind.u64.wrap (rd v (IntKind.i64.wrap (n - 1)))) :: .int .u64 ((IntKind.u64.wrap (↑(BitVec.ofInt 64 (IntKind.u64.wrap (IntKind.u64.wrap (rd u (IntKind.i64.wrap (j + n))) * 2 ^ 32)) ||| BitVec.ofInt 64 (IntKind.u64.wrap (rd u (IntKind.i64.wrap (IntKind.i64.wrap (j + n) - 1))))).toNat : Int)).tmod (IntKind.u64.wrap (rd v (IntKind.i64.wrap (n - 1))))) :: tops 129 ([]))))), rowE (.ints .u32 u) :: nos 178 ([])⟩
theorem round0 (v : List Int) (j : Int) (n : Int) (u : List Int) (x0 : Int) (x1 : Int) : goL T orc (noTab) D0 L0 (st0 v j n u x0 x1) =
    (bif decide (x0 ≥ 4294967296) then (bif inB (IntKind.i64.wrap (n - 1)) v.length then (bif decide (IntKind.u64.wrap (x1 + IntKind.u64.wrap (rd v (IntKind.i64.wrap (n - 1)))) ≥ 4294967296) then some (.exit 0, st0 v j n u (IntKind.u64.wrap (x0 - 1)) (IntKind.u64.wrap (x1 + IntKind.u64.wrap (rd v (IntKind.i64.wrap (n - 1)))))) else some (.normal, st0 v j n u (IntKind.u64.wrap (x0 - 1)) (IntKind.u64.wrap (x1 + IntKind.u64.wrap (rd v (IntKind.i64.wrap (n - 1))))))) else none) else (bif inB (IntKind.i64.wrap (n - 2)) v.length then (bif inB (IntKind.i64.wrap (IntKind.i64.wrap (j + n) - 2)) u.length then (bif decide (IntKind.u64.wrap (x0 * IntKind.u64.wrap (rd v (IntKind.i64.wrap (n - 2)))) > IntKind.u64.wrap (↑(BitVec.ofInt 64 (IntKind.u64.wrap (x1 * 2 ^ 32)) ||| BitVec.ofInt 64 (IntKind.u64.wrap (rd u (IntKind.i64.wrap (IntKind.i64.wrap (j + n) - 2))))).toNat : Int)) then (bif inB (IntKind.i64.wrap (n - 1)) v.length then (bif decide (IntKind.u64.wrap (x1 + IntKind.u64.wrap (rd v (IntKind.i64.wrap (n - 1)))) ≥ 4294967296) then some (.exit 0, st0 v j n u (IntKind.u64.wrap (x0 - 1)) (IntKind.u64.wrap (x1 + IntKind.u64.wrap (rd v (IntKind.i64.wrap (n - 1)))))) else some (.normal, st0 v j n u (IntKind.u64.wrap (x0 - 1)) (IntKind.u64.wrap (x1 + IntKind.u64.wrap (rd v (IntKind.i64.wrap (n - 1))))))) else none) else some (.exit 0, st0 v j n u x0 x1)) else none) else none)) := by kernel_rfl
-- loop 0 ends exit0 st0 v j n u x0 x1
noncomputable def L1 : Code := lp Try.f90 1
theorem isL1 : ∃ a, L1 = .loop a := ⟨_, rfl⟩
abbrev D1 : List Nat := [0, 1, 2, 3, 8, 9, 10, 11, 12, 13, 17, 18, 19, 20, 22, 23, 24, 25, 26, 27, 28, 29, 31, 32, 33, 34, 35, 36, 37, 38, 39, 40, 41, 42, 43, 44, 45, 46, 47, 48, 49, 86, 87]
abbrev st1 (v : List Int) (j : Int) (n : Int) (u : List Int) (x2 : Int) (x3 : Int) (x4 : Int) (x5 : Int) (x6 : Int) (l0 : List Int) : St := ⟨.sl 0 0 0 :: .ints .u32 v :: .int .i64 j :: .int .i64 n :: tops 4 (.int .u32 (0) :: .int .u64 (IntKind.u64.wrap (↑(BitVec.ofInt 64 (IntKind.u64.wrap (IntKind.u64.wrap (rd u (IntKind.i64.wrap (j + n))) * 2 ^ 32)) ||| BitVec.ofInt 64 (IntKind.u64.wrap (rd u (IntKind.i64.wrap (IntKind.i64.wrap (j + n) - 1))))).toNat : Int)) :: .int .u64 x2 :: .int .u64 x3 :: .int .u64 x4 :: .int .u32 x5 :: tops 3 (.sl 0 0 0 :: .int .i64 j :: .int .i64 n :: .int .i64 (IntKind.i64.wrap (j + n)) :: tops 1 (.int .u32 (rd u (IntKind.i64.wrap (j + n))) :: .int .u64 (IntKind.u64.wrap (rd u (IntKind.i64.wrap (j + n)))) :: .int .u64 (IntKind.u64.wrap (IntKind.u64.wrap (rd u (IntKind.i64.wrap (j + n))) * 2 ^ 32)) :: .sl 0 0 0 :: .int .i64 j :: .int .i64 n :: .int .i64 (IntKind.i64.wrap (j + n)) :: .int .i64 (IntKind.i64.wrap (IntKind.i64.wrap (j + n) - 1)) :: tops 1 (.int .u32 (rd u (IntKind.i64.wrap (IntKind.i64.wrap (j + n) - 1))) :: .int .u64 (IntKind.u64.wrap (rd u (IntKind.i64.wrap (IntKind.i64.wrap (j + n) - 1)))) :: .int .u64 (IntKind.u64.wrap (↑(BitVec.ofInt 64 (IntKind.u64.wrap (IntKind.u64.wrap (rd u (IntKind.i64.wrap (j + n))) * 2 ^ 32)) ||| BitVec.ofInt 64 (IntKind.u64.wrap (rd u (IntKind.i64.wrap (IntKind.i64.wrap (j + n) - 1))))).toNat : Int)) :: .int .u64 (IntKind.u64.wrap (↑(BitVec.ofInt 64 (IntKind.u64.wrap (IntKind.u64.wrap (rd u (IntKind.i64.wrap (j + n))) * 2 ^ 32)) ||| BitVec.ofInt 64 (IntKind.u64.wrap (rd u (IntKind.i64.wrap (IntKind.i64.wrap (j + n) - 1))))).toNat : Int)) :: .ints .u32 v :: .int .i64 n :: .int .i64 (IntKind.i64.wrap (n - 1)) :: .place [.int .u32 (rd v (IntKind.i64.wrap (n - 1)))] :: .int .u32 (rd v (IntKind.i64.wrap (n - 1))) :: .int .u64 (IntKind.u64.wrap (rd v (IntKind.i64.wrap (n - 1)))) :: .int .u64 (IntKind.u64.wrap ((IntKind.u64.wrap (↑(BitVec.ofInt 64 (IntKind.u64.wrap (IntKind.u64.wrap (rd u (IntKind.i64.wrap (j + n))) * 2 ^ 32)) ||| BitVec.ofInt 64 (IntKind.u64.wrap (rd u (IntKind.i64.wrap (IntKind.i64.wrap (j + n) - 1))))).toNat : Int)).tdiv (IntKind.u64.wrap (rd v (IntKind.i64.wrap (n - 1)))))) :: .int .u64 (IntKind.u64.wrap (↑(BitVec.ofInt 64 (IntKind.u64.wrap (IntKind.u64.wrap (rd u (IntKind.i64.wrap (j + n))) * 2 ^ 32)) ||| BitVec.ofInt 64 (IntKind.u64.wrap (rd u (IntKind.i64.wrap (IntKind.i64.wrap (j + n) - 1))))).toNat : Int)) :: .ints .u32 v :: .int .i64 n :: .int .i64 (IntKind.i64.wrap (n - 1)) :: .place [.int .u32 (rd v (IntKind.i64.wrap (n - 1)))] :: .int .u32 (rd v (IntKind.i64.wrap (n - 1))) :: .int .u64 (IntKind.u64.wrap (rd v (IntKind.i64.wrap (n - 1)))) :: .int .u64 ((IntKind.u64.wrap (↑(BitVec.ofInt 64 (IntKind.u64.wrap (IntKind.u64.wrap (rd u (IntKind.i64.wrap (j + n))) * 2 ^ 32)) ||| BitVec.ofInt 64 (IntKind.u64.wrap (rd u (IntKind.i64.wrap (IntKind.i64.wrap (j + n) - 1))))).toNat : Int)).tmod (IntKind.u64.wrap (rd v (IntKind.i64.wrap (n - 1))))) :: tops 36 (.int .i64 n :: .int .i64 x6 :: tops 91 ([])))))), rowE (.ints .u32 l0) :: nos 178 ([])⟩
theorem round1 (v : List Int) (j : Int) (n : Int) (u : List Int) (x2 : Int) (x3 : Int) (x4 : Int) (x5 : Int) (x6 : Int) (l0 : List Int) : goL T orc (noTab) D1 L1 (st1 v j n u x2 x3 x4 x5 x6 l0) =
    (bif decide (x6 < n) then (bif inB x6 v.length then (bif inB (IntKind.i64.wrap (x6 + j)) l0.length then (bif decide (0 ≤ rd l0 (IntKind.i64.wrap (x6 + j))) && decide (rd l0 (IntKind.i64.wrap (x6 + j)) < 4294967296) && decide (0 ≤ IntKind.u32.wrap (IntKind.u64.wrap (x4 + IntKind.u64.wrap (x2 * IntKind.u64.wrap (rd v x6))))) && decide (IntKind.u32.wrap (IntKind.u64.wrap (x4 + IntKind.u64.wrap (x2 * IntKind.u64.wrap (rd v x6)))) < 4294967296) && decide (0 ≤ x5) && decide (x5 ≤ 1) then (bif inB (IntKind.i64.wrap (x6 + j)) l0.length then some (.normal, st1 v j n u x2 x3 ((IntKind.u64.wrap (x4 + IntKind.u64.wrap (x2 * IntKind.u64.wrap (rd v x6)))).fdiv (2 ^ 32)) (b2i (decide (rd l0 (IntKind.i64.wrap (x6 + j)) < IntKind.u32.wrap (IntKind.u64.wrap (x4 + IntKind.u64.wrap (x2 * IntKind.u64.wrap (rd v x6)))) + x5))) (IntKind.i64.wrap (x6 + 1)) (l0.set (IntKind.i64.wrap (x6 + j)).toNat ((rd l0 (IntKind.i64.wrap (x6 + j)) - IntKind.u32.wrap (IntKind.u64.wrap (x4 + IntKind.u64.wrap (x2 * IntKind.u64.wrap (rd v x6)))) - x5) % 4294967296))) else none) else none) else none) else none) else some (.exit 2, st1 v j n u x2 x3 x4 x5 x6 l0)) := by kernel_rfl
-- loop 1 ends exit2 st1 v j n u x2 x3 x4 x5 x6 l0
noncomputable def L2 : Code := lp Try.f90 2
theorem isL2 : ∃ a, L2 = .loop a := ⟨_, rfl⟩
abbrev D2 : List Nat := [0, 1, 2, 3, 8, 9, 10, 11, 12, 13, 15, 17, 18, 19, 20, 22, 23, 24, 25, 26, 27, 28, 29, 31, 32, 33, 34, 35, 36, 37, 38, 39, 40, 41, 42, 43, 44, 45, 46, 47, 48, 49, 86, 87, 120, 121, 122, 123, 124, 125, 126, 127, 128, 129, 130, 131, 132, 133, 134, 135, 136, 137, 138, 139, 142, 143]
abbrev st2 (v : List Int) (j : Int) (n : Int) (u : List Int) (x2 : Int) (x3 : Int) (x7 : Int) (l1 : List Int) (x8 : Int) (x10 : Int) (x9 : Int) (x11 : Int) (l2 : List Int) : St := ⟨.sl 0 0 0 :: .ints .u32 v :: .int .i64 j :: .int .i64 n :: tops 4 (.int .u32 (0) :: .int .u64 (IntKind.u64.wrap (↑(BitVec.ofInt 64 (IntKind.u64.wrap (IntKind.u64.wrap (rd u (IntKind.i64.wrap (j + n))) * 2 ^ 32)) ||| BitVec.ofInt 64 (IntKind.u64.wrap (rd u (IntKind.i64.wrap (IntKind.i64.wrap (j + n) - 1))))).toNat : Int)) :: .int .u64 x2 :: .int .u64 x3 :: .int .u64 x7 :: .int .u32 (b2i (decide (rd l1 (IntKind.i64.wrap (j + n)) < IntKind.u32.wrap x7 + x8))) :: tops 1 (.int .u32 x10 :: tops 1 (.sl 0 0 0 :: .int .i64 j :: .int .i64 n :: .int .i64 (IntKind.i64.wrap (j + n)) :: tops 1 (.int .u32 (rd u (IntKind.i64.wrap (j + n))) :: .int .u64 (IntKind.u64.wrap (rd u (IntKind.i64.wrap (j + n)))) :: .int .u64 (IntKind.u64.wrap (IntKind.u64.wrap (rd u (IntKind.i64.wrap (j + n))) * 2 ^ 32)) :: .sl 0 0 0 :: .int .i64 j :: .int .i64 n :: .int .i64 (IntKind.i64.wrap (j + n)) :: .int .i64 (IntKind.i64.wrap (IntKind.i64.wrap (j + n) - 1)) :: tops 1 (.int .u32 (rd u (IntKind.i64.wrap (IntKind.i64.wrap (j + n) - 1))) :: .int .u64 (IntKind.u64.wrap (rd u (IntKind.i64.wrap (IntKind.i64.wrap (j + n) - 1)))) :: .int .u64 (IntKind.u64.wrap (↑(BitVec.ofInt 64 (IntKind.u64.wrap (IntKind.u64.wrap (rd u (IntKind.i64.wrap (j + n))) * 2 ^ 32)) ||| BitVec.ofInt 64 (IntKind.u64.wrap (rd u (IntKind.i64.wrap (IntKind.i64.wrap (j + n) - 1))))).toNat : Int)) :: .int .u64 (IntKind.u64.wrap (↑(BitVec.ofInt 64 (IntKind.u64.wrap (IntKind.u64.wrap (rd u (IntKind.i64.wrap (j + n))) * 2 ^ 32)) ||| BitVec.ofInt 64 (IntKind.u64.wrap (rd u (IntKind.i64.wrap (IntKind.i64.wrap (j + n) - 1))))).toNat : Int)) :: .ints .u32 v :: .int .i64 n :: .int .i64 (IntKind.i64.wrap (n - 1)) :: .place [.int .u32 (rd v (IntKind.i64.wrap (n - 1)))] :: .int .u32 (rd v (IntKind.i64.wrap (n - 1))) :: .int .u64 (IntKind.u64.wrap (rd v (IntKind.i64.wrap (n - 1)))) :: .int .u64 (IntKind.u64.wrap ((IntKind.u64.wrap (↑(BitVec.ofInt 64 (IntKind.u64.wrap (IntKind.u64.wrap (rd u (IntKind.i64.wrap (j + n))) * 2 ^ 32)) ||| BitVec.ofInt 64 (IntKind.u64.wrap (rd u (IntKind.i64.wrap (IntKind.i64.wrap (j + n) - 1))))).toNat : Int)).tdiv (IntKind.u64.wrap (rd v (IntKind.i64.wrap (n - 1)))))) :: .int .u64 (IntKind.u64.wrap (↑(BitVec.ofInt 64 (IntKind.u64.wrap (IntKind.u64.wrap (rd u (IntKind.i64.wrap (j + n))) * 2 ^ 32)) ||| BitVec.ofInt 64 (IntKind.u64.wrap (rd u (IntKind.i64.wrap (IntKind.i64.wrap (j + n) - 1))))).toNat : Int)) :: .ints .u32 v :: .int .i64 n :: .int .i64 (IntKind.i64.wrap (n - 1)) :: .place [.int .u32 (rd v (IntKind.i64.wrap (n - 1)))] :: .int .u32 (rd v (IntKind.i64.wrap (n - 1))) :: .int .u64 (IntKind.u64.wrap (rd v (IntKind.i64.wrap (n - 1)))) :: .int .u64 ((IntKind.u64.wrap (↑(BitVec.ofInt 64 (IntKind.u64.wrap (IntKind.u64.wrap (rd u (IntKind.i64.wrap (j + n))) * 2 ^ 32)) ||| BitVec.ofInt 64 (IntKind.u64.wrap (rd u (IntKind.i64.wrap (IntKind.i64.wrap (j + n) - 1))))).toNat : Int)).tmod (IntKind.u64.wrap (rd v (IntKind.i64.wrap (n - 1))))) :: tops 36 (.int .i64 n :: .int .i64 x9 :: tops 32 (.tup [.int .u32 ((rd l1 (IntKind.i64.wrap (j + n)) - IntKind.u32.wrap x7 - x8) % 4294967296), .int .u32 (b2i (decide (rd l1 (IntKind.i64.wrap (j + n)) < IntKind.u32.wrap x7 + x8)))] :: .sl 0 0 0 :: .int .i64 j :: .int .i64 n :: .int .i64 (IntKind.i64.wrap (j + n)) :: .sl 0 0 0 :: .int .i64 j :: .int .i64 n :: .int .i64 (IntKind.i64.wrap (j + n)) :: tops 1 (.int .u32 (rd l1 (IntKind.i64.wrap (j + n))) :: .int .u64 x7 :: .int .u32 (IntKind.u32.wrap x7) :: .int .u32 x8 :: .tup [.int .u32 ((rd l1 (IntKind.i64.wrap (j + n)) - IntKind.u32.wrap x7 - x8) % 4294967296), .int .u32 (b2i (decide (rd l1 (IntKind.i64.wrap (j + n)) < IntKind.u32.wrap x7 + x8)))] :: .int .u32 ((rd l1 (IntKind.i64.wrap (j + n)) - IntKind.u32.wrap x7 - x8) % 4294967296) :: .int .u32 (b2i (decide (rd l1 (IntKind.i64.wrap (j + n)) < IntKind.u32.wrap x7 + x8))) :: tops 1 (.int .u32 (b2i (decide (rd l1 (IntKind.i64.wrap (j + n)) < IntKind.u32.wrap x7 + x8))) :: .bool (b2i (decide (rd l1 (IntKind.i64.wrap (j + n)) < IntKind.u32.wrap x7 + x8)) == 0) :: tops 2 (.int .i64 n :: .int .i64 x11 :: tops 35 ([]))))))))))), rowE (.ints .u32 l2) :: nos 178 ([])⟩
theorem round2 (v : List Int) (j : Int) (n : Int) (u : List Int) (x2 : Int) (x3 : Int) (x7 : Int) (l1 : List Int) (x8 : Int) (x10 : Int) (x9 : Int) (x11 : Int) (l2 : List Int) : goL T orc (noTab) D2 L2 (st2 v j n u x2 x3 x7 l1 x8 x10 x9 x11 l2) =
    (bif decide (x11 < n) then (bif inB (IntKind.i64.wrap (x11 + j)) l2.length then (bif inB x11 v.length then (bif decide (0 ≤ rd l2 (IntKind.i64.wrap (x11 + j))) && decide (rd l2 (IntKind.i64.wrap (x11 + j)) < 4294967296) && decide (0 ≤ rd v x11) && decide (rd v x11 < 4294967296) && decide (0 ≤ x10) && decide (x10 ≤ 1) then (bif inB (IntKind.i64.wrap (x11 + j)) l2.length then some (.normal, st2 v j n u x2 x3 x7 l1 x8 (b2i (decide (4294967296 ≤ rd l2 (IntKind.i64.wrap (x11 + j)) + rd v x11 + x10))) x9 (IntKind.i64.wrap (x11 + 1)) (l2.set (IntKind.i64.wrap (x11 + j)).toNat ((rd l2 (IntKind.i64.wrap (x11 + j)) + rd v x11 + x10) % 4294967296))) else none) else none) else none) else none) else some (.exit 4, st2 v j n u x2 x3 x7 l1 x8 x10 x9 x11 l2)) := by kernel_rfl
-- loop 2 ends exit4 st2 v j n u x2 x3 x7 l1 x8 x10 x9 x11 l2
theorem rest (u : List Int) (v : List Int) (j : Int) (n : Int) (l3 : List Int) (x12 : Int) (x2 : Int) (x3 : Int) (x7 : Int) (l1 : List Int) (x8 : Int) (x9 : Int) (x13 : Int) : runTM T orc (tabOf T orc [(3, 220935877391547545310362390501370344593083250645148388465967214544155282116680330896604617775615643673420656662065373622788847671516133862354777432241123064714587646277013005670786775189518434789252148062226033340142, .exit 0, st0 v j n u x2 x3), (9, 220935877391546488031835383399145182996463416892850928101490691660974195608050754522775559223267713219301271392281415710484943307592124679615024554213531590923812951823732424582273066433821949250888134900674085187310, .exit 2, st1 v j n u x2 x3 x7 x8 x9 l1), (20, 220935877391546487788894545391998531994258311232521815633576060107002876424569911329674955119740059742634426015254023415071797607417369679135472361700032246637044093733466062703081384897743519738812376415380010102510, .exit 4, st2 v j n u x2 x3 x7 l1 x8 x12 x9 x13 l3)]) Try.f90 [.ints .u32 u, .ints .u32 v, .int .i64 j, .int .i64 n] =
    (bif inB (IntKind.i64.wrap (j + n)) u.length then (bif inB (IntKind.i64.wrap (IntKind.i64.wrap (j + n) - 1)) u.length then (bif inB (IntKind.i64.wrap (n - 1)) v.length then (bif !decide (IntKind.u64.wrap (rd v (IntKind.i64.wrap (n - 1))) = 0) then (bif inB (IntKind.i64.wrap (n - 1)) v.length then (bif !decide (IntKind.u64.wrap (rd v (IntKind.i64.wrap (n - 1))) = 0) then (bif cdec (Ends T orc L0 D0 (st0 v j n u (IntKind.u64.wrap ((IntKind.u64.wrap (↑(BitVec.ofInt 64 (IntKind.u64.wrap (IntKind.u64.wrap (rd u (IntKind.i64.wrap (j + n))) * 2 ^ 32)) ||| BitVec.ofInt 64 (IntKind.u64.wrap (rd u (IntKind.i64.wrap (IntKind.i64.wrap (j + n) - 1))))).toNat : Int)).tdiv (IntKind.u64.wrap (rd v (IntKind.i64.wrap (n - 1)))))) ((IntKind.u64.wrap (↑(BitVec.ofInt 64 (IntKind.u64.wrap (IntKind.u64.wrap (rd u (IntKind.i64.wrap (j + n))) * 2 ^ 32)) ||| BitVec.ofInt 64 (IntKind.u64.wrap (rd u (IntKind.i64.wrap (IntKind.i64.wrap (j + n) - 1))))).toNat : Int)).tmod (IntKind.u64.wrap (rd v (IntKind.i64.wrap (n - 1)))))) (.exit 0) (st0 v j n u x2 x3)) then (bif cdec (Ends T orc L1 D1 (st1 v j n u x2 x3 (0) (0) (0) u) (.exit 2) (st1 v j n u x2 x3 x7 x8 x9 l1)) then (bif inB (IntKind.i64.wrap (j + n)) l1.length then (bif decide (0 ≤ rd l1 (IntKind.i64.wrap (j + n))) && decide (rd l1 (IntKind.i64.wrap (j + n)) < 4294967296) && decide (0 ≤ IntKind.u32.wrap x7) && decide (IntKind.u32.wrap x7 < 4294967296) && decide (0 ≤ x8) && decide (x8 ≤ 1) then (bif inB (IntKind.i64.wrap (j + n)) l1.length then (bif b2i (decide (rd l1 (IntKind.i64.wrap (j + n)) < IntKind.u32.wrap x7 + x8)) == 0 then some (.gave (.ints .u32 (l1.set (IntKind.i64.wrap (j + n)).toNat ((rd l1 (IntKind.i64.wrap (j + n)) - IntKind.u32.wrap x7 - x8) % 4294967296))) (.int .u32 (IntKind.u32.wrap x2))) else (bif cdec (Ends T orc L2 D2 (st2 v j n u x2 x3 x7 l1 x8 (0) x9 (0) (l1.set (IntKind.i64.wrap (j + n)).toNat ((rd l1 (IntKind.i64.wrap (j + n)) - IntKind.u32.wrap x7 - x8) % 4294967296))) (.exit 4) (st2 v j n u x2 x3 x7 l1 x8 x12 x9 x13 l3)) then (bif inB (IntKind.i64.wrap (j + n)) l3.length then (bif inB (IntKind.i64.wrap (j + n)) l3.length then some (.gave (.ints .u32 (l3.set (IntKind.i64.wrap (j + n)).toNat (IntKind.u32.wrap (rd l3 (IntKind.i64.wrap (j + n)) + x12)))) (.int .u32 (IntKind.u32.wrap (IntKind.u64.wrap (x2 - 1))))) else none) else none) else none)) else none) else none) else none) else none) else none) else none) else none) else none) else none) else none) else none) := by kernel_rfl
end Digit
end Go.Abs
end
section
/- States and rounds of arith's functions, as a program of this session printed them. -/
namespace Go.Abs
open Go.Proofs Go.Dig
namespace Norm
noncomputable def L0 : Code := lp Try.f58 0
theorem isL0 : ∃ a, L0 = .loop a := ⟨_, rfl⟩
abbrev D0 : List Nat := [0, 1, 4, 5, 7, 8]
abbrev st0 (neg : Bool) (l : List Int) (x0 : Int) : St := ⟨.bool neg :: .ints .u32 l :: tops 2 (.ptr 4 0 0 :: .int .i64 x0 :: tops 1 (.ints .u32 l :: .int .i64 (↑l.length : Int) :: tops 23 ([]))), nos 4 (varE [(false, .bool false), (true, .ints .u32 [])] :: nos 27 ([]))⟩
theorem round0 (neg : Bool) (l : List Int) (x0 : Int) : goL T noOrc (noTab) D0 L0 (st0 neg l x0) =
    (bif decide (x0 > 0) then (bif inB (IntKind.i64.wrap (x0 - 1)) l.length then (bif rd l (IntKind.i64.wrap (x0 - 1)) == 0 then some (.normal, st0 neg l (IntKind.i64.wrap (x0 - 1))) else some (.exit 0, st0 neg l x0)) else none) else some (.exit 0, st0 neg l x0)) := by kernel_rfl
-- loop 0 ends exit0 st0 neg l x0
theorem rest (neg : Bool) (l : List Int) (x1 : Int) : runT T noOrc (tabOf T noOrc [(2, 49090933523575246115081363435123830510, .exit 0, st0 neg l x1)]) Try.f58 [.bool neg, .ints .u32 l] =
    (bif cdec (Ends T noOrc L0 D0 (st0 neg l ((↑l.length : Int))) (.exit 0) (st0 neg l x1)) then (bif x1 == 0 then some (.val (.agg [.bool false, .ints .u32 []])) else (bif decide (0 ≤ x1) && decide (x1 ≤ x1) && decide (x1.toNat * 4 ≤ 281474976710656) then some (.val (.agg [.bool neg, .ints .u32 (List.take (zeros x1.toNat).length l ++ List.drop l.length (zeros x1.toNat))])) else none)) else none) := by kernel_rfl
end Norm
namespace CmpMag
noncomputable def L0 : Code := lp Try.f75 0
theorem isL0 : ∃ a, L0 = .loop a := ⟨_, rfl⟩
abbrev D0 : List Nat := [0, 1, 4, 5, 6, 7, 8, 9, 10, 16, 17, 18]
abbrev st0 (a : List Int) (b : List Int) (x0 : Int) : St := ⟨.ints .u32 a :: .ints .u32 b :: tops 2 (.int .i64 (0) :: .int .i64 x0 :: .ints .u32 a :: .int .i64 (↑a.length : Int) :: .ints .u32 b :: .int .i64 (↑b.length : Int) :: .bool ((↑a.length : Int) != (↑b.length : Int)) :: tops 5 (.ints .u32 a :: .int .i64 (↑a.length : Int) :: .int .i64 (IntKind.i64.wrap ((↑a.length : Int) - 1)) :: tops 24 ([]))), nos 43 ([])⟩
abbrev st0x0 (a : List Int) (b : List Int) (x1 : Int) (x0 : Int) : St := ⟨.ints .u32 a :: .ints .u32 b :: tops 2 (.int .i64 x1 :: .int .i64 x0 :: .ints .u32 a :: .int .i64 (↑a.length : Int) :: .ints .u32 b :: .int .i64 (↑b.length : Int) :: .bool ((↑a.length : Int) != (↑b.length : Int)) :: tops 5 (.ints .u32 a :: .int .i64 (↑a.length : Int) :: .int .i64 (IntKind.i64.wrap ((↑a.length : Int) - 1)) :: tops 24 ([]))), nos 43 ([])⟩
theorem round0 (a : List Int) (b : List Int) (x0 : Int) : goL T noOrc (noTab) D0 L0 (st0 a b x0) =
    (bif decide (x0 ≥ 0) then (bif inB x0 a.length then (bif inB x0 b.length then (bif decide (rd a x0 < rd b x0) then some (.ret, st0x0 a b (-1) x0) else (bif inB x0 a.length then (bif inB x0 b.length then (bif decide (rd a x0 > rd b x0) then some (.ret, st0x0 a b (1) x0) else some (.normal, st0 a b (IntKind.i64.wrap (x0 - 1)))) else none) else none)) else none) else none) else some (.exit 0, st0 a b x0)) := by kernel_rfl
-- loop 0 ends ret st0x0 a b x1 x0
-- loop 0 ends exit0 st0 a b x0
theorem rest_0 (a : List Int) (b : List Int) (x2 : Int) (x3 : Int) : runT T noOrc (tabOf T noOrc [(6, 1611859775025682748261117154962095979354527915503342, .ret, st0x0 a b x2 x3)]) Try.f75 [.ints .u32 a, .ints .u32 b] =
    (bif (↑a.length : Int) != (↑b.length : Int) then (bif decide ((↑a.length : Int) < (↑b.length : Int)) then some (.val (.int .i64 (-1))) else some (.val (.int .i64 (1)))) else (bif cdec (Ends T noOrc L0 D0 (st0 a b (IntKind.i64.wrap ((↑a.length : Int) - 1))) .ret (st0x0 a b x2 x3)) then some (.val (.int .i64 x2)) else none)) := by kernel_rfl
theorem rest_1 (a : List Int) (b : List Int) (x4 : Int) : runT T noOrc (tabOf T noOrc [(6, 1611859775025682748261117154962095979354527915503342, .exit 0, st0 a b x4)]) Try.f75 [.ints .u32 a, .ints .u32 b] =
    (bif (↑a.length : Int) != (↑b.length : Int) then (bif decide ((↑a.length : Int) < (↑b.length : Int)) then some (.val (.int .i64 (-1))) else some (.val (.int .i64 (1)))) else (bif cdec (Ends T noOrc L0 D0 (st0 a b (IntKind.i64.wrap ((↑a.length : Int) - 1))) (.exit 0) (st0 a b x4)) then some (.val (.int .i64 (0))) else none)) := by kernel_rfl
end CmpMag
namespace TimesMag
noncomputable def L1 : Code := lp Try.f95 1
theorem isL1 : ∃ a, L1 = .loop a := ⟨_, rfl⟩
abbrev D1 : List Nat := [0, 1, 4, 5, 6, 7, 8, 11, 12, 13, 14, 15, 16, 17, 18, 19, 20, 21, 22, 23, 24, 25, 26]
abbrev st1 (a : List Int) (b : List Int) (x4 : Int) (x5 : Int) (x6 : Int) (l3 : List Int) : St := ⟨.ints .u32 a :: .ints .u32 b :: tops 2 (.sl 4 0 0 :: .sl 5 0 0 :: .int .i64 x4 :: .int .u32 (rd a x4) :: .int .u64 x5 :: tops 2 (.ints .u32 a :: .int .i64 (↑a.length : Int) :: .ints .u32 b :: .int .i64 (↑b.length : Int) :: .int .i64 (IntKind.i64.wrap ((↑a.length : Int) + (↑b.length : Int))) :: .sl 16 0 0 :: .ints .u32 a :: .int .i64 (↑a.length : Int) :: .int .i64 x4 :: .bool (decide (x4 < (↑a.length : Int))) :: .int .i64 x4 :: .place [.int .u32 (rd a x4)] :: .int .u32 (rd a x4) :: .ints .u32 b :: .int .i64 (↑b.length : Int) :: .int .i64 x6 :: tops 39 ([]))), nos 4 (rowE (.ints .u32 []) :: rowE (.ints .u32 l3) :: nos 10 ({ g := 0, pg := 0, o := some (AObj.row { g := 0, own := false, v := .top }) } :: nos 49 ([])))⟩
theorem round1 (a : List Int) (b : List Int) (x4 : Int) (x5 : Int) (x6 : Int) (l3 : List Int) : goL T noOrc (noTab) D1 L1 (st1 a b x4 x5 x6 l3) =
    (bif decide (x6 < (↑b.length : Int)) then (bif inB x6 b.length then (bif inB (IntKind.i64.wrap (x4 + x6)) l3.length then (bif inB (IntKind.i64.wrap (x4 + x6)) l3.length then some (.normal, st1 a b x4 ((IntKind.u64.wrap (x5 + IntKind.u64.wrap (IntKind.u64.wrap (IntKind.u64.wrap (rd a x4) * IntKind.u64.wrap (rd b x6)) + IntKind.u64.wrap (rd l3 (IntKind.i64.wrap (x4 + x6)))))).fdiv (2 ^ 32)) (IntKind.i64.wrap (x6 + 1)) (l3.set (IntKind.i64.wrap (x4 + x6)).toNat (IntKind.u32.wrap (IntKind.u64.wrap (x5 + IntKind.u64.wrap (IntKind.u64.wrap (IntKind.u64.wrap (rd a x4) * IntKind.u64.wrap (rd b x6)) + IntKind.u64.wrap (rd l3 (IntKind.i64.wrap (x4 + x6))))))))) else none) else none) else none) else some (.exit 2, st1 a b x4 x5 x6 l3)) := by kernel_rfl
-- loop 1 ends exit2 st1 a b x4 x5 x6 l3
noncomputable def L0 : Code := lp Try.f95 0
theorem isL0 : ∃ a, L0 = .loop a := ⟨_, rfl⟩
abbrev D0 : List Nat := [0, 1, 4, 5, 11, 12, 13, 14, 15, 16, 17, 18, 19]
abbrev st0 (a : List Int) (b : List Int) (x4 : Int) (l2 : List Int) : St := ⟨.ints .u32 a :: .ints .u32 b :: tops 2 (.sl 4 0 0 :: .sl 5 0 0 :: tops 5 (.ints .u32 a :: .int .i64 (↑a.length : Int) :: .ints .u32 b :: .int .i64 (↑b.length : Int) :: .int .i64 (IntKind.i64.wrap ((↑a.length : Int) + (↑b.length : Int))) :: .sl 16 0 0 :: .ints .u32 a :: .int .i64 (↑a.length : Int) :: .int .i64 x4 :: tops 46 ([]))), nos 4 (rowE (.ints .u32 []) :: rowE (.ints .u32 l2) :: nos 10 ({ g := 0, pg := 0, o := some (AObj.row { g := 0, own := false, v := .top }) } :: nos 49 ([])))⟩
theorem round0 (a : List Int) (b : List Int) (x4 : Int) (l2 : List Int) (l4 : List Int) (x7 : Int) (x8 : Int) : goL T noOrc (tabOf T noOrc [(7, 7981813008263836768396840024989830754914137585008864034408700665879068150787822, .exit 2, st1 a b x4 x7 x8 l4)]) D0 L0 (st0 a b x4 l2) =
    (bif decide (x4 < (↑a.length : Int)) then (bif inB x4 a.length then (bif cdec (Ends T noOrc L1 D1 (st1 a b x4 (0) (0) l2) (.exit 2) (st1 a b x4 x7 x8 l4)) then (bif inB (IntKind.i64.wrap (x4 + (↑b.length : Int))) l4.length then some (.normal, st0 a b (IntKind.i64.wrap (x4 + 1)) (l4.set (IntKind.i64.wrap (x4 + (↑b.length : Int))).toNat (IntKind.u32.wrap x7))) else none) else none) else none) else some (.exit 0, st0 a b x4 l2)) := by kernel_rfl
-- loop 0 ends exit0 st0 a b x4 l2
theorem rest (a : List Int) (b : List Int) (l5 : List Int) (x9 : Int) : runT T noOrc (tabOf T noOrc [(3, 7981814539157448315878789777551258915828422654318485530167062876751765189881582, .exit 0, st0 a b x9 l5)]) Try.f95 [.ints .u32 a, .ints .u32 b] =
    (bif decide (0 ≤ IntKind.i64.wrap ((↑a.length : Int) + (↑b.length : Int))) && decide (IntKind.i64.wrap ((↑a.length : Int) + (↑b.length : Int)) ≤ IntKind.i64.wrap ((↑a.length : Int) + (↑b.length : Int))) && decide ((IntKind.i64.wrap ((↑a.length : Int) + (↑b.length : Int))).toNat * 4 ≤ 281474976710656) then (bif cdec (Ends T noOrc L0 D0 (st0 a b (0) (zeros (IntKind.i64.wrap ((↑a.length : Int) + (↑b.length : Int))).toNat)) (.exit 0) (st0 a b x9 l5)) then some (.own (.ints .u32 l5)) else none) else none) := by kernel_rfl
end TimesMag
namespace Scale
noncomputable def L0 : Code := lp Try.f56 0
theorem isL0 : ∃ a, L0 = .loop a := ⟨_, rfl⟩
abbrev D0 : List Nat := [0, 1, 2, 6, 7, 8, 11, 12, 13, 14, 15, 16, 17, 18, 19]
abbrev st0 (l : List Int) (by_ : Int) (add : Int) (x0 : Int) (x1 : Int) (l0 : List Int) : St := ⟨.ints .u32 l :: .int .u32 by_ :: .int .u32 add :: tops 3 (.sl 6 0 0 :: .sl 7 0 0 :: .int .u64 x0 :: tops 2 (.ints .u32 l :: .int .i64 (↑l.length : Int) :: .int .i64 (IntKind.i64.wrap ((↑l.length : Int) + 1)) :: .sl 14 0 0 :: .int .u32 add :: .int .u64 (IntKind.u64.wrap add) :: .ints .u32 l :: .int .i64 (↑l.length : Int) :: .int .i64 x1 :: tops 26 ([]))), nos 6 (rowE (.ints .u32 []) :: rowE (.ints .u32 l0) :: nos 6 ({ g := 0, pg := 0, o := some (AObj.row { g := 0, own := false, v := .top }) } :: nos 31 ([])))⟩
theorem round0 (l : List Int) (by_ : Int) (add : Int) (x0 : Int) (x1 : Int) (l0 : List Int) : goL T noOrc (noTab) D0 L0 (st0 l by_ add x0 x1 l0) =
    (bif decide (x1 < (↑l.length : Int)) then (bif inB x1 l.length then (bif true && decide ((l0 ++ [IntKind.u32.wrap (IntKind.u64.wrap (x0 + IntKind.u64.wrap (IntKind.u64.wrap (rd l x1) * IntKind.u64.wrap by_)))]).length * 4 ≤ 140737488355328) then some (.normal, st0 l by_ add ((IntKind.u64.wrap (x0 + IntKind.u64.wrap (IntKind.u64.wrap (rd l x1) * IntKind.u64.wrap by_))).fdiv (2 ^ 32)) (IntKind.i64.wrap (x1 + 1)) (l0 ++ [IntKind.u32.wrap (IntKind.u64.wrap (x0 + IntKind.u64.wrap (IntKind.u64.wrap (rd l x1) * IntKind.u64.wrap by_)))])) else none) else none) else some (.exit 0, st0 l by_ add x0 x1 l0)) := by kernel_rfl
-- loop 0 ends exit0 st0 l by_ add x0 x1 l0
theorem rest (l : List Int) (by_ : Int) (add : Int) (l1 : List Int) (x2 : Int) (x3 : Int) : runT T noOrc (tabOf T noOrc [(4, 6237336275949380572498355370127796064398293482645417710, .exit 0, st0 l by_ add x2 x3 l1)]) Try.f56 [.ints .u32 l, .int .u32 by_, .int .u32 add] =
    (bif true && decide (0 ≤ IntKind.i64.wrap ((↑l.length : Int) + 1)) && decide ((IntKind.i64.wrap ((↑l.length : Int) + 1)).toNat * 4 ≤ 281474976710656) then (bif cdec (Ends T noOrc L0 D0 (st0 l by_ add (IntKind.u64.wrap add) (0) ([])) (.exit 0) (st0 l by_ add x2 x3 l1)) then (bif decide (x2 > 0) then (bif true && decide ((l1 ++ [IntKind.u32.wrap x2]).length * 4 ≤ 140737488355328) then some (.own (.ints .u32 (l1 ++ [IntKind.u32.wrap x2]))) else none) else some (.own (.ints .u32 l1))) else none) else none) := by kernel_rfl
end Scale
namespace Part
noncomputable def L0 : Code := lp Try.f68 0
theorem isL0 : ∃ a, L0 = .loop a := ⟨_, rfl⟩
abbrev D0 : List Nat := [0, 1, 4, 5, 6, 7, 8, 10, 11, 12, 13, 14, 15]
abbrev st0 (l : List Int) (by_ : Int) (x0 : Int) (x1 : Int) (l0 : List Int) : St := ⟨.ints .u32 l :: .int .u32 by_ :: tops 2 (.sl 4 0 0 :: .int .u32 (0) :: .sl 6 0 0 :: .int .u64 x0 :: .int .i64 x1 :: tops 1 (.ints .u32 l :: .int .i64 (↑l.length : Int) :: .sl 12 0 0 :: .ints .u32 l :: .int .i64 (↑l.length : Int) :: .int .i64 (IntKind.i64.wrap ((↑l.length : Int) - 1)) :: tops 43 ([]))), nos 4 (rowE (.ints .u32 []) :: nos 1 (rowE (.ints .u32 l0) :: nos 5 ({ g := 0, pg := 0, o := some (AObj.row { g := 0, own := false, v := .top }) } :: nos 46 ([]))))⟩
theorem round0 (l : List Int) (by_ : Int) (x0 : Int) (x1 : Int) (l0 : List Int) : goL T noOrc (noTab) D0 L0 (st0 l by_ x0 x1 l0) =
    (bif decide (x1 ≥ 0) then (bif inB x1 l.length then (bif !decide (IntKind.u64.wrap by_ = 0) then (bif inB x1 l0.length then (bif !decide (IntKind.u64.wrap by_ = 0) then some (.normal, st0 l by_ ((IntKind.u64.wrap (↑(BitVec.ofInt 64 (IntKind.u64.wrap (x0 * 2 ^ 32)) ||| BitVec.ofInt 64 (IntKind.u64.wrap (rd l x1))).toNat : Int)).tmod (IntKind.u64.wrap by_)) (IntKind.i64.wrap (x1 - 1)) (l0.set x1.toNat (IntKind.u32.wrap (IntKind.u64.wrap ((IntKind.u64.wrap (↑(BitVec.ofInt 64 (IntKind.u64.wrap (x0 * 2 ^ 32)) ||| BitVec.ofInt 64 (IntKind.u64.wrap (rd l x1))).toNat : Int)).tdiv (IntKind.u64.wrap by_)))))) else none) else none) else none) else none) else some (.exit 0, st0 l by_ x0 x1 l0)) := by kernel_rfl
-- loop 0 ends exit0 st0 l by_ x0 x1 l0
noncomputable def L1 : Code := lp Try.f68 1
theorem isL1 : ∃ a, L1 = .loop a := ⟨_, rfl⟩
abbrev D1 : List Nat := [0, 1, 4, 5, 6, 7, 8, 9, 10, 11, 12, 13, 14, 15, 40, 41]
abbrev st1 (l : List Int) (by_ : Int) (x2 : Int) (x3 : Int) (x4 : Int) (l1 : List Int) : St := ⟨.ints .u32 l :: .int .u32 by_ :: tops 2 (.sl 4 0 0 :: .int .u32 (0) :: .sl 6 0 0 :: .int .u64 x2 :: .int .i64 x3 :: .int .i64 x4 :: .ints .u32 l :: .int .i64 (↑l.length : Int) :: .sl 12 0 0 :: .ints .u32 l :: .int .i64 (↑l.length : Int) :: .int .i64 (IntKind.i64.wrap ((↑l.length : Int) - 1)) :: tops 24 (.sl 6 0 0 :: .int .i64 (↑l1.length : Int) :: tops 17 ([]))), nos 4 (rowE (.ints .u32 []) :: nos 1 (rowE (.ints .u32 l1) :: nos 5 ({ g := 0, pg := 0, o := some (AObj.row { g := 0, own := false, v := .top }) } :: nos 46 ([]))))⟩
theorem round1 (l : List Int) (by_ : Int) (x2 : Int) (x3 : Int) (x4 : Int) (l1 : List Int) : goL T noOrc (noTab) D1 L1 (st1 l by_ x2 x3 x4 l1) =
    (bif decide (x4 > 0) then (bif inB (IntKind.i64.wrap (x4 - 1)) l1.length then (bif rd l1 (IntKind.i64.wrap (x4 - 1)) == 0 then some (.normal, st1 l by_ x2 x3 (IntKind.i64.wrap (x4 - 1)) l1) else some (.exit 2, st1 l by_ x2 x3 x4 l1)) else none) else some (.exit 2, st1 l by_ x2 x3 x4 l1)) := by kernel_rfl
-- loop 1 ends exit2 st1 l by_ x2 x3 x4 l1
theorem rest (l : List Int) (by_ : Int) (x5 : Int) (l1 : List Int) (x2 : Int) (x3 : Int) : runT T noOrc (tabOf T noOrc [(4, 28440437587956609016658287635883767427787425185256247768087635468152558, .exit 0, st0 l by_ x2 x3 l1), (10, 28440437586650971855697858037005923227760230570684231446940306121879278, .exit 2, st1 l by_ x2 x3 x5 l1)]) Try.f68 [.ints .u32 l, .int .u32 by_] =
    (bif true && decide ((↑l.length : Int) ≤ (↑l.length : Int)) && decide ((↑l.length : Int).toNat * 4 ≤ 281474976710656) then (bif cdec (Ends T noOrc L0 D0 (st0 l by_ (0) (IntKind.i64.wrap ((↑l.length : Int) - 1)) (zeros (↑l.length : Int).toNat)) (.exit 0) (st0 l by_ x2 x3 l1)) then (bif cdec (Ends T noOrc L1 D1 (st1 l by_ x2 x3 ((↑l1.length : Int)) l1) (.exit 2) (st1 l by_ x2 x3 x5 l1)) then (bif decide (0 ≤ x5) && decide (x5 ≤ (↑l1.length : Int)) then some (.val (.tup [.ints .u32 (List.take x5.toNat l1), .int .u32 (IntKind.u32.wrap x2)])) else none) else none) else none) else none) := by kernel_rfl
end Part
namespace Left
noncomputable def L0 : Code := lp Try.f89 0
theorem isL0 : ∃ a, L0 = .loop a := ⟨_, rfl⟩
abbrev D0 : List Nat := [0, 1, 4, 5, 9, 10, 11, 12, 13, 14, 15]
abbrev st0 (l : List Int) (sh : Int) (x0 : Int) (l0 : List Int) : St := ⟨.ints .u32 l :: .int .i64 sh :: tops 2 (.sl 4 0 0 :: .sl 5 0 0 :: tops 3 (.ints .u32 l :: .int .i64 (↑l.length : Int) :: .int .i64 (IntKind.i64.wrap ((↑l.length : Int) + 1)) :: .sl 12 0 0 :: .ints .u32 l :: .int .i64 (↑l.length : Int) :: .int .i64 x0 :: tops 28 ([]))), nos 4 (rowE (.ints .u32 []) :: rowE (.ints .u32 l0) :: nos 6 ({ g := 0, pg := 0, o := some (AObj.row { g := 0, own := false, v := .top }) } :: nos 31 ([])))⟩
theorem round0 (l : List Int) (sh : Int) (x0 : Int) (l0 : List Int) : goL T noOrc (noTab) D0 L0 (st0 l sh x0 l0) =
    (bif decide (x0 < (↑l.length : Int)) then (bif inB x0 l.length then (bif decide (0 ≤ sh) then (bif inB x0 l0.length then (bif inB x0 l0.length then (bif inB (IntKind.i64.wrap (x0 + 1)) (l0.set x0.toNat (IntKind.u32.wrap (↑(BitVec.ofInt 32 (rd l0 x0) ||| BitVec.ofInt 32 (IntKind.u32.wrap (IntKind.u64.wrap (IntKind.u64.wrap (rd l x0) * 2 ^ min sh.toNat 64)))).toNat : Int))).length then (bif inB (IntKind.i64.wrap (x0 + 1)) (l0.set x0.toNat (IntKind.u32.wrap (↑(BitVec.ofInt 32 (rd l0 x0) ||| BitVec.ofInt 32 (IntKind.u32.wrap (IntKind.u64.wrap (IntKind.u64.wrap (rd l x0) * 2 ^ min sh.toNat 64)))).toNat : Int))).length then some (.normal, st0 l sh (IntKind.i64.wrap (x0 + 1)) ((l0.set x0.toNat (IntKind.u32.wrap (↑(BitVec.ofInt 32 (rd l0 x0) ||| BitVec.ofInt 32 (IntKind.u32.wrap (IntKind.u64.wrap (IntKind.u64.wrap (rd l x0) * 2 ^ min sh.toNat 64)))).toNat : Int))).set (IntKind.i64.wrap (x0 + 1)).toNat (IntKind.u32.wrap (↑(BitVec.ofInt 32 (rd (l0.set x0.toNat (IntKind.u32.wrap (↑(BitVec.ofInt 32 (rd l0 x0) ||| BitVec.ofInt 32 (IntKind.u32.wrap (IntKind.u64.wrap (IntKind.u64.wrap (rd l x0) * 2 ^ min sh.toNat 64)))).toNat : Int))) (IntKind.i64.wrap (x0 + 1))) ||| BitVec.ofInt 32 (IntKind.u32.wrap ((IntKind.u64.wrap (IntKind.u64.wrap (rd l x0) * 2 ^ min sh.toNat 64)).fdiv (2 ^ 32)))).toNat : Int)))) else none) else none) else none) else none) else none) else none) else some (.exit 0, st0 l sh x0 l0)) := by kernel_rfl
-- loop 0 ends exit0 st0 l sh x0 l0
theorem rest (l : List Int) (sh : Int) (l1 : List Int) (x1 : Int) : runT T noOrc (tabOf T noOrc [(3, 24668200490746980835634711171782457503664181991108334, .exit 0, st0 l sh x1 l1)]) Try.f89 [.ints .u32 l, .int .i64 sh] =
    (bif decide (0 ≤ IntKind.i64.wrap ((↑l.length : Int) + 1)) && decide (IntKind.i64.wrap ((↑l.length : Int) + 1) ≤ IntKind.i64.wrap ((↑l.length : Int) + 1)) && decide ((IntKind.i64.wrap ((↑l.length : Int) + 1)).toNat * 4 ≤ 281474976710656) then (bif cdec (Ends T noOrc L0 D0 (st0 l sh (0) (zeros (IntKind.i64.wrap ((↑l.length : Int) + 1)).toNat)) (.exit 0) (st0 l sh x1 l1)) then some (.own (.ints .u32 l1)) else none) else none) := by kernel_rfl
end Left
namespace Right
noncomputable def L0 : Code := lp Try.f91 0
theorem isL0 : ∃ a, L0 = .loop a := ⟨_, rfl⟩
abbrev D0 : List Nat := [0, 1, 4, 5, 8, 9, 10, 11, 12, 13]
abbrev st0 (l : List Int) (sh : Int) (x0 : Int) (l0 : List Int) : St := ⟨.ints .u32 l :: .int .i64 sh :: tops 2 (.sl 4 0 0 :: .sl 5 0 0 :: tops 2 (.ints .u32 l :: .int .i64 (↑l.length : Int) :: .sl 10 0 0 :: .ints .u32 l :: .int .i64 (↑l.length : Int) :: .int .i64 x0 :: tops 30 ([]))), nos 4 (rowE (.ints .u32 []) :: rowE (.ints .u32 l0) :: nos 4 ({ g := 0, pg := 0, o := some (AObj.row { g := 0, own := false, v := .top }) } :: nos 33 ([])))⟩
theorem round0 (l : List Int) (sh : Int) (x0 : Int) (l0 : List Int) : goL T noOrc (noTab) D0 L0 (st0 l sh x0 l0) =
    (bif decide (x0 < (↑l.length : Int)) then (bif inB x0 l.length then (bif decide (IntKind.i64.wrap (x0 + 1) < (↑l.length : Int)) then (bif inB (IntKind.i64.wrap (x0 + 1)) l.length then (bif decide (0 ≤ sh) then (bif inB x0 l0.length then some (.normal, st0 l sh (IntKind.i64.wrap (x0 + 1)) (l0.set x0.toNat (IntKind.u32.wrap ((IntKind.u64.wrap (↑(BitVec.ofInt 64 (IntKind.u64.wrap (rd l x0)) ||| BitVec.ofInt 64 (IntKind.u64.wrap (IntKind.u64.wrap (rd l (IntKind.i64.wrap (x0 + 1))) * 2 ^ 32))).toNat : Int)).fdiv (2 ^ min sh.toNat 64))))) else none) else none) else none) else (bif decide (0 ≤ sh) then (bif inB x0 l0.length then some (.normal, st0 l sh (IntKind.i64.wrap (x0 + 1)) (l0.set x0.toNat (IntKind.u32.wrap ((IntKind.u64.wrap (rd l x0)).fdiv (2 ^ min sh.toNat 64))))) else none) else none)) else none) else some (.exit 0, st0 l sh x0 l0)) := by kernel_rfl
-- loop 0 ends exit0 st0 l sh x0 l0
theorem rest (l : List Int) (sh : Int) (l1 : List Int) (x1 : Int) : runT T noOrc (tabOf T noOrc [(3, 24668200476597505487677394276075466997645655537544942, .exit 0, st0 l sh x1 l1)]) Try.f91 [.ints .u32 l, .int .i64 sh] =
    (bif true && decide ((↑l.length : Int) ≤ (↑l.length : Int)) && decide ((↑l.length : Int).toNat * 4 ≤ 281474976710656) then (bif cdec (Ends T noOrc L0 D0 (st0 l sh (0) (zeros (↑l.length : Int).toNat)) (.exit 0) (st0 l sh x1 l1)) then some (.own (.ints .u32 l1)) else none) else none) := by kernel_rfl
end Right
namespace PlusMag
noncomputable def L0 : Code := lp Try.f96 0
theorem isL0 : ∃ a, L0 = .loop a := ⟨_, rfl⟩
abbrev D0 : List Nat := [0, 1, 4, 5, 6, 8, 9, 10, 11, 12, 13, 14, 15, 16, 17, 18, 19, 20, 21]
abbrev st0 (b : List Int) (a : List Int) (x0 : Int) (x1 : Int) (l0 : List Int) : St := ⟨.ints .u32 b :: .ints .u32 a :: tops 2 (.sl 4 0 0 :: .sl 5 0 0 :: .int .u64 x0 :: tops 1 (.ints .u32 a :: .int .i64 (↑a.length : Int) :: .ints .u32 b :: .int .i64 (↑b.length : Int) :: .bool (decide ((↑a.length : Int) < (↑b.length : Int))) :: .ints .u32 b :: .ints .u32 a :: .ints .u32 b :: .int .i64 (↑b.length : Int) :: .int .i64 (IntKind.i64.wrap ((↑b.length : Int) + 1)) :: .sl 18 0 0 :: .ints .u32 b :: .int .i64 (↑b.length : Int) :: .int .i64 x1 :: tops 35 ([]))), nos 4 (rowE (.ints .u32 []) :: rowE (.ints .u32 l0) :: nos 12 ({ g := 0, pg := 0, o := some (AObj.row { g := 0, own := false, v := .top }) } :: nos 38 ([])))⟩
theorem round0 (b : List Int) (a : List Int) (x0 : Int) (x1 : Int) (l0 : List Int) : goL T noOrc (noTab) D0 L0 (st0 b a x0 x1 l0) =
    (bif decide (x1 < (↑b.length : Int)) then (bif inB x1 b.length then (bif decide (x1 < (↑a.length : Int)) then (bif inB x1 a.length then (bif inB x1 l0.length then some (.normal, st0 b a ((IntKind.u64.wrap (IntKind.u64.wrap (x0 + IntKind.u64.wrap (rd b x1)) + IntKind.u64.wrap (rd a x1))).fdiv (2 ^ 32)) (IntKind.i64.wrap (x1 + 1)) (l0.set x1.toNat (IntKind.u32.wrap (IntKind.u64.wrap (IntKind.u64.wrap (x0 + IntKind.u64.wrap (rd b x1)) + IntKind.u64.wrap (rd a x1)))))) else none) else none) else (bif inB x1 l0.length then some (.normal, st0 b a ((IntKind.u64.wrap (x0 + IntKind.u64.wrap (rd b x1))).fdiv (2 ^ 32)) (IntKind.i64.wrap (x1 + 1)) (l0.set x1.toNat (IntKind.u32.wrap (IntKind.u64.wrap (x0 + IntKind.u64.wrap (rd b x1)))))) else none)) else none) else some (.exit 0, st0 b a x0 x1 l0)) := by kernel_rfl
-- loop 0 ends exit0 st0 b a x0 x1 l0
noncomputable def L0a : Code := lp Try.f96 0
theorem isL0a : ∃ a, L0a = .loop a := ⟨_, rfl⟩
abbrev D0a : List Nat := [0, 1, 4, 5, 6, 8, 9, 10, 11, 12, 15, 16, 17, 18, 19, 20, 21]
abbrev st0a (a : List Int) (b : List Int) (x4 : Int) (x5 : Int) (l2 : List Int) : St := ⟨.ints .u32 a :: .ints .u32 b :: tops 2 (.sl 4 0 0 :: .sl 5 0 0 :: .int .u64 x4 :: tops 1 (.ints .u32 a :: .int .i64 (↑a.length : Int) :: .ints .u32 b :: .int .i64 (↑b.length : Int) :: .bool (decide ((↑a.length : Int) < (↑b.length : Int))) :: tops 2 (.ints .u32 a :: .int .i64 (↑a.length : Int) :: .int .i64 (IntKind.i64.wrap ((↑a.length : Int) + 1)) :: .sl 18 0 0 :: .ints .u32 a :: .int .i64 (↑a.length : Int) :: .int .i64 x5 :: tops 35 ([])))), nos 4 (rowE (.ints .u32 []) :: rowE (.ints .u32 l2) :: nos 12 ({ g := 0, pg := 0, o := some (AObj.row { g := 0, own := false, v := .top }) } :: nos 38 ([])))⟩
theorem round0a (a : List Int) (b : List Int) (x4 : Int) (x5 : Int) (l2 : List Int) : goL T noOrc (noTab) D0a L0a (st0a a b x4 x5 l2) =
    (bif decide (x5 < (↑a.length : Int)) then (bif inB x5 a.length then (bif decide (x5 < (↑b.length : Int)) then (bif inB x5 b.length then (bif inB x5 l2.length then some (.normal, st0a a b ((IntKind.u64.wrap (IntKind.u64.wrap (x4 + IntKind.u64.wrap (rd a x5)) + IntKind.u64.wrap (rd b x5))).fdiv (2 ^ 32)) (IntKind.i64.wrap (x5 + 1)) (l2.set x5.toNat (IntKind.u32.wrap (IntKind.u64.wrap (IntKind.u64.wrap (x4 + IntKind.u64.wrap (rd a x5)) + IntKind.u64.wrap (rd b x5)))))) else none) else none) else (bif inB x5 l2.length then some (.normal, st0a a b ((IntKind.u64.wrap (x4 + IntKind.u64.wrap (rd a x5))).fdiv (2 ^ 32)) (IntKind.i64.wrap (x5 + 1)) (l2.set x5.toNat (IntKind.u32.wrap (IntKind.u64.wrap (x4 + IntKind.u64.wrap (rd a x5)))))) else none)) else none) else some (.exit 0, st0a a b x4 x5 l2)) := by kernel_rfl
-- loop 0a ends exit0 st0a a b x4 x5 l2
theorem rest (a : List Int) (b : List Int) (l3 : List Int) (x6 : Int) (x7 : Int) (l1 : List Int) (x2 : Int) (x3 : Int) : runT T noOrc (tabOf T noOrc [(6, 116150667584049779827697862260700993274487450378509589689782185684718, .exit 0, st0 b a x2 x3 l1), (6, 116150667584049843432249118901595993498851370191146605115966456000238, .exit 0, st0a a b x6 x7 l3)]) Try.f96 [.ints .u32 a, .ints .u32 b] =
    (bif decide ((↑a.length : Int) < (↑b.length : Int)) then (bif decide (0 ≤ IntKind.i64.wrap ((↑b.length : Int) + 1)) && decide (IntKind.i64.wrap ((↑b.length : Int) + 1) ≤ IntKind.i64.wrap ((↑b.length : Int) + 1)) && decide ((IntKind.i64.wrap ((↑b.length : Int) + 1)).toNat * 4 ≤ 281474976710656) then (bif cdec (Ends T noOrc L0 D0 (st0 b a (0) (0) (zeros (IntKind.i64.wrap ((↑b.length : Int) + 1)).toNat)) (.exit 0) (st0 b a x2 x3 l1)) then (bif inB (↑b.length : Int) l1.length then some (.own (.ints .u32 (l1.set (↑b.length : Int).toNat (IntKind.u32.wrap x2)))) else none) else none) else none) else (bif decide (0 ≤ IntKind.i64.wrap ((↑a.length : Int) + 1)) && decide (IntKind.i64.wrap ((↑a.length : Int) + 1) ≤ IntKind.i64.wrap ((↑a.length : Int) + 1)) && decide ((IntKind.i64.wrap ((↑a.length : Int) + 1)).toNat * 4 ≤ 281474976710656) then (bif cdec (Ends T noOrc L0a D0a (st0a a b (0) (0) (zeros (IntKind.i64.wrap ((↑a.length : Int) + 1)).toNat)) (.exit 0) (st0a a b x6 x7 l3)) then (bif inB (↑a.length : Int) l3.length then some (.own (.ints .u32 (l3.set (↑a.length : Int).toNat (IntKind.u32.wrap x6)))) else none) else none) else none)) := by kernel_rfl
end PlusMag
namespace Sign
theorem rest (neg : Bool) (l : List Int) : runT T noOrc (noTab) Try.f21 [.agg [.bool neg, .ints .u32 l]] =
    (bif (↑l.length : Int) == 0 then some (.val (.int .i64 (0))) else (bif neg then some (.val (.int .i64 (-1))) else some (.val (.int .i64 (1))))) := by kernel_rfl
end Sign
namespace Len32
theorem rest (n : Int) : runT T noOrc (noTab) Try.f101 [.int .u32 n] =
    (bif decide (n ≥ 65536) then (bif decide (n.fdiv (2 ^ 16) ≥ 256) then (bif inB (IntKind.u8.wrap ((n.fdiv (2 ^ 16)).fdiv (2 ^ 8))) 256 then some (.val (.int .i64 (IntKind.i64.wrap (IntKind.i64.wrap (16 + 8) + IntKind.i64.wrap (bt { data := (([0, 1, 2, 2, 3, 3, 3, 3, 4, 4, 4, 4, 4, 4, 4, 4, 5, 5, 5, 5, 5, 5, 5, 5, 5, 5, 5, 5, 5, 5, 5, 5, 6, 6, 6, 6, 6, 6, 6, 6, 6, 6, 6, 6, 6, 6, 6, 6, 6, 6, 6, 6, 6, 6, 6, 6, 6, 6, 6, 6, 6, 6, 6, 6].append [7, 7, 7, 7, 7, 7, 7, 7, 7, 7, 7, 7, 7, 7, 7, 7, 7, 7, 7, 7, 7, 7, 7, 7, 7, 7, 7, 7, 7, 7, 7, 7, 7, 7, 7, 7, 7, 7, 7, 7, 7, 7, 7, 7, 7, 7, 7, 7, 7, 7, 7, 7, 7, 7, 7, 7, 7, 7, 7, 7, 7, 7, 7, 7]).append ([8, 8, 8, 8, 8, 8, 8, 8, 8, 8, 8, 8, 8, 8, 8, 8, 8, 8, 8, 8, 8, 8, 8, 8, 8, 8, 8, 8, 8, 8, 8, 8, 8, 8, 8, 8, 8, 8, 8, 8, 8, 8, 8, 8, 8, 8, 8, 8, 8, 8, 8, 8, 8, 8, 8, 8, 8, 8, 8, 8, 8, 8, 8, 8].append [8, 8, 8, 8, 8, 8, 8, 8, 8, 8, 8, 8, 8, 8, 8, 8, 8, 8, 8, 8, 8, 8, 8, 8, 8, 8, 8, 8, 8, 8, 8, 8, 8, 8, 8, 8, 8, 8, 8, 8, 8, 8, 8, 8, 8, 8, 8, 8, 8, 8, 8, 8, 8, 8, 8, 8, 8, 8, 8, 8, 8, 8, 8, 8])).toArray } (IntKind.u8.wrap ((n.fdiv (2 ^ 16)).fdiv (2 ^ 8)))))))) else none) else (bif inB (IntKind.u8.wrap (n.fdiv (2 ^ 16))) 256 then some (.val (.int .i64 (IntKind.i64.wrap (16 + IntKind.i64.wrap (bt { data := (([0, 1, 2, 2, 3, 3, 3, 3, 4, 4, 4, 4, 4, 4, 4, 4, 5, 5, 5, 5, 5, 5, 5, 5, 5, 5, 5, 5, 5, 5, 5, 5, 6, 6, 6, 6, 6, 6, 6, 6, 6, 6, 6, 6, 6, 6, 6, 6, 6, 6, 6, 6, 6, 6, 6, 6, 6, 6, 6, 6, 6, 6, 6, 6].append [7, 7, 7, 7, 7, 7, 7, 7, 7, 7, 7, 7, 7, 7, 7, 7, 7, 7, 7, 7, 7, 7, 7, 7, 7, 7, 7, 7, 7, 7, 7, 7, 7, 7, 7, 7, 7, 7, 7, 7, 7, 7, 7, 7, 7, 7, 7, 7, 7, 7, 7, 7, 7, 7, 7, 7, 7, 7, 7, 7, 7, 7, 7, 7]).append ([8, 8, 8, 8, 8, 8, 8, 8, 8, 8, 8, 8, 8, 8, 8, 8, 8, 8, 8, 8, 8, 8, 8, 8, 8, 8, 8, 8, 8, 8, 8, 8, 8, 8, 8, 8, 8, 8, 8, 8, 8, 8, 8, 8, 8, 8, 8, 8, 8, 8, 8, 8, 8, 8, 8, 8, 8, 8, 8, 8, 8, 8, 8, 8].append [8, 8, 8, 8, 8, 8, 8, 8, 8, 8, 8, 8, 8, 8, 8, 8, 8, 8, 8, 8, 8, 8, 8, 8, 8, 8, 8, 8, 8, 8, 8, 8, 8, 8, 8, 8, 8, 8, 8, 8, 8, 8, 8, 8, 8, 8, 8, 8, 8, 8, 8, 8, 8, 8, 8, 8, 8, 8, 8, 8, 8, 8, 8, 8])).toArray } (IntKind.u8.wrap (n.fdiv (2 ^ 16)))))))) else none)) else (bif decide (n ≥ 256) then (bif inB (IntKind.u8.wrap (n.fdiv (2 ^ 8))) 256 then some (.val (.int .i64 (IntKind.i64.wrap (IntKind.i64.wrap (0 + 8) + IntKind.i64.wrap (bt { data := (([0, 1, 2, 2, 3, 3, 3, 3, 4, 4, 4, 4, 4, 4, 4, 4, 5, 5, 5, 5, 5, 5, 5, 5, 5, 5, 5, 5, 5, 5, 5, 5, 6, 6, 6, 6, 6, 6, 6, 6, 6, 6, 6, 6, 6, 6, 6, 6, 6, 6, 6, 6, 6, 6, 6, 6, 6, 6, 6, 6, 6, 6, 6, 6].append [7, 7, 7, 7, 7, 7, 7, 7, 7, 7, 7, 7, 7, 7, 7, 7, 7, 7, 7, 7, 7, 7, 7, 7, 7, 7, 7, 7, 7, 7, 7, 7, 7, 7, 7, 7, 7, 7, 7, 7, 7, 7, 7, 7, 7, 7, 7, 7, 7, 7, 7, 7, 7, 7, 7, 7, 7, 7, 7, 7, 7, 7, 7, 7]).append ([8, 8, 8, 8, 8, 8, 8, 8, 8, 8, 8, 8, 8, 8, 8, 8, 8, 8, 8, 8, 8, 8, 8, 8, 8, 8, 8, 8, 8, 8, 8, 8, 8, 8, 8, 8, 8, 8, 8, 8, 8, 8, 8, 8, 8, 8, 8, 8, 8, 8, 8, 8, 8, 8, 8, 8, 8, 8, 8, 8, 8, 8, 8, 8].append [8, 8, 8, 8, 8, 8, 8, 8, 8, 8, 8, 8, 8, 8, 8, 8, 8, 8, 8, 8, 8, 8, 8, 8, 8, 8, 8, 8, 8, 8, 8, 8, 8, 8, 8, 8, 8, 8, 8, 8, 8, 8, 8, 8, 8, 8, 8, 8, 8, 8, 8, 8, 8, 8, 8, 8, 8, 8, 8, 8, 8, 8, 8, 8])).toArray } (IntKind.u8.wrap (n.fdiv (2 ^ 8)))))))) else none) else (bif inB (IntKind.u8.wrap n) 256 then some (.val (.int .i64 (IntKind.i64.wrap (0 + IntKind.i64.wrap (bt { data := (([0, 1, 2, 2, 3, 3, 3, 3, 4, 4, 4, 4, 4, 4, 4, 4, 5, 5, 5, 5, 5, 5, 5, 5, 5, 5, 5, 5, 5, 5, 5, 5, 6, 6, 6, 6, 6, 6, 6, 6, 6, 6, 6, 6, 6, 6, 6, 6, 6, 6, 6, 6, 6, 6, 6, 6, 6, 6, 6, 6, 6, 6, 6, 6].append [7, 7, 7, 7, 7, 7, 7, 7, 7, 7, 7, 7, 7, 7, 7, 7, 7, 7, 7, 7, 7, 7, 7, 7, 7, 7, 7, 7, 7, 7, 7, 7, 7, 7, 7, 7, 7, 7, 7, 7, 7, 7, 7, 7, 7, 7, 7, 7, 7, 7, 7, 7, 7, 7, 7, 7, 7, 7, 7, 7, 7, 7, 7, 7]).append ([8, 8, 8, 8, 8, 8, 8, 8, 8, 8, 8, 8, 8, 8, 8, 8, 8, 8, 8, 8, 8, 8, 8, 8, 8, 8, 8, 8, 8, 8, 8, 8, 8, 8, 8, 8, 8, 8, 8, 8, 8, 8, 8, 8, 8, 8, 8, 8, 8, 8, 8, 8, 8, 8, 8, 8, 8, 8, 8, 8, 8, 8, 8, 8].append [8, 8, 8, 8, 8, 8, 8, 8, 8, 8, 8, 8, 8, 8, 8, 8, 8, 8, 8, 8, 8, 8, 8, 8, 8, 8, 8, 8, 8, 8, 8, 8, 8, 8, 8, 8, 8, 8, 8, 8, 8, 8, 8, 8, 8, 8, 8, 8, 8, 8, 8, 8, 8, 8, 8, 8, 8, 8, 8, 8, 8, 8, 8, 8])).toArray } (IntKind.u8.wrap n)))))) else none))) := by kernel_rfl
end Len32
namespace Sub32
theorem rest (x : Int) (y : Int) (b : Int) : runT T noOrc (noTab) Try.f102 [.int .u32 x, .int .u32 y, .int .u32 b] =
    some (.val (.tup [.int .u32 (IntKind.u32.wrap (IntKind.u32.wrap (x - y) - b)), .int .u32 ((IntKind.u32.wrap (↑(BitVec.ofInt 32 (IntKind.u32.wrap (↑(BitVec.ofInt 32 (IntKind.u32.wrap (↑(BitVec.ofInt 32 (bif false then -1 else IntKind.u32.max) ^^^ BitVec.ofInt 32 x).toNat : Int)) &&& BitVec.ofInt 32 y).toNat : Int)) ||| BitVec.ofInt 32 (IntKind.u32.wrap (↑(BitVec.ofInt 32 (IntKind.u32.wrap (↑(BitVec.ofInt 32 (bif false then -1 else IntKind.u32.max) ^^^ BitVec.ofInt 32 (IntKind.u32.wrap (↑(BitVec.ofInt 32 x ^^^ BitVec.ofInt 32 y).toNat : Int))).toNat : Int)) &&& BitVec.ofInt 32 (IntKind.u32.wrap (IntKind.u32.wrap (x - y) - b))).toNat : Int))).toNat : Int)).fdiv (2 ^ 31))])) := by kernel_rfl
end Sub32
namespace Add32
theorem rest (x : Int) (y : Int) (b : Int) : runT T noOrc (noTab) Try.f103 [.int .u32 x, .int .u32 y, .int .u32 b] =
    some (.val (.tup [.int .u32 (IntKind.u32.wrap (IntKind.u64.wrap (IntKind.u64.wrap (IntKind.u64.wrap x + IntKind.u64.wrap y) + IntKind.u64.wrap b))), .int .u32 (IntKind.u32.wrap ((IntKind.u64.wrap (IntKind.u64.wrap (IntKind.u64.wrap x + IntKind.u64.wrap y) + IntKind.u64.wrap b)).fdiv (2 ^ 32)))])) := by kernel_rfl
end Add32
end Go.Abs
end
section
/- Numbers by sign and digits: plain mathematics. -/
namespace Go.Abs
open Go.Dig
theorem W_pos : (0 : Int) < 4294967296 := by decide
theorem W_two : (2 : Int) ≤ 4294967296 := by decide
theorem lb_val {B : Int} (hB : 2 ≤ B) (z : Int) : val B (lb B z) = z.natAbs := limbs_val hB (by omega)
theorem lb_ok {B : Int} (hB : 2 ≤ B) (z : Int) : okB B (lb B z) = true := limbs_ok (by omega) _
theorem lb_last (B z : Int) : (lb B z).getLast? ≠ some 0 := limbs_last _ _
theorem num_lb {B : Int} (hB : 2 ≤ B) (z : Int) : num B (sg z) (lb B z) = z := by
  unfold num sg
  rw [lb_val hB]
  by_cases h : z < 0
  · rw [decide_eq_true h]; simp only [cond_true]; omega
  · rw [decide_eq_false h]; simp only [cond_false]; omega
theorem N_eq (z : Int) : N 4294967296 z = z := num_lb (by decide) z
theorem N10_eq (z : Int) : N 10 z = z := num_lb (by decide) z
theorem cn_iff {B : Int} (hB : 2 ≤ B) {s : Bool} {l : List Int} : cn B s l = true ↔ ∃ z : Int, s = sg z ∧ l = lb B z ∧ z.natAbs < Lim := by
  unfold cn
  constructor
  · intro h
    rw [Bool.and_eq_true, Bool.and_eq_true, decide_eq_true_eq, decide_eq_true_eq, decide_eq_true_eq] at h
    exact ⟨_, h.1.1, h.1.2, h.2⟩
  · rintro ⟨z, rfl, rfl, h⟩
    rw [Bool.and_eq_true, Bool.and_eq_true, decide_eq_true_eq, decide_eq_true_eq, decide_eq_true_eq, num_lb hB]
    exact ⟨⟨rfl, rfl⟩, h⟩
theorem cn_lb {B : Int} (hB : 2 ≤ B) (z : Int) : cn B (sg z) (lb B z) = decide (z.natAbs < Lim) := by
  rw [Bool.eq_iff_iff, cn_iff hB, decide_eq_true_eq]
  constructor
  · rintro ⟨y, h1, h2, h3⟩
    have : z = y := by rw [← num_lb hB z, h1, h2, num_lb hB]
    rw [this]; exact h3
  · intro h; exact ⟨z, rfl, rfl, h⟩
theorem big_pow : Lim ≤ 4294967296 ^ 1100 := Nat.le_of_ble_eq_true (by kernel_rfl)
set_option exponentiation.threshold 20000 in
theorem lb_length {z : Int} (h : z.natAbs < Lim) : (lb 4294967296 z).length ≤ 1100 := by
  refine limbs_length (by decide) (by omega) ?_
  have h1 : z.natAbs < 4294967296 ^ 1100 := Nat.lt_of_lt_of_le h big_pow
  have h2 := Int.ofNat_lt.2 h1
  rw [Int.natCast_pow] at h2
  exact h2
set_option exponentiation.threshold 20000 in
theorem lb10_length {z : Int} (h : z.natAbs < Lim) : (lb 10 z).length ≤ 10000 := by
  refine limbs_length (by decide) (by omega) ?_
  have h1 : z.natAbs < 10 ^ 10000 := h
  have h2 := Int.ofNat_lt.2 h1
  rw [Int.natCast_pow] at h2
  exact h2
theorem few_lb {z : Int} (h : z.natAbs < Lim) : few (lb 4294967296 z) = true := few_iff.2 (by have := lb_length h; omega)
theorem few_lb10 {z : Int} (h : z.natAbs < Lim) : few (lb 10 z) = true := few_iff.2 (by have := lb10_length h; omega)
theorem lb_nil {B : Int} (hB : 2 ≤ B) {z : Int} : lb B z = [] ↔ z = 0 := by
  unfold lb
  rw [limbs_nil hB (by omega)]
  omega
/-- Sign and digits of a sign and digits. -/
theorem lb_num {B : Int} (hB : 2 ≤ B) {s : Bool} {l : List Int} (h : okB B l = true) : lb B (num B s l) = strip l := by
  have h0 := val_nonneg (by omega) h
  unfold lb num
  rw [limbs_strip hB h]
  congr 1
  cases s <;> simp <;> omega
theorem sg_num {B : Int} (hB : 2 ≤ B) {s : Bool} {l : List Int} (h : okB B l = true) : sg (num B s l) = (s && !(strip l).isEmpty) := by
  have h0 := val_nonneg (by omega) h
  have h1 : strip l = [] ↔ val B l = 0 := by
    rw [limbs_strip hB h, limbs_nil hB h0]
  unfold sg num
  rw [Bool.eq_iff_iff, decide_eq_true_eq, Bool.and_eq_true, Bool.not_eq_true', List.isEmpty_eq_false_iff, ne_eq, h1]
  cases s <;> simp <;> omega
theorem cl_iff {B : Int} {l : List Int} : cl B l = true ↔ l.length ≤ 100000 ∧ l = limbs B (val B l) ∧ 0 ≤ val B l := by
  unfold cl
  rw [Bool.and_eq_true, Bool.and_eq_true, few_iff, decide_eq_true_eq, decide_eq_true_eq, and_assoc]
theorem cl_ok {B : Int} (hB : 2 ≤ B) {l : List Int} (h : cl B l = true) : okB B l = true := by
  rw [(cl_iff.1 h).2.1]; exact limbs_ok (by omega) _
theorem cl_last {B : Int} {l : List Int} (h : cl B l = true) : l.getLast? ≠ some 0 := by
  rw [(cl_iff.1 h).2.1]; exact limbs_last _ _
theorem cl_lb {z : Int} (h : z.natAbs < Lim) : cl 4294967296 (lb 4294967296 z) = true := by
  rw [cl_iff, lb_val (by decide)]
  exact ⟨by have := lb_length h; omega, rfl, by omega⟩
theorem cl_lb10 {z : Int} (h : z.natAbs < Lim) : cl 10 (lb 10 z) = true := by
  rw [cl_iff, lb_val (by decide)]
  exact ⟨by have := lb10_length h; omega, rfl, by omega⟩
/-- A list of digits with no nought at the end is at least a power. -/
theorem last_ge {B : Int} (hB : 2 ≤ B) {l : List Int} (h : okB B l = true) (hl : l.getLast? ≠ some 0) (hne : l ≠ []) : B ^ (l.length - 1) ≤ val B l := by
  have h1 : l = l.dropLast ++ [l.getLast hne] := (List.dropLast_concat_getLast hne).symm
  have h2 : l.getLast hne ∈ l := List.getLast_mem hne
  have h3 := okB_iff.1 h _ h2
  have h4 : l.getLast hne ≠ 0 := fun h5 => hl (by rw [List.getLast?_eq_some_getLast hne, h5])
  have h6 : okB B l.dropLast = true := by
    rw [h1] at h; exact (okB_append.1 h).1
  have h7 := val_nonneg (by omega) h6
  have h8 : val B l = val B l.dropLast + B ^ (l.length - 1) * l.getLast hne := by
    conv => lhs; rw [h1]
    rw [val_append, val_one, List.length_dropLast]
  have h9 : 0 ≤ B ^ (l.length - 1) := Int.pow_nonneg (by omega)
  have h10 : B ^ (l.length - 1) * 1 ≤ B ^ (l.length - 1) * l.getLast hne := Int.mul_le_mul_of_nonneg_left (by omega) h9
  omega
/-- A longer list of digits is a greater number. -/
theorem val_lt_of_length {B : Int} (hB : 2 ≤ B) {a b : List Int} (ha : okB B a = true) (hb : okB B b = true) (hl : b.getLast? ≠ some 0) (h : a.length < b.length) : val B a < val B b := by
  have h1 := val_lt (by omega) ha
  have h2 := last_ge hB hb hl (fun h0 => by rw [h0] at h; simp at h)
  have h3 : B ^ a.length ≤ B ^ (b.length - 1) := by
    obtain ⟨k, hk⟩ : ∃ k, b.length - 1 = a.length + k := ⟨b.length - 1 - a.length, by omega⟩
    rw [hk, Int.pow_add]
    have h4 : 0 < B ^ k := Int.pow_pos (by omega)
    have h5 : B ^ a.length * 1 ≤ B ^ a.length * B ^ k := Int.mul_le_mul_of_nonneg_left (by omega) (Int.pow_nonneg (by omega))
    omega
  omega
end Go.Abs
end
section
/- What arith's functions over limbs answer: sums. -/
namespace Go.Abs
open Go.Proofs Go.Dig
namespace PlusMag
def Inv (a b : List Int) (n : Nat) (c : Int) (l : List Int) : Prop :=
  n ≤ b.length ∧ l.length = b.length + 1 ∧ okB 4294967296 (l.take n) = true ∧ 0 ≤ c ∧ c ≤ 1 ∧ val 4294967296 (l.take n) + 4294967296 ^ n * c = val 4294967296 (b.take n) + val 4294967296 (a.take n)
theorem Inv.next {a b l : List Int} {n : Nat} {c d c' : Int} (h : Inv a b n c l) (hn : n < b.length) (hd : 0 ≤ d ∧ d < 4294967296) (hc : 0 ≤ c' ∧ c' ≤ 1) (e : c + (b.getD n 0 + a.getD n 0) = d + 4294967296 * c') : Inv a b (n + 1) c' (l.set n d) := by
  obtain ⟨h1, h2, h3, h4, h5, h6⟩ := h
  obtain ⟨k1, k2, k3⟩ := set_next (by omega : n < l.length) h3 hd
  refine ⟨by omega, by omega, k1, hc.1, hc.2, ?_⟩
  rw [k2, val_take_succ, val_take_succ, Int.pow_succ, carry_step _ _ _ _ _ _ _ _ h6 e, Int.mul_add]
  omega
theorem Inv.fin {a b l : List Int} {c : Int} (hab : a.length ≤ b.length) (h : Inv a b b.length c l) : l.set b.length c = digN 4294967296 (b.length + 1) (val 4294967296 b + val 4294967296 a) := by
  obtain ⟨h1, h2, h3, h4, h5, h6⟩ := h
  obtain ⟨k1, k2, k3⟩ := set_next (d := c) (by omega : b.length < l.length) h3 ⟨h4, by omega⟩
  rw [List.take_of_length_le (by omega)] at k1 k2
  refine dig_eq W_pos k1 (by omega) ?_
  rw [k2, h6, List.take_of_length_le (Nat.le_refl _), List.take_of_length_le hab]
theorem loop (b a : List Int) (hb : okB 4294967296 b = true) (ha : okB 4294967296 a = true) (hlb : b.length ≤ 100000) :
    ∃ e S1, Ends T noOrc L0 D0 (st0 b a 0 0 (zeros (b.length + 1))) e S1 ∧ (e = .exit 0 ∧ ∃ c x l, S1 = st0 b a c x l ∧ Inv a b b.length c l) := by
  refine loop_inv3 (fun c (i : Nat) l => st0 b a c i l) (fun c i l => Inv a b i c l) (fun c i l => b.length - i)
    (fun e S1 => e = .exit 0 ∧ ∃ c x l, S1 = st0 b a c x l ∧ Inv a b b.length c l) isL0 ?_ 0 0 (zeros (b.length + 1)) ?_
  · intro c i l h
    obtain ⟨h1, h2, h3, h4, h5, h6⟩ := id h
    refine ⟨noTab, noTab_all, ?_⟩
    have hbi := getD_ok W_pos hb i
    have hai := getD_ok W_pos ha i
    rw [round0]
    simp only [lands_bif, lands_some, lands_none, Turns1, Turns2, Turns3, Turns4, Turns5, Turns6, Turns7, Turns8, eq_bif, Option.some.injEq, reduceCtorEq, cond_true, cond_false, Bool.eq_false_iff, ne_eq, inB_iff, decide_eq_true_eq, Bool.and_eq_true, Bool.or_eq_true, Bool.not_eq_true', beq_iff_eq, bne_iff_ne, true_and, and_true, true_implies, implies_true, not_true_eq_false, not_false_eq_true, false_implies, few_iff, rd_toNat, Int.toNat_natCast, wi_succ (show i < 4611686018427387904 by omega), wu64_mod, wu32_mod, fdiv32]
    repeat' (first | apply And.intro | intro _)
    all_goals try omega
    · exact ⟨_, i + 1, _, rfl, h.next (by omega) (by omega) (by omega) (by omega), by omega⟩
    · have : a.getD i 0 = 0 := by rw [List.getD_eq_getElem?_getD, List.getElem?_eq_none (by omega)]; rfl
      exact ⟨_, i + 1, _, rfl, h.next (by omega) (by omega) (by omega) (by omega), by omega⟩
    · obtain rfl : i = b.length := by omega
      exact ⟨_, _, _, rfl, h⟩
  · simp [Inv, okB, val]
theorem loopa (b a : List Int) (hb : okB 4294967296 b = true) (ha : okB 4294967296 a = true) (hlb : b.length ≤ 100000) :
    ∃ e S1, Ends T noOrc L0a D0a (st0a b a 0 0 (zeros (b.length + 1))) e S1 ∧ (e = .exit 0 ∧ ∃ c x l, S1 = st0a b a c x l ∧ Inv a b b.length c l) := by
  refine loop_inv3 (fun c (i : Nat) l => st0a b a c i l) (fun c i l => Inv a b i c l) (fun c i l => b.length - i)
    (fun e S1 => e = .exit 0 ∧ ∃ c x l, S1 = st0a b a c x l ∧ Inv a b b.length c l) isL0a ?_ 0 0 (zeros (b.length + 1)) ?_
  · intro c i l h
    obtain ⟨h1, h2, h3, h4, h5, h6⟩ := id h
    refine ⟨noTab, noTab_all, ?_⟩
    have hbi := getD_ok W_pos hb i
    have hai := getD_ok W_pos ha i
    rw [round0a]
    simp only [lands_bif, lands_some, lands_none, Turns1, Turns2, Turns3, Turns4, Turns5, Turns6, Turns7, Turns8, eq_bif, Option.some.injEq, reduceCtorEq, cond_true, cond_false, Bool.eq_false_iff, ne_eq, inB_iff, decide_eq_true_eq, Bool.and_eq_true, Bool.or_eq_true, Bool.not_eq_true', beq_iff_eq, bne_iff_ne, true_and, and_true, true_implies, implies_true, not_true_eq_false, not_false_eq_true, false_implies, few_iff, rd_toNat, Int.toNat_natCast, wi_succ (show i < 4611686018427387904 by omega), wu64_mod, wu32_mod, fdiv32]
    repeat' (first | apply And.intro | intro _)
    all_goals try omega
    · exact ⟨_, i + 1, _, rfl, h.next (by omega) (by omega) (by omega) (by omega), by omega⟩
    · have : a.getD i 0 = 0 := by rw [List.getD_eq_getElem?_getD, List.getElem?_eq_none (by omega)]; rfl
      exact ⟨_, i + 1, _, rfl, h.next (by omega) (by omega) (by omega) (by omega), by omega⟩
    · obtain rfl : i = b.length := by omega
      exact ⟨_, _, _, rfl, h⟩
  · simp [Inv, okB, val]
end PlusMag
theorem meets_plusMag : Meets Try.prog 96 ansPlusMag := by
  refine meets_fn noOrc_ok Try.f96 Try.func96 (by kernel_rfl) (fun args r h => ?_)
  unfold ansPlusMag at h
  split at h
  · rename_i a b
    simp only [Option.some.injEq, Prod.mk.injEq, Bool.and_eq_true, few_iff] at h
    obtain ⟨⟨⟨⟨ha, hb⟩, oa⟩, ob⟩, rfl⟩ := h
    obtain ⟨e1, S1, hE1, rfl, c, x, l, rfl, hI⟩ := PlusMag.loop b a ob oa hb
    obtain ⟨e2, S2, hE2, rfl, c2, x2, l2, rfl, hI2⟩ := PlusMag.loopa a b oa ob ha
    refine ⟨rfl, _, tabOf_all _, (PlusMag.rest a b l2 c2 x2 l c x).trans ?_⟩
    have hl := hI.2.1
    have hl2 := hI2.2.1
    rw [wi_succ (show a.length < 4611686018427387904 by omega), wi_succ (show b.length < 4611686018427387904 by omega)]
    simp only [lands_bif, lands_some, lands_none, Turns1, Turns2, Turns3, Turns4, Turns5, Turns6, Turns7, Turns8, eq_bif, Option.some.injEq, reduceCtorEq, cond_true, cond_false, Bool.eq_false_iff, ne_eq, inB_iff, decide_eq_true_eq, Bool.and_eq_true, Bool.or_eq_true, Bool.not_eq_true', beq_iff_eq, bne_iff_ne, true_and, and_true, true_implies, implies_true, not_true_eq_false, not_false_eq_true, false_implies, few_iff, Int.toNat_natCast, cdec_true hE1, cdec_true hE2]
    rw [wu32 hI.2.2.2.1 (by have := hI.2.2.2.2.1; omega), wu32 hI2.2.2.2.1 (by have := hI2.2.2.2.2.1; omega)]
    repeat' (first | apply And.intro | intro _)
    all_goals try omega
    · rw [hI.fin (by omega), plusL, Int.add_comm, Nat.max_eq_right (by omega)]
    · rw [hI2.fin (by omega), plusL, Nat.max_eq_left (by omega)]
  · cases h
namespace LessMag
def Inv (a b : List Int) (n : Nat) (c : Int) (l : List Int) : Prop :=
  n ≤ a.length ∧ l.length = a.length ∧ okB 4294967296 (l.take n) = true ∧ 0 ≤ c ∧ c ≤ 1 ∧ val 4294967296 (l.take n) - 4294967296 ^ n * c = val 4294967296 (a.take n) - val 4294967296 (b.take n)
theorem Inv.next {a b l : List Int} {n : Nat} {c d c' : Int} (h : Inv a b n c l) (hn : n < a.length) (hd : 0 ≤ d ∧ d < 4294967296) (hc : 0 ≤ c' ∧ c' ≤ 1) (e : a.getD n 0 - b.getD n 0 - c = d - 4294967296 * c') : Inv a b (n + 1) c' (l.set n d) := by
  obtain ⟨h1, h2, h3, h4, h5, h6⟩ := h
  obtain ⟨k1, k2, k3⟩ := set_next (by omega : n < l.length) h3 hd
  refine ⟨by omega, by omega, k1, hc.1, hc.2, ?_⟩
  rw [k2, val_take_succ, val_take_succ, Int.pow_succ]
  have := carry_step 4294967296 (4294967296 ^ n) (val 4294967296 (l.take n)) (val 4294967296 (a.take n) - val 4294967296 (b.take n)) (-c) d (-c') (a.getD n 0 - b.getD n 0) (by rw [← h6, Int.mul_neg]; omega) (by omega)
  rw [Int.mul_neg, Int.mul_sub] at this
  omega
theorem Inv.fin {a b l : List Int} {c : Int} (hab : b.length ≤ a.length) (hle : val 4294967296 b ≤ val 4294967296 a) (h : Inv a b a.length c l) : l = lessL a b := by
  obtain ⟨h1, h2, h3, h4, h5, h6⟩ := h
  rw [List.take_of_length_le (by omega)] at h3 h6
  rw [List.take_of_length_le (Nat.le_refl _), List.take_of_length_le hab] at h6
  have h7 := val_lt W_pos h3
  rw [h2] at h7
  have : c = 0 := by
    rcases (by omega : c = 0 ∨ c = 1) with h | h
    · exact h
    · rw [h, Int.mul_one] at h6; omega
  rw [this] at h6
  exact dig_eq W_pos h3 h2 (by omega)
theorem b2i_lt (x y : Int) : b2i (decide (x < y)) = if x < y then 1 else 0 := by
  unfold b2i; by_cases h : x < y <;> simp [h]
theorem loop (a b : List Int) (ha : okB 4294967296 a = true) (hb : okB 4294967296 b = true) (hla : a.length ≤ 100000) :
    ∃ e S1, Ends T orc L0 D0 (st0 a b 0 0 (zeros a.length)) e S1 ∧ (e = .exit 0 ∧ ∃ c x l, S1 = st0 a b c x l ∧ Inv a b a.length c l) := by
  refine loop_inv3 (fun c (i : Nat) l => st0 a b c i l) (fun c i l => Inv a b i c l) (fun c i l => a.length - i)
    (fun e S1 => e = .exit 0 ∧ ∃ c x l, S1 = st0 a b c x l ∧ Inv a b a.length c l) isL0 ?_ 0 0 (zeros a.length) ?_
  · intro c i l h
    obtain ⟨h1, h2, h3, h4, h5, h6⟩ := id h
    refine ⟨noTab, noTab_all, ?_⟩
    have hbi := getD_ok W_pos hb i
    have hai := getD_ok W_pos ha i
    rw [round0]
    simp only [lands_bif, lands_some, lands_none, Turns1, Turns2, Turns3, Turns4, Turns5, Turns6, Turns7, Turns8, eq_bif, Option.some.injEq, reduceCtorEq, cond_true, cond_false, Bool.eq_false_iff, ne_eq, inB_iff, decide_eq_true_eq, Bool.and_eq_true, Bool.or_eq_true, Bool.not_eq_true', beq_iff_eq, bne_iff_ne, true_and, and_true, true_implies, implies_true, not_true_eq_false, not_false_eq_true, false_implies, few_iff, b2i_lt]
    simp only [rd_toNat, Int.toNat_natCast, wi_succ (show i < 4611686018427387904 by omega)]
    repeat' (first | apply And.intro | intro _)
    all_goals try omega
    · exact ⟨_, i + 1, _, rfl, h.next (by omega) (by omega) (by split <;> omega) (by split <;> omega), by omega⟩
    · have : b.getD i 0 = 0 := by rw [List.getD_eq_getElem?_getD, List.getElem?_eq_none (by omega)]; rfl
      exact ⟨_, i + 1, _, rfl, h.next (by omega) (by omega) (by split <;> omega) (by split <;> omega), by omega⟩
    · obtain rfl : i = a.length := by omega
      exact ⟨_, _, _, rfl, h⟩
  · simp [Inv, okB, val]
end LessMag
theorem meets_lessMag (hS : Meets Try.prog 102 ansSub32) : Meets Try.prog 97 ansLessMag := by
  refine meets_fn (orc_ok (l := LessMag.ans) ⟨hS, trivial⟩) Try.f97 Try.func97 (by kernel_rfl) (fun args r h => ?_)
  unfold ansLessMag at h
  split at h
  · rename_i a b
    simp only [Option.some.injEq, Prod.mk.injEq, Bool.and_eq_true, few_iff, decide_eq_true_eq] at h
    obtain ⟨⟨⟨⟨⟨⟨ha, hb⟩, oa⟩, ob⟩, hab⟩, hle⟩, rfl⟩ := h
    obtain ⟨e1, S1, hE1, rfl, c, x, l, rfl, hI⟩ := LessMag.loop a b oa ob ha
    refine ⟨rfl, _, tabOf_all _, (LessMag.rest a b l c x).trans ?_⟩
    simp only [lands_bif, lands_some, lands_none, Turns1, Turns2, Turns3, Turns4, Turns5, Turns6, Turns7, Turns8, eq_bif, Option.some.injEq, reduceCtorEq, cond_true, cond_false, Bool.eq_false_iff, ne_eq, inB_iff, decide_eq_true_eq, Bool.and_eq_true, Bool.or_eq_true, Bool.not_eq_true', beq_iff_eq, bne_iff_ne, true_and, and_true, true_implies, implies_true, not_true_eq_false, not_false_eq_true, false_implies, few_iff, Int.toNat_natCast, cdec_true hE1]
    rw [hI.fin hab hle]
    repeat' (first | apply And.intro | intro _)
    all_goals first | omega | trivial
  · cases h
end Go.Abs
end
section
/- What arith's functions over limbs answer: norm, cmpMag, timesMag. -/
namespace Go.Abs
open Go.Proofs Go.Dig
theorem getD_none {l : List Int} {i : Nat} (h : l.length ≤ i) : l.getD i 0 = 0 := by
  rw [List.getD_eq_getElem?_getD, List.getElem?_eq_none h]; rfl
/-- A digit put in another's place. -/
theorem val_set (B : Int) : ∀ (l : List Int) (i : Nat) (d : Int), i < l.length → val B (l.set i d) = val B l + B ^ i * (d - l.getD i 0)
  | [], i, d, h => by simp at h
  | x :: l, 0, d, _ => by simp [val]; omega
  | x :: l, i + 1, d, h => by
    simp only [List.set_cons_succ, val, List.getD_cons_succ]
    rw [val_set B l i d (by simpa using h), Int.mul_add, Int.pow_succ, Int.mul_comm (B ^ i) B, Int.mul_assoc]
    omega
theorem okB_set {B : Int} {l : List Int} {i : Nat} {d : Int} (h : okB B l = true) (hd : 0 ≤ d ∧ d < B) : okB B (l.set i d) = true := okB_iff.2 fun e he => by
  rcases List.mem_or_eq_of_mem_set he with he | rfl
  · exact okB_iff.1 h e he
  · exact hd
theorem getD_set_ne {l : List Int} {i j : Nat} {d : Int} (h : i ≠ j) : (l.set i d).getD j 0 = l.getD j 0 := by
  rw [List.getD_eq_getElem?_getD, List.getElem?_set_ne h, List.getD_eq_getElem?_getD]
theorem getD_set_self {l : List Int} {i : Nat} {d : Int} (h : i < l.length) : (l.set i d).getD i 0 = d := by
  rw [List.getD_eq_getElem?_getD, List.getElem?_set_self h]; rfl
theorem val_zeros (B : Int) (n : Nat) : val B (zeros n) = 0 := val_replicate B n
theorem getD_zeros (n i : Nat) : (zeros n).getD i 0 = 0 := by
  rw [List.getD_eq_getElem?_getD, List.getElem?_replicate]
  split <;> rfl
namespace Norm
theorem loop (neg : Bool) (l : List Int) (hl : l.length ≤ 100000) :
    ∃ e S1, Ends T noOrc L0 D0 (st0 neg l l.length) e S1 ∧ (e = .exit 0 ∧ ∃ k : Nat, S1 = st0 neg l k ∧ k ≤ l.length ∧ l.take k = strip l) := by
  refine loop_inv1 (fun (i : Nat) => st0 neg l i) (fun i => i ≤ l.length ∧ strip (l.take i) = strip l) (fun i => i)
    (fun e S1 => e = .exit 0 ∧ ∃ k : Nat, S1 = st0 neg l k ∧ k ≤ l.length ∧ l.take k = strip l) isL0 ?_ l.length ?_
  · intro i ⟨h1, h2⟩
    refine ⟨noTab, noTab_all, ?_⟩
    rw [round0]
    cases i with
    | zero =>
      simp only [lands_bif, lands_some, lands_none, Turns1, Turns2, Turns3, Turns4, Turns5, Turns6, Turns7, Turns8, eq_bif, Option.some.injEq, reduceCtorEq, cond_true, cond_false, Bool.eq_false_iff, ne_eq, inB_iff, decide_eq_true_eq, Bool.and_eq_true, Bool.or_eq_true, Bool.not_eq_true', beq_iff_eq, bne_iff_ne, true_and, and_true, true_implies, implies_true, not_true_eq_false, not_false_eq_true, false_implies, few_iff]
      refine ⟨fun h => by omega, fun _ => ⟨0, rfl, h1, ?_⟩⟩
      rw [← h2]; rfl
    | succ i =>
      simp only [lands_bif, lands_some, lands_none, Turns1, Turns2, Turns3, Turns4, Turns5, Turns6, Turns7, Turns8, eq_bif, Option.some.injEq, reduceCtorEq, cond_true, cond_false, Bool.eq_false_iff, ne_eq, inB_iff, decide_eq_true_eq, Bool.and_eq_true, Bool.or_eq_true, Bool.not_eq_true', beq_iff_eq, bne_iff_ne, true_and, and_true, true_implies, implies_true, not_true_eq_false, not_false_eq_true, false_implies, few_iff, wi_pred (show i < 4611686018427387904 by omega)]
      simp only [rd_toNat, Int.toNat_natCast]
      repeat' (first | apply And.intro | intro _)
      all_goals try omega
      · rename_i h3
        exact ⟨i, rfl, ⟨by omega, by rw [← h2, take_succ_getD l (by omega), h3, strip_zero]⟩, by omega⟩
      · rename_i h3
        refine ⟨i + 1, rfl, h1, ?_⟩
        rw [← h2, strip_of_last]
        rw [take_succ_getD l (by omega), List.getLast?_append]
        simpa using h3
  · exact ⟨Nat.le_refl _, by rw [List.take_length]⟩
end Norm
theorem R_num {s : Bool} {l : List Int} (h : okB 4294967296 l = true) : R (num 4294967296 s l) = .agg [.bool (s && !(strip l).isEmpty), .ints .u32 (strip l)] := by
  unfold R
  rw [lb_num W_two h, sg_num W_two h]
theorem meets_norm : Meets Try.prog 58 ansNorm := by
  refine meets_fn noOrc_ok Try.f58 Try.func58 (by kernel_rfl) (fun args r h => ?_)
  unfold ansNorm at h
  split at h
  · rename_i s l
    simp only [Option.some.injEq, Prod.mk.injEq, Bool.and_eq_true, few_iff] at h
    obtain ⟨⟨hl, ol⟩, rfl⟩ := h
    obtain ⟨e1, S1, hE1, rfl, k, rfl, hk, hs⟩ := Norm.loop s l hl
    refine ⟨rfl, _, tabOf_all _, (Norm.rest s l k).trans ?_⟩
    rw [R_num ol, ← hs]
    simp only [cdec_true hE1, cond_true, Int.toNat_natCast, zeros, List.length_replicate, List.drop_replicate]
    cases k with
    | zero => simp
    | succ k =>
      have hne : (l.take (k + 1)).isEmpty = false := by
        rw [List.isEmpty_eq_false_iff]
        intro h0
        have := congrArg List.length h0
        rw [List.length_take, Nat.min_eq_left hk, List.length_nil] at this
        omega
      have e1 : (((k + 1 : Nat) : Int) == 0) = false := by rw [beq_eq_false_iff_ne]; omega
      have e2 : (decide (0 ≤ ((k + 1 : Nat) : Int)) && decide (((k + 1 : Nat) : Int) ≤ ((k + 1 : Nat) : Int)) && decide ((k + 1) * 4 ≤ 281474976710656)) = true := by
        rw [Bool.and_eq_true, Bool.and_eq_true, decide_eq_true_eq, decide_eq_true_eq, decide_eq_true_eq]
        omega
      rw [hne, e1, e2, show k + 1 - l.length = 0 by omega]
      simp
  · cases h
namespace CmpMag
theorem at_lt {a b : List Int} {i : Nat} (ha : okB 4294967296 a = true) (hb : okB 4294967296 b = true) (hd : a.drop (i + 1) = b.drop (i + 1)) (hai : i < a.length) (hbi : i < b.length) (h : a.getD i 0 < b.getD i 0) : val 4294967296 a < val 4294967296 b := by
  have e1 : val 4294967296 a = val 4294967296 (a.take i) + 4294967296 ^ i * a.getD i 0 + 4294967296 ^ (i + 1) * val 4294967296 (a.drop (i + 1)) := by
    conv => lhs; rw [← List.take_append_drop (i + 1) a]
    rw [val_append, List.length_take, Nat.min_eq_left (by omega), val_take_succ]
  have e2 : val 4294967296 b = val 4294967296 (b.take i) + 4294967296 ^ i * b.getD i 0 + 4294967296 ^ (i + 1) * val 4294967296 (b.drop (i + 1)) := by
    conv => lhs; rw [← List.take_append_drop (i + 1) b]
    rw [val_append, List.length_take, Nat.min_eq_left (by omega), val_take_succ]
  rw [e1, e2, hd]
  have h1 := val_lt W_pos (okB_take ha i)
  rw [List.length_take, Nat.min_eq_left (by omega)] at h1
  have h2 := val_nonneg W_pos (okB_take hb i)
  have h3 : (4294967296 : Int) ^ i * (a.getD i 0 + 1) ≤ 4294967296 ^ i * b.getD i 0 := Int.mul_le_mul_of_nonneg_left (by omega) (Int.pow_nonneg (by decide))
  rw [Int.mul_add, Int.mul_one] at h3
  omega
def Post (a b : List Int) (e : Ex) (S1 : St) : Prop := (e = .exit 0 ∧ a = b ∧ ∃ x, S1 = st0 a b x) ∨ (e = .ret ∧ ∃ x c, S1 = st0x0 a b c x ∧ c = cmpZ (val 4294967296 a) (val 4294967296 b))
theorem loop (a b : List Int) (ha : okB 4294967296 a = true) (hb : okB 4294967296 b = true) (hab : a.length = b.length) (hl : a.length ≤ 100000) :
    ∃ e S1, Ends T noOrc L0 D0 (st0 a b ((a.length : Int) - 1)) e S1 ∧ Post a b e S1 := by
  refine loop_inv1 (fun (i : Nat) => st0 a b ((i : Int) - 1)) (fun i => i ≤ a.length ∧ a.drop i = b.drop i) (fun i => i) (Post a b) isL0 ?_ a.length ?_
  · intro i ⟨h1, h2⟩
    refine ⟨noTab, noTab_all, ?_⟩
    rw [round0]
    cases i with
    | zero =>
      simp only [lands_bif, lands_some, lands_none, Turns1, Turns2, Turns3, Turns4, Turns5, Turns6, Turns7, Turns8, eq_bif, Option.some.injEq, reduceCtorEq, cond_true, cond_false, Bool.eq_false_iff, ne_eq, inB_iff, decide_eq_true_eq, Bool.and_eq_true, Bool.or_eq_true, Bool.not_eq_true', beq_iff_eq, bne_iff_ne, true_and, and_true, true_implies, implies_true, not_true_eq_false, not_false_eq_true, false_implies, few_iff]
      refine ⟨fun h => by omega, fun _ => .inl ⟨rfl, by simpa using h2, _, rfl⟩⟩
    | succ i =>
      have e0 : (((i + 1 : Nat) : Int) - 1) = (i : Int) := by omega
      rw [e0]
      simp only [lands_bif, lands_some, lands_none, Turns1, Turns2, Turns3, Turns4, Turns5, Turns6, Turns7, Turns8, eq_bif, Option.some.injEq, reduceCtorEq, cond_true, cond_false, Bool.eq_false_iff, ne_eq, inB_iff, decide_eq_true_eq, Bool.and_eq_true, Bool.or_eq_true, Bool.not_eq_true', beq_iff_eq, bne_iff_ne, true_and, and_true, true_implies, implies_true, not_true_eq_false, not_false_eq_true, false_implies, few_iff]
      simp only [rd_toNat, Int.toNat_natCast]
      repeat' (first | apply And.intro | intro _)
      all_goals try omega
      · rename_i h3
        have := at_lt ha hb h2 (by omega) (by omega) h3
        exact .inr ⟨rfl, _, _, rfl, by unfold cmpZ; rw [if_pos this]⟩
      · rename_i h3
        have := at_lt hb ha h2.symm (by omega) (by omega) h3
        exact .inr ⟨rfl, _, _, rfl, by unfold cmpZ; rw [if_neg (by omega), if_pos this]⟩
      · rename_i h3 _ _ h4
        refine ⟨i, by rw [w64 (by omega) (by omega)], ⟨by omega, ?_⟩, by omega⟩
        have e3 : a.getD i 0 = b.getD i 0 := by omega
        rw [List.drop_eq_getElem_cons (by omega), List.drop_eq_getElem_cons (by omega : i < b.length), h2]
        rw [getD_at (by omega), getD_at (by omega)] at e3
        rw [e3]
  · exact ⟨Nat.le_refl _, by rw [List.drop_length, hab, List.drop_length]⟩
end CmpMag
theorem meets_cmpMag : Meets Try.prog 75 ansCmpMag := by
  refine meets_fn noOrc_ok Try.f75 Try.func75 (by kernel_rfl) (fun args r h => ?_)
  unfold ansCmpMag at h
  split at h
  · rename_i a b
    simp only [Option.some.injEq, Prod.mk.injEq, Bool.and_eq_true] at h
    obtain ⟨⟨ha, hb⟩, rfl⟩ := h
    have oa := cl_ok W_two ha
    have ob := cl_ok W_two hb
    have la := (cl_iff.1 ha).1
    have lb := (cl_iff.1 hb).1
    have key : (a.length : Int) ≠ b.length → cmpZ (val 4294967296 a) (val 4294967296 b) = if a.length < b.length then -1 else 1 := by
      intro h
      unfold cmpZ
      by_cases hlt : a.length < b.length
      · have := val_lt_of_length W_two oa ob (cl_last hb) hlt
        rw [if_pos this, if_pos hlt]
      · have := val_lt_of_length W_two ob oa (cl_last ha) (by omega)
        rw [if_neg (by omega), if_pos this, if_neg hlt]
    refine ⟨rfl, ?_⟩
    have hw : IntKind.i64.wrap ((a.length : Int) - 1) = (a.length : Int) - 1 := w64 (by omega) (by omega)
    by_cases hab : a.length = b.length
    · obtain ⟨e1, S1, hE1, ⟨rfl, hab2, x, rfl⟩ | ⟨rfl, x, c, rfl, hc⟩⟩ := CmpMag.loop a b oa ob hab la
      · refine ⟨_, tabOf_all _, (CmpMag.rest_1 a b x).trans ?_⟩
        rw [hw]
        simp only [lands_bif, lands_some, lands_none, Turns1, Turns2, Turns3, Turns4, Turns5, Turns6, Turns7, Turns8, eq_bif, Option.some.injEq, reduceCtorEq, cond_true, cond_false, Bool.eq_false_iff, ne_eq, inB_iff, decide_eq_true_eq, Bool.and_eq_true, Bool.or_eq_true, Bool.not_eq_true', beq_iff_eq, bne_iff_ne, true_and, and_true, true_implies, implies_true, not_true_eq_false, not_false_eq_true, false_implies, few_iff, cdec_true hE1]
        refine ⟨fun h => absurd (by omega) h, fun _ => ?_⟩
        rw [hab2]; unfold cmpZ; simp
      · refine ⟨_, tabOf_all _, (CmpMag.rest_0 a b c x).trans ?_⟩
        rw [hw]
        simp only [lands_bif, lands_some, lands_none, Turns1, Turns2, Turns3, Turns4, Turns5, Turns6, Turns7, Turns8, eq_bif, Option.some.injEq, reduceCtorEq, cond_true, cond_false, Bool.eq_false_iff, ne_eq, inB_iff, decide_eq_true_eq, Bool.and_eq_true, Bool.or_eq_true, Bool.not_eq_true', beq_iff_eq, bne_iff_ne, true_and, and_true, true_implies, implies_true, not_true_eq_false, not_false_eq_true, false_implies, few_iff, cdec_true hE1]
        refine ⟨fun h => absurd (by omega) h, fun _ => ?_⟩
        rw [hc]
    · refine ⟨_, tabOf_all _, (CmpMag.rest_1 a b 0).trans ?_⟩
      simp only [lands_bif, lands_some, lands_none, Turns1, Turns2, Turns3, Turns4, Turns5, Turns6, Turns7, Turns8, eq_bif, Option.some.injEq, reduceCtorEq, cond_true, cond_false, Bool.eq_false_iff, ne_eq, inB_iff, decide_eq_true_eq, Bool.and_eq_true, Bool.or_eq_true, Bool.not_eq_true', beq_iff_eq, bne_iff_ne, true_and, and_true, true_implies, implies_true, not_true_eq_false, not_false_eq_true, false_implies, few_iff]
      refine ⟨fun h => ?_, fun h => absurd (by omega) h⟩
      rw [key h]
      refine ⟨fun h => by rw [if_pos (by omega)], fun h => by rw [if_neg (by omega)]⟩
  · cases h
end Go.Abs
end
section
/- What arith's functions over limbs answer: timesMag, scale, part. -/
namespace Go.Abs
open Go.Proofs Go.Dig
theorem mul_lt_W {x y : Int} (hx : 0 ≤ x ∧ x < 4294967296) (hy : 0 ≤ y ∧ y < 4294967296) : 0 ≤ x * y ∧ x * y ≤ 18446744065119617025 := by
  refine ⟨Int.mul_nonneg hx.1 hy.1, ?_⟩
  have h1 : x * y ≤ 4294967295 * 4294967295 := Int.mul_le_mul (by omega) (by omega) hy.1 (by omega)
  omega
namespace TimesMag
def InvI (b : List Int) (x : Int) (i : Nat) (L : List Int) (c : Int) (k : Nat) (l : List Int) : Prop :=
  k ≤ b.length ∧ l.length = L.length ∧ okB 4294967296 l = true ∧ 0 ≤ c ∧ c < 4294967296 ∧ val 4294967296 l + 4294967296 ^ (i + k) * c = val 4294967296 L + 4294967296 ^ i * (x * val 4294967296 (b.take k)) ∧ ∀ j, i + b.length ≤ j → l.getD j 0 = 0
theorem step (P Q V S c d c' t y x w : Int) (h : V + P * c = S + Q * (x * w)) (k : t + x * y + c = d + 4294967296 * c') (Pk : Int) (hP : P = Q * Pk) : V + P * (d - t) + P * 4294967296 * c' = S + Q * (x * (w + Pk * y)) := by
  grind
theorem inner (a b : List Int) (i : Nat) (L : List Int) (ha : okB 4294967296 a = true) (hb : okB 4294967296 b = true) (hla : a.length ≤ 100000) (hlb : b.length ≤ 100000) (hi : i < a.length) (hL : L.length = a.length + b.length) (hoL : okB 4294967296 L = true) (hz : ∀ j, i + b.length ≤ j → L.getD j 0 = 0) :
    ∃ e S1, Ends T noOrc L1 D1 (st1 a b i 0 0 L) e S1 ∧ (e = .exit 2 ∧ ∃ c x l, S1 = st1 a b i c x l ∧ InvI b (a.getD i 0) i L c b.length l) := by
  refine loop_inv3 (fun c (k : Nat) l => st1 a b i c k l) (fun c k l => InvI b (a.getD i 0) i L c k l) (fun c k l => b.length - k)
    (fun e S1 => e = .exit 2 ∧ ∃ c x l, S1 = st1 a b i c x l ∧ InvI b (a.getD i 0) i L c b.length l) isL1 ?_ 0 0 L ?_
  · intro c k l h
    obtain ⟨h1, h2, h3, h4, h5, h6, h7⟩ := id h
    refine ⟨noTab, noTab_all, ?_⟩
    have hx := getD_ok W_pos ha i
    have hy := getD_ok W_pos hb k
    have ht := getD_ok W_pos h3 (i + k)
    have hm := mul_lt_W hx hy
    have e1 : IntKind.i64.wrap ((i : Int) + (k : Int)) = ((i + k : Nat) : Int) := by rw [w64 (by omega) (by omega)]; omega
    rw [round1]
    simp only [lands_bif, lands_some, lands_none, Turns1, Turns2, Turns3, Turns4, Turns5, Turns6, Turns7, Turns8, eq_bif, Option.some.injEq, reduceCtorEq, cond_true, cond_false, Bool.eq_false_iff, ne_eq, inB_iff, decide_eq_true_eq, Bool.and_eq_true, Bool.or_eq_true, Bool.not_eq_true', beq_iff_eq, bne_iff_ne, true_and, and_true, true_implies, implies_true, not_true_eq_false, not_false_eq_true, false_implies, few_iff, wi_succ (show k < 4611686018427387904 by omega), e1]
    simp only [rd_toNat, Int.toNat_natCast, wu64_mod, wu32_mod, fdiv32]
    repeat' (first | apply And.intro | intro _)
    all_goals try omega
    · rename_i q1 q2 q3 q4
      have em : (a.getD i 0 % 18446744073709551616) * (b.getD k 0 % 18446744073709551616) = a.getD i 0 * b.getD k 0 := by
        rw [Int.emod_eq_of_lt (by omega) (by omega), Int.emod_eq_of_lt (by omega) (by omega)]
      rw [em]
      generalize hp : a.getD i 0 * b.getD k 0 = p at hm
      refine ⟨_, k + 1, _, rfl, ⟨by omega, by rw [List.length_set]; exact h2, okB_set h3 (by omega), by omega, by omega, ?_, fun j hj => ?_⟩, by omega⟩
      · rw [val_set _ _ _ _ (by omega), val_take_succ, show i + (k + 1) = (i + k) + 1 by omega, Int.pow_succ]
        refine step (4294967296 ^ (i + k)) (4294967296 ^ i) (val 4294967296 l) (val 4294967296 L) c _ _ (l.getD (i + k) 0) (b.getD k 0) (a.getD i 0) _ h6 ?_ (4294967296 ^ k) (Int.pow_add ..)
        rw [hp]
        omega
      · rw [getD_set_ne (by omega)]
        exact h7 j hj
    · obtain rfl : k = b.length := by omega
      exact ⟨_, _, _, rfl, h⟩
  · refine ⟨by omega, rfl, hoL, by omega, by omega, ?_, hz⟩
    simp [val]
def InvO (a b : List Int) (i : Nat) (l : List Int) : Prop :=
  i ≤ a.length ∧ l.length = a.length + b.length ∧ okB 4294967296 l = true ∧ val 4294967296 l = val 4294967296 (a.take i) * val 4294967296 b ∧ ∀ j, i + b.length ≤ j → l.getD j 0 = 0
theorem outer (a b : List Int) (ha : okB 4294967296 a = true) (hb : okB 4294967296 b = true) (hla : a.length ≤ 100000) (hlb : b.length ≤ 100000) :
    ∃ e S1, Ends T noOrc L0 D0 (st0 a b 0 (zeros (a.length + b.length))) e S1 ∧ (e = .exit 0 ∧ ∃ x l, S1 = st0 a b x l ∧ InvO a b a.length l) := by
  refine loop_inv2 (fun (i : Nat) l => st0 a b i l) (fun i l => InvO a b i l) (fun i l => a.length - i)
    (fun e S1 => e = .exit 0 ∧ ∃ x l, S1 = st0 a b x l ∧ InvO a b a.length l) isL0 ?_ 0 (zeros (a.length + b.length)) ?_
  · intro i l h
    obtain ⟨h1, h2, h3, h4, h5⟩ := id h
    by_cases hi : i < a.length
    · obtain ⟨e1, S1, hE1, rfl, c, x, l4, rfl, k1, k2, k3, k4, k5, k6, k7⟩ := inner a b i l ha hb hla hlb hi h2 h3 h5
      refine ⟨_, tabOf_all _, lands_of (round0 a b i l l4 c x) ?_⟩
      have e1 : IntKind.i64.wrap ((i : Int) + (b.length : Int)) = ((i + b.length : Nat) : Int) := by rw [w64 (by omega) (by omega)]; omega
      simp only [lands_bif, lands_some, lands_none, Turns1, Turns2, Turns3, Turns4, Turns5, Turns6, Turns7, Turns8, eq_bif, Option.some.injEq, reduceCtorEq, cond_true, cond_false, Bool.eq_false_iff, ne_eq, inB_iff, decide_eq_true_eq, Bool.and_eq_true, Bool.or_eq_true, Bool.not_eq_true', beq_iff_eq, bne_iff_ne, true_and, and_true, true_implies, implies_true, not_true_eq_false, not_false_eq_true, false_implies, few_iff, cdec_true hE1, e1, wi_succ (show i < 4611686018427387904 by omega)]
      simp only [rd_toNat, Int.toNat_natCast, wu32 k4 (by omega)]
      repeat' (first | apply And.intro | intro _)
      all_goals try omega
      · have hz := k7 (i + b.length) (Nat.le_refl _)
        refine ⟨i + 1, _, rfl, ⟨by omega, by rw [List.length_set]; omega, okB_set k3 ⟨k4, k5⟩, ?_, fun j hj => ?_⟩, by omega⟩
        · rw [val_set _ _ _ _ (by omega), hz, Int.sub_zero, k6, h4, val_take_succ, List.take_of_length_le (Nat.le_refl _), Int.add_mul, Int.mul_assoc]
        · rw [getD_set_ne (by omega)]
          exact k7 j (by omega)
    · obtain rfl : i = a.length := by omega
      refine ⟨_, tabOf_all _, lands_of (round0 a b a.length l l 0 0) ?_⟩
      simp only [lands_bif, lands_some, lands_none, Turns1, Turns2, Turns3, Turns4, Turns5, Turns6, Turns7, Turns8, eq_bif, Option.some.injEq, reduceCtorEq, cond_true, cond_false, Bool.eq_false_iff, ne_eq, inB_iff, decide_eq_true_eq, Bool.and_eq_true, Bool.or_eq_true, Bool.not_eq_true', beq_iff_eq, bne_iff_ne, true_and, and_true, true_implies, implies_true, not_true_eq_false, not_false_eq_true, false_implies, few_iff]
      exact ⟨fun h => absurd h (by omega), fun _ => ⟨_, _, rfl, h⟩⟩
  · refine ⟨by omega, by simp, okB_zeros W_pos _, by rw [val_zeros]; simp [val], fun j _ => getD_zeros _ _⟩
end TimesMag
theorem meets_timesMag : Meets Try.prog 95 ansTimesMag := by
  refine meets_fn noOrc_ok Try.f95 Try.func95 (by kernel_rfl) (fun args r h => ?_)
  unfold ansTimesMag at h
  split at h
  · rename_i a b
    simp only [Option.some.injEq, Prod.mk.injEq, Bool.and_eq_true, few_iff] at h
    obtain ⟨⟨⟨⟨ha, hb⟩, oa⟩, ob⟩, rfl⟩ := h
    obtain ⟨e1, S1, hE1, rfl, x, l, rfl, k1, k2, k3, k4, k5⟩ := TimesMag.outer a b oa ob ha hb
    refine ⟨rfl, _, tabOf_all _, (TimesMag.rest a b l x).trans ?_⟩
    have e1 : IntKind.i64.wrap ((a.length : Int) + (b.length : Int)) = ((a.length + b.length : Nat) : Int) := by rw [w64 (by omega) (by omega)]; omega
    simp only [lands_bif, lands_some, lands_none, Turns1, Turns2, Turns3, Turns4, Turns5, Turns6, Turns7, Turns8, eq_bif, Option.some.injEq, reduceCtorEq, cond_true, cond_false, Bool.eq_false_iff, ne_eq, inB_iff, decide_eq_true_eq, Bool.and_eq_true, Bool.or_eq_true, Bool.not_eq_true', beq_iff_eq, bne_iff_ne, true_and, and_true, true_implies, implies_true, not_true_eq_false, not_false_eq_true, false_implies, few_iff, e1, Int.toNat_natCast, cdec_true hE1]
    rw [show l = timesL a b from dig_eq W_pos k3 k2 (by rw [k4, List.take_of_length_le (Nat.le_refl _)])]
    repeat' (first | apply And.intro | intro _)
    all_goals first | omega | trivial
  · cases h
namespace Scale
def Inv (l : List Int) (m a : Int) (i : Nat) (c : Int) (o : List Int) : Prop :=
  i ≤ l.length ∧ o.length = i ∧ okB 4294967296 o = true ∧ 0 ≤ c ∧ c < 4294967296 ∧ val 4294967296 o + 4294967296 ^ i * c = val 4294967296 (l.take i) * m + a
theorem step (P V S c d c' x m : Int) (h : V + P * c = S) (k : c + x * m = d + 4294967296 * c') : V + P * d + P * 4294967296 * c' = S + P * x * m := by
  grind
theorem loop (l : List Int) (m a : Int) (ol : okB 4294967296 l = true) (hl : l.length ≤ 100000) (hm : 0 ≤ m ∧ m < 4294967296) (ha : 0 ≤ a ∧ a < 4294967296) :
    ∃ e S1, Ends T noOrc L0 D0 (st0 l m a a 0 []) e S1 ∧ (e = .exit 0 ∧ ∃ c x o, S1 = st0 l m a c x o ∧ Inv l m a l.length c o) := by
  refine loop_inv3 (fun c (i : Nat) o => st0 l m a c i o) (fun c i o => Inv l m a i c o) (fun c i o => l.length - i)
    (fun e S1 => e = .exit 0 ∧ ∃ c x o, S1 = st0 l m a c x o ∧ Inv l m a l.length c o) isL0 ?_ a 0 [] ?_
  · intro c i o h
    obtain ⟨h1, h2, h3, h4, h5, h6⟩ := id h
    refine ⟨noTab, noTab_all, lands_of (round0 ..) ?_⟩
    have hx := getD_ok W_pos ol i
    have hp := mul_lt_W hx hm
    simp only [lands_bif, lands_some, lands_none, Turns1, Turns2, Turns3, Turns4, Turns5, Turns6, Turns7, Turns8, eq_bif, Option.some.injEq, reduceCtorEq, cond_true, cond_false, Bool.eq_false_iff, ne_eq, inB_iff, decide_eq_true_eq, Bool.and_eq_true, Bool.or_eq_true, Bool.not_eq_true', beq_iff_eq, bne_iff_ne, true_and, and_true, true_implies, implies_true, not_true_eq_false, not_false_eq_true, false_implies, few_iff, wi_succ (show i < 4611686018427387904 by omega)]
    simp only [rd_toNat, Int.toNat_natCast, wu64_mod, wu32_mod, fdiv32, intOf]
    repeat' (first | apply And.intro | intro _)
    all_goals try omega
    · have em : (l.getD i 0 % 18446744073709551616) * (m % 18446744073709551616) = l.getD i 0 * m := by
        rw [Int.emod_eq_of_lt (by omega) (by omega), Int.emod_eq_of_lt (by omega) (by omega)]
      rw [em]
      generalize hq : l.getD i 0 * m = p at hp
      refine ⟨_, i + 1, _, rfl, ⟨by omega, by simp [h2], okB_app h3 (okB_one (by omega)), by omega, by omega, ?_⟩, by omega⟩
      rw [val_append, val_one, h2, val_take_succ, Int.pow_succ, Int.add_mul]
      have := step (4294967296 ^ i) (val 4294967296 o) _ c _ _ (l.getD i 0) m h6 (show c + l.getD i 0 * m = (c + p) % 18446744073709551616 % 4294967296 + 4294967296 * ((c + p) % 18446744073709551616 / 4294967296) by omega)
      have e3 : p % 18446744073709551616 = p := Int.emod_eq_of_lt (by omega) (by omega)
      rw [e3]
      omega
    · rename_i q1 q2 q3
      rw [List.length_append] at q3
      simp at q3
      omega
    · obtain rfl : i = l.length := by omega
      exact ⟨_, _, _, rfl, h⟩
  · exact ⟨by omega, rfl, rfl, ha.1, ha.2, by simp [val]⟩
end Scale
theorem meets_scale : Meets Try.prog 56 ansScale := by
  refine meets_fn noOrc_ok Try.f56 Try.func56 (by kernel_rfl) (fun args r h => ?_)
  unfold ansScale at h
  split at h
  · rename_i l m a
    simp only [Option.some.injEq, Prod.mk.injEq, Bool.and_eq_true, few_iff, decide_eq_true_eq] at h
    obtain ⟨⟨⟨⟨⟨⟨hl, ol⟩, m1⟩, m2⟩, a1⟩, a2⟩, rfl⟩ := h
    obtain ⟨e1, S1, hE1, rfl, c, x, o, rfl, k1, k2, k3, k4, k5, k6⟩ := Scale.loop l m a ol hl ⟨m1, m2⟩ ⟨a1, a2⟩
    refine ⟨rfl, _, tabOf_all _, (Scale.rest l m a o c x).trans ?_⟩
    rw [List.take_of_length_le (Nat.le_refl _)] at k6
    have hv := val_lt W_pos k3
    have hv0 := val_nonneg W_pos k3
    rw [k2] at hv
    simp only [lands_bif, lands_some, lands_none, Turns1, Turns2, Turns3, Turns4, Turns5, Turns6, Turns7, Turns8, eq_bif, Option.some.injEq, reduceCtorEq, cond_true, cond_false, Bool.eq_false_iff, ne_eq, inB_iff, decide_eq_true_eq, Bool.and_eq_true, Bool.or_eq_true, Bool.not_eq_true', beq_iff_eq, bne_iff_ne, true_and, and_true, true_implies, implies_true, not_true_eq_false, not_false_eq_true, false_implies, few_iff, wi_succ (show l.length < 4611686018427387904 by omega), wu64 a1 (by omega), wu32 k4 (by omega), Int.toNat_natCast, cdec_true hE1, List.length_append, k2, intOf]
    repeat' (first | apply And.intro | intro _)
    all_goals try omega
    · rename_i hc _
      have : ¬ val 4294967296 l * m + a < 4294967296 ^ l.length := by
        have : (4294967296 : Int) ^ l.length * 1 ≤ 4294967296 ^ l.length * c := Int.mul_le_mul_of_nonneg_left (by omega) (Int.pow_nonneg (by decide))
        omega
      unfold scaleL
      rw [decide_eq_false this]
      rw [dig_eq W_pos (okB_app k3 (okB_one ⟨k4, k5⟩)) (n := l.length + 1) (by simp [k2]) (v := val 4294967296 l * m + a) (by rw [val_append, val_one, k2, k6])]
      rfl
    · rename_i hc
      simp at hc
      omega
    · rename_i hc
      obtain rfl : c = 0 := by omega
      rw [Int.mul_zero, Int.add_zero] at k6
      unfold scaleL
      rw [decide_eq_true (by omega)]
      rw [dig_eq W_pos k3 k2 k6]
      rfl
  · cases h
end Go.Abs
end
section
/- What arith's functions over limbs answer: part, left, right; math/bits. -/
namespace Go.Abs
open Go.Proofs Go.Dig
theorem or_nat (w a b k : Nat) (hb : b < 2 ^ k) (ha : 2 ^ k * a + b < 2 ^ w) : (BitVec.ofInt w ((b : Nat) : Int) ||| BitVec.ofInt w ((2 ^ k * a : Nat) : Int)).toNat = b + 2 ^ k * a := by
  rw [BitVec.toNat_or, BitVec.ofInt_natCast, BitVec.ofInt_natCast, BitVec.toNat_ofNat, BitVec.toNat_ofNat, Nat.mod_eq_of_lt (by omega), Nat.mod_eq_of_lt (by omega), Nat.or_comm, ← Nat.two_pow_add_eq_or_of_lt hb, Nat.add_comm]
/-- 'or' of numbers that have no bit together: x below 2^k, y a multiple of it. -/
theorem or64 {x y : Int} (k : Nat) (hx : 0 ≤ x) (hk : x < 2 ^ k) (hy : ∃ a : Int, 0 ≤ a ∧ y = 2 ^ k * a) (hs : x + y < 18446744073709551616) : IntKind.u64.wrap ((BitVec.ofInt 64 x ||| BitVec.ofInt 64 y).toNat : Int) = x + y := by
  obtain ⟨a, ha, rfl⟩ := hy
  obtain ⟨x, rfl⟩ := Int.eq_ofNat_of_zero_le hx
  obtain ⟨a, rfl⟩ := Int.eq_ofNat_of_zero_le ha
  have e1 : ((2 : Int) ^ k * (a : Int)) = ((2 ^ k * a : Nat) : Int) := by rw [Int.natCast_mul, Int.natCast_pow]; rfl
  rw [e1] at hs ⊢
  have hk2 : x < 2 ^ k := by
    have : ((x : Nat) : Int) < ((2 ^ k : Nat) : Int) := by rw [Int.natCast_pow]; exact hk
    omega
  have := or_nat 64 a x k hk2 (by have : (2 : Nat) ^ 64 = 18446744073709551616 := rfl; omega)
  rw [this, wu64 (by omega) (by omega)]
  omega
theorem or64' {x y : Int} (k : Nat) (hx : 0 ≤ x) (hk : x < 2 ^ k) (hy : ∃ a : Int, 0 ≤ a ∧ y = 2 ^ k * a) (hs : x + y < 18446744073709551616) : IntKind.u64.wrap ((BitVec.ofInt 64 y ||| BitVec.ofInt 64 x).toNat : Int) = x + y := by
  rw [BitVec.or_comm]; exact or64 k hx hk hy hs
theorem or32 {x y : Int} (k : Nat) (hx : 0 ≤ x) (hk : x < 2 ^ k) (hy : ∃ a : Int, 0 ≤ a ∧ y = 2 ^ k * a) (hs : x + y < 4294967296) : IntKind.u32.wrap ((BitVec.ofInt 32 x ||| BitVec.ofInt 32 y).toNat : Int) = x + y := by
  obtain ⟨a, ha, rfl⟩ := hy
  obtain ⟨x, rfl⟩ := Int.eq_ofNat_of_zero_le hx
  obtain ⟨a, rfl⟩ := Int.eq_ofNat_of_zero_le ha
  have e1 : ((2 : Int) ^ k * (a : Int)) = ((2 ^ k * a : Nat) : Int) := by rw [Int.natCast_mul, Int.natCast_pow]; rfl
  rw [e1] at hs ⊢
  have hk2 : x < 2 ^ k := by
    have : ((x : Nat) : Int) < ((2 ^ k : Nat) : Int) := by rw [Int.natCast_pow]; exact hk
    omega
  have := or_nat 32 a x k hk2 (by have : (2 : Nat) ^ 32 = 4294967296 := rfl; omega)
  rw [this, wu32 (by omega) (by omega)]
  omega
theorem digN_cons {B : Int} (hB : 0 < B) (k : Nat) (q Q : Int) (h : 0 ≤ q ∧ q < B) : digN B (k + 1) (q + B * Q) = q :: digN B k Q := by
  simp only [digN]
  rw [Int.add_mul_emod_self_left, Int.emod_eq_of_lt h.1 h.2, Int.add_mul_ediv_left _ _ (by omega), Int.ediv_eq_zero_of_lt h.1 h.2, Int.zero_add]
theorem drop_set_cons {α : Type} (l : List α) {i : Nat} (d : α) (h : i < l.length) : (l.set i d).drop i = d :: l.drop (i + 1) := by
  rw [List.drop_eq_getElem_cons (by rw [List.length_set]; exact h), List.getElem_set_self, List.drop_set_of_lt (by omega)]
theorem drop_getD (l : List Int) {i : Nat} (h : i < l.length) : l.drop i = l.getD i 0 :: l.drop (i + 1) := by
  rw [List.drop_eq_getElem_cons h, getD_at h]
theorem okB_drop {B : Int} {l : List Int} (h : okB B l = true) (i : Nat) : okB B (l.drop i) = true := okB_iff.2 fun d hd => okB_iff.1 h d (List.mem_of_mem_drop hd)
namespace Part
def Inv (l : List Int) (m : Int) (i : Nat) (r : Int) (o : List Int) : Prop :=
  i ≤ l.length ∧ o.length = l.length ∧ r = val 4294967296 (l.drop i) % m ∧ o.drop i = digN 4294967296 (l.length - i) (val 4294967296 (l.drop i) / m)
theorem next {l o : List Int} {m r : Int} {i : Nat} (hm : 0 < m ∧ m < 4294967296) (ol : okB 4294967296 l = true) (h : Inv l m (i + 1) r o) (t : Int) (ht : t = r * 4294967296 + l.getD i 0) :
    0 ≤ t / m ∧ t / m < 4294967296 ∧ Inv l m i (t % m) (o.set i (t / m)) := by
  obtain ⟨h1, h2, h3, h4⟩ := h
  have hr0 : 0 ≤ r := by rw [h3]; exact Int.emod_nonneg _ (by omega)
  have hr1 : r < m := by rw [h3]; exact Int.emod_lt_of_pos _ hm.1
  have hx := getD_ok W_pos ol i
  have hv0 := val_nonneg W_pos (okB_drop ol (i + 1))
  have hq1 : t / m < 4294967296 := by
    refine Int.ediv_lt_of_lt_mul hm.1 ?_
    have : (r + 1) * 4294967296 ≤ m * 4294967296 := Int.mul_le_mul_of_nonneg_right (by omega) (by omega)
    rw [Int.mul_comm 4294967296 m]
    omega
  have hq0 : 0 ≤ t / m := Int.ediv_nonneg (by omega) (by omega)
  have e0 : val 4294967296 (l.drop i) = t + m * (4294967296 * (val 4294967296 (l.drop (i + 1)) / m)) := by
    rw [drop_getD l (by omega)]
    simp only [val]
    have h5 := Int.emod_add_mul_ediv (val 4294967296 (l.drop (i + 1))) m
    rw [← h3] at h5
    rw [ht, ← Int.mul_assoc, Int.mul_comm m 4294967296, Int.mul_assoc]
    omega
  refine ⟨hq0, hq1, by omega, by rw [List.length_set]; exact h2, ?_, ?_⟩
  · rw [e0, Int.add_mul_emod_self_left]
  · rw [drop_set_cons o _ (by omega), h4, e0, Int.add_mul_ediv_left _ _ (by omega), show l.length - i = (l.length - (i + 1)) + 1 by omega, digN_cons W_pos _ _ _ ⟨hq0, hq1⟩]
theorem loop (l : List Int) (m : Int) (ol : okB 4294967296 l = true) (hl : l.length ≤ 100000) (hm : 0 < m ∧ m < 4294967296) :
    ∃ e S1, Ends T noOrc L0 D0 (st0 l m 0 ((l.length : Int) - 1) (zeros l.length)) e S1 ∧ (e = .exit 0 ∧ ∃ c x o, S1 = st0 l m c x o ∧ Inv l m 0 c o) := by
  refine loop_inv3 (fun c (i : Nat) o => st0 l m c ((i : Int) - 1) o) (fun c i o => Inv l m i c o) (fun c i o => i)
    (fun e S1 => e = .exit 0 ∧ ∃ c x o, S1 = st0 l m c x o ∧ Inv l m 0 c o) isL0 ?_ 0 l.length (zeros l.length) ?_
  · intro c i o h
    refine ⟨noTab, noTab_all, lands_of (round0 ..) ?_⟩
    cases i with
    | zero =>
      simp only [lands_bif, lands_some, lands_none, Turns1, Turns2, Turns3, Turns4, Turns5, Turns6, Turns7, Turns8, eq_bif, Option.some.injEq, reduceCtorEq, cond_true, cond_false, Bool.eq_false_iff, ne_eq, inB_iff, decide_eq_true_eq, Bool.and_eq_true, Bool.or_eq_true, Bool.not_eq_true', beq_iff_eq, bne_iff_ne, true_and, and_true, true_implies, implies_true, not_true_eq_false, not_false_eq_true, false_implies, few_iff]
      exact ⟨fun h => absurd h (by omega), fun _ => ⟨_, _, _, rfl, h⟩⟩
    | succ i =>
      have e0 : (((i + 1 : Nat) : Int) - 1) = (i : Int) := by omega
      rw [e0]
      obtain ⟨h1, h2, h3, h4⟩ := id h
      have hx := getD_ok W_pos ol i
      have hr0 : 0 ≤ c := by rw [h3]; exact Int.emod_nonneg _ (by omega)
      have hr1 : c < m := by rw [h3]; exact Int.emod_lt_of_pos _ hm.1
      have ew : IntKind.u64.wrap (c * 2 ^ 32) = 2 ^ 32 * c := by rw [wu64 (by omega) (by omega), Int.mul_comm]
      have eo : IntKind.u64.wrap ((BitVec.ofInt 64 (IntKind.u64.wrap (c * 2 ^ 32)) ||| BitVec.ofInt 64 (IntKind.u64.wrap (rd l (i : Int)))).toNat : Int) = c * 4294967296 + l.getD i 0 := by
        rw [ew, rd_toNat, Int.toNat_natCast, wu64 hx.1 (by omega), or64' 32 hx.1 (by omega) ⟨c, hr0, rfl⟩ (by omega)]
        omega
      obtain ⟨n1, n2, n3⟩ := next hm ol h _ rfl
      rw [eo, wu64 (by omega) (by omega : m ≤ 18446744073709551615)]
      rw [Int.tdiv_eq_ediv_of_nonneg (by omega), Int.tmod_eq_emod_of_nonneg (by omega)]
      rw [wu64 n1 (by omega), wu32 n1 (by omega)]
      simp only [lands_bif, lands_some, lands_none, Turns1, Turns2, Turns3, Turns4, Turns5, Turns6, Turns7, Turns8, eq_bif, Option.some.injEq, reduceCtorEq, cond_true, cond_false, Bool.eq_false_iff, ne_eq, inB_iff, decide_eq_true_eq, Bool.and_eq_true, Bool.or_eq_true, Bool.not_eq_true', beq_iff_eq, bne_iff_ne, true_and, and_true, true_implies, implies_true, not_true_eq_false, not_false_eq_true, false_implies, few_iff]
      simp only [Int.toNat_natCast]
      repeat' (first | apply And.intro | intro _)
      all_goals try omega
      · exact ⟨_, i, _, by rw [w64 (by omega) (by omega)], n3, by omega⟩
  · refine ⟨Nat.le_refl _, by simp, ?_, ?_⟩
    · rw [List.drop_length]; simp [val]
    · rw [List.drop_length, List.drop_of_length_le (by simp), Nat.sub_self]; rfl
theorem loop2 (l : List Int) (m x2 x3 : Int) (o : List Int) (hl : o.length ≤ 100000) :
    ∃ e S1, Ends T noOrc L1 D1 (st1 l m x2 x3 o.length o) e S1 ∧ (e = .exit 2 ∧ ∃ k : Nat, S1 = st1 l m x2 x3 k o ∧ k ≤ o.length ∧ o.take k = strip o) := by
  refine loop_inv1 (fun (i : Nat) => st1 l m x2 x3 i o) (fun i => i ≤ o.length ∧ strip (o.take i) = strip o) (fun i => i)
    (fun e S1 => e = .exit 2 ∧ ∃ k : Nat, S1 = st1 l m x2 x3 k o ∧ k ≤ o.length ∧ o.take k = strip o) isL1 ?_ o.length ?_
  · intro i ⟨h1, h2⟩
    refine ⟨noTab, noTab_all, lands_of (round1 ..) ?_⟩
    cases i with
    | zero =>
      simp only [lands_bif, lands_some, lands_none, Turns1, Turns2, Turns3, Turns4, Turns5, Turns6, Turns7, Turns8, eq_bif, Option.some.injEq, reduceCtorEq, cond_true, cond_false, Bool.eq_false_iff, ne_eq, inB_iff, decide_eq_true_eq, Bool.and_eq_true, Bool.or_eq_true, Bool.not_eq_true', beq_iff_eq, bne_iff_ne, true_and, and_true, true_implies, implies_true, not_true_eq_false, not_false_eq_true, false_implies, few_iff]
      refine ⟨fun h => by omega, fun _ => ⟨0, rfl, h1, ?_⟩⟩
      rw [← h2]; rfl
    | succ i =>
      simp only [lands_bif, lands_some, lands_none, Turns1, Turns2, Turns3, Turns4, Turns5, Turns6, Turns7, Turns8, eq_bif, Option.some.injEq, reduceCtorEq, cond_true, cond_false, Bool.eq_false_iff, ne_eq, inB_iff, decide_eq_true_eq, Bool.and_eq_true, Bool.or_eq_true, Bool.not_eq_true', beq_iff_eq, bne_iff_ne, true_and, and_true, true_implies, implies_true, not_true_eq_false, not_false_eq_true, false_implies, few_iff, wi_pred (show i < 4611686018427387904 by omega)]
      simp only [rd_toNat, Int.toNat_natCast]
      repeat' (first | apply And.intro | intro _)
      all_goals try omega
      · rename_i h3
        exact ⟨i, rfl, ⟨by omega, by rw [← h2, take_succ_getD o (by omega), h3, strip_zero]⟩, by omega⟩
      · rename_i h3
        refine ⟨i + 1, rfl, h1, ?_⟩
        rw [← h2, strip_of_last]
        rw [take_succ_getD o (by omega), List.getLast?_append]
        simpa using h3
  · exact ⟨Nat.le_refl _, by rw [List.take_length]⟩
end Part
theorem meets_part : Meets Try.prog 68 ansPart := by
  refine meets_fn noOrc_ok Try.f68 Try.func68 (by kernel_rfl) (fun args r h => ?_)
  unfold ansPart at h
  split at h
  · rename_i l m
    simp only [Option.some.injEq, Prod.mk.injEq, Bool.and_eq_true, few_iff, decide_eq_true_eq] at h
    obtain ⟨⟨⟨⟨hl, ol⟩, m1⟩, m2⟩, rfl⟩ := h
    obtain ⟨e1, S1, hE1, rfl, c, x, o, rfl, k1, k2, k3, k4⟩ := Part.loop l m ol hl ⟨m1, m2⟩
    obtain ⟨e2, S2, hE2, rfl, k, rfl, j1, j2⟩ := Part.loop2 l m c x o (by omega)
    refine ⟨rfl, _, tabOf_all _, (Part.rest l m k o c x).trans ?_⟩
    rw [List.drop_zero] at k3 k4
    have hc0 : 0 ≤ c := by rw [k3]; exact Int.emod_nonneg _ (by omega)
    have hc1 : c < m := by rw [k3]; exact Int.emod_lt_of_pos _ m1
    have hv0 := val_nonneg W_pos ol
    have hv1 := val_lt W_pos ol
    have hq0 : 0 ≤ val 4294967296 l / m := Int.ediv_nonneg hv0 (by omega)
    have hq1 : val 4294967296 l / m < 4294967296 ^ l.length := Int.lt_of_le_of_lt (Int.ediv_le_self _ hv0) hv1
    simp only [lands_bif, lands_some, lands_none, Turns1, Turns2, Turns3, Turns4, Turns5, Turns6, Turns7, Turns8, eq_bif, Option.some.injEq, reduceCtorEq, cond_true, cond_false, Bool.eq_false_iff, ne_eq, inB_iff, decide_eq_true_eq, Bool.and_eq_true, Bool.or_eq_true, Bool.not_eq_true', beq_iff_eq, bne_iff_ne, true_and, and_true, true_implies, implies_true, not_true_eq_false, not_false_eq_true, false_implies, few_iff, w64 (show -9223372036854775808 ≤ (l.length : Int) - 1 by omega) (by omega), Int.toNat_natCast, cdec_true hE1, cdec_true hE2]
    have et : o.take k = limbs 4294967296 (val 4294967296 l / m) := by rw [j2, k4, Nat.sub_zero, List.drop_zero, limbs_of W_two hq0 hq1]
    rw [et, wu32 hc0 (by omega), k3]
    repeat' (first | apply And.intro | intro _)
    all_goals first | omega | trivial
  · cases h
theorem two_pow_31 {s : Nat} (h : s ≤ 31) : (1 : Int) ≤ 2 ^ s ∧ (2 : Int) ^ s ≤ 2147483648 := by
  have h1 : (2 : Int) ^ s * 2 ^ (31 - s) = 2147483648 := by rw [← Int.pow_add, show s + (31 - s) = 31 by omega]; rfl
  have h2 : (0 : Int) < 2 ^ s := Int.pow_pos (by decide)
  have h3 : (0 : Int) < 2 ^ (31 - s) := Int.pow_pos (by decide)
  refine ⟨by omega, ?_⟩
  have : (2 : Int) ^ s * 1 ≤ 2 ^ s * 2 ^ (31 - s) := Int.mul_le_mul_of_nonneg_left (by omega) (by omega)
  omega
theorem two_pow_32 {s : Nat} (h : s ≤ 31) : (2 : Int) ^ s * 2 ^ (32 - s) = 4294967296 := by
  rw [← Int.pow_add, show s + (32 - s) = 32 by omega]; rfl
namespace Left
def Inv (l : List Int) (s : Nat) (i : Nat) (o : List Int) : Prop :=
  i ≤ l.length ∧ o.length = l.length + 1 ∧ okB 4294967296 o = true ∧ val 4294967296 o = val 4294967296 (l.take i) * 2 ^ s ∧ o.getD i 0 < 2 ^ s ∧ ∀ j, i < j → o.getD j 0 = 0
theorem loop (l : List Int) (s : Nat) (ol : okB 4294967296 l = true) (hl : l.length ≤ 100000) (hs : s ≤ 31) :
    ∃ e S1, Ends T noOrc L0 D0 (st0 l s 0 (zeros (l.length + 1))) e S1 ∧ (e = .exit 0 ∧ ∃ x o, S1 = st0 l s x o ∧ Inv l s l.length o) := by
  obtain ⟨p1, p2⟩ := two_pow_31 hs
  refine loop_inv2 (fun (i : Nat) o => st0 l s i o) (fun i o => Inv l s i o) (fun i o => l.length - i)
    (fun e S1 => e = .exit 0 ∧ ∃ x o, S1 = st0 l s x o ∧ Inv l s l.length o) isL0 ?_ 0 (zeros (l.length + 1)) ?_
  · intro i o h
    obtain ⟨h1, h2, h3, h4, h5, h6⟩ := id h
    refine ⟨noTab, noTab_all, lands_of (round0 ..) ?_⟩
    have hx := getD_ok W_pos ol i
    have ho := getD_ok W_pos h3 i
    have em : (2 : Int) ^ (min ((s : Int)).toNat 64) = 2 ^ s := by rw [Int.toNat_natCast, Nat.min_eq_left (by omega)]
    have hm : l.getD i 0 * 2 ^ s ≤ 4294967295 * 2147483648 := Int.mul_le_mul (by omega) p2 (by omega) (by omega)
    have hm0 : 0 ≤ l.getD i 0 * 2 ^ s := Int.mul_nonneg hx.1 (by omega)
    have ew : IntKind.u64.wrap (IntKind.u64.wrap (rd l (i : Int)) * 2 ^ (min ((s : Int)).toNat 64)) = l.getD i 0 * 2 ^ s := by
      rw [em, rd_toNat, Int.toNat_natCast, wu64 hx.1 (by omega), wu64 hm0 (by omega)]
    rw [ew]
    obtain ⟨lo, hlo⟩ : ∃ lo, l.getD i 0 % 2 ^ (32 - s) = lo := ⟨_, rfl⟩
    obtain ⟨hi, hhi⟩ : ∃ hi, l.getD i 0 / 2 ^ (32 - s) = hi := ⟨_, rfl⟩
    have hQ : (0 : Int) < 2 ^ (32 - s) := Int.pow_pos (by decide)
    have h7 := two_pow_32 hs
    have elo : l.getD i 0 * 2 ^ s % 4294967296 = 2 ^ s * lo := by rw [← h7, Int.mul_comm, Int.mul_emod_mul_of_pos _ _ (by omega), hlo]
    have ehi : l.getD i 0 * 2 ^ s / 4294967296 = hi := by rw [← h7, Int.mul_comm, Int.mul_ediv_mul_of_pos _ _ (by omega), hhi]
    have hlo0 : 0 ≤ lo := by rw [← hlo]; exact Int.emod_nonneg _ (by omega)
    have hlo1 : lo < 2 ^ (32 - s) := by rw [← hlo]; exact Int.emod_lt_of_pos _ hQ
    have hhi0 : 0 ≤ hi := by rw [← hhi]; exact Int.ediv_nonneg hx.1 (by omega)
    have hhi1 : hi < 2 ^ s := by rw [← hhi]; exact Int.ediv_lt_of_lt_mul hQ (by rw [h7]; exact hx.2)
    have hlo2 : 2 ^ s * lo ≤ 4294967296 - 2 ^ s := by
      have : (2 : Int) ^ s * (lo + 1) ≤ 2 ^ s * 2 ^ (32 - s) := Int.mul_le_mul_of_nonneg_left (by omega) (by omega)
      rw [h7, Int.mul_add, Int.mul_one] at this
      omega
    have hlo3 : 0 ≤ 2 ^ s * lo := Int.mul_nonneg (by omega) hlo0
    have hsum : l.getD i 0 * 2 ^ s = 2 ^ s * lo + 4294967296 * hi := by
      have := Int.emod_add_mul_ediv (l.getD i 0 * 2 ^ s) 4294967296
      rw [elo, ehi] at this
      omega
    rw [fdiv32, ehi, wu32_mod (l.getD i 0 * 2 ^ s), elo]
    simp only [rd_toNat, Int.toNat_natCast, wi_succ (show i < 4611686018427387904 by omega)]
    rw [getD_set_ne (show i ≠ i + 1 by omega), h6 (i + 1) (by omega), wu32 hhi0 (by omega)]
    rw [or32 s ho.1 h5 ⟨lo, hlo0, rfl⟩ (by omega), or32 (x := 0) (y := hi) 0 (by omega) (by decide) ⟨hi, hhi0, by simp⟩ (by omega), Int.zero_add]
    simp only [lands_bif, lands_some, lands_none, Turns1, Turns2, Turns3, Turns4, Turns5, Turns6, Turns7, Turns8, eq_bif, Option.some.injEq, reduceCtorEq, cond_true, cond_false, Bool.eq_false_iff, ne_eq, inB_iff, decide_eq_true_eq, Bool.and_eq_true, Bool.or_eq_true, Bool.not_eq_true', beq_iff_eq, bne_iff_ne, true_and, and_true, true_implies, implies_true, not_true_eq_false, not_false_eq_true, false_implies, few_iff, List.length_set]
    repeat' (first | apply And.intro | intro _)
    all_goals try omega
    · refine ⟨i + 1, _, rfl, ⟨by omega, by simp [h2], okB_set (okB_set h3 (by omega)) (by omega), ?_, ?_, fun j hj => ?_⟩, by omega⟩
      · rw [val_set _ _ _ _ (by rw [List.length_set]; omega), val_set _ _ _ _ (by omega), getD_set_ne (by omega), h6 (i + 1) (by omega), h4, val_take_succ, Int.add_mul, Int.pow_succ, Int.mul_assoc (4294967296 ^ i) (l.getD i 0), hsum]
        generalize (4294967296 : Int) ^ i = P
        grind
      · rw [getD_set_self (by rw [List.length_set]; omega)]
        exact hhi1
      · rw [getD_set_ne (by omega), getD_set_ne (by omega), h6 j (by omega)]
    · obtain rfl : i = l.length := by omega
      exact ⟨_, _, rfl, h⟩
  · refine ⟨by omega, by simp, okB_zeros W_pos _, by rw [val_zeros]; simp [val], ?_, fun j _ => getD_zeros _ _⟩
    rw [getD_zeros]; omega
end Left
theorem meets_left : Meets Try.prog 89 ansLeft := by
  refine meets_fn noOrc_ok Try.f89 Try.func89 (by kernel_rfl) (fun args r h => ?_)
  unfold ansLeft at h
  split at h
  · rename_i l sh
    simp only [Option.some.injEq, Prod.mk.injEq, Bool.and_eq_true, few_iff, decide_eq_true_eq] at h
    obtain ⟨⟨⟨⟨hl, ol⟩, s1⟩, s2⟩, rfl⟩ := h
    obtain ⟨s, rfl⟩ := Int.eq_ofNat_of_zero_le s1
    obtain ⟨e1, S1, hE1, rfl, x, o, rfl, k1, k2, k3, k4, _⟩ := Left.loop l s ol hl (by omega)
    refine ⟨rfl, _, tabOf_all _, (Left.rest l s o x).trans ?_⟩
    simp only [lands_bif, lands_some, lands_none, Turns1, Turns2, Turns3, Turns4, Turns5, Turns6, Turns7, Turns8, eq_bif, Option.some.injEq, reduceCtorEq, cond_true, cond_false, Bool.eq_false_iff, ne_eq, inB_iff, decide_eq_true_eq, Bool.and_eq_true, Bool.or_eq_true, Bool.not_eq_true', beq_iff_eq, bne_iff_ne, true_and, and_true, true_implies, implies_true, not_true_eq_false, not_false_eq_true, false_implies, few_iff, wi_succ (show l.length < 4611686018427387904 by omega), Int.toNat_natCast, cdec_true hE1]
    rw [show o = leftL l s from dig_eq W_pos k3 k2 (by rw [k4, List.take_of_length_le (Nat.le_refl _), Int.toNat_natCast])]
    repeat' (first | apply And.intro | intro _)
    all_goals first | omega | trivial
  · cases h
theorem digN_succ {B : Int} (hB : 0 < B) (i : Nat) (v : Int) : digN B (i + 1) v = digN B i v ++ [v / B ^ i % B] := by
  rw [digN_add B hB i 1 v]; rfl
theorem val_div {B : Int} (hB : 0 < B) {l : List Int} (h : okB B l = true) {i : Nat} (hi : i ≤ l.length) : val B l / B ^ i = val B (l.drop i) := by
  have e : val B l = val B (l.take i) + B ^ i * val B (l.drop i) := by
    conv => lhs; rw [← List.take_append_drop i l]
    rw [val_append, List.length_take, Nat.min_eq_left hi]
  have h1 := val_lt hB (okB_take h i)
  rw [List.length_take, Nat.min_eq_left hi] at h1
  have h2 := val_nonneg hB (okB_take h i)
  rw [e, Int.add_mul_ediv_left _ _ (by have h3 : 0 < B ^ i := Int.pow_pos hB; omega), Int.ediv_eq_zero_of_lt h2 h1, Int.zero_add]
namespace Right
theorem digit_at {l : List Int} {s i : Nat} (ol : okB 4294967296 l = true) (hs : s ≤ 31) (hi : i < l.length) : (l.getD i 0 + 4294967296 * l.getD (i + 1) 0) / 2 ^ s % 4294967296 = val 4294967296 l / 2 ^ s / 4294967296 ^ i % 4294967296 := by
  obtain ⟨p1, p2⟩ := two_pow_31 hs
  have e1 : val 4294967296 l / 2 ^ s / 4294967296 ^ i = val 4294967296 (l.drop i) / 2 ^ s := by
    rw [Int.ediv_ediv_of_nonneg (by omega), Int.mul_comm, ← Int.ediv_ediv_of_nonneg (Int.pow_nonneg (by decide)), val_div W_pos ol (by omega)]
  have e2 : val 4294967296 (l.drop i) = l.getD i 0 + 4294967296 * l.getD (i + 1) 0 + 2 ^ s * (4294967296 * (2 ^ (32 - s) * val 4294967296 (l.drop (i + 2)))) := by
    have h7 := two_pow_32 hs
    have e3 : val 4294967296 (l.drop (i + 1)) = l.getD (i + 1) 0 + 4294967296 * val 4294967296 (l.drop (i + 2)) := by
      by_cases h : i + 1 < l.length
      · rw [drop_getD l h]; rfl
      · rw [List.drop_of_length_le (by omega), List.drop_of_length_le (by omega), getD_none (by omega)]; simp [val]
    rw [drop_getD l hi]
    simp only [val]
    rw [e3]
    generalize val 4294967296 (l.drop (i + 2)) = V
    have : (2 : Int) ^ s * (4294967296 * (2 ^ (32 - s) * V)) = 4294967296 * (4294967296 * V) := by
      rw [← h7]; grind
    rw [this]
    omega
  rw [e1, e2, Int.add_mul_ediv_left _ _ (by omega), Int.add_mul_emod_self_left]
theorem loop (l : List Int) (s : Nat) (ol : okB 4294967296 l = true) (hl : l.length ≤ 100000) (hs : s ≤ 31) :
    ∃ e S1, Ends T noOrc L0 D0 (st0 l s 0 (zeros l.length)) e S1 ∧ (e = .exit 0 ∧ ∃ x o, S1 = st0 l s x o ∧ o.length = l.length ∧ o.take l.length = digN 4294967296 l.length (val 4294967296 l / 2 ^ s)) := by
  obtain ⟨p1, p2⟩ := two_pow_31 hs
  refine loop_inv2 (fun (i : Nat) o => st0 l s i o) (fun i o => i ≤ l.length ∧ o.length = l.length ∧ o.take i = digN 4294967296 i (val 4294967296 l / 2 ^ s)) (fun i o => l.length - i)
    (fun e S1 => e = .exit 0 ∧ ∃ x o, S1 = st0 l s x o ∧ o.length = l.length ∧ o.take l.length = digN 4294967296 l.length (val 4294967296 l / 2 ^ s)) isL0 ?_ 0 (zeros l.length) ?_
  · intro i o ⟨h1, h2, h3⟩
    refine ⟨noTab, noTab_all, lands_of (round0 ..) ?_⟩
    have hx := getD_ok W_pos ol i
    have hy := getD_ok W_pos ol (i + 1)
    have em : (2 : Int) ^ (min ((s : Int)).toNat 64) = 2 ^ s := by rw [Int.toNat_natCast, Nat.min_eq_left (by omega)]
    have key : i < l.length → ∀ d, d = (l.getD i 0 + 4294967296 * l.getD (i + 1) 0) / 2 ^ s % 4294967296 → (o.set i d).take (i + 1) = digN 4294967296 (i + 1) (val 4294967296 l / 2 ^ s) := by
      intro hi d hd
      rw [take_set_succ o d (by omega), h3, digN_succ W_pos, hd, digit_at ol hs hi]
    have eo : IntKind.u64.wrap ((BitVec.ofInt 64 (IntKind.u64.wrap (rd l (i : Int))) ||| BitVec.ofInt 64 (IntKind.u64.wrap (IntKind.u64.wrap (rd l ((i + 1 : Nat) : Int)) * 2 ^ 32))).toNat : Int) = l.getD i 0 + 4294967296 * l.getD (i + 1) 0 := by
      rw [rd_toNat, rd_toNat, Int.toNat_natCast, Int.toNat_natCast, wu64 hx.1 (by omega), wu64 hy.1 (by omega), wu64 (n := l.getD (i + 1) 0 * 2 ^ 32) (by omega) (by omega), or64 32 hx.1 (by omega) ⟨l.getD (i + 1) 0, hy.1, by rw [Int.mul_comm]⟩ (by omega)]
      omega
    rw [em]
    simp only [lands_bif, lands_some, lands_none, Turns1, Turns2, Turns3, Turns4, Turns5, Turns6, Turns7, Turns8, eq_bif, Option.some.injEq, reduceCtorEq, cond_true, cond_false, Bool.eq_false_iff, ne_eq, inB_iff, decide_eq_true_eq, Bool.and_eq_true, Bool.or_eq_true, Bool.not_eq_true', beq_iff_eq, bne_iff_ne, true_and, and_true, true_implies, implies_true, not_true_eq_false, not_false_eq_true, false_implies, few_iff, wi_succ (show i < 4611686018427387904 by omega), eo, Int.fdiv_eq_ediv_of_nonneg _ (show (0 : Int) ≤ 2 ^ s by omega), wu32_mod]
    simp only [Int.toNat_natCast]
    repeat' (first | apply And.intro | intro _)
    all_goals try omega
    · exact ⟨i + 1, _, rfl, ⟨by omega, by rw [List.length_set]; exact h2, key (by omega) _ rfl⟩, by omega⟩
    · refine ⟨i + 1, _, rfl, ⟨by omega, by rw [List.length_set]; exact h2, key (by omega) _ ?_⟩, by omega⟩
      rw [getD_none (show l.length ≤ i + 1 by omega), rd_toNat, Int.toNat_natCast, wu64 hx.1 (by omega), Int.mul_zero, Int.add_zero]
    · obtain rfl : i = l.length := by omega
      exact ⟨_, _, rfl, h2, h3⟩
  · exact ⟨by omega, by simp, rfl⟩
end Right
theorem meets_right : Meets Try.prog 91 ansRight := by
  refine meets_fn noOrc_ok Try.f91 Try.func91 (by kernel_rfl) (fun args r h => ?_)
  unfold ansRight at h
  split at h
  · rename_i l sh
    simp only [Option.some.injEq, Prod.mk.injEq, Bool.and_eq_true, few_iff, decide_eq_true_eq] at h
    obtain ⟨⟨⟨⟨hl, ol⟩, s1⟩, s2⟩, rfl⟩ := h
    obtain ⟨s, rfl⟩ := Int.eq_ofNat_of_zero_le s1
    obtain ⟨e1, S1, hE1, rfl, x, o, rfl, k1, k2⟩ := Right.loop l s ol hl (by omega)
    refine ⟨rfl, _, tabOf_all _, (Right.rest l s o x).trans ?_⟩
    simp only [lands_bif, lands_some, lands_none, Turns1, Turns2, Turns3, Turns4, Turns5, Turns6, Turns7, Turns8, eq_bif, Option.some.injEq, reduceCtorEq, cond_true, cond_false, Bool.eq_false_iff, ne_eq, inB_iff, decide_eq_true_eq, Bool.and_eq_true, Bool.or_eq_true, Bool.not_eq_true', beq_iff_eq, bne_iff_ne, true_and, and_true, true_implies, implies_true, not_true_eq_false, not_false_eq_true, false_implies, few_iff, Int.toNat_natCast, cdec_true hE1]
    rw [List.take_of_length_le (by omega)] at k2
    rw [show o = rightL l s by rw [k2, rightL, Int.toNat_natCast]]
    repeat' (first | apply And.intro | intro _)
    all_goals first | omega | trivial
  · cases h
end Go.Abs
end
section
/- One digit of a quotient: plain mathematics. -/
namespace Go.Abs
open Go.Dig
namespace KnuthD
/-- The guess is never less than the digit. -/
theorem ge_first {B P U V q v1 v2 Vl s2 top Ul : Int} (hP : 1 ≤ P) (hB : 0 < B) (hq : 0 ≤ q) (h : q * V ≤ U) (hV : V = Vl + P * (v2 + B * v1)) (hVl : 0 ≤ Vl) (hU : U = Ul + P * (s2 + B * top)) (hUl : Ul < P) : q * (v2 + B * v1) ≤ s2 + B * top := by
  refine Int.not_lt.1 (fun hlt => ?_)
  have h1 : q * V = q * Vl + P * (q * (v2 + B * v1)) := by rw [hV]; grind
  have h2 : 0 ≤ q * Vl := Int.mul_nonneg hq hVl
  have h3 : P * (s2 + B * top + 1) ≤ P * (q * (v2 + B * v1)) := Int.mul_le_mul_of_nonneg_left (by omega) (by omega)
  rw [Int.mul_add, Int.mul_one] at h3
  omega
theorem ge_init {B q v1 v2 s2 top : Int} (hB : 0 < B) (hq : 0 ≤ q) (hv2 : 0 ≤ v2) (hs2 : s2 < B) (h : q * (v2 + B * v1) ≤ s2 + B * top) : q * v1 ≤ top := by
  refine Int.not_lt.1 (fun hlt => ?_)
  have h1 : q * (v2 + B * v1) = q * v2 + B * (q * v1) := by grind
  have h2 : 0 ≤ q * v2 := Int.mul_nonneg hq hv2
  have h3 : B * (top + 1) ≤ B * (q * v1) := Int.mul_le_mul_of_nonneg_left (by omega) (by omega)
  rw [Int.mul_add, Int.mul_one] at h3
  omega
theorem ge_step {B q g r v1 v2 s2 top : Int} (hB : 0 < B) (hv1 : 0 < v1) (hv2 : 0 ≤ v2) (hg : g * v1 + r = top) (hgt : r * B + s2 < g * v2) (h : q * (v2 + B * v1) ≤ s2 + B * top) : q ≤ g - 1 := by
  refine Int.not_lt.1 (fun hlt => ?_)
  have h1 : g * (v2 + B * v1) ≤ q * (v2 + B * v1) := Int.mul_le_mul_of_nonneg_right (by omega) (by have := Int.mul_pos hB hv1; omega)
  have h2 : g * (v2 + B * v1) = g * v2 + B * (g * v1) := by grind
  have h3 : B * (g * v1) = B * top - r * B := by rw [← hg]; grind
  omega
/-- Where it breaks off. -/
theorem le_break {B P U V g r v1 v2 Vl s2 top Ul : Int} (hP : 1 ≤ P) (hB : 0 < B) (hg0 : 0 ≤ g) (hgB : g ≤ B) (hg : g * v1 + r = top) (hr : B ≤ r) (hV : V = Vl + P * (v2 + B * v1)) (hVl : Vl < P) (hv2 : v2 < B) (hU : U = Ul + P * (s2 + B * top)) (hUl : 0 ≤ Ul) (hs2 : 0 ≤ s2) : g * V ≤ U := by
  have h1 : P * v2 ≤ P * (B - 1) := Int.mul_le_mul_of_nonneg_left (by omega) (by omega)
  have h2 : V ≤ P * (B * (v1 + 1)) := by
    have : P * (B * (v1 + 1)) = P * (B * v1) + P * B := by grind
    rw [hV, Int.mul_add]
    rw [Int.mul_sub, Int.mul_one] at h1
    omega
  have h3 : g * V ≤ g * (P * (B * (v1 + 1))) := Int.mul_le_mul_of_nonneg_left h2 hg0
  have h4 : g * (P * (B * (v1 + 1))) = P * (B * (g * v1 + g)) := by grind
  have h5 : P * (B * (g * v1 + g)) ≤ P * (B * top) := Int.mul_le_mul_of_nonneg_left (Int.mul_le_mul_of_nonneg_left (by omega) (by omega)) (by omega)
  have h6 : 0 ≤ P * s2 := Int.mul_nonneg (by omega) hs2
  rw [Int.mul_add] at hU
  omega
/-- Where it ends of itself. -/
theorem le_exit {B P U V g r v1 v2 Vl s2 top Ul : Int} (hP : 1 ≤ P) (hB : 0 < B) (hg0 : 0 ≤ g) (hgB : g < B) (hg : g * v1 + r = top) (hle : g * v2 ≤ r * B + s2) (hv1 : 1 ≤ v1) (hv2 : 0 ≤ v2) (hV : V = Vl + P * (v2 + B * v1)) (hVl0 : 0 ≤ Vl) (hVl : Vl < P) (hU : U = Ul + P * (s2 + B * top)) (hUl : 0 ≤ Ul) : g * V < U + V := by
  have h1 : g * (v2 + B * v1) ≤ s2 + B * top := by
    have e1 : g * (v2 + B * v1) = g * v2 + B * (g * v1) := by grind
    have e2 : B * (g * v1) = B * top - r * B := by rw [← hg]; grind
    omega
  have h2 : P * (g * (v2 + B * v1)) ≤ P * (s2 + B * top) := Int.mul_le_mul_of_nonneg_left h1 (by omega)
  have h3 : g * Vl ≤ B * P - P := by
    have : g * Vl ≤ (B - 1) * P := Int.mul_le_mul (by omega) (by omega) hVl0 (by omega)
    rw [Int.sub_mul, Int.one_mul] at this
    exact this
  have h4 : P * (B * 1) ≤ P * (B * v1) := Int.mul_le_mul_of_nonneg_left (Int.mul_le_mul_of_nonneg_left hv1 (by omega)) (by omega)
  have h5 : 0 ≤ P * v2 := Int.mul_nonneg (by omega) hv2
  have h6 : g * V = g * Vl + P * (g * (v2 + B * v1)) := by rw [hV]; grind
  have h7 : V = Vl + P * v2 + P * (B * v1) := by rw [hV]; grind
  rw [Int.mul_one, Int.mul_comm P B] at h4
  omega
end KnuthD
theorem seg_val (B : Int) (l : List Int) (j m : Nat) (h : j + m ≤ l.length) : val B l = val B (l.take j) + B ^ j * val B (seg l j m) + B ^ (j + m) * val B (l.drop (j + m)) := by
  have e : l = l.take j ++ (seg l j m ++ l.drop (j + m)) := by
    unfold seg
    rw [← List.drop_drop, List.take_append_drop, List.take_append_drop]
  conv => lhs; rw [e]
  rw [val_append, val_append, List.length_take, Nat.min_eq_left (by omega)]
  unfold seg
  rw [List.length_take, List.length_drop, Nat.min_eq_left (by omega), Int.mul_add, Int.pow_add, Int.mul_assoc]
  omega
theorem seg_length {l : List Int} {j m : Nat} (h : j + m ≤ l.length) : (seg l j m).length = m := by
  unfold seg; rw [List.length_take, List.length_drop]; omega
theorem okB_seg {B : Int} {l : List Int} (h : okB B l = true) (j m : Nat) : okB B (seg l j m) = true := okB_take (okB_drop h j) m
theorem seg_getD (l : List Int) {j m i : Nat} (h : i < m) : (seg l j m).getD i 0 = l.getD (j + i) 0 := by
  unfold seg
  rw [List.getD_eq_getElem?_getD, List.getElem?_take, if_pos h, List.getElem?_drop, List.getD_eq_getElem?_getD]
/-- The highest two and three digits. -/
theorem val_top2 (B : Int) (l : List Int) {n : Nat} (hl : l.length = n + 2) : val B l = val B (l.take n) + B ^ n * (l.getD n 0 + B * l.getD (n + 1) 0) := by
  have h1 : val B l = val B (l.take (n + 2)) := by rw [List.take_of_length_le (by omega)]
  rw [h1, val_take_succ, val_take_succ, Int.pow_succ, Int.mul_add, Int.mul_assoc]
  omega
theorem val_top3 (B : Int) (l : List Int) {n : Nat} (hl : l.length = n + 3) : val B l = val B (l.take n) + B ^ n * (l.getD n 0 + B * (l.getD (n + 2) 0 * B + l.getD (n + 1) 0)) := by
  have h1 : val B l = val B (l.take (n + 3)) := by rw [List.take_of_length_le (by omega)]
  rw [h1, val_take_succ, val_take_succ, val_take_succ, Int.pow_succ, Int.pow_succ]
  grind
end Go.Abs
end
section
/- What math/bits' functions answer. -/
namespace Go.Abs
open Go.Proofs Go.Dig
theorem meets_add32 : Meets Try.prog 103 ansAdd32 := by
  refine meets_fn noOrc_ok Try.f103 Try.func103 (by kernel_rfl) (fun args r h => ?_)
  unfold ansAdd32 at h
  split at h
  · rename_i x y b
    simp only [Option.some.injEq, Prod.mk.injEq, Bool.and_eq_true, decide_eq_true_eq] at h
    obtain ⟨⟨⟨⟨⟨⟨x1, x2⟩, y1⟩, y2⟩, b1⟩, b2⟩, rfl⟩ := h
    refine ⟨rfl, _, noTab_all, (Add32.rest x y b).trans ?_⟩
    rw [wu64 x1 (by omega), wu64 y1 (by omega), wu64 b1 (by omega), wu64 (n := x + y) (by omega) (by omega), wu64 (n := x + y + b) (by omega) (by omega), fdiv32, wu32_mod, wu32_mod]
    have : (x + y + b) / 4294967296 % 4294967296 = b2i (decide (4294967296 ≤ x + y + b)) := by
      unfold b2i
      by_cases h : 4294967296 ≤ x + y + b
      · rw [decide_eq_true h]; simp only [cond_true]; omega
      · rw [decide_eq_false h]; simp only [cond_false]; omega
    rw [this]
  · cases h
theorem ofInt_wrap (Z : BitVec 32) : BitVec.ofInt 32 (IntKind.u32.wrap (Z.toNat : Int)) = Z := by
  have := Z.isLt
  rw [wu32 (by omega) (by omega), BitVec.ofInt_natCast, BitVec.ofNat_toNat, BitVec.setWidth_eq]
theorem msb_ofInt {x : Int} (h0 : 0 ≤ x) (h1 : x < 4294967296) : (BitVec.ofInt 32 x).msb = decide (2147483648 ≤ x) := by
  obtain ⟨x, rfl⟩ := Int.eq_ofNat_of_zero_le h0
  rw [BitVec.msb_eq_decide, BitVec.ofInt_natCast, BitVec.toNat_ofNat, Nat.mod_eq_of_lt (by omega)]
  exact decide_eq_decide.2 (by omega)
theorem top_bit (Z : BitVec 32) : (IntKind.u32.wrap (Z.toNat : Int)).fdiv (2 ^ 31) = b2i Z.msb := by
  have := Z.isLt
  rw [wu32 (by omega) (by omega), Int.fdiv_eq_ediv_of_nonneg _ (by decide), BitVec.msb_eq_decide]
  unfold b2i
  by_cases h : 2 ^ (32 - 1) ≤ Z.toNat
  · rw [decide_eq_true h]; simp only [cond_true]; omega
  · rw [decide_eq_false h]; simp only [cond_false]; omega
theorem meets_sub32 : Meets Try.prog 102 ansSub32 := by
  refine meets_fn noOrc_ok Try.f102 Try.func102 (by kernel_rfl) (fun args r h => ?_)
  unfold ansSub32 at h
  split at h
  · rename_i x y b
    simp only [Option.some.injEq, Prod.mk.injEq, Bool.and_eq_true, decide_eq_true_eq] at h
    obtain ⟨⟨⟨⟨⟨⟨x1, x2⟩, y1⟩, y2⟩, b1⟩, b2⟩, rfl⟩ := h
    refine ⟨rfl, _, noTab_all, (Sub32.rest x y b).trans ?_⟩
    have ed : IntKind.u32.wrap (IntKind.u32.wrap (x - y) - b) = (x - y - b) % 4294967296 := by rw [wu32_mod, wu32_mod]; omega
    have em : (bif false then (-1 : Int) else IntKind.u32.max) = 4294967295 := rfl
    rw [ed, em]
    generalize hd : (x - y - b) % 4294967296 = d
    have d1 : 0 ≤ d := by omega
    have d2 : d < 4294967296 := by omega
    simp only [ofInt_wrap, top_bit, BitVec.msb_or, BitVec.msb_and, BitVec.msb_xor]
    rw [msb_ofInt x1 x2, msb_ofInt y1 y2, msb_ofInt d1 d2, msb_ofInt (by omega) (by omega)]
    have : (((decide ((2147483648 : Int) ≤ 4294967295) ^^ decide (2147483648 ≤ x)) && decide (2147483648 ≤ y)) || ((decide ((2147483648 : Int) ≤ 4294967295) ^^ (decide (2147483648 ≤ x) ^^ decide (2147483648 ≤ y))) && decide (2147483648 ≤ d))) = decide (x < y + b) := by
      rw [show decide ((2147483648 : Int) ≤ 4294967295) = true from rfl]
      by_cases hx : 2147483648 ≤ x <;> by_cases hy : 2147483648 ≤ y <;> by_cases hdd : 2147483648 ≤ d <;> by_cases hl : x < y + b <;> simp [hx, hy, hdd, hl] <;> omega
    rw [this]
  · cases h
theorem blen_eq {n : Int} (h : 0 < n) {k : Nat} (h1 : 2 ^ k ≤ n) (h2 : n < 2 ^ (k + 1)) : blen n = (k : Int) + 1 := by
  obtain ⟨n, rfl⟩ := Int.eq_ofNat_of_zero_le (Int.le_of_lt h)
  unfold blen
  rw [if_neg (by omega), Int.toNat_natCast]
  have e1 : ((2 ^ k : Nat) : Int) = 2 ^ k := Int.natCast_pow ..
  have e2 : ((2 ^ (k + 1) : Nat) : Int) = 2 ^ (k + 1) := Int.natCast_pow ..
  have : n.log2 = k := (Nat.log2_eq_iff (by omega)).2 ⟨by omega, by omega⟩
  rw [this]
theorem blen_pow {n : Int} (h : 0 < n) : 0 < blen n ∧ 2 ^ (blen n - 1).toNat ≤ n ∧ n < 2 ^ (blen n).toNat := by
  obtain ⟨n, rfl⟩ := Int.eq_ofNat_of_zero_le (Int.le_of_lt h)
  unfold blen
  rw [if_neg (by omega), Int.toNat_natCast]
  have hn : n ≠ 0 := by omega
  obtain ⟨h1, h2⟩ := (Nat.log2_eq_iff hn).1 rfl
  have e1 : ((2 ^ n.log2 : Nat) : Int) = 2 ^ n.log2 := Int.natCast_pow ..
  have e2 : ((2 ^ (n.log2 + 1) : Nat) : Int) = 2 ^ (n.log2 + 1) := Int.natCast_pow ..
  refine ⟨by omega, ?_, ?_⟩
  · rw [show ((n.log2 : Int) + 1 - 1).toNat = n.log2 by omega]; omega
  · rw [show ((n.log2 : Int) + 1).toNat = n.log2 + 1 by omega]; omega
theorem blen_shift {n : Int} (k : Nat) (h : 2 ^ k ≤ n) : blen n = k + blen (n / 2 ^ k) := by
  have hp : (0 : Int) < 2 ^ k := Int.pow_pos (by decide)
  have hq : 1 ≤ n / 2 ^ k := (Int.le_ediv_iff_mul_le hp).2 (by omega)
  obtain ⟨h1, h2, h3⟩ := blen_pow (show 0 < n / 2 ^ k by omega)
  generalize hb : blen (n / 2 ^ k) = b at *
  have h4 : (2 : Int) ^ ((b - 1).toNat) * 2 ^ k ≤ n := (Int.le_ediv_iff_mul_le hp).1 h2
  have h5 : n < 2 ^ b.toNat * 2 ^ k := (Int.ediv_lt_iff_lt_mul hp).1 h3
  rw [← Int.pow_add] at h4 h5
  rw [blen_eq (k := (b - 1).toNat + k) (by omega) h4 (by rw [show (b - 1).toNat + k + 1 = b.toNat + k by omega]; exact h5)]
  omega
theorem len32_of (n : Int) (h0 : 0 ≤ n) (h1 : n < 4294967296) (tab : ByteArray) (ht : ∀ x : Nat, x < 256 → bt tab (x : Int) = blen x) :
    (bif decide (n ≥ 65536) then (bif decide (n.fdiv (2 ^ 16) ≥ 256) then (bif inB (IntKind.u8.wrap ((n.fdiv (2 ^ 16)).fdiv (2 ^ 8))) 256 then some (Res.val (.int .i64 (IntKind.i64.wrap (IntKind.i64.wrap (16 + 8) + IntKind.i64.wrap (bt tab (IntKind.u8.wrap ((n.fdiv (2 ^ 16)).fdiv (2 ^ 8)))))))) else none) else (bif inB (IntKind.u8.wrap (n.fdiv (2 ^ 16))) 256 then some (Res.val (.int .i64 (IntKind.i64.wrap (16 + IntKind.i64.wrap (bt tab (IntKind.u8.wrap (n.fdiv (2 ^ 16)))))))) else none)) else (bif decide (n ≥ 256) then (bif inB (IntKind.u8.wrap (n.fdiv (2 ^ 8))) 256 then some (Res.val (.int .i64 (IntKind.i64.wrap (IntKind.i64.wrap (0 + 8) + IntKind.i64.wrap (bt tab (IntKind.u8.wrap (n.fdiv (2 ^ 8)))))))) else none) else (bif inB (IntKind.u8.wrap n) 256 then some (Res.val (.int .i64 (IntKind.i64.wrap (0 + IntKind.i64.wrap (bt tab (IntKind.u8.wrap n)))))) else none))) = some (Res.val (.int .i64 (blen n))) := by
  have w8 : ∀ x : Int, 0 ≤ x → x < 256 → IntKind.u8.wrap x = x := fun x a b => IntWalk.u8_in x ⟨a, by omega⟩
  have e16 : n.fdiv (2 ^ 16) = n / 65536 := Int.fdiv_eq_ediv_of_nonneg n (by decide)
  have e8 : n.fdiv (2 ^ 8) = n / 256 := Int.fdiv_eq_ediv_of_nonneg n (by decide)
  have e24 : (n / 65536).fdiv (2 ^ 8) = n / 65536 / 256 := Int.fdiv_eq_ediv_of_nonneg _ (by decide)
  have hb : ∀ x : Int, 0 ≤ x → x < 256 → bt tab x = blen x ∧ 0 ≤ blen x ∧ blen x ≤ 8 := by
    intro x hx0 hx1
    obtain ⟨x, rfl⟩ := Int.eq_ofNat_of_zero_le hx0
    refine ⟨ht x (by omega), ?_⟩
    have : ((List.range 256).all fun x => decide (0 ≤ blen (x : Nat)) && decide (blen (x : Nat) ≤ 8)) = true := by kernel_rfl
    have := List.all_eq_true.1 this x (List.mem_range.2 (by omega))
    simpa using this
  rw [e16, e8, e24, show IntKind.i64.wrap (16 + 8) = 24 from rfl, show IntKind.i64.wrap (0 + 8) = 8 from rfl]
  by_cases c1 : n ≥ 65536
  · rw [decide_eq_true c1]
    have s1 := blen_shift (n := n) 16 (by omega)
    have s1 : blen n = 16 + blen (n / 65536) := s1
    by_cases c2 : n / 65536 ≥ 256
    · have s2 := blen_shift (n := n / 65536) 8 (by omega)
      have s2 : blen (n / 65536) = 8 + blen (n / 65536 / 256) := s2
      obtain ⟨q1, q2, q3⟩ := hb (n / 65536 / 256) (by omega) (by omega)
      rw [decide_eq_true c2]
      simp only [cond_true]
      rw [w8 (n / 65536 / 256) (by omega) (by omega), bT (inB_iff.2 (by omega)), q1, w64 (n := blen (n / 65536 / 256)) (by omega) (by omega), w64 (by omega) (by omega), s1, s2]
      congr 3
      omega
    · obtain ⟨q1, q2, q3⟩ := hb (n / 65536) (by omega) (by omega)
      rw [decide_eq_false c2]
      simp only [cond_true, cond_false]
      rw [w8 (n / 65536) (by omega) (by omega), bT (inB_iff.2 (by omega)), q1, w64 (n := blen (n / 65536)) (by omega) (by omega), w64 (by omega) (by omega), s1]
  · rw [decide_eq_false c1]
    by_cases c2 : n ≥ 256
    · have s2 := blen_shift (n := n) 8 (by omega)
      have s2 : blen n = 8 + blen (n / 256) := s2
      obtain ⟨q1, q2, q3⟩ := hb (n / 256) (by omega) (by omega)
      rw [decide_eq_true c2]
      simp only [cond_true, cond_false]
      rw [w8 (n / 256) (by omega) (by omega), bT (inB_iff.2 (by omega)), q1, w64 (n := blen (n / 256)) (by omega) (by omega), w64 (by omega) (by omega), s2]
    · obtain ⟨q1, q2, q3⟩ := hb n (by omega) (by omega)
      rw [decide_eq_false c2]
      simp only [cond_false]
      rw [w8 n (by omega) (by omega), bT (inB_iff.2 (by omega)), q1, w64 (n := blen n) (by omega) (by omega), w64 (by omega) (by omega), Int.zero_add]
theorem meets_len32 : Meets Try.prog 101 ansLen32 := by
  refine meets_fn noOrc_ok Try.f101 Try.func101 (by kernel_rfl) (fun args r h => ?_)
  unfold ansLen32 at h
  split at h
  · rename_i n
    simp only [Option.some.injEq, Prod.mk.injEq, Bool.and_eq_true, decide_eq_true_eq] at h
    obtain ⟨⟨h1, h2⟩, rfl⟩ := h
    refine ⟨rfl, _, noTab_all, (Len32.rest n).trans (len32_of n h1 h2 _ (fun x hx => ?_))⟩
    refine of_decide_eq_true (List.all_eq_true.1 (show ((List.range 256).all fun x => decide (bt _ (x : Nat) = blen (x : Nat))) = true from ?_) x (List.mem_range.2 hx))
    kernel_rfl
  · cases h
theorem meets_lz32 : Meets Try.prog 88 ansLz32 := by
  refine meets_fn (orc_ok (l := Lz32.ans) ⟨meets_len32, trivial⟩) Try.f88 Try.func88 (by kernel_rfl) (fun args r h => ?_)
  unfold ansLz32 at h
  split at h
  · rename_i n
    simp only [Option.some.injEq, Prod.mk.injEq, Bool.and_eq_true, decide_eq_true_eq] at h
    obtain ⟨⟨h1, h2⟩, rfl⟩ := h
    refine ⟨rfl, _, noTab_all, (Lz32.rest n).trans ?_⟩
    have hb : 0 ≤ blen n ∧ blen n ≤ 32 := by
      by_cases h : n = 0
      · rw [h]; decide
      · obtain ⟨b1, b2, b3⟩ := blen_pow (show 0 < n by omega)
        refine ⟨by omega, ?_⟩
        refine Int.not_lt.1 (fun hgt => ?_)
        have : (2 : Int) ^ 32 ≤ 2 ^ (blen n - 1).toNat := by
          obtain ⟨k, hk⟩ : ∃ k, (blen n - 1).toNat = 32 + k := ⟨(blen n - 1).toNat - 32, by omega⟩
          rw [hk, Int.pow_add]
          have : (0 : Int) < 2 ^ k := Int.pow_pos (by decide)
          have h6 : (2 : Int) ^ 32 * 1 ≤ 2 ^ 32 * 2 ^ k := Int.mul_le_mul_of_nonneg_left (by omega) (by decide)
          omega
        have e : (2 : Int) ^ 32 = 4294967296 := rfl
        omega
    rw [decide_eq_true h1, decide_eq_true h2, w64 (by omega) (by omega)]
    rfl
  · cases h
end Go.Abs
end
section
/- What arith.digit answers. -/
namespace Go.Abs
open Go.Proofs Go.Dig
namespace Digit
/-- What is asked of the row, the divisor and the place. -/
structure Pre (u v : List Int) (j n : Nat) : Prop where
  ou : okB 4294967296 u = true
  ov : okB 4294967296 v = true
  lu : u.length ≤ 100000
  hn : v.length = n + 2
  hj : j + (n + 3) ≤ u.length
  top : 2147483648 ≤ v.getD (n + 1) 0
  lt : val 4294967296 (seg u j (n + 3)) < 4294967296 * val 4294967296 v
abbrev U (u : List Int) (j n : Nat) : Int := val 4294967296 (seg u j (n + 3))
abbrev V (v : List Int) : Int := val 4294967296 v
abbrev tp (u : List Int) (j n : Nat) : Int := u.getD (j + (n + 2)) 0 * 4294967296 + u.getD (j + (n + 1)) 0
section
variable {u v : List Int} {j n : Nat}
theorem Pre.V_eq (h : Pre u v j n) : V v = val 4294967296 (v.take n) + 4294967296 ^ n * (v.getD n 0 + 4294967296 * v.getD (n + 1) 0) := val_top2 _ _ h.hn
theorem Pre.U_eq (h : Pre u v j n) : U u j n = val 4294967296 ((seg u j (n + 3)).take n) + 4294967296 ^ n * (u.getD (j + n) 0 + 4294967296 * tp u j n) := by
  unfold U tp
  rw [val_top3 4294967296 (seg u j (n + 3)) (seg_length h.hj), seg_getD u (by omega : n < n + 3), seg_getD u (by omega : n + 1 < n + 3), seg_getD u (by omega : n + 2 < n + 3)]
theorem Pre.V_lo (h : Pre u v j n) : 0 ≤ val 4294967296 (v.take n) ∧ val 4294967296 (v.take n) < 4294967296 ^ n := by
  have h1 := val_lt W_pos (okB_take h.ov n)
  rw [List.length_take, Nat.min_eq_left (by have := h.hn; omega)] at h1
  exact ⟨val_nonneg W_pos (okB_take h.ov n), h1⟩
theorem Pre.U_lo (h : Pre u v j n) : 0 ≤ val 4294967296 ((seg u j (n + 3)).take n) ∧ val 4294967296 ((seg u j (n + 3)).take n) < 4294967296 ^ n := by
  have ok := okB_take (okB_seg h.ou j (n + 3)) n
  have h1 := val_lt W_pos ok
  rw [List.length_take, seg_length h.hj, Nat.min_eq_left (by omega)] at h1
  exact ⟨val_nonneg W_pos ok, h1⟩
theorem pow_pos1 (n : Nat) : (1 : Int) ≤ 4294967296 ^ n := by
  have : (0 : Int) < 4294967296 ^ n := Int.pow_pos (by decide)
  omega
theorem Pre.V_pos (h : Pre u v j n) : 0 < V v := by
  rw [h.V_eq]
  have h1 := h.V_lo.1
  have h2 := h.top
  have h3 := (getD_ok W_pos h.ov n).1
  have := Int.mul_pos (show (0 : Int) < 4294967296 ^ n by have := pow_pos1 n; omega) (show 0 < v.getD n 0 + 4294967296 * v.getD (n + 1) 0 by omega)
  omega
theorem Pre.q_le (h : Pre u v j n) : 0 ≤ U u j n / V v ∧ U u j n / V v * V v ≤ U u j n ∧ U u j n < (U u j n / V v + 1) * V v := by
  have h0 : 0 ≤ U u j n := val_nonneg W_pos (okB_seg h.ou _ _)
  have h1 := h.V_pos
  refine ⟨Int.ediv_nonneg h0 (by omega), Int.ediv_mul_le _ (by omega), ?_⟩
  exact Int.lt_mul_of_ediv_lt h1 (by omega)
theorem Pre.q_lt (h : Pre u v j n) : U u j n / V v < 4294967296 := Int.ediv_lt_of_lt_mul h.V_pos h.lt
/-- The guess as it goes down. -/
def InvG (u v : List Int) (j n : Nat) (g r : Int) : Prop :=
  0 ≤ g ∧ g ≤ 4294967297 ∧ g * v.getD (n + 1) 0 + r = tp u j n ∧ 0 ≤ r ∧ r < 4294967296 ∧ U u j n / V v ≤ g
def PostG (u v : List Int) (j n : Nat) (g : Int) : Prop := 0 ≤ g ∧ g < 4294967296 ∧ U u j n / V v ≤ g ∧ g * V v < U u j n + V v
theorem Pre.dec (h : Pre u v j n) {g r : Int} (hI : InvG u v j n g r) (hg : U u j n / V v ≤ g - 1) :
    (r + v.getD (n + 1) 0 < 4294967296 → InvG u v j n (g - 1) (r + v.getD (n + 1) 0)) ∧ (4294967296 ≤ r + v.getD (n + 1) 0 → PostG u v j n (g - 1)) := by
  obtain ⟨g0, g1, g2, g3, g4, g5⟩ := hI
  have ht := h.top
  have hv1 := getD_ok W_pos h.ov (n + 1)
  have e : (g - 1) * v.getD (n + 1) 0 + (r + v.getD (n + 1) 0) = tp u j n := by rw [Int.sub_mul, Int.one_mul]; omega
  have hq := h.q_le.1
  refine ⟨fun hr => ⟨by omega, by omega, e, by omega, hr, hg⟩, fun hr => ?_⟩
  have hle := KnuthD.le_break (pow_pos1 n) W_pos (show 0 ≤ g - 1 by omega) (by omega) e hr h.V_eq h.V_lo.2 (getD_ok W_pos h.ov n).2 h.U_eq h.U_lo.1 (getD_ok W_pos h.ou (j + n)).1
  have hV := h.V_pos
  refine ⟨by omega, ?_, hg, by omega⟩
  refine Int.not_le.1 (fun hge => ?_)
  have h1 : 4294967296 * V v ≤ (g - 1) * V v := Int.mul_le_mul_of_nonneg_right hge (by omega)
  have h2 : U u j n < 4294967296 * V v := h.lt
  omega
theorem Pre.ix (h : Pre u v j n) : IntKind.i64.wrap ((j : Int) + ((n + 2 : Nat) : Int)) = ((j + (n + 2) : Nat) : Int) ∧ IntKind.i64.wrap (((j + (n + 2) : Nat) : Int) - 1) = ((j + (n + 1) : Nat) : Int) ∧ IntKind.i64.wrap (((j + (n + 2) : Nat) : Int) - 2) = ((j + n : Nat) : Int) ∧ IntKind.i64.wrap (((n + 2 : Nat) : Int) - 1) = ((n + 1 : Nat) : Int) ∧ IntKind.i64.wrap (((n + 2 : Nat) : Int) - 2) = (n : Int) := by
  have h1 := h.hj
  have h2 := h.lu
  refine ⟨?_, ?_, ?_, ?_, ?_⟩ <;> rw [w64 (by omega) (by omega)] <;> omega
theorem guess (h : Pre u v j n) (g r : Int) (hI : InvG u v j n g r) :
    ∃ e S1, Ends T orc L0 D0 (st0 v j (n + 2 : Nat) u g r) e S1 ∧ (e = .exit 0 ∧ ∃ g r, S1 = st0 v j (n + 2 : Nat) u g r ∧ PostG u v j n g) := by
  refine loop_inv2 (fun g r => st0 v j (n + 2 : Nat) u g r) (fun g r => InvG u v j n g r) (fun g r => g.toNat)
    (fun e S1 => e = .exit 0 ∧ ∃ g r, S1 = st0 v j (n + 2 : Nat) u g r ∧ PostG u v j n g) isL0 ?_ g r hI
  intro g r hI
  obtain ⟨g0, g1, g2, g3, g4, g5⟩ := id hI
  have hq := h.q_le.1
  have hql := h.q_lt
  have hv1 := getD_ok W_pos h.ov (n + 1)
  have hv2 := getD_ok W_pos h.ov n
  have hu2 := getD_ok W_pos h.ou (j + n)
  have ht := h.top
  have hn := h.hn
  have hj := h.hj
  obtain ⟨i1, i2, i3, i4, i5⟩ := h.ix
  have hA := KnuthD.ge_first (pow_pos1 n) W_pos hq h.q_le.2.1 h.V_eq h.V_lo.1 h.U_eq h.U_lo.2
  refine ⟨noTab, noTab_all, lands_of (round0 ..) ?_⟩
  have eo : IntKind.u64.wrap ((BitVec.ofInt 64 (IntKind.u64.wrap (r * 2 ^ 32)) ||| BitVec.ofInt 64 (IntKind.u64.wrap (rd u ((j + n : Nat) : Int)))).toNat : Int) = r * 4294967296 + u.getD (j + n) 0 := by
    rw [rd_toNat, Int.toNat_natCast, wu64 hu2.1 (by omega), wu64 (n := r * 2 ^ 32) (by omega) (by omega), or64' 32 hu2.1 (by omega) ⟨r, g3, by rw [Int.mul_comm]⟩ (by omega)]
    omega
  have e1 : IntKind.u64.wrap (rd v ((n + 1 : Nat) : Int)) = v.getD (n + 1) 0 := by rw [rd_toNat, Int.toNat_natCast, wu64 hv1.1 (by omega)]
  have e2 : IntKind.u64.wrap (rd v (n : Int)) = v.getD n 0 := by rw [rd_toNat, Int.toNat_natCast, wu64 hv2.1 (by omega)]
  simp only [lands_bif, lands_some, lands_none, Turns1, Turns2, Turns3, Turns4, Turns5, Turns6, Turns7, Turns8, eq_bif, Option.some.injEq, reduceCtorEq, cond_true, cond_false, Bool.eq_false_iff, ne_eq, inB_iff, decide_eq_true_eq, Bool.and_eq_true, Bool.or_eq_true, Bool.not_eq_true', beq_iff_eq, bne_iff_ne, true_and, and_true, true_implies, implies_true, not_true_eq_false, not_false_eq_true, false_implies, few_iff, i1, i2, i3, i4, i5, eo, e1, e2]
  have er : IntKind.u64.wrap (r + v.getD (n + 1) 0) = r + v.getD (n + 1) 0 := wu64 (by omega) (by omega)
  rw [er]
  have down : U u j n / V v ≤ g - 1 → (4294967296 ≤ r + v.getD (n + 1) 0 → ∃ g1 r1, st0 v j (n + 2 : Nat) u (IntKind.u64.wrap (g - 1)) (r + v.getD (n + 1) 0) = st0 v j (n + 2 : Nat) u g1 r1 ∧ PostG u v j n g1) ∧ (¬ 4294967296 ≤ r + v.getD (n + 1) 0 → ∃ u0 u1, st0 v j (n + 2 : Nat) u (IntKind.u64.wrap (g - 1)) (r + v.getD (n + 1) 0) = st0 v j (n + 2 : Nat) u u0 u1 ∧ InvG u v j n u0 u1 ∧ u0.toNat < g.toNat) := by
    intro hd
    obtain ⟨d1, d2⟩ := h.dec hI hd
    rw [wu64 (n := g - 1) (by omega) (by omega)]
    exact ⟨fun hr => ⟨_, _, rfl, d2 hr⟩, fun hr => ⟨_, _, rfl, d1 (by omega), by omega⟩⟩
  refine ⟨fun hg => ⟨fun _ => ?_, fun hx => hx (by omega)⟩, fun hg => ⟨fun _ => ⟨fun _ => ⟨fun hc => ⟨fun _ => ?_, fun hx => hx (by omega)⟩, fun hc => ?_⟩, fun hx => hx (by omega)⟩, fun hx => hx (by omega)⟩⟩
  · exact down (by omega)
  · have hm := mul_lt_W ⟨g0, by omega⟩ hv2
    rw [wu64 hm.1 (by omega)] at hc
    exact down (KnuthD.ge_step W_pos (by omega) hv2.1 g2 hc hA)
  · have hm := mul_lt_W ⟨g0, by omega⟩ hv2
    rw [wu64 hm.1 (by omega)] at hc
    refine ⟨_, _, rfl, g0, by omega, g5, ?_⟩
    exact KnuthD.le_exit (pow_pos1 n) W_pos g0 (by omega) g2 (by omega) (by omega) hv2.1 h.V_eq h.V_lo.1 h.V_lo.2 h.U_eq h.U_lo.1
/-- The row while it is made less. -/
def InvS (u v : List Int) (j n : Nat) (g : Int) (c b : Int) (i : Nat) (l : List Int) : Prop :=
  i ≤ n + 2 ∧ l.length = u.length ∧ okB 4294967296 l = true ∧ l.take j = u.take j ∧ l.drop (j + (n + 3)) = u.drop (j + (n + 3)) ∧ 0 ≤ c ∧ c < 4294967296 ∧ 0 ≤ b ∧ b ≤ 1 ∧
  val 4294967296 l = val 4294967296 u - 4294967296 ^ j * (g * val 4294967296 (v.take i)) + 4294967296 ^ (i + j) * (c + b)
theorem step_sub (A Q P L g w c b x y d c' b' lo Pk : Int) (h : L = A - Q * (g * w) + P * (c + b)) (hP : P = Q * Pk) (hlo : c + g * y = lo + 4294967296 * c') (hd : x - lo - b = d - 4294967296 * b') :
    L + P * (d - x) = A - Q * (g * (w + Pk * y)) + P * 4294967296 * (c' + b') := by
  have : d = x - lo - b + 4294967296 * b' := by omega
  have h2 : lo = c + g * y - 4294967296 * c' := by omega
  subst this
  subst h2
  subst hP
  grind
theorem set_same {l : List Int} {i m : Nat} {d : Int} (j : Nat) (h1 : j ≤ i) (h2 : i < j + m) : (l.set i d).take j = l.take j ∧ (l.set i d).drop (j + m) = l.drop (j + m) :=
  ⟨List.take_set_of_le h1, List.drop_set_of_lt h2⟩
theorem subLoop (h : Pre u v j n) (g r : Int) (hg : 0 ≤ g ∧ g < 4294967296) :
    ∃ e S1, Ends T orc L1 D1 (st1 v j (n + 2 : Nat) u g r 0 0 0 u) e S1 ∧ (e = .exit 2 ∧ ∃ c b x l, S1 = st1 v j (n + 2 : Nat) u g r c b x l ∧ InvS u v j n g c b (n + 2) l) := by
  refine loop_inv4 (fun c b (i : Nat) l => st1 v j (n + 2 : Nat) u g r c b i l) (fun c b i l => InvS u v j n g c b i l) (fun c b i l => n + 2 - i)
    (fun e S1 => e = .exit 2 ∧ ∃ c b x l, S1 = st1 v j (n + 2 : Nat) u g r c b x l ∧ InvS u v j n g c b (n + 2) l) isL1 ?_ 0 0 0 u ?_
  · intro c b i l hI
    obtain ⟨h1, h2, h3, h4, h5, h6, h7, h8, h9, h10⟩ := id hI
    have hn := h.hn
    have hj := h.hj
    have hlu := h.lu
    have hx := getD_ok W_pos h3 (i + j)
    have hy := getD_ok W_pos h.ov i
    have hp := mul_lt_W hg hy
    have ei : IntKind.i64.wrap ((i : Int) + (j : Int)) = ((i + j : Nat) : Int) := by rw [w64 (by omega) (by omega)]; omega
    refine ⟨noTab, noTab_all, lands_of (round1 ..) ?_⟩
    have e1 : IntKind.u64.wrap (c + IntKind.u64.wrap (g * IntKind.u64.wrap (rd v (i : Int)))) = c + g * v.getD i 0 := by
      rw [rd_toNat, Int.toNat_natCast, wu64 hy.1 (by omega), wu64 hp.1 (by omega), wu64 (by omega) (by omega)]
    rw [e1, ei]
    obtain ⟨t, ht⟩ : ∃ t, c + g * v.getD i 0 = t := ⟨_, rfl⟩
    rw [ht]
    simp only [lands_bif, lands_some, lands_none, Turns1, Turns2, Turns3, Turns4, Turns5, Turns6, Turns7, Turns8, eq_bif, Option.some.injEq, reduceCtorEq, cond_true, cond_false, Bool.eq_false_iff, ne_eq, inB_iff, decide_eq_true_eq, Bool.and_eq_true, Bool.or_eq_true, Bool.not_eq_true', beq_iff_eq, bne_iff_ne, true_and, and_true, true_implies, implies_true, not_true_eq_false, not_false_eq_true, false_implies, few_iff, LessMag.b2i_lt, wi_succ (show i < 4611686018427387904 by omega)]
    simp only [rd_toNat, Int.toNat_natCast, fdiv32, wu32_mod]
    repeat' (first | apply And.intro | intro _)
    all_goals try omega
    · obtain ⟨k1, k2⟩ := set_same (l := l) (d := (l.getD (i + j) 0 - t % 4294967296 - b) % 4294967296) j (show j ≤ i + j by omega) (show i + j < j + (n + 3) by omega)
      refine ⟨_, _, i + 1, _, rfl, ⟨by omega, by rw [List.length_set]; exact h2, okB_set h3 (by omega), k1.trans h4, k2.trans h5, by omega, by omega, by split <;> omega, by split <;> omega, ?_⟩, by omega⟩
      rw [val_set _ _ _ _ (by omega), val_take_succ, show i + 1 + j = i + j + 1 by omega, Int.pow_succ]
      exact step_sub _ _ _ _ _ _ _ _ _ _ _ _ _ (t % 4294967296) (4294967296 ^ i) h10 (by rw [Int.pow_add, Int.mul_comm]) (by omega) (by split <;> omega)
    · obtain rfl : i = n + 2 := by omega
      exact ⟨_, _, _, _, rfl, hI⟩
  · exact ⟨by omega, rfl, h.ou, rfl, rfl, by omega, by omega, by omega, by omega, by simp [val]⟩
/-- The row while the divisor is put back. -/
def InvA (u v : List Int) (j n : Nat) (A : Int) (b : Int) (i : Nat) (l : List Int) : Prop :=
  i ≤ n + 2 ∧ l.length = u.length ∧ okB 4294967296 l = true ∧ l.take j = u.take j ∧ l.drop (j + (n + 3)) = u.drop (j + (n + 3)) ∧ 0 ≤ b ∧ b ≤ 1 ∧
  val 4294967296 l = A + 4294967296 ^ j * val 4294967296 (v.take i) - 4294967296 ^ (i + j) * b
theorem step_add (A Q P L w b x y d b' Pk : Int) (h : L = A + Q * w - P * b) (hP : P = Q * Pk) (hd : x + y + b = d + 4294967296 * b') :
    L + P * (d - x) = A + Q * (w + Pk * y) - P * 4294967296 * b' := by
  have : d = x + y + b - 4294967296 * b' := by omega
  subst this
  subst hP
  grind
theorem b2i_le (x y : Int) : b2i (decide (x ≤ y)) = if x ≤ y then 1 else 0 := by
  unfold b2i; by_cases h : x ≤ y <;> simp [h]
theorem addLoop (h : Pre u v j n) (x2 x3 x7 x8 x9 : Int) (l1 l2 : List Int) (A : Int) (hl : l2.length = u.length) (ol : okB 4294967296 l2 = true) (ht : l2.take j = u.take j) (hd : l2.drop (j + (n + 3)) = u.drop (j + (n + 3))) (hA : val 4294967296 l2 = A) :
    ∃ e S1, Ends T orc L2 D2 (st2 v j (n + 2 : Nat) u x2 x3 x7 l1 x8 0 x9 0 l2) e S1 ∧ (e = .exit 4 ∧ ∃ b x l, S1 = st2 v j (n + 2 : Nat) u x2 x3 x7 l1 x8 b x9 x l ∧ InvA u v j n A b (n + 2) l) := by
  refine loop_inv3 (fun b (i : Nat) l => st2 v j (n + 2 : Nat) u x2 x3 x7 l1 x8 b x9 i l) (fun b i l => InvA u v j n A b i l) (fun b i l => n + 2 - i)
    (fun e S1 => e = .exit 4 ∧ ∃ b x l, S1 = st2 v j (n + 2 : Nat) u x2 x3 x7 l1 x8 b x9 x l ∧ InvA u v j n A b (n + 2) l) isL2 ?_ 0 0 l2 ?_
  · intro b i l hI
    obtain ⟨h1, h2, h3, h4, h5, h6, h7, h8⟩ := id hI
    have hn := h.hn
    have hj := h.hj
    have hlu := h.lu
    have hx := getD_ok W_pos h3 (i + j)
    have hy := getD_ok W_pos h.ov i
    have ei : IntKind.i64.wrap ((i : Int) + (j : Int)) = ((i + j : Nat) : Int) := by rw [w64 (by omega) (by omega)]; omega
    refine ⟨noTab, noTab_all, lands_of (round2 ..) ?_⟩
    rw [ei]
    simp only [lands_bif, lands_some, lands_none, Turns1, Turns2, Turns3, Turns4, Turns5, Turns6, Turns7, Turns8, eq_bif, Option.some.injEq, reduceCtorEq, cond_true, cond_false, Bool.eq_false_iff, ne_eq, inB_iff, decide_eq_true_eq, Bool.and_eq_true, Bool.or_eq_true, Bool.not_eq_true', beq_iff_eq, bne_iff_ne, true_and, and_true, true_implies, implies_true, not_true_eq_false, not_false_eq_true, false_implies, few_iff, b2i_le, wi_succ (show i < 4611686018427387904 by omega)]
    simp only [rd_toNat, Int.toNat_natCast]
    repeat' (first | apply And.intro | intro _)
    all_goals try omega
    · obtain ⟨k1, k2⟩ := set_same (l := l) (d := (l.getD (i + j) 0 + v.getD i 0 + b) % 4294967296) j (show j ≤ i + j by omega) (show i + j < j + (n + 3) by omega)
      refine ⟨_, i + 1, _, rfl, ⟨by omega, by rw [List.length_set]; exact h2, okB_set h3 (by omega), k1.trans h4, k2.trans h5, by split <;> omega, by split <;> omega, ?_⟩, by omega⟩
      rw [val_set _ _ _ _ (by omega), val_take_succ, show i + 1 + j = i + j + 1 by omega, Int.pow_succ]
      exact step_add _ _ _ _ _ _ _ _ _ _ (4294967296 ^ i) h8 (by rw [Int.pow_add, Int.mul_comm]) (by split <;> omega)
    · obtain rfl : i = n + 2 := by omega
      exact ⟨_, _, _, rfl, hI⟩
  · exact ⟨by omega, hl, ol, ht, hd, by omega, by omega, by simp [val, hA]⟩
theorem Pre.pre_j (h : Pre u v j n) : (0 : Int) < 4294967296 ^ j := Int.pow_pos (by decide)
/-- What a row that differs in the segment alone comes to. -/
theorem Pre.seg_of (h : Pre u v j n) {l : List Int} (hl : l.length = u.length) (ht : l.take j = u.take j) (hd : l.drop (j + (n + 3)) = u.drop (j + (n + 3))) {x : Int} (hx : val 4294967296 l = val 4294967296 u + 4294967296 ^ j * x) : val 4294967296 (seg l j (n + 3)) = U u j n + x := by
  have h1 : val 4294967296 u = val 4294967296 (u.take j) + 4294967296 ^ j * U u j n + 4294967296 ^ (j + (n + 3)) * val 4294967296 (u.drop (j + (n + 3))) := seg_val 4294967296 u j (n + 3) h.hj
  have h2 := seg_val 4294967296 l j (n + 3) (by have := h.hj; omega)
  rw [ht, hd] at h2
  have h3 : 4294967296 ^ j * val 4294967296 (seg l j (n + 3)) = 4294967296 ^ j * (U u j n + x) := by
    rw [Int.mul_add]; omega
  exact Int.eq_of_mul_eq_mul_left (by have := h.pre_j; omega) h3
theorem Pre.row (h : Pre u v j n) {l : List Int} (hl : l.length = u.length) (ol : okB 4294967296 l = true) (ht : l.take j = u.take j) (hd : l.drop (j + (n + 3)) = u.drop (j + (n + 3))) (hs : val 4294967296 (seg l j (n + 3)) = U u j n % V v) : l = digU u v j := by
  have hV := h.V_pos
  have hn := h.hn
  have hj := h.hj
  have e : l = l.take j ++ (seg l j (n + 3) ++ l.drop (j + (n + 3))) := by
    unfold seg
    rw [← List.drop_drop, List.take_append_drop, List.take_append_drop]
  rw [e, ht, hd]
  unfold digU
  rw [hn, show n + 2 + 1 = n + 3 by omega, show j + (n + 2) + 1 = j + (n + 3) by omega, List.append_assoc]
  congr 2
  exact dig_eq W_pos (okB_seg ol _ _) (seg_length (by omega)) hs
theorem finish (h : Pre u v j n) : ∃ tab, (∀ C, TabOk T orc tab C) ∧ runTM T orc tab Try.f90 [.ints .u32 u, .ints .u32 v, .int .i64 j, .int .i64 (n + 2 : Nat)] = some (.gave (.ints .u32 (digU u v j)) (.int .u32 (digQ u v j))) := by
  have hn := h.hn
  have hj := h.hj
  have hlu := h.lu
  obtain ⟨i1, i2, i3, i4, i5⟩ := h.ix
  have hv1 := getD_ok W_pos h.ov (n + 1)
  have hu1 := getD_ok W_pos h.ou (j + (n + 1))
  have hu0 := getD_ok W_pos h.ou (j + (n + 2))
  have htop := h.top
  obtain ⟨q0, q1, q2⟩ := h.q_le
  have hql := h.q_lt
  have hV := h.V_pos
  have hmul := mul_lt_W hu0 (show (0 : Int) ≤ 4294967295 ∧ (4294967295 : Int) < 4294967296 by omega)
  have htp0 : 0 ≤ tp u j n := by unfold tp; omega
  have htp1 : tp u j n ≤ 18446744073709551615 := by unfold tp; omega
  -- the first guess
  have hguess : InvG u v j n (tp u j n / v.getD (n + 1) 0) (tp u j n % v.getD (n + 1) 0) := by
    have hA := KnuthD.ge_first (pow_pos1 n) W_pos q0 q1 h.V_eq h.V_lo.1 h.U_eq h.U_lo.2
    have hB := KnuthD.ge_init W_pos q0 (getD_ok W_pos h.ov n).1 (getD_ok W_pos h.ou (j + n)).2 hA
    have hr0 := Int.emod_nonneg (tp u j n) (show v.getD (n + 1) 0 ≠ 0 by omega)
    have hr1 := Int.emod_lt_of_pos (tp u j n) (show 0 < v.getD (n + 1) 0 by omega)
    have hde := Int.emod_add_mul_ediv (tp u j n) (v.getD (n + 1) 0)
    rw [Int.mul_comm] at hde
    refine ⟨Int.ediv_nonneg htp0 (by omega), ?_, by omega, hr0, by omega, (Int.le_ediv_iff_mul_le (by omega)).2 hB⟩
    -- the segment's highest digit isn't above the divisor's
    have hs0 : u.getD (j + (n + 2)) 0 ≤ v.getD (n + 1) 0 := by
      refine Int.not_lt.1 (fun hlt => ?_)
      have e1 := h.U_eq
      have e2 := h.V_eq
      have e3 := h.lt
      have e4 := h.V_lo.2
      have e5 := h.U_lo.1
      have p1 := pow_pos1 n
      have v2 := getD_ok W_pos h.ov n
      have u2 := getD_ok W_pos h.ou (j + n)
      have e3 : U u j n < 4294967296 * V v := e3
      have k1 : 4294967296 ^ n * (v.getD n 0 + 1) ≤ 4294967296 ^ n * 4294967296 := Int.mul_le_mul_of_nonneg_left (by omega) (by omega)
      have k2 : 4294967296 ^ n * (4294967296 * (v.getD (n + 1) 0 + 1)) ≤ 4294967296 ^ n * tp u j n := Int.mul_le_mul_of_nonneg_left (by unfold tp; omega) (by omega)
      have k3 : 0 ≤ 4294967296 ^ n * u.getD (j + n) 0 := Int.mul_nonneg (by omega) u2.1
      have k4 : V v = val 4294967296 (v.take n) + 4294967296 ^ n * v.getD n 0 + 4294967296 * (4294967296 ^ n * v.getD (n + 1) 0) := by rw [e2]; grind
      have k5 : U u j n = val 4294967296 ((seg u j (n + 3)).take n) + 4294967296 ^ n * u.getD (j + n) 0 + 4294967296 * (4294967296 ^ n * tp u j n) := by rw [e1]; grind
      have k6 : 4294967296 ^ n * (4294967296 * (v.getD (n + 1) 0 + 1)) = 4294967296 * (4294967296 ^ n * v.getD (n + 1) 0) + 4294967296 ^ n * 4294967296 := by grind
      rw [Int.mul_add, Int.mul_one] at k1
      omega
    have : tp u j n / v.getD (n + 1) 0 < 4294967298 := by
      refine Int.ediv_lt_of_lt_mul (by omega) ?_
      have : tp u j n ≤ v.getD (n + 1) 0 * 4294967296 + 4294967295 := by
        unfold tp
        have := Int.mul_le_mul_of_nonneg_right hs0 (show (0 : Int) ≤ 4294967296 by decide)
        omega
      omega
    omega
  obtain ⟨e1, S1, hE1, rfl, g, r, rfl, g0, g1, g2, g3⟩ := guess h _ _ hguess
  obtain ⟨e2, S2, hE2, rfl, c, b, x, l, rfl, hS⟩ := subLoop h g r ⟨g0, g1⟩
  obtain ⟨_, s2, s3, s4, s5, s6, s7, s8, s9, s10⟩ := hS
  have ett : IntKind.u64.wrap ((BitVec.ofInt 64 (IntKind.u64.wrap (IntKind.u64.wrap (rd u ((j + (n + 2) : Nat) : Int)) * 2 ^ 32)) ||| BitVec.ofInt 64 (IntKind.u64.wrap (rd u ((j + (n + 1) : Nat) : Int)))).toNat : Int) = tp u j n := by
    rw [rd_toNat, rd_toNat, Int.toNat_natCast, Int.toNat_natCast, wu64 hu0.1 (by omega), wu64 hu1.1 (by omega), wu64 (n := u.getD (j + (n + 2)) 0 * 2 ^ 32) (by omega) (by omega), or64' 32 hu1.1 (by omega) ⟨_, hu0.1, Int.mul_comm _ _⟩ (by omega)]
    unfold tp
    omega
  have ev1 : IntKind.u64.wrap (rd v ((n + 1 : Nat) : Int)) = v.getD (n + 1) 0 := by rw [rd_toNat, Int.toNat_natCast, wu64 hv1.1 (by omega)]
  have etd : (tp u j n).tdiv (v.getD (n + 1) 0) = tp u j n / v.getD (n + 1) 0 := Int.tdiv_eq_ediv_of_nonneg htp0
  have etm : (tp u j n).tmod (v.getD (n + 1) 0) = tp u j n % v.getD (n + 1) 0 := Int.tmod_eq_emod_of_nonneg htp0
  have hgd0 : 0 ≤ tp u j n / v.getD (n + 1) 0 := hguess.1
  have hgd1 := hguess.2.1
  have hx := getD_ok W_pos s3 (j + (n + 2))
  -- the last place
  obtain ⟨d, hd⟩ : ∃ d, (l.getD (j + (n + 2)) 0 - c - b) % 4294967296 = d := ⟨_, rfl⟩
  have hd0 : 0 ≤ d ∧ d < 4294967296 := by omega
  obtain ⟨k1, k2⟩ := set_same (l := l) (d := d) j (show j ≤ j + (n + 2) by omega) (show j + (n + 2) < j + (n + 3) by omega)
  have hlen : (l.set (j + (n + 2)) d).length = u.length := by rw [List.length_set]; exact s2
  have hok : okB 4294967296 (l.set (j + (n + 2)) d) = true := okB_set s3 hd0
  rw [List.take_of_length_le (by omega)] at s10
  have hgv : 4294967296 ^ j * (g * val 4294967296 v) = 4294967296 ^ j * (g * V v) := rfl
  have hval : ∀ b' : Int, l.getD (j + (n + 2)) 0 - c - b = d - 4294967296 * b' → val 4294967296 (l.set (j + (n + 2)) d) = val 4294967296 u + 4294967296 ^ j * (- (g * V v) + 4294967296 ^ (n + 3) * b') := by
    intro b' hb'
    rw [val_set _ _ _ _ (by omega), s10, show n + 2 + j = j + (n + 2) by omega]
    have e1 : (4294967296 : Int) ^ j * (-(g * V v) + 4294967296 ^ (n + 3) * b') = - (4294967296 ^ j * (g * V v)) + 4294967296 ^ (j + (n + 2)) * (4294967296 * b') := by
      have ea : (4294967296 : Int) ^ (j + (n + 2)) = 4294967296 ^ j * 4294967296 ^ (n + 2) := Int.pow_add ..
      have eb : (4294967296 : Int) ^ (n + 3) = 4294967296 ^ (n + 2) * 4294967296 := Int.pow_succ ..
      rw [ea, eb]; grind
    have e2 : d - l.getD (j + (n + 2)) 0 = 4294967296 * b' - (c + b) := by omega
    rw [e1, e2, Int.mul_sub]
    omega
  have hseg0 := val_nonneg W_pos (okB_seg hok j (n + 3))
  have hseg1 := val_lt W_pos (okB_seg hok j (n + 3))
  rw [seg_length (by omega)] at hseg1
  have hgen : ∀ l3 x12 x13, ∃ tab, (∀ C, TabOk T orc tab C) ∧ runTM T orc tab Try.f90 [.ints .u32 u, .ints .u32 v, .int .i64 j, .int .i64 (n + 2 : Nat)] =
      (bif b2i (decide (l.getD (j + (n + 2)) 0 < c + b)) == 0 then some (.gave (.ints .u32 (l.set (j + (n + 2)) d)) (.int .u32 g)) else (bif cdec (Ends T orc L2 D2 (st2 v j (n + 2 : Nat) u g r c l b 0 x 0 (l.set (j + (n + 2)) d)) (.exit 4) (st2 v j (n + 2 : Nat) u g r c l b x12 x x13 l3)) then (bif inB ((j + (n + 2) : Nat) : Int) l3.length then some (.gave (.ints .u32 (l3.set (j + (n + 2)) (IntKind.u32.wrap (l3.getD (j + (n + 2)) 0 + x12)))) (.int .u32 (IntKind.u32.wrap (IntKind.u64.wrap (g - 1))))) else none) else none)) := by
    intro l3 x12 x13
    refine ⟨_, tabOf_all _, (rest u v j (n + 2 : Nat) l3 x12 g r c l b x x13).trans ?_⟩
    rw [i1, i2, i4, ett, ev1, etd, etm, wu64 hgd0 (by omega), cdec_true hE1, cdec_true hE2, wu32 g0 (by omega), wu32 s6 (by omega)]
    have c1 : inB ((j + (n + 2) : Nat) : Int) u.length = true := inB_iff.2 (by omega)
    have c2 : inB ((j + (n + 1) : Nat) : Int) u.length = true := inB_iff.2 (by omega)
    have c3 : inB ((n + 1 : Nat) : Int) v.length = true := inB_iff.2 (by omega)
    have c4 : (!decide (v.getD (n + 1) 0 = 0)) = true := by rw [Bool.not_eq_true', decide_eq_false_iff_not]; omega
    have c5 : inB ((j + (n + 2) : Nat) : Int) l.length = true := inB_iff.2 (by omega)
    have e1 : rd l ((j + (n + 2) : Nat) : Int) = l.getD (j + (n + 2)) 0 := by rw [rd_toNat, Int.toNat_natCast]
    have c6 : (decide (0 ≤ l.getD (j + (n + 2)) 0) && decide (l.getD (j + (n + 2)) 0 < 4294967296) && decide (0 ≤ c) && decide (c < 4294967296) && decide (0 ≤ b) && decide (b ≤ 1)) = true := by
      simp only [Bool.and_eq_true, decide_eq_true_eq]; omega
    have e2 : rd l3 ((j + (n + 2) : Nat) : Int) = l3.getD (j + (n + 2)) 0 := by rw [rd_toNat, Int.toNat_natCast]
    simp only [c1, c2, c3, c4, c5, e1, c6, cond_true, Int.toNat_natCast, hd, e2]
    cases inB ((j + (n + 2) : Nat) : Int) l3.length <;> rfl
  by_cases hb : l.getD (j + (n + 2)) 0 < c + b
  · -- one too many
    have hv := hval 1 (by omega)
    have hs := h.seg_of hlen (k1.trans s4) (k2.trans s5) hv
    rw [Int.mul_one] at hs
    have hgq : g = U u j n / V v + 1 := by
      have h1 : U u j n < g * V v := by omega
      have h2 : ¬ g ≤ U u j n / V v := fun hle => by
        have := Int.mul_le_mul_of_nonneg_right hle (show 0 ≤ V v by omega)
        omega
      have h3 : ¬ U u j n / V v + 2 ≤ g := fun hle => by
        have := Int.mul_le_mul_of_nonneg_right hle (show 0 ≤ V v by omega)
        rw [Int.add_mul] at this
        rw [Int.add_mul] at q2
        omega
      omega
    obtain ⟨e3, S3, hE3, rfl, b3, x3, l3, rfl, _, a2, a3, a4, a5, a6, a7, a8⟩ := addLoop h g r c b x l (l.set (j + (n + 2)) d) _ hlen hok (k1.trans s4) (k2.trans s5) rfl
    obtain ⟨tab, htab, hrun⟩ := hgen l3 b3 x3
    refine ⟨tab, htab, hrun.trans ?_⟩
    have hne : (b2i (decide (l.getD (j + (n + 2)) 0 < c + b)) == 0) = false := by rw [LessMag.b2i_lt, if_pos hb]; rfl
    rw [bF hne, bT (cdec_true hE3), bT (inB_iff.2 (by omega))]
    have hy := getD_ok W_pos a3 (j + (n + 2))
    obtain ⟨d3, hd3⟩ : ∃ d3, IntKind.u32.wrap (l3.getD (j + (n + 2)) 0 + b3) = d3 := ⟨_, rfl⟩
    rw [hd3]
    rw [wu32_mod] at hd3
    have hd30 : 0 ≤ d3 ∧ d3 < 4294967296 := by omega
    obtain ⟨m1, m2⟩ := set_same (l := l3) (d := d3) j (show j ≤ j + (n + 2) by omega) (show j + (n + 2) < j + (n + 3) by omega)
    have hlen3 : (l3.set (j + (n + 2)) d3).length = u.length := by rw [List.length_set]; exact a2
    have hok3 : okB 4294967296 (l3.set (j + (n + 2)) d3) = true := okB_set a3 hd30
    rw [List.take_of_length_le (by omega)] at a8
    have hval3 : ∀ o : Int, l3.getD (j + (n + 2)) 0 + b3 = d3 + 4294967296 * o → val 4294967296 (l3.set (j + (n + 2)) d3) = val 4294967296 u + 4294967296 ^ j * (- (g * V v) + V v + 4294967296 ^ (n + 3) * (1 - o)) := by
      intro o ho
      rw [val_set _ _ _ _ (by omega), a8, hv, show n + 2 + j = j + (n + 2) by omega]
      have e1 : d3 - l3.getD (j + (n + 2)) 0 = b3 - 4294967296 * o := by omega
      have e2 : (4294967296 : Int) ^ (j + (n + 2)) = 4294967296 ^ j * 4294967296 ^ (n + 2) := Int.pow_add ..
      have e3 : (4294967296 : Int) ^ (n + 3) = 4294967296 ^ (n + 2) * 4294967296 := Int.pow_succ ..
      rw [e1, e2, e3]
      generalize (4294967296 : Int) ^ j = P
      generalize (4294967296 : Int) ^ (n + 2) = Q
      show _ + P * V v - _ + _ = _
      generalize V v = VV
      grind
    have hmod : U u j n - g * V v + V v = U u j n % V v := by
      have := Int.emod_add_mul_ediv (U u j n) (V v)
      rw [hgq, Int.add_mul, Int.mul_comm (U u j n / V v)]
      omega
    have hm0 := Int.emod_nonneg (U u j n) (show V v ≠ 0 by omega)
    have hs3 : val 4294967296 (seg (l3.set (j + (n + 2)) d3) j (n + 3)) = U u j n % V v := by
      have hr1 := val_lt W_pos (okB_seg hok3 j (n + 3))
      rw [seg_length (by omega)] at hr1
      by_cases ho : l3.getD (j + (n + 2)) 0 + b3 < 4294967296
      · have := h.seg_of hlen3 (m1.trans a4) (m2.trans a5) (hval3 0 (by omega))
        rw [Int.sub_zero, Int.mul_one] at this
        omega
      · have := h.seg_of hlen3 (m1.trans a4) (m2.trans a5) (hval3 1 (by omega))
        rw [Int.sub_self, Int.mul_zero] at this
        omega
    rw [h.row hlen3 hok3 (m1.trans a4) (m2.trans a5) hs3, wu64 (by omega) (by omega), wu32 (by omega) (by omega)]
    unfold digQ
    rw [hn, show n + 2 + 1 = n + 3 by omega]
    have : g - 1 = val 4294967296 (seg u j (n + 3)) / val 4294967296 v := by
      have : U u j n / V v = val 4294967296 (seg u j (n + 3)) / val 4294967296 v := rfl
      omega
    rw [this]
  · obtain ⟨tab, htab, hrun⟩ := hgen [] 0 0
    refine ⟨tab, htab, hrun.trans ?_⟩
    have hne : (b2i (decide (l.getD (j + (n + 2)) 0 < c + b)) == 0) = true := by rw [LessMag.b2i_lt, if_neg hb]; rfl
    rw [bT hne]
    have hs := h.seg_of hlen (k1.trans s4) (k2.trans s5) (hval 0 (by omega))
    rw [Int.mul_zero, Int.add_zero] at hs
    have hgq : g = U u j n / V v := by
      have h1 : ¬ U u j n / V v + 1 ≤ g := fun hle => by
        have := Int.mul_le_mul_of_nonneg_right hle (show 0 ≤ V v by omega)
        omega
      omega
    have hs3 : val 4294967296 (seg (l.set (j + (n + 2)) d) j (n + 3)) = U u j n % V v := by
      have := Int.emod_add_mul_ediv (U u j n) (V v)
      rw [hs, hgq, Int.mul_comm (U u j n / V v)]
      omega
    rw [h.row hlen hok (k1.trans s4) (k2.trans s5) hs3]
    unfold digQ
    rw [hn, show n + 2 + 1 = n + 3 by omega, hgq]
end
end Digit
theorem meets_digit : Meets Try.prog 90 ansDigit := by
  refine meets_runM T_ok (orc_ok (l := Digit.ans) ⟨meets_sub32, meets_add32, trivial⟩) mixed (fn := Try.f90) Try.func90 (by kernel_rfl) (fun args r h => ?_) (fun row rest x y h => ?_)
  · unfold ansDigit at h
    split at h <;> simp only [Option.some.injEq, Prod.mk.injEq, reduceCtorEq] at h
    · exact ⟨_, _, h.2.symm⟩
    · exact ⟨_, _, h.2.symm⟩
  · unfold ansDigit at h
    split at h
    · rename_i heq; cases heq
    · rename_i u v j n heq
      cases heq
      simp only [Option.some.injEq, Prod.mk.injEq, Res.gave.injEq, digOk, Bool.and_eq_true, few_iff, decide_eq_true_eq] at h
      obtain ⟨⟨⟨⟨⟨⟨⟨⟨⟨⟨hu, hv⟩, ou⟩, ov⟩, hj⟩, hn⟩, hn2⟩, hjl⟩, htop⟩, hlt⟩, rfl, rfl⟩ := h
      obtain ⟨j, rfl⟩ := Int.eq_ofNat_of_zero_le hj
      obtain ⟨k, hk⟩ : ∃ k, v.length = k + 2 := ⟨v.length - 2, by omega⟩
      rw [Int.toNat_natCast] at hjl hlt
      have hp : Digit.Pre u v j k := ⟨ou, ov, hu, hk, by omega, by rw [hk] at htop; exact htop, by rw [hk] at hlt; exact hlt⟩
      obtain ⟨tab, h1, h2⟩ := Digit.finish hp
      rw [hn, hk, Int.toNat_natCast]
      exact runM_tab (h1 _) h2
    · cases h
end Go.Abs
end
