/- What bytes tell of a central header: plain words. -/
import Derived.Test.YtjkmgakgjoojfaaDoorLocZ
import Derived.Test.YtjkmgakgjoojfaaDoorCenA
namespace Go.Proofs.YtjkmgakgjoojfaaDoor
set_option maxRecDepth 100000
set_option linter.unusedVariables false
set_option linter.unusedSimpArgs false
open Go.RowKit
def nmC (l : List UInt8) : ByteArray := str ((l.drop 46).take (rd l 28 2))
def gwC (l : List UInt8) : Bool := rd l 6 2 == 45
def glC (l : List UInt8) : Bool := rd l 8 2 / 8 % 2 == 1
def pkC (l : List UInt8) : Int := cond (gwC l) (wd8 l (58 + rd l 28 2)) (rd l 20 4 : Nat)
def szC (l : List UInt8) : Int := cond (gwC l) (wd8 l (50 + rd l 28 2)) (rd l 24 4 : Nat)
def plC (l : List UInt8) : Int := cond (gwC l) (wd8 l (66 + rd l 28 2)) (rd l 42 4 : Nat)
/-- When the sizes and the place behind the name may be read. -/
def WPC (l : List UInt8) (p pk sz pl : Nat) : Prop := pk = 4294967295 ∧ sz = 4294967295 ∧ pl = 4294967295 ∧ p + 28 ≤ l.length ∧ rd l p 2 = 1 ∧ rd l (p + 2) 2 = 24
structure ACD (l : List UInt8) : Prop where
  len : 46 + rd l 28 2 ≤ l.length
  mg : rd l 0 4 = 33639248
  mkr : rd l 4 2 = 788
  tm : tmB (rd l 14 2) (rd l 12 2) = true
  ver : (rd l 6 2 : Int) = verI (gwC l)
  fl : (rd l 8 2 : Int) = flagI (nmC l) (glC l)
  z1 : rd l 32 2 = 0
  z2 : rd l 34 2 = 0
  z3 : rd l 36 2 = 0
  ou : rd l 38 4 = 2175008768
  ex : rd l 30 2 = cond (gwC l) 28 0
  wd : gwC l = true → WPC l (46 + rd l 28 2) (rd l 20 4) (rd l 24 4) (rd l 42 4)
  ck : ccode (lcode (chk (nmC l)) true (rd l 10 2 : Nat) (pkC l) (szC l)) (plC l) = 0
def hcV (nm : ByteArray) (C D me cr : Nat) (pk sz : Int) (gw gl : Bool) (pl : Int) : Value := .agg #[.string nm, .int .i64 (1980 + (D : Int) / 512), .int .i64 ((D : Int) / 32 % 16), .int .i64 ((D : Int) % 32), .int .i64 ((C : Int) / 2048), .int .i64 ((C : Int) / 32 % 64), .int .i64 ((C : Int) % 32 * 2), .int .i64 (me : Nat), .int .u32 (cr : Nat), .int .i64 pk, .int .i64 sz, .bool gw, .bool gl, .int .i64 pl]
def hdrC (l : List UInt8) : Value := hcV (nmC l) (rd l 12 2) (rd l 14 2) (rd l 10 2) (rd l 16 4) (pkC l) (szC l) (gwC l) (glC l) (plC l)
def endC (l : List UInt8) : Nat := 46 + rd l 28 2 + cond (gwC l) 28 0
end Go.Proofs.YtjkmgakgjoojfaaDoor
