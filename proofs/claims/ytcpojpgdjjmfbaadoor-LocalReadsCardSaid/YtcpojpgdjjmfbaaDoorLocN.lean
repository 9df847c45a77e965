/- What bytes tell of a header: plain words. -/
import Derived.Test.YtcpojpgdjjmfbaaDoorLocF
import Derived.Test.YtcpojpgdjjmfbaaDoorLocD
namespace Go.Proofs.YtcpojpgdjjmfbaaDoor
set_option linter.unusedVariables false
set_option linter.unusedSimpArgs false
set_option maxRecDepth 100000
open Go.RowKit
/-- What bytes say of a header. -/
def nmOf (l : List UInt8) : ByteArray := str ((l.drop 30).take (rd l 26 2))
def gwOf (l : List UInt8) : Bool := rd l 4 2 == 45
def glOf (l : List UInt8) : Bool := rd l 6 2 / 8 % 2 == 1
def pkL (l : List UInt8) : Int := cond (gwOf l) (wd8 l (42 + rd l 26 2)) (rd l 18 4 : Nat)
def szL (l : List UInt8) : Int := cond (gwOf l) (wd8 l (34 + rd l 26 2)) (rd l 22 4 : Nat)
structure ACC (l : List UInt8) : Prop where
  len : 30 + rd l 26 2 ≤ l.length
  mg : rd l 0 4 = 67324752
  tm : tmB (rd l 12 2) (rd l 10 2) = true
  ver : (rd l 4 2 : Int) = verI (gwOf l)
  fl : (rd l 6 2 : Int) = flagI (nmOf l) (glOf l)
  ex : rd l 28 2 = cond (gwOf l) 20 0
  wd : gwOf l = true → WP l (30 + rd l 26 2) (rd l 18 4) (rd l 22 4)
  lt : glOf l = true → rd l 14 4 = 0 ∧ pkL l = 0 ∧ szL l = 0
  ck : lcode (chk (nmOf l)) true (rd l 8 2 : Nat) (pkL l) (szL l) = 0
def hdrV (nm : ByteArray) (C D me cr : Nat) (pk sz : Int) (gw gl : Bool) : Value := .agg #[.string nm, .int .i64 (1980 + (D : Int) / 512), .int .i64 ((D : Int) / 32 % 16), .int .i64 ((D : Int) % 32), .int .i64 ((C : Int) / 2048), .int .i64 ((C : Int) / 32 % 64), .int .i64 ((C : Int) % 32 * 2), .int .i64 (me : Nat), .int .u32 (cr : Nat), .int .i64 pk, .int .i64 sz, .bool gw, .bool gl]
def hdrOf (l : List UInt8) : Value := hdrV (nmOf l) (rd l 10 2) (rd l 12 2) (rd l 8 2) (rd l 14 4) (pkL l) (szL l) (gwOf l) (glOf l)
def endOf (l : List UInt8) : Nat := 30 + rd l 26 2 + cond (gwOf l) 20 0
end Go.Proofs.YtcpojpgdjjmfbaaDoor
