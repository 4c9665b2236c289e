/- The plain model of the boxes: domains and limits. -/
import Derived.Test.YtcncobhdfflelaaProg
namespace Go.Proofs.Ytcncobhdfflelaa
namespace Bx
/-- whether a domain is valid -/
def okAt (a b : Int) : Bool := !(decide (a < -9007199254740992)) && !(decide (b < a)) && !(decide (9007199254740992 < b))
def valid (lo hi : List Int) : Bool := decide (lo.length = hi.length) && decide (lo.length ≤ 16) && (lo.zip hi).all fun p => okAt p.1 p.2
def clamp (n a b : Int) : Int := if n < a then a else if b < n then b else n
end Bx
end Go.Proofs.Ytcncobhdfflelaa
