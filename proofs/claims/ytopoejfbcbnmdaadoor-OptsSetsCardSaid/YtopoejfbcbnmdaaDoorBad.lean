import Derived.Test.YtopoejfbcbnmdaaDoorBadA
import Derived.Test.YtopoejfbcbnmdaaDoorBadB
import Derived.Test.YtopoejfbcbnmdaaDoorBadC
import Derived.Test.YtopoejfbcbnmdaaDoorBadD
import Derived.Test.YtopoejfbcbnmdaaDoorOptCheck
namespace Go.Proofs.YtopoejfbcbnmdaaDoor
open Go Go.RowKit

/-- opts.bad, everywhere. -/
theorem bad_of (o : Opt) : BadOf o := fun w => by
  cases h7 : inB o.no 0 1000 with
  | false => exact bad_a o w h7
  | true =>
    cases hk : (o.ki == 2) with
    | true => exact bad_b o w h7 hk
    | false =>
      cases hn : (o.no == 0) with
      | true => exact bad_c o w h7 hk hn
      | false => exact bad_d o w h7 hk hn

end Go.Proofs.YtopoejfbcbnmdaaDoor
