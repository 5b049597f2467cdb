-- PRINTED BY print.sh 35421559b90ae4d0a3588c463048766b98c2df88dd9212a6774a882060cdf62d: not written by this session
import Derived.Test.YtcblijcalhaffaaGreatDoorWInvQS
import Derived.Test.YtcblijcalhaffaaGreatDoorWFootNeQS
namespace Go.Proofs.YtcblijcalhaffaaGreatDoorW.PrintWords
open Go.RowKit
end Go.Proofs.YtcblijcalhaffaaGreatDoorW.PrintWords
namespace Go.Proofs.YtcblijcalhaffaaGreatDoorW.PrintLast
section
variable {ops : Array Oper} {a : Act} {o og : Oper} {g : Nat} {t : Tmp} {u : Bool}
end
end Go.Proofs.YtcblijcalhaffaaGreatDoorW.PrintLast
