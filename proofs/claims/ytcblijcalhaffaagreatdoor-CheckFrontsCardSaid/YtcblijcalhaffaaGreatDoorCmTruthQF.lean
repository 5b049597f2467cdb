import Derived.Test.YtcblijcalhaffaaGreatDoorCkTruthXQF
import Derived.Test.YtcblijcalhaffaaGreatDoorCmFormQF
namespace Go.Proofs.YtcblijcalhaffaaGreatDoor
open Go Go.RowKit Go.Proofs.YtcblijcalhaffaaGreatDoorW.PrintWords Go.Proofs.YtcblijcalhaffaaGreatDoorW.PrintLast Go.Proofs.YtcblijcalhaffaaGreatDoorW.PrintMore PCheckSound

/-! law02.Truth: whether some assignment satisfies a formula. -/
def litV (a : List Bool) (x : Int) : Bool := if 0 < x then rdOf false a (x - 1) else if x < 0 then !(rdOf false a (-x - 1)) else false
def holdsV (a : List Bool) (cs : List (List Int)) : Bool := cs.all (fun d => d.any (litV a))
def bitsV (V n : Nat) : List Bool := (List.range V).map (fun i => n.testBit i)
def truthV (V : Nat) (cs : List (List Int)) : Bool := (List.range (2 ^ V)).any (fun n => holdsV (bitsV V n) cs)

end Go.Proofs.YtcblijcalhaffaaGreatDoor
