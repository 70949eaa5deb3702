/- part -/
import Derived.Test.YtfnnplicbjeifaaGreatDoorP09
set_option linter.all false
namespace Go.Proofs.YtfnnplicbjeifaaGreatDoor
noncomputable section
def ebG:AH:=xG.set 9842 (.row 56 [.i .i64 0,.k 1,.k 1])
def ebA:List AV:=[sA,.k 1,.sl 9842 0 0 1 (some 1),.i .i64 3,xA 50]
theorem ZC:Ns (.b true) ebG 9845 (iU Tryz.prog sl0 OE 60 13 ebA ebG 9845)=true:=by kernel_rfl
end
end Go.Proofs.YtfnnplicbjeifaaGreatDoor
