/- part -/
import Derived.Test.YtfnnplicbjeifaaGreatDoorP09
set_option linter.all false
namespace Go.Proofs.YtfnnplicbjeifaaGreatDoor
noncomputable section
def edG:AH:=xG.set 9843 (.row 56 [.i .i64 0,.k 1,.k 1])
def edA:List AV:=[sA,.k 1,.sl 9843 0 0 1 (some 1),.i .i64 3,xA 51]
theorem ZF:Ns (.b false) edG 9845 (iU Tryz.prog sl0 OE 60 13 edA edG 9845)=true:=by kernel_rfl
end
end Go.Proofs.YtfnnplicbjeifaaGreatDoor
