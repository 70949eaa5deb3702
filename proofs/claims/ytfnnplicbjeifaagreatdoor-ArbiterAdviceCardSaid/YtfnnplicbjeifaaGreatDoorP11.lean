/- part -/
import Derived.Test.YtfnnplicbjeifaaGreatDoorP09
set_option linter.all false
namespace Go.Proofs.YtfnnplicbjeifaaGreatDoor
noncomputable section
def ecG:AH:=xG
def ecA:List AV:=[sA,.k 1,.i .i64 0,ZB 1]
theorem ZE:Ns (.b true) ecG 9845 (iU Tryz.prog sl0 OE 60 15 ecA ecG 9845)=true:=by kernel_rfl
end
end Go.Proofs.YtfnnplicbjeifaaGreatDoor
