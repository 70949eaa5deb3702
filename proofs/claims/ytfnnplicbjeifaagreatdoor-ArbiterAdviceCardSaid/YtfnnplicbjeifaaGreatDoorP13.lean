/- part -/
import Derived.Test.YtfnnplicbjeifaaGreatDoorP09
set_option linter.all false
namespace Go.Proofs.YtfnnplicbjeifaaGreatDoor
noncomputable section
def eeG:AH:=xG
def eeA:List AV:=[sA,.k 1,.i .i64 0,ZB 0]
theorem ZG:Ns (.b false) eeG 9847 (iU Tryz.prog sl0 OE 60 15 eeA eeG 9847)=true:=by kernel_rfl
end
end Go.Proofs.YtfnnplicbjeifaaGreatDoor
