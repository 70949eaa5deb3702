/- part -/
import Derived.Test.YtjoohkjmoghmoaaGreatDoorP18
set_option linter.all false
namespace Go.Proofs.YtjoohkjmoghmoaaGreatDoor
noncomputable section
def a2G:AH:=sG.set 10 (.row 3 [.i .i64 (.negSucc 0),.i .i64 0,.i .i64 (.negSucc 0)])
def a2A:List AV:=[sA,.k 1,.i .i64 0,.sl 10 0 0 3 (some 3)]
theorem VR:V_ (.bQ [.i .i64 (.negSucc 0),.i .i64 0]) a2G 11 (lS Tryz.prog sl0 OE 60 10 a2A a2G 11)=true:=by kernel_rfl
end
end Go.Proofs.YtjoohkjmoghmoaaGreatDoor
