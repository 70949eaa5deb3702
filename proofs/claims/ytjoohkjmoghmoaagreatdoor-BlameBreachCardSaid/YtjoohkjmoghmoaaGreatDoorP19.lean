/- part -/
import Derived.Test.YtjoohkjmoghmoaaGreatDoorP18
set_option linter.all false
namespace Go.Proofs.YtjoohkjmoghmoaaGreatDoor
noncomputable section
def a1G:AH:=sG.set 9 (.row 3 [.i .i64 (.negSucc 0),.i .i64 (.negSucc 0)])
def a1A:List AV:=[sA,.k 1,.i .i64 0,.sl 9 0 0 2 (some 2)]
theorem VQ:V_ (.bQ [.i .i64 1,.i .i64 0]) a1G 10 (lS Tryz.prog sl0 OE 60 10 a1A a1G 10)=true:=by kernel_rfl
end
end Go.Proofs.YtjoohkjmoghmoaaGreatDoor
