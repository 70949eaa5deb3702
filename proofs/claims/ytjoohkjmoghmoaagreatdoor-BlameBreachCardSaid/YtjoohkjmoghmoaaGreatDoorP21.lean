/- part -/
import Derived.Test.YtjoohkjmoghmoaaGreatDoorP18
set_option linter.all false
namespace Go.Proofs.YtjoohkjmoghmoaaGreatDoor
noncomputable section
def a4G:AH:=(sG.set 9841 (.row 94 [.i .i64 1,.i .i64 0,.i .i64 1,.i .i64 2,.i .i64 0,.b false])).set 9842 (.row 92 [.i .i64 0,.sl 9841 0 0 1 (some 1),.k 1])
def a4A:List AV:=[sA,.k 1,.sl 9842 0 0 1 (some 1),.i .i64 3,.i .i64 0,.i .i64 0]
theorem VT:V_ (.bQ [.agg [.i .i64 0,.i .i64 0,.k 1,.i .i64 0,.i .i64 0,.i .i64 0],.i .i64 24]) a4G 9843 (lS Tryz.prog sl0 OE 60 16 a4A a4G 9843)=true:=by kernel_rfl
end
end Go.Proofs.YtjoohkjmoghmoaaGreatDoor
