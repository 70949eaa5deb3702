/- part -/
import Derived.Test.YtjoohkjmoghmoaaGreatDoorP22
import Derived.Test.YtjoohkjmoghmoaaGreatDoorP23
import Derived.Test.YtjoohkjmoghmoaaGreatDoorP24
set_option linter.all false
namespace Go.Proofs.YtjoohkjmoghmoaaGreatDoor
noncomputable section
def OF:OT:=kn 10 a1A a1G 10 (.bS [.i .i64 1,.i .i64 0]) (kn 10 a2A a2G 11 (.bS [.i .i64 (.negSucc 0),.i .i64 0]) (kn 16 a4A a4G 9843 (.bS [.agg [.i .i64 0,.i .i64 0,.k 1,.i .i64 0,.i .i64 0,.i .i64 0],.i .i64 24]) OE))
theorem aaZ:zJ Tryz.prog sl0 OF:=
 OY IE Wp (Ct (OZ (by omega)) (by omega)) (OY IE Wq (Ct (OZ (by omega)) (by omega)) (OY IE Ws (Ct (Ct (OZ (by omega)) (by omega)) (by omega)) IE))
theorem O1:WJ (.b true) .z 0 (lJ Tryz.prog sl0 OF 60 P6 [] .z 0)=true:=by kernel_rfl
end
end Go.Proofs.YtjoohkjmoghmoaaGreatDoor
