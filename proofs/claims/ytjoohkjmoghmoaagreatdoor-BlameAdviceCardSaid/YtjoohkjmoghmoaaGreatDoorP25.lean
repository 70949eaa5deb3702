/- part -/
import Derived.Test.YtjoohkjmoghmoaaGreatDoorP22
import Derived.Test.YtjoohkjmoghmoaaGreatDoorP23
import Derived.Test.YtjoohkjmoghmoaaGreatDoorP24
set_option linter.all false
namespace Go.Proofs.YtjoohkjmoghmoaaGreatDoor
noncomputable section
def OF:OT:=kn 10 a1A a1G 10 (.bV [.i .i64 1,.i .i64 0]) (kn 10 a2A a2G 11 (.bV [.i .i64 (.negSucc 0),.i .i64 0]) (kn 16 a4A a4G 9843 (.bV [.agg [.i .i64 0,.i .i64 0,.k 1,.i .i64 0,.i .i64 0,.i .i64 0],.i .i64 24]) OE))
theorem Yn:xX Tryz.prog sl0 OF:=
 MF F7 TQ (AA (MG (by omega)) (by omega)) (MF F7 TR (AA (MG (by omega)) (by omega)) (MF F7 TT (AA (AA (MG (by omega)) (by omega)) (by omega)) F7))
theorem MH:Ug (.b true) .z 0 (kE Tryz.prog sl0 OF 60 ND [] .z 0)=true:=by kernel_rfl
end
end Go.Proofs.YtjoohkjmoghmoaaGreatDoor
