/- part -/
import Derived.Test.YtjoohkjmoghmoaaGreatDoorP19
import Derived.Test.YtjoohkjmoghmoaaGreatDoorP20
import Derived.Test.YtjoohkjmoghmoaaGreatDoorP21
set_option linter.all false
namespace Go.Proofs.YtjoohkjmoghmoaaGreatDoor
noncomputable section
def OF:OT:=kn 10 a1A a1G 10 (.bQ [.i .i64 1,.i .i64 0]) (kn 10 a2A a2G 11 (.bQ [.i .i64 (.negSucc 0),.i .i64 0]) (kn 16 a4A a4G 9843 (.bQ [.agg [.i .i64 0,.i .i64 0,.k 1,.i .i64 0,.i .i64 0,.i .i64 0],.i .i64 24]) OE))
theorem aax:zV Tryz.prog sl0 OF:=
 Oh IK VQ (CF (Oi (by omega)) (by omega)) (Oh IK VR (CF (Oi (by omega)) (by omega)) (Oh IK VT (CF (CF (Oi (by omega)) (by omega)) (by omega)) IK))
theorem Oj:V_ (.b true) .z 0 (lS Tryz.prog sl0 OF 60 OA [] .z 0)=true:=by kernel_rfl
end
end Go.Proofs.YtjoohkjmoghmoaaGreatDoor
