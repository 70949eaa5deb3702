/- part -/
import Derived.Test.YtjoohkjmoghmoaaGreatDoorP20
import Derived.Test.YtjoohkjmoghmoaaGreatDoorP21
import Derived.Test.YtjoohkjmoghmoaaGreatDoorP22
set_option linter.all false
namespace Go.Proofs.YtjoohkjmoghmoaaGreatDoor
noncomputable section
def OF:OT:=kn 10 a1A a1G 10 (.bN [.i .i64 1,.i .i64 0]) (kn 10 a2A a2G 11 (.bN [.i .i64 (.negSucc 0),.i .i64 0]) (kn 16 a4A a4G 9843 (.bN [.agg [.i .i64 0,.i .i64 0,.k 1,.i .i64 0,.i .i64 0,.i .i64 0],.i .i64 24]) OE))
theorem aaR:Ab Tryz.prog sl0 OF:=
 OC I6 Wi (C8 (OG (by omega)) (by omega)) (OC I6 Wj (C8 (OG (by omega)) (by omega)) (OC I6 Wm (C8 (C8 (OG (by omega)) (by omega)) (by omega)) I6))
theorem OH:WC (.b true) .z 0 (lV Tryz.prog sl0 OF 60 OY [] .z 0)=true:=by kernel_rfl
end
end Go.Proofs.YtjoohkjmoghmoaaGreatDoor
