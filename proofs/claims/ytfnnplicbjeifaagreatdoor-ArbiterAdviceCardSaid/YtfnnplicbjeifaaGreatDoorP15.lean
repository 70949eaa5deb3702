/- part -/
import Derived.Test.YtfnnplicbjeifaaGreatDoorP10
import Derived.Test.YtfnnplicbjeifaaGreatDoorP11
import Derived.Test.YtfnnplicbjeifaaGreatDoorP12
import Derived.Test.YtfnnplicbjeifaaGreatDoorP13
import Derived.Test.YtfnnplicbjeifaaGreatDoorP14
set_option linter.all false
namespace Go.Proofs.YtfnnplicbjeifaaGreatDoor
noncomputable section
def OF:OT:=kl 116 eiA eiG [357,355,353,351,331,330,329] 4230 5321 (.bJ [.agg [.i .i64 0,.k 1],.i .i64 13]) (kl 13 ebA ebG (9842::xN) 9845 9845 (.b true) (kl 15 ecA ecG xN 9845 9845 (.b true) (kl 13 edA edG (9843::xN) 9845 9845 (.b false) (kl 15 eeA eeG xN 9847 9847 (.b false) (kl 13 efA efG (9841::9840::xN) 9847 9847 (.b false) (kl 13 egA egG (9845::xN) 9847 9847 (.b false) (kl 15 ehA ehG xN 9847 9847 (.b false) OE)))))))
theorem aeC:zV Tryz.prog sl0 OF:=
 yK wG ZK ZL (yK wG ZC (dx Bo) (yK wG ZE Bo (yK wG ZF (dx Bo) (yK wG ZG Bo (yK wG ZH (dx (dx Bo)) (yK wG ZI (dx Bo) (yK wG ZJ Bo wG (Nat.le_refl _)) (Nat.le_refl _)) (Nat.le_refl _)) (Nat.le_refl _)) (Nat.le_refl _)) (Nat.le_refl _)) (Nat.le_refl _)) (by omega)
theorem Ry:Ns (.b true) .z 0 (iU Tryz.prog sl0 OF 60 RJ [] .z 0)=true:=by kernel_rfl
end
end Go.Proofs.YtfnnplicbjeifaaGreatDoor
