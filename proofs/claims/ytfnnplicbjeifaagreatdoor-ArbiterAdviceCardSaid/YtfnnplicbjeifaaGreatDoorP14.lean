/- part -/
import Derived.Test.YtfnnplicbjeifaaGreatDoorP09
set_option linter.all false
namespace Go.Proofs.YtfnnplicbjeifaaGreatDoor
section
noncomputable section
def efG:AH:=(xG.set 9840 (.row 89 [.i .i64 1,.i .i64 0,.i .i64 1,.i .i64 1,.i .i64 0,.b false])).set 9841 (.row 56 [.i .i64 0,.sl 9840 0 0 1 (some 1),.k 1])
def efA:List AV:=[sA,.k 1,.sl 9841 0 0 1 (some 1),.i .i64 3,xA 50]
theorem ZH:Ns (.b false) efG 9847 (iU Tryz.prog sl0 OE 60 13 efA efG 9847)=true:=by kernel_rfl
end
end
section
noncomputable section
def egG:AH:=xG.set 9845 (.row 56 [.i .i64 0,.k 1,.k 1])
def egA:List AV:=[sA,.k 1,.sl 9845 0 0 1 (some 1),.i .i64 4,xA 50]
theorem ZI:Ns (.b false) egG 9847 (iU Tryz.prog sl0 OE 60 13 egA egG 9847)=true:=by kernel_rfl
end
end
section
noncomputable section
def ehG:AH:=xG
def ehA:List AV:=[sA,.k 1,.i .i64 1,ZB 1]
theorem ZJ:Ns (.b false) ehG 9847 (iU Tryz.prog sl0 OE 60 15 ehA ehG 9847)=true:=by kernel_rfl
end
end
noncomputable section
def eiG:AH:=(((((((Tr.z.set 329 (AO.row 3 [.i .i64 0])).set 330 (.row 4 [.b false])).set 331 (.row 185 [.i .i64 1,.i .i64 1,.i .i64 0,.i .i64 0,.b false])).set 351 (.row 3 [.i .i64 0])).set 353 (.row 159 [.s [69,85,82],.i .i64 2,.i .i64 0,.i .i64 1,.i .i64 1])).set 355 (.row 161 [.i .i64 1,.i .i64 0,.i .i64 0,.i .i64 (.negSucc 0),.i .i64 (.negSucc 0),.i .i64 0,.i .i64 1])).set 357 (.row 122 [.i .i64 1,.i .i64 0,.i .i64 0,.i .i64 1,.k 1,.i .i64 2,.i .i64 0,.b false,.b true,.i .i64 (.negSucc 0),.i .i64 (.negSucc 0),.i .i64 50,.i .i64 1,.i .i64 0,.i .i64 0,.b false]))
def eiA:List AV:=[.agg [.i .i64 1,.sl 351 0 0 1 none,.sl 353 0 0 1 none,.sl 355 0 0 1 none,.sl 357 0 0 1 none,.i .i64 5,.k 1],.i .i64 0,.agg [.i .i64 1,.sl 329 0 0 1 (some 1),.sl 330 0 0 1 (some 1),.sl 331 0 0 1 (some 1),.b false]]
theorem ZK:Ns (.bJ [.agg [.i .i64 0,.k 1],.i .i64 13]) eiG 4230 (iU Tryz.prog sl0 OE 60 116 eiA eiG 4230)=true:=by kernel_rfl
theorem ZL:∀x o,eiG.get x=some o->[357,355,353,351,331,330,329].contains x=true:=
 dx (dx (dx (dx (dx (dx (dx λx o e=>by rw[Tr.iL]at e;cases e))))))
end
end Go.Proofs.YtfnnplicbjeifaaGreatDoor
