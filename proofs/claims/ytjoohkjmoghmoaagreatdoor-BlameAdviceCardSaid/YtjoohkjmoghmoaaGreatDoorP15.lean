/- part -/
import Derived.Test.YtjoohkjmoghmoaaGreatDoorP14
set_option linter.all false
namespace Go.Proofs.YtjoohkjmoghmoaaGreatDoor
section
noncomputable section
def Lc:MC:=(.seq (.reg [⟨none,(.mv (.s 12)),.l⟩,⟨none,(.bM 5 (.s 10) (.s 12)),.l⟩,⟨none,(.ld (some 5) (.v 0)),.l⟩,⟨none,(.al 144 [(.i .i64 0),(.i .i64 0),(.i .i64 0),(.i .i64 0),(.b false)]),(.k 8)⟩,⟨none,(.mv (.v 2)),(.k 7)⟩,⟨none,(.st 5 (.s 8) (.v 0)),.n⟩]) (.seq (.reg [⟨none,(.fa 4 (.s 3)),.l⟩,⟨none,(.ld none (.v 0)),.l⟩,⟨none,(.mv (.s 7)),.l⟩,⟨none,(.bM 16 (.v 1) (.v 0)),.l⟩,⟨none,(.fa 8 (.v 0)),.l⟩,⟨none,(.ld none (.v 0)),.l⟩,⟨none,(.mv (.v 0)),.l⟩,⟨(some ((.v 0),true)),(.fa 0 (.s 8)),.l⟩,⟨(some ((.v 1),true)),(.ld none (.v 0)),.l⟩,⟨(some ((.v 2),true)),(.bin .eql 3 (.v 0) (.c (.i .i64 4))),.l⟩,⟨none,(.pick (.v 3) (.v 0) (.c (.b false))),.l⟩,⟨none,(.mv (.v 0)),.l⟩,⟨(some ((.v 0),true)),(.fa 3 (.s 8)),.l⟩,⟨(some ((.v 1),true)),(.ld none (.v 0)),.l⟩,⟨(some ((.v 2),true)),(.mv (.s 2)),.l⟩,⟨(some ((.v 3),true)),(.bin .eql 3 (.v 1) (.v 0)),.l⟩,⟨none,(.pick (.v 4) (.v 0) (.c (.b false))),(.k 33)⟩]) (.cond (.s 33) (.seq (.reg [⟨none,(.mv (.c (.b true))),(.k 6)⟩]) .ret) .skip)))
def Xu:MC:=(.seq (.reg [⟨none,(.box 27 7 (.s 0)),(.k 3)⟩,⟨none,(.box 43 4 (.s 1)),(.k 4)⟩,⟨none,(.mv (.c (.b false))),(.k 6)⟩]) (.seq (.seq (.reg [⟨none,(.fa 3 (.s 4)),.l⟩,⟨none,(.ld none (.v 0)),(.k 10)⟩,⟨none,(.bf (.s 10)),(.k 11)⟩,⟨none,(.mv (.c (.i .i64 0))),(.k 12)⟩]) (.blk 0 (iD 3 12 11 13 0 1 Lc))) (.seq (.reg [⟨none,(.mv (.c (.b false))),(.k 6)⟩]) .ret)))
theorem c182:dM Tryz.prog sl0 182=some ([true,true,true],Xu,[(.t 6)]):=by kernel_rfl
def Ld:MC:=(.seq (.reg [⟨none,(.bM 2 (.s 40) (.s 42)),.l⟩,⟨none,(.ld (some 2) (.v 0)),.l⟩,⟨none,(.al 223 [(.i .i64 0),(.i .i64 0)]),(.k 8)⟩,⟨none,(.st 2 (.s 8) (.v 0)),.n⟩]) (.seq (.reg [⟨none,(.fa 1 (.s 8)),.l⟩,⟨none,(.ld none (.v 0)),.l⟩,⟨none,(.bin .lss 3 (.v 0) (.c (.i .i64 0))),.l⟩,⟨none,(.mv (.v 0)),.l⟩,⟨(some ((.v 0),false)),(.fa 1 (.s 8)),.l⟩,⟨(some ((.v 1),false)),(.ld none (.v 0)),.l⟩,⟨(some ((.v 2),false)),(.fa 1 (.s 3)),.l⟩,⟨(some ((.v 3),false)),(.ld none (.v 0)),.l⟩,⟨(some ((.v 4),false)),(.bf (.v 0)),.l⟩,⟨(some ((.v 5),false)),(.bin .geq 3 (.v 3) (.v 0)),.l⟩,⟨none,(.pick (.v 6) (.c (.b true)) (.v 0)),(.k 56)⟩]) (.cond (.s 56) (.seq (.reg [⟨none,(.mv (.c (.b false))),(.k 4)⟩]) .ret) .skip)))
def Le:MC:=(.seq (.reg [⟨none,(.mv (.s 31)),.l⟩,⟨none,(.bM 5 (.s 29) (.s 31)),.l⟩,⟨none,(.ld (some 5) (.v 0)),.l⟩,⟨none,(.al 45 [(.i .i64 0),(.k 1),(.k 1),(.k 1),(.b false)]),(.k 6)⟩,⟨none,(.mv (.v 2)),(.k 5)⟩,⟨none,(.st 5 (.s 6) (.v 0)),.n⟩]) (.seq (.seq (.reg [⟨none,(.fa 2 (.s 3)),.l⟩,⟨none,(.ld none (.v 0)),.l⟩,⟨none,(.mv (.s 5)),.l⟩,⟨none,(.bM 1 (.v 1) (.v 0)),.l⟩,⟨none,(.ld none (.v 0)),(.k 40)⟩,⟨none,(.bf (.s 40)),(.k 41)⟩,⟨none,(.mv (.c (.i .i64 0))),(.k 42)⟩]) (.blk 2 (iD 3 42 41 43 2 3 Ld))) (.seq (.reg [⟨none,(.ld (some 7) (.s 2)),.l⟩,⟨none,(.fa 0 (.s 6)),.l⟩,⟨none,(.ld (some 4) (.v 0)),.l⟩,⟨none,(.call (.c (.f 47 [])) [(.v 2),(.v 0)]),.l⟩,⟨none,(.not (.v 0)),(.k 62)⟩]) (.cond (.s 62) (.seq (.reg [⟨none,(.mv (.c (.b false))),(.k 4)⟩]) .ret) .skip))))
def Xx:MC:=(.seq (.reg [⟨none,(.box 27 7 (.s 0)),(.k 2)⟩,⟨none,(.box 150 3 (.s 1)),(.k 3)⟩,⟨none,(.mv (.c (.b false))),(.k 4)⟩]) (.seq (.seq (.reg [⟨none,(.fa 0 (.s 3)),.l⟩,⟨none,(.ld none (.v 0)),.l⟩,⟨none,(.bin .lss 3 (.v 0) (.c (.i .i64 0))),.l⟩,⟨none,(.mv (.v 0)),.l⟩,⟨(some ((.v 0),false)),(.fa 0 (.s 3)),.l⟩,⟨(some ((.v 1),false)),(.ld none (.v 0)),.l⟩,⟨(some ((.v 2),false)),(.fa 0 (.s 2)),.l⟩,⟨(some ((.v 3),false)),(.ld none (.v 0)),.l⟩,⟨(some ((.v 4),false)),(.bin .geq 3 (.v 2) (.v 0)),.l⟩,⟨none,(.pick (.v 5) (.c (.b true)) (.v 0)),.l⟩,⟨none,(.mv (.v 0)),.l⟩,⟨(some ((.v 0),false)),(.fa 2 (.s 3)),.l⟩,⟨(some ((.v 1),false)),(.ld none (.v 0)),.l⟩,⟨(some ((.v 2),false)),(.bf (.v 0)),.l⟩,⟨(some ((.v 3),false)),(.fa 1 (.s 3)),.l⟩,⟨(some ((.v 4),false)),(.ld none (.v 0)),.l⟩,⟨(some ((.v 5),false)),(.bf (.v 0)),.l⟩,⟨(some ((.v 6),false)),(.bin .neq 3 (.v 3) (.v 0)),.l⟩,⟨none,(.pick (.v 7) (.c (.b true)) (.v 0)),(.k 27)⟩]) (.cond (.s 27) (.seq (.reg [⟨none,(.mv (.c (.b false))),(.k 4)⟩]) .ret) .skip)) (.seq (.seq (.reg [⟨none,(.fa 1 (.s 3)),.l⟩,⟨none,(.ld none (.v 0)),(.k 29)⟩,⟨none,(.bf (.s 29)),(.k 30)⟩,⟨none,(.mv (.c (.i .i64 0))),(.k 31)⟩]) (.blk 0 (iD 3 31 30 32 0 1 Le))) (.seq (.reg [⟨none,(.mv (.c (.b true))),(.k 4)⟩]) .ret))))
theorem adf:dM Tryz.prog sl0 181=some ([true,true],Xx,[(.t 4)]):=by kernel_rfl
def Xz:MC:=(.reg [⟨none,(.mv (.s 0)),.l⟩,⟨none,(.mv (.s 0)),.l⟩,⟨none,(.gI (.v 0)),.l⟩,⟨none,(.fa 0 (.v 0)),.l⟩,⟨none,(.ld none (.v 0)),.l⟩,⟨none,(.mv (.s 1)),.l⟩,⟨none,(.uE 3 1 [(.i .i64 0)] [(0,(1,(.v 0)))]),.l⟩,⟨none,(.app 3 1 (.v 2) (.v 0)),.l⟩,⟨none,(.gI (.v 7)),.l⟩,⟨none,(.fa 0 (.v 0)),.l⟩,⟨none,(.st 1 (.v 0) (.v 2)),.n⟩])
theorem c183:dM Tryz.prog sl0 183=some ([true,true],Xz,[]):=by kernel_rfl
def SS:MC:=(.seq (.reg [⟨none,(.mv (.c (.i .i64 0))),(.k 2)⟩,⟨none,(.mv (.c (.b false))),(.k 3)⟩]) (.seq (.seq (.fM 0 [⟨0,true,[],none,(.mv (.s 0))⟩,⟨0,true,[0],none,(.gI (.v 0))⟩,⟨0,true,[1],none,(.fa 1 (.v 0))⟩,⟨1,true,[2],none,(.ld none (.v 0))⟩,⟨0,true,[],none,(.mv (.s 0))⟩,⟨0,true,[4],none,(.gI (.v 0))⟩,⟨0,true,[5],none,(.fa 0 (.v 0))⟩,⟨1,true,[6],none,(.ld none (.v 0))⟩,⟨1,true,[7],none,(.bf (.v 0))⟩,⟨0,true,[3,8],none,(.bin .eql 3 (.v 0) (.v 1))⟩] [] [(9,14)]) (.cond (.s 14) (.seq (.reg [⟨none,(.mv (.c (.i .i64 0))),(.k 4)⟩]) (.seq (.reg [⟨none,(.mv (.s 4)),.l⟩,⟨none,(.mv (.v 0)),(.k 2)⟩,⟨none,(.mv (.c (.b false))),(.k 3)⟩]) .ret)) .skip)) (.seq (.reg [⟨none,(.mv (.s 0)),.l⟩,⟨none,(.gI (.v 0)),.l⟩,⟨none,(.fa 1 (.v 0)),.l⟩,⟨none,(.ld none (.v 0)),.l⟩,⟨none,(.bin .add 3 (.v 0) (.c (.i .i64 1))),.l⟩,⟨none,(.gI (.v 4)),.l⟩,⟨none,(.fa 1 (.v 0)),.l⟩,⟨none,(.st 1 (.v 0) (.v 2)),.n⟩]) (.seq (.fM 0 [⟨0,true,[],none,(.mv (.s 0))⟩,⟨0,true,[0],none,(.gI (.v 0))⟩,⟨0,true,[1],none,(.fa 0 (.v 0))⟩,⟨1,true,[2],none,(.ld none (.v 0))⟩,⟨0,true,[],none,(.mv (.s 0))⟩,⟨0,true,[4],none,(.gI (.v 0))⟩,⟨0,true,[5],none,(.fa 1 (.v 0))⟩,⟨1,true,[6],none,(.ld none (.v 0))⟩,⟨0,true,[7],none,(.bin .sub 3 (.v 0) (.c (.i .i64 1)))⟩,⟨0,true,[3,8],none,(.bM 1 (.v 0) (.v 1))⟩,⟨1,true,[9],none,(.ld none (.v 0))⟩,⟨0,true,[10],none,(.mv (.v 0))⟩,⟨0,true,[],none,(.mv (.c (.b true)))⟩] [] [(11,2),(12,3)]) .ret))))
theorem adg:dM Tryz.prog sl0 186=some ([true],SS,[(.t 2),(.t 3)]):=by kernel_rfl
def XA:MC:=(.seq (.reg [⟨none,(.ld none (.s 2)),.l⟩,⟨none,(.mv (.s 0)),.l⟩,⟨none,(.mv (.s 1)),.l⟩,⟨none,(.bM 1 (.v 2) (.v 1)),.l⟩,⟨none,(.st 1 (.v 0) (.v 1)),.n⟩]) (.reg [⟨none,(.mv (.s 0)),.l⟩,⟨none,(.call (.c (.f 183 [])) [(.s 3),(.v 0)]),.l⟩]))
theorem adh:dM Tryz.prog sl0 184=some ([true,true,true,true],XA,[]):=by kernel_rfl
def XB:MC:=(.seq (.reg [⟨none,(.ld none (.s 2)),.l⟩,⟨none,(.mv (.s 0)),.l⟩,⟨none,(.bM 1 (.v 1) (.v 0)),.l⟩,⟨none,(.ld none (.v 0)),.l⟩,⟨none,(.bin .sub 3 (.v 0) (.c (.i .i64 1))),.l⟩,⟨none,(.bM 1 (.v 4) (.v 3)),.l⟩,⟨none,(.st 1 (.v 0) (.v 1)),.n⟩]) (.seq (.reg [⟨none,(.ld none (.s 3)),.l⟩,⟨none,(.mv (.s 0)),.l⟩,⟨none,(.bM 1 (.v 1) (.v 0)),.l⟩,⟨none,(.ld none (.v 0)),.l⟩,⟨none,(.bin .eql 3 (.v 0) (.c (.i .i64 (.negSucc 0)))),.l⟩,⟨none,(.mv (.v 0)),.l⟩,⟨(some ((.v 0),true)),(.fa 1 (.s 4)),.l⟩,⟨(some ((.v 1),true)),(.ld none (.v 0)),.l⟩,⟨(some ((.v 2),true)),(.mv (.s 0)),.l⟩,⟨(some ((.v 3),true)),(.bM 5 (.v 1) (.v 0)),.l⟩,⟨(some ((.v 4),true)),(.fa 4 (.v 0)),.l⟩,⟨(some ((.v 5),true)),(.ld none (.v 0)),.l⟩,⟨(some ((.v 6),true)),(.not (.v 0)),.l⟩,⟨(some ((.v 7),true)),(.mv (.v 0)),.l⟩,⟨(some ((.v 0),false)),(.ld none (.s 2)),.l⟩,⟨(some ((.v 1),false)),(.mv (.s 0)),.l⟩,⟨(some ((.v 2),false)),(.bM 1 (.v 1) (.v 0)),.l⟩,⟨(some ((.v 3),false)),(.ld none (.v 0)),.l⟩,⟨(some ((.v 4),false)),(.bin .eql 3 (.v 0) (.c (.i .i64 0))),.l⟩,⟨(some ((.v 13),true)),(.pick (.v 5) (.c (.b true)) (.v 0)),.l⟩,⟨none,(.pick (.v 14) (.v 0) (.c (.b false))),(.k 34)⟩]) (.cond (.s 34) (.fM 0 [⟨1,true,[],none,(.ld none (.s 5))⟩,⟨0,true,[],none,(.mv (.s 0))⟩,⟨1,true,[],none,(.ld none (.s 3))⟩,⟨0,true,[],none,(.mv (.s 1))⟩,⟨0,true,[2,3],none,(.bM 1 (.v 0) (.v 1))⟩,⟨1,true,[4],none,(.ld none (.v 0))⟩,⟨0,true,[5],none,(.bin .add 3 (.v 0) (.c (.i .i64 1)))⟩,⟨3,true,[0,1,6],none,(.call (.v 0) [(.v 1),(.v 2)])⟩] [] []) .skip)))
theorem adi:dM Tryz.prog sl0 185=some ([true,true,true,true,true,true],XB,[]):=by kernel_rfl
def Lf:MC:=(.seq (.reg [⟨none,(.bM 1 (.s 132) (.s 134)),.l⟩,⟨none,(.ld none (.v 0)),.l⟩,⟨none,(.mv (.v 0)),(.k 21)⟩]) (.reg [⟨none,(.mv (.s 17)),.l⟩,⟨none,(.mv (.s 21)),.l⟩,⟨none,(.mv (.s 18)),.l⟩,⟨none,(.call (.v 2) [(.v 1),(.v 0)]),.l⟩]))
def Ap:MC:=(.seq (.seq (.reg [⟨none,(.mv (.s 19)),(.k 124)⟩]) (.cond (.s 124) .skip (.exit 6))) (.seq (.blk 7 (.seq (.reg [⟨none,(.mv (.s 8)),.l⟩,⟨none,(.mv (.s 18)),.l⟩,⟨none,(.bM 1 (.v 1) (.v 0)),.l⟩,⟨none,(.ld none (.v 0)),(.k 132)⟩,⟨none,(.bf (.s 132)),(.k 133)⟩,⟨none,(.mv (.c (.i .i64 0))),(.k 134)⟩]) (.blk 8 (iD 3 134 133 135 8 9 Lf)))) (.reg [⟨none,(.call (.c (.f 186 [])) [(.s 9)]),.l⟩,⟨none,(.mv (.v 0)),.l⟩,⟨none,(.ext (.v 0) 0),.l⟩,⟨none,(.ext (.v 1) 1),.l⟩,⟨none,(.mv (.v 1)),(.k 18)⟩,⟨none,(.mv (.v 0)),(.k 19)⟩])))
def Ei:MC:=(.seq (.reg [⟨none,(.mv (.s 94)),.l⟩,⟨none,(.bM 5 (.s 92) (.s 94)),.l⟩,⟨none,(.ld (some 5) (.v 0)),.l⟩,⟨none,(.al 45 [(.i .i64 0),(.k 1),(.k 1),(.k 1),(.b false)]),(.k 16)⟩,⟨none,(.mv (.v 2)),(.k 15)⟩,⟨none,(.st 5 (.s 16) (.v 0)),.n⟩]) (.seq (.reg [⟨none,(.fa 4 (.s 16)),.l⟩,⟨none,(.ld none (.v 0)),.l⟩,⟨none,(.mv (.v 0)),.l⟩,⟨(some ((.v 0),true)),(.ld none (.s 7)),.l⟩,⟨(some ((.v 1),true)),(.mv (.s 15)),.l⟩,⟨(some ((.v 2),true)),(.bM 1 (.v 1) (.v 0)),.l⟩,⟨(some ((.v 3),true)),(.ld none (.v 0)),.l⟩,⟨(some ((.v 4),true)),(.bin .eql 3 (.v 0) (.c (.i .i64 0))),.l⟩,⟨none,(.pick (.v 5) (.v 0) (.c (.b false))),.l⟩,⟨none,(.mv (.v 0)),.l⟩,⟨(some ((.v 0),true)),(.ld none (.s 6)),.l⟩,⟨(some ((.v 1),true)),(.mv (.s 15)),.l⟩,⟨(some ((.v 2),true)),(.bM 1 (.v 1) (.v 0)),.l⟩,⟨(some ((.v 3),true)),(.ld none (.v 0)),.l⟩,⟨(some ((.v 4),true)),(.bin .eql 3 (.v 0) (.c (.i .i64 (.negSucc 0)))),.l⟩,⟨none,(.pick (.v 5) (.v 0) (.c (.b false))),(.k 114)⟩]) (.cond (.s 114) (.reg [⟨none,(.ld none (.s 14)),.l⟩,⟨none,(.mv (.s 15)),.l⟩,⟨none,(.call (.v 1) [(.v 0),(.c (.i .i64 1))]),.l⟩]) .skip)))
def Ej:MC:=(.seq (.reg [⟨none,(.bM 2 (.s 59) (.s 61)),.l⟩,⟨none,(.ld (some 2) (.v 0)),.l⟩,⟨none,(.al 223 [(.i .i64 0),(.i .i64 0)]),(.k 13)⟩,⟨none,(.st 2 (.s 13) (.v 0)),.n⟩]) (.fM 2 [⟨0,true,[],none,(.mv (.s 8))⟩,⟨0,true,[],none,(.fa 1 (.s 13))⟩,⟨1,true,[1],none,(.ld none (.v 0))⟩,⟨0,true,[],none,(.mv (.s 8))⟩,⟨0,true,[],none,(.fa 1 (.s 13))⟩,⟨1,true,[4],none,(.ld none (.v 0))⟩,⟨0,true,[3,5],none,(.bM 1 (.v 0) (.v 1))⟩,⟨1,true,[6],none,(.ld none (.v 0))⟩,⟨0,true,[],none,(.mv (.s 10))⟩,⟨2,true,[8],none,(.uE 3 1 [(.i .i64 0)] [(0,(1,(.v 0)))])⟩,⟨3,true,[7,9],none,(.app 3 1 (.v 0) (.v 1))⟩,⟨0,true,[0,2],none,(.bM 1 (.v 0) (.v 1))⟩,⟨3,true,[10,11],none,(.st 1 (.v 1) (.v 0))⟩] [(2,11)] []))
def El:MC:=(.seq (.reg [⟨none,(.mv (.s 38)),.l⟩,⟨none,(.bM 5 (.s 36) (.s 38)),.l⟩,⟨none,(.ld (some 5) (.v 0)),.l⟩,⟨none,(.al 45 [(.i .i64 0),(.k 1),(.k 1),(.k 1),(.b false)]),(.k 11)⟩,⟨none,(.mv (.v 2)),(.k 10)⟩,⟨none,(.st 5 (.s 11) (.v 0)),.n⟩]) (.seq (.fM 0 [⟨1,true,[],none,(.ld none (.s 6))⟩,⟨0,true,[],none,(.mv (.s 10))⟩,⟨1,true,[],none,(.ld none (.s 7))⟩,⟨0,true,[],none,(.mv (.s 10))⟩,⟨0,true,[],none,(.fa 2 (.s 3))⟩,⟨1,true,[4],none,(.ld none (.v 0))⟩,⟨0,true,[],none,(.mv (.s 10))⟩,⟨0,true,[5,6],none,(.bM 1 (.v 0) (.v 1))⟩,⟨1,true,[7],none,(.ld none (.v 0))⟩,⟨1,true,[8],none,(.bf (.v 0))⟩,⟨0,true,[0,1],none,(.bM 1 (.v 0) (.v 1))⟩,⟨3,true,[10],none,(.st 1 (.v 0) (.c (.i .i64 (.negSucc 0))))⟩,⟨0,true,[2,3],none,(.bM 1 (.v 0) (.v 1))⟩,⟨3,true,[9,12],none,(.st 1 (.v 1) (.v 0))⟩] [(2,12),(9,12)] []) (.seq (.seq (.reg [⟨none,(.fa 2 (.s 3)),.l⟩,⟨none,(.ld none (.v 0)),.l⟩,⟨none,(.mv (.s 10)),.l⟩,⟨none,(.bM 1 (.v 1) (.v 0)),.l⟩,⟨none,(.ld none (.v 0)),(.k 59)⟩,⟨none,(.bf (.s 59)),(.k 60)⟩,⟨none,(.mv (.c (.i .i64 0))),(.k 61)⟩]) (.blk 2 (iD 3 61 60 62 2 3 Ej))) (.seq (.reg [⟨none,(.ld (some 7) (.s 2)),.l⟩,⟨none,(.fa 0 (.s 11)),.l⟩,⟨none,(.ld (some 4) (.v 0)),.l⟩,⟨none,(.fa 0 (.s 3)),.l⟩,⟨none,(.ld none (.v 0)),.l⟩,⟨none,(.call (.c (.f 182 [])) [(.v 4),(.v 2),(.v 0)]),(.k 83)⟩]) (.cond (.s 83) (.seq (.reg [⟨none,(.ld none (.s 6)),.l⟩,⟨none,(.mv (.s 10)),.l⟩,⟨none,(.bM 1 (.v 1) (.v 0)),.l⟩,⟨none,(.st 1 (.v 0) (.c (.i .i64 0))),.n⟩]) (.reg [⟨none,(.mv (.s 10)),.l⟩,⟨none,(.call (.c (.f 183 [])) [(.s 9),(.v 0)]),.l⟩])) .skip)))))
def XC:MC:=(.seq (.reg [⟨none,(.box 27 7 (.s 0)),(.k 2)⟩,⟨none,(.box 150 3 (.s 1)),(.k 3)⟩,⟨none,(.mv (.c (.k 1))),(.k 4)⟩]) (.seq (.seq (.reg [⟨none,(.ld (some 7) (.s 2)),.l⟩,⟨none,(.ld (some 3) (.s 3)),.l⟩,⟨none,(.call (.c (.f 181 [])) [(.v 1),(.v 0)]),.l⟩,⟨none,(.not (.v 0)),(.k 25)⟩]) (.cond (.s 25) (.seq (.reg [⟨none,(.mv (.c (.k 1))),(.k 4)⟩]) .ret) .skip)) (.seq (.reg [⟨none,(.fa 1 (.s 3)),.l⟩,⟨none,(.ld none (.v 0)),.l⟩,⟨none,(.bf (.v 0)),.l⟩,⟨none,(.mv (.v 0)),(.k 5)⟩]) (.seq (.reg [⟨none,(.mv (.s 5)),.l⟩,⟨none,(.zR 3 [(.i .i64 0)] (.v 0) (.v 0)),.l⟩,⟨none,(.al 22 [(.k 1)]),(.k 6)⟩,⟨none,(.st 1 (.s 6) (.v 0)),.n⟩]) (.seq (.reg [⟨none,(.mv (.s 5)),.l⟩,⟨none,(.zR 3 [(.i .i64 0)] (.v 0) (.v 0)),.l⟩,⟨none,(.al 22 [(.k 1)]),(.k 7)⟩,⟨none,(.st 1 (.s 7) (.v 0)),.n⟩]) (.seq (.reg [⟨none,(.mv (.s 5)),.l⟩,⟨none,(.zR 22 [(.k 1)] (.v 0) (.v 0)),.l⟩,⟨none,(.mv (.v 0)),(.k 8)⟩]) (.seq (.reg [⟨none,(.al 323 [(.k 1),(.i .i64 0)]),(.k 9)⟩]) (.seq (.seq (.reg [⟨none,(.fa 1 (.s 3)),.l⟩,⟨none,(.ld none (.v 0)),(.k 36)⟩,⟨none,(.bf (.s 36)),(.k 37)⟩,⟨none,(.mv (.c (.i .i64 0))),(.k 38)⟩]) (.blk 0 (iD 3 38 37 39 0 1 El))) (.seq (.reg [⟨none,(.AQ 184 [(.s 6),(.s 9)]),.l⟩,⟨none,(.al 303 [(.k 3)]),(.k 14)⟩,⟨none,(.st 1 (.s 14) (.v 0)),.n⟩]) (.seq (.seq (.reg [⟨none,(.fa 1 (.s 3)),.l⟩,⟨none,(.ld none (.v 0)),(.k 92)⟩,⟨none,(.bf (.s 92)),(.k 93)⟩,⟨none,(.mv (.c (.i .i64 0))),(.k 94)⟩]) (.blk 4 (iD 3 94 93 95 4 5 Ei))) (.seq (.reg [⟨none,(.AQ 185 [(.s 7),(.s 6),(.s 3),(.s 14)]),.l⟩,⟨none,(.mv (.v 0)),(.k 17)⟩]) (.seq (.seq (.reg [⟨none,(.call (.c (.f 186 [])) [(.s 9)]),.l⟩,⟨none,(.mv (.v 0)),.l⟩,⟨none,(.ext (.v 0) 0),.l⟩,⟨none,(.ext (.v 1) 1),.l⟩,⟨none,(.mv (.v 1)),(.k 18)⟩,⟨none,(.mv (.v 0)),(.k 19)⟩]) (.blk 6 (.loop Ap))) (.seq (.reg [⟨none,(.ld none (.s 6)),.l⟩,⟨none,(.mv (.v 0)),(.k 4)⟩]) .ret)))))))))))))
theorem c105:dM Tryz.prog sl0 105=some ([true,true],XC,[(.t 4)]):=by kernel_rfl
def Qp:MC:=(.seq (.reg [⟨none,(.mv (.s 17)),.l⟩,⟨none,(.bM 1 (.s 15) (.s 17)),.l⟩,⟨none,(.ld none (.v 0)),.l⟩,⟨none,(.mv (.v 2)),(.k 7)⟩,⟨none,(.mv (.v 0)),(.k 8)⟩]) (.reg [⟨none,(.mv (.s 6)),.l⟩,⟨none,(.mv (.s 7)),.l⟩,⟨none,(.mv (.s 8)),.l⟩,⟨none,(.bin .eql 3 (.v 0) (.c (.i .i64 (.negSucc 0)))),.l⟩,⟨none,(.bM 1 (.v 3) (.v 2)),.l⟩,⟨none,(.st 1 (.v 0) (.v 1)),.n⟩]))
def m52:MC:=(.seq (.reg [⟨none,(.box 27 7 (.s 0)),(.k 2)⟩,⟨none,(.box 150 3 (.s 1)),(.k 3)⟩,⟨none,(.mv (.c (.k 1))),(.k 4)⟩]) (.seq (.reg [⟨none,(.ld (some 7) (.s 2)),.l⟩,⟨none,(.ld (some 3) (.s 3)),.l⟩,⟨none,(.call (.c (.f 105 [])) [(.v 1),(.v 0)]),.l⟩,⟨none,(.mv (.v 0)),(.k 5)⟩]) (.seq (.reg [⟨none,(.mv (.s 5)),.l⟩,⟨none,(.bf (.v 0)),.l⟩,⟨none,(.zR 4 [(.b false)] (.v 0) (.v 0)),.l⟩,⟨none,(.mv (.v 0)),(.k 6)⟩]) (.seq (.seq (.reg [⟨none,(.mv (.s 5)),(.k 15)⟩,⟨none,(.bf (.s 15)),(.k 16)⟩,⟨none,(.mv (.c (.i .i64 0))),(.k 17)⟩]) (.blk 0 (iD 3 17 16 18 0 1 Qp))) (.seq (.reg [⟨none,(.mv (.s 6)),.l⟩,⟨none,(.mv (.v 0)),(.k 4)⟩]) .ret)))))
theorem c52:dM Tryz.prog sl0 52=some ([true,true],m52,[(.t 4)]):=by kernel_rfl
def Qq:MC:=(.seq (.reg [⟨none,(.bM 2 (.s 39) (.s 41)),.l⟩,⟨none,(.ld (some 2) (.v 0)),.l⟩,⟨none,(.al 223 [(.i .i64 0),(.i .i64 0)]),(.k 9)⟩,⟨none,(.st 2 (.s 9) (.v 0)),.n⟩]) (.seq (.reg [⟨none,(.mv (.s 1)),.l⟩,⟨none,(.fa 1 (.s 9)),.l⟩,⟨none,(.ld none (.v 0)),.l⟩,⟨none,(.bM 1 (.v 2) (.v 0)),.l⟩,⟨none,(.ld none (.v 0)),(.k 49)⟩]) (.cond (.s 49) (.seq (.reg [⟨none,(.mv (.s 5)),.l⟩,⟨none,(.mv (.s 6)),.l⟩,⟨none,(.fa 0 (.s 9)),.l⟩,⟨none,(.ld none (.v 0)),.l⟩,⟨none,(.bM 1 (.v 3) (.v 2)),.l⟩,⟨none,(.st 1 (.v 0) (.v 1)),.n⟩]) (.exit 1)) .skip)))
def Qr:MC:=(.seq (.reg [⟨none,(.mv (.s 17)),.l⟩,⟨none,(.bM 5 (.s 15) (.s 17)),.l⟩,⟨none,(.ld (some 5) (.v 0)),.l⟩,⟨none,(.al 45 [(.i .i64 0),(.k 1),(.k 1),(.k 1),(.b false)]),(.k 7)⟩,⟨none,(.mv (.v 2)),(.k 6)⟩,⟨none,(.st 5 (.s 7) (.v 0)),.n⟩]) (.seq (.reg [⟨none,(.mv (.s 5)),.l⟩,⟨none,(.mv (.s 6)),.l⟩,⟨none,(.bM 1 (.v 1) (.v 0)),.l⟩,⟨none,(.st 1 (.v 0) (.c (.i .i64 (.negSucc 1)))),.n⟩]) (.seq (.seq (.reg [⟨none,(.fa 4 (.s 7)),.l⟩,⟨none,(.ld none (.v 0)),.l⟩,⟨none,(.not (.v 0)),.l⟩,⟨none,(.mv (.v 0)),.l⟩,⟨(some ((.v 0),false)),(.mv (.s 1)),.l⟩,⟨(some ((.v 1),false)),(.mv (.s 6)),.l⟩,⟨(some ((.v 2),false)),(.bM 1 (.v 1) (.v 0)),.l⟩,⟨(some ((.v 3),false)),(.ld none (.v 0)),.l⟩,⟨(some ((.v 4),false)),(.not (.v 0)),.l⟩,⟨none,(.pick (.v 5) (.c (.b true)) (.v 0)),(.k 34)⟩]) (.cond (.s 34) (.exit 1) .skip)) (.seq (.reg [⟨none,(.fa 2 (.s 2)),.l⟩,⟨none,(.ld none (.v 0)),.l⟩,⟨none,(.mv (.s 6)),.l⟩,⟨none,(.bM 1 (.v 1) (.v 0)),.l⟩,⟨none,(.ld none (.v 0)),(.k 39)⟩,⟨none,(.bf (.s 39)),(.k 40)⟩,⟨none,(.mv (.c (.i .i64 0))),(.k 41)⟩]) (.blk 2 (iD 3 41 40 42 2 3 Qq))))))
def m51:MC:=(.seq (.reg [⟨none,(.box 150 3 (.s 0)),(.k 2)⟩,⟨none,(.mv (.c (.k 1))),(.k 4)⟩]) (.seq (.reg [⟨none,(.fa 1 (.s 2)),.l⟩,⟨none,(.ld none (.v 0)),.l⟩,⟨none,(.bf (.v 0)),.l⟩,⟨none,(.zR 3 [(.i .i64 0)] (.v 0) (.v 0)),.l⟩,⟨none,(.mv (.v 0)),(.k 5)⟩]) (.seq .skip (.seq (.seq (.reg [⟨none,(.fa 1 (.s 2)),.l⟩,⟨none,(.ld none (.v 0)),(.k 15)⟩,⟨none,(.bf (.s 15)),(.k 16)⟩,⟨none,(.mv (.c (.i .i64 0))),(.k 17)⟩]) (.blk 0 (iD 3 17 16 18 0 1 Qr))) (.seq (.reg [⟨none,(.mv (.s 5)),.l⟩,⟨none,(.mv (.v 0)),(.k 4)⟩]) .ret)))))
theorem c51:dM Tryz.prog sl0 51=some ([true,true],m51,[(.t 4)]):=by kernel_rfl
def Qt:MC:=(.seq (.reg [⟨none,(.bM 2 (.s 14) (.s 16)),.l⟩,⟨none,(.ld (some 2) (.v 0)),.l⟩,⟨none,(.al 223 [(.i .i64 0),(.i .i64 0)]),(.k 9)⟩,⟨none,(.st 2 (.s 9) (.v 0)),.n⟩]) (.seq (.reg [⟨none,(.fa 0 (.s 9)),.l⟩,⟨none,(.ld none (.v 0)),.l⟩,⟨none,(.mv (.s 2)),.l⟩,⟨none,(.bin .eql 3 (.v 1) (.v 0)),(.k 23)⟩]) (.cond (.s 23) (.seq (.reg [⟨none,(.fa 1 (.s 9)),.l⟩,⟨none,(.ld none (.v 0)),.l⟩,⟨none,(.mv (.v 0)),(.k 6)⟩,⟨none,(.mv (.c (.b true))),(.k 7)⟩]) .ret) .skip)))
def m55:MC:=(.seq (.reg [⟨none,(.box 150 3 (.s 0)),(.k 3)⟩,⟨none,(.mv (.c (.i .i64 0))),(.k 6)⟩,⟨none,(.mv (.c (.b false))),(.k 7)⟩]) (.seq (.seq (.reg [⟨none,(.fa 2 (.s 3)),.l⟩,⟨none,(.ld none (.v 0)),.l⟩,⟨none,(.mv (.s 1)),.l⟩,⟨none,(.bM 1 (.v 1) (.v 0)),.l⟩,⟨none,(.ld none (.v 0)),(.k 14)⟩,⟨none,(.bf (.s 14)),(.k 15)⟩,⟨none,(.mv (.c (.i .i64 0))),(.k 16)⟩]) (.blk 0 (iD 3 16 15 17 0 1 Qt))) (.seq (.reg [⟨none,(.mv (.c (.i .i64 0))),(.k 6)⟩,⟨none,(.mv (.c (.b false))),(.k 7)⟩]) .ret)))
theorem c55:dM Tryz.prog sl0 55=some ([true,true,true],m55,[(.t 6),(.t 7)]):=by kernel_rfl
def m54:MC:=(.seq (.reg [⟨none,(.box 27 7 (.s 0)),(.k 3)⟩,⟨none,(.box 43 4 (.s 1)),(.k 4)⟩,⟨none,(.mv (.c (.i .i64 0))),(.k 6)⟩]) (.seq (.seq (.reg [⟨none,(.mv (.s 2)),.l⟩,⟨none,(.bin .eql 3 (.v 0) (.c (.i .i64 (.negSucc 0)))),.l⟩,⟨none,(.mv (.v 0)),.l⟩,⟨(some ((.v 0),false)),(.fa 3 (.s 3)),.l⟩,⟨(some ((.v 1),false)),(.ld none (.v 0)),.l⟩,⟨(some ((.v 2),false)),(.mv (.s 2)),.l⟩,⟨(some ((.v 3),false)),(.bM 7 (.v 1) (.v 0)),.l⟩,⟨(some ((.v 4),false)),(.fa 1 (.v 0)),.l⟩,⟨(some ((.v 5),false)),(.ld none (.v 0)),.l⟩,⟨(some ((.v 6),false)),(.bin .eql 3 (.v 0) (.c (.i .i64 (.negSucc 0)))),.l⟩,⟨none,(.pick (.v 7) (.c (.b true)) (.v 0)),(.k 17)⟩]) (.cond (.s 17) (.seq (.reg [⟨none,(.mv (.c (.i .i64 (.negSucc 0)))),(.k 6)⟩]) .ret) .skip)) (.seq (.fM 0 [⟨0,true,[],none,(.fa 1 (.s 4))⟩,⟨1,true,[0],none,(.ld none (.v 0))⟩,⟨0,true,[],none,(.fa 3 (.s 3))⟩,⟨1,true,[2],none,(.ld none (.v 0))⟩,⟨0,true,[],none,(.mv (.s 2))⟩,⟨0,true,[3,4],none,(.bM 7 (.v 0) (.v 1))⟩,⟨0,true,[5],none,(.fa 1 (.v 0))⟩,⟨1,true,[6],none,(.ld none (.v 0))⟩,⟨0,true,[1,7],none,(.bM 1 (.v 0) (.v 1))⟩,⟨1,true,[8],none,(.ld none (.v 0))⟩,⟨0,true,[9],none,(.mv (.v 0))⟩] [] [(10,6)]) .ret)))
theorem c54:dM Tryz.prog sl0 54=some ([true,true,true],m54,[(.t 6)]):=by kernel_rfl
def m53:MC:=(.seq (.reg [⟨none,(.ld none (.s 1)),.l⟩,⟨none,(.mv (.s 0)),.l⟩,⟨none,(.uE 3 1 [(.i .i64 0)] [(0,(1,(.v 0)))]),.l⟩,⟨none,(.app 3 1 (.v 2) (.v 0)),.l⟩,⟨none,(.st 1 (.s 1) (.v 0)),.n⟩]) (.seq (.reg [⟨none,(.ld none (.s 2)),.l⟩,⟨none,(.mv (.v 0)),(.k 7)⟩]) (.seq (.seq (.fM 0 [⟨1,true,[],none,(.ld (some 7) (.s 3))⟩,⟨0,true,[],none,(.fa 1 (.s 4))⟩,⟨1,true,[1],none,(.ld none (.v 0))⟩,⟨1,true,[],none,(.ld none (.s 2))⟩,⟨0,true,[2,3],none,(.bM 5 (.v 0) (.v 1))⟩,⟨0,true,[4],none,(.fa 0 (.v 0))⟩,⟨1,true,[5],none,(.ld (some 4) (.v 0))⟩,⟨0,true,[],none,(.mv (.s 0))⟩,⟨3,true,[0,6,7],none,(.call (.c (.f 54 [])) [(.v 0),(.v 1),(.v 2)])⟩,⟨1,true,[],none,(.ld none (.s 5))⟩,⟨0,true,[8,9],none,(.bin .neq 3 (.v 0) (.v 1))⟩] [(9,0)] [(10,25)]) (.cond (.s 25) (.reg [⟨none,(.ld (some 3) (.s 4)),.l⟩,⟨none,(.ld none (.s 2)),.l⟩,⟨none,(.call (.c (.f 55 [])) [(.v 1),(.v 0),(.c (.i .i64 (.negSucc 1)))]),.l⟩,⟨none,(.mv (.v 0)),.l⟩,⟨none,(.ext (.v 0) 0),.l⟩,⟨none,(.ext (.v 1) 1),.l⟩,⟨none,(.mv (.v 1)),(.k 7)⟩]) .skip)) (.seq (.reg [⟨none,(.ld (some 3) (.s 4)),.l⟩,⟨none,(.mv (.s 7)),.l⟩,⟨none,(.mv (.s 0)),.l⟩,⟨none,(.call (.c (.f 55 [])) [(.v 2),(.v 1),(.v 0)]),.l⟩,⟨none,(.mv (.v 0)),.l⟩,⟨none,(.ext (.v 0) 0),.l⟩,⟨none,(.ext (.v 1) 1),.l⟩,⟨none,(.mv (.v 1)),(.k 8)⟩,⟨none,(.mv (.v 0)),(.k 9)⟩]) (.seq (.reg [⟨none,(.mv (.s 9)),(.k 39)⟩]) (.cond (.s 39) (.reg [⟨none,(.mv (.s 8)),.l⟩,⟨none,(.st 1 (.s 2) (.v 0)),.n⟩]) .skip))))))
theorem c53:dM Tryz.prog sl0 53=some ([true,true,true,true,true,true],m53,[]):=by kernel_rfl
def Lg:MC:=(.seq (.seq (.reg [⟨none,(.mv (.s 12)),.l⟩,⟨none,(.ld none (.s 14)),.l⟩,⟨none,(.bM 1 (.v 1) (.v 0)),.l⟩,⟨none,(.ld none (.v 0)),.l⟩,⟨none,(.bin .neq 3 (.v 0) (.c (.i .i64 (.negSucc 1)))),.l⟩,⟨none,(.mv (.v 0)),.l⟩,⟨(some ((.v 0),true)),(.ld none (.s 13)),.l⟩,⟨(some ((.v 1),true)),(.bf (.v 0)),.l⟩,⟨(some ((.v 2),true)),(.bin .leq 3 (.v 0) (.c (.i .i64 4000))),.l⟩,⟨none,(.pick (.v 3) (.v 0) (.c (.b false))),(.k 80)⟩]) (.cond (.s 80) .skip (.exit 4))) (.blk 5 (.reg [⟨none,(.mv (.s 15)),.l⟩,⟨none,(.mv (.s 12)),.l⟩,⟨none,(.ld none (.s 14)),.l⟩,⟨none,(.bM 1 (.v 1) (.v 0)),.l⟩,⟨none,(.ld none (.v 0)),.l⟩,⟨none,(.call (.v 4) [(.v 0)]),.l⟩])))
def Qu:MC:=(.seq (.reg [⟨none,(.bM 1 (.s 55) (.s 57)),.l⟩,⟨none,(.ld none (.v 0)),.l⟩,⟨none,(.mv (.v 0)),(.k 17)⟩]) (.seq (.seq (.fM 0 [⟨0,true,[],none,(.fa 1 (.s 8))⟩,⟨1,true,[0],none,(.ld none (.v 0))⟩,⟨1,true,[],none,(.ld none (.s 14))⟩,⟨0,true,[1,2],none,(.bM 5 (.v 0) (.v 1))⟩,⟨0,true,[3],none,(.fa 0 (.v 0))⟩,⟨0,true,[4],none,(.fa 0 (.v 0))⟩,⟨1,true,[5],none,(.ld none (.v 0))⟩,⟨0,true,[],none,(.fa 5 (.s 3))⟩,⟨1,true,[7],none,(.ld none (.v 0))⟩,⟨0,true,[6,8],none,(.bin .eql 3 (.v 0) (.v 1))⟩] [] [(9,70)]) (.cond (.s 70) (.exit 2) .skip)) (.seq (.blk 4 (.loop Lg)) (.seq (.seq (.fM 0 [⟨1,true,[],none,(.ld (some 7) (.s 3))⟩,⟨0,true,[],none,(.fa 1 (.s 8))⟩,⟨1,true,[1],none,(.ld none (.v 0))⟩,⟨1,true,[],none,(.ld none (.s 14))⟩,⟨0,true,[2,3],none,(.bM 5 (.v 0) (.v 1))⟩,⟨0,true,[4],none,(.fa 0 (.v 0))⟩,⟨1,true,[5],none,(.ld (some 4) (.v 0))⟩,⟨0,true,[],none,(.mv (.s 17))⟩,⟨3,true,[0,6,7],none,(.call (.c (.f 54 [])) [(.v 0),(.v 1),(.v 2)])⟩,⟨1,true,[],none,(.ld none (.s 4))⟩,⟨0,true,[8,9],none,(.bin .neq 3 (.v 0) (.v 1))⟩] [(9,0)] [(10,97)]) (.cond (.s 97) (.reg [⟨none,(.mv (.s 15)),.l⟩,⟨none,(.mv (.s 17)),.l⟩,⟨none,(.call (.v 1) [(.v 0)]),.l⟩]) .skip)) (.seq (.reg [⟨none,(.ld none (.s 13)),.l⟩,⟨none,(.bf (.v 0)),.l⟩,⟨none,(.bin .gtr 3 (.v 0) (.c (.i .i64 4000))),(.k 103)⟩]) (.cond (.s 103) (.seq (.reg [⟨none,(.mv (.c (.k 1))),(.k 6)⟩,⟨none,(.mv (.c (.i .i64 3))),(.k 7)⟩]) .ret) .skip))))))
def Lh:MC:=(.seq (.reg [⟨none,(.bM 1 (.s 26) (.s 28)),.l⟩,⟨none,(.ld none (.v 0)),.l⟩,⟨none,(.mv (.v 0)),(.k 11)⟩]) (.seq (.reg [⟨none,(.mv (.s 11)),.l⟩,⟨none,(.bin .lss 3 (.v 0) (.c (.i .i64 (.negSucc 0)))),.l⟩,⟨none,(.mv (.v 0)),.l⟩,⟨(some ((.v 0),false)),(.mv (.s 11)),.l⟩,⟨(some ((.v 1),false)),(.fa 3 (.s 3)),.l⟩,⟨(some ((.v 2),false)),(.ld none (.v 0)),.l⟩,⟨(some ((.v 3),false)),(.bf (.v 0)),.l⟩,⟨(some ((.v 4),false)),(.bin .geq 3 (.v 3) (.v 0)),.l⟩,⟨none,(.pick (.v 5) (.c (.b true)) (.v 0)),(.k 40)⟩]) (.cond (.s 40) (.seq (.reg [⟨none,(.mv (.c (.k 1))),(.k 6)⟩,⟨none,(.mv (.c (.i .i64 1))),(.k 7)⟩]) .ret) .skip)))
def m20:MC:=(.seq (.reg [⟨none,(.box 27 7 (.s 0)),(.k 3)⟩,⟨none,(.box 3 1 (.s 1)),(.k 4)⟩,⟨none,(.mv (.c (.k 1))),(.k 6)⟩,⟨none,(.mv (.c (.i .i64 0))),(.k 7)⟩]) (.seq (.reg [⟨none,(.ld (some 7) (.s 3)),.l⟩,⟨none,(.ld none (.s 4)),.l⟩,⟨none,(.call (.c (.f 50 [])) [(.v 1),(.v 0)]),.l⟩,⟨none,(.mv (.v 0)),.l⟩,⟨none,(.ext (.v 0) 0),.l⟩,⟨none,(.ext (.v 1) 1),.l⟩,⟨none,(.al 150 [(.i .i64 0),(.k 1),(.k 1)]),(.k 8)⟩,⟨none,(.st 3 (.s 8) (.v 1)),.n⟩,⟨none,(.mv (.v 0)),(.k 9)⟩]) (.seq (.seq (.reg [⟨none,(.mv (.s 9)),.l⟩,⟨none,(.bin .eql 31 (.v 0) (.c (.i .i64 1))),(.k 25)⟩]) (.cond (.s 25) (.seq (.reg [⟨none,(.mv (.c (.k 1))),(.k 6)⟩,⟨none,(.mv (.c (.i .i64 1))),(.k 7)⟩]) .ret) .skip)) (.seq (.seq (.reg [⟨none,(.mv (.s 2)),(.k 26)⟩,⟨none,(.bf (.s 26)),(.k 27)⟩,⟨none,(.mv (.c (.i .i64 0))),(.k 28)⟩]) (.blk 0 (iD 3 28 27 29 0 1 Lh))) (.seq (.seq (.reg [⟨none,(.mv (.s 9)),.l⟩,⟨none,(.bin .neq 31 (.v 0) (.c (.i .i64 0))),.l⟩,⟨none,(.mv (.v 0)),.l⟩,⟨(some ((.v 0),false)),(.mv (.s 2)),.l⟩,⟨(some ((.v 1),false)),(.bf (.v 0)),.l⟩,⟨(some ((.v 2),false)),(.bin .gtr 3 (.v 0) (.c (.i .i64 4000))),.l⟩,⟨none,(.pick (.v 3) (.c (.b true)) (.v 0)),(.k 48)⟩]) (.cond (.s 48) (.seq (.reg [⟨none,(.mv (.c (.k 1))),(.k 6)⟩,⟨none,(.mv (.c (.i .i64 3))),(.k 7)⟩]) .ret) .skip)) (.seq (.fM 0 [⟨1,true,[],none,(.ld (some 3) (.s 8))⟩,⟨1,true,[],none,(.ld (some 7) (.s 3))⟩,⟨1,true,[],none,(.ld (some 3) (.s 8))⟩,⟨3,true,[1,2],none,(.call (.c (.f 52 [])) [(.v 0),(.v 1)])⟩,⟨3,true,[0,3],none,(.call (.c (.f 51 [])) [(.v 0),(.v 1)])⟩,⟨0,true,[4],none,(.mv (.v 0))⟩] [(0,4)] [(5,12)]) (.seq (.reg [⟨none,(.al 22 [(.k 1)]),(.k 13)⟩]) (.seq (.reg [⟨none,(.al 3 [(.i .i64 0)]),(.k 14)⟩,⟨none,(.st 1 (.s 14) (.c (.i .i64 0))),.n⟩]) (.seq (.reg [⟨none,(.AQ 53 [(.s 13),(.s 14),(.s 3),(.s 8),(.s 4)]),.l⟩,⟨none,(.mv (.v 0)),(.k 15)⟩]) (.seq (.seq (.reg [⟨none,(.mv (.s 2)),(.k 55)⟩,⟨none,(.bf (.s 55)),(.k 56)⟩,⟨none,(.mv (.c (.i .i64 0))),(.k 57)⟩]) (.blk 2 (iD 3 57 56 58 2 3 Qu))) (.seq (.reg [⟨none,(.ld none (.s 13)),.l⟩,⟨none,(.mv (.v 0)),(.k 6)⟩,⟨none,(.mv (.c (.i .i64 0))),(.k 7)⟩]) .ret)))))))))))
theorem c20:dM Tryz.prog sl0 20=some ([true,true,true],m20,[(.t 6),(.t 7)]):=by kernel_rfl
def Li:MC:=(.seq (.reg [⟨none,(.mv (.s 38)),.l⟩,⟨none,(.bM 5 (.s 36) (.s 38)),.l⟩,⟨none,(.ld (some 5) (.v 0)),.l⟩,⟨none,(.al 45 [(.i .i64 0),(.k 1),(.k 1),(.k 1),(.b false)]),(.k 13)⟩,⟨none,(.mv (.v 2)),(.k 12)⟩,⟨none,(.st 5 (.s 13) (.v 0)),.n⟩]) (.seq (.reg [⟨none,(.mv (.s 10)),.l⟩,⟨none,(.mv (.s 12)),.l⟩,⟨none,(.bM 1 (.v 1) (.v 0)),.l⟩,⟨none,(.ld none (.v 0)),(.k 46)⟩]) (.cond (.s 46) (.fM 2 [⟨0,true,[],none,(.fa 1 (.s 11))⟩,⟨1,true,[0],none,(.ld none (.v 0))⟩,⟨1,true,[],none,(.ld (some 5) (.s 13))⟩,⟨1,true,[],none,(.ld (some 3) (.s 8))⟩,⟨0,true,[],none,(.mv (.s 10))⟩,⟨0,true,[],none,(.mv (.s 12))⟩,⟨3,true,[3,4,5],none,(.call (.c (.f 194 [])) [(.v 0),(.v 1),(.v 2)])⟩,⟨0,true,[2,6],none,(.jH [(.i .i64 0),(.k 1),(.k 1),(.k 1),(.b false),(.i .i64 0)] [(0,(5,(.v 0))),(5,(1,(.v 1)))])⟩,⟨2,true,[7],none,(.uE 163 1 [(.i .i64 0),(.k 1),(.k 1),(.k 1),(.b false),(.i .i64 0)] [(0,(6,(.v 0)))])⟩,⟨3,true,[1,8],none,(.app 163 6 (.v 0) (.v 1))⟩,⟨0,true,[],none,(.fa 1 (.s 11))⟩,⟨3,true,[9,10],none,(.st 1 (.v 1) (.v 0))⟩] [(1,7),(2,7)] []) .skip)))
def XD:MC:=(.seq (.reg [⟨none,(.box 27 7 (.s 0)),(.k 3)⟩,⟨none,(.box 45 5 (.s 2)),(.k 5)⟩,⟨none,(.al 80 [(.i .i64 0),(.k 1)]),(.k 6)⟩,⟨none,(.mv (.c (.i .i64 0))),(.k 7)⟩]) (.seq (.reg [⟨none,(.ld (some 7) (.s 3)),.l⟩,⟨none,(.mv (.s 1)),.l⟩,⟨none,(.ld (some 5) (.s 5)),.l⟩,⟨none,(.call (.c (.f 74 [])) [(.v 2),(.v 1),(.v 0)]),.l⟩,⟨none,(.mv (.v 0)),.l⟩,⟨none,(.ext (.v 0) 0),.l⟩,⟨none,(.ext (.v 1) 1),.l⟩,⟨none,(.al 150 [(.i .i64 0),(.k 1),(.k 1)]),(.k 8)⟩,⟨none,(.st 3 (.s 8) (.v 1)),.n⟩,⟨none,(.mv (.v 0)),(.k 9)⟩]) (.seq (.seq (.reg [⟨none,(.mv (.s 9)),.l⟩,⟨none,(.bin .neq 31 (.v 0) (.c (.i .i64 0))),(.k 22)⟩]) (.cond (.s 22) (.seq (.reg [⟨none,(.jH [(.i .i64 0),(.k 1)] []),.l⟩,⟨none,(.mv (.s 9)),.l⟩,⟨none,(.st 2 (.s 6) (.v 1)),.n⟩,⟨none,(.mv (.v 0)),(.k 7)⟩]) .ret) .skip)) (.seq (.reg [⟨none,(.ld (some 7) (.s 3)),.l⟩,⟨none,(.ld (some 3) (.s 8)),.l⟩,⟨none,(.call (.c (.f 52 [])) [(.v 1),(.v 0)]),.l⟩,⟨none,(.mv (.v 0)),(.k 10)⟩]) (.seq (.seq (.reg [⟨none,(.mv (.s 10)),.l⟩,⟨none,(.bM 1 (.v 0) (.c (.i .i64 0))),.l⟩,⟨none,(.ld none (.v 0)),.l⟩,⟨none,(.not (.v 0)),(.k 31)⟩]) (.cond (.s 31) (.seq (.reg [⟨none,(.jH [(.i .i64 0),(.k 1)] []),.l⟩,⟨none,(.st 2 (.s 6) (.v 0)),.n⟩,⟨none,(.mv (.c (.i .i64 13))),(.k 7)⟩]) .ret) .skip)) (.seq (.reg [⟨none,(.mv (.s 1)),.l⟩,⟨none,(.jH [(.i .i64 0),(.k 1)] [(0,(1,(.v 0)))]),.l⟩,⟨none,(.al 80 [(.i .i64 0),(.k 1)]),(.k 11)⟩,⟨none,(.st 2 (.s 11) (.v 0)),.n⟩]) (.seq (.seq (.reg [⟨none,(.fa 1 (.s 8)),.l⟩,⟨none,(.ld none (.v 0)),(.k 36)⟩,⟨none,(.bf (.s 36)),(.k 37)⟩,⟨none,(.mv (.c (.i .i64 0))),(.k 38)⟩]) (.blk 0 (iD 3 38 37 39 0 1 Li))) (.seq (.reg [⟨none,(.ld (some 2) (.s 11)),.l⟩,⟨none,(.st 2 (.s 6) (.v 0)),.n⟩,⟨none,(.mv (.c (.i .i64 0))),(.k 7)⟩]) .ret))))))))
theorem c119:dM Tryz.prog sl0 119=some ([true,true,true],XD,[(.c 6 (some 2)),(.t 7)]):=by kernel_rfl
def Lj:MC:=(.seq (.reg [⟨none,(.bM 2 (.s 20) (.s 22)),.l⟩,⟨none,(.ld (some 2) (.v 0)),.l⟩,⟨none,(.al 223 [(.i .i64 0),(.i .i64 0)]),(.k 8)⟩,⟨none,(.st 2 (.s 8) (.v 0)),.n⟩]) (.seq (.reg [⟨none,(.mv (.s 1)),.l⟩,⟨none,(.fa 1 (.s 8)),.l⟩,⟨none,(.ld none (.v 0)),.l⟩,⟨none,(.bM 1 (.v 2) (.v 0)),.l⟩,⟨none,(.ld none (.v 0)),(.k 30)⟩]) (.cond (.s 30) (.seq (.reg [⟨none,(.fa 0 (.s 8)),.l⟩,⟨none,(.ld none (.v 0)),.l⟩,⟨none,(.mv (.v 0)),(.k 6)⟩]) .ret) .skip)))
def SV:MC:=(.seq (.reg [⟨none,(.box 150 3 (.s 0)),(.k 3)⟩,⟨none,(.mv (.c (.i .i64 0))),(.k 6)⟩]) (.seq (.seq (.reg [⟨none,(.fa 1 (.s 3)),.l⟩,⟨none,(.ld none (.v 0)),.l⟩,⟨none,(.mv (.s 2)),.l⟩,⟨none,(.bM 5 (.v 1) (.v 0)),.l⟩,⟨none,(.fa 4 (.v 0)),.l⟩,⟨none,(.ld none (.v 0)),.l⟩,⟨none,(.not (.v 0)),(.k 15)⟩]) (.cond (.s 15) (.seq (.reg [⟨none,(.mv (.c (.i .i64 0))),(.k 6)⟩]) .ret) .skip)) (.seq (.seq (.reg [⟨none,(.fa 2 (.s 3)),.l⟩,⟨none,(.ld none (.v 0)),.l⟩,⟨none,(.mv (.s 2)),.l⟩,⟨none,(.bM 1 (.v 1) (.v 0)),.l⟩,⟨none,(.ld none (.v 0)),(.k 20)⟩,⟨none,(.bf (.s 20)),(.k 21)⟩,⟨none,(.mv (.c (.i .i64 0))),(.k 22)⟩]) (.blk 0 (iD 3 22 21 23 0 1 Lj))) (.seq (.reg [⟨none,(.mv (.c (.i .i64 0))),(.k 6)⟩]) .ret))))
theorem c194:dM Tryz.prog sl0 194=some ([true,true,true],SV,[(.t 6)]):=by kernel_rfl
end
end
section
noncomputable section
section
variable {h h':AH} {n n':Nat} {v:CS} {C:aH} {tv:TS} {s:aO} {p:aS} {party:Int} {ps:List (TS×aS)} {wv:List AV} {M:List (List (Int×Nat))} {Q:AV->AH->Nat->Prop}
def qK(C:aH)(s:aO)(p:Int)(i:Nat):Bool:=match s.marks[i]?,C.clauses[i]? with|some m,some k=>nO k m p|_,_=>false
theorem sH(C:aH)(s:aO)(p:Int):anyFailed C s p=(List.range s.marks.length).any (qK C s p):=rfl
theorem OU(K:Nat)(hC:bG h n v C)(hS:dO h n tv s)(so:aU C s)(hQ:∀h' n',Up h n h' n'->Q (.b (anyFailed C s party)) h' n'):CW (EF (K+1)) 182 [.agg (v.av C),.agg (tv.av s),.i .i64 party] h n Q:=by
 have ok:=aH.ok so.con;have:=so.lm;have:=ok.fQ;refine aJ c182 rfl ?_;repeat' (first|(simp (disch:=omega) only[go_sem,Xu,CS.av,TS.av,hS.marks.len])|(with_reducible first|apply aj|apply ah|apply ay|apply aB|apply aA|apply au)<;>intro hd<;>(rw[hd];try simp only[decide_eq_true_eq,decide_eq_false_iff_not,Bool.not_eq_true',Bool.not_eq_false']at hd)|(with_reducible refine aD ?_))
 have u0:∀h0,h0=(Tr.set h n (.row 27 (v.av C))).set (n+1) (.row 43 (tv.av s))->Up h n h0 (n+2):=λh0 e=>by rw[e];exact aL
 have g0:∀h0,h0=(Tr.set h n (.row 27 (v.av C))).set (n+1) (.row 43 (tv.av s))->h0.get n=some (.row 27 (v.av C)):=λh0 e=>by rw[e];simp (disch:=omega) only[go_sem]
 have u0:=u0 _ rfl;have g0:=g0 _ rfl;refine dD s.marks.length (λk h3 n3 G=>(List.range k).any (qK C s party)=false/\Up h n h3 n3/\n+2<=n3/\h3.get n=some (.row 27 (v.av C))/\G=[(2,.i .i64 party),(3,.p n 0),(10,tv.m)]) (by omega) (by omega) (by omega) (by omega) (λk h8 n8 G ⟨_,_,_,_,e⟩=>by subst e;exact⟨rfl,rfl⟩) ⟨rfl,rfl,_,⟨rfl,u0,Nat.le_refl _,g0,rfl⟩,by(repeat' (first|exact aZ|refine aW rfl ?_))⟩ ?_ ?_
 .rintro k h3 n3 G hk ⟨hno,u3,l3,r3,rfl⟩
  obtain⟨b1,o1,a,i1,ha,hb1,rd⟩:=(hS.marks.up u3).fE (k:=(k:Nat)) (by omega) (by omega) (by omega);rw[show((k:Nat):Int).toNat=k by omega]at ha;repeat' (first|(simp (disch:=omega) only[go_sem,Lc,aR i1,rd.el,rd.hd,rd.all,r3,CS.av])|(with_reducible first|apply aj|apply ah|apply ay|apply aB|apply aA|apply au)<;>intro hd<;>(rw[hd];try simp only[decide_eq_true_eq,decide_eq_false_iff_not,Bool.not_eq_true',Bool.not_eq_false']at hd)|(with_reducible refine aD ?_))
  refine tZ (hC.up u3) (by omega) (by omega) λb2 o2 kc t hkc hb2 _ eT=>?_;rw[show((k:Nat):Int).toNat=k by omega]at hkc;have hfa:qK C s party k=nO kc a party:=by unfold qK;rw[ha,hkc]
  have Yv:qK C s party k=false->(List.range (k+1)).any (qK C s party)=false:=λe=>by
   rw[List.range_succ,List.any_append,hno];simp[e]
  have hit:qK C s party k=true->anyFailed C s party=true:=λe=>by
   rw[sH,List.any_eq_true];exact⟨k,List.mem_range.2 hk,e⟩
  repeat' (first|(simp (disch:=omega) only[go_sem,eT.el,eT.hd])|(with_reducible first|apply aj|apply ah|apply ay|apply aB|apply aA|apply au)<;>intro hd<;>(rw[hd];try simp only[decide_eq_true_eq,decide_eq_false_iff_not,Bool.not_eq_true',Bool.not_eq_false']at hd)|(with_reducible refine aD ?_))
  .have e:=hit (by rw[hfa];unfold nO;simp[*])
   rw[e]at hQ;exact hQ _ _ aL
  all_goals exact⟨rfl,rfl,_,⟨Yv (by rw[hfa];unfold nO;simp[*]),by exact aL,by omega,by simp (disch:=omega) only[go_sem,r3],rfl⟩,by(repeat' (first|exact aZ|refine aW rfl ?_))⟩
 .rintro h3 n3 G ⟨hno,u3,_,_,rfl⟩
  repeat' (first|(simp (disch:=omega) only[go_sem])|(with_reducible first|apply aj|apply ah|apply ay|apply aB|apply aA|apply au)<;>intro hd<;>(rw[hd];try simp only[decide_eq_true_eq,decide_eq_false_iff_not,Bool.not_eq_true',Bool.not_eq_false']at hd)|(with_reducible refine aD ?_))
  rw[sH,hno]at hQ;exact hQ _ _ u3
@[reducible] def m_ (party:Int) (v w:AV):List AV:=[.i .i64 party,v,w]
theorem bX.tgt{P:List aS}(a:bX C party p P M){i:Nat}{l:List (Int×Nat)}{m:Int}{j:Nat}(hl:M[i]?=some l)(hm:(m,j)∈l):j<P.length:=by
 have hi:i<P.length:=by rw[<-a.len];exact(List.getElem?_eq_some_iff.1 hl).1
 obtain⟨r,h1,_⟩:=a.back (List.getElem?_eq_some_iff.2 ⟨hi,rfl⟩) hl hm;exact(List.getElem?_eq_some_iff.1 h1).1
theorem yc(K:Nat){vv ww:AV}(hC:bG h n v C)(ho:C.off.length<=1000000)(ai:sw h n vv ww ps wv M)(ia:bX C party p (ps.map (·.2)) M)(h0:0<=party)(h1:party<C.aK)(so:∀x∈ps,aU C x.2.st)(hQ:∀h' n',Up h n h' n'->Q (.b true) h' n'):CW (EF (K+8)) 181 [.agg (v.av C),.agg (m_ party vv ww)] h n Q:=by
 have hsm:=ia.small;have hlen:=ia.len;have hl2:=ai.len;rw[List.length_map]at hsm hlen;refine aJ adf rfl ?_;repeat' (first|(simp (disch:=omega) only[go_sem,Xx,CS.av,ai.row.len,ai.pos.len])|(with_reducible first|apply aj|apply ah|apply ay|apply aB|apply aA|apply au)<;>intro hd<;>(rw[hd];try simp only[decide_eq_true_eq,decide_eq_false_iff_not,Bool.not_eq_true',Bool.not_eq_false']at hd)|(with_reducible refine aD ?_))
 .omega
 .omega
 .omega
 have u0:∀h0,h0=(Tr.set h n (.row 27 (v.av C))).set (n+1) (.row 150 (m_ party vv ww))->Up h n h0 (n+2)/\h0.get n=some (.row 27 (v.av C))/\h0.get (n+1)=some (.row 150 (m_ party vv ww)):=λh0 e=>by
  rw[e];exact⟨by exact aL,by simp (disch:=omega) only[go_sem],by simp (disch:=omega) only[go_sem]⟩
 obtain⟨u0,g0,g1⟩:=u0 _ rfl;refine dD ps.length (λk h3 n3 G=>Up h n h3 n3/\n+2<=n3/\h3.get n=some (.row 27 (v.av C))/\h3.get (n+1)=some (.row 150 (m_ party vv ww))/\G=[(2,.p n 0),(3,.p (n+1) 0),(29,vv)]) (by omega) (by omega) (by omega) (by omega) (λk h8 n8 G ⟨_,_,_,_,e⟩=>by subst e;exact⟨rfl,rfl⟩) ⟨rfl,rfl,_,⟨u0,Nat.le_refl _,g0,g1,rfl⟩,by(repeat' (first|exact aZ|refine aW rfl ?_))⟩ ?_ ?_
 .rintro k h3 n3 G hk ⟨u3,l3,r3,r4,rfl⟩
  obtain⟨b1,o1,x,i1,hx,hb1,rd⟩:=(ai.pos.up u3).fE (k:=(k:Nat)) (by omega) (by omega) (by omega);obtain⟨b2,o2,y,i2,hy,hb2,eT⟩:=(ai.row.up u3).fE (k:=(k:Nat)) (by omega) (by omega) (by omega);rw[show((k:Nat):Int).toNat=k by omega]at hx hy;obtain⟨l,hl⟩:∃l,M[k]?=some l:=⟨M[k]'(by omega),List.getElem?_eq_some_iff.2 ⟨by omega,rfl⟩⟩;have sl:=ai.mv k y l hy hl;have hll:l.length<=100:=by
   have hP:(ps.map (·.2))[k]?=some x.2:=by rw[List.getElem?_map,hx];rfl
   have e1:=(ia.mv k x.2 l hP hl).1;have e3:=sF C party x.2;have:=(aH.ok (so x (List.mem_of_getElem? hx)).con).mR;omega
  repeat' (first|(simp (disch:=omega) only[go_sem,Le,aR i1,aR i2,rd.all,eT.el,eT.hd,r4,sl.len])|(with_reducible first|apply aj|apply ah|apply ay|apply aB|apply aA|apply au)<;>intro hd<;>(rw[hd];try simp only[decide_eq_true_eq,decide_eq_false_iff_not,Bool.not_eq_true',Bool.not_eq_false']at hd)|(with_reducible refine aD ?_))
  have u4:∀h0,h0=(Tr.set h3 n3 (.row 45 [.i .i64 0,.k 1,.k 1,.k 1,.b false])).set n3 (.row 45 (vk x))->Up h3 n3 h0 (n3+1)/\h0.get n3=some (.row 45 (vk x)):=λh0 e=>by
   rw[e];exact⟨by exact aL,aM⟩
  obtain⟨u4,g4⟩:=u4 _ rfl;generalize(Tr.set h3 n3 _).set n3 _=h4 at*;refine dD l.length (λj h5 n5 G=>Up h4 (n3+1) h5 n5/\G=[(2,.p n 0),(3,.p (n+1) 0),(29,vv),(30,.i .i64 (ps.length:Nat)),(31,.i .i64 (k:Nat)),(5,.i .i64 (k:Nat)),(6,.p n3 0),(40,y)]) (by omega) (by omega) (by omega) (by omega) (λk h8 n8 G ⟨_,e⟩=>by subst e;exact⟨rfl,rfl⟩) ⟨rfl,rfl,_,⟨Up.refl _ _,rfl⟩,by(repeat' (first|exact aZ|refine aW rfl ?_))⟩ ?_ ?_
  .rintro j h5 n5 G hj ⟨u5,rfl⟩
   have e5:=u5.le;obtain⟨b3,o3,z,i3,hz,hb3,qH⟩:=(sl.up ((u3.trans u4).trans u5)).fE (k:=(j:Nat)) (by omega) (by omega) (by omega);rw[show((j:Nat):Int).toNat=j by omega]at hz;have hlt:=ia.tgt hl (List.mem_of_getElem? hz);rw[List.length_map]at hlt;have r5:h5.get (n+1)=some (.row 150 (m_ party vv ww)):=by rw[u5.old _ (by omega),u4.old _ (by omega)];exact r4
   repeat' (first|(simp (disch:=omega) only[go_sem,Ld,aR i3,qH.all,r5,ai.pos.len])|(with_reducible first|apply aj|apply ah|apply ay|apply aB|apply aA|apply au)<;>intro hd<;>(rw[hd];try simp only[decide_eq_true_eq,decide_eq_false_iff_not,Bool.not_eq_true',Bool.not_eq_false']at hd)|(with_reducible refine aD ?_))
   .exfalso;omega
   .exfalso;omega
   .exact⟨rfl,rfl,_,⟨by exact aL,rfl⟩,by(repeat' (first|exact aZ|refine aW rfl ?_))⟩
  .rintro h5 n5 G ⟨u5,rfl⟩
   have e5:=u5.le;have r5:h5.get n=some (.row 27 (v.av C)):=by rw[u5.old _ (by omega),u4.old _ (by omega)];exact r3
   have r6:h5.get (n+1)=some (.row 150 (m_ party vv ww)):=by rw[u5.old _ (by omega),u4.old _ (by omega)];exact r4
   have r7:h5.get n3=some (.row 45 (vk x)):=by rw[u5.old _ (by omega)];exact g4
   have u35:Up h n h5 n5:=(u3.trans u4).trans u5;have oks:C.d9 x.2.st=true:=(eU C x.2.st).2 (so x (List.mem_of_getElem? hx));simp (disch:=omega) only[go_sem,r5,r7,CS.av,TS.pv];rw[bA];refine iM _ (hC.up u35) ho ((ai.st x (List.mem_of_getElem? hx)).up u35) λh6 n6 u6=>?_;have e6:=u6.le;repeat' (first|(simp (disch:=omega) only[go_sem,oks])|(with_reducible first|apply aj|apply ah|apply ay|apply aB|apply aA|apply au)<;>intro hd<;>(rw[hd];try simp only[decide_eq_true_eq,decide_eq_false_iff_not,Bool.not_eq_true',Bool.not_eq_false']at hd)|(with_reducible refine aD ?_))
   exact⟨rfl,rfl,_,⟨u35.trans u6,by omega,by rw[u6.old _ (by omega)];exact r5,by rw[u6.old _ (by omega)];exact r6,rfl⟩,by(repeat' (first|exact aZ|refine aW rfl ?_))⟩
 .rintro h3 n3 G ⟨u3,_,_,_,rfl⟩
  repeat' (first|(simp (disch:=omega) only[go_sem])|(with_reducible first|apply aj|apply ah|apply ay|apply aB|apply aA|apply au)<;>intro hd<;>(rw[hd];try simp only[decide_eq_true_eq,decide_eq_false_iff_not,Bool.not_eq_true',Bool.not_eq_false']at hd)|(with_reducible refine aD ?_))
  exact hQ _ _ u3
end
end
end
noncomputable section
abbrev iJ(x:Int):List AV:=[.i .i64 x]
abbrev cn(x:Nat):List AV:=[.i .i64 (x:Nat)]
theorem mH{α:Type}{c:α->List AV}(hw:∀a,(c a).length=1){l:List α}{i:Nat}{a:α}{y:AV}(hi:i<l.length)(hy:c a=[y]):st1 (i*1) y (l.flatMap c)=some ((l.set i a).flatMap c):=by
 rw[Ab,<-hy];exact wV hw l i a hi
theorem oh{t:TypeId}{α:Type}{c:α->List AV}(hw:∀a,(c a).length=1){l:List α}{i:Nat}{a:α}{y:AV}(hi:l[i]?=some a)(hy:c a=[y]):pF (some (.row t (l.flatMap c))) (i*1) none=some y:=by
 have e:=tN hw hi (j:=0) (by omega);rw[Nat.add_zero,hy]at e;exact e
structure II where
 rb:Nat
 ob:Nat
 bb:Nat
 b9:Nat
def II.mem(g:II)(x:Nat):Prop:=x=g.rb\/x=g.ob\/x=g.bb\/x=g.b9
structure mI(h:AH)(n:Nat)(g:II)(X:Nat->Prop)(A:HP)(r op:List Int)(qv:AV)(Q:List Nat)(nx:Nat)(bs:List AV)(B:List (List Nat)):Prop where
 rr:h.get g.rb=some (.row 3 (r.flatMap iJ))
 ro:h.get g.ob=some (.row 3 (op.flatMap iJ))
 rq:h.get g.b9=some (.row 323 [qv,.i .i64 (nx:Nat)])
 rf:h.get g.bb=some (.row 22 (bs.flatMap one))
 gq:Gr h n 3 1 qv cn Q
 lb:bs.length=B.length
 gb:∀(j:Nat)(y:AV)(l:List Nat),bs[j]?=some y->B[j]?=some l->Gr h n 3 1 y cn l
 d1:g.rb≠g.ob/\g.rb≠g.bb/\g.rb≠g.b9/\g.ob≠g.bb/\g.ob≠g.b9/\g.bb≠g.b9
 d2:∀x,blk qv x->¬g.mem x
 d3:∀(j:Nat)(y:AV),bs[j]?=some y->∀x,blk y x->¬g.mem x/\¬blk qv x
 d4:∀(i j:Nat)(y z:AV),bs[i]?=some y->bs[j]?=some z->i≠j->∀x,blk y x->¬blk z x
 Xg:∀x,g.mem x->X x
 Xq:∀x,blk qv x->X x
 Xb:∀(j:Nat)(y:AV),bs[j]?=some y->∀x,blk y x->X x
 lt:∀x,X x->x<n
 A:Kp X h n A
section
variable {h h' h2 h3:AH} {n n' n2 n3:Nat} {g:II} {X:Nat->Prop} {A:HP} {r op:List Int} {qv:AV} {Q:List Nat} {nx:Nat} {bs:List AV} {B:List (List Nat)}
theorem mI.up(a:mI h n g X A r op qv Q nx bs B)(u:Up h n h' n'):mI h' n' g X A r op qv Q nx bs B:=
 have o:∀x,g.mem x->h'.get x=h.get x:=λx hx=>u.old x (a.lt x (a.Xg x hx))
 ⟨(o _ (.inl rfl)).trans a.rr,(o _ (.inr (.inl rfl))).trans a.ro,(o _ (.inr (.inr (.inr rfl)))).trans a.rq,(o _ (.inr (.inr (.inl rfl)))).trans a.rf,a.gq.up u,a.lb,λj y l h1 h2=>(a.gb j y l h1 h2).up u,a.d1,a.d2,a.d3,a.d4,a.Xg,a.Xq,a.Xb,λx hx=>Nat.lt_of_lt_of_le (a.lt x hx) u.le,a.A.up u⟩
theorem mI.turn(a:mI h n g X A r op qv Q nx bs B){y:Nat}(hy:g.mem y)(ob:AO):(∀x,g.mem x->x≠y->(h.set y ob).get x=h.get x)/\Gr (h.set y ob) n 3 1 qv cn Q/\(∀(j:Nat)(z:AV)(l:List Nat),bs[j]?=some z->B[j]?=some l->Gr (h.set y ob) n 3 1 z cn l)/\Kp X (h.set y ob) n A:=
 ⟨λx _ e=>aI e,a.gq.on (Nat.le_refl _) λx _ hx=>aI λe=>a.d2 x hx (by rw[e];exact hy),λj z l h1 h2=>(a.gb j z l h1 h2).on (Nat.le_refl _) λx _ hx=>aI λe=>(a.d3 j z h1 x hx).1 (by rw[e];exact hy),a.A.set (.inl (a.Xg y hy)) (Nat.le_refl _)⟩
theorem mI.SX(a:mI h n g X A r op qv Q nx bs B)(r':List Int):mI (h.set g.rb (.row 3 (r'.flatMap iJ))) n g X A r' op qv Q nx bs B:=by
 obtain⟨t1,t2,t3,t4⟩:=a.turn (y:=g.rb) (.inl rfl) (.row 3 (r'.flatMap iJ));obtain⟨e1,e2,e3,e4,e5,e6⟩:=a.d1;exact⟨aM,(t1 _ (.inr (.inl rfl)) (Ne.symm e1)).trans a.ro,(t1 _ (.inr (.inr (.inr rfl))) (Ne.symm e3)).trans a.rq,(t1 _ (.inr (.inr (.inl rfl))) (Ne.symm e2)).trans a.rf,t2,a.lb,t3,a.d1,a.d2,a.d3,a.d4,a.Xg,a.Xq,a.Xb,a.lt,t4⟩
theorem mI.D8(a:mI h n g X A r op qv Q nx bs B)(o':List Int):mI (h.set g.ob (.row 3 (o'.flatMap iJ))) n g X A r o' qv Q nx bs B:=by
 obtain⟨t1,t2,t3,t4⟩:=a.turn (y:=g.ob) (.inr (.inl rfl)) (.row 3 (o'.flatMap iJ));obtain⟨e1,e2,e3,e4,e5,e6⟩:=a.d1;exact⟨(t1 _ (.inl rfl) e1).trans a.rr,aM,(t1 _ (.inr (.inr (.inr rfl))) (Ne.symm e5)).trans a.rq,(t1 _ (.inr (.inr (.inl rfl))) (Ne.symm e4)).trans a.rf,t2,a.lb,t3,a.d1,a.d2,a.d3,a.d4,a.Xg,a.Xq,a.Xb,a.lt,t4⟩
theorem mI.adk(a:mI h n g X A r op qv Q nx bs B)(m:Nat):mI (h.set g.b9 (.row 323 [qv,.i .i64 (m:Nat)])) n g X A r op qv Q m bs B:=by
 obtain⟨t1,t2,t3,t4⟩:=a.turn (y:=g.b9) (.inr (.inr (.inr rfl))) (.row 323 [qv,.i .i64 (m:Nat)]);obtain⟨e1,e2,e3,e4,e5,e6⟩:=a.d1;exact⟨(t1 _ (.inl rfl) e3).trans a.rr,(t1 _ (.inr (.inl rfl)) e5).trans a.ro,aM,(t1 _ (.inr (.inr (.inl rfl))) e6).trans a.rf,t2,a.lb,t3,a.d1,a.d2,a.d3,a.d4,a.Xg,a.Xq,a.Xb,a.lt,t4⟩
theorem mI.push(a:mI h n g X A r op qv Q nx bs B){v':AV}{i:Nat}(u:Up h n h2 n2)(gr:Gr h3 n3 3 1 v' cn (Q++[i]))(le:n2<=n3)(s:∀x,x<n2->¬blk qv x->h3.get x=h2.get x)(b:∀x,blk v' x->blk qv x\/n2<=x):
 h3.get g.b9=some (.row 323 [qv,.i .i64 (nx:Nat)])/\mI (h3.set g.b9 (.row 323 [v',.i .i64 (nx:Nat)])) n3 g (λx=>X x\/blk v' x) A r op v' (Q++[i]) nx bs B:=by
 have hn:=u.le;have old:∀x,x<n->¬blk qv x->h3.get x=h.get x:=λx hx h2=>by rw[s x (by omega) h2,u.old x hx]
 have new:∀x,blk v' x->x<n->blk qv x:=λx hx hl=>(b x hx).elim id (by omega);have ml:∀x,g.mem x->x<n:=λx hx=>a.lt x (a.Xg x hx);have om:∀x,g.mem x->h3.get x=h.get x:=λx hx=>old x (ml x hx) λk=>a.d2 x k hx;have nv:∀x,blk v' x->¬g.mem x:=λx hx k=>by
  rcases b x hx with e|e
  .exact a.d2 x e k
  .have:=ml x k;omega
 have m9:g.mem g.b9:=.inr (.inr (.inr rfl));obtain⟨e1,e2,e3,e4,e5,e6⟩:=a.d1;refine⟨(om _ m9).trans a.rq,⟨?_,?_,aM,?_,?_,a.lb,λj y l h1 h2=>?_,a.d1,nv,λj y h1 x hx=>⟨(a.d3 j y h1 x hx).1,λk=>?_⟩,a.d4,λx hx=>.inl (a.Xg x hx),λx hx=>.inr hx,λj y h1 x hx=>.inl (a.Xb j y h1 x hx),λx hx=>?_,?_⟩⟩
 .rw[aI e3,om _ (.inl rfl)];exact a.rr
 .rw[aI e5,om _ (.inr (.inl rfl))];exact a.ro
 .rw[aI e6,om _ (.inr (.inr (.inl rfl)))];exact a.rf
 .exact gr.on (Nat.le_refl _) λx _ hx=>aI λk=>nv x hx (by rw[k];exact m9)
 .exact(a.gb j y l h1 h2).on (by omega) λx hx hb=>by
   obtain⟨k1,k2⟩:=a.d3 j y h1 x hb;rw[aI (λk=>k1 (by rw[k];exact m9)),old x hx k2]
 .rcases b x k with e|e
  .exact(a.d3 j y h1 x hx).2 e
  .have:=a.lt x (a.Xb j y h1 x hx);omega
 .rcases hx with hx|hx
  .have:=a.lt x hx;omega
  .exact gr.gU hx
 .refine(a.A.le λx hx (e:X x\/blk v' x)=>e.elim id λe=>a.Xq x (new x e hx)).on (by omega) λx hx e=>?_
  have e1:¬X x:=λk=>e (.inl k);rw[aI (λk=>e1 (by rw[k];exact a.Xg _ m9)),old x hx λk=>e1 (a.Xq x k)]
theorem mI.mZ(a:mI h n g X A r op qv Q nx bs B){v' y:AV}{i j:Nat}{l:List Nat}(hy:bs[j]?=some y)(hl:B[j]?=some l)(u:Up h n h2 n2)(gr:Gr h3 n3 3 1 v' cn (l++[i]))(le:n2<=n3)(s:∀x,x<n2->¬blk y x->h3.get x=h2.get x)(b:∀x,blk v' x->blk y x\/n2<=x):
 h3.get g.bb=some (.row 22 (bs.flatMap one))/\mI (h3.set g.bb (.row 22 ((bs.set j v').flatMap one))) n3 g (λx=>X x\/blk v' x) A r op qv Q nx (bs.set j v') (B.set j (l++[i])):=by
 have hn:=u.le;have old:∀x,x<n->¬blk y x->h3.get x=h.get x:=λx hx h2=>by rw[s x (by omega) h2,u.old x hx]
 have new:∀x,blk v' x->x<n->blk y x:=λx hx hl=>(b x hx).elim id (by omega);have ml:∀x,g.mem x->x<n:=λx hx=>a.lt x (a.Xg x hx);have om:∀x,g.mem x->h3.get x=h.get x:=λx hx=>old x (ml x hx) λk=>(a.d3 j y hy x k).1 hx;have nv:∀x,blk v' x->¬g.mem x/\¬blk qv x:=λx hx=>by
  rcases b x hx with e|e
  .exact a.d3 j y hy x e
  .exact⟨λk=>by have:=ml x k;omega,λk=>by have:=a.lt x (a.Xq x k);omega⟩
 have mb:g.mem g.bb:=.inr (.inr (.inl rfl));have hjl:j<bs.length:=(List.getElem?_eq_some_iff.1 hy).1;have get:∀(k:Nat)(z:AV),(bs.set j v')[k]?=some z->(k=j/\z=v')\/(k≠j/\bs[k]?=some z):=λk z e=>by
  rw[List.getElem?_set]at e;by_cases h:j=k
  .rw[if_pos h,if_pos hjl]at e;exact .inl ⟨h.symm,by cases e;rfl⟩
  .rw[if_neg h]at e;exact .inr ⟨λk=>h k.symm,e⟩
 have nz:∀(k:Nat)(z:AV),k≠j->bs[k]?=some z->∀x,blk v' x->¬blk z x:=λk z hk hz x hx kx=>by
  rcases b x hx with e|e
  .exact a.d4 j k y z hy hz (Ne.symm hk) x e kx
  .have:=a.lt x (a.Xb k z hz x kx);omega
 obtain⟨e1,e2,e3,e4,e5,e6⟩:=a.d1;refine⟨(om _ mb).trans a.rf,⟨?_,?_,?_,aM,?_,by simp[a.lb],λk z l' h1 h2=>?_,a.d1,a.d2,λk z h1 x hx=>?_,λk m z w h1 h2 hkm x hx=>?_,λx hx=>.inl (a.Xg x hx),λx hx=>.inl (a.Xq x hx),λk z h1 x hx=>?_,λx hx=>?_,?_⟩⟩
 .rw[aI e2,om _ (.inl rfl)];exact a.rr
 .rw[aI e4,om _ (.inr (.inl rfl))];exact a.ro
 .rw[aI (Ne.symm e6),om _ (.inr (.inr (.inr rfl)))];exact a.rq
 .exact a.gq.on (by omega) λx hx hb=>by
   rw[aI (λk=>a.d2 x hb (by rw[k];exact mb)),old x hx λk=>(a.d3 j y hy x k).2 hb]
 .rcases get k z h1 with⟨rfl,rfl⟩|⟨hk,hz⟩
  .rw[List.getElem?_set,if_pos rfl,if_pos (by rw[<-a.lb];exact hjl)]at h2
   cases h2
   exact gr.on (Nat.le_refl _) λx _ hx=>aI λe=>(nv x hx).1 (by rw[e];exact mb)
  .rw[List.getElem?_set,if_neg (Ne.symm hk)]at h2
   exact(a.gb k z l' hz h2).on (by omega) λx hx hb=>by
    rw[aI (λe=>(a.d3 k z hz x hb).1 (by rw[e];exact mb)),old x hx λe=>a.d4 j k y z hy hz (Ne.symm hk) x e hb]
 .rcases get k z h1 with⟨rfl,rfl⟩|⟨hk,hz⟩
  .exact nv x hx
  .exact a.d3 k z hz x hx
 .rcases get k z h1 with⟨rfl,rfl⟩|⟨hk,hz⟩
  .rcases get m w h2 with⟨rfl,rfl⟩|⟨hm,hw⟩
   .exact absurd rfl hkm
   .exact nz m w hm hw x hx
  .rcases get m w h2 with⟨rfl,rfl⟩|⟨hm,hw⟩
   .exactλe=>nz k z hk hz x e hx
   .exact a.d4 k m z w hz hw hkm x hx
 .rcases get k z h1 with⟨rfl,rfl⟩|⟨hk,hz⟩
  .exact .inr hx
  .exact .inl (a.Xb k z hz x hx)
 .rcases hx with hx|hx
  .have:=a.lt x hx;omega
  .exact gr.gU hx
 .refine(a.A.le λx hx (e:X x\/blk v' x)=>e.elim id λe=>a.Xb j y hy x (new x e hx)).on (by omega) λx hx e=>?_
  have e1:¬X x:=λk=>e (.inl k);rw[aI (λk=>e1 (by rw[k];exact a.Xg _ mb)),old x hx λk=>e1 (a.Xb j y hy x k)]
theorem mI.sV{A':HP}(a:mI h n g X A r op qv Q nx bs B)(k:Kp X h n A'):mI h n g X A' r op qv Q nx bs B:=
 ⟨a.rr,a.ro,a.rq,a.rf,a.gq,a.lb,a.gb,a.d1,a.d2,a.d3,a.d4,a.Xg,a.Xq,a.Xb,a.lt,k⟩
theorem FN(K:Nat){i:Nat}{R:AV->AH->Nat->Prop}(a:mI h n g X A r op qv Q nx bs B)(hl:Q.length<=100000)(hR:∀v' X' h' n',mI h' n' g X' A r op v' (Q++[i]) nx bs B->n<=n'->(∀x,x<n->¬X x->h'.get x=h.get x)->(∀x,X x->X' x)->(∀x,X' x->X x\/n<=x)->R (.bV []) h' n'):CW (EF (K+1)) 183 [.p g.b9 0,.i .i64 (i:Nat)] h n R:=by
 have rq:=a.rq;refine aJ c183 rfl ?_;simp (disch:=omega) only[go_sem,Xz,rq];refine jX (l2:=[i]) (a.gq.up aL) ⟨rfl,?_⟩ (by simp;omega) λv' h4 n4 g4 l4 s4 b4=>?_
 .show bnd (iE (Tr.get _ _) 0 _) (λr=>mX (Nat.mul 1 1) r)=_
  rw[aM];rfl
 obtain⟨q1,q2⟩:=a.push (show Up h n _ (n+1) by exact aL) g4 l4 s4 b4;simp (disch:=omega) only[go_sem,q1,g4.cl];refine hR _ _ _ _ q2 (by omega) (λx hx hX=>?_) (λx hx=>.inl hx) λx hx=>?_
 .rw[aI (λe=>hX (by rw[e];exact a.Xg _ (.inr (.inr (.inr rfl))))),s4 x (by omega) (λe=>hX (a.Xq x e)),aI (by omega)]
 .rcases hx with e|e
  .exact .inl e
  .rcases b4 x e with e|e
   .exact .inl (a.Xq x e)
   .exact .inr (by omega)
theorem Ll(K:Nat){R:AV->AH->Nat->Prop}(a:mI h n g X A r op qv Q nx bs B)(hl:Q.length<=100000)(hnx:nx<=Q.length)(ZU:nx=Q.length->R (.bV [.i .i64 0,.b false]) h n)
 (hR2:∀to,Q[nx]?=some to->mI (h.set g.b9 (.row 323 [qv,.i .i64 ((nx+1:Nat):Int)])) n g X A r op qv Q (nx+1) bs B->R (.bV [.i .i64 (to:Nat),.b true]) (h.set g.b9 (.row 323 [qv,.i .i64 ((nx+1:Nat):Int)])) n):CW (EF (K+1)) 186 [.p g.b9 0] h n R:=by
 have rq:=a.rq;refine aJ adg rfl ?_;by_cases hn:nx=Q.length
 .have hd:decide ((nx:Int)=(Q.length:Int))=true:=decide_eq_true (by omega)
  repeat' (first|(simp (disch:=omega) only[go_sem,SS,rq,a.gq.len,hd])|(with_reducible first|apply aj|apply ah|apply ay|apply aB|apply aA|apply au)<;>intro hd<;>(rw[hd];try simp only[decide_eq_true_eq,decide_eq_false_iff_not,Bool.not_eq_true',Bool.not_eq_false']at hd)|(with_reducible refine aD ?_))
  exact ZU hn
 .have hd:decide ((nx:Int)=(Q.length:Int))=false:=decide_eq_false (by omega)
  have w1:f_ .i64 ((nx:Int)+1)=((nx+1:Nat):Int):=by rw[dN (by omega) (by omega)];rfl
  have w2:f_ .i64 (((nx+1:Nat):Int) - 1)=(nx:Int):=by rw[dN (by omega) (by omega)];omega
  have a2:=a.adk (nx+1);have rq2:=a2.rq;obtain⟨b1,o1,x,i1,hx,hb1,rd⟩:=a2.gq.sl.fE (k:=(nx:Nat)) (by omega) (by omega) (by omega);rw[show((nx:Nat):Int).toNat=nx by omega]at hx;repeat' (first|(simp (disch:=omega) only[go_sem,SS,rq,a.gq.len,hd,w1])|(with_reducible first|apply aj|apply ah|apply ay|apply aB|apply aA|apply au)<;>intro hd<;>(rw[hd];try simp only[decide_eq_true_eq,decide_eq_false_iff_not,Bool.not_eq_true',Bool.not_eq_false']at hd)|(with_reducible refine aD ?_))
  repeat' (first|(simp (disch:=omega) only[go_sem,rq2,w2,i1,rd.el,rd.hd])|(with_reducible first|apply aj|apply ah|apply ay|apply aB|apply aA|apply au)<;>intro hd<;>(rw[hd];try simp only[decide_eq_true_eq,decide_eq_false_iff_not,Bool.not_eq_true',Bool.not_eq_false']at hd)|(with_reducible refine aD ?_))
  exact hR2 _ hx a2
theorem yS(K:Nat){b6 i:Nat}{x:Int}{R:AV->AH->Nat->Prop}(a:mI h n g X A r op qv Q nx bs B)(hl:Q.length<=100000)(h6:∀h n,A h n->h.get b6=some (.row 22 [.sl g.rb 0 0 r.length (some r.length)]))(hi:i<r.length)
 (hR:∀v' X' h' n',mI h' n' g X' A (r.set i x) op v' (Q++[i]) nx bs B->n<=n'->(∀x,x<n->¬X x->h'.get x=h.get x)->(∀x,X x->X' x)->(∀x,X' x->X x\/n<=x)->R (.bV []) h' n'):CW (EF (K+2)) 184 [.i .i64 (i:Nat),.i .i64 x,.p b6 0,.p g.b9 0] h n R:=by
 have r6:=h6 _ _ a.A.use;have rr:=a.rr;have hset:=mH (c:=iJ) (λ_=>rfl) (a:=x) hi rfl;refine aJ adh rfl ?_;simp (disch:=omega) only[go_sem,XA,r6,b_ hi,rr,hset,Option.map_some];rw[bA];have a2:=a.SX (r.set i x);refine FN K a2 hl λv' X' h' n' a3 hn hs hX1 hX2=>?_;simp (disch:=omega) only[go_sem];refine hR _ _ _ _ a3 hn (λx hx hX=>?_) hX1 hX2;rw[hs x hx hX,aI λe=>hX (by rw[e];exact a.Xg _ (.inl rfl))]
structure BkA(b6 b7 b3 b14:Nat)(g:II)(N:Nat)(party:Int)(vv ww:AV)(ps:List (TS×aS))(h:AH)(n:Nat):Prop where
 r6:h.get b6=some (.row 22 [.sl g.rb 0 0 N (some N)])
 r7:h.get b7=some (.row 22 [.sl g.ob 0 0 N (some N)])
 r3:h.get b3=some (.row 150 (m_ party vv ww))
 oq:h.get b14=some (.row 303 [.f 184 [.p b6 0,.p g.b9 0]])
 pos:SL h n 5 vv vk ps
theorem OV(K:Nat){b6 b7 b3 b14 f to N:Nat}{party:Int}{vv ww:AV}{ps:List (TS×aS)}{x:TS×aS}{R:AV->AH->Nat->Prop}(a:mI h n g X A r op qv Q nx bs B)(hl:Q.length<=100000)(hA:∀h n,A h n->BkA b6 b7 b3 b14 g N party vv ww ps h n)
 (lr:r.length=N)(lo:op.length=N)(lp:ps.length=N)(hx:ps[f]?=some x)(hto:to<N)(ho: -1000000<=op.getD f 0/\op.getD f 0<=1000000)(hrt: -1<=rk r to/\rk r to<=1000000)(hne:f≠to\/rk r f≠ -1)
 (ZU:(rk r f≠ -1\/(x.2.own=true/\op.getD f 0 - 1≠0))->∀h' n',mI h' n' g X A r (op.set f (op.getD f 0 - 1)) qv Q nx bs B->n<=n'->(∀x,x<n->¬X x->h'.get x=h.get x)->R (.bV []) h' n')
 (hR2:rk r f= -1->(x.2.own=false\/op.getD f 0 - 1=0)->∀v' X' h' n',mI h' n' g X' A (r.set f (rk r to+1)) (op.set f (op.getD f 0 - 1)) v' (Q++[f]) nx bs B->n<=n'->(∀x,x<n->¬X x->h'.get x=h.get x)->(∀x,X x->X' x)->(∀x,X' x->X x\/n<=x)->R (.bV []) h' n'):
 CW (EF (K+3)) 185 [.i .i64 (f:Nat),.i .i64 (to:Nat),.p b7 0,.p b6 0,.p b3 0,.p b14 0] h n R:=by
 have hf:f<N:=by rw[<-lp];exact(List.getElem?_eq_some_iff.1 hx).1
 have ba:=hA _ _ a.A.use;have r6:=ba.r6;have r7:=ba.r7;have r3:=ba.r3;have oq:=ba.oq;have ro:=a.ro;have hfo:f<op.length:=by omega
 have hop:op[f]?=some (op.getD f 0):=by rw[List.getD_eq_getElem?_getD,List.getElem?_eq_getElem hfo];rfl
 have ZV:=oh (t:=3) (c:=iJ) (λ_=>rfl) hop rfl;have w1:f_ .i64 (op.getD f 0 - 1)=op.getD f 0 - 1:=dN (by omega) (by omega);have st:=mH (c:=iJ) (λ_=>rfl) (a:=op.getD f 0 - 1) hfo rfl;have a2:=a.D8 (op.set f (op.getD f 0 - 1));refine aJ adi rfl ?_;simp (disch:=omega) only[go_sem,XB,r7,b_ hf,ro,ZV,w1,st,Option.map_some];have us:∀x,x<n->¬X x->(h.set g.ob (.row 3 ((op.set f (op.getD f 0 - 1)).flatMap iJ))).get x=h.get x:=λx _ hX=>aI λe=>hX (by rw[e];exact a.Xg _ (.inr (.inl rfl)));generalize Tr.set h g.ob _=h2 at*;clear r6 r7 r3 oq ba;have ba:=hA _ _ a2.A.use;have r6:=ba.r6;have r7:=ba.r7;have r3:=ba.r3;have oq:=ba.oq;have rr:=a2.rr;have ro2:=a2.ro;have rdf:=oh (t:=3) (c:=iJ) (λ_=>rfl) (rT (r:=r) (i:=f) (by omega)) rfl;have rdt:=oh (t:=3) (c:=iJ) (λ_=>rfl) (rT (r:=r) (i:=to) (by omega)) rfl;have hop2:(op.set f (op.getD f 0 - 1))[f]?=some (op.getD f 0 - 1):=by rw[List.getElem?_set,if_pos rfl,if_pos hfo]
 have OW:=oh (t:=3) (c:=iJ) (λ_=>rfl) hop2 rfl;obtain⟨b1,o1,x',i1,hx',hb1,rd⟩:=ba.pos.fE (k:=(f:Nat)) (by omega) (by omega) (by omega);rw[show((f:Nat):Int).toNat=f by omega,hx]at hx';cases hx'
 have w2:f_ .i64 (rk r to+1)=rk r to+1:=dN (by omega) (by omega);repeat' (first|(simp (disch:=omega) only[go_sem,r6,r7,r3,oq,b_ hf,rr,ro2,rdf,OW,rdt,w2,cK hto,aR i1,rd.el,rd.hd])|(with_reducible first|apply aj|apply ah|apply ay|apply aB|apply aA|apply au)<;>intro hd<;>(rw[hd];try simp only[decide_eq_true_eq,decide_eq_false_iff_not,Bool.not_eq_true',Bool.not_eq_false']at hd)|(with_reducible refine aD ?_))
 all_goals first
  |(
   rename_i q1 q2;exact ZU (.inr ⟨by assumption,hd⟩) _ _ a2 (Nat.le_refl _) us)
  |exact ZU (.inl hd) _ _ a2 (Nat.le_refl _) us
  |(
   rw[GK];show CW _ 184 [.i .i64 (f:Nat),.i .i64 (rk r to+1),.p b6 0,.p g.b9 0] _ _ _;refine yS K a2 hl (λh n e=>by rw[lr];exact(hA h n e).r6) (by omega) λv' X' h3 n3 a3 hn hs hX1 hX2=>?_;simp (disch:=omega) only[go_sem];refine hR2 (by assumption) (by first|exact .inl hd|exact .inr hd) v' X' _ _ a3 hn (λx hx hX=>by rw[hs x hx hX,us x hx hX]) hX1 hX2)
end
end
end Go.Proofs.YtjoohkjmoghmoaaGreatDoor
