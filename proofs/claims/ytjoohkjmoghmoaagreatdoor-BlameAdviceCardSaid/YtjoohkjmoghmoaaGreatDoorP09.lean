/- part -/
import Derived.Test.YtjoohkjmoghmoaaGreatDoorP07
set_option linter.all false
namespace Go.Proofs.YtjoohkjmoghmoaaGreatDoor
section
noncomputable section
def m45:MC:=(.seq (.reg [⟨none,(.mv (.c (.k 1))),(.k 2)⟩]) (.seq (.seq (.reg [⟨none,(.mv (.s 0)),.l⟩,⟨none,(.bin .eql 22 (.v 0) (.c (.k 1))),(.k 4)⟩]) (.cond (.s 4) (.seq (.reg [⟨none,(.mv (.c (.k 1))),(.k 2)⟩]) .ret) .skip)) (.seq (.reg [⟨none,(.uE 3 0 [] []),.l⟩,⟨none,(.mv (.s 0)),.l⟩,⟨none,(.app 3 1 (.v 1) (.v 0)),.l⟩,⟨none,(.mv (.v 0)),(.k 2)⟩]) .ret)))
theorem c45:dM Tryz.prog sl0 45=some ([true],m45,[(.t 2)]):=by kernel_rfl
def V3:MC:=(.fM 0 [⟨0,true,[],none,(.mv (.s 0))⟩,⟨0,true,[0],none,(.gI (.v 0))⟩,⟨0,true,[1],none,(.fa 7 (.v 0))⟩,⟨0,true,[2],none,(.fa 3 (.v 0))⟩,⟨1,true,[3],none,(.ld none (.v 0))⟩,⟨0,true,[],none,(.mv (.s 1))⟩,⟨0,true,[],none,(.mv (.s 0))⟩,⟨0,true,[6],none,(.gI (.v 0))⟩,⟨0,true,[7],none,(.fa 7 (.v 0))⟩,⟨0,true,[8],none,(.fa 3 (.v 0))⟩,⟨1,true,[9],none,(.ld none (.v 0))⟩,⟨0,true,[],none,(.mv (.s 1))⟩,⟨0,true,[],none,(.mv (.s 0))⟩,⟨0,true,[12],none,(.gI (.v 0))⟩,⟨0,true,[13],none,(.fa 7 (.v 0))⟩,⟨0,true,[14],none,(.fa 3 (.v 0))⟩,⟨1,true,[15],none,(.ld none (.v 0))⟩,⟨0,true,[],none,(.mv (.s 1))⟩,⟨0,true,[],none,(.mv (.s 2))⟩,⟨0,true,[4,5],none,(.bM 5 (.v 0) (.v 1))⟩,⟨0,true,[19],none,(.fa 0 (.v 0))⟩,⟨3,true,[18,20],none,(.st 1 (.v 1) (.v 0))⟩,⟨0,true,[10,11],none,(.bM 5 (.v 0) (.v 1))⟩,⟨0,true,[22],none,(.fa 1 (.v 0))⟩,⟨3,true,[23],none,(.st 1 (.v 0) (.c (.i .i64 0)))⟩,⟨0,true,[16,17],none,(.bM 5 (.v 0) (.v 1))⟩,⟨0,true,[25],none,(.fa 4 (.v 0))⟩,⟨3,true,[26],none,(.st 1 (.v 0) (.c (.b false)))⟩] [] [])
theorem abZ:dM Tryz.prog sl0 176=some ([true,true,true],V3,[]):=by kernel_rfl
def m97:MC:=(.reg [⟨none,(.mv (.s 0)),.l⟩,⟨none,(.mv (.s 1)),.l⟩,⟨none,(.call (.c (.f 176 [])) [(.v 1),(.v 0),(.c (.i .i64 3))]),.l⟩])
theorem c97:dM Tryz.prog sl0 97=some ([true,true],m97,[]):=by kernel_rfl
def m98:MC:=(.reg [⟨none,(.mv (.s 0)),.l⟩,⟨none,(.mv (.s 1)),.l⟩,⟨none,(.call (.c (.f 176 [])) [(.v 1),(.v 0),(.c (.i .i64 5))]),.l⟩])
theorem c98:dM Tryz.prog sl0 98=some ([true,true],m98,[]):=by kernel_rfl
def m96:MC:=(.seq (.seq (.reg [⟨none,(.mv (.s 0)),.l⟩,⟨none,(.gI (.v 0)),.l⟩,⟨none,(.fa 7 (.v 0)),.l⟩,⟨none,(.fa 3 (.v 0)),.l⟩,⟨none,(.ld none (.v 0)),.l⟩,⟨none,(.mv (.s 1)),.l⟩,⟨none,(.bM 5 (.v 1) (.v 0)),.l⟩,⟨none,(.fa 0 (.v 0)),.l⟩,⟨none,(.ld none (.v 0)),.l⟩,⟨none,(.bin .eql 3 (.v 0) (.c (.i .i64 1))),.l⟩,⟨none,(.mv (.v 0)),.l⟩,⟨(some ((.v 0),true)),(.mv (.s 0)),.l⟩,⟨(some ((.v 1),true)),(.gI (.v 0)),.l⟩,⟨(some ((.v 2),true)),(.fa 0 (.v 0)),.l⟩,⟨(some ((.v 3),true)),(.fa 4 (.v 0)),.l⟩,⟨(some ((.v 4),true)),(.ld none (.v 0)),.l⟩,⟨(some ((.v 5),true)),(.mv (.s 1)),.l⟩,⟨(some ((.v 6),true)),(.bM 16 (.v 1) (.v 0)),.l⟩,⟨(some ((.v 7),true)),(.fa 6 (.v 0)),.l⟩,⟨(some ((.v 8),true)),(.ld none (.v 0)),.l⟩,⟨(some ((.v 9),true)),(.bin .gtr 3 (.v 0) (.c (.i .i64 0))),.l⟩,⟨none,(.pick (.v 10) (.v 0) (.c (.b false))),(.k 25)⟩]) (.cond (.s 25) (.seq (.fM 0 [⟨0,true,[],none,(.mv (.s 0))⟩,⟨0,true,[0],none,(.gI (.v 0))⟩,⟨0,true,[1],none,(.fa 7 (.v 0))⟩,⟨0,true,[2],none,(.fa 3 (.v 0))⟩,⟨1,true,[3],none,(.ld none (.v 0))⟩,⟨0,true,[],none,(.mv (.s 1))⟩,⟨0,true,[],none,(.mv (.s 0))⟩,⟨0,true,[6],none,(.gI (.v 0))⟩,⟨0,true,[7],none,(.fa 7 (.v 0))⟩,⟨0,true,[8],none,(.fa 3 (.v 0))⟩,⟨1,true,[9],none,(.ld none (.v 0))⟩,⟨0,true,[],none,(.mv (.s 1))⟩,⟨0,true,[],none,(.mv (.s 0))⟩,⟨0,true,[12],none,(.gI (.v 0))⟩,⟨0,true,[13],none,(.fa 0 (.v 0))⟩,⟨0,true,[14],none,(.fa 4 (.v 0))⟩,⟨1,true,[15],none,(.ld none (.v 0))⟩,⟨0,true,[],none,(.mv (.s 1))⟩,⟨0,true,[16,17],none,(.bM 16 (.v 0) (.v 1))⟩,⟨0,true,[18],none,(.fa 6 (.v 0))⟩,⟨1,true,[19],none,(.ld none (.v 0))⟩,⟨0,true,[4,5],none,(.bM 5 (.v 0) (.v 1))⟩,⟨0,true,[21],none,(.fa 0 (.v 0))⟩,⟨3,true,[22],none,(.st 1 (.v 0) (.c (.i .i64 2)))⟩,⟨0,true,[10,11],none,(.bM 5 (.v 0) (.v 1))⟩,⟨0,true,[24],none,(.fa 1 (.v 0))⟩,⟨3,true,[20,25],none,(.st 1 (.v 1) (.v 0))⟩] [] []) .ret) .skip)) (.reg [⟨none,(.mv (.s 0)),.l⟩,⟨none,(.mv (.s 1)),.l⟩,⟨none,(.call (.c (.f 176 [])) [(.v 1),(.v 0),(.c (.i .i64 4))]),.l⟩]))
theorem c96:dM Tryz.prog sl0 96=some ([true,true],m96,[]):=by kernel_rfl
def V4:MC:=(.seq (.reg [⟨none,(.mv (.s 0)),.l⟩,⟨none,(.gI (.v 0)),.l⟩,⟨none,(.fa 7 (.v 0)),.l⟩,⟨none,(.fa 3 (.v 0)),.l⟩,⟨none,(.ld none (.v 0)),.l⟩,⟨none,(.mv (.s 1)),.l⟩,⟨none,(.bM 5 (.v 1) (.v 0)),.l⟩,⟨none,(.fa 2 (.v 0)),.l⟩,⟨none,(.ld none (.v 0)),.l⟩,⟨none,(.bin .add 3 (.v 0) (.c (.i .i64 1))),.l⟩,⟨none,(.bM 5 (.v 5) (.v 4)),.l⟩,⟨none,(.fa 2 (.v 0)),.l⟩,⟨none,(.st 1 (.v 0) (.v 2)),.n⟩]) (.seq (.fM 0 [⟨0,true,[],none,(.mv (.s 0))⟩,⟨0,true,[0],none,(.gI (.v 0))⟩,⟨0,true,[1],none,(.fa 7 (.v 0))⟩,⟨0,true,[2],none,(.fa 3 (.v 0))⟩,⟨1,true,[3],none,(.ld none (.v 0))⟩,⟨0,true,[],none,(.mv (.s 1))⟩,⟨0,true,[4,5],none,(.bM 5 (.v 0) (.v 1))⟩,⟨0,true,[6],none,(.fa 2 (.v 0))⟩,⟨1,true,[7],none,(.ld none (.v 0))⟩,⟨0,true,[],none,(.mv (.s 0))⟩,⟨0,true,[9],none,(.gI (.v 0))⟩,⟨0,true,[10],none,(.fa 0 (.v 0))⟩,⟨0,true,[11],none,(.fa 4 (.v 0))⟩,⟨1,true,[12],none,(.ld none (.v 0))⟩,⟨0,true,[],none,(.mv (.s 1))⟩,⟨0,true,[13,14],none,(.bM 16 (.v 0) (.v 1))⟩,⟨0,true,[15],none,(.fa 3 (.v 0))⟩,⟨1,true,[16],none,(.ld none (.v 0))⟩,⟨0,true,[8,17],none,(.bin .eql 3 (.v 0) (.v 1))⟩] [] [(18,34)]) (.cond (.s 34) (.reg [⟨none,(.mv (.s 0)),.l⟩,⟨none,(.mv (.s 1)),.l⟩,⟨none,(.call (.c (.f 176 [])) [(.v 1),(.v 0),(.c (.i .i64 3))]),.l⟩]) .skip)))
theorem ab0:dM Tryz.prog sl0 101=some ([true,true],V4,[]):=by kernel_rfl
def V5:MC:=(.seq (.reg [⟨none,(.mv (.s 0)),.l⟩,⟨none,(.gI (.v 0)),.l⟩,⟨none,(.fa 7 (.v 0)),.l⟩,⟨none,(.fa 3 (.v 0)),.l⟩,⟨none,(.ld none (.v 0)),.l⟩,⟨none,(.mv (.s 1)),.l⟩,⟨none,(.bM 5 (.v 1) (.v 0)),.l⟩,⟨none,(.fa 4 (.v 0)),.l⟩,⟨none,(.ld none (.v 0)),.l⟩,⟨none,(.not (.v 0)),(.k 13)⟩]) (.cond (.s 13) (.reg [⟨none,(.mv (.s 0)),.l⟩,⟨none,(.mv (.s 1)),.l⟩,⟨none,(.call (.c (.f 176 [])) [(.v 1),(.v 0),(.c (.i .i64 4))]),.l⟩]) .skip))
theorem ab1:dM Tryz.prog sl0 102=some ([true,true],V5,[]):=by kernel_rfl
def V6:MC:=(.seq (.reg [⟨none,(.box 139 1 (.s 0)),(.k 1)⟩,⟨none,(.mv (.c (.k 3))),(.k 2)⟩]) (.seq (.reg [⟨none,(.AQ 179 [(.s 1)]),.l⟩,⟨none,(.mv (.v 0)),(.k 2)⟩]) .ret))
theorem ab2:dM Tryz.prog sl0 100=some ([true],V6,[(.t 2)]):=by kernel_rfl
def DT:MC:=(.seq (.reg [⟨none,(.mv (.s 10)),.l⟩,⟨none,(.mv (.v 0)),(.k 3)⟩]) (.seq (.reg [⟨none,(.ld none (.s 1)),.l⟩,⟨none,(.gI (.v 0)),.l⟩,⟨none,(.fa 7 (.v 0)),.l⟩,⟨none,(.fa 3 (.v 0)),.l⟩,⟨none,(.ld none (.v 0)),.l⟩,⟨none,(.mv (.s 3)),.l⟩,⟨none,(.bM 5 (.v 1) (.v 0)),.l⟩,⟨none,(.ld (some 5) (.v 0)),.l⟩,⟨none,(.call (.c (.f 180 [])) [(.v 0)]),.l⟩,⟨none,(.mv (.v 0)),.l⟩,⟨(some ((.v 0),true)),(.mv (.s 0)),.l⟩,⟨(some ((.v 1),true)),(.mv (.s 3)),.l⟩,⟨(some ((.v 2),true)),(.call (.v 1) [(.v 0)]),.l⟩,⟨(some ((.v 3),true)),(.not (.v 0)),.l⟩,⟨none,(.pick (.v 4) (.v 0) (.c (.b false))),(.k 27)⟩]) (.cond (.s 27) .ret .skip)))
def RO:MC:=(.seq (.reg [⟨none,(.ld none (.s 1)),.l⟩,⟨none,(.gI (.v 0)),.l⟩,⟨none,(.fa 7 (.v 0)),.l⟩,⟨none,(.fa 3 (.v 0)),.l⟩,⟨none,(.ld none (.v 0)),.l⟩,⟨none,(.bf (.v 0)),(.k 9)⟩,⟨none,(.mv (.c (.i .i64 0))),(.k 10)⟩]) (.blk 0 (iD 3 10 9 11 0 1 DT)))
theorem ab3:dM Tryz.prog sl0 179=some ([true,true],RO,[]):=by kernel_rfl
def BL:MC:=(.seq (.reg [⟨none,(.mv (.s 13)),.l⟩,⟨none,(.bM 16 (.s 11) (.s 13)),.l⟩,⟨none,(.ld (some 16) (.v 0)),.l⟩,⟨none,(.al 112 [(.i .i64 0),(.i .i64 0),(.i .i64 0),(.i .i64 0),(.k 1),(.i .i64 0),(.i .i64 0),(.b false),(.b false),(.i .i64 0),(.i .i64 0),(.i .i64 0),(.i .i64 0),(.i .i64 0),(.i .i64 0),(.b false)]),(.k 4)⟩,⟨none,(.mv (.v 2)),(.k 3)⟩,⟨none,(.st 16 (.s 4) (.v 0)),.n⟩]) (.seq (.seq (.fM 0 [⟨0,true,[],none,(.mv (.s 0))⟩,⟨0,true,[0],none,(.gI (.v 0))⟩,⟨0,true,[1],none,(.fa 0 (.v 0))⟩,⟨1,true,[2],none,(.ld (some 7) (.v 0))⟩,⟨0,true,[],none,(.mv (.s 0))⟩,⟨0,true,[4],none,(.gI (.v 0))⟩,⟨0,true,[5],none,(.fa 7 (.v 0))⟩,⟨1,true,[6],none,(.ld (some 4) (.v 0))⟩,⟨0,true,[],none,(.mv (.s 3))⟩,⟨3,true,[3,7,8],none,(.call (.c (.f 94 [])) [(.v 0),(.v 1),(.v 2)])⟩,⟨0,true,[9],none,(.not (.v 0))⟩] [] [(10,28)]) (.cond (.s 28) (.exit 3) .skip)) (.seq (.reg [⟨none,(.mv (.c (.i .i64 (.negSucc 0)))),(.k 5)⟩]) (.seq (.seq (.reg [⟨none,(.fa 0 (.s 4)),.l⟩,⟨none,(.ld none (.v 0)),.l⟩,⟨none,(.bin .neq 3 (.v 0) (.c (.i .i64 4))),(.k 31)⟩]) (.cond (.s 31) (.fM 0 [⟨0,true,[],none,(.mv (.s 0))⟩,⟨0,true,[0],none,(.gI (.v 0))⟩,⟨0,true,[1],none,(.fa 7 (.v 0))⟩,⟨0,true,[2],none,(.fa 1 (.v 0))⟩,⟨1,true,[3],none,(.ld none (.v 0))⟩,⟨0,true,[],none,(.fa 1 (.s 4))⟩,⟨1,true,[5],none,(.ld none (.v 0))⟩,⟨0,true,[4,6],none,(.bM 1 (.v 0) (.v 1))⟩,⟨1,true,[7],none,(.ld none (.v 0))⟩,⟨0,true,[8],none,(.mv (.v 0))⟩] [] [(9,5)]) .skip)) (.seq (.fM 0 [⟨0,true,[],none,(.mv (.s 0))⟩,⟨0,true,[0],none,(.gI (.v 0))⟩,⟨0,true,[1],none,(.fa 7 (.v 0))⟩,⟨0,true,[2],none,(.fa 3 (.v 0))⟩,⟨1,true,[3],none,(.ld none (.v 0))⟩,⟨0,true,[],none,(.mv (.s 3))⟩,⟨0,true,[],none,(.fa 5 (.s 4))⟩,⟨1,true,[6],none,(.ld none (.v 0))⟩,⟨0,true,[],none,(.mv (.s 5))⟩,⟨0,true,[7,8],none,(.jH [(.i .i64 0),(.i .i64 0),(.i .i64 0),(.i .i64 0),(.b false)] [(0,(1,(.c (.i .i64 1)))),(1,(1,(.v 0))),(3,(1,(.v 1)))])⟩,⟨0,true,[4,5],none,(.bM 5 (.v 0) (.v 1))⟩,⟨3,true,[9,10],none,(.st 5 (.v 1) (.v 0))⟩] [] []) (.reg [⟨none,(.mv (.c (.b true))),(.k 2)⟩]))))))
def BM:MC:=(.seq (.seq (.reg [⟨none,(.mv (.s 2)),(.k 6)⟩]) (.cond (.s 6) .skip (.exit 0))) (.blk 1 (.seq (.reg [⟨none,(.mv (.c (.b false))),(.k 2)⟩]) (.seq (.reg [⟨none,(.mv (.s 0)),.l⟩,⟨none,(.gI (.v 0)),.l⟩,⟨none,(.fa 0 (.v 0)),.l⟩,⟨none,(.fa 4 (.v 0)),.l⟩,⟨none,(.ld none (.v 0)),(.k 11)⟩,⟨none,(.bf (.s 11)),(.k 12)⟩,⟨none,(.mv (.c (.i .i64 0))),(.k 13)⟩]) (.blk 2 (iD 3 13 12 14 2 3 BL))))))
def m46:MC:=(.seq (.reg [⟨none,(.mv (.c (.b true))),(.k 2)⟩]) (.blk 0 (.loop BM)))
theorem c46:dM Tryz.prog sl0 46=some ([true],m46,[]):=by kernel_rfl
def Kw:MC:=(.seq (.reg [⟨none,(.mv (.s 35)),.l⟩,⟨none,(.bM 16 (.s 33) (.s 35)),.l⟩,⟨none,(.ld (some 16) (.v 0)),.l⟩,⟨none,(.al 112 [(.i .i64 0),(.i .i64 0),(.i .i64 0),(.i .i64 0),(.k 1),(.i .i64 0),(.i .i64 0),(.b false),(.b false),(.i .i64 0),(.i .i64 0),(.i .i64 0),(.i .i64 0),(.i .i64 0),(.i .i64 0),(.b false)]),(.k 8)⟩,⟨none,(.mv (.v 2)),(.k 7)⟩,⟨none,(.st 16 (.s 8) (.v 0)),.n⟩]) (.seq (.reg [⟨none,(.mv (.s 6)),.l⟩,⟨none,(.gI (.v 0)),.l⟩,⟨none,(.fa 7 (.v 0)),.l⟩,⟨none,(.fa 3 (.v 0)),.l⟩,⟨none,(.ld none (.v 0)),.l⟩,⟨none,(.mv (.s 7)),.l⟩,⟨none,(.jH [(.i .i64 0),(.i .i64 0),(.i .i64 0),(.i .i64 0),(.b false)] [(0,(1,(.c (.i .i64 0)))),(3,(1,(.c (.i .i64 (.negSucc 0)))))]),.l⟩,⟨none,(.bM 5 (.v 2) (.v 1)),.l⟩,⟨none,(.st 5 (.v 0) (.v 1)),.n⟩]) (.seq (.reg [⟨none,(.fa 15 (.s 8)),.l⟩,⟨none,(.ld none (.v 0)),(.k 49)⟩]) (.cond (.s 49) (.reg [⟨none,(.mv (.s 6)),.l⟩,⟨none,(.gI (.v 0)),.l⟩,⟨none,(.fa 7 (.v 0)),.l⟩,⟨none,(.fa 3 (.v 0)),.l⟩,⟨none,(.ld none (.v 0)),.l⟩,⟨none,(.mv (.s 7)),.l⟩,⟨none,(.bM 5 (.v 1) (.v 0)),.l⟩,⟨none,(.fa 0 (.v 0)),.l⟩,⟨none,(.st 1 (.v 0) (.c (.i .i64 5))),.n⟩]) .skip))))
def m17:MC:=(.seq (.reg [⟨none,(.box 27 7 (.s 0)),(.k 1)⟩,⟨none,(.al 43 [(.i .i64 0),(.k 1),(.k 1),(.k 1)]),(.k 2)⟩,⟨none,(.mv (.c (.i .i64 0))),(.k 3)⟩]) (.seq (.seq (.reg [⟨none,(.ld (some 7) (.s 1)),.l⟩,⟨none,(.call (.c (.f 44 [])) [(.v 0)]),.l⟩,⟨none,(.mv (.v 0)),.l⟩,⟨none,(.ext (.v 0) 0),.l⟩,⟨none,(.ext (.v 1) 1),.l⟩,⟨none,(.mv (.v 1)),(.k 4)⟩,⟨none,(.mv (.v 0)),.l⟩]) (.seq (.reg [⟨none,(.mv (.s 4)),.l⟩,⟨none,(.bin .neq 31 (.v 0) (.c (.i .i64 0))),(.k 15)⟩]) (.cond (.s 15) (.seq (.reg [⟨none,(.jH [(.i .i64 0),(.k 1),(.k 1),(.k 1)] []),.l⟩,⟨none,(.st 4 (.s 2) (.v 0)),.n⟩,⟨none,(.mv (.c (.i .i64 1))),(.k 3)⟩]) .ret) .skip))) (.seq (.fM 4 [⟨1,true,[],none,(.ld (some 7) (.s 1))⟩,⟨0,true,[],none,(.fa 1 (.s 1))⟩,⟨1,true,[1],none,(.ld none (.v 0))⟩,⟨3,true,[2],none,(.call (.c (.f 45 [])) [(.v 0)])⟩,⟨0,true,[],none,(.fa 3 (.s 1))⟩,⟨1,true,[4],none,(.ld none (.v 0))⟩,⟨1,true,[5],none,(.bf (.v 0))⟩,⟨2,true,[6],none,(.zR 4 [(.b false)] (.v 0) (.v 0))⟩,⟨0,false,[],none,(.fa 4 (.s 1))⟩,⟨1,false,[8],none,(.ld none (.v 0))⟩,⟨1,false,[9],none,(.bf (.v 0))⟩,⟨2,false,[10],none,(.zR 144 [(.i .i64 0),(.i .i64 0),(.i .i64 0),(.i .i64 0),(.b false)] (.v 0) (.v 0))⟩,⟨0,true,[3,7,11],none,(.jH [(.i .i64 0),(.k 1),(.k 1),(.k 1)] [(1,(1,(.v 0))),(2,(1,(.v 1))),(3,(1,(.v 2)))])⟩,⟨0,true,[0,12],none,(.jH [(.i .i64 0),(.k 1),(.k 1),(.k 1),(.k 1),(.i .i64 0),(.k 1),(.i .i64 0),(.k 1),(.k 1),(.k 1)] [(0,(7,(.v 0))),(7,(4,(.v 1)))])⟩,⟨2,true,[13],none,(.box 142 11 (.v 0))⟩,⟨0,true,[14],none,(.mv (.v 0))⟩] [(0,4),(5,0),(6,0),(9,0),(10,0)] [(15,6)]) (.seq (.seq (.reg [⟨none,(.fa 4 (.s 1)),.l⟩,⟨none,(.ld none (.v 0)),(.k 33)⟩,⟨none,(.bf (.s 33)),(.k 34)⟩,⟨none,(.mv (.c (.i .i64 0))),(.k 35)⟩]) (.blk 0 (iD 3 35 34 36 0 1 Kw))) (.seq (.reg [⟨none,(.mv (.s 6)),.l⟩,⟨none,(.call (.c (.f 46 [])) [(.v 0)]),.l⟩]) (.seq (.reg [⟨none,(.mv (.s 6)),.l⟩,⟨none,(.gI (.v 0)),.l⟩,⟨none,(.fa 7 (.v 0)),.l⟩,⟨none,(.ld (some 4) (.v 0)),.l⟩,⟨none,(.st 4 (.s 2) (.v 0)),.n⟩,⟨none,(.mv (.c (.i .i64 0))),(.k 3)⟩]) .ret))))))
theorem c17:dM Tryz.prog sl0 17=some ([true],m17,[(.c 2 (some 4)),(.t 3)]):=by kernel_rfl
def m18:MC:=(.seq (.reg [⟨none,(.box 27 7 (.s 0)),(.k 3)⟩,⟨none,(.box 43 4 (.s 1)),(.k 4)⟩,⟨none,(.al 43 [(.i .i64 0),(.k 1),(.k 1),(.k 1)]),(.k 6)⟩,⟨none,(.mv (.c (.i .i64 0))),(.k 7)⟩]) (.seq (.seq (.reg [⟨none,(.ld (some 7) (.s 3)),.l⟩,⟨none,(.ld (some 4) (.s 4)),.l⟩,⟨none,(.call (.c (.f 47 [])) [(.v 1),(.v 0)]),.l⟩,⟨none,(.not (.v 0)),.l⟩,⟨none,(.mv (.v 0)),.l⟩,⟨(some ((.v 0),false)),(.mv (.s 2)),.l⟩,⟨(some ((.v 1),false)),(.bin .lss 3 (.v 0) (.c (.i .i64 (.negSucc 0)))),.l⟩,⟨none,(.pick (.v 2) (.c (.b true)) (.v 0)),.l⟩,⟨none,(.mv (.v 0)),.l⟩,⟨(some ((.v 0),false)),(.mv (.s 2)),.l⟩,⟨(some ((.v 1),false)),(.fa 3 (.s 3)),.l⟩,⟨(some ((.v 2),false)),(.ld none (.v 0)),.l⟩,⟨(some ((.v 3),false)),(.bf (.v 0)),.l⟩,⟨(some ((.v 4),false)),(.bin .geq 3 (.v 3) (.v 0)),.l⟩,⟨none,(.pick (.v 5) (.c (.b true)) (.v 0)),(.k 23)⟩]) (.cond (.s 23) (.seq (.reg [⟨none,(.jH [(.i .i64 0),(.k 1),(.k 1),(.k 1)] []),.l⟩,⟨none,(.st 4 (.s 6) (.v 0)),.n⟩,⟨none,(.mv (.c (.i .i64 1))),(.k 7)⟩]) .ret) .skip)) (.seq (.seq (.reg [⟨none,(.fa 0 (.s 4)),.l⟩,⟨none,(.ld none (.v 0)),.l⟩,⟨none,(.fa 5 (.s 3)),.l⟩,⟨none,(.ld none (.v 0)),.l⟩,⟨none,(.bin .eql 3 (.v 2) (.v 0)),(.k 29)⟩]) (.cond (.s 29) (.seq (.reg [⟨none,(.jH [(.i .i64 0),(.k 1),(.k 1),(.k 1)] []),.l⟩,⟨none,(.st 4 (.s 6) (.v 0)),.n⟩,⟨none,(.mv (.c (.i .i64 13))),(.k 7)⟩]) .ret) .skip)) (.seq (.fM 5 [⟨1,true,[],none,(.ld (some 7) (.s 3))⟩,⟨0,true,[],none,(.fa 0 (.s 4))⟩,⟨1,true,[1],none,(.ld none (.v 0))⟩,⟨0,true,[],none,(.fa 1 (.s 4))⟩,⟨1,true,[3],none,(.ld none (.v 0))⟩,⟨1,true,[4],none,(.bf (.v 0))⟩,⟨2,true,[5],none,(.zR 3 [(.i .i64 0)] (.v 0) (.v 0))⟩,⟨0,false,[],none,(.fa 2 (.s 4))⟩,⟨1,false,[7],none,(.ld none (.v 0))⟩,⟨1,false,[8],none,(.bf (.v 0))⟩,⟨2,false,[9],none,(.zR 4 [(.b false)] (.v 0) (.v 0))⟩,⟨0,false,[],none,(.fa 3 (.s 4))⟩,⟨1,false,[11],none,(.ld none (.v 0))⟩,⟨1,false,[12],none,(.bf (.v 0))⟩,⟨2,false,[13],none,(.zR 144 [(.i .i64 0),(.i .i64 0),(.i .i64 0),(.i .i64 0),(.b false)] (.v 0) (.v 0))⟩,⟨0,true,[2,6,10,14],none,(.jH [(.i .i64 0),(.k 1),(.k 1),(.k 1)] [(0,(1,(.v 0))),(1,(1,(.v 1))),(2,(1,(.v 2))),(3,(1,(.v 3)))])⟩,⟨0,true,[0,15],none,(.jH [(.i .i64 0),(.k 1),(.k 1),(.k 1),(.k 1),(.i .i64 0),(.k 1),(.i .i64 0),(.k 1),(.k 1),(.k 1)] [(0,(7,(.v 0))),(7,(4,(.v 1)))])⟩,⟨2,true,[16],none,(.box 142 11 (.v 0))⟩,⟨0,true,[17],none,(.mv (.v 0))⟩] [] [(18,8)]) (.seq (.fM 0 [⟨0,true,[],none,(.mv (.s 8))⟩,⟨0,true,[0],none,(.gI (.v 0))⟩,⟨0,true,[1],none,(.fa 7 (.v 0))⟩,⟨0,true,[2],none,(.fa 1 (.v 0))⟩,⟨1,true,[3],none,(.ld none (.v 0))⟩,⟨0,true,[],none,(.fa 1 (.s 4))⟩,⟨1,true,[5],none,(.ld none (.v 0))⟩,⟨3,true,[4,6],none,(.Ns 1 (.v 0) (.v 1))⟩] [] []) (.seq (.fM 0 [⟨0,true,[],none,(.mv (.s 8))⟩,⟨0,true,[0],none,(.gI (.v 0))⟩,⟨0,true,[1],none,(.fa 7 (.v 0))⟩,⟨0,true,[2],none,(.fa 2 (.v 0))⟩,⟨1,true,[3],none,(.ld none (.v 0))⟩,⟨0,true,[],none,(.fa 2 (.s 4))⟩,⟨1,true,[5],none,(.ld none (.v 0))⟩,⟨3,true,[4,6],none,(.Ns 1 (.v 0) (.v 1))⟩] [] []) (.seq (.fM 0 [⟨0,true,[],none,(.mv (.s 8))⟩,⟨0,true,[0],none,(.gI (.v 0))⟩,⟨0,true,[1],none,(.fa 7 (.v 0))⟩,⟨0,true,[2],none,(.fa 3 (.v 0))⟩,⟨1,true,[3],none,(.ld none (.v 0))⟩,⟨0,true,[],none,(.fa 3 (.s 4))⟩,⟨1,true,[5],none,(.ld none (.v 0))⟩,⟨3,true,[4,6],none,(.Ns 5 (.v 0) (.v 1))⟩] [] []) (.seq (.seq (.reg [⟨none,(.mv (.s 2)),.l⟩,⟨none,(.bin .eql 3 (.v 0) (.c (.i .i64 (.negSucc 0)))),(.k 74)⟩]) (.cond (.s 74) (.reg [⟨none,(.mv (.s 8)),.l⟩,⟨none,(.call (.c (.f 48 [])) [(.v 0)]),.l⟩]) (.reg [⟨none,(.mv (.s 8)),.l⟩,⟨none,(.mv (.s 2)),.l⟩,⟨none,(.call (.c (.f 49 [])) [(.v 1),(.v 0)]),.l⟩]))) (.seq (.reg [⟨none,(.mv (.s 8)),.l⟩,⟨none,(.gI (.v 0)),.l⟩,⟨none,(.fa 7 (.v 0)),.l⟩,⟨none,(.ld (some 4) (.v 0)),.l⟩,⟨none,(.st 4 (.s 6) (.v 0)),.n⟩,⟨none,(.mv (.c (.i .i64 0))),(.k 7)⟩]) .ret)))))))))
theorem c18:dM Tryz.prog sl0 18=some ([true,true,true],m18,[(.c 6 (some 4)),(.t 7)]):=by kernel_rfl
def m48:MC:=(.seq (.reg [⟨none,(.box 139 1 (.s 0)),(.k 1)⟩]) (.seq (.reg [⟨none,(.jH [(.k 3),(.k 3),(.k 3),(.k 3),(.k 3)] [(1,(1,(.c (.f 96 [])))),(2,(1,(.c (.f 97 [])))),(3,(1,(.c (.f 98 [])))),(4,(1,(.c (.f 98 []))))]),.l⟩,⟨none,(.al 218 [(.k 3),(.k 3),(.k 3),(.k 3),(.k 3)]),(.k 2)⟩,⟨none,(.st 5 (.s 2) (.v 0)),.n⟩]) (.seq (.fM 2 [⟨1,true,[],none,(.ld none (.s 1))⟩,⟨0,true,[0],none,(.gI (.v 0))⟩,⟨0,true,[1],none,(.fa 0 (.v 0))⟩,⟨0,true,[2],none,(.fa 6 (.v 0))⟩,⟨1,true,[3],none,(.ld none (.v 0))⟩,⟨1,true,[],none,(.ld none (.s 1))⟩,⟨0,true,[5],none,(.gI (.v 0))⟩,⟨0,true,[6],none,(.fa 7 (.v 0))⟩,⟨0,true,[7],none,(.fa 0 (.v 0))⟩,⟨1,true,[8],none,(.ld none (.v 0))⟩,⟨3,true,[4,9],none,(.call (.c (.f 99 [])) [(.v 0),(.v 1)])⟩,⟨0,true,[10],none,(.mv (.v 0))⟩,⟨0,true,[11],none,(.ext (.v 0) 0)⟩,⟨0,true,[11],none,(.ext (.v 0) 1)⟩,⟨2,true,[],none,(.al 4 [(.b false)])⟩,⟨0,true,[12],none,(.mv (.v 0))⟩,⟨3,true,[13,14],none,(.st 1 (.v 1) (.v 0))⟩] [] [(14,4)]) (.seq (.seq (.reg [⟨none,(.ld none (.s 1)),.l⟩,⟨none,(.call (.c (.f 100 [])) [(.v 0)]),(.k 23)⟩]) (.blk 0 (.rng (.s 23) [24] (je 48 0) (jf 48 0)))) (.seq (.reg [⟨none,(.ld none (.s 1)),.l⟩,⟨none,(.gI (.v 0)),.l⟩,⟨none,(.fa 7 (.v 0)),.l⟩,⟨none,(.fa 0 (.v 0)),.l⟩,⟨none,(.ld none (.v 0)),.l⟩,⟨none,(.bin .add 3 (.v 0) (.c (.i .i64 1))),.l⟩,⟨none,(.gI (.v 5)),.l⟩,⟨none,(.fa 7 (.v 0)),.l⟩,⟨none,(.fa 0 (.v 0)),.l⟩,⟨none,(.st 1 (.v 0) (.v 3)),.n⟩]) (.reg [⟨none,(.ld none (.s 1)),.l⟩,⟨none,(.call (.c (.f 46 [])) [(.v 0)]),.l⟩]))))))
theorem c48:dM Tryz.prog sl0 48=some ([true],m48,[]):=by kernel_rfl
def RP:MC:=(.reg [⟨none,(.mv (.s 24)),(.k 5)⟩])
theorem RQ:oM Tryz.prog (sl0 48) (je 48 0)=some RP:=by kernel_rfl
def DU:MC:=(.blk 1 (.seq (.reg [⟨none,(.ld none (.s 1)),.l⟩,⟨none,(.gI (.v 0)),.l⟩,⟨none,(.fa 0 (.v 0)),.l⟩,⟨none,(.fa 4 (.v 0)),.l⟩,⟨none,(.ld none (.v 0)),.l⟩,⟨none,(.mv (.s 5)),.l⟩,⟨none,(.bM 16 (.v 1) (.v 0)),.l⟩,⟨none,(.ld (some 16) (.v 0)),.l⟩,⟨none,(.al 112 [(.i .i64 0),(.i .i64 0),(.i .i64 0),(.i .i64 0),(.k 1),(.i .i64 0),(.i .i64 0),(.b false),(.b false),(.i .i64 0),(.i .i64 0),(.i .i64 0),(.i .i64 0),(.i .i64 0),(.i .i64 0),(.b false)]),(.k 6)⟩,⟨none,(.st 16 (.s 6) (.v 0)),.n⟩]) (.seq (.seq (.reg [⟨none,(.ld none (.s 1)),.l⟩,⟨none,(.gI (.v 0)),.l⟩,⟨none,(.fa 7 (.v 0)),.l⟩,⟨none,(.fa 3 (.v 0)),.l⟩,⟨none,(.ld none (.v 0)),.l⟩,⟨none,(.mv (.s 5)),.l⟩,⟨none,(.bM 5 (.v 1) (.v 0)),.l⟩,⟨none,(.fa 4 (.v 0)),.l⟩,⟨none,(.ld none (.v 0)),.l⟩,⟨none,(.mv (.v 0)),.l⟩,⟨(some ((.v 0),false)),(.fa 7 (.s 6)),.l⟩,⟨(some ((.v 1),false)),(.ld none (.v 0)),.l⟩,⟨(some ((.v 2),false)),(.mv (.v 0)),.l⟩,⟨(some ((.v 0),true)),(.ld none (.s 4)),.l⟩,⟨(some ((.v 4),false)),(.pick (.v 1) (.v 0) (.c (.b false))),.l⟩,⟨none,(.pick (.v 5) (.c (.b true)) (.v 0)),(.k 48)⟩]) (.cond (.s 48) (.exit 1) .skip)) (.seq (.reg [⟨none,(.ld none (.s 1)),.l⟩,⟨none,(.gI (.v 0)),.l⟩,⟨none,(.fa 7 (.v 0)),.l⟩,⟨none,(.fa 3 (.v 0)),.l⟩,⟨none,(.ld none (.v 0)),.l⟩,⟨none,(.mv (.s 5)),.l⟩,⟨none,(.bM 5 (.v 1) (.v 0)),.l⟩,⟨none,(.fa 1 (.v 0)),.l⟩,⟨none,(.ld none (.v 0)),.l⟩,⟨none,(.bin .sub 3 (.v 0) (.c (.i .i64 1))),.l⟩,⟨none,(.bM 5 (.v 5) (.v 4)),.l⟩,⟨none,(.fa 1 (.v 0)),.l⟩,⟨none,(.st 1 (.v 0) (.v 2)),.n⟩]) (.seq (.reg [⟨none,(.ld none (.s 1)),.l⟩,⟨none,(.gI (.v 0)),.l⟩,⟨none,(.fa 7 (.v 0)),.l⟩,⟨none,(.fa 3 (.v 0)),.l⟩,⟨none,(.ld none (.v 0)),.l⟩,⟨none,(.mv (.s 5)),.l⟩,⟨none,(.bM 5 (.v 1) (.v 0)),.l⟩,⟨none,(.fa 1 (.v 0)),.l⟩,⟨none,(.ld none (.v 0)),.l⟩,⟨none,(.bin .eql 3 (.v 0) (.c (.i .i64 0))),(.k 70)⟩]) (.cond (.s 70) (.fM 0 [⟨0,true,[],none,(.fa 0 (.s 6))⟩,⟨1,true,[0],none,(.ld none (.v 0))⟩,⟨0,true,[1],none,(.Nr 1 5 (.s 2) (.v 0))⟩,⟨1,true,[2],none,(.ld none (.v 0))⟩,⟨1,true,[],none,(.ld none (.s 1))⟩,⟨0,true,[],none,(.mv (.s 5))⟩,⟨3,true,[3,4,5],none,(.call (.v 0) [(.v 1),(.v 2)])⟩] [] []) .skip))))))
theorem RS:oM Tryz.prog (sl0 48) (jf 48 0)=some DU:=by kernel_rfl
def m49:MC:=(.seq (.reg [⟨none,(.box 139 1 (.s 0)),(.k 2)⟩,⟨none,(.box 3 1 (.s 1)),(.k 3)⟩]) (.seq (.fM 2 [⟨1,true,[],none,(.ld none (.s 2))⟩,⟨0,true,[0],none,(.gI (.v 0))⟩,⟨0,true,[1],none,(.fa 0 (.v 0))⟩,⟨0,true,[2],none,(.fa 3 (.v 0))⟩,⟨1,true,[3],none,(.ld none (.v 0))⟩,⟨1,true,[],none,(.ld none (.s 3))⟩,⟨0,true,[4,5],none,(.bM 7 (.v 0) (.v 1))⟩,⟨1,true,[6],none,(.ld (some 7) (.v 0))⟩,⟨2,true,[],none,(.al 169 [(.i .i64 0),(.i .i64 0),(.i .i64 0),(.i .i64 0),(.i .i64 0),(.i .i64 0),(.i .i64 0)])⟩,⟨3,true,[7,8],none,(.st 7 (.v 1) (.v 0))⟩] [] [(8,4)]) (.seq (.seq (.fM 0 [⟨0,true,[],none,(.fa 0 (.s 4))⟩,⟨1,true,[0],none,(.ld none (.v 0))⟩,⟨0,true,[1],none,(.bin .neq 3 (.v 0) (.c (.i .i64 1)))⟩,⟨0,true,[2],none,(.mv (.v 0))⟩,⟨1,true,[3],(some ((.v 0),true)),(.ld none (.s 2))⟩,⟨0,true,[3,4],(some ((.v 0),true)),(.gI (.v 1))⟩,⟨0,true,[3,5],(some ((.v 0),true)),(.fa 7 (.v 1))⟩,⟨0,true,[3,6],(some ((.v 0),true)),(.fa 2 (.v 1))⟩,⟨1,true,[3,7],(some ((.v 0),true)),(.ld none (.v 1))⟩,⟨1,true,[3],(some ((.v 0),true)),(.ld none (.s 3))⟩,⟨0,true,[3,8,9],(some ((.v 0),true)),(.bM 1 (.v 1) (.v 2))⟩,⟨1,true,[3,10],(some ((.v 0),true)),(.ld none (.v 1))⟩,⟨0,true,[3,11],none,(.pick (.v 0) (.v 1) (.c (.b false)))⟩] [] [(12,30)]) (.cond (.s 30) .ret .skip)) (.seq (.seq (.reg [⟨none,(.ld none (.s 2)),.l⟩,⟨none,(.call (.c (.f 100 [])) [(.v 0)]),(.k 32)⟩]) (.blk 0 (.rng (.s 32) [33] (je 49 0) (jf 49 0)))) (.seq (.reg [⟨none,(.jH [(.k 3),(.k 3),(.k 3),(.k 3),(.k 3)] [(1,(1,(.c (.f 101 [])))),(2,(1,(.c (.f 102 [])))),(3,(1,(.c (.f 97 [])))),(4,(1,(.c (.f 97 []))))]),.l⟩,⟨none,(.al 218 [(.k 3),(.k 3),(.k 3),(.k 3),(.k 3)]),(.k 6)⟩,⟨none,(.st 5 (.s 6) (.v 0)),.n⟩]) (.seq (.fM 2 [⟨1,true,[],none,(.ld none (.s 2))⟩,⟨0,true,[0],none,(.gI (.v 0))⟩,⟨0,true,[1],none,(.fa 0 (.v 0))⟩,⟨1,true,[2],none,(.ld (some 7) (.v 0))⟩,⟨1,true,[],none,(.ld none (.s 2))⟩,⟨0,true,[4],none,(.gI (.v 0))⟩,⟨0,true,[5],none,(.fa 7 (.v 0))⟩,⟨1,true,[6],none,(.ld (some 4) (.v 0))⟩,⟨1,true,[],none,(.ld none (.s 3))⟩,⟨3,true,[3,7,8],none,(.call (.c (.f 103 [])) [(.v 0),(.v 1),(.v 2)])⟩,⟨2,true,[],none,(.al 3 [(.i .i64 0)])⟩,⟨3,true,[9,10],none,(.st 1 (.v 1) (.v 0))⟩] [] [(10,7)]) (.seq (.seq (.reg [⟨none,(.ld none (.s 2)),.l⟩,⟨none,(.call (.c (.f 100 [])) [(.v 0)]),(.k 85)⟩]) (.blk 3 (.rng (.s 85) [86] (je 49 1) (jf 49 1)))) (.seq (.seq (.reg [⟨none,(.fa 0 (.s 4)),.l⟩,⟨none,(.ld none (.v 0)),.l⟩,⟨none,(.bin .neq 3 (.v 0) (.c (.i .i64 1))),(.k 126)⟩]) (.cond (.s 126) (.reg [⟨none,(.ld none (.s 2)),.l⟩,⟨none,(.ld none (.s 3)),.l⟩,⟨none,(.call (.c (.f 104 [])) [(.v 1),(.v 0)]),.l⟩]) .skip)) (.reg [⟨none,(.ld none (.s 2)),.l⟩,⟨none,(.call (.c (.f 46 [])) [(.v 0)]),.l⟩])))))))))
theorem c49:dM Tryz.prog sl0 49=some ([true,true],m49,[]):=by kernel_rfl
def RU:MC:=(.reg [⟨none,(.mv (.s 33)),(.k 5)⟩])
theorem RV:oM Tryz.prog (sl0 49) (je 49 0)=some RU:=by kernel_rfl
def DW:MC:=(.blk 1 (.seq (.reg [⟨none,(.ld none (.s 3)),(.k 34)⟩]) (.blk 2 (.seq (.reg [⟨none,(.ld none (.s 2)),.l⟩,⟨none,(.gI (.v 0)),.l⟩,⟨none,(.fa 0 (.v 0)),.l⟩,⟨none,(.fa 4 (.v 0)),.l⟩,⟨none,(.ld none (.v 0)),.l⟩,⟨none,(.mv (.s 5)),.l⟩,⟨none,(.bM 16 (.v 1) (.v 0)),.l⟩,⟨none,(.fa 9 (.v 0)),.l⟩,⟨none,(.ld none (.v 0)),.l⟩,⟨none,(.bin .eql 3 (.s 34) (.v 0)),.l⟩,⟨none,(.mv (.v 0)),(.k 35)⟩]) (.cond (.s 35) (.reg [⟨none,(.ld none (.s 2)),.l⟩,⟨none,(.gI (.v 0)),.l⟩,⟨none,(.fa 7 (.v 0)),.l⟩,⟨none,(.fa 3 (.v 0)),.l⟩,⟨none,(.ld none (.v 0)),.l⟩,⟨none,(.mv (.s 5)),.l⟩,⟨none,(.bM 5 (.v 1) (.v 0)),.l⟩,⟨none,(.fa 4 (.v 0)),.l⟩,⟨none,(.st 1 (.v 0) (.c (.b true))),.n⟩]) (.seq (.reg [⟨none,(.ld none (.s 2)),.l⟩,⟨none,(.gI (.v 0)),.l⟩,⟨none,(.fa 0 (.v 0)),.l⟩,⟨none,(.fa 4 (.v 0)),.l⟩,⟨none,(.ld none (.v 0)),.l⟩,⟨none,(.mv (.s 5)),.l⟩,⟨none,(.bM 16 (.v 1) (.v 0)),.l⟩,⟨none,(.fa 10 (.v 0)),.l⟩,⟨none,(.ld none (.v 0)),.l⟩,⟨none,(.bin .eql 3 (.s 34) (.v 0)),.l⟩,⟨none,(.mv (.v 0)),(.k 54)⟩]) (.cond (.s 54) (.reg [⟨none,(.ld none (.s 2)),.l⟩,⟨none,(.gI (.v 0)),.l⟩,⟨none,(.fa 7 (.v 0)),.l⟩,⟨none,(.fa 3 (.v 0)),.l⟩,⟨none,(.ld none (.v 0)),.l⟩,⟨none,(.mv (.s 5)),.l⟩,⟨none,(.bM 5 (.v 1) (.v 0)),.l⟩,⟨none,(.fa 4 (.v 0)),.l⟩,⟨none,(.st 1 (.v 0) (.c (.b false))),.n⟩]) .skip)))))))
theorem RX:oM Tryz.prog (sl0 49) (jf 49 0)=some DW:=by kernel_rfl
def RY:MC:=(.reg [⟨none,(.mv (.s 86)),(.k 8)⟩])
theorem RZ:oM Tryz.prog (sl0 49) (je 49 1)=some RY:=by kernel_rfl
def DX:MC:=(.blk 4 (.seq (.reg [⟨none,(.ld none (.s 2)),.l⟩,⟨none,(.gI (.v 0)),.l⟩,⟨none,(.fa 0 (.v 0)),.l⟩,⟨none,(.fa 4 (.v 0)),.l⟩,⟨none,(.ld none (.v 0)),.l⟩,⟨none,(.mv (.s 8)),.l⟩,⟨none,(.bM 16 (.v 1) (.v 0)),.l⟩,⟨none,(.ld (some 16) (.v 0)),.l⟩,⟨none,(.al 112 [(.i .i64 0),(.i .i64 0),(.i .i64 0),(.i .i64 0),(.k 1),(.i .i64 0),(.i .i64 0),(.b false),(.b false),(.i .i64 0),(.i .i64 0),(.i .i64 0),(.i .i64 0),(.i .i64 0),(.i .i64 0),(.b false)]),(.k 9)⟩,⟨none,(.st 16 (.s 9) (.v 0)),.n⟩]) (.seq (.fM 0 [⟨0,true,[],none,(.fa 2 (.s 9))⟩,⟨1,true,[0],none,(.ld none (.v 0))⟩,⟨1,true,[],none,(.ld none (.s 3))⟩,⟨0,true,[1,2],none,(.bin .eql 3 (.v 0) (.v 1))⟩,⟨0,true,[3],none,(.mv (.v 0))⟩,⟨0,true,[4],(some ((.v 0),true)),(.fa 0 (.s 9))⟩,⟨1,true,[4,5],(some ((.v 0),true)),(.ld none (.v 1))⟩,⟨0,true,[4,6],(some ((.v 0),true)),(.bin .eql 3 (.v 1) (.c (.i .i64 4)))⟩,⟨0,true,[4,7],(some ((.v 0),true)),(.mv (.v 1))⟩,⟨1,true,[8],(some ((.v 0),false)),(.ld none (.s 2))⟩,⟨0,true,[8,9],(some ((.v 0),false)),(.gI (.v 1))⟩,⟨0,true,[8,10],(some ((.v 0),false)),(.fa 7 (.v 1))⟩,⟨0,true,[8,11],(some ((.v 0),false)),(.fa 3 (.v 1))⟩,⟨1,true,[8,12],(some ((.v 0),false)),(.ld none (.v 1))⟩,⟨0,true,[8],(some ((.v 0),false)),(.mv (.s 8))⟩,⟨0,true,[8,13,14],(some ((.v 0),false)),(.bM 5 (.v 1) (.v 2))⟩,⟨0,true,[8,15],(some ((.v 0),false)),(.fa 3 (.v 1))⟩,⟨1,true,[8,16],(some ((.v 0),false)),(.ld none (.v 1))⟩,⟨1,true,[8],(some ((.v 0),false)),(.ld none (.s 7))⟩,⟨0,true,[8,17,18],(some ((.v 0),false)),(.bin .eql 3 (.v 1) (.v 2))⟩,⟨0,true,[4,8,19],(some ((.v 0),true)),(.pick (.v 1) (.c (.b true)) (.v 2))⟩,⟨0,true,[4,20],none,(.pick (.v 0) (.v 1) (.c (.b false)))⟩] [] [(21,116)]) (.cond (.s 116) (.fM 0 [⟨0,true,[],none,(.fa 0 (.s 9))⟩,⟨1,true,[0],none,(.ld none (.v 0))⟩,⟨0,true,[1],none,(.Nr 1 5 (.s 6) (.v 0))⟩,⟨1,true,[2],none,(.ld none (.v 0))⟩,⟨1,true,[],none,(.ld none (.s 2))⟩,⟨0,true,[],none,(.mv (.s 8))⟩,⟨3,true,[3,4,5],none,(.call (.v 0) [(.v 1),(.v 2)])⟩] [] []) .skip))))
theorem R3:oM Tryz.prog (sl0 49) (jf 49 1)=some DX:=by kernel_rfl
def V7:MC:=(.seq (.reg [⟨none,(.box 139 1 (.s 0)),(.k 2)⟩]) (.seq (.reg [⟨none,(.ld none (.s 2)),.l⟩,⟨none,(.gI (.v 0)),.l⟩,⟨none,(.fa 0 (.v 0)),.l⟩,⟨none,(.fa 3 (.v 0)),.l⟩,⟨none,(.ld none (.v 0)),.l⟩,⟨none,(.mv (.s 1)),.l⟩,⟨none,(.bM 7 (.v 1) (.v 0)),.l⟩,⟨none,(.ld (some 7) (.v 0)),.l⟩,⟨none,(.al 169 [(.i .i64 0),(.i .i64 0),(.i .i64 0),(.i .i64 0),(.i .i64 0),(.i .i64 0),(.i .i64 0)]),(.k 4)⟩,⟨none,(.st 7 (.s 4) (.v 0)),.n⟩]) (.seq (.fM 0 [⟨1,true,[],none,(.ld none (.s 2))⟩,⟨0,true,[0],none,(.gI (.v 0))⟩,⟨0,true,[1],none,(.fa 7 (.v 0))⟩,⟨0,true,[2],none,(.fa 1 (.v 0))⟩,⟨1,true,[3],none,(.ld none (.v 0))⟩,⟨0,true,[],none,(.fa 2 (.s 4))⟩,⟨1,true,[5],none,(.ld none (.v 0))⟩,⟨0,true,[],none,(.fa 3 (.s 4))⟩,⟨1,true,[7],none,(.ld none (.v 0))⟩,⟨0,true,[4,6],none,(.bM 1 (.v 0) (.v 1))⟩,⟨3,true,[8,9],none,(.st 1 (.v 1) (.v 0))⟩] [] []) (.seq (.reg [⟨none,(.ld none (.s 2)),.l⟩,⟨none,(.gI (.v 0)),.l⟩,⟨none,(.fa 7 (.v 0)),.l⟩,⟨none,(.fa 2 (.v 0)),.l⟩,⟨none,(.ld none (.v 0)),.l⟩,⟨none,(.mv (.s 1)),.l⟩,⟨none,(.bM 1 (.v 1) (.v 0)),.l⟩,⟨none,(.st 1 (.v 0) (.c (.b true))),.n⟩]) (.seq (.seq (.reg [⟨none,(.fa 0 (.s 4)),.l⟩,⟨none,(.ld none (.v 0)),.l⟩,⟨none,(.bin .neq 3 (.v 0) (.c (.i .i64 3))),(.k 34)⟩]) (.cond (.s 34) .ret .skip)) (.seq (.reg [⟨none,(.ld none (.s 2)),.l⟩,⟨none,(.call (.c (.f 100 [])) [(.v 0)]),(.k 36)⟩]) (.blk 0 (.rng (.s 36) [37] (je 104 0) (jf 104 0)))))))))
theorem ab7:dM Tryz.prog sl0 104=some ([true,true],V7,[]):=by kernel_rfl
def N_:MC:=(.reg [⟨none,(.mv (.s 37)),(.k 5)⟩])
theorem Oa:oM Tryz.prog (sl0 104) (je 104 0)=some N_:=by kernel_rfl
def Fu:MC:=(.blk 1 (.seq (.reg [⟨none,(.ld none (.s 2)),.l⟩,⟨none,(.gI (.v 0)),.l⟩,⟨none,(.fa 0 (.v 0)),.l⟩,⟨none,(.fa 4 (.v 0)),.l⟩,⟨none,(.ld none (.v 0)),.l⟩,⟨none,(.mv (.s 5)),.l⟩,⟨none,(.bM 16 (.v 1) (.v 0)),.l⟩,⟨none,(.ld (some 16) (.v 0)),.l⟩,⟨none,(.al 112 [(.i .i64 0),(.i .i64 0),(.i .i64 0),(.i .i64 0),(.k 1),(.i .i64 0),(.i .i64 0),(.b false),(.b false),(.i .i64 0),(.i .i64 0),(.i .i64 0),(.i .i64 0),(.i .i64 0),(.i .i64 0),(.b false)]),(.k 6)⟩,⟨none,(.st 16 (.s 6) (.v 0)),.n⟩]) (.seq (.reg [⟨none,(.fa 0 (.s 6)),.l⟩,⟨none,(.ld none (.v 0)),.l⟩,⟨none,(.bin .neq 3 (.v 0) (.c (.i .i64 4))),.l⟩,⟨none,(.mv (.v 0)),.l⟩,⟨(some ((.v 0),true)),(.fa 1 (.s 6)),.l⟩,⟨(some ((.v 1),true)),(.ld none (.v 0)),.l⟩,⟨(some ((.v 2),true)),(.fa 2 (.s 4)),.l⟩,⟨(some ((.v 3),true)),(.ld none (.v 0)),.l⟩,⟨(some ((.v 4),true)),(.bin .eql 3 (.v 2) (.v 0)),.l⟩,⟨none,(.pick (.v 5) (.v 0) (.c (.b false))),(.k 55)⟩]) (.cond (.s 55) (.fM 0 [⟨1,true,[],none,(.ld none (.s 2))⟩,⟨0,true,[0],none,(.gI (.v 0))⟩,⟨0,true,[1],none,(.fa 7 (.v 0))⟩,⟨0,true,[2],none,(.fa 3 (.v 0))⟩,⟨1,true,[3],none,(.ld none (.v 0))⟩,⟨0,true,[],none,(.mv (.s 5))⟩,⟨0,true,[],none,(.fa 3 (.s 4))⟩,⟨1,true,[6],none,(.ld none (.v 0))⟩,⟨0,true,[4,5],none,(.bM 5 (.v 0) (.v 1))⟩,⟨0,true,[8],none,(.fa 3 (.v 0))⟩,⟨3,true,[7,9],none,(.st 1 (.v 1) (.v 0))⟩] [] []) .skip))))
theorem Ob:oM Tryz.prog (sl0 104) (jf 104 0)=some Fu:=by kernel_rfl
def wU:MC:=(.seq (.seq (.reg [⟨none,(.mv (.s 7)),.l⟩,⟨none,(.mv (.s 8)),.l⟩,⟨none,(.bin .lss 3 (.v 1) (.v 0)),(.k 15)⟩]) (.cond (.s 15) .skip (.exit 0))) (.blk 1 (.seq (.reg [⟨none,(.mv (.s 7)),.l⟩,⟨none,(.mv (.s 8)),.l⟩,⟨none,(.bin .add 3 (.v 1) (.v 0)),.l⟩,⟨none,(.Bw .u64 (.v 0)),.l⟩,⟨none,(.bin .shr 248 (.v 0) (.c (.i .u64 1))),.l⟩,⟨none,(.Bw .i64 (.v 0)),.l⟩,⟨none,(.mv (.v 0)),(.k 9)⟩]) (.seq (.reg [⟨none,(.mv (.s 0)),.l⟩,⟨none,(.mv (.s 9)),.l⟩,⟨none,(.bM 1 (.v 1) (.v 0)),.l⟩,⟨none,(.ld none (.v 0)),.l⟩,⟨none,(.mv (.s 1)),.l⟩,⟨none,(.call (.c (.f 177 [])) [(.v 1),(.v 0)]),(.k 27)⟩]) (.cond (.s 27) (.reg [⟨none,(.mv (.s 9)),.l⟩,⟨none,(.bin .add 3 (.v 0) (.c (.i .i64 1))),.l⟩,⟨none,(.mv (.v 0)),(.k 7)⟩]) (.reg [⟨none,(.mv (.s 9)),.l⟩,⟨none,(.mv (.v 0)),(.k 8)⟩]))))))
def m99:MC:=(.seq (.reg [⟨none,(.mv (.c (.i .i64 0))),(.k 4)⟩,⟨none,(.mv (.c (.b false))),(.k 5)⟩]) (.seq (.reg [⟨none,(.mv (.s 0)),.l⟩,⟨none,(.bf (.v 0)),.l⟩,⟨none,(.mv (.v 0)),(.k 6)⟩]) (.seq (.reg [⟨none,(.mv (.s 6)),.l⟩,⟨none,(.mv (.c (.i .i64 0))),(.k 7)⟩,⟨none,(.mv (.v 0)),(.k 8)⟩]) (.seq (.blk 0 (.loop wU)) (.seq (.reg [⟨none,(.mv (.s 7)),.l⟩,⟨none,(.mv (.s 7)),.l⟩,⟨none,(.mv (.s 6)),.l⟩,⟨none,(.bin .lss 3 (.v 1) (.v 0)),.l⟩,⟨none,(.mv (.v 0)),.l⟩,⟨(some ((.v 0),true)),(.mv (.s 0)),.l⟩,⟨(some ((.v 1),true)),(.mv (.s 7)),.l⟩,⟨(some ((.v 2),true)),(.bM 1 (.v 1) (.v 0)),.l⟩,⟨(some ((.v 3),true)),(.ld none (.v 0)),.l⟩,⟨(some ((.v 4),true)),(.mv (.s 1)),.l⟩,⟨(some ((.v 5),true)),(.bin .eql 3 (.v 1) (.v 0)),.l⟩,⟨(some ((.v 6),true)),(.mv (.v 0)),.l⟩,⟨(some ((.v 0),false)),(.mv (.s 0)),.l⟩,⟨(some ((.v 1),false)),(.mv (.s 7)),.l⟩,⟨(some ((.v 2),false)),(.bM 1 (.v 1) (.v 0)),.l⟩,⟨(some ((.v 3),false)),(.ld none (.v 0)),.l⟩,⟨(some ((.v 4),false)),(.call (.c (.f 178 [])) [(.v 0)]),.l⟩,⟨(some ((.v 5),false)),(.mv (.v 0)),.l⟩,⟨(some ((.v 0),true)),(.mv (.s 1)),.l⟩,⟨(some ((.v 1),true)),(.call (.c (.f 178 [])) [(.v 0)]),.l⟩,⟨(some ((.v 8),false)),(.pick (.v 2) (.v 0) (.c (.b false))),.l⟩,⟨(some ((.v 16),true)),(.pick (.v 9) (.c (.b true)) (.v 0)),.l⟩,⟨none,(.pick (.v 17) (.v 0) (.c (.b false))),.l⟩,⟨none,(.mv (.v 22)),(.k 4)⟩,⟨none,(.mv (.v 0)),(.k 5)⟩]) .ret)))))
theorem c99:dM Tryz.prog sl0 99=some ([true,true],m99,[(.t 4),(.t 5)]):=by kernel_rfl
def V8:MC:=(.seq (.reg [⟨none,(.mv (.c (.b false))),(.k 2)⟩]) (.seq (.reg [⟨none,(.mv (.s 0)),.l⟩,⟨none,(.mv (.s 0)),.l⟩,⟨none,(.bin .neq 3 (.v 1) (.v 0)),.l⟩,⟨none,(.mv (.v 0)),(.k 2)⟩]) .ret))
theorem ab9:dM Tryz.prog sl0 178=some ([true],V8,[(.t 2)]):=by kernel_rfl
end
end
section
noncomputable section
def R4:MC:=(.seq (.reg [⟨none,(.mv (.c (.b false))),(.k 4)⟩]) (.seq (.reg [⟨none,(.mv (.s 0)),.l⟩,⟨none,(.call (.c (.f 205 [])) [(.v 0)]),.l⟩,⟨none,(.mv (.v 0)),.l⟩,⟨(some ((.v 0),true)),(.mv (.s 1)),.l⟩,⟨(some ((.v 1),true)),(.call (.c (.f 205 [])) [(.v 0)]),.l⟩,⟨(some ((.v 2),true)),(.not (.v 0)),.l⟩,⟨none,(.pick (.v 3) (.v 0) (.c (.b false))),.l⟩,⟨none,(.mv (.v 0)),.l⟩,⟨(some ((.v 0),false)),(.mv (.s 0)),.l⟩,⟨(some ((.v 1),false)),(.mv (.s 1)),.l⟩,⟨(some ((.v 2),false)),(.bin .lss 3 (.v 1) (.v 0)),.l⟩,⟨none,(.pick (.v 3) (.c (.b true)) (.v 0)),.l⟩,⟨none,(.mv (.v 0)),(.k 4)⟩]) .ret))
theorem ab_:dM Tryz.prog sl0 177=some ([true,true],R4,[(.t 4)]):=by kernel_rfl
def V9:MC:=(.seq (.reg [⟨none,(.mv (.c (.b false))),(.k 2)⟩]) (.seq (.reg [⟨none,(.mv (.s 0)),.l⟩,⟨none,(.mv (.s 0)),.l⟩,⟨none,(.bin .neq 3 (.v 1) (.v 0)),.l⟩,⟨none,(.mv (.v 0)),(.k 2)⟩]) .ret))
theorem acd:dM Tryz.prog sl0 205=some ([true],V9,[(.t 2)]):=by kernel_rfl
end
end
section
noncomputable section
theorem aJ{k:Nat}{g:FuncId}{kb:List Bool}{m:MC}{rs:List MS}{args:List AV}{h:AH}{n:Nat}{Q:AV->AH->Nat->Prop}(hc:dM Tryz.prog sl0 g=some (kb,m,rs))(hl:args.length=kb.length)
 (e:sK Tryz.prog Y0 g 100000 [.c m] .bZ (EF k) h n (uZ 0 kb args) (MP rs Q))(hg:Nat.beq g Rm=false:=by rfl)(hg':Nat.beq g ND=false:=by rfl):CW (EF (k+1)) g args h n Q:=by
 obtain⟨v,h',n',e1,e2⟩:=JL hc hl e;refine⟨v,h',n',?_,e2⟩;show@Option.rec eH (λ_=>eH) ((QM Tryz.prog sl0 g).run (EF k) args h n) (λr=>r) (bc (Nat.beq g ND) _ (bc (Nat.beq g Rm) _ none))=_;rw[hg',hg];exact e1
theorem Up.ge{h:AH}{n m:Nat}(e:n<=m):Up h n h m:=⟨e,λ_ _=>rfl⟩
theorem Up.wk{h:AH}{n:Nat}{h':AH}{n' m:Nat}(a:Up h n h' n')(e:n'<=m):Up h n h' m:=⟨Nat.le_trans a.le e,a.old⟩
theorem aL{h:AH}{n:Nat}{h':AH}{n':Nat}(q:Up h n h' n':=by(repeat' (first|(with_reducible refine Up.ge ?_;omega)|assumption|refine Up.st ?_ _ _ (by omega)|(apply Up.trans;rotate_left;first|assumption|(apply Up.wk;assumption;omega))|(apply Up.wk;assumption;omega)))):Up h n h' n':=q
attribute [go_sem_proc ↓] reduceIte
attribute [go_sem_proc] Nat.reduceEqDiff Nat.reduceAdd Nat.reduceMul Nat.reduceSub Nat.reduceLT Int.reduceToNat Int.reduceNegSucc Int.reduceNeg
attribute [go_sem] decide_true decide_false Bool.not_true Bool.not_false BEq.rfl Bool.true_beq Bool.false_beq Nat.add_zero true_and and_true
abbrev av(x:Int):AV:=.i .i64 x
@[reducible] def bF.av (r:bF):List AV:=[.i .i64 r.num,.i .i64 r.den]
@[reducible] def eY.av (a:eY):List AV:=[.i .i64 a.kind,.i .i64 a.role,.i .i64 a.give,.i .i64 a.tgt,.i .i64 a.unit,.i .i64 a.lot.num,.i .i64 a.lot.den]
@[reducible] def fO.av (k:fO):List AV:=[.i .i64 k.clause,.i .i64 k.is]
@[reducible] def dY.av (u:dY):List AV:=[.s u.name.toList,.i .i64 u.kind,.i .i64 u.base,.i .i64 u.factor.num,.i .i64 u.factor.den]
@[reducible] def aG.av (m:aG):List AV:=[.i .i64 m.status,.i .i64 m.left,.i .i64 m.got,.i .i64 m.aT,.b m.paused]
@[reducible] def aN.av (k:aN) (s:AV):List AV:=
 [.i .i64 k.kind,.i .i64 k.role,.i .i64 k.act,.i .i64 k.need,s,.i .i64 k.after,.i .i64 k.fP,.b k.gW,.b k.final,.i .i64 k.pause,.i .i64 k.resume,.i .i64 k.value.num,.i .i64 k.value.den,.i .i64 k.unit,.i .i64 k.tgt,.b k.jw]
structure CS where
 h:AV
 u:AV
 a:AV
 k:AV
 o:AV
@[reducible] def CS.av (v:CS) (C:aH):List AV:=[.i .i64 C.aK,v.h,v.u,v.a,v.k,.i .i64 C.days,v.o]
structure TS where
 h:AV
 u:AV
 m:AV
@[reducible] def TS.av (v:TS) (s:aO):List AV:=[.i .i64 s.day,v.h,v.u,v.m]
def SL(h:AH)(n w:Nat)(v:AV){α:Type}(c:α->List AV)(l:List α):Prop:=(∀a,(c a).length=w)/\SR h n w v l.length (l.flatMap c)
section
variable {h:AH} {n w:Nat} {v:AV} {α:Type} {c:α->List AV} {l:List α} {h':AH} {n':Nat}
theorem SL.up(s:SL h n w v c l)(u:Up h n h' n'):SL h' n' w v c l:=⟨s.1,s.2.up u⟩
theorem SL.len(s:SL h n w v c l):Iu (some v)=some (.i .i64 (l.length:Nat)):=yG s.2.len
theorem SL.cl(s:SL h n w v c l):pQ v=some [v]:=s.2.cl
theorem SL.of{x t m:Nat}{cells:List AV}{cap:Option Nat}{lo:Nat}(hw:∀a,(c a).length=w)(hx:x<n)(hg:h.get x=some (.row t cells))(hc:cells=l.flatMap c)(hm:m=l.length)(hk:∀k,cap=some k->m<=k):SL h n w (.sl x lo 0 m cap) c l:=by
 subst hc;subst hm;have hl:(l.flatMap c).length=l.length*w:=by
  clear hg hk;induction l with
  |nil=>simp
  |cons a l ih=>rw[List.flatMap_cons,List.length_append,hw,ih,List.length_cons,Nat.succ_mul];omega
 exact⟨hw,.inr (.inl ⟨x,lo,0,cap,rfl,hx,by rw[hg];exact .of (m:=(l.flatMap c).length) (by omega) (by rw[List.drop_zero,List.take_length]),hl,hk⟩)⟩
theorem SL.take(s:SL h n w v c l){i:Nat}(h0:0<l.length)(hi:i<=l.length):∃y,Vf w (some v) (some none) (some (some (i:Nat)))=some y/\SL h n w y c (l.take i):=by
 obtain⟨hw,s⟩:=s;rcases s with⟨_,e,_⟩|⟨x,lo,o,cp,rfl,e2,e3,e4,e6⟩|⟨_,_,_,e,_⟩
 rotate_left 2
 .omega
 .omega
 have hc:(l.flatMap c).take (i*w)=(l.take i).flatMap c:=by
  clear e6 e4 e3 h0;induction l generalizing i with
  |nil=>simp
  |cons a l ih=>
   cases i with
   |zero=>simp
   |succ i=>
    rw[List.take_succ_cons,List.flatMap_cons,List.flatMap_cons,Nat.succ_mul,Nat.add_comm (i*w) w,List.take_append,hw];rw[List.take_of_length_le (by rw[hw];omega),show w+i*w - w=i*w by omega];rw[ih (by simpa using hi)]
 have e3':=e3.take (i*w);rw[hc]at e3';have hm:i*w<=l.length*w:=Nat.mul_le_mul_right w hi;have e4':((l.take i).flatMap c).length=(l.take i).length*w:=by rw[<-hc,List.length_take,List.length_take,e4,Nat.min_eq_left hm,Nat.min_eq_left hi]
 cases cp with
 |none=>
  refine⟨.sl x lo o i none,?_,hw,.inr (.inl ⟨x,lo,o,none,?_,e2,e3',e4',λk hk=>by cases hk⟩)⟩
  .show bc (Nat.ble 0 i) (bc (Nat.ble i l.length) (bc (Nat.beq 0 0) (some (AV.sl x lo o i none)) _) none) none=_
   rw[Nat.ble_eq_true_of_le (Nat.zero_le _),bJ,Nat.ble_eq_true_of_le hi,bJ];rfl
  .rw[List.length_take,Nat.min_eq_left hi]
 |some k=>
  have hk:=e6 k rfl;refine⟨.sl x 0 o i (some k),?_,hw,.inr (.inl ⟨x,0,o,some k,?_,e2,e3',e4',λk' hk'=>by cases hk';rw[List.length_take];omega⟩)⟩
  .show bc (Nat.ble 0 i) (bc (Nat.ble i k) (some (AV.sl x 0 (bc (Nat.beq k 0) o (Nat.add o (Nat.mul 0 w))) (Nat.sub i 0) (some (Nat.sub k 0)))) none) none=_
   rw[Nat.ble_eq_true_of_le (Nat.zero_le _),bJ,Nat.ble_eq_true_of_le (by omega:i<=k),bJ];have:bc (Nat.beq k 0) o (Nat.add o (Nat.mul 0 w))=o:=by
    have e:Nat.add o (Nat.mul 0 w)=o:=by show o+0*w=o;omega
    rw[e];cases Nat.beq k 0<;>rfl
   rw[this];rfl
  .rw[List.length_take,Nat.min_eq_left hi]
theorem SL.nil(hw:∀a,(c a).length=w):SL h n w (.k 1) c []:=⟨hw,.inl ⟨rfl,rfl,rfl⟩⟩
end
structure RD(h:AH)(b o w:Nat)(cs:List AV):Prop where
 el:∀j,j<w->pF (h.get b) (o+j) none=nv cs j
 hd:pF (h.get b) o none=nv cs 0
 all:pF (h.get b) o (some w)=some (.agg cs)
 pre':∀k,k<=w->pF (h.get b) o (some k)=some (.agg (cs.take k))
theorem SL.rd{h:AH}{n w:Nat}{v:AV}{α:Type}{c:α->List AV}{l:List α}(s:SL h n w v c l){i:Nat}{a:α}(hi:l[i]?=some a)(hw:0<w){b o:Nat}
 (q1:∀j,j<w->pF (h.get b) (o+j) none=(l.flatMap c)[i*w+j]?)(q2:∀m,m<=w->pF (h.get b) o (some m)=some (.agg (((l.flatMap c).drop (i*w)).take m))):RD h b o w (c a):=by
 have q0:∀j,j<w->pF (h.get b) (o+j) none=nv (c a) j:=λj hj=>by rw[q1 j hj,tN s.1 hi hj,rF]
 exact⟨q0,q0 0 hw,by rw[q2 w (Nat.le_refl _),mh s.1 hi],λk hk=>by rw[q2 k hk,<-mh s.1 hi,List.take_take,Nat.min_eq_left hk]⟩
theorem DY{α:Type}{l:List α}{k:Int}(h0:0<=k)(h1:k<l.length):∃a,l[k.toNat]?=some a:=⟨l[k.toNat],List.getElem?_eq_some_iff.2 ⟨by omega,rfl⟩⟩
theorem gL{S:SK}{h0 h:AH}{n0 n w:Nat}{v:AV}{α:Type}{c:α->List AV}{l:List α}{d:MD}{r:List MR}{l':List AV}{s:List It}{f:FT}{F:Fm}{Q:PQ}(hs:SL h0 n0 w v c l){k:Int}(h1:0<=k)(h2:k<l.length)(hw:0<w)
 (q:∀b o a,l[k.toNat]?=some a->b<n0->RD h0 b o w (c a)->lJ S d (.p b o) r l' s f h n F Q):PV S w (some v) (some (.i .i64 k)) d r l' s f h n F Q:=by
 obtain⟨a,ha⟩:=DY h1 h2;obtain⟨i,rfl⟩:=Int.eq_ofNat_of_zero_le h1;exact show IA w v i λp=>lJ S d p r l' s f h n F Q from hs.2.ia (Up.refl _ _) rfl (by simpa using h2) λb o h3 h4 h5=>q b o a ha h3 (hs.rd ha hw h4 h5)
theorem SL.fE{h:AH}{n w:Nat}{v:AV}{α:Type}{c:α->List AV}{l:List α}(hs:SL h n w v c l){k:Int}(h1:0<=k)(h2:k<l.length)(hw:0<w):
 ∃b o a,fE w (some v) (some (.i .i64 k))=some (.p b o)/\l[k.toNat]?=some a/\b<n/\RD h b o w (c a):=by
 obtain⟨a,ha⟩:=DY h1 h2;obtain⟨i,rfl⟩:=Int.eq_ofNat_of_zero_le h1;rcases hs.2 with⟨_,e,_⟩|⟨x,lo,o,cp,rfl,e2,e3,e4,e6⟩|⟨_,_,_,e,_⟩
 rotate_left 2
 .omega
 .omega
 have key:IA w (.sl x lo o l.length cp) (i:Nat) λp=>∃b o',p= .p b o'/\l[i]?=some a/\b<n/\RD h b o' w (c a):=hs.2.ia (Up.refl _ _) rfl (by simpa using h2) λb o h3 h4 h5=>⟨b,o,rfl,ha,h3,hs.rd ha hw h4 h5⟩;obtain⟨b',lo',o',m,cp',q1,q2,q3,b2,o2,q4,q5,q6,q7⟩:=key;cases q1
 cases q4
 refine⟨x,_,a,?_,ha,e2,q7⟩;show(if 0<=(i:Int)/\(i:Int)<(l.length:Nat)then some (AV.p x (o+(i:Int).toNat*w))else none)=_;rw[if_pos ⟨h1,h2⟩]
def yL(h:AH)(n:Nat)(v:AV)(l:List aN)(ss:List AV):Prop:=ss.length=l.length/\SR h n 16 v l.length ((l.zip ss).flatMap λp=>p.1.av p.2)/\∀(i:Nat)(k:aN)(t:AV),l[i]?=some k->ss[i]?=some t->SL h n 2 t fO.av k.start
structure bG(h:AH)(n:Nat)(v:CS)(C:aH):Prop where
 aC:SL h n 1 v.h (λx:Int=>[AV.i .i64 x]) C.aC
 units:SL h n 5 v.u dY.av C.units
 acts:SL h n 7 v.a eY.av C.acts
 clauses:∃ss,yL h n v.k C.clauses ss
 off:SL h n 1 v.o (λx:Int=>[AV.i .i64 x]) C.off
structure dO(h:AH)(n:Nat)(v:TS)(s:aO):Prop where
 aC:SL h n 1 v.h (λx:Int=>[AV.i .i64 x]) s.aC
 used:SL h n 1 v.u (λx:Bool=>[AV.b x]) s.used
 marks:SL h n 5 v.m aG.av s.marks
section
variable {h:AH} {n:Nat} {h':AH} {n':Nat}
theorem bG.up{v:CS}{C:aH}(s:bG h n v C)(u:Up h n h' n'):bG h' n' v C:=by
 refine⟨s.aC.up u,s.units.up u,s.acts.up u,?_,s.off.up u⟩;obtain⟨ss,h1,h2,h3⟩:=s.clauses;exact⟨ss,h1,h2.up u,λi k t a b=>(h3 i k t a b).up u⟩
theorem dO.up{v:TS}{s:aO}(a:dO h n v s)(u:Up h n h' n'):dO h' n' v s:=⟨a.aC.up u,a.used.up u,a.marks.up u⟩
theorem bG.lk{v:CS}{C:aH}(s:bG h n v C):Iu (some v.k)=some (.i .i64 (C.clauses.length:Nat)):=by
 obtain⟨ss,h1,h2,h3⟩:=s.clauses;exact yG h2.len
end
theorem tZ{S:SK}{h0 h:AH}{n0 n:Nat}{v:CS}{C:aH}{d:MD}{r:List MR}{l':List AV}{s:List It}{f:FT}{F:Fm}{Q:PQ}(hs:bG h0 n0 v C){k:Int}(h1:0<=k)(h2:k<C.clauses.length)
 (q:∀b o a t,C.clauses[k.toNat]?=some a->b<n0->SL h0 n0 2 t fO.av a.start->RD h0 b o 16 (a.av t)->lJ S d (.p b o) r l' s f h n F Q):PV S 16 (some v.k) (some (.i .i64 k)) d r l' s f h n F Q:=by
 obtain⟨ss,e1,e2,e3⟩:=hs.clauses;obtain⟨a,ha⟩:=DY h1 h2;obtain⟨i,rfl⟩:=Int.eq_ofNat_of_zero_le h1;have hi:i<C.clauses.length:=by simpa using h2
 obtain⟨t,ht⟩:∃t,ss[i]?=some t:=⟨ss[i],List.getElem?_eq_some_iff.2 ⟨by omega,rfl⟩⟩;have hz:(C.clauses.zip ss)[i]?=some (a,t):=by rw[List.getElem?_zip_eq_some];exact⟨ha,ht⟩
 have hl:(C.clauses.zip ss).length=C.clauses.length:=by simp[e1]
 exact show IA 16 v.k i λp=>lJ S d p r l' s f h n F Q from e2.ia (Up.refl _ _) rfl hi λb o h3 h4 h5=>q b o a t ha h3 (e3 i a t ha ht) (SL.rd (c:=λp:aN×AV=>p.1.av p.2) (l:=C.clauses.zip ss) ⟨λ_=>rfl,by rw[hl];exact e2⟩ hz (by omega) h4 h5)
section
variable {P:Program} {Y:YT} {S:SK} {b w:Bool} {i:MI} {d:MD} {r:List MR} {l:List AV} {s:List It} {f:FT} {h:AH} {n:Nat} {F:Fm} {Q:PQ}
theorem aj(h1:b=true->kW P Y S (some (.b b)) w i d r l s f h n F Q)(h2:b=false->kW P Y S (some (.b b)) w i d r l s f h n F Q):kW P Y S (some (.b b)) w i d r l s f h n F Q:=by
 cases hb:b with
 |true=>subst hb;exact h1 rfl
 |false=>subst hb;exact h2 rfl
theorem ah{x y:MC}(h1:b=true->kB S (some (.b b)) x y s f h n F Q)(h2:b=false->kB S (some (.b b)) x y s f h n F Q):kB S (some (.b b)) x y s f h n F Q:=by
 cases hb:b with
 |true=>subst hb;exact h1 rfl
 |false=>subst hb;exact h2 rfl
theorem au{x y:Option AV}(h1:b=true->kS S (mM (some (.b b)) x y) d r l s f h n F Q)(h2:b=false->kS S (mM (some (.b b)) x y) d r l s f h n F Q):kS S (mM (some (.b b)) x y) d r l s f h n F Q:=by
 cases hb:b with
 |true=>subst hb;exact h1 rfl
 |false=>subst hb;exact h2 rfl
variable {D:DK} {l':List MQ} {j r' n0:Nat} {vs u:List AV} {hs:List (Nat×AH)}
theorem ay{x:Option AV}(h1:b=true->dV D (NT (Iw w (some (.b b))) x) l' j r' n0 f h n vs hs F)(h2:b=false->dV D (NT (Iw w (some (.b b))) x) l' j r' n0 f h n vs hs F):dV D (NT (Iw w (some (.b b))) x) l' j r' n0 f h n vs hs F:=by
 cases hb:b with
 |true=>subst hb;exact h1 rfl
 |false=>subst hb;exact h2 rfl
theorem aA{x y:Option AV}(h1:b=true->dV D (mM (some (.b b)) x y) l' j r' n0 f h n vs hs F)(h2:b=false->dV D (mM (some (.b b)) x y) l' j r' n0 f h n vs hs F):dV D (mM (some (.b b)) x y) l' j r' n0 f h n vs hs F:=by
 cases hb:b with
 |true=>subst hb;exact h1 rfl
 |false=>subst hb;exact h2 rfl
theorem aB(h1:b=true->dG P Y D (Iw w (some (.b b))) i u l' j r' n0 f h n vs hs F)(h2:b=false->dG P Y D (Iw w (some (.b b))) i u l' j r' n0 f h n vs hs F):dG P Y D (Iw w (some (.b b))) i u l' j r' n0 f h n vs hs F:=by
 cases hb:b with
 |true=>subst hb;exact h1 rfl
 |false=>subst hb;exact h2 rfl
end
theorem bA{Y:YT}{S:SK}{q:FuncId}{c:List AV}{d:MD}{r:List MR}{l:List AV}{s:List It}{f:FT}{h:AH}{n:Nat}{F:Fm}{Q:PQ}:kF Y S (some (.f q [])) (some c) d r l s f h n F Q=CW f q c h n λv h n=>lJ S d v r l s f h n F Q:=by rw[JR,List.append_nil]
theorem bU{Y:YT}{D:DK}{q:FuncId}{c:List AV}{l:List MQ}{j r n0:Nat}{f:FT}{h:AH}{n:Nat}{vs:List AV}{hs:List (Nat×AH)}{F:Fm}:dF Y D (some (.f q [])) (some c) l j r n0 f h n vs hs F=CW f q c h n λv h n=>D l (j+1) r n0 f h n (v::vs) ((j+1,h)::hs) F:=by rw[GK,List.append_nil]
theorem fG{h:AH}{n:Nat}{m x:Bool}{Q:AV->AH->Nat->Prop}(hQ:∀h' n',Up h n h' n'->Q (.b m) h' n'){h1:AH}{n1:Nat}(u:Up h n h1 n1)(e1:x=true->m=true)(e2:x=false->m=false):Q (.b x) h1 n1:=by
 have e:m=x:=by cases x with|true=>exact e1 rfl|false=>exact e2 rfl
 subst e;exact hQ _ _ u
theorem ieq(a b:Int):(a==b)=decide (a=b):=by by_cases h:a=b<;>simp[h]
theorem bY{h:AH}{n:Nat}{m x:Bool}{Q:AV->AH->Nat->Prop}(hQ:∀h' n',Up h n h' n'->Q (.b m) h' n'){h1:AH}{n1:Nat}(e:m=x)(u:Up h n h1 n1):Q (.b x) h1 n1:=by subst e;exact hQ _ _ u
section
variable {P:Program} {ty:TypeId} {a b:Int}
@[go_sem] theorem V_:(dS P ty .eql).run (.i .u64 a) (.i .u64 b)=some (.b (decide (a=b))):=by
 show bc true (some (AV.b (fC a b))) none=_;rw[bJ,cO]
@[go_sem] theorem Wd:(dS P ty .neq).run (.i .u64 a) (.i .u64 b)=some (.b (!decide (a=b))):=by
 show bc true (some (AV.b (oC (fC a b)))) none=_;rw[bJ,iQ,cO]
@[go_sem] theorem Wh:(dS P ty .add).run (.i .u64 a) (.i .u64 b)=some (.i .u64 (f_ .u64 (a+b))):=rfl
def R7(k:IntKind)(a b:Int):Option AV:=if b=0 then none else some (.i k (Int.tmod a b))
theorem Oc{k:IntKind}{a b:Int}(h:b≠0):R7 k a b=some (.i k (Int.tmod a b)):=if_neg h
@[go_sem] theorem Wi:(dS P ty .rem).run (.i .u64 a) (.i .u64 b)=R7 .u64 a b:=by
 show bc true (bc (fC b 0) none (some (AV.i .u64 (Int.tmod a b)))) none=_;rw[bJ,cO];unfold R7;by_cases h:b=0<;>simp[h,bc]
@[go_sem] theorem Wj {x y:List UInt8}:(dS P ty .eql).run (.s x) (.s y)=some (.b (decide (x=y))):=by
 show some (AV.b (bc false (oC (o_ x y)) (o_ x y)))=_;rw[fU,iK];by_cases h:x=y<;>simp[h]
@[go_sem] theorem Wm {x y:List UInt8}:(dS P ty .neq).run (.s x) (.s y)=some (.b (!decide (x=y))):=by
 show some (AV.b (bc true (oC (o_ x y)) (o_ x y)))=_;rw[bJ,iK,iQ];by_cases h:x=y<;>simp[h]
theorem rV{x:Int}(h1:0<=x)(h2:x<=18446744073709551615):f_ .u64 x=x:=by
 unfold f_;rw[eZ,eZ,show IntKind.u64.min=0 from by decide,show IntKind.u64.max=18446744073709551615 from by decide];simp[h1,h2,bc]
end
def RgI(R:Nat->Prop)(hb:AH)(nb:Nat)(G0:Nat->Fm):Nat->AH->Nat->Fm->Prop:=λk h n G=>R k/\Up hb nb h n/\G=G0 k
section
variable {P:Program} {Y:YT} {g:FuncId} {f:FT} {R:Nat->Prop} {hb:AH} {nb:Nat} {G0:Nat->Fm} {k i L N B1:Nat} {s:List It} {Q:PQ} {h:AH} {n:Nat} {F:Fm}
@[go_sem ↓] theorem afJ {I:Nat->AH->Nat->Fm->Prop} {j:Nat}:Ui P Y g I k i L N B1 s f Q (.exit j) h n F=if j=B1 then Ui P Y g I k i L N B1 s f Q .bZ h n F else sK P Y g 100000 s (.exit j) f h n F Q:=bH rfl
@[go_sem ↓] theorem afK {I:Nat->AH->Nat->Fm->Prop}:Ui P Y g I k i L N B1 s f Q .ret h n F=sK P Y g 100000 s .ret f h n F Q:=bH rfl
theorem iw(h1:lk F i=some (.i .i64 (k:Nat)))(h2:lk F L=some (.i .i64 (N:Nat)))(h3:R (k+1))(h4:Up hb nb h n)(h5:∀m v,lk (G0 (k+1)) m=some v->lk F m=some v):Ui P Y g (RgI R hb nb G0) k i L N B1 s f Q .bZ h n F:=
 ⟨h1,h2,_,⟨h3,h4,rfl⟩,h5⟩
theorem fZ{ty c B:Nat}{body:MC}(N:Nat)(R:Nat->Prop)(hb:AH)(nb:Nat)(G0:Nat->Fm)(hN:N<=1125899906842623)(hic:i≠c)(hLc:L≠c)(hiL:i≠L)
 (hfr:∀k,lk (G0 k) c=none/\lk (G0 k) i=none)(e1:lk F i=some (.i .i64 0))(e2:lk F L=some (.i .i64 (N:Nat)))(e3:∀m v,lk (G0 0) m=some v->lk F m=some v)(u:Up hb nb h n)(r0:R 0)
 (step:∀k h n,k<N->R k->Up hb nb h n->sK P Y g 100000 [.c body] .bZ f h n (pt (pt (G0 k) L (.i .i64 (N:Nat))) i (.i .i64 (k:Nat))) (Ui P Y g (RgI R hb nb G0) k i L N B1 s f Q))
 (fin:∀h n,R N->Up hb nb h n->sK P Y g 100000 s (.exit B) f h n (G0 N) Q):SM P Y g (.c (iD ty i L c B B1 body)::s) .bZ f h n F Q:=
 dD N (RgI R hb nb G0) hN hic hLc hiL (λk h n G ⟨_,_,e⟩=>by subst e;exact hfr k) ⟨e1,e2,G0 0,⟨r0,u,rfl⟩,e3⟩
  (λk h n G hk ⟨hr,hu,e⟩=>by subst e;exact step k h n hk hr hu) (λh n G ⟨hr,hu,e⟩=>by subst e;exact fin h n hr hu)
end
end
end
section
noncomputable section
section
variable {h:AH} {n w:Nat} {v:AV} {α:Type} {c:α->List AV} {l:List α}
theorem SR.src{len:Nat}{cells:List AV}(s:SR h n w v len cells):iN h w len v=some cells/\j_ v=some len:=by
 rcases s with⟨rfl,rfl,rfl⟩|⟨x,lo,o,cp,rfl,e2,e3,e4,e6⟩|⟨a,c,rfl,rfl,rfl⟩
 rotate_left 2
 .exact⟨rfl,rfl⟩
 .exact⟨rfl,rfl⟩
 .refine⟨?_,rfl⟩
  show bnd (iE (h.get x) o (len*w)) (λl=>mX (len*w) l)=_;rw[<-e4];exact e3.cut
theorem SL.src(s:SL h n w v c l):iN h w l.length v=some (l.flatMap c)/\j_ v=some l.length:=s.2.src
end
end
end
noncomputable section
abbrev HP:=AH->Nat->Prop
def Kp(X:Nat->Prop)(h:AH)(n:Nat)(A:HP):Prop:=∀h' n',n<=n'->(∀x,x<n->¬X x->h'.get x=h.get x)->A h' n'
section
variable {X Y:Nat->Prop} {h h':AH} {n n':Nat} {A B:HP}
theorem Kp.use(k:Kp X h n A):A h n:=k h n (Nat.le_refl _) λ_ _ _=>rfl
theorem Kp.on(k:Kp X h n A)(hn:n<=n')(e:∀x,x<n->¬X x->h'.get x=h.get x):Kp X h' n' A:=λh2 n2 h3 h4=>k h2 n2 (Nat.le_trans hn h3) λx hx hX=>(h4 x (Nat.lt_of_lt_of_le hx hn) hX).trans (e x hx hX)
theorem Kp.up(k:Kp X h n A)(u:Up h n h' n'):Kp X h' n' A:=k.on u.le λx hx _=>u.old x hx
theorem Kp.set(k:Kp X h n A){b m:Nat}{o:AO}(hb:X b\/n<=b)(hm:n<=m):Kp X (h.set b o) m A:=k.on hm λx hx hX=>aI (by rintro rfl;rcases hb with e|e;exact hX e;omega)
theorem Kp.le(k:Kp X h n A)(e:∀x,x<n->Y x->X x):Kp Y h n A:=λh2 n2 h3 h4=>k h2 n2 h3 λx hx hX=>h4 x hx λhY=>hX (e x hx hY)
theorem Kp.wk(k:Kp X h n A)(e:∀h n,A h n->B h n):Kp X h n B:=λh2 n2 h3 h4=>e _ _ (k h2 n2 h3 h4)
theorem Kp.and(k:Kp X h n A)(l:Kp X h n B):Kp X h n λh n=>A h n/\B h n:=λh2 n2 h3 h4=>⟨k h2 n2 h3 h4,l h2 n2 h3 h4⟩
theorem Kp.Od(k:∀h' n',Up h n h' n'->A h' n')(e:∀x,X x->n<=x):Kp X h n A:=λh2 n2 h3 h4=>k h2 n2 ⟨h3,λx hx=>h4 x hx λhX=>by have:=e x hX;omega⟩
end
def blk(v:AV)(x:Nat):Prop:=∃lo o len c,v= .sl x lo o len c
theorem fH{x lo o len:Nat}{c:Option Nat}{y:Nat}:blk (.sl x lo o len c) y↔y=x:=⟨λ⟨_,_,_,_,e⟩=>by cases e;rfl,λe=>⟨_,_,_,_,by rw[e]⟩⟩
theorem Ky{a:Addr}{c y:Nat}:¬blk (.es a c) y:=λ⟨_,_,_,_,e⟩=>by cases e
theorem gM{c y:Nat}:¬blk (.k c) y:=λ⟨_,_,_,_,e⟩=>by cases e
theorem SL.kp{X:Nat->Prop}{h:AH}{n w:Nat}{v:AV}{α:Type}{c:α->List AV}{l:List α}(s:SL h n w v c l)(hX:∀x,blk v x->¬X x):Kp X h n λh n=>SL h n w v c l:=λh2 n2 h3 h4=>by
 refine⟨s.1,?_⟩;rcases s.2 with e|⟨x,lo,o,cp,rfl,e2,e3,e4,e6⟩|e
 .exact .inl e
 .exact .inr (.inl ⟨x,lo,o,cp,rfl,by omega,by rw[h4 x e2 (hX x (fH.2 rfl))];exact e3,e4,e6⟩)
 .exact .inr (.inr e)
theorem SL.gU{h:AH}{n w:Nat}{v:AV}{α:Type}{c:α->List AV}{l:List α}(s:SL h n w v c l){x:Nat}(hx:blk v x):x<n:=by
 rcases s.2 with⟨rfl,_⟩|⟨y,lo,o,cp,rfl,e2,_⟩|⟨a,c,rfl,_⟩
 rotate_left 2
 .exact absurd hx Ky
 .exact absurd hx gM
 .rw[fH]at hx;omega
def Gr(h:AH)(n e w:Nat)(v:AV){α:Type}(c:α->List AV)(l:List α):Prop:=(∀a,(c a).length=w)/\((v= .k 1/\l=[])\/
 ∃b cap cells,v= .sl b 0 0 l.length cap/\b<n/\h.get b=some (.row e cells)/\cells.take (l.length*w)=l.flatMap c/\l.length*w<=cells.length/\(cap=none->cells.length=l.length*w)/\∀k,cap=some k->l.length<=k/\cells.length=k*w)
section
variable {h h':AH} {n n' e w:Nat} {v:AV} {α:Type} {c:α->List AV} {l l2:List α}
theorem bQ(hw:∀a,(c a).length=w)(l:List α):(l.flatMap c).length=l.length*w:=by
 induction l with
 |nil=>simp
 |cons a l ih=>rw[List.flatMap_cons,List.length_append,hw,ih,List.length_cons,Nat.succ_mul];omega
theorem Gr.nil(hw:∀a,(c a).length=w):Gr h n e w (.k 1) c []:=⟨hw,.inl ⟨rfl,rfl⟩⟩
theorem Gr.of{b cap:Nat}{cells:List AV}(hw:∀a,(c a).length=w)(hb:b<n)(hg:h.get b=some (.row e cells))(hc:cells.take (l.length*w)=l.flatMap c)(h1:l.length<=cap)(h2:cells.length=cap*w):Gr h n e w (.sl b 0 0 l.length (some cap)) c l:=
 ⟨hw,.inr ⟨b,some cap,cells,rfl,hb,hg,hc,by rw[h2];exact Nat.mul_le_mul_right _ h1,λe=>(by cases e),λk e=>by cases e;exact⟨h1,h2⟩⟩⟩
theorem Gr.all{b len:Nat}(hw:∀a,(c a).length=w)(hb:b<n)(hg:h.get b=some (.row e (l.flatMap c)))(hl:len=l.length):Gr h n e w (.sl b 0 0 len (some len)) c l:=by
 subst hl;exact Gr.of hw hb hg (by rw[<-bQ hw,List.take_length]) (Nat.le_refl _) (bQ hw l)
theorem Gr.sl(g:Gr h n e w v c l):SL h n w v c l:=by
 refine⟨g.1,?_⟩;rcases g.2 with⟨rfl,rfl⟩|⟨b,cap,cells,rfl,h1,h2,h3,h4,h5,h6⟩
 .exact .inl ⟨rfl,rfl,rfl⟩
 .exact .inr (.inl ⟨b,0,0,cap,rfl,h1,by rw[h2];exact .of (m:=l.length*w) (by omega) (by rw[List.drop_zero];exact h3),bQ g.1 l,λk hk=>(h6 k hk).1⟩)
theorem Gr.len(g:Gr h n e w v c l):Iu (some v)=some (.i .i64 (l.length:Nat)):=g.sl.len
theorem Gr.cl(g:Gr h n e w v c l):pQ v=some [v]:=g.sl.cl
theorem Gr.on(g:Gr h n e w v c l)(hn:n<=n')(hs:∀x,x<n->blk v x->h'.get x=h.get x):Gr h' n' e w v c l:=by
 refine⟨g.1,?_⟩;rcases g.2 with h1|⟨b,cap,cells,rfl,h1,h2,h3⟩
 .exact .inl h1
 .exact .inr ⟨b,cap,cells,rfl,by omega,by rw[hs b h1 (fH.2 rfl)];exact h2,h3⟩
theorem Gr.up(g:Gr h n e w v c l)(u:Up h n h' n'):Gr h' n' e w v c l:=g.on u.le λx hx _=>u.old x hx
theorem Gr.gU(g:Gr h n e w v c l){x:Nat}(hx:blk v x):x<n:=g.sl.gU hx
theorem Gr.ty(g:Gr h n e w v c l){x:Nat}(hx:blk v x):∃cells,h.get x=some (.row e cells):=by
 rcases g.2 with⟨rfl,_⟩|⟨b,cap,cells,rfl,h1,h2,h3⟩
 .exact absurd hx gM
 .rw[fH]at hx;subst hx;exact⟨_,h2⟩
theorem Fv{x y:AV}:(iU e w).run h n x y=aP (j_ x) λlx=>aP (j_ y) λly=>aP (iN h w lx x) λcx=>aP (iN h w ly y) λcy=>
 bc (Nat.ble (Nat.add lx ly) 1048576)
 (match x with
 | .sl b _ o _ (some c)=>
  bc (Nat.ble (Nat.add lx ly) c)
   (match h.get b with
    |some (.row t l)=>aP (sP cy (Nat.add o (Nat.mul lx w)) l) λl=>.ok (.sl b 0 o (Nat.add lx ly) (some c)) (h.set b (.row t l)) n
    |_=>.bad)
   (mk h n (.sl n 0 0 (Nat.add lx ly) none) (.row e (AJ cx cy)))
 | .k 1=>bc (Nat.beq ly 0) (.ok (.k 1) h n) (mk h n (.sl n 0 0 ly none) (.row e cy))
 | .sl b 0 0 _ none=>
  (match h.get b with
   |some (.row t l)=>bc (Nat.beq t e) (bc (Nat.beq (lI l) (Nat.mul lx w)) (mk (h.del b) n (.sl n 0 0 (Nat.add lx ly) none) (.row e (AJ cx cy)))
    (bc (Nat.beq w 0) .bad (aP (sP cy (Nat.mul lx w) l) λl=>.ok (.sl b 0 0 (Nat.add lx ly) none) (h.set b (.row t l)) n))) .bad
   |_=>.bad)
 |_=>.bad) .bad:=rfl
theorem Gr.app(g:Gr h n e w v c l){y:AV}(hy1:j_ y=some l2.length)(hy2:iN h w l2.length y=some (l2.flatMap c))(hl:l.length+l2.length<=1048576):
 ∃v' h' n',(iU e w).run h n v y= .ok v' h' n'/\Gr h' n' e w v' c (l++l2)/\n<=n'/\(∀x,x<n->¬blk v x->h'.get x=h.get x)/\∀x,blk v' x->blk v x\/n<=x:=by
 have hw:=g.1;rw[Fv,hy1];rcases g.2 with⟨rfl,rfl⟩|⟨b,cap,cells,rfl,h1,h2,h3,h4,h5,h6⟩
 .show∃v' h' n',aP (iN h w l2.length y) _=eH.ok v' h' n'/\_
  rw[hy2];show∃v' h' n',bc (Nat.ble (Nat.add 0 l2.length) 1048576) (bc (Nat.beq l2.length 0) (eH.ok (.k 1) h n) (mk h n (.sl n 0 0 l2.length none) (.row e (l2.flatMap c)))) .bad=eH.ok v' h' n'/\_;rw[show Nat.add 0 l2.length=l2.length from Nat.zero_add _,Nat.ble_eq_true_of_le (by simpa using hl),bJ];cases l2 with
  |nil=>exact⟨_,_,_,rfl,Gr.nil hw,Nat.le_refl _,λ_ _ _=>rfl,λx hx=>.inl hx⟩
  |cons a l2=>
   refine⟨_,_,_,rfl,⟨hw,.inr ⟨n,none,_,rfl,Nat.lt_succ_self n,aM,?_,?_,λ_=>bQ hw _,λk hk=>by cases hk⟩⟩,Nat.le_succ _,λx hx _=>aI (by omega),λx hx=>?_⟩
   .rw[List.nil_append,<-bQ hw,List.take_length]
   .rw[List.nil_append,<-bQ hw];exact Nat.le_refl _
   .rw[fH]at hx;exact .inr (by omega)
 .have hsrc:iN h w l.length (.sl b 0 0 l.length cap)=some (l.flatMap c):=by
   show bnd (iE (h.get b) 0 _) (λr=>mX (Nat.mul l.length w) r)=_;rw[h2];show mX (l.length*w) (o9 0 cells)=_;rw[oN,if_pos (by omega),List.drop_zero,h3]
  show∃v' h' n',aP (iN h w l.length (.sl b 0 0 l.length cap)) _=eH.ok v' h' n'/\_;rw[hsrc];show∃v' h' n',aP (iN h w l2.length y) _=eH.ok v' h' n'/\_;rw[hy2];have happ:(l++l2).flatMap c=l.flatMap c++l2.flatMap c:=List.flatMap_append;cases cap with
  |none=>
   show∃v' h' n',bc (Nat.ble (Nat.add l.length l2.length) 1048576) (match h.get b with
    |some (.row t r)=>bc (Nat.beq t e) (bc (Nat.beq (lI r) (Nat.mul l.length w)) (mk (h.del b) n (.sl n 0 0 (Nat.add l.length l2.length) none) (.row e (AJ (l.flatMap c) (l2.flatMap c)))) (bc (Nat.beq w 0) .bad (aP (sP (l2.flatMap c) (Nat.mul l.length w) r) λr=>.ok (.sl b 0 0 (Nat.add l.length l2.length) none) (h.set b (.row t r)) n))) .bad
    |_=>.bad) .bad=eH.ok v' h' n'/\_
   rw[show Nat.add l.length l2.length=l.length+l2.length from rfl,Nat.ble_eq_true_of_le hl,bJ,h2];show∃v' h' n',bc (Nat.beq e e) (bc (Nat.beq (lI cells) (l.length*w)) _ _) .bad=eH.ok v' h' n'/\_;rw[Nat.beq_refl,bJ,eu,h5 rfl,Nat.beq_refl,bJ,iB,<-happ];refine⟨_,_,_,rfl,⟨hw,.inr ⟨n,none,_,by rw[List.length_append],Nat.lt_succ_self n,aM,?_,?_,λ_=>bQ hw _,λk hk=>by cases hk⟩⟩,Nat.le_succ _,λx hx hb=>?_,λx hx=>?_⟩
   .rw[<-bQ hw,List.take_length]
   .rw[<-bQ hw];exact Nat.le_refl _
   .rw[aI (by omega),zn,if_neg (λe=>hb (fH.2 e))]
   .rw[fH]at hx;exact .inr (by omega)
  |some k=>
   obtain⟨h7,h8⟩:=h6 k rfl;show∃v' h' n',bc (Nat.ble (l.length+l2.length) 1048576) (bc (Nat.ble (l.length+l2.length) k)
    (match h.get b with
     |some (.row t r)=>aP (sP (l2.flatMap c) (Nat.add 0 (Nat.mul l.length w)) r) λr=>.ok (.sl b 0 0 (l.length+l2.length) (some k)) (h.set b (.row t r)) n
     |_=>.bad)
    (mk h n (.sl n 0 0 (l.length+l2.length) none) (.row e (AJ (l.flatMap c) (l2.flatMap c))))) .bad=eH.ok v' h' n'/\_
   rw[Nat.ble_eq_true_of_le hl,bJ,h2];by_cases hk:l.length+l2.length<=k
   .have hfit:(l.length+l2.length)*w<=k*w:=Nat.mul_le_mul_right _ hk
    rw[Nat.add_mul]at hfit;have hsp:sP (l2.flatMap c) (Nat.add 0 (Nat.mul l.length w)) cells=some (cells.take (l.length*w)++(l2.flatMap c++cells.drop (l.length*w+(l2.flatMap c).length))):=by
     rw[show Nat.add 0 (Nat.mul l.length w)=l.length*w from Nat.zero_add _];refine wz ?_;unfold pG;rw[if_pos (by rw[bQ hw];omega)]
    rw[Nat.ble_eq_true_of_le hk,bJ];show∃v' h' n',aP (sP _ _ cells) _=eH.ok v' h' n'/\_;rw[hsp];refine⟨_,_,_,rfl,⟨hw,.inr ⟨b,some k,_,by rw[List.length_append],h1,aM,?_,?_,λe=>(by cases e),?_⟩⟩,Nat.le_refl _,λx hx hb=>?_,λx hx=>.inl (by rw[fH]at hx⊢;exact hx)⟩
    .rw[happ,h3,List.length_append,Nat.add_mul,<-List.append_assoc,List.take_left' (by rw[List.length_append,bQ hw,bQ hw])]
    .rw[List.length_append,Nat.add_mul,List.length_append,List.length_append,List.length_take,List.length_drop,bQ hw];omega
    .rintro k' hk'
     cases hk'
     rw[List.length_append];refine⟨hk,?_⟩;rw[List.length_append,List.length_append,List.length_take,List.length_drop,bQ hw];omega
    .exact aI λe=>hb (fH.2 e)
   .have hf:Nat.ble (l.length+l2.length) k=false:=by
     cases hq:Nat.ble (l.length+l2.length) k with
     |false=>rfl
     |true=>exact absurd (Nat.le_of_ble_eq_true hq) hk
    rw[hf,fU,iB,<-happ];refine⟨_,_,_,rfl,⟨hw,.inr ⟨n,none,_,by rw[List.length_append],Nat.lt_succ_self n,aM,?_,?_,λ_=>bQ hw _,λk hk=>by cases hk⟩⟩,Nat.le_succ _,λx hx hb=>aI (by omega),λx hx=>?_⟩
    .rw[<-bQ hw,List.take_length]
    .rw[<-bQ hw];exact Nat.le_refl _
    .rw[fH]at hx;exact .inr (by omega)
end
theorem jX{S:SK}{h:AH}{n e w:Nat}{v y:AV}{α:Type}{c:α->List AV}{l l2:List α}{d:MD}{r:List MR}{l':List AV}{s:List It}{f:FT}{F:Fm}{Q:PQ}
 (g:Gr h n e w v c l)(hy:j_ y=some l2.length/\iN h w l2.length y=some (l2.flatMap c))(hl:l.length+l2.length<=1048576)
 (q:∀v' h' n',Gr h' n' e w v' c (l++l2)->n<=n'->(∀x,x<n->¬blk v x->h'.get x=h.get x)->(∀x,blk v' x->blk v x\/n<=x)->lJ S d v' r l' s f h' n' F Q):kR S (Nz e w h n (some v) (some y)) d r l' s f F Q:=by
 obtain⟨v',h',n',e1,e2,e3,e4,e5⟩:=g.app hy.1 hy.2 hl;rw[Vu,e1,aaO];exact q v' h' n' e2 e3 e4 e5
theorem SL.ap{h:AH}{n w:Nat}{v:AV}{α:Type}{c:α->List AV}{l:List α}(s:SL h n w v c l):j_ v=some l.length/\iN h w l.length v=some (l.flatMap c):=⟨s.src.2,s.src.1⟩
abbrev bv(b:UInt8):List AV:=[.i .u8 (Int.ofNat b.toNat)]
theorem acf{h:AH}{l:List UInt8}:j_ (.s l)=some l.length/\iN h 1 l.length (.s l)=some (l.flatMap bv):=by
 refine⟨by show some (lI l)=_;rw[eu],?_⟩;show bc (Nat.beq 1 1) (bnd (mX l.length l) λl=>some (vN l)) none=_;have h1:∀l:List UInt8,mX l.length l=some l:=by
  intro l;induction l with
  |nil=>rfl
  |cons a l ih=>show bnd (mX l.length l) (λx=>some (a::x))=_;rw[ih];rfl
 rw[h1];show some (vN l)=_;congr 1;induction l with
 |nil=>rfl
 |cons a l ih=>
  show AV.i .u8 (Int.ofNat a.toNat)::vN l=_;rw[List.flatMap_cons,ih];rfl
theorem wV{α:Type}{c:α->List AV}{w:Nat}(hw:∀a,(c a).length=w)(l:List α)(i:Nat)(a:α)(hi:i<l.length):pG (c a) (i*w) (l.flatMap c)=some ((l.set i a).flatMap c):=by
 have hm:(i+1)*w<=l.length*w:=Nat.mul_le_mul_right w hi;rw[Nat.succ_mul]at hm;unfold pG;rw[if_pos (by rw[hw,bQ hw];omega),hw];congr 1;clear hm;induction l generalizing i with
 |nil=>simp at hi
 |cons b l ih=>
  cases i with
  |zero=>
   rw[List.set_cons_zero,List.flatMap_cons,List.flatMap_cons,Nat.zero_mul,List.take_zero,List.nil_append,Nat.zero_add,List.drop_left' (hw b)]
  |succ i=>
   rw[List.set_cons_succ,List.flatMap_cons,List.flatMap_cons,<-ih i (by simpa using hi)];rw[Nat.succ_mul,show i*w+w=(c b).length+i*w by rw[hw];omega,List.take_length_add_append,List.append_assoc];congr 1;rw[Nat.add_assoc,List.drop_length_add_append,hw b,Nat.add_comm (i*w) w]
theorem oW{α:Type}{c:α->List AV}{w e:Nat}(hw:∀a,(c a).length=w){l:List α}{i:Nat}{a:α}(hi:i<l.length):fu (some (.row e (l.flatMap c))) (i*w) (some (c a))=some (.row e ((l.set i a).flatMap c)):=by
 show(match pG (c a) (i*w) (l.flatMap c)with|some m=>some (AO.row e m)|none=>none)=_;rw[wV hw l i a hi]
theorem P_{k:Int}{m:Nat}{f:Nat->Option AV}(h0:0<=k)(h:k<(m:Nat)):Cv k m f=f k.toNat:=by
 obtain⟨i,rfl⟩:=Int.eq_ofNat_of_zero_le h0;show bc (Nat.ble (Nat.succ i) m) (f i) none=_;rw[Nat.ble_eq_true_of_le (by omega),bJ];rfl
@[go_sem] theorem acg {w m b o:Nat} {k:Int} {j:IntKind} (h0:0<=k) (h:k<(m:Nat)):JH w m (some (.p b o)) (some (.i j k))=some (.p b (o+k.toNat*w)):=by
 show Cv k m (λk=>some (AV.p b (Nat.add o (Nat.mul k w))))=_;rw[P_ h0 h];rfl
@[go_sem] theorem ZL {e:TypeId} {z:List AV} {x:Nat} {a c:MO} {F:Fm} {u:List AV}:NU (.zR e z a c) x F u=msA e z x (ev a F u) (ev c F u):=rfl
@[go_sem] theorem afL {e:TypeId} {z:List AV} {x a c:Nat} {k j:IntKind} (h1:a<=c) (h2:c<=1048576):msA e z x (some (.i k (a:Nat))) (some (.i j (c:Nat)))=some (.sl x 0 0 a (some c),.row e (rep c z)):=by
 show(if a<=c/\c<=1048576 then some (AV.sl x 0 0 a (some c),AO.row e (rep c z))else none)=_;rw[if_pos ⟨h1,h2⟩]
@[go_sem] theorem BN {e:TypeId} {z:List AV} {h:AH} {n a c:Nat} {k j:IntKind} (h1:a<=c) (h2:c<=1048576):Vi e z h n (some (.i k (a:Nat))) (some (.i j (c:Nat)))=some (.ok (.sl n 0 0 a (some c)) (h.set n (.row e (rep c z))) (n+1)):=by
 show some (bc (Nat.ble a c) (bc (Nat.ble c 1048576) (mk h n (.sl n 0 0 a (some c)) (.row e (rep c z))) .bad) .bad)=_;rw[Nat.ble_eq_true_of_le h1,bJ,Nat.ble_eq_true_of_le h2,bJ];rfl
theorem iR{α:Type}(c:α->List AV)(a:α):∀n,rep n (c a)=(List.replicate n a).flatMap c
 |0=>rfl
 |n+1=>by
  show AJ (c a) (rep n (c a))=_;rw[iB,iR c a n,List.replicate_succ,List.flatMap_cons]
structure Kz(P:Program)(kt:TypeId){κ:Type}(ke:κ->AV):Prop where
 eq:∀a b,∃x,(pR P 30 kt).run (ke a) (ke b)=some x/\(x=true↔a=b)
 ck:∀a,(xI P 30 kt).run (ke a)=true
 sc:∀a,IV (ke a)=true
open Classical in
def sO{κ:Type}(m:List (κ×AV))(k:κ):Option AV:=match m with
 |[]=>none
 |x::r=>if k=x.1 then some x.2 else sO r k
open Classical in
def IC{κ:Type}(m:List (κ×AV))(k:κ)(v:AV):List (κ×AV):=match m with
 |[]=>[(k,v)]
 |x::r=>if k=x.1 then(k,v)::r else x::IC r k v
theorem Oe{κ:Type}(m:List (κ×AV))(k k':κ)(v:AV):sO (IC m k v) k'=(open Classical in if k'=k then some v else sO m k'):=by
 classical
 induction m with
 |nil=>rw[IC,sO];by_cases h:k'=k<;>simp[h,sO]
 |cons x r ih=>
  rw[IC];by_cases h:k=x.1
  .rw[if_pos h,sO,sO]
   by_cases h2:k'=k
   .rw[if_pos h2,if_pos h2]
   .rw[if_neg h2,if_neg h2,if_neg (by rw[<-h];exact h2)]
  .rw[if_neg h,sO,sO,ih]
   by_cases h2:k'=x.1
   .rw[if_pos h2,if_pos h2,if_neg (by rw[h2];exactλe=>h e.symm)]
   .rw[if_neg h2,if_neg h2]
def vg(h:AH)(b:Nat){κ:Type}(ke:κ->AV)(m:List (κ×AV)):Prop:=∃es qo,h.get b=some (.mp es qo)/\es.map (λe=>(e.1,e.2.1))=m.map λx=>(ke x.1,x.2)
section
variable {P:Program} {kt:TypeId} {κ:Type} {ke:κ->AV} {h:AH} {n b:Nat} {m:List (κ×AV)} {k:κ}
theorem wW(T:Kz P kt ke):∀(m:List (κ×AV))(es:List (AV×AV×Nat))(i:Nat),es.map (λe=>(e.1,e.2.1))=m.map (λx=>(ke x.1,x.2))->
 (sO m k=none->kg (pR P 30 kt) (ke k) es i=some none)/\∀v,sO m k=some v->∃j,kg (pR P 30 kt) (ke k) es i=some (some (i+j,v))/\∀u,(Cz (ke k) u j es).map (λe=>(e.1,e.2.1))=(IC m k u).map λx=>(ke x.1,x.2)
 |[],es,i,e=>by
  have:es=[]:=by simpa using e
  subst this;exact⟨λ_=>rfl,λv hv=>by cases hv⟩
 |x::r,[],i,e=>by cases e
 |x::r,a::es,i,e=>by
  rw[List.map_cons,List.map_cons]at e;obtain⟨e1,e2⟩:=List.cons.inj e;obtain⟨e3,e4⟩:=Prod.mk.inj e1;have e3:a.1=ke x.1:=e3;obtain⟨q,q1,q2⟩:=T.eq k x.1;obtain⟨g1,g2⟩:=wW T r es (i+1) e2;have step:kg (pR P 30 kt) (ke k) (a::es) i=bc q (some (some (i,a.2.1))) (kg (pR P 30 kt) (ke k) es (Nat.succ i)):=by
   show bnd ((pR P 30 kt).run (ke k) a.1) _=_;rw[e3,q1];rfl
  rw[sO];by_cases hk:k=x.1
  .rw[if_pos hk,step,q2.2 hk,bJ]
   refine⟨λh=>(by cases h),λv hv=>⟨0,by cases hv;rw[e4];rfl,λu=>?_⟩⟩;rw[IC,if_pos hk];show((ke k,u,a.2.2)::es).map _=_;rw[List.map_cons,List.map_cons,e2]
  .have hq:q=false:=by
    cases q with
    |false=>rfl
    |true=>exact absurd (q2.1 rfl) hk
   rw[if_neg hk,step,hq,fU];refine⟨g1,λv hv=>?_⟩;obtain⟨j,j1,j2⟩:=g2 v hv;refine⟨j+1,by rw[show Nat.succ i=i+1 from rfl,j1];congr 3;omega,λu=>?_⟩;rw[IC,if_neg hk];show(a::Cz (ke k) u j es).map _=_;rw[List.map_cons,List.map_cons,j2 u,e1]
theorem vg.look(g:vg h b ke m)(T:Kz P kt ke){z:Option AV}{ok:Bool}{zv:AV}(hz:z=some zv):Ub P kt z ok h (some (.m b)) (some (ke k))=match sO m k with|some v=>some (bc ok (.bV [v,.b true]) v)|none=>some (bc ok (.bV [zv,.b false]) zv):=by
 obtain⟨es,qo,h1,h2⟩:=g;obtain⟨g1,g2⟩:=wW (k:=k) T m es 0 h2;show bc ((xI P 30 kt).run (ke k)) (bnd (bnd (F8 (h.get b)) λes=>kg (pR P 30 kt) (ke k) es 0) λr=>
  @Option.rec (Nat×AV) (λ_=>Option AV) (bnd z λz=>some (bc ok (.bV [z,.b false]) z)) (λv=>some (bc ok (.bV [v.2,.b true]) v.2)) r) none=_
 rw[T.ck,bJ,h1];show bnd (kg (pR P 30 kt) (ke k) es 0) _=_;cases ha:sO m k with
 |none=>rw[g1 ha,hz];rfl
 |some v=>
  obtain⟨j,j1,_⟩:=g2 v ha;rw[j1];rfl
theorem vg.put(g:vg h b ke m)(T:Kz P kt ke)(v:AV):∃o,CJ (pR P 30 kt) (xI P 30 kt) h n (.m b) (ke k) v= .ok (.bV []) (h.set b o) n/\vg (h.set b o) b ke (IC m k v):=by
 obtain⟨es,qo,h1,h2⟩:=g;obtain⟨g1,g2⟩:=wW (k:=k) T m es 0 h2;show∃o,(match h.get b with
  |some (.mp es c)=>bc ((xI P 30 kt).run (ke k)) (aP (kg (pR P 30 kt) (ke k) es 0) λr=>@Option.rec (Nat×AV) (λ_=>eH) (.ok (.bV []) (h.set b (.mp (AJ es [(ke k,v,c)]) (Nat.succ c))) n)
   (λi=>bc (IV (ke k)) (.ok (.bV []) (h.set b (.mp (Cz (ke k) v i.1 es) c)) n) .bad) r) .bad
  |_=>.bad)=eH.ok (.bV []) (h.set b o) n/\_
 rw[h1];dsimp only;rw[T.ck,bJ];cases ha:sO m k with
 |none=>
  rw[g1 ha];refine⟨_,rfl,_,_,aM,?_⟩;rw[iB,List.map_append,h2];clear h2 g1 g2;induction m with
  |nil=>rfl
  |cons x r ih=>
   rw[sO]at ha;by_cases hk:k=x.1
   .rw[if_pos hk]at ha;cases ha
   .rw[if_neg hk]at ha
    rw[IC,if_neg hk,List.map_cons (f:=λx:κ×AV=>(ke x.1,x.2)),List.map_cons (f:=λx:κ×AV=>(ke x.1,x.2)),List.cons_append,<-ih ha]
 |some w=>
  obtain⟨j,j1,j2⟩:=g2 w ha;rw[j1];show∃o,bc (IV (ke k)) (eH.ok (.bV []) (h.set b (.mp (Cz (ke k) v (0+j) es) qo)) n) .bad=eH.ok (.bV []) (h.set b o) n/\_;rw[T.sc,bJ,Nat.zero_add];exact⟨_,rfl,_,_,aM,j2 v⟩
theorem vg.on{h':AH}(g:vg h b ke m)(e:h'.get b=h.get b):vg h' b ke m:=by unfold vg;rw[e];exact g
theorem vg.new(ke:κ->AV):vg (h.set b (.mp [] 0)) b ke []:=⟨[],0,aM,rfl⟩
end
end
end Go.Proofs.YtjoohkjmoghmoaaGreatDoor
