/- part -/
import Derived.Test.YtjoohkjmoghmoaaGreatDoorP12
set_option linter.all false
namespace Go.Proofs.YtjoohkjmoghmoaaGreatDoor
section
noncomputable section
def x9:List UInt8:=[48,48,48,49,48,50,48,51,48,52,48,53,48,54,48,55,48,56,48,57,49,48,49,49,49,50,49,51,49,52,49,53,49,54,49,55,49,56,49,57,50,48,50,49,50,50,50,51,50,52,50,53,50,54,50,55,50,56,50,57,51,48,51,49,51,50,51,51,51,52,51,53,51,54,51,55,51,56,51,57,52,48,52,49,52,50,52,51,52,52,52,53,52,54,52,55,52,56,52,57,53,48,53,49,53,50,53,51,53,52,53,53,53,54,53,55,53,56,53,57,54,48,54,49,54,50,54,51,54,52,54,53,54,54,54,55,54,56,54,57,55,48,55,49,55,50,55,51,55,52,55,53,55,54,55,55,55,56,55,57,56,48,56,49,56,50,56,51,56,52,56,53,56,54,56,55,56,56,56,57,57,48,57,49,57,50,57,51,57,52,57,53,57,54,57,55,57,56,57,57]
def Eb:MC:=(.seq (.reg [⟨none,(.mv (.s 49)),.l⟩,⟨none,(.bM 7 (.s 47) (.s 49)),.l⟩,⟨none,(.ld (some 7) (.v 0)),.l⟩,⟨none,(.al 169 [(.i .i64 0),(.i .i64 0),(.i .i64 0),(.i .i64 0),(.i .i64 0),(.i .i64 0),(.i .i64 0)]),(.k 8)⟩,⟨none,(.mv (.v 2)),(.k 7)⟩,⟨none,(.st 7 (.s 8) (.v 0)),.n⟩]) (.seq (.reg [⟨none,(.mv (.c (.i .i64 (.negSucc 0)))),(.k 9)⟩]) (.seq (.seq (.reg [⟨none,(.fa 1 (.s 8)),.l⟩,⟨none,(.ld none (.v 0)),.l⟩,⟨none,(.bin .neq 3 (.v 0) (.c (.i .i64 (.negSucc 0)))),(.k 56)⟩]) (.cond (.s 56) (.reg [⟨none,(.fa 0 (.s 1)),.l⟩,⟨none,(.fa 1 (.v 0)),.l⟩,⟨none,(.ld none (.v 0)),.l⟩,⟨none,(.fa 1 (.s 8)),.l⟩,⟨none,(.ld none (.v 0)),.l⟩,⟨none,(.bM 1 (.v 2) (.v 0)),.l⟩,⟨none,(.ld none (.v 0)),.l⟩,⟨none,(.mv (.v 0)),(.k 9)⟩]) .skip)) (.seq (.seq (.reg [⟨none,(.mv (.s 9)),.l⟩,⟨none,(.ld none (.s 3)),.l⟩,⟨none,(.bin .eql 3 (.v 1) (.v 0)),.l⟩,⟨none,(.fa 4 (.s 1)),.l⟩,⟨none,(.ld none (.v 0)),.l⟩,⟨none,(.bin .neq 4 (.v 2) (.v 0)),(.k 69)⟩]) (.cond (.s 69) (.exit 1) .skip)) (.seq (.reg [⟨none,(.ld (some 7) (.s 2)),.l⟩,⟨none,(.fa 0 (.s 1)),.l⟩,⟨none,(.ld (some 4) (.v 0)),.l⟩,⟨none,(.mv (.s 7)),.l⟩,⟨none,(.call (.c (.f 18 [])) [(.v 3),(.v 1),(.v 0)]),.l⟩,⟨none,(.mv (.v 0)),.l⟩,⟨none,(.ext (.v 0) 0),.l⟩,⟨none,(.ext (.v 1) 1),.l⟩,⟨none,(.al 43 [(.i .i64 0),(.k 1),(.k 1),(.k 1)]),(.k 10)⟩,⟨none,(.st 4 (.s 10) (.v 1)),.n⟩,⟨none,(.mv (.v 0)),.l⟩]) (.seq (.reg [⟨none,(.ld (some 4) (.s 10)),.l⟩,⟨none,(.fa 0 (.s 1)),.l⟩,⟨none,(.ld (some 4) (.v 0)),.l⟩,⟨none,(.call (.c (.f 234 [])) [(.v 2),(.v 0)]),.l⟩,⟨none,(.not (.v 0)),.l⟩,⟨none,(.mv (.v 0)),.l⟩,⟨(some ((.v 0),true)),(.mv (.s 0)),.l⟩,⟨(some ((.v 1),true)),(.mv (.s 7)),.l⟩,⟨(some ((.v 2),true)),(.ld (some 4) (.s 10)),.l⟩,⟨(some ((.v 3),true)),(.jH [(.i .i64 0),(.k 1),(.k 1),(.k 1),(.b false)] [(0,(4,(.v 0))),(4,(1,(.c (.b true))))]),.l⟩,⟨(some ((.v 4),true)),(.call (.v 3) [(.v 2),(.v 0)]),.l⟩,⟨(some ((.v 5),true)),(.not (.v 0)),.l⟩,⟨none,(.pick (.v 6) (.v 0) (.c (.b false))),(.k 90)⟩]) (.cond (.s 90) .ret .skip)))))))
def Sj:MC:=(.seq (.seq (.reg [⟨none,(.fa 4 (.s 1)),.l⟩,⟨none,(.ld none (.v 0)),.l⟩,⟨none,(.mv (.v 0)),.l⟩,⟨(some ((.v 0),true)),(.mv (.s 0)),.l⟩,⟨(some ((.v 1),true)),(.fa 0 (.s 1)),.l⟩,⟨(some ((.v 2),true)),(.ld (some 4) (.v 0)),.l⟩,⟨(some ((.v 3),true)),(.call (.c (.f 134 [])) [(.v 0)]),.l⟩,⟨(some ((.v 4),true)),(.jH [(.i .i64 0),(.k 1),(.k 1),(.k 1),(.b false)] [(0,(4,(.v 0)))]),.l⟩,⟨(some ((.v 5),true)),(.call (.v 4) [(.c (.i .i64 (.negSucc 1))),(.v 0)]),.l⟩,⟨(some ((.v 6),true)),(.not (.v 0)),.l⟩,⟨none,(.pick (.v 7) (.v 0) (.c (.b false))),.l⟩,⟨none,(.mv (.v 0)),.l⟩,⟨(some ((.v 0),false)),(.fa 0 (.s 1)),.l⟩,⟨(some ((.v 1),false)),(.fa 0 (.v 0)),.l⟩,⟨(some ((.v 2),false)),(.ld none (.v 0)),.l⟩,⟨(some ((.v 3),false)),(.fa 5 (.s 2)),.l⟩,⟨(some ((.v 4),false)),(.ld none (.v 0)),.l⟩,⟨(some ((.v 5),false)),(.bin .geq 3 (.v 2) (.v 0)),.l⟩,⟨none,(.pick (.v 6) (.c (.b true)) (.v 0)),(.k 30)⟩]) (.cond (.s 30) .ret .skip)) (.seq (.seq (.reg [⟨none,(.fa 4 (.s 1)),.l⟩,⟨none,(.ld none (.v 0)),.l⟩,⟨none,(.not (.v 0)),(.k 33)⟩]) (.cond (.s 33) (.seq (.reg [⟨none,(.ld (some 7) (.s 2)),.l⟩,⟨none,(.fa 0 (.s 1)),.l⟩,⟨none,(.ld (some 4) (.v 0)),.l⟩,⟨none,(.call (.c (.f 18 [])) [(.v 2),(.v 0),(.c (.i .i64 (.negSucc 0)))]),.l⟩,⟨none,(.mv (.v 0)),.l⟩,⟨none,(.ext (.v 0) 0),.l⟩,⟨none,(.ext (.v 1) 1),.l⟩,⟨none,(.al 43 [(.i .i64 0),(.k 1),(.k 1),(.k 1)]),(.k 5)⟩,⟨none,(.st 4 (.s 5) (.v 1)),.n⟩,⟨none,(.mv (.v 0)),.l⟩]) (.seq (.reg [⟨none,(.mv (.s 0)),.l⟩,⟨none,(.ld (some 4) (.s 5)),.l⟩,⟨none,(.jH [(.i .i64 0),(.k 1),(.k 1),(.k 1),(.b false)] [(0,(4,(.v 0))),(4,(1,(.c (.b true))))]),.l⟩,⟨none,(.call (.v 2) [(.c (.i .i64 (.negSucc 0))),(.v 0)]),.l⟩,⟨none,(.not (.v 0)),(.k 45)⟩]) (.cond (.s 45) .ret .skip))) .skip)) (.seq (.reg [⟨none,(.fa 3 (.s 2)),.l⟩,⟨none,(.ld none (.v 0)),(.k 47)⟩,⟨none,(.bf (.s 47)),(.k 48)⟩,⟨none,(.mv (.c (.i .i64 0))),(.k 49)⟩]) (.blk 0 (iD 3 49 48 50 0 1 Eb)))))
theorem c233:dM Tryz.prog sl0 233=some ([true,true,true,true],Sj,[]):=by kernel_rfl
def WM:MC:=(.seq (.reg [⟨none,(.box 27 7 (.s 0)),(.k 3)⟩,⟨none,(.box 3 1 (.s 1)),(.k 4)⟩,⟨none,(.box 45 5 (.s 2)),(.k 5)⟩,⟨none,(.mv (.c (.k 3))),(.k 6)⟩]) (.seq (.reg [⟨none,(.AQ 233 [(.s 5),(.s 3),(.s 4)]),.l⟩,⟨none,(.mv (.v 0)),(.k 6)⟩]) .ret))
theorem acG:dM Tryz.prog sl0 136=some ([true,true,true],WM,[(.t 6)]):=by kernel_rfl
def Sk:MC:=(.seq (.reg [⟨none,(.box 43 4 (.s 0)),(.k 1)⟩,⟨none,(.al 43 [(.i .i64 0),(.k 1),(.k 1),(.k 1)]),(.k 2)⟩]) (.seq (.fM 0 [⟨0,true,[],none,(.fa 1 (.s 1))⟩,⟨1,true,[0],none,(.ld none (.v 0))⟩,⟨3,true,[1],none,(.call (.c (.f 45 [])) [(.v 0)])⟩,⟨0,true,[],none,(.fa 2 (.s 1))⟩,⟨1,true,[3],none,(.ld none (.v 0))⟩,⟨3,true,[4],none,(.call (.c (.f 229 [])) [(.v 0)])⟩,⟨0,true,[],none,(.fa 3 (.s 1))⟩,⟨1,true,[6],none,(.ld none (.v 0))⟩,⟨3,true,[7],none,(.call (.c (.f 230 [])) [(.v 0)])⟩,⟨0,true,[],none,(.fa 1 (.s 1))⟩,⟨3,true,[2,9],none,(.st 1 (.v 1) (.v 0))⟩,⟨0,true,[],none,(.fa 2 (.s 1))⟩,⟨3,true,[5,11],none,(.st 1 (.v 1) (.v 0))⟩,⟨0,true,[],none,(.fa 3 (.s 1))⟩,⟨3,true,[8,13],none,(.st 1 (.v 1) (.v 0))⟩] [(4,0),(7,0),(7,3)] []) (.seq (.reg [⟨none,(.ld (some 4) (.s 1)),.l⟩,⟨none,(.st 4 (.s 2) (.v 0)),.n⟩]) .ret)))
theorem acH:dM Tryz.prog sl0 134=some ([true],Sk,[(.c 2 (some 4))]):=by kernel_rfl
def Sm:MC:=(.seq (.reg [⟨none,(.box 27 7 (.s 0)),(.k 3)⟩,⟨none,(.box 45 5 (.s 2)),(.k 5)⟩,⟨none,(.mv (.c (.b false))),(.k 6)⟩]) (.seq (.reg [⟨none,(.mv (.s 1)),.l⟩,⟨none,(.bin .geq 3 (.v 0) (.c (.i .i64 0))),.l⟩,⟨none,(.mv (.v 0)),.l⟩,⟨(some ((.v 0),true)),(.mv (.s 1)),.l⟩,⟨(some ((.v 1),true)),(.fa 0 (.s 3)),.l⟩,⟨(some ((.v 2),true)),(.ld none (.v 0)),.l⟩,⟨(some ((.v 3),true)),(.bin .lss 3 (.v 2) (.v 0)),.l⟩,⟨none,(.pick (.v 4) (.v 0) (.c (.b false))),.l⟩,⟨none,(.mv (.v 0)),.l⟩,⟨(some ((.v 0),true)),(.ld (some 7) (.s 3)),.l⟩,⟨(some ((.v 1),true)),(.fa 0 (.s 5)),.l⟩,⟨(some ((.v 2),true)),(.ld (some 4) (.v 0)),.l⟩,⟨(some ((.v 3),true)),(.call (.c (.f 47 [])) [(.v 2),(.v 0)]),.l⟩,⟨none,(.pick (.v 4) (.v 0) (.c (.b false))),.l⟩,⟨none,(.mv (.v 0)),(.k 6)⟩]) .ret))
theorem acI:dM Tryz.prog sl0 133=some ([true,true,true],Sm,[(.t 6)]):=by kernel_rfl
def KJ:MC:=(.seq (.seq (.reg [⟨none,(.mv (.s 10)),.l⟩,⟨none,(.fa 1 (.s 8)),.l⟩,⟨none,(.ld none (.v 0)),.l⟩,⟨none,(.bf (.v 0)),.l⟩,⟨none,(.bin .lss 3 (.v 3) (.v 0)),(.k 40)⟩]) (.cond (.s 40) .skip (.exit 0))) (.seq (.blk 1 (.seq (.reg [⟨none,(.al 221 [(.k 1)]),(.k 11)⟩]) (.seq (.seq (.fM 0 [⟨1,true,[],none,(.ld (some 7) (.s 3))⟩,⟨0,true,[],none,(.mv (.s 1))⟩,⟨0,true,[],none,(.fa 1 (.s 8))⟩,⟨1,true,[2],none,(.ld none (.v 0))⟩,⟨0,true,[],none,(.mv (.s 10))⟩,⟨0,true,[3,4],none,(.bM 5 (.v 0) (.v 1))⟩,⟨1,true,[5],none,(.ld (some 5) (.v 0))⟩,⟨3,true,[0,1,6],none,(.call (.c (.f 136 [])) [(.v 0),(.v 1),(.v 2)])⟩] [] [(7,50)]) (.blk 2 (.rng (.s 50) [51,52] (je 74 0) (jf 74 0)))) (.reg [⟨none,(.fa 2 (.s 8)),.l⟩,⟨none,(.ld none (.v 0)),.l⟩,⟨none,(.ld none (.s 11)),.l⟩,⟨none,(.uE 221 1 [(.k 1)] [(0,(1,(.v 0)))]),.l⟩,⟨none,(.app 221 1 (.v 2) (.v 0)),.l⟩,⟨none,(.fa 2 (.s 8)),.l⟩,⟨none,(.st 1 (.v 0) (.v 1)),.n⟩])))) (.reg [⟨none,(.mv (.s 10)),.l⟩,⟨none,(.bin .add 3 (.v 0) (.c (.i .i64 1))),.l⟩,⟨none,(.mv (.v 0)),(.k 10)⟩])))
def m74:MC:=(.seq (.reg [⟨none,(.box 27 7 (.s 0)),(.k 3)⟩,⟨none,(.box 45 5 (.s 2)),(.k 5)⟩,⟨none,(.al 150 [(.i .i64 0),(.k 1),(.k 1)]),(.k 6)⟩,⟨none,(.al 31 [(.i .i64 0)]),(.k 7)⟩]) (.seq (.seq (.reg [⟨none,(.ld (some 7) (.s 3)),.l⟩,⟨none,(.mv (.s 1)),.l⟩,⟨none,(.ld (some 5) (.s 5)),.l⟩,⟨none,(.call (.c (.f 133 [])) [(.v 2),(.v 1),(.v 0)]),.l⟩,⟨none,(.not (.v 0)),(.k 21)⟩]) (.cond (.s 21) (.seq (.reg [⟨none,(.jH [(.i .i64 0),(.k 1),(.k 1)] []),.l⟩,⟨none,(.st 3 (.s 6) (.v 0)),.n⟩,⟨none,(.st 1 (.s 7) (.c (.i .i64 1))),.n⟩]) .ret) .skip)) (.seq (.fM 3 [⟨0,true,[],none,(.mv (.s 1))⟩,⟨0,true,[],none,(.fa 0 (.s 5))⟩,⟨1,true,[1],none,(.ld (some 4) (.v 0))⟩,⟨3,true,[2],none,(.call (.c (.f 134 [])) [(.v 0)])⟩,⟨0,true,[],none,(.fa 4 (.s 5))⟩,⟨1,true,[4],none,(.ld none (.v 0))⟩,⟨0,true,[3,5],none,(.jH [(.i .i64 0),(.k 1),(.k 1),(.k 1),(.b false)] [(0,(4,(.v 0))),(4,(1,(.v 1)))])⟩,⟨2,true,[6],none,(.uE 45 1 [(.i .i64 0),(.k 1),(.k 1),(.k 1),(.b false)] [(0,(5,(.v 0)))])⟩,⟨0,true,[0,7],none,(.jH [(.i .i64 0),(.k 1),(.k 1)] [(0,(1,(.v 0))),(1,(1,(.v 1)))])⟩,⟨2,false,[],none,(.al 150 [(.i .i64 0),(.k 1),(.k 1)])⟩,⟨3,true,[8,9],none,(.st 3 (.v 1) (.v 0))⟩] [(5,0)] [(9,8)]) (.seq (.reg [⟨none,.Iq,.l⟩,⟨none,(.ld (some 5) (.s 5)),.l⟩,⟨none,(.call (.c (.f 135 [])) [(.v 0)]),.l⟩,⟨none,(.upd 9 (.v 2) (.v 0) (.c (.i .i64 0))),.n⟩,⟨none,(.mv (.v 2)),.l⟩,⟨none,(.al 230 [(.k 2)]),(.k 9)⟩,⟨none,(.st 1 (.s 9) (.v 0)),.n⟩]) (.seq (.seq (.reg [⟨none,(.mv (.c (.i .i64 0))),(.k 10)⟩]) (.blk 0 (.loop KJ))) (.seq (.reg [⟨none,(.ld (some 3) (.s 8)),.l⟩,⟨none,(.st 3 (.s 6) (.v 0)),.n⟩,⟨none,(.st 1 (.s 7) (.c (.i .i64 0))),.n⟩]) .ret))))))
theorem c74:dM Tryz.prog sl0 74=some ([true,true,true],m74,[(.c 6 (some 3)),(.c 7 none)]):=by kernel_rfl
def KL:MC:=(.seq (.reg [⟨none,(.mv (.s 51)),(.k 12)⟩]) (.reg [⟨none,(.al 45 [(.i .i64 0),(.k 1),(.k 1),(.k 1),(.b false)]),(.k 13)⟩,⟨none,(.st 5 (.s 13) (.s 52)),.n⟩]))
theorem Sn:oM Tryz.prog (sl0 74) (je 74 0)=some KL:=by kernel_rfl
def Ec:MC:=(.blk 3 (.seq (.reg [⟨none,(.ld (some 5) (.s 13)),.l⟩,⟨none,(.call (.c (.f 135 [])) [(.v 0)]),.l⟩,⟨none,(.mv (.v 0)),(.k 14)⟩]) (.seq (.reg [⟨none,(.ld none (.s 9)),.l⟩,⟨none,(.mv (.s 14)),.l⟩,⟨none,(.look 9 (some (.i .i64 0)) (.v 1) (.v 0) true),.l⟩,⟨none,(.mv (.v 0)),.l⟩,⟨none,(.ext (.v 0) 0),.l⟩,⟨none,(.ext (.v 1) 1),.l⟩,⟨none,(.mv (.v 1)),(.k 15)⟩,⟨none,(.mv (.v 0)),(.k 16)⟩]) (.seq (.seq (.reg [⟨none,(.mv (.s 16)),.l⟩,⟨none,(.not (.v 0)),(.k 62)⟩]) (.cond (.s 62) (.seq (.reg [⟨none,(.fa 1 (.s 8)),.l⟩,⟨none,(.ld none (.v 0)),.l⟩,⟨none,(.bf (.v 0)),.l⟩,⟨none,(.mv (.v 0)),(.k 15)⟩]) (.seq (.seq (.reg [⟨none,(.mv (.s 15)),.l⟩,⟨none,(.bin .eql 3 (.v 0) (.c (.i .i64 1500))),(.k 67)⟩]) (.cond (.s 67) (.seq (.reg [⟨none,(.jH [(.i .i64 0),(.k 1),(.k 1)] []),.l⟩,⟨none,(.st 3 (.s 6) (.v 0)),.n⟩,⟨none,(.st 1 (.s 7) (.c (.i .i64 3))),.n⟩]) .ret) .skip)) (.seq (.reg [⟨none,(.ld none (.s 9)),.l⟩,⟨none,(.mv (.s 14)),.l⟩,⟨none,(.mv (.s 15)),.l⟩,⟨none,(.upd 9 (.v 2) (.v 1) (.v 0)),.n⟩]) (.reg [⟨none,(.fa 1 (.s 8)),.l⟩,⟨none,(.ld none (.v 0)),.l⟩,⟨none,(.ld (some 5) (.s 13)),.l⟩,⟨none,(.uE 45 1 [(.i .i64 0),(.k 1),(.k 1),(.k 1),(.b false)] [(0,(5,(.v 0)))]),.l⟩,⟨none,(.app 45 5 (.v 2) (.v 0)),.l⟩,⟨none,(.fa 1 (.s 8)),.l⟩,⟨none,(.st 1 (.v 0) (.v 1)),.n⟩])))) .skip)) (.reg [⟨none,(.ld none (.s 11)),.l⟩,⟨none,(.mv (.s 12)),.l⟩,⟨none,(.mv (.s 15)),.l⟩,⟨none,(.jH [(.i .i64 0),(.i .i64 0)] [(0,(1,(.v 1))),(1,(1,(.v 0)))]),.l⟩,⟨none,(.uE 223 1 [(.i .i64 0),(.i .i64 0)] [(0,(2,(.v 0)))]),.l⟩,⟨none,(.app 223 2 (.v 4) (.v 0)),.l⟩,⟨none,(.st 1 (.s 11) (.v 0)),.n⟩])))))
theorem Sq:oM Tryz.prog (sl0 74) (jf 74 0)=some Ec:=by kernel_rfl
def m50:MC:=(.seq (.reg [⟨none,(.box 27 7 (.s 0)),(.k 2)⟩,⟨none,(.al 150 [(.i .i64 0),(.k 1),(.k 1)]),(.k 4)⟩,⟨none,(.mv (.c (.i .i64 0))),(.k 5)⟩]) (.seq (.reg [⟨none,(.ld (some 7) (.s 2)),.l⟩,⟨none,(.call (.c (.f 17 [])) [(.v 0)]),.l⟩,⟨none,(.mv (.v 0)),.l⟩,⟨none,(.ext (.v 0) 0),.l⟩,⟨none,(.ext (.v 1) 1),.l⟩,⟨none,(.al 43 [(.i .i64 0),(.k 1),(.k 1),(.k 1)]),(.k 6)⟩,⟨none,(.st 4 (.s 6) (.v 1)),.n⟩,⟨none,(.mv (.v 0)),(.k 7)⟩]) (.seq (.seq (.reg [⟨none,(.mv (.s 7)),.l⟩,⟨none,(.bin .neq 31 (.v 0) (.c (.i .i64 0))),(.k 14)⟩]) (.cond (.s 14) (.seq (.reg [⟨none,(.jH [(.i .i64 0),(.k 1),(.k 1)] []),.l⟩,⟨none,(.mv (.s 7)),.l⟩,⟨none,(.st 3 (.s 4) (.v 1)),.n⟩,⟨none,(.mv (.v 0)),(.k 5)⟩]) .ret) .skip)) (.seq (.reg [⟨none,(.ld (some 7) (.s 2)),.l⟩,⟨none,(.mv (.s 1)),.l⟩,⟨none,(.ld (some 4) (.s 6)),.l⟩,⟨none,(.jH [(.i .i64 0),(.k 1),(.k 1),(.k 1),(.b false)] [(0,(4,(.v 0))),(4,(1,(.c (.b true))))]),.l⟩,⟨none,(.call (.c (.f 74 [])) [(.v 3),(.v 2),(.v 0)]),.l⟩,⟨none,(.ext (.v 0) 0),.l⟩,⟨none,(.ext (.v 1) 1),.l⟩,⟨none,(.st 3 (.s 4) (.v 1)),.n⟩,⟨none,(.mv (.v 0)),(.k 5)⟩]) .ret))))
theorem c50:dM Tryz.prog sl0 50=some ([true,true],m50,[(.c 4 (some 3)),(.t 5)]):=by kernel_rfl
def KM:MC:=(.seq (.reg [⟨none,(.bM 5 (.s 56) (.s 58)),.l⟩,⟨none,(.ld (some 5) (.v 0)),.l⟩,⟨none,(.al 144 [(.i .i64 0),(.i .i64 0),(.i .i64 0),(.i .i64 0),(.b false)]),(.k 11)⟩,⟨none,(.st 5 (.s 11) (.v 0)),.n⟩]) (.seq (.reg [⟨none,(.mv (.s 4)),.l⟩,⟨none,(.fa 0 (.s 11)),.l⟩,⟨none,(.ld none (.v 0)),.l⟩,⟨none,(.call (.v 2) [(.v 0)]),.l⟩]) (.seq (.reg [⟨none,(.mv (.s 4)),.l⟩,⟨none,(.fa 1 (.s 11)),.l⟩,⟨none,(.ld none (.v 0)),.l⟩,⟨none,(.call (.v 2) [(.v 0)]),.l⟩]) (.seq (.reg [⟨none,(.mv (.s 4)),.l⟩,⟨none,(.fa 2 (.s 11)),.l⟩,⟨none,(.ld none (.v 0)),.l⟩,⟨none,(.call (.v 2) [(.v 0)]),.l⟩]) (.seq (.reg [⟨none,(.mv (.s 4)),.l⟩,⟨none,(.fa 3 (.s 11)),.l⟩,⟨none,(.ld none (.v 0)),.l⟩,⟨none,(.call (.v 2) [(.v 0)]),.l⟩]) (.reg [⟨none,(.mv (.s 5)),.l⟩,⟨none,(.fa 4 (.s 11)),.l⟩,⟨none,(.ld none (.v 0)),.l⟩,⟨none,(.call (.v 2) [(.v 0)]),.l⟩]))))))
def KN:MC:=(.seq (.reg [⟨none,(.bM 1 (.s 44) (.s 46)),.l⟩,⟨none,(.ld none (.v 0)),.l⟩,⟨none,(.mv (.v 0)),(.k 9)⟩]) (.reg [⟨none,(.mv (.s 5)),.l⟩,⟨none,(.mv (.s 9)),.l⟩,⟨none,(.call (.v 1) [(.v 0)]),.l⟩]))
def KO:MC:=(.seq (.reg [⟨none,(.bM 1 (.s 32) (.s 34)),.l⟩,⟨none,(.ld none (.v 0)),.l⟩,⟨none,(.mv (.v 0)),(.k 7)⟩]) (.reg [⟨none,(.mv (.s 4)),.l⟩,⟨none,(.mv (.s 7)),.l⟩,⟨none,(.call (.v 1) [(.v 0)]),.l⟩]))
def WO:MC:=(.seq (.reg [⟨none,(.box 45 5 (.s 0)),(.k 1)⟩,⟨none,(.mv (.c (.s []))),(.k 2)⟩]) (.seq (.reg [⟨none,(.fa 0 (.s 1)),.l⟩,⟨none,(.fa 3 (.v 0)),.l⟩,⟨none,(.ld none (.v 0)),.l⟩,⟨none,(.bf (.v 0)),.l⟩,⟨none,(.bin .mul 3 (.c (.i .i64 12)) (.v 0)),.l⟩,⟨none,(.bin .add 3 (.c (.i .i64 32)) (.v 0)),.l⟩,⟨none,(.zR 5 [(.i .u8 0)] (.c (.i .i64 0)) (.v 0)),.l⟩,⟨none,(.al 306 [(.k 1)]),(.k 3)⟩,⟨none,(.st 1 (.s 3) (.v 0)),.n⟩]) (.seq (.reg [⟨none,(.AQ 231 [(.s 3)]),.l⟩,⟨none,(.mv (.v 0)),(.k 4)⟩]) (.seq (.reg [⟨none,(.AQ 232 [(.s 3)]),.l⟩,⟨none,(.mv (.v 0)),(.k 5)⟩]) (.seq (.reg [⟨none,(.mv (.s 5)),.l⟩,⟨none,(.fa 4 (.s 1)),.l⟩,⟨none,(.ld none (.v 0)),.l⟩,⟨none,(.call (.v 2) [(.v 0)]),.l⟩]) (.seq (.reg [⟨none,(.mv (.s 4)),.l⟩,⟨none,(.fa 0 (.s 1)),.l⟩,⟨none,(.fa 0 (.v 0)),.l⟩,⟨none,(.ld none (.v 0)),.l⟩,⟨none,(.call (.v 3) [(.v 0)]),.l⟩]) (.seq (.seq (.reg [⟨none,(.fa 0 (.s 1)),.l⟩,⟨none,(.fa 1 (.v 0)),.l⟩,⟨none,(.ld none (.v 0)),(.k 32)⟩,⟨none,(.bf (.s 32)),(.k 33)⟩,⟨none,(.mv (.c (.i .i64 0))),(.k 34)⟩]) (.blk 0 (iD 3 34 33 35 0 1 KO))) (.seq (.seq (.reg [⟨none,(.fa 0 (.s 1)),.l⟩,⟨none,(.fa 2 (.v 0)),.l⟩,⟨none,(.ld none (.v 0)),(.k 44)⟩,⟨none,(.bf (.s 44)),(.k 45)⟩,⟨none,(.mv (.c (.i .i64 0))),(.k 46)⟩]) (.blk 2 (iD 3 46 45 47 2 3 KN))) (.seq (.seq (.reg [⟨none,(.fa 0 (.s 1)),.l⟩,⟨none,(.fa 3 (.v 0)),.l⟩,⟨none,(.ld none (.v 0)),(.k 56)⟩,⟨none,(.bf (.s 56)),(.k 57)⟩,⟨none,(.mv (.c (.i .i64 0))),(.k 58)⟩]) (.blk 4 (iD 3 58 57 59 4 5 KM))) (.seq (.reg [⟨none,(.ld none (.s 3)),.l⟩,⟨none,(.Gw (.v 0)),.l⟩,⟨none,(.mv (.v 0)),(.k 2)⟩]) .ret))))))))))
theorem acL:dM Tryz.prog sl0 135=some ([true],WO,[(.t 2)]):=by kernel_rfl
def WQ:MC:=(.reg [⟨none,(.ld none (.s 1)),.l⟩,⟨none,(.mv (.s 0)),.l⟩,⟨none,(.call (.c (.f 160 [])) [(.v 1),(.v 0),(.c (.i .i64 10))]),.l⟩,⟨none,(.uE 5 1 [(.i .u8 0)] [(0,(1,(.c (.i .u8 32))))]),.l⟩,⟨none,(.app 5 1 (.v 1) (.v 0)),.l⟩,⟨none,(.st 1 (.s 1) (.v 0)),.n⟩])
theorem acM:dM Tryz.prog sl0 231=some ([true,true],WQ,[]):=by kernel_rfl
def Sr:MC:=(.seq (.reg [⟨none,(.mv (.s 0)),(.k 3)⟩]) (.cond (.s 3) (.reg [⟨none,(.ld none (.s 1)),.l⟩,⟨none,(.uE 5 1 [(.i .u8 0)] [(0,(1,(.c (.i .u8 43))))]),.l⟩,⟨none,(.app 5 1 (.v 1) (.v 0)),.l⟩,⟨none,(.st 1 (.s 1) (.v 0)),.n⟩]) (.reg [⟨none,(.ld none (.s 1)),.l⟩,⟨none,(.uE 5 1 [(.i .u8 0)] [(0,(1,(.c (.i .u8 45))))]),.l⟩,⟨none,(.app 5 1 (.v 1) (.v 0)),.l⟩,⟨none,(.st 1 (.s 1) (.v 0)),.n⟩])))
theorem c232:dM Tryz.prog sl0 232=some ([true,true],Sr,[]):=by kernel_rfl
def WR:MC:=(.seq (.reg [⟨none,(.mv (.c (.k 1))),(.k 6)⟩]) (.seq (.reg [⟨none,(.mv (.s 0)),.l⟩,⟨none,(.mv (.s 1)),.l⟩,⟨none,(.mv (.s 2)),.l⟩,⟨none,(.call (.c (.f 250 [])) [(.v 2),(.v 1),(.v 0)]),.l⟩,⟨none,(.mv (.v 0)),(.k 6)⟩]) .ret))
theorem c160:dM Tryz.prog sl0 160=some ([true,true,true],WR,[(.t 6)]):=by kernel_rfl
def Sv:MC:=(.seq (.reg [⟨none,(.mv (.c (.k 1))),(.k 6)⟩]) (.seq (.reg [⟨none,(.mv (.s 1)),.l⟩,⟨none,(.Bw .u64 (.v 0)),.l⟩,⟨none,(.mv (.v 0)),(.k 7)⟩]) (.seq (.seq (.reg [⟨none,(.mv (.s 1)),.l⟩,⟨none,(.bin .lss 2 (.v 0) (.c (.i .i64 0))),(.k 11)⟩]) (.cond (.s 11) (.seq (.reg [⟨none,(.mv (.s 0)),.l⟩,⟨none,(.uE 5 1 [(.i .u8 0)] [(0,(1,(.c (.i .u8 45))))]),.l⟩,⟨none,(.app 5 1 (.v 1) (.v 0)),.l⟩,⟨none,(.mv (.v 0)),(.k 0)⟩]) (.reg [⟨none,(.mv (.s 7)),.l⟩,⟨none,(.neg (.v 0)),.l⟩,⟨none,(.mv (.v 0)),(.k 7)⟩])) .skip)) (.seq (.reg [⟨none,(.mv (.s 0)),.l⟩,⟨none,(.mv (.s 7)),.l⟩,⟨none,(.mv (.s 2)),.l⟩,⟨none,(.call (.c (.f 282 [])) [(.v 2),(.v 1),(.v 0)]),.l⟩,⟨none,(.mv (.v 0)),(.k 6)⟩]) .ret))))
theorem acN:dM Tryz.prog sl0 250=some ([true,true,true],Sv,[(.t 6)]):=by kernel_rfl
def Ed:MC:=(.seq (.reg [⟨none,(.mv (.c (.k 1))),(.k 6)⟩]) (.seq (.seq (.reg [⟨none,(.mv (.s 2)),.l⟩,⟨none,(.bin .eql 3 (.v 0) (.c (.i .i64 10))),(.k 10)⟩]) (.cond (.s 10) (.seq (.seq (.reg [⟨none,(.mv (.s 1)),.l⟩,⟨none,(.bin .lss 338 (.v 0) (.c (.i .u64 100))),(.k 12)⟩]) (.cond (.s 12) (.seq (.reg [⟨none,(.mv (.s 0)),.l⟩,⟨none,(.mv (.s 1)),.l⟩,⟨none,(.Bw .i64 (.v 0)),.l⟩,⟨none,(.call (.c (.f 286 [])) [(.v 0)]),.l⟩,⟨none,(.app 5 1 (.v 3) (.v 0)),.l⟩,⟨none,(.mv (.v 0)),(.k 6)⟩]) .ret) .skip)) (.seq (.reg [⟨none,(.al 402 [(.i .u8 0),(.i .u8 0),(.i .u8 0),(.i .u8 0),(.i .u8 0),(.i .u8 0),(.i .u8 0),(.i .u8 0),(.i .u8 0),(.i .u8 0),(.i .u8 0),(.i .u8 0),(.i .u8 0),(.i .u8 0),(.i .u8 0),(.i .u8 0),(.i .u8 0),(.i .u8 0),(.i .u8 0),(.i .u8 0),(.i .u8 0),(.i .u8 0),(.i .u8 0),(.i .u8 0)]),(.k 7)⟩]) (.seq (.reg [⟨none,(.mv (.s 1)),.l⟩,⟨none,(.call (.c (.f 287 [])) [(.v 0)]),.l⟩,⟨none,(.mv (.v 0)),(.k 8)⟩]) (.seq (.reg [⟨none,(.mv (.s 8)),.l⟩,⟨none,(.Jt 1 24 (.s 7) none (some (.v 0))),.l⟩,⟨none,(.mv (.s 1)),.l⟩,⟨none,(.call (.c (.f 288 [])) [(.v 1),(.v 0)]),.l⟩]) (.seq (.reg [⟨none,(.mv (.s 0)),.l⟩,⟨none,(.mv (.s 8)),.l⟩,⟨none,(.Jt 1 24 (.s 7) none (some (.v 0))),.l⟩,⟨none,(.app 5 1 (.v 2) (.v 0)),.l⟩,⟨none,(.mv (.v 0)),(.k 6)⟩]) .ret))))) .skip)) (.seq (.reg [⟨none,(.mv (.s 0)),.l⟩,⟨none,(.mv (.s 1)),.l⟩,⟨none,(.mv (.s 2)),.l⟩,⟨none,(.call (.c (.f 289 [])) [(.v 2),(.v 1),(.v 0),(.c (.b false)),(.c (.b true))]),.l⟩,⟨none,(.mv (.v 0)),.l⟩,⟨none,(.ext (.v 0) 0),.l⟩,⟨none,(.ext (.v 1) 1),.l⟩,⟨none,(.mv (.v 1)),(.k 0)⟩]) (.seq (.reg [⟨none,(.mv (.s 0)),.l⟩,⟨none,(.mv (.v 0)),(.k 6)⟩]) .ret))))
theorem acO:dM Tryz.prog sl0 282=some ([true,true,true],Ed,[(.t 6)]):=by kernel_rfl
def Sw:MC:=(.seq (.reg [⟨none,(.mv (.c (.s []))),(.k 2)⟩]) (.seq (.seq (.reg [⟨none,(.mv (.s 0)),.l⟩,⟨none,(.bin .lss 3 (.v 0) (.c (.i .i64 10))),(.k 4)⟩]) (.cond (.s 4) (.seq (.reg [⟨none,(.mv (.s 0)),.l⟩,⟨none,(.mv (.s 0)),.l⟩,⟨none,(.bin .add 3 (.v 0) (.c (.i .i64 1))),.l⟩,⟨none,(.PI (.c (.s [48,49,50,51,52,53,54,55,56,57,97,98,99,100,101,102,103,104,105,106,107,108,109,110,111,112,113,114,115,116,117,118,119,120,121,122])) (some (.v 2)) (some (.v 0))),.l⟩,⟨none,(.mv (.v 0)),(.k 2)⟩]) .ret) .skip)) (.seq (.reg [⟨none,(.mv (.s 0)),.l⟩,⟨none,(.bin .mul 3 (.v 0) (.c (.i .i64 2))),.l⟩,⟨none,(.mv (.s 0)),.l⟩,⟨none,(.bin .mul 3 (.v 0) (.c (.i .i64 2))),.l⟩,⟨none,(.bin .add 3 (.v 0) (.c (.i .i64 2))),.l⟩,⟨none,(.PI (.c (.s x9)) (some (.v 3)) (some (.v 0))),.l⟩,⟨none,(.mv (.v 0)),(.k 2)⟩]) .ret)))
theorem acP:dM Tryz.prog sl0 286=some ([true],Sw,[(.t 2)]):=by kernel_rfl
def Ee:MC:=(.seq (.seq (.reg [⟨none,(.mv (.s 4)),.l⟩,⟨none,(.bin .geq 3 (.v 0) (.c (.i .i64 8))),(.k 20)⟩]) (.cond (.s 20) .skip (.exit 0))) (.blk 1 (.seq (.reg [⟨none,(.mv (.s 1)),.l⟩,⟨none,(.bin .rem 338 (.v 0) (.c (.i .u64 100000000))),.l⟩,⟨none,(.Bw .u32 (.v 0)),.l⟩,⟨none,(.mv (.v 0)),(.k 5)⟩]) (.seq (.reg [⟨none,(.mv (.s 1)),.l⟩,⟨none,(.bin .quo 338 (.v 0) (.c (.i .u64 100000000))),.l⟩,⟨none,(.mv (.v 0)),(.k 1)⟩]) (.seq (.reg [⟨none,(.mv (.s 5)),.l⟩,⟨none,(.bin .quo 336 (.v 0) (.c (.i .u32 10000))),.l⟩,⟨none,(.mv (.s 5)),.l⟩,⟨none,(.bin .rem 336 (.v 0) (.c (.i .u32 10000))),.l⟩,⟨none,(.mv (.v 2)),(.k 6)⟩,⟨none,(.mv (.v 0)),(.k 7)⟩]) (.seq (.reg [⟨none,(.mv (.s 7)),.l⟩,⟨none,(.bin .quo 336 (.v 0) (.c (.i .u32 100))),.l⟩,⟨none,(.bin .mul 336 (.v 0) (.c (.i .u32 2))),.l⟩,⟨none,(.mv (.s 7)),.l⟩,⟨none,(.bin .rem 336 (.v 0) (.c (.i .u32 100))),.l⟩,⟨none,(.bin .mul 336 (.v 0) (.c (.i .u32 2))),.l⟩,⟨none,(.mv (.v 3)),(.k 8)⟩,⟨none,(.mv (.v 0)),(.k 9)⟩]) (.seq (.reg [⟨none,(.mv (.s 6)),.l⟩,⟨none,(.bin .quo 336 (.v 0) (.c (.i .u32 100))),.l⟩,⟨none,(.bin .mul 336 (.v 0) (.c (.i .u32 2))),.l⟩,⟨none,(.mv (.s 6)),.l⟩,⟨none,(.bin .rem 336 (.v 0) (.c (.i .u32 100))),.l⟩,⟨none,(.bin .mul 336 (.v 0) (.c (.i .u32 2))),.l⟩,⟨none,(.mv (.v 3)),(.k 10)⟩,⟨none,(.mv (.v 0)),(.k 11)⟩]) (.seq (.fM 0 [⟨0,true,[],none,(.mv (.s 0))⟩,⟨0,true,[],none,(.mv (.s 4))⟩,⟨0,true,[1],none,(.bin .sub 3 (.v 0) (.c (.i .i64 1)))⟩,⟨0,true,[],none,(.mv (.s 0))⟩,⟨0,true,[],none,(.mv (.s 4))⟩,⟨0,true,[4],none,(.bin .sub 3 (.v 0) (.c (.i .i64 2)))⟩,⟨0,true,[],none,(.mv (.s 9))⟩,⟨0,true,[6],none,(.bin .add 336 (.v 0) (.c (.i .u32 1)))⟩,⟨0,true,[7],none,(.yF (.c (.s x9)) (.v 0))⟩,⟨0,true,[],none,(.mv (.s 9))⟩,⟨0,true,[9],none,(.yF (.c (.s x9)) (.v 0))⟩,⟨0,true,[0,2],none,(.bM 1 (.v 0) (.v 1))⟩,⟨3,true,[8,11],none,(.st 1 (.v 1) (.v 0))⟩,⟨0,true,[3,5],none,(.bM 1 (.v 0) (.v 1))⟩,⟨3,true,[10,13],none,(.st 1 (.v 1) (.v 0))⟩] [] []) (.seq (.fM 0 [⟨0,true,[],none,(.mv (.s 0))⟩,⟨0,true,[],none,(.mv (.s 4))⟩,⟨0,true,[1],none,(.bin .sub 3 (.v 0) (.c (.i .i64 3)))⟩,⟨0,true,[],none,(.mv (.s 0))⟩,⟨0,true,[],none,(.mv (.s 4))⟩,⟨0,true,[4],none,(.bin .sub 3 (.v 0) (.c (.i .i64 4)))⟩,⟨0,true,[],none,(.mv (.s 8))⟩,⟨0,true,[6],none,(.bin .add 336 (.v 0) (.c (.i .u32 1)))⟩,⟨0,true,[7],none,(.yF (.c (.s x9)) (.v 0))⟩,⟨0,true,[],none,(.mv (.s 8))⟩,⟨0,true,[9],none,(.yF (.c (.s x9)) (.v 0))⟩,⟨0,true,[0,2],none,(.bM 1 (.v 0) (.v 1))⟩,⟨3,true,[8,11],none,(.st 1 (.v 1) (.v 0))⟩,⟨0,true,[3,5],none,(.bM 1 (.v 0) (.v 1))⟩,⟨3,true,[10,13],none,(.st 1 (.v 1) (.v 0))⟩] [] []) (.seq (.fM 0 [⟨0,true,[],none,(.mv (.s 0))⟩,⟨0,true,[],none,(.mv (.s 4))⟩,⟨0,true,[1],none,(.bin .sub 3 (.v 0) (.c (.i .i64 5)))⟩,⟨0,true,[],none,(.mv (.s 0))⟩,⟨0,true,[],none,(.mv (.s 4))⟩,⟨0,true,[4],none,(.bin .sub 3 (.v 0) (.c (.i .i64 6)))⟩,⟨0,true,[],none,(.mv (.s 11))⟩,⟨0,true,[6],none,(.bin .add 336 (.v 0) (.c (.i .u32 1)))⟩,⟨0,true,[7],none,(.yF (.c (.s x9)) (.v 0))⟩,⟨0,true,[],none,(.mv (.s 11))⟩,⟨0,true,[9],none,(.yF (.c (.s x9)) (.v 0))⟩,⟨0,true,[0,2],none,(.bM 1 (.v 0) (.v 1))⟩,⟨3,true,[8,11],none,(.st 1 (.v 1) (.v 0))⟩,⟨0,true,[3,5],none,(.bM 1 (.v 0) (.v 1))⟩,⟨3,true,[10,13],none,(.st 1 (.v 1) (.v 0))⟩] [] []) (.seq (.fM 0 [⟨0,true,[],none,(.mv (.s 0))⟩,⟨0,true,[],none,(.mv (.s 4))⟩,⟨0,true,[1],none,(.bin .sub 3 (.v 0) (.c (.i .i64 7)))⟩,⟨0,true,[],none,(.mv (.s 0))⟩,⟨0,true,[],none,(.mv (.s 4))⟩,⟨0,true,[4],none,(.bin .sub 3 (.v 0) (.c (.i .i64 8)))⟩,⟨0,true,[],none,(.mv (.s 10))⟩,⟨0,true,[6],none,(.bin .add 336 (.v 0) (.c (.i .u32 1)))⟩,⟨0,true,[7],none,(.yF (.c (.s x9)) (.v 0))⟩,⟨0,true,[],none,(.mv (.s 10))⟩,⟨0,true,[9],none,(.yF (.c (.s x9)) (.v 0))⟩,⟨0,true,[0,2],none,(.bM 1 (.v 0) (.v 1))⟩,⟨3,true,[8,11],none,(.st 1 (.v 1) (.v 0))⟩,⟨0,true,[3,5],none,(.bM 1 (.v 0) (.v 1))⟩,⟨3,true,[10,13],none,(.st 1 (.v 1) (.v 0))⟩] [] []) (.reg [⟨none,(.mv (.s 4)),.l⟩,⟨none,(.bin .sub 3 (.v 0) (.c (.i .i64 8))),.l⟩,⟨none,(.mv (.v 0)),(.k 4)⟩]))))))))))))
def Sy:MC:=(.seq (.reg [⟨none,(.mv (.s 0)),.l⟩,⟨none,(.bf (.v 0)),.l⟩,⟨none,(.mv (.v 0)),(.k 4)⟩]) (.seq (.blk 0 (.loop Ee)) (.seq (.reg [⟨none,(.mv (.s 1)),.l⟩,⟨none,(.Bw .u32 (.v 0)),.l⟩,⟨none,(.mv (.v 0)),(.k 12)⟩]) (.seq (.seq (.reg [⟨none,(.mv (.s 4)),.l⟩,⟨none,(.bin .geq 3 (.v 0) (.c (.i .i64 4))),(.k 99)⟩]) (.cond (.s 99) (.seq (.reg [⟨none,(.mv (.s 12)),.l⟩,⟨none,(.bin .rem 336 (.v 0) (.c (.i .u32 10000))),.l⟩,⟨none,(.mv (.v 0)),(.k 13)⟩]) (.seq (.reg [⟨none,(.mv (.s 12)),.l⟩,⟨none,(.bin .quo 336 (.v 0) (.c (.i .u32 10000))),.l⟩,⟨none,(.mv (.v 0)),(.k 12)⟩]) (.seq (.reg [⟨none,(.mv (.s 13)),.l⟩,⟨none,(.bin .quo 336 (.v 0) (.c (.i .u32 100))),.l⟩,⟨none,(.bin .mul 336 (.v 0) (.c (.i .u32 2))),.l⟩,⟨none,(.mv (.s 13)),.l⟩,⟨none,(.bin .rem 336 (.v 0) (.c (.i .u32 100))),.l⟩,⟨none,(.bin .mul 336 (.v 0) (.c (.i .u32 2))),.l⟩,⟨none,(.mv (.v 3)),(.k 14)⟩,⟨none,(.mv (.v 0)),(.k 15)⟩]) (.seq (.fM 0 [⟨0,true,[],none,(.mv (.s 0))⟩,⟨0,true,[],none,(.mv (.s 4))⟩,⟨0,true,[1],none,(.bin .sub 3 (.v 0) (.c (.i .i64 1)))⟩,⟨0,true,[],none,(.mv (.s 0))⟩,⟨0,true,[],none,(.mv (.s 4))⟩,⟨0,true,[4],none,(.bin .sub 3 (.v 0) (.c (.i .i64 2)))⟩,⟨0,true,[],none,(.mv (.s 15))⟩,⟨0,true,[6],none,(.bin .add 336 (.v 0) (.c (.i .u32 1)))⟩,⟨0,true,[7],none,(.yF (.c (.s x9)) (.v 0))⟩,⟨0,true,[],none,(.mv (.s 15))⟩,⟨0,true,[9],none,(.yF (.c (.s x9)) (.v 0))⟩,⟨0,true,[0,2],none,(.bM 1 (.v 0) (.v 1))⟩,⟨3,true,[8,11],none,(.st 1 (.v 1) (.v 0))⟩,⟨0,true,[3,5],none,(.bM 1 (.v 0) (.v 1))⟩,⟨3,true,[10,13],none,(.st 1 (.v 1) (.v 0))⟩] [] []) (.seq (.fM 0 [⟨0,true,[],none,(.mv (.s 0))⟩,⟨0,true,[],none,(.mv (.s 4))⟩,⟨0,true,[1],none,(.bin .sub 3 (.v 0) (.c (.i .i64 3)))⟩,⟨0,true,[],none,(.mv (.s 0))⟩,⟨0,true,[],none,(.mv (.s 4))⟩,⟨0,true,[4],none,(.bin .sub 3 (.v 0) (.c (.i .i64 4)))⟩,⟨0,true,[],none,(.mv (.s 14))⟩,⟨0,true,[6],none,(.bin .add 336 (.v 0) (.c (.i .u32 1)))⟩,⟨0,true,[7],none,(.yF (.c (.s x9)) (.v 0))⟩,⟨0,true,[],none,(.mv (.s 14))⟩,⟨0,true,[9],none,(.yF (.c (.s x9)) (.v 0))⟩,⟨0,true,[0,2],none,(.bM 1 (.v 0) (.v 1))⟩,⟨3,true,[8,11],none,(.st 1 (.v 1) (.v 0))⟩,⟨0,true,[3,5],none,(.bM 1 (.v 0) (.v 1))⟩,⟨3,true,[10,13],none,(.st 1 (.v 1) (.v 0))⟩] [] []) (.reg [⟨none,(.mv (.s 4)),.l⟩,⟨none,(.bin .sub 3 (.v 0) (.c (.i .i64 4))),.l⟩,⟨none,(.mv (.v 0)),(.k 4)⟩])))))) .skip)) (.seq (.seq (.reg [⟨none,(.mv (.s 4)),.l⟩,⟨none,(.bin .geq 3 (.v 0) (.c (.i .i64 2))),(.k 139)⟩]) (.cond (.s 139) (.seq (.reg [⟨none,(.mv (.s 12)),.l⟩,⟨none,(.bin .rem 336 (.v 0) (.c (.i .u32 100))),.l⟩,⟨none,(.bin .mul 336 (.v 0) (.c (.i .u32 2))),.l⟩,⟨none,(.mv (.v 0)),(.k 16)⟩]) (.seq (.reg [⟨none,(.mv (.s 12)),.l⟩,⟨none,(.bin .quo 336 (.v 0) (.c (.i .u32 100))),.l⟩,⟨none,(.mv (.v 0)),(.k 12)⟩]) (.seq (.fM 0 [⟨0,true,[],none,(.mv (.s 0))⟩,⟨0,true,[],none,(.mv (.s 4))⟩,⟨0,true,[1],none,(.bin .sub 3 (.v 0) (.c (.i .i64 1)))⟩,⟨0,true,[],none,(.mv (.s 0))⟩,⟨0,true,[],none,(.mv (.s 4))⟩,⟨0,true,[4],none,(.bin .sub 3 (.v 0) (.c (.i .i64 2)))⟩,⟨0,true,[],none,(.mv (.s 16))⟩,⟨0,true,[6],none,(.bin .add 336 (.v 0) (.c (.i .u32 1)))⟩,⟨0,true,[7],none,(.yF (.c (.s x9)) (.v 0))⟩,⟨0,true,[],none,(.mv (.s 16))⟩,⟨0,true,[9],none,(.yF (.c (.s x9)) (.v 0))⟩,⟨0,true,[0,2],none,(.bM 1 (.v 0) (.v 1))⟩,⟨3,true,[8,11],none,(.st 1 (.v 1) (.v 0))⟩,⟨0,true,[3,5],none,(.bM 1 (.v 0) (.v 1))⟩,⟨3,true,[10,13],none,(.st 1 (.v 1) (.v 0))⟩] [] []) (.reg [⟨none,(.mv (.s 4)),.l⟩,⟨none,(.bin .sub 3 (.v 0) (.c (.i .i64 2))),.l⟩,⟨none,(.mv (.v 0)),(.k 4)⟩])))) .skip)) (.seq (.reg [⟨none,(.mv (.s 4)),.l⟩,⟨none,(.bin .gtr 3 (.v 0) (.c (.i .i64 0))),(.k 161)⟩]) (.cond (.s 161) (.reg [⟨none,(.mv (.s 0)),.l⟩,⟨none,(.mv (.s 12)),.l⟩,⟨none,(.bin .add 336 (.c (.i .u32 48)) (.v 0)),.l⟩,⟨none,(.Bw .u8 (.v 0)),.l⟩,⟨none,(.bM 1 (.v 3) (.c (.i .i64 0))),.l⟩,⟨none,(.st 1 (.v 0) (.v 1)),.n⟩]) .skip)))))))
theorem WS:dM Tryz.prog sl0 288=some ([true,true],Sy,[]):=by kernel_rfl
def Sz:MC:=(.seq (.reg [⟨none,(.mv (.c (.s []))),(.k 4)⟩]) (.seq (.seq (.reg [⟨none,(.mv (.s 1)),.l⟩,⟨none,(.bin .eql 3 (.v 0) (.c (.i .i64 10))),(.k 11)⟩]) (.cond (.s 11) (.seq (.seq (.reg [⟨none,(.mv (.s 0)),.l⟩,⟨none,(.bin .leq 2 (.c (.i .i64 0)) (.v 0)),.l⟩,⟨none,(.mv (.v 0)),.l⟩,⟨(some ((.v 0),true)),(.mv (.s 0)),.l⟩,⟨(some ((.v 1),true)),(.bin .lss 2 (.v 0) (.c (.i .i64 100))),.l⟩,⟨none,(.pick (.v 2) (.v 0) (.c (.b false))),(.k 17)⟩]) (.cond (.s 17) (.seq (.reg [⟨none,(.mv (.s 0)),.l⟩,⟨none,(.call (.c (.f 286 [])) [(.v 0)]),.l⟩,⟨none,(.mv (.v 0)),(.k 4)⟩]) .ret) .skip)) (.seq (.reg [⟨none,(.al 402 [(.i .u8 0),(.i .u8 0),(.i .u8 0),(.i .u8 0),(.i .u8 0),(.i .u8 0),(.i .u8 0),(.i .u8 0),(.i .u8 0),(.i .u8 0),(.i .u8 0),(.i .u8 0),(.i .u8 0),(.i .u8 0),(.i .u8 0),(.i .u8 0),(.i .u8 0),(.i .u8 0),(.i .u8 0),(.i .u8 0),(.i .u8 0),(.i .u8 0),(.i .u8 0),(.i .u8 0)]),(.k 5)⟩]) (.seq (.reg [⟨none,(.mv (.s 0)),.l⟩,⟨none,(.Bw .u64 (.v 0)),.l⟩,⟨none,(.mv (.v 0)),(.k 6)⟩]) (.seq (.seq (.reg [⟨none,(.mv (.s 0)),.l⟩,⟨none,(.bin .lss 2 (.v 0) (.c (.i .i64 0))),(.k 23)⟩]) (.cond (.s 23) (.reg [⟨none,(.mv (.s 6)),.l⟩,⟨none,(.neg (.v 0)),.l⟩,⟨none,(.mv (.v 0)),(.k 6)⟩]) .skip)) (.seq (.reg [⟨none,(.mv (.s 6)),.l⟩,⟨none,(.call (.c (.f 287 [])) [(.v 0)]),.l⟩,⟨none,(.mv (.v 0)),(.k 7)⟩]) (.seq (.reg [⟨none,(.mv (.s 7)),.l⟩,⟨none,(.bin .add 3 (.c (.i .i64 1)) (.v 0)),.l⟩,⟨none,(.Jt 1 24 (.s 5) (some (.c (.i .i64 1))) (some (.v 0))),.l⟩,⟨none,(.mv (.s 6)),.l⟩,⟨none,(.call (.c (.f 288 [])) [(.v 1),(.v 0)]),.l⟩]) (.seq (.seq (.reg [⟨none,(.mv (.s 0)),.l⟩,⟨none,(.bin .lss 2 (.v 0) (.c (.i .i64 0))),(.k 34)⟩]) (.cond (.s 34) (.seq (.reg [⟨none,(.Nr 1 24 (.s 5) (.c (.i .i64 0))),.l⟩,⟨none,(.st 1 (.v 0) (.c (.i .u8 45))),.n⟩]) (.seq (.reg [⟨none,(.mv (.s 7)),.l⟩,⟨none,(.bin .add 3 (.c (.i .i64 1)) (.v 0)),.l⟩,⟨none,(.Jt 1 24 (.s 5) none (some (.v 0))),.l⟩,⟨none,(.Gw (.v 0)),.l⟩,⟨none,(.mv (.v 0)),(.k 4)⟩]) .ret)) .skip)) (.seq (.reg [⟨none,(.mv (.s 7)),.l⟩,⟨none,(.bin .add 3 (.c (.i .i64 1)) (.v 0)),.l⟩,⟨none,(.Jt 1 24 (.s 5) (some (.c (.i .i64 1))) (some (.v 0))),.l⟩,⟨none,(.Gw (.v 0)),.l⟩,⟨none,(.mv (.v 0)),(.k 4)⟩]) .ret)))))))) .skip)) (.seq (.reg [⟨none,(.mv (.s 0)),.l⟩,⟨none,(.Bw .u64 (.v 0)),.l⟩,⟨none,(.mv (.s 1)),.l⟩,⟨none,(.mv (.s 0)),.l⟩,⟨none,(.bin .lss 2 (.v 0) (.c (.i .i64 0))),.l⟩,⟨none,(.call (.c (.f 289 [])) [(.c (.k 1)),(.v 3),(.v 2),(.v 0),(.c (.b false))]),.l⟩,⟨none,(.mv (.v 0)),.l⟩,⟨none,(.ext (.v 0) 0),.l⟩,⟨none,(.ext (.v 1) 1),.l⟩,⟨none,(.mv (.v 1)),.l⟩,⟨none,(.mv (.v 1)),(.k 9)⟩]) (.seq (.reg [⟨none,(.mv (.s 9)),.l⟩,⟨none,(.mv (.v 0)),(.k 4)⟩]) .ret))))
theorem acQ:dM Tryz.prog sl0 254=some ([true,true],Sz,[(.t 4)]):=by kernel_rfl
def WT:MC:=(.seq (.reg [⟨none,(.mv (.c (.s []))),(.k 2)⟩]) (.seq (.reg [⟨none,(.mv (.s 0)),.l⟩,⟨none,(.call (.c (.f 254 [])) [(.v 0),(.c (.i .i64 10))]),.l⟩,⟨none,(.mv (.v 0)),(.k 2)⟩]) .ret))
theorem acR:dM Tryz.prog sl0 191=some ([true],WT,[(.t 2)]):=by kernel_rfl
def WU:MC:=(.seq (.reg [⟨none,(.mv (.c (.s []))),(.k 2)⟩]) (.seq (.reg [⟨none,(.mv (.s 0)),.l⟩,⟨none,(.call (.c (.f 191 [])) [(.v 0)]),.l⟩,⟨none,(.mv (.v 0)),(.k 2)⟩]) .ret))
theorem c117:dM Tryz.prog sl0 117=some ([true],WU,[(.t 2)]):=by kernel_rfl
end
end
section
noncomputable section
def dg(k:Nat):UInt8:=UInt8.ofNat (48+k)
def dec(u:Nat):List UInt8:=if u<10 then[dg u]else if u<100 then[dg (u/10),dg (u % 10)]else if u<1000 then[dg (u/100),dg (u/10 % 10),dg (u % 10)]else[dg (u/1000),dg (u/100 % 10),dg (u/10 % 10),dg (u % 10)]
def tn(x:Int):List UInt8:=if x<0 then 45::dec x.natAbs else dec x.toNat
theorem Qg{v:AV}{l:List UInt8}(h:Gb v (.s l)=true):v= .s l:=wh _ _ h
def SA:List UInt8:=[48,49,50,51,52,53,54,55,56,57,97,98,99,100,101,102,103,104,105,106,107,108,109,110,111,112,113,114,115,116,117,118,119,120,121,122]
theorem Ef{f:Nat->Bool}{n:Nat}(h:(List.range n).all f=true){k:Nat}(hk:k<n):f k=true:=List.all_eq_true.1 h k (List.mem_range.2 hk)
theorem Oz:(List.range 10).all (λk=>match nu SA (some (k:Nat)) (some ((k+1:Nat):Int))with|some v=>Gb v (.s [dg k])|none=>false)=true:=by kernel_rfl
theorem SB:(List.range 100).all (λk=>match nu x9 (some ((k*2:Nat):Int)) (some ((k*2+2:Nat):Int))with|some v=>Gb v (.s [dg (k/10),dg (k % 10)])|none=>false)=true:=by kernel_rfl
theorem OA:(List.range 100).all (λk=>match x9[k*2]?,x9[k*2+1]? with|some a,some b=>a==dg (k/10)&&b==dg (k % 10)|_,_=>false)=true:=by kernel_rfl
theorem SC{k:Nat}(hk:k<10):nu SA (some (k:Nat)) (some ((k+1:Nat):Int))=some (.s [dg k]):=by
 have h:=Ef Oz hk;split at h
 .rename_i v hv;rw[hv,Qg h]
 .cases h
theorem sm_at{k:Nat}(hk:k<100):nu x9 (some ((k*2:Nat):Int)) (some ((k*2+2:Nat):Int))=some (.s [dg (k/10),dg (k % 10)]):=by
 have h:=Ef SB hk;split at h
 .rename_i v hv;rw[hv,Qg h]
 .cases h
theorem Eh{k:Nat}(hk:k<100):x9[k*2]?=some (dg (k/10))/\x9[k*2+1]?=some (dg (k % 10)):=by
 have h:=Ef OA hk;split at h
 .rename_i a b h1 h2
  simp only[Bool.and_eq_true,beq_iff_eq]at h;exact⟨by rw[h1,h.1],by rw[h2,h.2]⟩
 .cases h
section
variable {P:Program} {ty:TypeId} {k:IntKind} {a b:Int}
theorem n_:(dS P ty .lss).run (.i k a) (.i k b)=some (.b (decide (a<b))):=by
 show bc (uT k k) (some (AV.b (oC (lM b a)))) none=_;rw[show uT k k=true by cases k<;>rfl,bJ,Pz]
theorem KP:(dS P ty .mul).run (.i k a) (.i k b)=some (.i k (f_ k (a*b))):=by cases k<;>rfl
theorem KQ:(dS P ty .add).run (.i k a) (.i k b)=some (.i k (f_ k (a+b))):=by cases k<;>rfl
theorem KR(hb:b≠0):(dS P ty .quo).run (.i k a) (.i k b)=some (.i k (f_ k (Int.tdiv a b))):=by
 show bc (uT k k) (bc (fC b 0) none (some (AV.i k (f_ k (Int.tdiv a b))))) none=_;rw[show uT k k=true by cases k<;>rfl,bJ,cO,show decide (b=0)=false by simpa using hb,fU]
theorem KS(hb:b≠0):(dS P ty .rem).run (.i k a) (.i k b)=some (.i k (Int.tmod a b)):=by
 show bc (uT k k) (bc (fC b 0) none (some (AV.i k (Int.tmod a b)))) none=_;rw[show uT k k=true by cases k<;>rfl,bJ,cO,show decide (b=0)=false by simpa using hb,fU]
theorem mU{x:Int}(h1:0<=x)(h2:x<=4294967295):f_ .u32 x=x:=by
 unfold f_;rw[eZ,eZ,show IntKind.u32.min=0 from by decide,show IntKind.u32.max=4294967295 from by decide];simp[h1,h2,bc]
theorem acS{x:Int}(h1:0<=x)(h2:x<=255):f_ .u8 x=x:=by
 unfold f_;rw[eZ,eZ,show IntKind.u8.min=0 from by decide,show IntKind.u8.max=255 from by decide];simp[h1,h2,bc]
end
@[go_sem] theorem afT {c:List UInt8} {lo hi:Option Int}:Vg (some (.s c)) (some lo) (some hi)=nu c lo hi:=rfl
section
variable {h:AH} {n:Nat} {Q:AV->AH->Nat->Prop}
theorem B_(K:Nat){u:Nat}(hu:u<100)(hQ:∀h' n',Up h n h' n'->Q (.s (dec u)) h' n'):CW (EF (K+1)) 286 [.i .i64 (u:Nat)] h n Q:=by
 refine aJ acP rfl ?_;have w1:f_ .i64 ((u:Int)+1)=((u+1:Nat):Int):=by rw[dN (by omega) (by omega)];rfl
 have w2:f_ .i64 ((u:Int)*2)=((u*2:Nat):Int):=by rw[dN (by omega) (by omega)];rfl
 have w3:f_ .i64 (((u*2:Nat):Int)+2)=((u*2+2:Nat):Int):=by rw[dN (by omega) (by omega)];rfl
 by_cases h10:u<10
 .have hd:decide ((u:Int)<10)=true:=decide_eq_true (by omega)
  have hs:=SC h10;unfold SA at hs;have hdec:dec u=[dg u]:=by unfold dec;rw[if_pos h10]
  rw[hdec]at hQ;repeat' (first|(simp (disch:=omega) only[go_sem,Sw,hd,w1,hs])|(with_reducible first|apply aj|apply ah|apply ay|apply aB|apply aA|apply au)<;>intro hd<;>(rw[hd];try simp only[decide_eq_true_eq,decide_eq_false_iff_not,Bool.not_eq_true',Bool.not_eq_false']at hd)|(with_reducible refine aD ?_))
  exact hQ _ _ aL
 .have hd:decide ((u:Int)<10)=false:=decide_eq_false (by omega)
  have hs:=sm_at hu;have hdec:dec u=[dg (u/10),dg (u % 10)]:=by unfold dec;rw[if_neg h10,if_pos hu]
  rw[hdec]at hQ;repeat' (first|(simp (disch:=omega) only[go_sem,Sw,hd,w2,w3,hs])|(with_reducible first|apply aj|apply ah|apply ay|apply aB|apply aA|apply au)<;>intro hd<;>(rw[hd];try simp only[decide_eq_true_eq,decide_eq_false_iff_not,Bool.not_eq_true',Bool.not_eq_false']at hd)|(with_reducible refine aD ?_))
  exact hQ _ _ aL
@[go_sem] theorem ug {c:List UInt8} {k:Nat} {j:IntKind} {b:UInt8} (h:k<1048576) (e:c[k]?=some b):JI (some (.s c)) (some (.i j (k:Nat)))=some (.i .u8 (Int.ofNat b.toNat)):=by
 show Cv (k:Nat) 1048576 (λk=>bnd (hd (o9 k c)) λb=>some (.i .u8 (Int.ofNat b.toNat)))=_;rw[P_ (by omega) (by omega)];show bnd (hd (o9 k c)) _=_;rw[lT,e];rfl
theorem Qh{w b len:Nat}{k:Int}{c:Option Nat}(h0:0<=k)(h1:k<(len:Nat)):fE w (some (.sl b 0 0 len c)) (some (.i .i64 k))=some (.p b (k.toNat*w)):=by
 obtain⟨i,rfl⟩:=Int.eq_ofNat_of_zero_le h0;rw[cK (by omega)];simp
theorem Qi{S:SK}{d:MD}{r:List MR}{l':List AV}{s:List It}{f:FT}{F:Fm}{Q:PQ}{w b len:Nat}{k:Int}{c:Option Nat}(h0:0<=k)(h1:k<(len:Nat)):PV S w (some (.sl b 0 0 len c)) (some (.i .i64 k)) d r l' s f h n F Q=lJ S d (.p b (k.toNat*w)) r l' s f h n F Q:=by
 obtain⟨i,rfl⟩:=Int.eq_ofNat_of_zero_le h0;rw[b_ (by omega)];simp
abbrev OC(b:UInt8):AV:=.i .u8 (Int.ofNat b.toNat)
theorem OG(K:Nat){u ab T:Nat}(h1:100<=u)(h2:u<1000){z0 z1 z2:AV}{rest:List AV}(hr:h.get ab=some (.row T (z0::z1::z2::rest)))
 (hQ:∀h' n',UX (λx=>x=ab) h n h' n'->h'.get ab=some (.row T (OC (dg (u/100))::OC (dg (u/10 % 10))::OC (dg (u % 10))::rest))->Q (.bV []) h' n'):CW (EF (K+1)) 288 [.sl ab 0 0 3 (some 24),.i .u64 (u:Nat)] h n Q:=by
 refine aJ WS rfl ?_;repeat' (first|(simp (disch:=omega) only[go_sem,Sy,yG (v:=.sl ab 0 0 3 (some 24)) (m:=3) rfl])|(with_reducible first|apply aj|apply ah|apply ay|apply aB|apply aA|apply au)<;>intro hd<;>(rw[hd];try simp only[decide_eq_true_eq,decide_eq_false_iff_not,Bool.not_eq_true',Bool.not_eq_false']at hd)|(with_reducible refine aD ?_))
 refine iX (λm h2 n2 F=>h2=h/\n2=n/\F=[(0,.sl ab 0 0 3 (some 24)),(1,.i .u64 (u:Nat)),(4,.i .i64 3)]) 0 (by omega) ⟨_,⟨rfl,rfl,rfl⟩,by(repeat' (first|exact aZ|refine aW rfl ?_))⟩ ?_;rintro m _ _ F ⟨rfl,rfl,rfl⟩;have e1:f_ .u32 (u:Nat)=(u:Nat):=mU (by omega) (by omega);have e2:Int.tmod (u:Nat) 100=((u % 100:Nat):Int):=by rw[Int.tmod_eq_emod_of_nonneg (by omega)];rfl
 have e3:f_ .u32 (((u % 100:Nat):Int)*2)=((u % 100*2:Nat):Int):=by rw[mU (by omega) (by omega)];rfl
 have e4:f_ .u32 (Int.tdiv (u:Nat) 100)=((u/100:Nat):Int):=by rw[Int.tdiv_eq_ediv_of_nonneg (by omega),mU (by omega) (by omega)];rfl
 have e5:f_ .u32 (((u % 100*2:Nat):Int)+1)=((u % 100*2+1:Nat):Int):=by rw[mU (by omega) (by omega)];rfl
 have e6:f_ .u32 (48+((u/100:Nat):Int))=((48+u/100:Nat):Int):=by rw[mU (by omega) (by omega)];rfl
 have e7:f_ .u8 ((48+u/100:Nat):Int)=((48+u/100:Nat):Int):=acS (by omega) (by omega);obtain⟨s1,s2⟩:=Eh (k:=u % 100) (by omega);repeat' (first|(simp (disch:=omega) only[go_sem,Ee,KS,KR,KP,KQ,e1,e2,e3,e4,e5,e6,e7,Int.reduceLE,Int.reduceLT,Int.reduceSub,Int.reduceEq,ug (by omega) s1,ug (by omega) s2,hr,Qh,Qi,dN])|(with_reducible first|apply aj|apply ah|apply ay|apply aB|apply aA|apply au)<;>intro hd<;>(rw[hd];try simp only[decide_eq_true_eq,decide_eq_false_iff_not,Bool.not_eq_true',Bool.not_eq_false']at hd)|(with_reducible refine aD ?_))
 have d1:u % 100/10=u/10 % 10:=by omega
 have d2:u % 100 % 10=u % 10:=by omega
 have d3:AV.i .u8 ((48+u/100:Nat):Int)=OC (dg (u/100)):=by
  show AV.i .u8 _=AV.i .u8 (((UInt8.ofNat (48+u/100)).toNat:Nat):Int);have:(UInt8.ofNat (48+u/100)).toNat=48+u/100:=by simp;omega
  rw[this]
 rw[d1,d2,d3];exact hQ _ _ ((((UX.refl (X:=λx=>x=ab)).set (.inl rfl) (Nat.le_refl _)).set (.inl rfl) (Nat.le_refl _)).set (.inl rfl) (Nat.le_refl _)) aM
theorem OH(K:Nat){u ab T:Nat}(h1:1000<=u)(h2:u<10000){z0 z1 z2 z3:AV}{rest:List AV}(hr:h.get ab=some (.row T (z0::z1::z2::z3::rest)))
 (hQ:∀h' n',UX (λx=>x=ab) h n h' n'->h'.get ab=some (.row T (OC (dg (u/1000))::OC (dg (u/100 % 10))::OC (dg (u/10 % 10))::OC (dg (u % 10))::rest))->Q (.bV []) h' n'):CW (EF (K+1)) 288 [.sl ab 0 0 4 (some 24),.i .u64 (u:Nat)] h n Q:=by
 refine aJ WS rfl ?_;repeat' (first|(simp (disch:=omega) only[go_sem,Sy,yG (v:=.sl ab 0 0 4 (some 24)) (m:=4) rfl])|(with_reducible first|apply aj|apply ah|apply ay|apply aB|apply aA|apply au)<;>intro hd<;>(rw[hd];try simp only[decide_eq_true_eq,decide_eq_false_iff_not,Bool.not_eq_true',Bool.not_eq_false']at hd)|(with_reducible refine aD ?_))
 refine iX (λm h2 n2 F=>h2=h/\n2=n/\F=[(0,.sl ab 0 0 4 (some 24)),(1,.i .u64 (u:Nat)),(4,.i .i64 4)]) 0 (by omega) ⟨_,⟨rfl,rfl,rfl⟩,by(repeat' (first|exact aZ|refine aW rfl ?_))⟩ ?_;rintro m _ _ F ⟨rfl,rfl,rfl⟩;have e1:f_ .u32 (u:Nat)=(u:Nat):=mU (by omega) (by omega);have e2:Int.tmod (u:Nat) 10000=((u:Nat):Int):=by rw[Int.tmod_eq_emod_of_nonneg (by omega)];omega
 have e3:f_ .u32 (Int.tdiv (u:Nat) 100)=((u/100:Nat):Int):=by rw[Int.tdiv_eq_ediv_of_nonneg (by omega),mU (by omega) (by omega)];rfl
 have e4:Int.tmod (u:Nat) 100=((u % 100:Nat):Int):=by rw[Int.tmod_eq_emod_of_nonneg (by omega)];rfl
 have e5:f_ .u32 (((u % 100:Nat):Int)*2)=((u % 100*2:Nat):Int):=by rw[mU (by omega) (by omega)];rfl
 have e6:f_ .u32 (((u/100:Nat):Int)*2)=((u/100*2:Nat):Int):=by rw[mU (by omega) (by omega)];rfl
 have e7:f_ .u32 (((u % 100*2:Nat):Int)+1)=((u % 100*2+1:Nat):Int):=by rw[mU (by omega) (by omega)];rfl
 have e8:f_ .u32 (((u/100*2:Nat):Int)+1)=((u/100*2+1:Nat):Int):=by rw[mU (by omega) (by omega)];rfl
 have e9:f_ .u32 (Int.tdiv (u:Nat) 10000)=0:=by rw[Int.tdiv_eq_ediv_of_nonneg (by omega),mU (by omega) (by omega)];omega
 obtain⟨s1,s2⟩:=Eh (k:=u % 100) (by omega);obtain⟨s3,s4⟩:=Eh (k:=u/100) (by omega);repeat' (first|(simp (disch:=omega) only[go_sem,Ee,KS,KR,KP,KQ,e1,e2,e3,e4,e5,e6,e7,e8,e9,Int.reduceLE,Int.reduceLT,Int.reduceSub,Int.reduceEq,ug (by omega) s1,ug (by omega) s2,ug (by omega) s3,ug (by omega) s4,hr,Qh,Qi,dN])|(with_reducible first|apply aj|apply ah|apply ay|apply aB|apply aA|apply au)<;>intro hd<;>(rw[hd];try simp only[decide_eq_true_eq,decide_eq_false_iff_not,Bool.not_eq_true',Bool.not_eq_false']at hd)|(with_reducible refine aD ?_))
 have d1:u % 100/10=u/10 % 10:=by omega
 have d2:u % 100 % 10=u % 10:=by omega
 have d3:u/100/10=u/1000:=by omega
 rw[d1,d2,d3];exact hQ _ _ (((((UX.refl (X:=λx=>x=ab)).set (.inl rfl) (Nat.le_refl _)).set (.inl rfl) (Nat.le_refl _)).set (.inl rfl) (Nat.le_refl _)).set (.inl rfl) (Nat.le_refl _)) aM
theorem WV{u:Nat}(h1:1000<=u)(h2:u<10000):Lib.nDigits u=4:=by
 rw[Lib.nDigits_big (by omega),Lib.nDigits_big (by omega),Lib.nDigits_big (by omega),Lib.nDigits_small (by omega)]
theorem WW{u:Nat}(h1:100<=u)(h2:u<1000):Lib.nDigits u=3:=by
 rw[Lib.nDigits_big (by omega),Lib.nDigits_big (by omega),Lib.nDigits_small (by omega)]
theorem Qj(K:Nat){u:Nat}(h1:1<=u)(h2:u<10000)(hQ:Q (.i .i64 (Lib.nDigits u:Nat)) h n):CW (EF (K+1)) 287 [.i .u64 (u:Nat)] h n Q:=by
 refine⟨_,_,_,?_,hQ⟩;show@Option.rec eH (λ_=>eH) _ (λr=>r) (bc (Nat.beq 287 ND) none (bc (Nat.beq 287 Rm) (bc (Nat.ble 1 u) (bc (Nat.ble u 18446744073709551615) (some (eH.ok (.i .i64 (Lib.nDigits u:Nat)) h n)) none) none) none))=_;rw[show Nat.beq 287 ND=false from rfl,fU,show Nat.beq 287 Rm=true from rfl,bJ,Nat.ble_eq_true_of_le (by omega),bJ,Nat.ble_eq_true_of_le (by omega),bJ]
theorem vK(u:Nat):(dec u).length<=4:=by
 unfold dec;split
 .simp
 .split
  .simp
  .split<;>simp
theorem acT{u:Nat}(h0:0<u)(h1:u<10000):f_ .u64 (0 - f_ .u64 (-(u:Int)))=(u:Nat):=by
 rw[sW,sW];simp only[IntKind.wrap,IntKind.signed,IntKind.bits,Bool.false_and,Bool.false_eq_true,↓reduceIte];omega
theorem FC(K:Nat){dst:AV}{l:List UInt8}(g:Gr h n 5 1 dst bv l)(hl:l.length<=1000000){u:Nat}(hu:u<10000)
 (hQ:∀v' h' n',Gr h' n' 5 1 v' bv (l++dec u)->n<=n'->(∀x,x<n->¬blk dst x->h'.get x=h.get x)->(∀x,blk v' x->blk dst x\/n<=x)->Q v' h' n'):CW (EF (K+2)) 282 [dst,.i .u64 (u:Nat),.i .i64 10] h n Q:=by
 have hdl:=vK u;refine aJ acO rfl ?_;by_cases SE:u<100
 .have hd:decide ((u:Int)<100)=true:=decide_eq_true (by omega)
  have e1:f_ .i64 (u:Nat)=(u:Nat):=dN (by omega) (by omega);repeat' (first|(simp (disch:=omega) only[go_sem,ub.old,Ed,n_,hd,e1,Int.reduceEq])|(simp (disch:=omega) only[go_sem,Ed,n_,hd,e1,Int.reduceEq])|((first|rw[bA]|rw[bU]);with_reducible refine B_ _ SE λh2 n2 u2=>?_;(first|replace ub:=Up.trans ub (Up.trans aL u2)|have ub:=u2);have hle:=ub.le;clear u2)|(with_reducible first|apply aj|apply ah|apply ay|apply aB|apply aA|apply au)<;>intro hd<;>(rw[hd];try simp only[decide_eq_true_eq,decide_eq_false_iff_not,Bool.not_eq_true',Bool.not_eq_false']at hd)|(with_reducible refine aD ?_))
  refine jX (g.up ub) acf (by omega) λv' h3 n3 g3 l3 s3 b3=>?_;repeat' (first|(simp (disch:=omega) only[go_sem,ub.old])|(simp (disch:=omega) only[go_sem])|(with_reducible first|apply aj|apply ah|apply ay|apply aB|apply aA|apply au)<;>intro hd<;>(rw[hd];try simp only[decide_eq_true_eq,decide_eq_false_iff_not,Bool.not_eq_true',Bool.not_eq_false']at hd)|(with_reducible refine aD ?_))
  exact hQ _ _ _ g3 (by have:=ub.le;omega) (λx hx hb=>by rw[s3 x (by have:=ub.le;omega) hb,ub.old x hx]) λx hx=>(b3 x hx).imp id λe=>by have:=ub.le;omega
 .have hd:decide ((u:Int)<100)=false:=decide_eq_false (by omega)
  by_cases h3:u<1000
  .have e3:Lib.nDigits u=3:=WW (by omega) h3
   repeat' (first|(simp (disch:=omega) only[go_sem,ub.old,Ed,n_,hd,Int.reduceEq])|(simp (disch:=omega) only[go_sem,Ed,n_,hd,Int.reduceEq])|(with_reducible first|apply aj|apply ah|apply ay|apply aB|apply aA|apply au)<;>intro hd<;>(rw[hd];try simp only[decide_eq_true_eq,decide_eq_false_iff_not,Bool.not_eq_true',Bool.not_eq_false']at hd)|(with_reducible refine aD ?_))
   rw[bA];refine Qj _ (by omega) hu ?_;rw[e3];have WX:∀b:Nat,GD 1 24 (some (.p b 0)) (some none) (some (some ((3:Nat):Int)))=some (.sl b 0 0 3 (some 24)):=λ_=>rfl;simp (disch:=omega) only[go_sem,WX];rw[bA];refine OG _ (by omega) h3 aM λh3 n3 u3 r3=>?_;simp (disch:=omega) only[go_sem,WX];have u0:Up h n h3 n3:=⟨by have:=u3.le;omega,λx hx=>by rw[u3.old x (by omega) (by omega),aI (by omega)]⟩;have hdec:dec u=[dg (u/100),dg (u/10 % 10),dg (u % 10)]:=by unfold dec;rw[if_neg (by omega),if_neg SE,if_pos (by assumption)]
   refine jX (l2:=dec u) (g.up u0) ⟨by rw[hdec];rfl,?_⟩ (by omega) λv' h4 n4 g4 l4 s4 b4=>?_
   .rw[hdec]
    show bnd (iE (h3.get n) 0 _) (λr=>mX (Nat.mul 3 1) r)=_;rw[r3];rfl
   simp (disch:=omega) only[go_sem];exact hQ _ _ _ g4 (by have:=u0.le;omega) (λx hx hb=>by rw[s4 x (by have:=u0.le;omega) hb,u0.old x hx]) λx hx=>(b4 x hx).imp id λe=>by have:=u0.le;omega
  .have e3:Lib.nDigits u=4:=WV (by omega) hu
   repeat' (first|(simp (disch:=omega) only[go_sem,ub.old,Ed,n_,hd,Int.reduceEq])|(simp (disch:=omega) only[go_sem,Ed,n_,hd,Int.reduceEq])|(with_reducible first|apply aj|apply ah|apply ay|apply aB|apply aA|apply au)<;>intro hd<;>(rw[hd];try simp only[decide_eq_true_eq,decide_eq_false_iff_not,Bool.not_eq_true',Bool.not_eq_false']at hd)|(with_reducible refine aD ?_))
   rw[bA];refine Qj _ (by omega) hu ?_;rw[e3];have WX:∀b:Nat,GD 1 24 (some (.p b 0)) (some none) (some (some ((4:Nat):Int)))=some (.sl b 0 0 4 (some 24)):=λ_=>rfl;simp (disch:=omega) only[go_sem,WX];rw[bA];refine OH _ (by omega) hu aM λh3 n3 u3 r3=>?_;simp (disch:=omega) only[go_sem,WX];have u0:Up h n h3 n3:=⟨by have:=u3.le;omega,λx hx=>by rw[u3.old x (by omega) (by omega),aI (by omega)]⟩;have hdec:dec u=[dg (u/1000),dg (u/100 % 10),dg (u/10 % 10),dg (u % 10)]:=by unfold dec;rw[if_neg (by omega),if_neg SE,if_neg (by assumption)]
   refine jX (l2:=dec u) (g.up u0) ⟨by rw[hdec];rfl,?_⟩ (by omega) λv' h4 n4 g4 l4 s4 b4=>?_
   .rw[hdec]
    show bnd (iE (h3.get n) 0 _) (λr=>mX (Nat.mul 4 1) r)=_;rw[r3];rfl
   simp (disch:=omega) only[go_sem];exact hQ _ _ _ g4 (by have:=u0.le;omega) (λx hx hb=>by rw[s4 x (by have:=u0.le;omega) hb,u0.old x hx]) λx hx=>(b4 x hx).imp id λe=>by have:=u0.le;omega
abbrev ApQ(dst:AV)(l l2:List UInt8)(h:AH)(n:Nat)(Q:AV->AH->Nat->Prop):Prop:=∀v' h' n',Gr h' n' 5 1 v' bv (l++l2)->n<=n'->(∀x,x<n->¬blk dst x->h'.get x=h.get x)->(∀x,blk v' x->blk dst x\/n<=x)->Q v' h' n'
theorem su{S:SK}{h:AH}{n:Nat}{dst:AV}{l:List UInt8}{d:MD}{r:List MR}{l':List AV}{s:List It}{f:FT}{F:Fm}{Q:PQ}{b:UInt8}{bi:Int}(g:Gr h n 5 1 dst bv l)(hl:l.length<=1000000)(hb:bi=(b.toNat:Int)){y:AV}{yb:Nat}(hy:y= .sl yb 0 0 1 (some 1))(hyr:h.get yb=some (.row 5 [.i .u8 bi]))
 (q:ApQ dst l [b] h n λv h n=>lJ S d v r l' s f h n F Q):kR S (Nz 5 1 h n (some dst) (some y)) d r l' s f F Q:=by
 subst hy;refine jX (l2:=[b]) g ⟨rfl,?_⟩ (by simp;omega) q;show bnd (iE (h.get yb) 0 _) (λr=>mX (Nat.mul 1 1) r)=_;rw[hyr,hb];rfl
theorem OI(K:Nat){dst:AV}{l:List UInt8}(g:Gr h n 5 1 dst bv l)(hl:l.length<=900000){x:Int}(h1: -10000<x)(h2:x<10000)(hQ:ApQ dst l (tn x) h n Q):CW (EF (K+3)) 250 [dst,.i .i64 x,.i .i64 10] h n Q:=by
 refine aJ acN rfl ?_;by_cases h0:x<0
 .obtain⟨u,rfl⟩:∃u:Nat,x= -(u:Int):=⟨x.natAbs,by omega⟩
  have htn:tn (-(u:Int))=45::dec u:=by unfold tn;rw[if_pos h0];simp
  have hd:decide (-(u:Int)<0)=true:=decide_eq_true h0;rw[htn]at hQ;simp (disch:=omega) only[go_sem,Sv,hd];refine su (b:=45) (g.up aL) (by omega) rfl rfl aM λv' h3 n3 g3 l3 s3 b3=>?_;simp (disch:=omega) only[go_sem,acT (u:=u) (by omega) (by omega)];rw[bA];refine FC _ g3 (by simp;omega) (by omega) λv4 h4 n4 g4 l4 s4 b4=>?_;simp (disch:=omega) only[go_sem];rw[List.append_assoc]at g4;refine hQ _ _ _ g4 (by omega) (λx hx hb=>?_) λx hx=>?_
  .rw[s4 x (by omega) (λe=>?_),s3 x (by omega) hb,aI (by omega)]
   rcases b3 x e with e|e
   .exact hb e
   .omega
  .rcases b4 x hx with e|e
   .rcases b3 x e with e|e
    .exact .inl e
    .exact .inr (by omega)
   .exact .inr (by omega)
 .obtain⟨u,rfl⟩:=Int.eq_ofNat_of_zero_le (show 0<=x by omega)
  have htn:tn (u:Nat)=dec u:=by unfold tn;rw[if_neg h0];simp
  rw[htn]at hQ;have hd:decide ((u:Int)<0)=false:=decide_eq_false h0;have e1:f_ .u64 (u:Nat)=(u:Nat):=rV (by omega) (by omega);simp (disch:=omega) only[go_sem,Sv,hd,e1];rw[bA];refine FC _ g (by omega) (by omega) λv' h3 n3 g3 l3 s3 b3=>?_;simp (disch:=omega) only[go_sem];exact hQ _ _ _ g3 l3 s3 b3
theorem yO(K:Nat){dst:AV}{l:List UInt8}(g:Gr h n 5 1 dst bv l)(hl:l.length<=900000){x:Int}(h1: -10000<x)(h2:x<10000)(hQ:ApQ dst l (tn x) h n Q):CW (EF (K+4)) 160 [dst,.i .i64 x,.i .i64 10] h n Q:=by
 refine aJ c160 rfl ?_;simp (disch:=omega) only[go_sem,WR];rw[bA];refine OI _ g hl h1 h2 λv' h3 n3 g3 l3 s3 b3=>?_;simp (disch:=omega) only[go_sem];exact hQ _ _ _ g3 l3 s3 b3
end
end
end
section
noncomputable section
def wr(x:Int):List UInt8:=tn x++[32]
def fl(b:Bool):List UInt8:=if b then[43]else[45]
def mkT(m:aG):List UInt8:=wr m.status++wr m.left++wr m.got++wr m.aT++fl m.paused
def og(p:aS):List UInt8:=fl p.own++wr p.st.day++p.st.aC.flatMap wr++p.st.used.flatMap fl++p.st.marks.flatMap mkT
abbrev NB(x:Int):Prop:= -10000<x/\x<10000
structure PB(p:aS):Prop where
 day:NB p.st.day
 aC:∀x∈p.st.aC,NB x
 marks:∀m∈p.st.marks,NB m.status/\NB m.left/\NB m.got/\NB m.aT
 lh:p.st.aC.length<=1000
 lu:p.st.used.length<=1000
 lm:p.st.marks.length<=1000
theorem dU(x:Int):(wr x).length<=6:=by
 unfold wr tn;split
 .have:=vK x.natAbs;simp;omega
 .have:=vK x.toNat;simp;omega
theorem Am(b:Bool):(fl b).length<=1:=by cases b<;>simp[fl]
theorem OJ(m:aG):(mkT m).length<=25:=by
 unfold mkT;have h1:=dU m.status;have h2:=dU m.left;have h3:=dU m.got;have h4:=dU m.aT;have h5:=Am m.paused;simp only[List.length_append];omega
theorem gQ{α:Type}{f:α->List UInt8}{k:Nat}(hf:∀a,(f a).length<=k)(l:List α):(l.flatMap f).length<=l.length*k:=by
 induction l with
 |nil=>simp
 |cons a l ih=>rw[List.flatMap_cons,List.length_append,List.length_cons,Nat.succ_mul];have:=hf a;omega
theorem lC{α:Type}{f:α->List UInt8}{l:List α}{k:Nat}{a:α}(h:l[k]?=some a):(l.take (k+1)).flatMap f=(l.take k).flatMap f++f a:=by
 rw[List.take_add_one,h];simp
structure Tx(h:AH)(n:Nat)(P:Nat->Prop)(T tb:Nat)(l:List UInt8):Prop where
 hi:tb<n
 nt:¬P tb
 pr:∀x,P x->x<n
 ex:∃v,h.get tb=some (.row T [v])/\Gr h n 5 1 v bv l/\∀x,blk v x->¬P x/\x≠tb
abbrev UP(P:Nat->Prop)(h:AH)(n:Nat)(h':AH)(n':Nat):Prop:=UX (λx=>¬P x) h n h' n'
theorem UP.at_{P:Nat->Prop}{h h':AH}{n n' x:Nat}(u:UP P h n h' n')(hx:P x)(hn:x<n):h'.get x=h.get x:=u.old x hn λe=>e hx
theorem UP.wk{P P':Nat->Prop}{h h':AH}{n n':Nat}(u:UP P h n h' n')(e:∀x,P' x->P x):UP P' h n h' n':=⟨u.le,λx hx hX=>u.old x hx λk=>hX λp=>k (e x p)⟩
section
variable {P P':Nat->Prop} {h h':AH} {n n' T tb:Nat} {l:List UInt8} {Q:AV->AH->Nat->Prop}
theorem Tx.wk(t:Tx h n P T tb l)(e:∀x,P' x->P x):Tx h n P' T tb l:=by
 obtain⟨v,h1,h2,h3⟩:=t.ex;exact⟨t.hi,λp=>t.nt (e _ p),λx hx=>t.pr x (e x hx),v,h1,h2,λx hx=>⟨λp=>(h3 x hx).1 (e x p),(h3 x hx).2⟩⟩
theorem Tx.box(t:Tx h n P T tb l)(u:Up h n h' n')(hn:n<n'):Tx h' n' (λx=>P x\/x=n) T tb l:=by
 obtain⟨v,h1,h2,h3⟩:=t.ex;have hi:=t.hi;refine⟨by omega,λp=>p.elim t.nt (by omega),λx hx=>hx.elim (λp=>by have:=t.pr x p;omega) (by omega),v,(u.old _ t.hi).trans h1,h2.up u,λx hx=>⟨λp=>p.elim (h3 x hx).1 λe=>?_,(h3 x hx).2⟩⟩;have:=h2.gU hx;omega
theorem Tx.put{h0:AH}{n0:Nat}{v v':AV}{l2:List UInt8}(t:Tx h0 n0 P T tb l)(hv:h0.get tb=some (.row T [v]))(hB:∀x,blk v x->¬P x/\x≠tb)(u:Up h0 n0 h n)(g:Gr h' n' 5 1 v' bv l2)(ln:n<=n')(s:∀x,x<n->¬blk v x->h'.get x=h.get x)(b:∀x,blk v' x->blk v x\/n<=x):
 h'.get tb=some (.row T [v])/\Tx (h'.set tb (.row T [v'])) n' P T tb l2/\UP P h0 n0 (h'.set tb (.row T [v'])) n':=by
 have hlt:=t.hi;have hle:=u.le;have hne:∀x,blk v' x->¬P x/\x≠tb:=λx hx=>by
  rcases b x hx with e|e
  .exact hB x e
  .exact⟨λp=>by have:=t.pr x p;omega,by omega⟩
 refine⟨?_,⟨by omega,t.nt,λx hx=>by have:=t.pr x hx;omega,v',aM,g.on (Nat.le_refl _) λx _ hx=>aI (hne x hx).2,hne⟩,⟨by omega,λx hx hX=>?_⟩⟩
 .rw[s tb (by omega) (λe=>(hB tb e).2 rfl),u.old tb hlt];exact hv
 .have hX:P x:=Classical.byContradiction hX
  rw[aI (λe=>t.nt (by rw[<-e];exact hX)),s x (by omega) (λe=>(hB x e).1 hX),u.old x hx]
theorem UX.OL{B m:Nat}{h1 h2:AH}{n1 n2:Nat}(a:UP (λx=>x<B) h1 n1 h2 n2)(u:Up h m h1 n1)(hB:m<=B):Up h m h2 n2:=⟨Nat.le_trans u.le a.le,λx hx=>(a.at_ (show x<B by omega) (Nat.lt_of_lt_of_le hx u.le)).trans (u.old x hx)⟩
theorem lD(K:Nat)(t:Tx h n P T tb l)(hl:l.length<=800000){x:Int}(hx:NB x)(hQ:∀h' n',Tx h' n' P T tb (l++wr x)->UP P h n h' n'->Q (.bV []) h' n'):CW (EF (K+5)) 231 [.i .i64 x,.p tb 0] h n Q:=by
 obtain⟨v,h1,h2,h3⟩:=t.ex;have hlt:=t.hi;have htn:(tn x).length<=5:=by have:=dU x;unfold wr at this;simp at this;omega
 refine aJ acM rfl ?_;simp (disch:=omega) only[go_sem,WQ,h1];rw[bA];refine yO _ h2 (by omega) hx.1 hx.2 λv' h4 n4 g4 l4 s4 b4=>?_;simp (disch:=omega) only[go_sem];refine su (b:=32) (g4.up aL) (by simp;omega) rfl rfl aM λv5 h5 n5 g5 l5 s5 b5=>?_;have WY:∀y,y<n->¬blk v y->h5.get y=h.get y:=λy hy hb=>by
  rw[s5 y (by omega) (λe=>by rcases b4 y e with e|e;exact hb e;omega),aI (by omega),s4 y hy hb]
 obtain⟨q1,q2,q3⟩:=t.put h1 h3 (Up.refl _ _) g5 (by omega) WY λy hy=>by
  rcases b5 y hy with e|e
  .exact b4 y e
  .exact .inr (by omega)
 simp (disch:=omega) only[go_sem,q1,g5.cl];rw[List.append_assoc]at q2;exact hQ _ _ q2 q3
theorem Ao(K:Nat)(t:Tx h n P T tb l)(hl:l.length<=800000)(b:Bool)(hQ:∀h' n',Tx h' n' P T tb (l++fl b)->UP P h n h' n'->Q (.bV []) h' n'):CW (EF (K+1)) 232 [.b b,.p tb 0] h n Q:=by
 obtain⟨v,h1,h2,h3⟩:=t.ex;have hlt:=t.hi;refine aJ c232 rfl ?_;cases b with
 |true=>
  simp (disch:=omega) only[go_sem,Sr,h1];refine su (b:=43) (h2.up aL) (by omega) rfl rfl aM λv5 h5 n5 g5 l5 s5 b5=>?_;obtain⟨q1,q2,q3⟩:=t.put h1 h3 aL g5 (by omega) s5 b5;simp (disch:=omega) only[go_sem,q1,g5.cl];exact hQ _ _ q2 q3
 |false=>
  simp (disch:=omega) only[go_sem,Sr,h1];refine su (b:=45) (h2.up aL) (by omega) rfl rfl aM λv5 h5 n5 g5 l5 s5 b5=>?_;obtain⟨q1,q2,q3⟩:=t.put h1 h3 aL g5 (by omega) s5 b5;simp (disch:=omega) only[go_sem,q1,g5.cl];exact hQ _ _ q2 q3
theorem WZ{e:TypeId}{z:List AV}{h:AH}{n c:Nat}{k j:IntKind}(h2:c<=1048576):Vi e z h n (some (.i k 0)) (some (.i j (c:Nat)))=some (.ok (.sl n 0 0 0 (some c)) (h.set n (.row e (rep c z))) (n+1)):=BN (a:=0) (Nat.zero_le _) h2
theorem lF{Y:YT}{S:SK}{q:FuncId}{a p:AV}{d:MD}{r:List MR}{l:List AV}{s:List It}{f:FT}{h:AH}{n:Nat}{F:Fm}{Q:PQ}:kF Y S (some (.f q [p])) (some [a]) d r l s f h n F Q=CW f q [a,p] h n λv h n=>lJ S d v r l s f h n F Q:=rfl
@[reducible] def TS.pv (v:TS) (p:aS):List AV:=[.i .i64 p.st.day,v.h,v.u,v.m,.b p.own]
variable {tv:TS} {p:aS}
theorem He(l:List UInt8):ni (l.flatMap bv)=some l:=by
 induction l with
 |nil=>rfl
 |cons a l ih=>
  show bnd (EH (OC a)) (λb=>bnd (ni (l.flatMap bv)) λr=>some (b::r))=_;rw[ih];show bnd (bc (Nat.ble a.toNat 255) (some (UInt8.ofNat a.toNat)) none) _=_;rw[Nat.ble_eq_true_of_le (by have:=a.toNat_lt;omega),bJ,UInt8.ofNat_toNat];rfl
theorem Gr.Gw{v:AV}{l:List UInt8}(g:Gr h n 5 1 v bv l):Rc h (some v)=some (.s l):=by
 have hs:=g.sl.ap;rcases g.2 with⟨rfl,rfl⟩|⟨b,cap,cells,rfl,h1,h2,h3,_⟩
 .rfl
 .show(match iN h 1 l.length (.sl b 0 0 l.length cap)with|some u=>(match ni u with|some b=>some (AV.s b)|none=>none)|none=>none)=_
  rw[hs.2,];show(match ni (l.flatMap bv)with|some b=>some (AV.s b)|none=>none)=_;rw[He]
theorem FD(K:Nat)(hS:dO h n tv p.st)(pb:PB p)(hQ:∀h' n',Up h n h' n'->Q (.s (og p)) h' n'):CW (EF (K+6)) 135 [.agg (tv.pv p)] h n Q:=by
 have lh:=pb.lh;have lu:=pb.lu;have lm:=pb.lm;have wid:f_ .i64 (12*(p.st.marks.length:Int))=((12*p.st.marks.length:Nat):Int):=by rw[dN (by omega) (by omega)];rfl
 have SF:f_ .i64 (32+((12*p.st.marks.length:Nat):Int))=((32+12*p.st.marks.length:Nat):Int):=by rw[dN (by omega) (by omega)];rfl
 have z0:(0:Int)=((0:Nat):Int):=rfl;refine aJ acL rfl ?_;repeat' (first|(simp (disch:=omega) only[go_sem,WO,hS.marks.len,wid,SF,WZ])|(with_reducible first|apply aj|apply ah|apply ay|apply aB|apply aA|apply au)<;>intro hd<;>(rw[hd];try simp only[decide_eq_true_eq,decide_eq_false_iff_not,Bool.not_eq_true',Bool.not_eq_false']at hd)|(with_reducible refine aD ?_))
 have pub:Up h n (Tr.set h n (.row 45 (tv.pv p))) (n+1):=by exact aL
 generalize hh:Tr.set (Tr.set (Tr.set (Tr.set h n _) (n+1) _) (n+1+1) _) (n+1+1) _=h1;have u1:Up h n h1 (n+1+1+1):=by rw[<-hh];exact aL
 have q1:h1.get n=some (.row 45 (tv.pv p)):=by rw[<-hh];simp (disch:=omega) only[go_sem]
 have t1:Tx h1 (n+1+1+1) (λx=>x<n+1) 306 (n+1+1) []:=by
  refine⟨by omega,by omega,λx hx=>by omega,.sl (n+1) 0 0 0 (some (32+12*p.st.marks.length)),by rw[<-hh];simp (disch:=omega) only[go_sem],?_,λx hx=>by rw[fH]at hx;omega⟩;refine Gr.of (l:=[]) (λ_=>rfl) (by omega) (cells:=rep (32+12*p.st.marks.length) (bv 0)) (by rw[<-hh];simp (disch:=omega) only[go_sem];rfl) (by simp) (Nat.zero_le _) (by rw[iR bv,bQ (c:=bv) (w:=1) (λ_=>rfl)];simp)
 clear hh pub;rw[lF];refine Ao _ t1 (by simp) p.own λh2 n2 t2 u2=>?_;have q2:=(u2.at_ (Nat.lt_succ_self n) (by omega)).trans q1;have l2:=u2.le;have e1:=Am p.own;simp (disch:=omega) only[go_sem,q2,TS.pv];rw[lF];refine lD _ t2 (by simp;omega) pb.day λh3 n3 t3 u3=>?_;have q3:=(u3.at_ (Nat.lt_succ_self n) (by omega)).trans q2;have l3:=u3.le;have e2:=dU p.st.day;have xA:UP (λx=>x<n+1) h1 (n+1+1+1) h3 n3:=u2.trans u3;simp (disch:=omega) only[go_sem,q3,TS.pv,hS.aC.len];refine dD p.st.aC.length (λk h8 n8 G=>Tx h8 n8 (λx=>x<n+1) 306 (n+1+1) (fl p.own++wr p.st.day++(p.st.aC.take k).flatMap wr)/\UP (λx=>x<n+1) h1 (n+1+1+1) h8 n8/\G=[(1,.p n 0),(3,.p (n+1+1) 0),(4,.f 231 [.p (n+1+1) 0]),(5,.f 232 [.p (n+1+1) 0]),(32,tv.h)]) (by omega) (by omega) (by omega) (by omega) (λk h8 n8 G ⟨_,_,e⟩=>by subst e;exact⟨rfl,rfl⟩) ⟨rfl,rfl,_,⟨by simpa using t3,xA,rfl⟩,by(repeat' (first|exact aZ|refine aW rfl ?_))⟩ ?_ ?_
 .rintro k h8 n8 G hk ⟨t8,u8,rfl⟩
  have uu:=u8.OL u1 (Nat.le_succ n);obtain⟨b1,o1,a,i1,ha,hb1,rd⟩:=(hS.aC.up uu).fE (k:=(k:Nat)) (by omega) (by omega) (by omega);rw[show((k:Nat):Int).toNat=k by omega]at ha;have hlen:=gQ (f:=wr) (k:=6) dU (p.st.aC.take k);have htk:=List.length_take_le k p.st.aC;have hpre:(fl p.own++wr p.st.day).length<=30000:=by simp only[List.length_append];omega
  simp (disch:=omega) only[go_sem,KO,aR i1,rd.el,rd.hd];rw[lF];refine lD _ t8 (by simp only[List.length_append];simp only[List.length_append]at hpre;omega) (pb.aC a (List.mem_of_getElem? ha)) λh9 n9 t9 u9=>?_;simp (disch:=omega) only[go_sem];rw[List.append_assoc,<-lC ha]at t9;exact⟨rfl,rfl,_,⟨t9,u8.trans u9,rfl⟩,by(repeat' (first|exact aZ|refine aW rfl ?_))⟩
 rintro h3 n3 G ⟨t3,xA,rfl⟩;rw[List.take_length]at t3;have q3:=(xA.at_ (Nat.lt_succ_self n) (by omega)).trans q1;have hlh:=gQ (f:=wr) dU p.st.aC;simp (disch:=omega) only[go_sem,q3,TS.pv,hS.used.len];refine dD p.st.used.length (λk h8 n8 G=>Tx h8 n8 (λx=>x<n+1) 306 (n+1+1) (fl p.own++wr p.st.day++p.st.aC.flatMap wr++(p.st.used.take k).flatMap fl)/\UP (λx=>x<n+1) h1 (n+1+1+1) h8 n8/\G=[(1,.p n 0),(3,.p (n+1+1) 0),(4,.f 231 [.p (n+1+1) 0]),(5,.f 232 [.p (n+1+1) 0]),(44,tv.u)]) (by omega) (by omega) (by omega) (by omega) (λk h8 n8 G ⟨_,_,e⟩=>by subst e;exact⟨rfl,rfl⟩) ⟨rfl,rfl,_,⟨by simpa using t3,xA,rfl⟩,by(repeat' (first|exact aZ|refine aW rfl ?_))⟩ ?_ ?_
 .rintro k h8 n8 G hk ⟨t8,u8,rfl⟩
  have uu:=u8.OL u1 (Nat.le_succ n);obtain⟨b1,o1,a,i1,ha,hb1,rd⟩:=(hS.used.up uu).fE (k:=(k:Nat)) (by omega) (by omega) (by omega);rw[show((k:Nat):Int).toNat=k by omega]at ha;have hlen:=gQ (f:=fl) (k:=1) Am (p.st.used.take k);have htk:=List.length_take_le k p.st.used;have hpre:(fl p.own++wr p.st.day++p.st.aC.flatMap wr).length<=30000:=by simp only[List.length_append];omega
  simp (disch:=omega) only[go_sem,KN,aR i1,rd.el,rd.hd];rw[lF];refine Ao _ t8 (by simp only[List.length_append];simp only[List.length_append]at hpre;omega) a λh9 n9 t9 u9=>?_;simp (disch:=omega) only[go_sem];rw[List.append_assoc,<-lC ha]at t9;exact⟨rfl,rfl,_,⟨t9,u8.trans u9,rfl⟩,by(repeat' (first|exact aZ|refine aW rfl ?_))⟩
 rintro h3 n3 G ⟨t3,xA,rfl⟩;rw[List.take_length]at t3;have q3:=(xA.at_ (Nat.lt_succ_self n) (by omega)).trans q1;have hlu:=gQ (f:=fl) Am p.st.used;simp (disch:=omega) only[go_sem,q3,TS.pv,hS.marks.len];refine dD p.st.marks.length (λk h8 n8 G=>Tx h8 n8 (λx=>x<n+1) 306 (n+1+1) (fl p.own++wr p.st.day++p.st.aC.flatMap wr++p.st.used.flatMap fl++(p.st.marks.take k).flatMap mkT)/\UP (λx=>x<n+1) h1 (n+1+1+1) h8 n8/\G=[(1,.p n 0),(3,.p (n+1+1) 0),(4,.f 231 [.p (n+1+1) 0]),(5,.f 232 [.p (n+1+1) 0]),(56,tv.m)]) (by omega) (by omega) (by omega) (by omega) (λk h8 n8 G ⟨_,_,e⟩=>by subst e;exact⟨rfl,rfl⟩) ⟨rfl,rfl,_,⟨by simpa using t3,xA,rfl⟩,by(repeat' (first|exact aZ|refine aW rfl ?_))⟩ ?_ ?_
 .rintro k h8 n8 G hk ⟨t8,u8,rfl⟩
  have uu:=u8.OL u1 (Nat.le_succ n);obtain⟨b1,o1,a,i1,ha,hb1,rd⟩:=(hS.marks.up uu).fE (k:=(k:Nat)) (by omega) (by omega) (by omega);rw[show((k:Nat):Int).toNat=k by omega]at ha;have hlen:=gQ (f:=mkT) (k:=25) OJ (p.st.marks.take k);have htk:=List.length_take_le k p.st.marks;have hpre:(fl p.own++wr p.st.day++p.st.aC.flatMap wr++p.st.used.flatMap fl).length<=30000:=by simp only[List.length_append];omega
  have ha2:a=bP p.st.marks k:=by rw[fJ hk]at ha;cases ha;rfl
  have hb:=pb.marks a (List.mem_of_getElem? ha);have v1:=dU a.status;have v2:=dU a.left;have v3:=dU a.got;have v4:=dU a.aT;have hlp:(fl p.own++wr p.st.day++p.st.aC.flatMap wr++p.st.used.flatMap fl++(p.st.marks.take k).flatMap mkT).length<=60000:=by
   simp only[List.length_append]at hpre⊢;omega
  generalize fl p.own++wr p.st.day++p.st.aC.flatMap wr++p.st.used.flatMap fl=pre at*;simp (disch:=omega) only[go_sem,KM,aR i1,rd.el,rd.hd,rd.all];generalize hg:Tr.set (Tr.set h8 n8 _) n8 _=h10;have Qk:Up h8 n8 h10 (n8+1):=by rw[<-hg];exact aL
  have k0:h10.get n8=some (.row 144 a.av):=by rw[<-hg];simp (disch:=omega) only[go_sem]
  have t10:=t8.box Qk (Nat.lt_succ_self n8);clear hg;rw[lF];refine lD _ t10 (by simp only[List.length_append]at hlp⊢;omega) hb.1 λh11 n11 t11 Ql=>?_;have k1:=(Ql.at_ (.inr rfl) (Nat.lt_succ_self n8)).trans k0;have l11:=Ql.le;simp (disch:=omega) only[go_sem,k1];rw[lF];refine lD _ t11 (by simp only[List.length_append]at hlp⊢;omega) hb.2.1 λh12 n12 t12 yP=>?_;have k2:=(yP.at_ (.inr rfl) (by omega)).trans k1;have l12:=yP.le;simp (disch:=omega) only[go_sem,k2];rw[lF];refine lD _ t12 (by simp only[List.length_append]at hlp⊢;omega) hb.2.2.1 λUN n13 t13 FH=>?_;have k3:=(FH.at_ (.inr rfl) (by omega)).trans k2;have l13:=FH.le;simp (disch:=omega) only[go_sem,k3];rw[lF];refine lD _ t13 (by simp only[List.length_append]at hlp⊢;omega) hb.2.2.2 λh14 n14 t14 Qm=>?_;have k4:=(Qm.at_ (.inr rfl) (by omega)).trans k3;have Hf:=Qm.le;simp (disch:=omega) only[go_sem,k4];rw[lF];refine Ao _ t14 (by simp only[List.length_append]at hlp⊢;omega) a.paused λQn n15 t15 u15=>?_;simp (disch:=omega) only[go_sem];have t16:=t15.wk (P':=λx=>x<n+1) λx hx=>.inl hx;have e16:pre++(p.st.marks.take k).flatMap mkT++wr a.status++wr a.left++wr a.got++wr a.aT++fl a.paused=pre++(p.st.marks.take (k+1)).flatMap mkT:=by
   rw[lC ha,mkT];simp only[List.append_assoc]
  rw[e16]at t16;have uu2:UP (λx=>x<n+1) h10 (n8+1) Qn n15:=UP.wk (P:=λx=>x<n+1\/x=n8) (UX.trans (UX.trans (UX.trans (UX.trans Ql yP) FH) Qm) u15) λx hx=>.inl hx;exact⟨rfl,rfl,_,⟨t16,(u8.trans (UX.up Qk)).trans uu2,rfl⟩,by(repeat' (first|exact aZ|refine aW rfl ?_))⟩
 rintro h3 n3 G ⟨t3,xA,rfl⟩;rw[List.take_length]at t3;obtain⟨v,r1,r2,r3⟩:=t3.ex;have hcb:Rc h3 (some v)=some (.s (og p)):=Gr.Gw r2;simp (disch:=omega) only[go_sem,r1,hcb];exact hQ _ _ (xA.OL u1 (Nat.le_succ n))
end
end
end
noncomputable section
def dv(b:UInt8):Nat:=b.toNat - 48
theorem gN{k:Nat}(h:k<10):(dg k).toNat=48+k:=by unfold dg;simp;omega
def vl(l:List UInt8):Nat:=l.foldl (λx b=>x*10+(b.toNat - 48)) 0
theorem KT{a:Nat}(ha:a<10000):vl (dec a)=a:=by
 unfold dec vl;split
 .simp only[List.foldl_cons,List.foldl_nil];rw[gN (by omega)];omega
 .split
  .simp only[List.foldl_cons,List.foldl_nil];rw[gN (by omega),gN (by omega)];omega
  .split
   .simp only[List.foldl_cons,List.foldl_nil];rw[gN (by omega),gN (by omega),gN (by omega)];omega
   .simp only[List.foldl_cons,List.foldl_nil];rw[gN (by omega),gN (by omega),gN (by omega),gN (by omega)];omega
theorem FK{a b:Nat}(ha:a<10000)(hb:b<10000)(h:dec a=dec b):a=b:=by
 rw[<-KT ha,h,KT hb]
theorem KU{a:Nat}(ha:a<10000):∀b∈dec a,48<=b.toNat/\b.toNat<58:=by
 intro b hb;unfold dec at hb;have key:∀k,k<10->b=dg k->48<=b.toNat/\b.toNat<58:=λk hk e=>by rw[e,gN hk];omega
 split at hb
 .simp at hb;exact key _ (by assumption) hb
 .split at hb
  .simp at hb;rcases hb with e|e<;>exact key _ (by omega) e
  .split at hb
   .simp at hb;rcases hb with e|e|e<;>exact key _ (by omega) e
   .simp at hb;rcases hb with e|e|e|e<;>exact key _ (by omega) e
theorem SG{x y:Int}(hx:NB x)(hy:NB y)(h:tn x=tn y):x=y:=by
 unfold NB at hx hy;unfold tn at h;have d45:∀u:Nat,u<10000->∀r,dec u≠45::r:=λu hu r e=>by
  have:=KU hu 45 (by rw[e];exact List.mem_cons_self);simp at this
 split at h<;>split at h
 .have:=FK (by omega) (by omega) (List.cons.inj h).2;omega
 .exact absurd h.symm (d45 _ (by omega) _)
 .exact absurd h (d45 _ (by omega) _)
 .have:=FK (by omega) (by omega) h;omega
theorem W9{x:Int}(hx:NB x):(32:UInt8)∉tn x:=by
 unfold NB at hx;unfold tn;intro h;split at h
 .rcases List.mem_cons.1 h with e|e
  .cases e
  .have:=KU (by omega) _ e;simp at this
 .have:=KU (by omega) _ h;simp at this
theorem OM{a b r s:List UInt8}(ha:(32:UInt8)∉a)(hb:(32:UInt8)∉b)(h:a++32::r=b++32::s):a=b/\r=s:=by
 induction a generalizing b with
 |nil=>cases b with
  |nil=>exact⟨rfl,(List.cons.inj h).2⟩
  |cons y b=>exact absurd (List.mem_cons.2 (.inl (List.cons.inj h).1)) hb
 |cons x a ih=>cases b with
  |nil=>exact absurd (List.mem_cons.2 (.inl (List.cons.inj h).1.symm)) ha
  |cons y b=>
   obtain⟨h1,h2⟩:=List.cons.inj h;obtain⟨h3,h4⟩:=ih (λe=>ha (List.mem_cons_of_mem _ e)) (λe=>hb (List.mem_cons_of_mem _ e)) h2;exact⟨by rw[h1,h3],h4⟩
theorem fT{x y:Int}{r s:List UInt8}(hx:NB x)(hy:NB y)(h:wr x++r=wr y++s):x=y/\r=s:=by
 unfold wr at h;rw[List.append_assoc,List.append_assoc]at h;obtain⟨h1,h2⟩:=OM (W9 hx) (W9 hy) h;exact⟨SG hx hy h1,h2⟩
theorem xB{x y:Bool}{r s:List UInt8}(h:fl x++r=fl y++s):x=y/\r=s:=by
 cases x<;>cases y<;>simp[fl]at h⊢<;>exact h
theorem KV{x y:aG}{r s:List UInt8}(hx:NB x.status/\NB x.left/\NB x.got/\NB x.aT)(hy:NB y.status/\NB y.left/\NB y.got/\NB y.aT)(h:mkT x++r=mkT y++s):x=y/\r=s:=by
 obtain⟨x1,x2,x3,x4,x5⟩:=x;obtain⟨y1,y2,y3,y4,y5⟩:=y;unfold mkT at h;simp only[List.append_assoc]at h;obtain⟨e1,h⟩:=fT hx.1 hy.1 h;obtain⟨e2,h⟩:=fT hx.2.1 hy.2.1 h;obtain⟨e3,h⟩:=fT hx.2.2.1 hy.2.2.1 h;obtain⟨e4,h⟩:=fT hx.2.2.2 hy.2.2.2 h;obtain⟨e5,h⟩:=xB h;dsimp only at e1 e2 e3 e4 e5;exact⟨by rw[e1,e2,e3,e4,e5],h⟩
theorem jF{α:Type}{f:α->List UInt8}{B:α->Prop}(hf:∀x y r s,B x->B y->f x++r=f y++s->x=y/\r=s):∀{a b:List α}{r s:List UInt8},a.length=b.length->(∀x∈a,B x)->(∀x∈b,B x)->a.flatMap f++r=b.flatMap f++s->a=b/\r=s
 |[],[],_,_,_,_,_,h=>⟨rfl,h⟩
 |[],_::_,_,_,hl,_,_,_=>by simp at hl
 |_::_,[],_,_,hl,_,_,_=>by simp at hl
 |x::a,y::b,r,s,hl,ha,hb,h=>by
  rw[List.flatMap_cons,List.flatMap_cons,List.append_assoc,List.append_assoc]at h;obtain⟨e1,h⟩:=hf x y _ _ (ha x (by simp)) (hb y (by simp)) h;obtain⟨e2,h⟩:=jF hf (by simpa using hl) (λz hz=>ha z (List.mem_cons_of_mem _ hz)) (λz hz=>hb z (List.mem_cons_of_mem _ hz)) h;exact⟨by rw[e1,e2],h⟩
theorem KW{p q:aS}(hp:PB p)(hq:PB q)(l1:p.st.aC.length=q.st.aC.length)(l2:p.st.used.length=q.st.used.length)(l3:p.st.marks.length=q.st.marks.length)(h:og p=og q):p=q:=by
 unfold og at h;rw[<-List.append_nil (p.st.marks.flatMap mkT),<-List.append_nil (q.st.marks.flatMap mkT)]at h;simp only[List.append_assoc]at h;obtain⟨e1,h⟩:=xB h;obtain⟨e2,h⟩:=fT hp.day hq.day h;obtain⟨e3,h⟩:=jF (B:=NB) (λx y r s=>fT) l1 hp.aC hq.aC h;obtain⟨e4,h⟩:=jF (f:=fl) (B:=λ_=>True) (λx y r s _ _=>xB) l2 (λ_ _=>trivial) (λ_ _=>trivial) h;obtain⟨e5,h⟩:=jF (B:=λx=>NB x.status/\NB x.left/\NB x.got/\NB x.aT) (λx y r s=>KV) l3 hp.marks hq.marks h;obtain⟨⟨d,hs,us,ms⟩,o⟩:=p;obtain⟨⟨d',hs',us',ms'⟩,o'⟩:=q;cases e1;cases e2;cases e3;cases e4;cases e5
 rfl
section
variable {C:aH} {s:aO} {party:Int} {p q:aS}
theorem aU.pb(h:aU C s)(o:Bool):PB ⟨s,o⟩:=by
 have ok:=aH.ok h.con;have:=ok.fQ;have:=ok.mR;have:=ok.mq;have:=ok.PY;have:=ok.J8;have:=h.lh;have:=h.lu;have:=h.lm;have:=h.GQ;have:=h.DC;refine⟨by show NB s.day;unfold NB;omega,λx hx=>by have:=h.held x hx;unfold NB;omega,λm hm=>?_,by show s.aC.length<=1000;omega,by show s.used.length<=1000;omega,by show s.marks.length<=1000;omega⟩;obtain⟨i,hi⟩:=List.getElem?_of_mem hm;have hi:s.marks[i]?=some m:=hi;have hil:=(List.getElem?_eq_some_iff.1 hi).1;have hic:i<C.clauses.length:=by omega
 have hk:C.clauses[i]?=some C.clauses[i]:=List.getElem?_eq_some_iff.2 ⟨hic,rfl⟩;have xZ:=ok.clause hk;have h1:=h.marks i m _ hi hk;have h2:=bS.got xZ h1;have:=xZ.J9;have:=xZ.J_;unfold NB;rcases h1 with e|e|e
 .omega
 .obtain⟨e1,e2,e3,e4,e5,e6,e7⟩:=e
  by_cases hk4:C.clauses[i].kind=4
  .have:=e6 hk4
   rcases e1 with⟨e1,e1'⟩|⟨e1,e1'⟩<;>omega
  .have:=e7 hk4
   rcases e1 with⟨e1,e1'⟩|⟨e1,e1'⟩<;>omega
 .omega
theorem jg(h:aU C s){t:Int}(h1: -1<=t)(h2:t<C.acts.length)(hd:s.day<C.days):aU C (C.bL s t):=by
 unfold aH.bL;by_cases h3:t= -1
 .rw[if_pos h3];exact NZ h hd
 .rw[if_neg h3]
  obtain⟨i,rfl⟩:=Int.eq_ofNat_of_zero_le (show 0<=t by omega);rw[show((i:Nat):Int).toNat=i by omega];obtain⟨a,ha⟩:∃a,C.acts[i]?=some a:=⟨C.acts[i]'(by omega),List.getElem?_eq_some_iff.2 ⟨by omega,rfl⟩⟩;rw[ha];exact Rw h ha
theorem KX(h:aU C p.st){m:Int}(hm:(m,q)∈C.jW party p):aU C q.st:=by
 unfold aH.jW aH.mD at hm;rcases List.mem_append.1 hm with hm|hm
 .rcases List.mem_append.1 hm with hm|hm
  .split at hm
   .simp at hm;rw[hm.2];exact h
   .cases hm
  .split at hm
   .rename_i h2
    simp at hm;rw[hm.2];exact jg (t:= -1) h (by omega) (by omega) h2.2
   .cases hm
 .split at hm
  .rename_i h2
   unfold aH.mE at hm;obtain⟨i,hi,e⟩:=List.mem_map.1 hm;have hlt:=List.mem_range.1 (List.mem_filter.1 hi).1;cases e
   exact jg (t:=(i:Int)) h (by omega) (by omega) h2
  .cases hm
theorem tY.ok(h:aU C p.st)(k:tY C party p q):aU C q.st:=by
 induction k with
 |refl=>exact h
 |step _ hm ih=>exact KX ih hm
theorem OO(hp:aU C p.st)(hq:aU C q.st)(h:og p=og q):p=q:=
 KW (hp.pb p.own) (hq.pb q.own) (by rw[hp.lh,hq.lh]) (by rw[hp.lu,hq.lu]) (by rw[hp.lm,hq.lm]) h
end
end
end Go.Proofs.YtjoohkjmoghmoaaGreatDoor
