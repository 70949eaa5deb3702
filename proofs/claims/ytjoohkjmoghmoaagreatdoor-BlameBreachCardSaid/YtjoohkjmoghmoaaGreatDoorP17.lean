/- part -/
import Derived.Test.YtjoohkjmoghmoaaGreatDoorP15
set_option linter.all false
namespace Go.Proofs.YtjoohkjmoghmoaaGreatDoor
section
noncomputable section
def Oi:MC:=(.seq (.seq (.reg [nl (.mv (.s 12)),nl (.mv (.s 1)),nl (.aW (.v 0)),nl (.bin .lss 3 (.v 2) (.v 0)),nl (.mv (.v 0)),ng 0 true (.mv (.s 9)),ng 1 true (.bin .eql 31 (.v 0) (.c (.i .i64 0))),nk 44 (.pick (.v 2) (.v 0) (.c (.b false)))]) (.cond (.s 44) .skip (.exit 0))) (.seq (.blk 1 (.fV 0 [mq 1 [] (.ld (some 7) (.s 3)),mq 1 [] (.ld (some 4) (.s 8)),mq 0 [] (.mv (.s 1)),mq 0 [] (.mv (.s 12)),mq 0 [2,3] (.bJ 1 (.v 0) (.v 1)),mq 1 [4] (.ld none (.v 0)),mq 3 [0,1,5] (.call (.c (.f 18 [])) [(.v 0),(.v 1),(.v 2)]),mq 0 [6] (.mv (.v 0)),mq 0 [7] (.ext (.v 0) 0),mq 0 [7] (.ext (.v 0) 1),mq 3 [8] (.st 4 (.s 8) (.v 0)),mq 0 [9] (.mv (.v 0))] [] [(11,9)])) (.reg [nl (.mv (.s 12)),nl (.bin .add 3 (.v 0) (.c (.i .i64 1))),nk 12 (.mv (.v 0))])))
def m5:MC:=(.seq (.reg [nk 3 (.box 27 7 (.s 0)),nk 6 (.mv (.c (.b false)))]) (.seq (.reg [nl (.call (.c (.f 8 [])) []),nk 7 (.mv (.v 0))]) (.seq (.seq (.reg [nl (.ld (some 7) (.s 3)),nl (.mv (.s 1)),nl (.call (.c (.f 9 [])) [(.v 1),(.c (.k 1)),(.c (.k 1)),(.v 0)]),nk 19 (.not (.v 0))]) (.cond (.s 19) (.seq (.reg [nl (.mv (.s 7)),nk 6 (.mv (.v 0))]) .ret) .skip)) (.seq (.reg [nl (.ld (some 7) (.s 3)),nl (.call (.c (.f 17 [])) [(.v 0)]),nl (.mv (.v 0)),nl (.ext (.v 0) 0),nl (.ext (.v 1) 1),nk 8 (.al 43 [(.i .i64 0),(.k 1),(.k 1),(.k 1)]),⟨none,(.st 4 (.s 8) (.v 1)),.n⟩,nk 9 (.mv (.v 0))]) (.seq (.seq (.reg [nl (.mv (.s 9)),nk 27 (.bin .neq 31 (.v 0) (.c (.i .i64 0)))]) (.cond (.s 27) (.seq (.reg [nl (.mv (.s 7)),nk 6 (.mv (.v 0))]) .ret) .skip)) (.seq (.reg [nl (.ld (some 7) (.s 3)),nl (.mv (.s 2)),nl (.ld (some 4) (.s 8)),nl (.jk [(.i .i64 0),(.k 1),(.k 1),(.k 1),(.b false)] [(0,(4,(.v 0))),(4,(1,(.c (.b true))))]),nl (.call (.c (.f 12 [])) [(.v 3),(.v 2),(.v 0)]),nl (.mv (.v 0)),nl (.ext (.v 0) 0),nl (.ext (.v 1) 1),nk 10 (.mv (.v 1)),nk 11 (.mv (.v 0))]) (.seq (.seq (.reg [nk 12 (.mv (.c (.i .i64 0)))]) (.blk 0 (.loop Oi))) (.seq (.reg [nl (.ld (some 7) (.s 3)),nl (.mv (.s 2)),nl (.mv (.s 1)),nl (.call (.c (.f 10 [])) [(.v 2),(.c (.k 1)),(.v 1),(.v 0)]),nl (.mv (.v 0)),nl (.ext (.v 0) 0),nl (.ext (.v 1) 1),nk 13 (.mv (.v 1)),nk 14 (.mv (.v 0))]) (.seq (.seq (.reg [nl (.mv (.s 9)),nl (.bin .neq 31 (.v 0) (.c (.i .i64 0))),nl (.mv (.v 0)),ng 0 false (.mv (.s 11)),ng 1 false (.bin .neq 31 (.v 0) (.c (.i .i64 0))),nl (.pick (.v 2) (.c (.b true)) (.v 0)),nl (.mv (.v 0)),ng 0 false (.mv (.s 14)),ng 1 false (.bin .neq 31 (.v 0) (.c (.i .i64 0))),nk 73 (.pick (.v 2) (.c (.b true)) (.v 0))]) (.cond (.s 73) (.seq (.reg [nl (.mv (.s 7)),nk 6 (.mv (.v 0))]) .ret) .skip)) (.seq (.reg [nl (.mv (.s 7)),nl (.mv (.v 0)),ng 0 true (.mv (.s 10)),ng 1 true (.not (.v 0)),ng 2 true (.mv (.v 0)),ng 0 false (.ld (some 7) (.s 3)),ng 1 false (.ld (some 4) (.s 8)),ng 2 false (.mv (.s 2)),ng 3 false (.call (.c (.f 19 [])) [(.v 2),(.v 1),(.v 0)]),ng 4 false (.not (.v 0)),ng 8 true (.pick (.v 5) (.c (.b true)) (.v 0)),ng 9 true (.mv (.v 0)),ng 0 false (.mv (.s 13)),ng 1 false (.bin .geq 3 (.v 0) (.c (.i .i64 0))),ng 12 true (.pick (.v 2) (.c (.b true)) (.v 0)),nl (.pick (.v 13) (.v 0) (.c (.b false))),nl (.mv (.v 0)),ng 0 true (.mv (.s 10)),ng 1 true (.mv (.v 0)),ng 0 false (.mv (.s 13)),ng 1 false (.bin .eql 3 (.v 0) (.c (.i .i64 (.negSucc 0)))),ng 4 true (.pick (.v 2) (.c (.b true)) (.v 0)),nl (.pick (.v 5) (.v 0) (.c (.b false))),nk 6 (.mv (.v 0))]) .ret))))))))))
theorem c5:dx Tryz.prog sl0 5=some ([true,true,true],m5,[(.t 6)]):=by kernel_rfl
def m12:MC:=(.seq (.reg [nk 3 (.box 27 7 (.s 0)),nk 5 (.box 45 5 (.s 2)),nk 6 (.mv (.c (.b false))),nk 7 (.mv (.c (.i .i64 0)))]) (.seq (.reg [nl (.ld (some 7) (.s 3)),nl (.mv (.s 1)),nl (.ld (some 5) (.s 5)),nl (.call (.c (.f 38 [])) [(.v 2),(.v 1),(.v 0)]),nl (.mv (.v 0)),nl (.ext (.v 0) 0),nl (.ext (.v 1) 1),nk 8 (.mv (.v 1)),nk 9 (.mv (.v 0))]) (.seq (.reg [nl (.mv (.s 9)),nl (.bin .eql 31 (.v 0) (.c (.i .i64 0))),nl (.mv (.v 0)),ng 0 true (.mv (.s 8)),ng 1 true (.aW (.v 0)),ng 2 true (.bin .eql 3 (.v 0) (.c (.i .i64 0))),nl (.pick (.v 3) (.v 0) (.c (.b false))),nl (.mv (.s 9)),nk 6 (.mv (.v 1)),nk 7 (.mv (.v 0))]) .ret)))
theorem c12:dx Tryz.prog sl0 12=some ([true,true,true],m12,[(.t 6),(.t 7)]):=by kernel_rfl
def Tg:MC:=(.seq (.reg [nl (.mv (.s 26)),nl (.bJ 5 (.s 24) (.s 26)),nl (.ld (some 5) (.v 0)),nk 8 (.al 144 [(.i .i64 0),(.i .i64 0),(.i .i64 0),(.i .i64 0),(.b false)]),nk 7 (.mv (.v 2)),⟨none,(.st 5 (.s 8) (.v 0)),.n⟩]) (.seq (.reg [nl (.fa 4 (.s 3)),nl (.ld none (.v 0)),nl (.mv (.s 7)),nl (.bJ 16 (.v 1) (.v 0)),nl (.fa 8 (.v 0)),nl (.ld none (.v 0)),nl (.mv (.v 0)),ng 0 true (.fa 0 (.s 8)),ng 1 true (.ld none (.v 0)),ng 2 true (.bin .eql 3 (.v 0) (.c (.i .i64 4))),nl (.pick (.v 3) (.v 0) (.c (.b false))),nl (.mv (.v 0)),ng 0 true (.fa 3 (.s 8)),ng 1 true (.ld none (.v 0)),ng 2 true (.mv (.s 2)),ng 3 true (.bin .eql 3 (.v 1) (.v 0)),nk 47 (.pick (.v 4) (.v 0) (.c (.b false)))]) (.cond (.s 47) (.seq (.reg [nk 6 (.mv (.c (.b true)))]) .ret) .skip)))
def m19:MC:=(.seq (.reg [nk 3 (.box 27 7 (.s 0)),nk 4 (.box 43 4 (.s 1)),nk 6 (.mv (.c (.b false)))]) (.seq (.seq (.reg [nl (.mv (.s 2)),nl (.bin .lss 3 (.v 0) (.c (.i .i64 0))),nl (.mv (.v 0)),ng 0 false (.mv (.s 2)),ng 1 false (.fa 0 (.s 3)),ng 2 false (.ld none (.v 0)),ng 3 false (.bin .geq 3 (.v 2) (.v 0)),nl (.pick (.v 4) (.c (.b true)) (.v 0)),nl (.mv (.v 0)),ng 0 false (.ld (some 7) (.s 3)),ng 1 false (.ld (some 4) (.s 4)),ng 2 false (.call (.c (.f 47 [])) [(.v 1),(.v 0)]),ng 3 false (.not (.v 0)),nk 22 (.pick (.v 4) (.c (.b true)) (.v 0))]) (.cond (.s 22) (.seq (.reg [nk 6 (.mv (.c (.b false)))]) .ret) .skip)) (.seq (.seq (.reg [nl (.fa 3 (.s 4)),nk 24 (.ld none (.v 0)),nk 25 (.aW (.s 24)),nk 26 (.mv (.c (.i .i64 0)))]) (.blk 0 (g_ 3 26 25 27 0 1 Tg))) (.seq (.reg [nk 6 (.mv (.c (.b false)))]) .ret))))
theorem c19:dx Tryz.prog sl0 19=some ([true,true,true],m19,[(.t 6)]):=by kernel_rfl
def m38:MC:=(.seq (.reg [nk 3 (.box 27 7 (.s 0)),nk 4 (.box 3 1 (.s 1)),nk 5 (.box 45 5 (.s 2)),nk 6 (.mv (.c (.k 1))),nk 7 (.mv (.c (.i .i64 0)))]) (.seq (.reg [nk 8 (.al 50 [(.k 1)])]) (.seq (.reg [nl (.ld (some 7) (.s 3)),nl (.ld none (.s 4)),nl (.ld (some 5) (.s 5)),nl (.z8 73 [(.s 4),(.s 8)]),nl (.call (.c (.f 72 [])) [(.v 3),(.v 2),(.v 1),(.v 0)]),nk 9 (.mv (.v 0))]) (.seq (.seq (.reg [nl (.mv (.s 9)),nk 16 (.bin .neq 31 (.v 0) (.c (.i .i64 0)))]) (.cond (.s 16) (.seq (.reg [nl (.mv (.s 9)),nk 6 (.mv (.c (.k 1))),nk 7 (.mv (.v 0))]) .ret) .skip)) (.seq (.reg [nl (.ld none (.s 8)),nk 6 (.mv (.v 0)),nk 7 (.mv (.c (.i .i64 0)))]) .ret)))))
theorem c38:dx Tryz.prog sl0 38=some ([true,true,true],m38,[(.t 6),(.t 7)]):=by kernel_rfl
def Ti:MC:=(.seq (.reg [nl (.bJ 1 (.s 30) (.s 32)),nl (.ld none (.v 0)),nk 11 (.mv (.v 0))]) (.seq (.reg [nl (.ld (some 7) (.s 4)),nl (.mv (.s 11)),nl (.call (.c (.f 131 [])) [(.v 1),(.v 0)]),nl (.mv (.v 0)),nl (.ext (.v 0) 0),nl (.ext (.v 1) 1),nk 12 (.al 27 [(.i .i64 0),(.k 1),(.k 1),(.k 1),(.k 1),(.i .i64 0),(.k 1)]),⟨none,(.st 7 (.s 12) (.v 1)),.n⟩,nk 13 (.mv (.v 0))]) (.seq (.reg [nl (.mv (.s 13)),nk 9 (.mv (.v 0))]) (.seq (.seq (.reg [nl (.mv (.s 9)),nk 44 (.bin .eql 31 (.v 0) (.c (.i .i64 0)))]) (.cond (.s 44) (.fV 0 [mq 0 [] (.mv (.s 3)),mq 0 [] (.mv (.s 11)),mq 1 [] (.ld (some 7) (.s 12)),mq 0 [] (.mv (.s 11)),mq 0 [] (.fa 0 (.s 6)),mq 1 [4] (.ld (some 4) (.v 0)),mq 3 [3,5] (.call (.c (.f 132 [])) [(.v 0),(.v 1)]),mq 0 [] (.fa 4 (.s 6)),mq 1 [7] (.ld none (.v 0)),mq 0 [6,8] (.jk [(.i .i64 0),(.k 1),(.k 1),(.k 1),(.b false)] [(0,(4,(.v 0))),(4,(1,(.v 1)))]),mq 3 [0,1,2,9] (.call (.v 0) [(.v 1),(.v 2),(.v 3)]),mq 0 [10] (.mv (.v 0))] [(2,7),(8,0)] [(11,9)]) .skip)) (.seq (.reg [nl (.mv (.s 9)),nk 57 (.bin .neq 31 (.v 0) (.c (.i .i64 0)))]) (.cond (.s 57) (.exit 0) .skip))))))
def WZ:MC:=(.seq (.reg [nk 4 (.box 27 7 (.s 0)),nk 6 (.box 45 5 (.s 2)),nk 8 (.mv (.c (.i .i64 0)))]) (.seq (.seq (.reg [nl (.mv (.s 1)),nl (.bin .lss 3 (.v 0) (.c (.i .i64 0))),nl (.mv (.v 0)),ng 0 false (.mv (.s 1)),ng 1 false (.fa 0 (.s 4)),ng 2 false (.ld none (.v 0)),ng 3 false (.bin .geq 3 (.v 2) (.v 0)),nl (.pick (.v 4) (.c (.b true)) (.v 0)),nl (.mv (.v 0)),ng 0 false (.ld (some 7) (.s 4)),ng 1 false (.fa 0 (.s 6)),ng 2 false (.ld (some 4) (.v 0)),ng 3 false (.call (.c (.f 47 [])) [(.v 2),(.v 0)]),ng 4 false (.not (.v 0)),nk 28 (.pick (.v 5) (.c (.b true)) (.v 0))]) (.cond (.s 28) (.seq (.reg [nk 8 (.mv (.c (.i .i64 1)))]) .ret) .skip)) (.seq (.reg [nk 9 (.mv (.c (.i .i64 0)))]) (.seq .skip (.seq (.seq (.reg [nl (.ld (some 7) (.s 4)),nk 30 (.call (.c (.f 130 [])) [(.v 0)]),nk 31 (.aW (.s 30)),nk 32 (.mv (.c (.i .i64 0)))]) (.blk 0 (g_ 3 32 31 33 0 1 Ti))) (.seq (.reg [nl (.mv (.s 9)),nk 8 (.mv (.v 0))]) .ret))))))
theorem c72:dx Tryz.prog sl0 72=some ([true,true,true,true],WZ,[(.t 8)]):=by kernel_rfl
def m73:MC:=(.seq (.reg [nk 6 (.box 27 7 (.s 1)),nk 7 (.box 45 5 (.s 2)),nk 8 (.mv (.c (.i .i64 0)))]) (.seq (.reg [nl (.ld (some 7) (.s 6)),nl (.ld none (.s 3)),nl (.ld (some 5) (.s 7)),nl (.call (.c (.f 74 [])) [(.v 2),(.v 1),(.v 0)]),nl (.mv (.v 0)),nl (.ext (.v 0) 0),nl (.ext (.v 1) 1),nk 9 (.al 150 [(.i .i64 0),(.k 1),(.k 1)]),⟨none,(.st 3 (.s 9) (.v 1)),.n⟩,nk 10 (.mv (.v 0))]) (.seq (.seq (.reg [nl (.mv (.s 10)),nl (.bin .eql 31 (.v 0) (.c (.i .i64 0))),nl (.mv (.v 0)),ng 0 true (.ld (some 7) (.s 6)),ng 1 true (.ld (some 3) (.s 9)),ng 2 true (.call (.c (.f 52 [])) [(.v 1),(.v 0)]),ng 3 true (.bJ 1 (.v 0) (.c (.i .i64 0))),ng 4 true (.ld none (.v 0)),ng 5 true (.not (.v 0)),nk 27 (.pick (.v 6) (.v 0) (.c (.b false)))]) (.cond (.s 27) (.reg [nl (.ld none (.s 4)),nl (.mv (.s 0)),nl (.rP 22 1 [(.k 1)] [(0,(1,(.v 0)))]),nl (.app 22 1 (.v 2) (.v 0)),⟨none,(.st 1 (.s 4) (.v 0)),.n⟩]) .skip)) (.seq (.reg [nl (.mv (.s 10)),nk 8 (.mv (.v 0))]) .ret))))
theorem c73:dx Tryz.prog sl0 73=some ([true,true,true,true,true],m73,[(.t 8)]):=by kernel_rfl
def Gi:MC:=(.seq (.reg [nl (.bJ 1 (.s 68) (.s 70)),nl (.ld none (.v 0)),nk 16 (.mv (.v 0))]) (.seq (.reg [nl (.mv (.s 10)),nl (.mv (.s 16)),nl (.look 3 (some (.i .i64 0)) (.v 1) (.v 0) true),nl (.mv (.v 0)),nl (.ext (.v 0) 0),nl (.ext (.v 1) 1),nk 17 (.mv (.v 1)),nk 18 (.mv (.v 0))]) (.seq (.reg [nk 80 (.mv (.s 18))]) (.cond (.s 80) (.reg [nl (.mv (.s 8)),nl (.mv (.s 17)),nl (.mv (.s 11)),nl (.call (.v 2) [(.v 1),(.v 0)])]) (.reg [nl (.mv (.s 10)),nl (.mv (.s 16)),nl (.mv (.s 11)),⟨none,(.upd 3 (.v 2) (.v 1) (.v 0)),.n⟩])))))
def Gj:MC:=(.seq (.reg [nl (.bJ 2 (.s 55) (.s 57)),nl (.ld (some 2) (.v 0)),nk 14 (.al 191 [(.i .i64 0),(.i .i64 0)]),⟨none,(.st 2 (.s 14) (.v 0)),.n⟩]) (.reg [nl (.mv (.s 8)),nl (.mv (.s 11)),nl (.fa 0 (.s 14)),nl (.ld none (.v 0)),nl (.call (.v 3) [(.v 2),(.v 0)])]))
def Ci:MC:=(.seq (.reg [nl (.mv (.s 45)),nl (.bJ 16 (.s 43) (.s 45)),nl (.ld (some 16) (.v 0)),nk 12 (.al 112 [(.i .i64 0),(.i .i64 0),(.i .i64 0),(.i .i64 0),(.k 1),(.i .i64 0),(.i .i64 0),(.b false),(.b false),(.i .i64 0),(.i .i64 0),(.i .i64 0),(.i .i64 0),(.i .i64 0),(.i .i64 0),(.b false)]),nk 11 (.mv (.v 2)),⟨none,(.st 16 (.s 12) (.v 0)),.n⟩]) (.seq (.seq (.reg [nk 50 (.mv (.s 9))]) (.cond (.s 50) (.reg [nl (.mv (.s 8)),nl (.mv (.s 11)),nl (.call (.v 1) [(.c (.i .i64 0)),(.v 0)])]) .skip)) (.seq (.seq (.reg [nl (.fa 4 (.s 12)),nk 55 (.ld none (.v 0)),nk 56 (.aW (.s 55)),nk 57 (.mv (.c (.i .i64 0)))]) (.blk 4 (g_ 3 57 56 58 4 5 Gj))) (.seq (.reg [nl (.ld (some 16) (.s 12)),nk 68 (.call (.c (.f 227 [])) [(.v 0)]),nk 69 (.aW (.s 68)),nk 70 (.mv (.c (.i .i64 0)))]) (.blk 6 (g_ 3 70 69 71 6 7 Gi))))))
def Oj:MC:=(.seq (.reg [nl (.mv (.s 29)),nk 6 (.mv (.v 0))]) (.reg [nl (.mv (.s 6)),nl (.mv (.s 6)),nl (.ER 1 400 (.s 5) (.v 1)),⟨none,(.st 1 (.v 0) (.v 1)),.n⟩]))
def aau:MC:=(.seq (.reg [nk 1 (.box 27 7 (.s 0)),nk 2 (.mv (.c (.k 1)))]) (.seq (.seq (.reg [nl (.ld (some 7) (.s 1)),nl (.call (.c (.f 44 [])) [(.v 0)]),nl (.mv (.v 0)),nl (.ext (.v 0) 0),nl (.ext (.v 1) 1),nk 3 (.mv (.v 1)),nl (.mv (.v 0))]) (.seq (.reg [nl (.mv (.s 3)),nk 25 (.bin .neq 31 (.v 0) (.c (.i .i64 0)))]) (.cond (.s 25) (.seq (.reg [nk 2 (.mv (.c (.k 1)))]) .ret) .skip))) (.seq (.reg [nk 5 (.al 347 (rep 400 [(.i .i64 0)]))]) (.seq (.seq (.reg [nl (.fa 4 (.s 1)),nl (.ld none (.v 0)),nk 28 (.aW (.v 0)),nk 29 (.mv (.c (.i .i64 0)))]) (.blk 0 (g_ 3 29 28 30 0 1 Oj))) (.seq (.reg [nk 7 (.al 348 [(.k 3)])]) (.seq (.reg [nl (.z8 223 [(.s 5),(.s 7)]),⟨none,(.st 1 (.s 7) (.v 0)),.n⟩]) (.seq (.reg [nl (.z8 224 [(.s 7),(.s 5)]),nk 8 (.mv (.v 0))]) (.seq (.reg [nl (.fa 3 (.s 1)),nl (.ld none (.v 0)),nl (.call (.c (.f 225 [])) [(.v 0),(.c (.f 226 []))]),nk 9 (.mv (.v 0))]) (.seq (.reg [nl .Ht,nk 10 (.mv (.v 0))]) (.seq (.seq (.reg [nl (.fa 4 (.s 1)),nk 43 (.ld none (.v 0)),nk 44 (.aW (.s 43)),nk 45 (.mv (.c (.i .i64 0)))]) (.blk 2 (g_ 3 45 44 46 2 3 Ci))) (.seq (.reg [nl (.fa 4 (.s 1)),nl (.ld none (.v 0)),nl (.aW (.v 0)),nl (.ld none (.s 7)),nl (.call (.c (.f 228 [])) [(.v 1),(.v 0)]),nk 2 (.mv (.v 0))]) .ret)))))))))))
theorem c130:dx Tryz.prog sl0 130=some ([true],aau,[(.t 2)]):=by kernel_rfl
def Ol:MC:=(.seq (.reg [nl (.mv (.s 85)),nk 15 (.mv (.v 0))]) (.seq (.reg [nl (.mv (.s 1)),nl (.fa 4 (.s 14)),nl (.ld none (.v 0)),nl (.mv (.s 15)),nl (.bJ 2 (.v 1) (.v 0)),nl (.fa 0 (.v 0)),nl (.ld none (.v 0)),nl (.call (.c (.f 99 [])) [(.v 6),(.v 0)]),nl (.mv (.v 0)),nl (.ext (.v 0) 0),nl (.ext (.v 1) 1),nk 16 (.mv (.v 1)),nk 17 (.mv (.v 0))]) (.seq (.seq (.reg [nl (.mv (.s 17)),nk 100 (.not (.v 0))]) (.cond (.s 100) (.seq (.reg [nl (.jk [(.i .i64 0),(.k 1),(.k 1),(.k 1),(.k 1),(.i .i64 0),(.k 1)] []),⟨none,(.st 7 (.s 4) (.v 0)),.n⟩,nk 5 (.mv (.c (.i .i64 1)))]) .ret) .skip)) (.reg [nl (.fa 4 (.s 14)),nl (.ld none (.v 0)),nl (.mv (.s 15)),nl (.mv (.s 16)),nl (.bJ 2 (.v 2) (.v 1)),nl (.fa 0 (.v 0)),⟨none,(.st 1 (.v 0) (.v 2)),.n⟩]))))
def Gl:MC:=(.seq (.reg [nl (.mv (.s 68)),nl (.bJ 1 (.s 66) (.s 68)),nl (.ld none (.v 0)),nk 12 (.mv (.v 2)),nk 13 (.mv (.v 0))]) (.seq (.reg [nl (.fa 4 (.s 2)),nl (.ld none (.v 0)),nl (.mv (.s 13)),nl (.bJ 16 (.v 1) (.v 0)),nl (.ld (some 16) (.v 0)),nk 14 (.al 112 [(.i .i64 0),(.i .i64 0),(.i .i64 0),(.i .i64 0),(.k 1),(.i .i64 0),(.i .i64 0),(.b false),(.b false),(.i .i64 0),(.i .i64 0),(.i .i64 0),(.i .i64 0),(.i .i64 0),(.i .i64 0),(.b false)]),⟨none,(.st 16 (.s 14) (.v 0)),.n⟩]) (.seq (.reg [nl (.fa 4 (.s 14)),nl (.ld none (.v 0)),nl (.call (.c (.f 71 [])) [(.v 0)]),nl (.fa 4 (.s 14)),⟨none,(.st 1 (.v 0) (.v 1)),.n⟩]) (.seq (.seq (.reg [nl (.fa 4 (.s 14)),nl (.ld none (.v 0)),nk 84 (.aW (.v 0)),nk 85 (.mv (.c (.i .i64 0)))]) (.blk 4 (g_ 3 85 84 86 4 5 Ol))) (.reg [nl (.fa 4 (.s 11)),nl (.ld none (.v 0)),nl (.mv (.s 12)),nl (.ld (some 16) (.s 14)),nl (.bJ 16 (.v 2) (.v 1)),⟨none,(.st 16 (.v 0) (.v 1)),.n⟩])))))
def Gm:MC:=(.seq (.reg [nl (.bJ 1 (.s 26) (.s 28)),nl (.ld none (.v 0)),nk 10 (.mv (.v 0))]) (.seq (.seq (.reg [nl (.mv (.s 10)),nl (.mv (.s 8)),nl (.bin .leq 3 (.v 1) (.v 0)),nl (.mv (.v 0)),ng 0 false (.mv (.s 10)),ng 1 false (.fa 4 (.s 2)),ng 2 false (.ld none (.v 0)),ng 3 false (.aW (.v 0)),ng 4 false (.bin .geq 3 (.v 3) (.v 0)),nk 41 (.pick (.v 5) (.c (.b true)) (.v 0))]) (.cond (.s 41) (.seq (.reg [nl (.jk [(.i .i64 0),(.k 1),(.k 1),(.k 1),(.k 1),(.i .i64 0),(.k 1)] []),⟨none,(.st 7 (.s 4) (.v 0)),.n⟩,nk 5 (.mv (.c (.i .i64 1)))]) .ret) .skip)) (.reg [nl (.mv (.s 10)),nk 8 (.mv (.v 0))])))
def aav:MC:=(.seq (.reg [nk 2 (.box 27 7 (.s 0)),nk 4 (.al 27 [(.i .i64 0),(.k 1),(.k 1),(.k 1),(.k 1),(.i .i64 0),(.k 1)]),nk 5 (.mv (.c (.i .i64 0)))]) (.seq (.seq (.reg [nl (.ld (some 7) (.s 2)),nl (.call (.c (.f 44 [])) [(.v 0)]),nl (.mv (.v 0)),nl (.ext (.v 0) 0),nl (.ext (.v 1) 1),nk 6 (.mv (.v 1)),nl (.mv (.v 0))]) (.seq (.reg [nl (.mv (.s 6)),nk 24 (.bin .neq 31 (.v 0) (.c (.i .i64 0)))]) (.cond (.s 24) (.seq (.reg [nl (.jk [(.i .i64 0),(.k 1),(.k 1),(.k 1),(.k 1),(.i .i64 0),(.k 1)] []),⟨none,(.st 7 (.s 4) (.v 0)),.n⟩,nk 5 (.mv (.c (.i .i64 1)))]) .ret) .skip))) (.seq (.reg [nk 8 (.mv (.c (.i .i64 (.negSucc 0))))]) (.seq (.seq (.reg [nk 26 (.mv (.s 1)),nk 27 (.aW (.s 26)),nk 28 (.mv (.c (.i .i64 0)))]) (.blk 0 (g_ 3 28 27 29 0 1 Gm))) (.seq (.reg [nl (.ld (some 7) (.s 2)),nk 11 (.al 27 [(.i .i64 0),(.k 1),(.k 1),(.k 1),(.k 1),(.i .i64 0),(.k 1)]),⟨none,(.st 7 (.s 11) (.v 0)),.n⟩]) (.seq (.reg [nl (.fa 1 (.s 2)),nl (.ld none (.v 0)),nl (.call (.c (.f 45 [])) [(.v 0)]),nl (.fa 1 (.s 11)),⟨none,(.st 1 (.v 0) (.v 1)),.n⟩]) (.seq (.reg [nl (.fa 2 (.s 2)),nl (.ld none (.v 0)),nl (.call (.c (.f 68 [])) [(.v 0)]),nl (.fa 2 (.s 11)),⟨none,(.st 1 (.v 0) (.v 1)),.n⟩]) (.seq (.reg [nl (.fa 3 (.s 2)),nl (.ld none (.v 0)),nl (.call (.c (.f 69 [])) [(.v 0)]),nl (.fa 3 (.s 11)),⟨none,(.st 1 (.v 0) (.v 1)),.n⟩]) (.seq (.reg [nl (.fa 6 (.s 2)),nl (.ld none (.v 0)),nl (.call (.c (.f 45 [])) [(.v 0)]),nl (.fa 6 (.s 11)),⟨none,(.st 1 (.v 0) (.v 1)),.n⟩]) (.seq (.reg [nl (.mv (.s 1)),nl (.aW (.v 0)),nl (.Bu 112 [(.i .i64 0),(.i .i64 0),(.i .i64 0),(.i .i64 0),(.k 1),(.i .i64 0),(.i .i64 0),(.b false),(.b false),(.i .i64 0),(.i .i64 0),(.i .i64 0),(.i .i64 0),(.i .i64 0),(.i .i64 0),(.b false)] (.v 0) (.v 0)),nl (.fa 4 (.s 11)),⟨none,(.st 1 (.v 0) (.v 1)),.n⟩]) (.seq (.seq (.reg [nk 66 (.mv (.s 1)),nk 67 (.aW (.s 66)),nk 68 (.mv (.c (.i .i64 0)))]) (.blk 2 (g_ 3 68 67 69 2 3 Gl))) (.seq (.reg [nl (.ld (some 7) (.s 11)),⟨none,(.st 7 (.s 4) (.v 0)),.n⟩,nk 5 (.mv (.c (.i .i64 0)))]) .ret))))))))))))
theorem c131:dx Tryz.prog sl0 131=some ([true,true],aav,[(.c 4 (some 7)),(.t 5)]):=by kernel_rfl
def Gn:MC:=(.seq (.reg [nl (.bJ 1 (.s 17) (.s 19)),nl (.ld none (.v 0)),nk 7 (.mv (.v 0))]) (.fV 2 [mq 0 [] (.fa 3 (.s 5)),mq 1 [0] (.ld none (.v 0)),mq 0 [] (.fa 3 (.s 3)),mq 1 [2] (.ld none (.v 0)),mq 0 [] (.mv (.s 7)),mq 0 [3,4] (.bJ 5 (.v 0) (.v 1)),mq 1 [5] (.ld (some 5) (.v 0)),mq 2 [6] (.rP 144 1 [(.i .i64 0),(.i .i64 0),(.i .i64 0),(.i .i64 0),(.b false)] [(0,(5,(.v 0)))]),mq 3 [1,7] (.app 144 5 (.v 0) (.v 1)),mq 0 [] (.fa 3 (.s 5)),mq 3 [8,9] (.st 1 (.v 1) (.v 0))] [] []))
def VP:MC:=(.seq (.reg [nk 3 (.box 43 4 (.s 1)),nk 4 (.al 43 [(.i .i64 0),(.k 1),(.k 1),(.k 1)])]) (.seq (.fV 2 [mq 0 [] (.fa 0 (.s 3)),mq 1 [0] (.ld none (.v 0)),mq 0 [] (.fa 1 (.s 3)),mq 1 [2] (.ld none (.v 0)),mq 3 [3] (.call (.c (.f 45 [])) [(.v 0)]),mq 0 [] (.fa 2 (.s 3)),mq 1 [5] (.ld none (.v 0)),mq 3 [6] (.call (.c (.f 229 [])) [(.v 0)]),mq 0 [1,4,7] (.jk [(.i .i64 0),(.k 1),(.k 1),(.k 1)] [(0,(1,(.v 0))),(1,(1,(.v 1))),(2,(1,(.v 2)))]),mq 2 [] (.al 43 [(.i .i64 0),(.k 1),(.k 1),(.k 1)]),mq 3 [8,9] (.st 4 (.v 1) (.v 0))] [(1,5),(1,8),(6,0)] [(9,5)]) (.seq (.seq (.reg [nk 17 (.mv (.s 0)),nk 18 (.aW (.s 17)),nk 19 (.mv (.c (.i .i64 0)))]) (.blk 0 (g_ 3 19 18 20 0 1 Gn))) (.seq (.reg [nl (.ld (some 4) (.s 5)),⟨none,(.st 4 (.s 4) (.v 0)),.n⟩]) .ret))))
theorem agm:dx Tryz.prog sl0 132=some ([true,true],VP,[(.c 4 (some 4))]):=by kernel_rfl
def Q_:MC:=(.seq (.reg [nk 4 (.mv (.c (.i .i64 0)))]) (.seq (.seq (.reg [nl (.mv (.s 0)),nl (.ER 1 400 (.s 1) (.v 0)),nl (.ld none (.v 0)),nl (.mv (.s 0)),nk 9 (.bin .neq 3 (.v 1) (.v 0))]) (.cond (.s 9) (.fV 0 [mq 0 [] (.mv (.s 0)),mq 1 [] (.ld none (.s 2)),mq 0 [] (.mv (.s 0)),mq 0 [2] (.ER 1 400 (.s 1) (.v 0)),mq 1 [3] (.ld none (.v 0)),mq 3 [1,4] (.call (.v 0) [(.v 1)]),mq 0 [0] (.ER 1 400 (.s 1) (.v 0)),mq 3 [5,6] (.st 1 (.v 1) (.v 0))] [] []) .skip)) (.seq (.reg [nl (.mv (.s 0)),nl (.ER 1 400 (.s 1) (.v 0)),nl (.ld none (.v 0)),nk 4 (.mv (.v 0))]) .ret)))
theorem agn:dx Tryz.prog sl0 223=some ([true,true,true],Q_,[(.t 4)]):=by kernel_rfl
def VQ:MC:=(.seq (.fV 0 [mq 1 [] (.ld none (.s 2)),mq 0 [] (.mv (.s 0)),mq 3 [0,1] (.call (.v 0) [(.v 1)]),mq 1 [] (.ld none (.s 2)),mq 0 [] (.mv (.s 1)),mq 3 [3,4] (.call (.v 0) [(.v 1)]),mq 0 [2,5] (.mn (.v 0) (.v 1)),mq 1 [] (.ld none (.s 2)),mq 0 [] (.mv (.s 0)),mq 3 [7,8] (.call (.v 0) [(.v 1)]),mq 1 [] (.ld none (.s 2)),mq 0 [] (.mv (.s 1)),mq 3 [10,11] (.call (.v 0) [(.v 1)]),mq 0 [9,12] (.mx (.v 0) (.v 1)),mq 0 [6] (.mv (.v 0)),mq 0 [13] (.mv (.v 0))] [(3,0),(7,0),(7,3),(10,0),(10,3),(10,6)] [(14,6),(15,7)]) (.reg [nl (.mv (.s 7)),nl (.mv (.s 6)),nl (.ER 1 400 (.s 3) (.v 1)),⟨none,(.st 1 (.v 0) (.v 1)),.n⟩]))
theorem agp:dx Tryz.prog sl0 224=some ([true,true,true,true],VQ,[]):=by kernel_rfl
def aaw:MC:=(.seq (.reg [nk 4 (.mv (.c (.b false)))]) (.seq (.reg [nl (.mv (.s 0)),nl (.mv (.s 1)),nl (.call (.c (.f 262 [])) [(.v 1),(.v 0)]),nl (.bin .geq 3 (.v 0) (.c (.i .i64 0))),nk 4 (.mv (.v 0))]) .ret))
theorem agq:dx Tryz.prog sl0 225=some ([true,true],aaw,[(.t 4)]):=by kernel_rfl
def aax:MC:=(.seq (.reg [nk 1 (.box 169 7 (.s 0)),nk 2 (.mv (.c (.b false)))]) (.seq (.reg [nl (.fa 0 (.s 1)),nl (.ld none (.v 0)),nl (.bin .neq 3 (.v 0) (.c (.i .i64 1))),nk 2 (.mv (.v 0))]) .ret))
theorem c226:dx Tryz.prog sl0 226=some ([true],aax,[(.t 2)]):=by kernel_rfl
def VR:MC:=(.seq (.reg [nk 1 (.box 112 16 (.s 0)),nk 2 (.mv (.c (.k 1)))]) (.seq (.seq (.reg [nl (.fa 9 (.s 1)),nl (.ld none (.v 0)),nk 5 (.bin .eql 3 (.v 0) (.c (.i .i64 (.negSucc 0))))]) (.cond (.s 5) (.seq (.reg [nl (.fa 2 (.s 1)),nl (.ld none (.v 0)),nl (.rP 3 1 [(.i .i64 0)] [(0,(1,(.v 0)))]),nk 2 (.mv (.v 0))]) .ret) .skip)) (.seq (.reg [nl (.fa 2 (.s 1)),nl (.ld none (.v 0)),nl (.fa 9 (.s 1)),nl (.ld none (.v 0)),nl (.fa 10 (.s 1)),nl (.ld none (.v 0)),nl (.rP 3 3 [(.i .i64 0),(.i .i64 0),(.i .i64 0)] [(0,(1,(.v 4))),(1,(1,(.v 2))),(2,(1,(.v 0)))]),nk 2 (.mv (.v 0))]) .ret)))
theorem c227:dx Tryz.prog sl0 227=some ([true],VR,[(.t 2)]):=by kernel_rfl
def Cj:MC:=(.seq (.reg [nl (.mv (.s 11)),nk 7 (.mv (.v 0))]) (.seq (.reg [nl (.mv (.s 1)),nl (.mv (.s 7)),nl (.call (.v 1) [(.v 0)]),nk 8 (.mv (.v 0))]) (.seq (.seq (.reg [nl (.mv (.s 8)),nl (.mv (.s 7)),nk 19 (.bin .eql 3 (.v 1) (.v 0))]) (.cond (.s 19) (.seq (.reg [nl (.mv (.s 6)),nl (.mv (.s 7)),nl (.mv (.s 5)),nl (.aW (.v 0)),⟨none,(.upd 3 (.v 3) (.v 2) (.v 0)),.n⟩]) (.reg [nl (.mv (.s 5)),nl (.rP 22 1 [(.k 1)] [(0,(1,(.c (.k 1))))]),nl (.app 22 1 (.v 1) (.v 0)),nk 5 (.mv (.v 0))])) .skip)) (.fV 2 [mq 0 [] (.mv (.s 5)),mq 0 [] (.mv (.s 6)),mq 0 [] (.mv (.s 8)),mq 1 [1,2] (.look 3 (some (.i .i64 0)) (.v 0) (.v 1) false),mq 0 [] (.mv (.s 5)),mq 0 [] (.mv (.s 6)),mq 0 [] (.mv (.s 8)),mq 1 [5,6] (.look 3 (some (.i .i64 0)) (.v 0) (.v 1) false),mq 0 [4,7] (.bJ 1 (.v 0) (.v 1)),mq 1 [8] (.ld none (.v 0)),mq 0 [] (.mv (.s 7)),mq 2 [10] (.rP 3 1 [(.i .i64 0)] [(0,(1,(.v 0)))]),mq 3 [9,11] (.app 3 1 (.v 0) (.v 1)),mq 0 [0,3] (.bJ 1 (.v 0) (.v 1)),mq 3 [12,13] (.st 1 (.v 1) (.v 0))] [(3,13)] []))))
def VT:MC:=(.seq (.reg [nk 4 (.mv (.c (.k 1)))]) (.seq (.reg [nk 5 (.mv (.c (.k 1)))]) (.seq (.reg [nl .Ht,nk 6 (.mv (.v 0))]) (.seq (.seq (.reg [nk 10 (.mv (.s 0)),nk 11 (.mv (.c (.i .i64 0)))]) (.blk 0 (g_ 3 11 10 12 0 1 Cj))) (.seq (.reg [nl (.mv (.s 5)),nk 4 (.mv (.v 0))]) .ret)))))
theorem c228:dx Tryz.prog sl0 228=some ([true,true],VT,[(.t 4)]):=by kernel_rfl
def Om:MC:=(.seq (.reg [nl (.mv (.s 8)),nk 5 (.mv (.v 0))]) (.seq (.reg [nl (.mv (.s 1)),nl (.mv (.s 0)),nl (.mv (.s 5)),nl (.bJ 7 (.v 1) (.v 0)),nl (.ld (some 7) (.v 0)),nk 16 (.call (.v 4) [(.v 0)])]) (.cond (.s 16) (.seq (.reg [nl (.mv (.s 5)),nk 4 (.mv (.v 0))]) .ret) .skip)))
def aay:MC:=(.seq (.reg [nk 4 (.mv (.c (.i .i64 0)))]) (.seq (.seq (.reg [nl (.mv (.s 0)),nk 7 (.aW (.v 0)),nk 8 (.mv (.c (.i .i64 0)))]) (.blk 0 (g_ 3 8 7 9 0 1 Om))) (.seq (.reg [nk 4 (.mv (.c (.i .i64 (.negSucc 0))))]) .ret)))
theorem agr:dx Tryz.prog sl0 262=some ([true,true],aay,[(.t 4)]):=by kernel_rfl
end
end
section
noncomputable section
@[go_sem] theorem ai9 {k j:IntKind} {a b:Int}:Yc (some (.i k a)) (some (.i j b))=some (.i k (if a<=b then a else b)):=by
 show some (AV.i k (bc (kM a b) a b))=_;rw[eX];by_cases h:a<=b<;>simp[h,bc]
@[go_sem] theorem ai_ {k j:IntKind} {a b:Int}:Yb (some (.i k a)) (some (.i j b))=some (.i k (if b<=a then a else b)):=by
 show some (AV.i k (bc (kM b a) a b))=_;rw[eX];by_cases h:b<=a<;>simp[h,bc]
section
variable {h h':AH} {n n':Nat} {v:CS} {C:aA} {tv:TS} {s:aI} {party:Int} {Q:AV->AH->Nat->Prop}
theorem Oo(K:Nat)(a:dB)(hQ:∀h' n',Up h n h' n'->Q (.b (!decide (a.kind=1))) h' n'):CW (EF (K+1)) 226 [.agg a.av] h n Q:=by
 refine aD c226 rfl ?_;repeat' (first|(simp (disch:=omega) only[go_sem,aax,dB.av])|(refine aS ?_ ?_<;>(intro hb hd;rw[hb];clear hb))|(with_reducible refine aj ?_))
 exact hQ _ _ aH
theorem Ra(K:Nat){x:AV}{l:List dB}(hx:SL h n 7 x dB.av l)(hl:l.length<=1000000)(hQ:∀(r:Int) h' n',(0<=r↔∃a∈l,a.kind≠1)->Up h n h' n'->Q (.i .i64 r) h' n'):CW (EF (K+2)) 262 [x,.f 226 []] h n Q:=by
 refine aD agr rfl ?_;repeat' (first|(simp (disch:=omega) only[go_sem,aay,hx.len])|(refine aS ?_ ?_<;>(intro hb hd;rw[hb];clear hb))|(with_reducible refine aj ?_))
 refine gu l.length (λk=>∀(j:Nat)(a:dB),j<k->l[j]?=some a->a.kind=1) h n (λ_=>[(0,x),(1,.f 226 [])]) (by omega) (by omega) (by omega) (by omega) (λk=>⟨rfl,rfl⟩) rfl rfl (by(repeat' (first|exact aP|refine aN rfl ?_))) (Up.refl _ _) (λj a hj=>absurd hj (by omega)) ?_ ?_
 .intro k h3 n3 hk hno u
  obtain⟨b1,o1,a,i1,ha,hb1,rd⟩:=(hx.up u).fQ (k:=(k:Nat)) (by omega) (by omega) (by omega);rw[show((k:Nat):Int).toNat=k by omega]at ha;simp (disch:=omega) only[go_sem,Om,aK i1,rd.all];rw[aU];refine Oo K a λh4 n4 u4=>?_;by_cases hd:a.kind=1
  .rw[decide_eq_true hd]
   simp (disch:=omega) only[go_sem];refine iw rfl rfl (λj a' hj ha'=>?_) aH (by(repeat' (first|exact aP|refine aN rfl ?_)));by_cases e:j=k
   .subst e;rw[ha]at ha';cases ha';exact hd
   .exact hno j a' (by omega) ha'
  .rw[decide_eq_false hd]
   simp (disch:=omega) only[go_sem];exact hQ _ _ _ ⟨λ_=>⟨a,List.mem_of_getElem? ha,hd⟩,λ_=>Int.natCast_nonneg _⟩ aH
 .intro h3 n3 hno u
  simp (disch:=omega) only[go_sem];refine hQ _ _ _ ⟨λe=>by omega,λ⟨a,ha,hk⟩=>?_⟩ u;obtain⟨j,hj⟩:=List.getElem?_of_mem ha;exact absurd (hno j a (List.getElem?_eq_some_iff.1 hj).1 hj) hk
theorem Rb(K:Nat){x:AV}{l:List dB}(hx:SL h n 7 x dB.av l)(hl:l.length<=1000000)(hQ:∀b h' n',(b=true↔∃a∈l,a.kind≠1)->Up h n h' n'->Q (.b b) h' n'):CW (EF (K+3)) 225 [x,.f 226 []] h n Q:=by
 refine aD agq rfl ?_;simp (disch:=omega) only[go_sem,aaw];rw[aU];refine Ra K hx hl λr h2 n2 hr u=>?_;simp (disch:=omega) only[go_sem];exact hQ _ _ _ (by rw[decide_eq_true_iff];exact hr) u
theorem Gp(K:Nat)(k:aF)(t:AV)(hQ:∀v' h' n',Up h n h' n'->SL h' n' 1 v' lF k.nums->(∀x,blk v' x->n<=x)->Q v' h' n'):CW (EF (K+1)) 227 [.agg (k.av t)] h n Q:=by
 refine aD c227 rfl ?_;by_cases hp:k.pause= -1
 .have hd:decide (k.pause= -1)=true:=decide_eq_true hp
  repeat' (first|(simp (disch:=omega) only[go_sem,VR,aF.av,hd])|(refine aS ?_ ?_<;>(intro hb hd;rw[hb];clear hb))|(with_reducible refine aj ?_))
  refine hQ _ _ _ aH (SL.of (λ_=>rfl) (by omega) aG ?_ ?_ λ_ e=>by cases e;omega) (λx hx=>by rw[eB]at hx;omega)
  .unfold aF.nums;rw[if_pos hp];rfl
  .unfold aF.nums;rw[if_pos hp];rfl
 .have hd:decide (k.pause= -1)=false:=decide_eq_false hp
  repeat' (first|(simp (disch:=omega) only[go_sem,VR,aF.av,hd])|(refine aS ?_ ?_<;>(intro hb hd;rw[hb];clear hb))|(with_reducible refine aj ?_))
  refine hQ _ _ _ aH (SL.of (λ_=>rfl) (by omega) aG ?_ ?_ λ_ e=>by cases e;omega) (λx hx=>by rw[eB]at hx;omega)
  .unfold aF.nums;rw[if_neg hp];rfl
  .unfold aF.nums;rw[if_neg hp];rfl
theorem JX(K:Nat)(hC:aZ h n v C)(ho:C.off.length<=1000000)(hS:bZ h n tv s)(so:aM C s)(h0:0<=party)(h1:party<C.aC)(hQ:∀h' n',Up h n h' n'->Q (.b (anyFailed C s party)) h' n'):CW (EF (K+8)) 19 [.agg (v.av C),.agg (tv.av s),.i .i64 party] h n Q:=by
 have ok:=aA.ok so.con;have:=so.lm;have:=ok.dN;refine aD c19 rfl ?_;have d0:decide (party<0)=false:=decide_eq_false (by omega);have d1:decide (C.aC<=party)=false:=decide_eq_false (by omega);simp (disch:=omega) only[go_sem,m19,CS.av,TS.av,d0,d1];rw[aU];refine gK K (hC.up aH) ho (hS.up aH) λhx nx ux=>?_;have e1:=ux.le;have gx:hx.get n=some (.row 27 (v.av C)):=by rw[ux.old _ (by omega)];simp (disch:=omega) only[go_sem]
 have gy:hx.get (n+1)=some (.row 43 (tv.av s)):=by rw[ux.old _ (by omega)];simp (disch:=omega) only[go_sem]
 have u0:Up h n hx nx:=by exact aH
 clear ux;rw[(dS C s).2 so];simp (disch:=omega) only[go_sem,gy,TS.av,hS.marks.len];refine cK s.marks.length (λk h3 n3 G=>(List.range k).any (iP C s party)=false/\Up h n h3 n3/\n+2<=n3/\h3.get n=some (.row 27 (v.av C))/\G=[(2,.i .i64 party),(3,.p n 0),(24,tv.m)]) (by omega) (by omega) (by omega) (by omega) (λk h8 n8 G ⟨_,_,_,_,e⟩=>by subst e;exact⟨rfl,rfl⟩) ⟨rfl,rfl,_,⟨rfl,u0,e1,gx,rfl⟩,by(repeat' (first|exact aP|refine aN rfl ?_))⟩ ?_ ?_
 .rintro k h3 n3 G hk ⟨hno,u3,l3,r3,rfl⟩
  obtain⟨b1,o1,a,i1,ha,hb1,rd⟩:=(hS.marks.up u3).fQ (k:=(k:Nat)) (by omega) (by omega) (by omega);rw[show((k:Nat):Int).toNat=k by omega]at ha;repeat' (first|(simp (disch:=omega) only[go_sem,Tg,aK i1,rd.el,rd.hd,rd.all,r3,CS.av])|(refine aS ?_ ?_<;>(intro hb hd;rw[hb];clear hb))|(with_reducible refine aj ?_))
  refine ni (hC.up u3) (by omega) (by omega) λb2 o2 kc t hkc hb2 _ fP=>?_;rw[show((k:Nat):Int).toNat=k by omega]at hkc;have hfa:iP C s party k=iq kc a party:=by unfold iP;rw[ha,hkc]
  have Wz:iP C s party k=false->(List.range (k+1)).any (iP C s party)=false:=λe=>by
   rw[List.range_succ,List.any_append,hno];simp[e]
  have hit:iP C s party k=true->anyFailed C s party=true:=λe=>by
   rw[jv,List.any_eq_true];exact⟨k,List.mem_range.2 hk,e⟩
  repeat' (first|(simp (disch:=omega) only[go_sem,fP.el,fP.hd])|(refine aS ?_ ?_<;>(intro hb hd;rw[hb];clear hb))|(with_reducible refine aj ?_))
  .have e:=hit (by rw[hfa];unfold iq;simp[*])
   rw[e]at hQ;exact hQ _ _ aH
  all_goals exact⟨rfl,rfl,_,⟨Wz (by rw[hfa];unfold iq;simp[*]),by exact aH,by omega,by simp (disch:=omega) only[go_sem,r3],rfl⟩,by(repeat' (first|exact aP|refine aN rfl ?_))⟩
 .rintro h3 n3 G ⟨hno,u3,_,_,rfl⟩
  repeat' (first|(simp (disch:=omega) only[go_sem])|(refine aS ?_ ?_<;>(intro hb hd;rw[hb];clear hb))|(with_reducible refine aj ?_))
  rw[jv,hno]at hQ;exact hQ _ _ u3
end
end
end
section
noncomputable section
structure UF(h:AH)(n ab rb:Nat)(A:List Nat)(r:Nat->Nat):Prop where
 row:h.get ab=some (.row 347 (A.flatMap cn))
 fn:h.get rb=some (.row 348 [.f 223 [.p ab 0,.p rb 0]])
 len:A.length=400
 roots:jf (λi=>A.getD i 0) r
 KJ:ab<n
 JQ:rb<n
 ne:rb≠ab
section
variable {h h':AH} {n n' ab rb:Nat} {A:List Nat} {r:Nat->Nat} {Q:AV->AH->Nat->Prop}
theorem UF.up(u:UF h n ab rb A r)(x:Up h n h' n'):UF h' n' ab rb A r:=⟨(x.old _ u.KJ).trans u.row,(x.old _ u.JQ).trans u.fn,u.len,u.roots,Nat.lt_of_lt_of_le u.KJ x.le,Nat.lt_of_lt_of_le u.JQ x.le,u.ne⟩
theorem JY(A:List Nat){i v:Nat}(hi:i<A.length):(λj=>(A.set i v).getD j 0)=Fw (λj=>A.getD j 0) i v:=by
 funext j;unfold Fw;rw[List.getD_eq_getElem?_getD,List.getElem?_set];by_cases e:j=i
 .subst e;rw[if_pos rfl,if_pos hi,if_pos rfl];rfl
 .rw[if_neg (Ne.symm e),if_neg e];simp[List.getD_eq_getElem?_getD]
theorem UF.set(u:UF h n ab rb A r){i v:Nat}{r':Nat->Nat}(hi:i<400)(hr:jf (Fw (λj=>A.getD j 0) i v) r'):UF (h.set ab (.row 347 ((A.set i v).flatMap cn))) n ab rb (A.set i v) r':=
 ⟨aG,(ay u.ne).trans u.fn,by rw[List.length_set];exact u.len,by rw[JY A (by rw[u.len];exact hi)];exact hr,u.KJ,u.JQ,u.ne⟩
theorem UF.at_(u:UF h n ab rb A r){i:Nat}(hi:i<400):A[i]?=some (A.getD i 0):=by
 rw[List.getD_eq_getElem?_getD,List.getElem?_eq_getElem (by rw[u.len];exact hi)];rfl
theorem nv1{A:List Nat}{i x:Nat}(h:A[i]?=some x):nv (A.flatMap cn) (0+i*1)=some (.i .i64 (x:Nat)):=by
 have e:=nG (t:=347) (c:=cn) (λ_=>rfl) h rfl;rw[Yw,<-Nat.zero_add (i*1)]at e;exact e
theorem VU{A:List Nat}{i x:Nat}(h:i<A.length):st1 (0+i*1) (.i .i64 (x:Nat)) (A.flatMap cn)=some ((A.set i x).flatMap cn):=by
 rw[Nat.zero_add];exact pK (c:=cn) (λ_=>rfl) h rfl
theorem uL:∀(i K:Nat){h:AH}{n:Nat}{A:List Nat}{Q:AV->AH->Nat->Prop},UF h n ab rb A r->i<400->(∀A' h' n',UF h' n' ab rb A' r->n<=n'->(∀x,x<n->x≠ab->h'.get x=h.get x)->Q (.i .i64 (r i:Nat)) h' n')->CW (EF (K+i+1)) 223 [.i .i64 (i:Nat),.p ab 0,.p rb 0] h n Q:=by
 intro i;induction i using Nat.strongRecOn with
 |_ i ih=>
  intro K h n A Q u hi hQ;have rd:=nv1 (u.at_ hi);have row:=u.row;have fn:=u.fn;have hle:A.getD i 0<=i:=u.roots.le i;refine aD agn rfl ?_;by_cases he:A.getD i 0=i
  .have hr:r i=i:=u.roots.fix i he
   rw[hr]at hQ;rw[he]at rd;simp (disch:=omega) only[go_sem,Q_,sF,Int.toNat_natCast,row,rd];exact hQ A _ _ u (Nat.le_refl _) λ_ _ _=>rfl
  .have hd:decide (((A.getD i 0:Nat):Int)=(i:Int))=false:=decide_eq_false (by omega)
   have hst:r (A.getD i 0)=r i:=u.roots.step i;repeat' (first|(simp (disch:=omega) only[go_sem,ub.old,Q_,sF,Int.toNat_natCast,row,rd,hd,fn])|(simp (disch:=omega) only[go_sem,Q_,sF,Int.toNat_natCast,row,rd,hd,fn])|(refine aS ?_ ?_<;>(intro hb hd;rw[hb];clear hb))|(with_reducible refine aj ?_))
   rw[vD];show CW (EF (K+i)) 223 [.i .i64 (A.getD i 0:Nat),.p ab 0,.p rb 0] _ _ _;rw[show K+i=(K+(i - (A.getD i 0+1)))+A.getD i 0+1 by omega];refine ih _ (by omega) _ u (by omega) λA' h2 n2 u2 l2 x2=>?_;rw[hst];have st:=VU (A:=A') (i:=i) (x:=r i) (by rw[u2.len];exact hi);have vQ:=u2.row;have u3:=u2.set (i:=i) (v:=r i) hi (u2.roots.YI i);have hA3:(A'.set i (r i))[i]?=some (r i):=by rw[List.getElem?_set,if_pos rfl,if_pos (by rw[u2.len];exact hi)]
   have sH:=nv1 hA3;simp (disch:=omega) only[go_sem,sF,Int.toNat_natCast,vQ,st,Option.map_some];simp (disch:=omega) only[go_sem,sF,Int.toNat_natCast,sH];exact hQ _ _ _ u3 l2 λx hx hne=>by rw[ay hne];exact x2 x hx hne
theorem Ck(K:Nat){i j:Nat}(u:UF h n ab rb A r)(hi:i<400)(hj:j<400)(hQ:∀A' r' h' n',UF h' n' ab rb A' r'->Sr r r'->r' i=r' j->n<=n'->(∀x,x<n->x≠ab->h'.get x=h.get x)->Q (.bS []) h' n'):CW (EF (K+402)) 224 [.i .i64 (i:Nat),.i .i64 (j:Nat),.p rb 0,.p ab 0] h n Q:=by
 have fn:=u.fn;refine aD agp rfl ?_;repeat' (first|(simp (disch:=omega) only[go_sem,ub.old,VQ,fn])|(simp (disch:=omega) only[go_sem,VQ,fn])|(refine aS ?_ ?_<;>(intro hb hd;rw[hb];clear hb))|(with_reducible refine aj ?_))
 rw[vD];show CW (EF (K+401)) 223 [.i .i64 (i:Nat),.p ab 0,.p rb 0] _ _ _;rw[show K+401=(K+(400 - i))+i+1 by omega];refine uL i _ u hi λA1 h1 n1 u1 l1 x1=>?_;rw[show(K+(400 - i))+i+1=K+401 by omega];have fn1:=u1.fn;simp (disch:=omega) only[go_sem,fn1];rw[vD];show CW (EF (K+401)) 223 [.i .i64 (j:Nat),.p ab 0,.p rb 0] _ _ _;rw[show K+401=(K+(400 - j))+j+1 by omega];refine uL j _ u1 hj λA2 h2 n2 u2 l2 x2=>?_;rw[show(K+(400 - j))+j+1=K+401 by omega];have fn2:=u2.fn;simp (disch:=omega) only[go_sem,fn2];rw[vD];show CW (EF (K+401)) 223 [.i .i64 (i:Nat),.p ab 0,.p rb 0] _ _ _;rw[show K+401=(K+(400 - i))+i+1 by omega];refine uL i _ u2 hi λA3 h3 n3 u3 l3 x3=>?_;rw[show(K+(400 - i))+i+1=K+401 by omega];have fn3:=u3.fn;simp (disch:=omega) only[go_sem,fn3];rw[vD];show CW (EF (K+401)) 223 [.i .i64 (j:Nat),.p ab 0,.p rb 0] _ _ _;rw[show K+401=(K+(400 - j))+j+1 by omega];refine uL j _ u3 hj λA4 h4 n4 u4 l4 x4=>?_;rw[show(K+(400 - j))+j+1=K+401 by omega];have fn4:=u4.fn;simp (disch:=omega) only[go_sem,fn4];refine⟨⟨by rw[fn];rfl,by rw[fn];rfl,by rw[fn1];rfl,by rw[fn];rfl,by rw[fn1];rfl,by rw[fn2];rfl⟩,?_⟩;have YJ:=(u.roots.root i).2;have hrj:=(u.roots.root j).2;obtain⟨lo,hh,e1,e2,e3,e4⟩:∃lo hh:Nat,(if((r i:Nat):Int)<=((r j:Nat):Int)then((r i:Nat):Int)else((r j:Nat):Int))=(lo:Int)/\(if((r j:Nat):Int)<=((r i:Nat):Int)then((r i:Nat):Int)else((r j:Nat):Int))=(hh:Int)/\lo<=hh/\((lo=r i/\hh=r j)\/(lo=r j/\hh=r i)):=by
  by_cases h1:r i<=r j
  .refine⟨r i,r j,if_pos (by omega),?_,h1,.inl ⟨rfl,rfl⟩⟩
   by_cases h2:r j<=r i
   .rw[if_pos (by omega)];omega
   .rw[if_neg (by omega)]
  .exact⟨r j,r i,if_neg (by omega),if_pos (by omega),by omega,.inr ⟨rfl,rfl⟩⟩
 rw[e1,e2];have hh4:hh<400:=by omega
 have rlo:r lo=lo:=by rcases e4 with⟨e,_⟩|⟨e,_⟩<;>rw[e,u.roots.idem]
 have rhh:r hh=hh:=by rcases e4 with⟨_,e⟩|⟨_,e⟩<;>rw[e,u.roots.idem]
 have agt:=u4.row;have st:=VU (A:=A4) (i:=hh) (x:=lo) (by rw[u4.len];exact hh4);have u5:=u4.set hh4 (u4.roots.join rlo rhh e3);simp (disch:=omega) only[go_sem,sF,Int.toNat_natCast,agt,st,Option.map_some];refine hQ _ _ _ _ u5 (Sr.join r lo hh) ?_ (by omega) λx hx hne=>by rw[ay hne,x4 x (by omega) hne,x3 x (by omega) hne,x2 x (by omega) hne,x1 x hx hne]
 rcases e4 with⟨e,e'⟩|⟨e,e'⟩
 .rw[if_pos e'.symm];split
  .rfl
  .exact e.symm
 .rw[if_pos (c:=r i=hh) e'.symm];split
  .rfl
  .exact e
end
end
end
section
noncomputable section
theorem Gr.aaz{h:AH}{n e:Nat}{v:AV}{l:List AV}(g:Gr h n e 1 v one l){p:Nat}(hp:p<l.length)(y:AV):∃b cap cells cells',v= .sl b 0 0 l.length cap/\b<n/\h.get b=some (.row e cells)/\st1 (p*1) y cells=some cells'/\nv cells (p*1)=l[p]?/\Gr (h.set b (.row e cells')) n e 1 v one (l.set p y):=by
 rcases g.2 with⟨_,rfl⟩|⟨b,cap,cells,rfl,h1,h2,h3,h4,h5,h6⟩
 .cases hp
 .have hf:∀l:List AV,l.flatMap one=l:=λl=>by induction l with|nil=>rfl|cons a l ih=>rw[List.flatMap_cons,ih];rfl
  rw[hf,Nat.mul_one]at h3;rw[Nat.mul_one]at h4;have hc:cells=l++cells.drop l.length:=by conv=>lhs;rw[<-List.take_append_drop l.length cells,h3]
  refine⟨b,cap,cells,cells.set p y,rfl,h1,h2,?_,?_,g.1,.inr ⟨b,cap,cells.set p y,by rw[List.length_set],h1,aG,?_,by simp;omega,λe=>by simp;have:=h5 e;omega,λk e=>by simp;have:=h6 k e;omega⟩⟩
  .rw[rT,Nat.mul_one]
   unfold nV;rw[if_pos (by simp;omega),List.set_eq_take_append_cons_drop,if_pos (by omega)];rfl
  .rw[qU,Nat.mul_one,<-h3,List.getElem?_take,if_pos hp]
  .rw[hf,List.length_set,Nat.mul_one,List.take_set,h3]
structure PG(h:AH)(n n0 mb:Nat)(pv:AV)(bs:List AV)(B:List (List Nat)):Prop where
 gp:Gr h n 22 1 pv one bs
 lb:bs.length=B.length
 gb:∀(j:Nat)(y:AV)(l:List Nat),bs[j]?=some y->B[j]?=some l->Gr h n 3 1 y cn l
 d1:∀(j:Nat)(y:AV),bs[j]?=some y->∀x,blk y x->¬blk pv x
 d2:∀(i j:Nat)(y z:AV),bs[i]?=some y->bs[j]?=some z->i≠j->∀x,blk y x->¬blk z x
 np:∀x,blk pv x->n0<=x/\x≠mb
 nb:∀(j:Nat)(y:AV),bs[j]?=some y->∀x,blk y x->n0<=x/\x≠mb
section
variable {h h':AH} {n n' n0 mb:Nat} {pv:AV} {bs:List AV} {B:List (List Nat)}
theorem PG.on(a:PG h n n0 mb pv bs B)(hn:n<=n')(e:∀x,x<n->n0<=x->x≠mb->h'.get x=h.get x):PG h' n' n0 mb pv bs B:=
 ⟨a.gp.on hn λx hx hb=>e x hx (a.np x hb).1 (a.np x hb).2,a.lb,λj y l h1 h2=>(a.gb j y l h1 h2).on hn λx hx hb=>e x hx (a.nb j y h1 x hb).1 (a.nb j y h1 x hb).2,a.d1,a.d2,a.np,a.nb⟩
theorem PG.new(a:PG h n n0 mb pv bs B){pv':AV}(g:Gr h' n' 22 1 pv' one (bs++[.k 1]))(hn:n<=n')(hm:mb<n)(h0:n0<=n)(s:∀x,x<n->¬blk pv x->h'.get x=h.get x)(b:∀x,blk pv' x->blk pv x\/n<=x):PG h' n' n0 mb pv' (bs++[.k 1]) (B++[[]]):=by
 have get:∀(j:Nat)(y:AV),(bs++[AV.k 1])[j]?=some y->(j<bs.length/\bs[j]?=some y)\/(j=bs.length/\y= .k 1):=λj y e=>by
  by_cases hj:j<bs.length
  .rw[List.getElem?_append_left hj]at e;exact .inl ⟨hj,e⟩
  .have:=(List.getElem?_eq_some_iff.1 e).1
   simp at this;obtain rfl:j=bs.length:=by omega
   rw[List.getElem?_append_right (Nat.le_refl _),Nat.sub_self]at e;cases e
   exact .inr ⟨rfl,rfl⟩
 refine⟨g,by simp[a.lb],λj y l h1 h2=>?_,λj y h1 x hx=>?_,λi j y z h1 h2 hij x hx=>?_,λx hx=>?_,λj y h1 x hx=>?_⟩
 .rcases get j y h1 with⟨hj,e⟩|⟨rfl,rfl⟩
  .rw[List.getElem?_append_left (by rw[<-a.lb];exact hj)]at h2
   exact(a.gb j y l e h2).on hn λx hx hb=>s x hx (a.d1 j y e x hb)
  .rw[a.lb,List.getElem?_append_right (Nat.le_refl _),Nat.sub_self]at h2
   cases h2
   exact Gr.nil λ_=>rfl
 .rcases get j y h1 with⟨hj,e⟩|⟨rfl,rfl⟩
  .intro hp
   rcases b x hp with hp|hp
   .exact a.d1 j y e x hx hp
   .obtain⟨l,hl⟩:∃l,B[j]?=some l:=⟨B[j]'(by rw[<-a.lb];exact hj),List.getElem?_eq_getElem _⟩
    have:=(a.gb j y l e hl).fH hx;omega
  .exact absurd hx fE
 .rcases get i y h1 with⟨hi,e1⟩|⟨rfl,rfl⟩
  .rcases get j z h2 with⟨hj,e2⟩|⟨rfl,rfl⟩
   .exact a.d2 i j y z e1 e2 hij x hx
   .exact fE
  .exact absurd hx fE
 .rcases b x hx with hp|hp
  .exact a.np x hp
  .omega
 .rcases get j y h1 with⟨hj,e⟩|⟨rfl,rfl⟩
  .exact a.nb j y e x hx
  .exact absurd hx fE
theorem PG.put(a:PG h n n0 mb pv bs B){p i:Nat}{y y':AV}{l:List Nat}(hy:bs[p]?=some y)(hl:B[p]?=some l)(g:Gr h' n' 3 1 y' cn (l++[i]))(hn:n<=n')(hm:mb<n)(h0:n0<=n)(s:∀x,x<n->¬blk y x->h'.get x=h.get x)(b:∀x,blk y' x->blk y x\/n<=x):
 ∃pb cap cells cells',pv= .sl pb 0 0 bs.length cap/\pb<n/\h'.get pb=some (.row 22 cells)/\st1 (p*1) y' cells=some cells'/\PG (h'.set pb (.row 22 cells')) n' n0 mb pv (bs.set p y') (B.set p (l++[i])):=by
 have hp:=(List.getElem?_eq_some_iff.1 hy).1;have gp':Gr h' n' 22 1 pv one bs:=a.gp.on hn λx hx hb=>s x hx λe=>a.d1 p y hy x e hb;obtain⟨pb,cap,cells,cells',q1,q2,q3,q4,q5,q6⟩:=gp'.aaz hp y';have hpb:blk pv pb:=by rw[q1];exact eB.2 rfl
 have hpn:=a.gp.fH hpb;have get:∀(k:Nat)(z:AV),(bs.set p y')[k]?=some z->(k=p/\z=y')\/(k≠p/\bs[k]?=some z):=λk z e=>by
  rw[List.getElem?_set]at e;by_cases h:p=k
  .rw[if_pos h,if_pos hp]at e;exact .inl ⟨h.symm,by cases e;rfl⟩
  .rw[if_neg h]at e;exact .inr ⟨λk=>h k.symm,e⟩
 have lt:∀(k:Nat)(z:AV),bs[k]?=some z->∀x,blk z x->x<n:=λk z e x hx=>by
  obtain⟨l,hl⟩:∃l,B[k]?=some l:=⟨B[k]'(by rw[<-a.lb];exact(List.getElem?_eq_some_iff.1 e).1),List.getElem?_eq_getElem _⟩;exact(a.gb k z l e hl).fH hx
 have ny:∀x,blk y' x->¬blk pv x:=λx hx hb=>by
  rcases b x hx with e|e
  .exact a.d1 p y hy x e hb
  .have:=a.gp.fH hb;omega
 refine⟨pb,cap,cells,cells',q1,hpn,q3,q4,q6,by simp[a.lb],λj z l' h1 h2=>?_,λj z h1 x hx=>?_,λi j z w h1 h2 hij x hx=>?_,a.np,λj z h1 x hx=>?_⟩
 .rcases get j z h1 with⟨rfl,rfl⟩|⟨hj,hz⟩
  .rw[List.getElem?_set,if_pos rfl,if_pos (by rw[<-a.lb];exact hp)]at h2
   cases h2
   exact g.on (Nat.le_refl _) λx _ hx=>ay λe=>ny x hx (by rw[e];exact hpb)
  .rw[List.getElem?_set,if_neg (Ne.symm hj)]at h2
   exact(a.gb j z l' hz h2).on hn λx hx hb=>by
    rw[ay (λe=>a.d1 j z hz x hb (by rw[e];exact hpb)),s x hx λe=>a.d2 p j y z hy hz (Ne.symm hj) x e hb]
 .rcases get j z h1 with⟨rfl,rfl⟩|⟨hj,hz⟩
  .exact ny x hx
  .exact a.d1 j z hz x hx
 .have ne:∀(k:Nat)(z:AV),k≠p->bs[k]?=some z->∀x,blk y' x->¬blk z x:=λk z hk hz x hx kx=>by
   rcases b x hx with e|e
   .exact a.d2 p k y z hy hz (Ne.symm hk) x e kx
   .have:=lt k z hz x kx;omega
  rcases get i z h1 with⟨rfl,rfl⟩|⟨hi,hz⟩
  .rcases get j w h2 with⟨rfl,rfl⟩|⟨hj,hw⟩
   .exact absurd rfl hij
   .exact ne j w hj hw x hx
  .rcases get j w h2 with⟨rfl,rfl⟩|⟨hj,hw⟩
   .exactλe=>ne i z hi hz x e hx
   .exact a.d2 i j z w hz hw hij x hx
 .rcases get j z h1 with⟨rfl,rfl⟩|⟨hj,hz⟩
  .rcases b x hx with e|e
   .exact a.nb j y hy x e
   .omega
  .exact a.nb j z hz x hx
end
end
end
section
noncomputable section
theorem Gq:MU Tryz.prog 3 (λi:Int=>AV.i .i64 i):=by
 refine⟨λa b=>⟨fJ a b,by kernel_rfl,by rw[cO];simp⟩,λa=>by kernel_rfl,λa=>rfl⟩
def DZ(h:AH)(n m0:Nat)(pv:AV)(P:List (List Nat)):Prop:=∃bs:List AV,SL h n 1 pv one bs/\bs.length=P.length/\(∀(j:Nat)(y:AV)(l:List Nat),bs[j]?=some y->P[j]?=some l->SL h n 1 y cn l)/\(∀x,blk pv x->m0<=x)/\∀(j:Nat)(y:AV),bs[j]?=some y->∀x,blk y x->m0<=x
theorem DZ.lo{h:AH}{n m0 m1:Nat}{pv:AV}{P:List (List Nat)}(a:DZ h n m0 pv P)(e:m1<=m0):DZ h n m1 pv P:=
 let⟨bs,h1,h2,h3,h4,h5⟩:=a
 ⟨bs,h1,h2,h3,λx hx=>Nat.le_trans e (h4 x hx),λj y hj x hx=>Nat.le_trans e (h5 j y hj x hx)⟩
section
variable {h h':AH} {n n' ab rb:Nat} {A:List Nat} {r:Nat->Nat} {Q:AV->AH->Nat->Prop}
def GaI(h:AH)(n ab rb:Nat)(r:Nat->Nat)(k:Nat)(hk:AH)(nk:Nat)(G:Fm):Prop:=∃(A:List Nat)(pv:AV)(bs:List AV)(B:List (List Nat))(m:List (Int×AV))(pl:Nat->Option Nat),
 UF hk nk ab rb A r/\PG hk nk n n pv bs B/\uw hk n (λi:Int=>AV.i .i64 i) m/\(∀i p:Nat,pl i=some p->nu m (i:Int)=some (.i .i64 (p:Nat)))/\vM r k pl B/\B.length<=k/\n<nk/\(∀x,x<n->x≠ab->hk.get x=h.get x)/\G=[(1,.f 223 [.p ab 0,.p rb 0]),(5,pv),(6,.m n)]
theorem UF.on(u:UF h n ab rb A r)(hn:n<=n')(e1:h'.get ab=h.get ab)(e2:h'.get rb=h.get rb):UF h' n' ab rb A r:=⟨e1.trans u.row,e2.trans u.fn,u.len,u.roots,Nat.lt_of_lt_of_le u.KJ hn,Nat.lt_of_lt_of_le u.JQ hn,u.ne⟩
def mGd:MC:=match Cj with
 | .seq _ (.seq _ (.seq _ d))=>d
 |x=>x
theorem wD{K k N:Nat}{h4:AH}{n4:Nat}{pv:AV}{bs:List AV}{B:List (List Nat)}{m:List (Int×AV)}{pl:Nat->Option Nat}{p:Nat}{l:List Nat}{bb:Bool}{S:List It}{Qx:PQ}(hk:k<N)(hN:N<=400)(hab:ab<n)(hrb:rb<n)(u:UF h4 n4 ab rb A r)(pg:PG h4 n4 n n pv bs B)(mp:uw h4 n (λi:Int=>AV.i .i64 i) m)
 (hpl:∀i p:Nat,pl i=some p->nu m (i:Int)=some (.i .i64 (p:Nat)))(hal:nu m ((r k:Nat):Int)=some (.i .i64 (p:Nat)))(hl:B[p]?=some l)(ga:vM r (k+1) pl (B.set p (l++[k])))(hB:B.length<=k+1)(hn:n<n4)(same:∀x,x<n->x≠ab->h4.get x=h.get x):
 SM Tryz.prog Y0 228 [.c mGd] .bV (EF (K+401)) h4 n4 [(1,.f 223 [.p ab 0,.p rb 0]),(5,pv),(6,.m n),(10,.i .i64 (N:Nat)),(11,.i .i64 (k:Nat)),(7,.i .i64 (k:Nat)),(8,.i .i64 (r k:Nat)),(19,.b bb)] (Sd Tryz.prog Y0 228 (GaI h n ab rb r) k 11 10 N 1 S (EF (K+401)) Qx):=by
 have hp:=(List.getElem?_eq_some_iff.1 hl).1;have lb:=pg.lb;obtain⟨y,hy⟩:∃y,bs[p]?=some y:=⟨bs[p]'(by omega),List.getElem?_eq_getElem _⟩;obtain⟨pb,cap,cells,_,rfl,q2,q3,_,q5,_⟩:=pg.gp.aaz (p:=p) (by omega) (.k 1);rw[hy]at q5;have lk:=mp.look (k:=((r k:Nat):Int)) Gq (z:=some (.i .i64 0)) (ok:=false) rfl;rw[hal]at lk;simp only[fU]at lk;have aaA:p<bs.length:=by omega
 have gy:=pg.gb p y l hy hl;unfold mGd;have hll:l.length<=401:=by
  obtain⟨i,_,_,_,e⟩:=ga.of p (l++[k]) (by rw[List.getElem?_set,if_pos rfl,if_pos hp]);have e:=congrArg List.length e;have:=List.length_filter_le (λj=>decide (r j=i)) (List.range (k+1));simp at e this;omega
 repeat' (first|(simp (disch:=omega) only[go_sem,Cj,lk,bU aaA,q3,q5])|(refine aS ?_ ?_<;>(intro hb hd;rw[hb];clear hb))|(with_reducible refine aj ?_))
 refine Cb (l2:=[k]) (gy.up aH) ⟨rfl,?_⟩ (by simp;omega) λy' h6 n6 g6 l6 s6 b6=>?_
 .show bnd (iA (Tr.get _ _) 0 _) (λr=>mH (Nat.mul 1 1) r)=_
  rw[aG];rfl
 have Oq:∀x,x<n4->¬blk y x->h6.get x=h4.get x:=λx hx hb=>by rw[s6 x (by omega) hb,ay (by omega)]
 obtain⟨pb2,cap2,Ot,cells',e1,e2,e3,e4,pg6⟩:=pg.put hy hl g6 (by omega) (by omega) (by omega) Oq λx hx=>(b6 x hx).imp id λe=>by omega
 cases e1
 have KJ:=u.KJ;have JQ:=u.JQ;have hne:=u.ne;have uab:n4<=n6:=by omega
 have mp6:=mp.on (Oq n hn λe=>(pg.nb p y hy n e).2 rfl);have lk6:=mp6.look (k:=((r k:Nat):Int)) Gq (z:=some (.i .i64 0)) (ok:=false) rfl;rw[hal]at lk6;simp only[fU]at lk6;have rs:fC (some (.row 22 Ot)) (p*1) (some [y'])=some (.row 22 cells'):=by
  show(match nV [y'] (p*1) Ot with|some m=>some (AO.row 22 m)|none=>none)=_;rw[<-rT,e4]
 simp (disch:=omega) only[go_sem,bU aaA,e3,g6.cl,rs];refine⟨lk6,?_⟩;obtain⟨p1,p2⟩:=pg.np pb (eB.2 rfl);have ny:∀x,x<n->¬blk y x:=λx hx e=>by have:=(pg.nb p y hy x e).1;omega
 refine⟨rfl,rfl,_,⟨A,_,bs.set p y',B.set p (l++[k]),m,pl,u.on (by omega) (by rw[ay (by omega),Oq ab (by omega) (ny ab hab)]) (by rw[ay (by omega),Oq rb (by omega) (ny rb hrb)]),pg6,mp6.on (ay (Ne.symm p2)),hpl,ga,by rw[List.length_set];exact hB,by omega,λx hx hne=>by rw[ay (by omega),Oq x (by omega) (ny x hx),same x hx hne],rfl⟩,by(repeat' (first|exact aP|refine aN rfl ?_))⟩
theorem JZ(K:Nat){N:Nat}(u:UF h n ab rb A r)(hN:N<=400)(hQ:∀A' m P pv h' n',UF h' n' ab rb A' r->vM r N m P->P.length<=N->DZ h' n' n pv P->n<=n'->(∀x,x<n->x≠ab->h'.get x=h.get x)->Q pv h' n'):CW (EF (K+402)) 228 [.i .i64 (N:Nat),.f 223 [.p ab 0,.p rb 0]] h n Q:=by
 have KJ:=u.KJ;have JQ:=u.JQ;have rne:=u.ne;refine aD c228 rfl ?_;repeat' (first|(simp (disch:=omega) only[go_sem,ub.old,VT])|(simp (disch:=omega) only[go_sem,VT])|(refine aS ?_ ?_<;>(intro hb hd;rw[hb];clear hb))|(with_reducible refine aj ?_))
 refine cK N (GaI h n ab rb r) (by omega) (by omega) (by omega) (by omega) (λk h8 n8 G ⟨_,_,_,_,_,_,_,_,_,_,_,_,_,_,e⟩=>by subst e;exact⟨rfl,rfl⟩) ⟨rfl,rfl,_,⟨A,.k 1,[],[],[],λ_=>none,u.up aH,⟨Gr.nil λ_=>rfl,rfl,λj y l h1=>by simp at h1,λj y h1=>by simp at h1,λi j y z h1=>by simp at h1,λx hx=>absurd hx fE,λj y h1=>by simp at h1⟩,uw.new _,(λ_ _ e=>by cases e),vM.nil r _,Nat.le_refl _,by omega,λx hx _=>ay (by omega),rfl⟩,by(repeat' (first|exact aP|refine aN rfl ?_))⟩ ?_ ?_
 .rintro k hk nk G hkN ⟨A1,pv,bs,B,m,pl,u1,pg,mp,hpl,ga,hBk,hn,same,rfl⟩
  simp (disch:=omega) only[go_sem,Cj];rw[E_];show CW (EF (K+401)) 223 [.i .i64 (k:Nat),.p ab 0,.p rb 0] _ _ _;rw[show K+401=(K+(400 - k))+k+1 by omega];refine uL k _ u1 (by omega) λA2 h2 n2 u2 l2 x2=>?_;rw[show(K+(400 - k))+k+1=K+401 by omega];have pg2:PG h2 n2 n n pv bs B:=pg.on l2 λx hx h1 h3=>x2 x hx (by omega);have mp2:=mp.on (x2 n hn (by omega));have hrk:=(u1.roots.root k).2;have Tj:∀x,x<n->x≠ab->h2.get x=h.get x:=λx hx hne=>(x2 x (by omega) hne).trans (same x hx hne);by_cases hroot:r k=k
  .have hd:decide (((r k:Nat):Int)=(k:Int))=true:=decide_eq_true (by omega)
   obtain⟨o,up1,mp3⟩:=mp2.put (n:=n2) (k:=(k:Int)) Gq (.i .i64 (bs.length:Nat));have agw:=pg2.gp.len;have lbs:=pg2.lb;simp (disch:=omega) only[go_sem,hd,agw,up1];have W9:PG (h2.set n o) n2 n n pv bs B:=pg2.on (Nat.le_refl _) λx _ _ h3=>ay h3;refine jW (l2:=[AV.k 1]) (W9.gp.up aH) ⟨rfl,?_⟩ (by simp;omega) λpv' h4 n4 g4 l4 s4 b4=>?_
   .show bnd (iA (Tr.get _ _) 0 _) (λr=>mH (Nat.mul 1 1) r)=_
    rw[aG];rfl
   simp (disch:=omega) only[go_sem,g4.cl];have hal:nu (Dx m (k:Int) (.i .i64 (bs.length:Nat))) ((r k:Nat):Int)=some (.i .i64 (bs.length:Nat)):=by rw[nA,if_pos (by omega)]
   have hl':(B++[[]])[bs.length]?=some []:=by rw[lbs,List.getElem?_append_right (Nat.le_refl _),Nat.sub_self];rfl
   have ga':=ga.new u1.roots hroot;rw[<-lbs]at ga';have hpl':∀i p:Nat,(if i=k then some bs.length else pl i)=some p->nu (Dx m (k:Int) (.i .i64 (bs.length:Nat))) (i:Int)=some (.i .i64 (p:Nat)):=λi p e=>by
    rw[nA];by_cases hik:i=k
    .rw[if_pos hik]at e;cases e;rw[if_pos (by omega)]
    .rw[if_neg hik]at e;rw[if_neg (by omega)];exact hpl i p e
   have pgn:=W9.new g4 (by omega) (by omega) (by omega) (λx hx hb=>by rw[s4 x (by omega) hb,ay (by omega)]) (λx hx=>(b4 x hx).imp id λe=>by omega);have hB':(B++[[]]).length<=k+1:=by simp;omega
   have wS:∀x,x<n2->¬blk pv x->h4.get x=(Tr.set h2 n o).get x:=λx hx hb=>by rw[s4 x (by omega) hb,ay (by omega)]
   have u5:UF h4 n4 ab rb A2 r:=u2.on (by omega) (by rw[wS ab (by omega) λe=>by have:=(W9.np ab e).1;omega,ay (by omega)]) (by rw[wS rb (by omega) λe=>by have:=(W9.np rb e).1;omega,ay (by omega)]);have mp5:=mp3.on (wS n (by omega) λe=>(W9.np n e).2 rfl);have aaB:∀x,x<n->x≠ab->h4.get x=h.get x:=λx hx hne=>by rw[wS x (by omega) λe=>by have:=(W9.np x e).1;omega,ay (by omega),Tj x hx hne]
   have hn5:n<n4:=by omega
   clear wS;exact wD hkN hN KJ JQ u5 pgn mp5 hpl' hal hl' ga' hB' hn5 aaB
  .have hd:decide (((r k:Nat):Int)=(k:Int))=false:=decide_eq_false (by omega)
   simp (disch:=omega) only[go_sem,hd];obtain⟨p5,l5,e1,hl',ga'⟩:=ga.old u1.roots hroot;have hal:=hpl _ _ e1;exact wD hkN hN KJ JQ u2 pg2 mp2 hpl hal hl' ga' (by omega) (by omega) Tj
 .rintro hk nk G ⟨A1,pv,bs,B,m,pl,u1,pg,mp,hpl,ga,hBk,hn,same,rfl⟩
  simp (disch:=omega) only[go_sem];exact hQ A1 pl B pv _ _ u1 ga hBk ⟨bs,pg.gp.sl,pg.lb,λj y l e1 e2=>(pg.gb j y l e1 e2).sl,λx hx=>(pg.np x hx).1,λj y hj x hx=>(pg.nb j y hj x hx).1⟩ (by omega) same
end
end
end
noncomputable section
def vR(k:Nat):List Nat:=(List.range 400).map λi=>if i<k then i else 0
theorem mE(k:Nat):(vR k).length=400:=by simp[vR]
theorem xC{k i:Nat}(h:i<400):(vR k)[i]?=some (if i<k then i else 0):=by simp[vR,h]
theorem Ou{k:Nat}(h:k<400):(vR k).set k k=vR (k+1):=by
 apply List.ext_getElem?;intro j;by_cases hj:j<400
 .rw[List.getElem?_set,xC hj]
  by_cases e:k=j
  .subst e;rw[if_pos rfl,if_pos (by rw[mE];exact hj),xC hj,if_pos (by omega)]
  .rw[if_neg e,xC hj]
   by_cases h1:j<k
   .rw[if_pos h1,if_pos (by omega)]
   .rw[if_neg h1,if_neg (by omega)]
 .rw[List.getElem?_eq_none (by rw[List.length_set,mE];omega),List.getElem?_eq_none (by rw[mE];omega)]
theorem Gs(k:Nat):jf (λi=>(vR k).getD i 0) (λi=>if i<k/\i<400 then i else 0):=by
 have e:∀i,(vR k).getD i 0=if i<k/\i<400 then i else 0:=λi=>by
  rw[List.getD_eq_getElem?_getD];by_cases h:i<400
  .rw[xC h];simp[h]
  .rw[List.getElem?_eq_none (by rw[mE];omega),if_neg (by omega)];rfl
 refine⟨λi=>?_,λi=>?_,λi=>?_⟩
 .rw[e];split<;>omega
 .rw[e];exact id
 .rw[e]
  by_cases h:i<k/\i<400
  .rw[if_pos h,if_pos h]
  .rw[if_neg h];split<;>rfl
section
variable {h h':AH} {n n' ab rb:Nat} {A:List Nat} {r:Nat->Nat} {Q:AV->AH->Nat->Prop} {v:CS} {C:aA}
structure Ip(h:AH)(n ab rb mb:Nat)(v:CS)(C:aA)(A:List Nat)(r:Nat->Nat)(m:List (Int×AV))(w:Bool)(ks ka:Nat)(hk:AH)(nk:Nat):Prop where
 uf:UF hk nk ab rb A r
 mp:uw hk mb (λi:Int=>AV.i .i64 i) m
 vals:∀(a:Int)(x:AV),nu m a=some x->∃u:Nat,u<400/\x= .i .i64 (u:Nat)
 seen:∀(j:Nat)(kc:aF),j<ks->C.clauses[j]?=some kc->∀a∈kc.nums,∃u:Nat,nu m a=some (.i .i64 (u:Nat))/\r u=r j
 all:w=true->∀j,j<ka->r j=r 0
 up:Up h n hk nk
 box:hk.get n=some (.row 27 (v.av C))
 KG:mb<nk
 d:n<ab/\n<rb/\n<mb/\mb≠ab/\mb≠rb
theorem Ip.join{mb:Nat}{m:List (Int×AV)}{w:Bool}{ks ka:Nat}{hk hk':AH}{nk W_:Nat}{A':List Nat}{r':Nat->Nat}(a:Ip h n ab rb mb v C A r m w ks ka hk nk)(u:UF hk' W_ ab rb A' r')(mr:Sr r r')(hn:nk<=W_)(same:∀x,x<nk->x≠ab->hk'.get x=hk.get x):Ip h n ab rb mb v C A' r' m w ks ka hk' W_:=by
 obtain⟨d1,d2,d3,d4,d5⟩:=a.d;have:=a.up.le;have:=a.KG;exact⟨u,a.mp.on (same mb a.KG d4),a.vals,λj kc hj hk x hx=>(a.seen j kc hj hk x hx).imp λu e=>⟨e.1,mr _ _ e.2⟩,λhw j hj=>mr _ _ (a.all hw j hj),⟨by omega,λx hx=>by rw[same x (by omega) (by omega)];exact a.up.old x hx⟩,by rw[same n (by omega) (by omega)];exact a.box,by omega,a.d⟩
theorem Ip.more{mb:Nat}{m:List (Int×AV)}{w:Bool}{ks ka:Nat}{hk hk':AH}{nk W_:Nat}(a:Ip h n ab rb mb v C A r m w ks ka hk nk)(x:Up hk nk hk' W_):Ip h n ab rb mb v C A r m w ks ka hk' W_:=
 a.join (a.uf.up x) (Sr.refl r) x.le λy hy _=>x.old y hy
theorem Ip.put{mb:Nat}{m:List (Int×AV)}{w:Bool}{ks ka k:Nat}{hk:AH}{nk:Nat}{a:Int}{o:AO}(c:Ip h n ab rb mb v C A r m w ks ka hk nk)(mp:uw (hk.set mb o) mb (λi:Int=>AV.i .i64 i) (Dx m a (.i .i64 (k:Nat))))(hn:nu m a=none)(hk4:k<400):Ip h n ab rb mb v C A r (Dx m a (.i .i64 (k:Nat))) w ks ka (hk.set mb o) nk:=by
 obtain⟨d1,d2,d3,d4,d5⟩:=c.d;refine⟨c.uf.on (Nat.le_refl _) (ay (Ne.symm d4)) (ay (Ne.symm d5)),mp,λa' x hx=>?_,λj kc hj hk a' ha=>?_,c.all,Up.st c.up _ _ (by omega),by rw[ay (by omega)];exact c.box,c.KG,c.d⟩
 .rw[nA]at hx
  split at hx
  .cases hx;exact⟨k,hk4,rfl⟩
  .exact c.vals a' x hx
 .obtain⟨u,h1,h2⟩:=c.seen j kc hj hk a' ha
  refine⟨u,?_,h2⟩;rw[nA,if_neg (λe=>by rw[e,hn]at h1;cases h1)];exact h1
def CmI(h:AH)(n ab rb mb:Nat)(v:CS)(C:aA)(w:Bool)(k:Nat)(hk:AH)(nk:Nat)(G:Fm):Prop:=∃A r m,Ip h n ab rb mb v C A r m w k k hk nk/\G=[(1,.p n 0),(7,.p rb 0),(8,.f 224 [.p rb 0,.p ab 0]),(9,.b w),(10,.m mb),(43,v.k)]
def mC3:MC:=match Ci with
 | .seq _ (.seq _ (.seq _ d))=>d
 |x=>x
theorem Ak{K k N mb nb:Nat}{m:List (Int×AV)}{w:Bool}{h9:AH}{n9:Nat}{kc:aF}{t:AV}{S:List It}{Qx:PQ}(hv:C.valid=true)(hkc:C.clauses[k]?=some kc)(hN:N=C.clauses.length)(c:Ip h n ab rb mb v C A r m w k (k+1) h9 n9)(st:SL h9 n9 2 t bP.av kc.start)(g9:h9.get nb=some (.row 112 (kc.av t)))(hb:nb<n9)(hn:n<nb)(hab:nb≠ab/\nb≠rb/\nb≠mb)(tab:∀x,blk t x->x≠ab):
 SM Tryz.prog Y0 130 [.c (g_ 3 57 56 58 4 5 Gj),.b 4,.c mC3] .bV (EF (K+402)) h9 n9 [(1,.p n 0),(7,.p rb 0),(8,.f 224 [.p rb 0,.p ab 0]),(9,.b w),(10,.m mb),(43,v.k),(44,.i .i64 (N:Nat)),(45,.i .i64 (k:Nat)),(12,.p nb 0),(11,.i .i64 (k:Nat)),(50,.b w),(55,t),(56,.i .i64 (kc.start.length:Nat)),(57,.i .i64 0)] (Sd Tryz.prog Y0 130 (CmI h n ab rb mb v C w) k 45 44 N 3 S (EF (K+402)) Qx):=by
 have ok:=aA.ok hv;have:=ok.dN;have hkl:=(List.getElem?_eq_some_iff.1 hkc).1;have hns:=(ok.clause hkc).rW;have hst:=(ok.clause hkc).start;refine cK kc.start.length (λ_ hk nk G=>∃A r,Ip h n ab rb mb v C A r m w k (k+1) hk nk/\Kp (λx=>x=ab) hk nk (λh n=>SL h n 2 t bP.av kc.start/\h.get nb=some (.row 112 (kc.av t))/\nb<n)/\G=[(1,.p n 0),(7,.p rb 0),(8,.f 224 [.p rb 0,.p ab 0]),(9,.b w),(10,.m mb),(43,v.k),(44,.i .i64 (N:Nat)),(45,.i .i64 (k:Nat)),(12,.p nb 0),(11,.i .i64 (k:Nat)),(55,t)]) (by omega) (by omega) (by omega) (by omega) (λk h8 n8 G ⟨_,_,_,_,e⟩=>by subst e;exact⟨rfl,rfl⟩) ⟨rfl,rfl,_,⟨A,r,c,(st.kp λx hx e=>tab x hx e).and λh' n' hn' e=>⟨by rw[e nb hb hab.1];exact g9,by omega⟩,rfl⟩,by(repeat' (first|exact aP|refine aN rfl ?_))⟩ ?_ ?_
 .rintro s hk nk G hs ⟨A1,r1,c1,k1,rfl⟩
  obtain⟨b1,o1,cd,i1,hcd,hb1,rd⟩:=k1.use.1.fQ (k:=(s:Nat)) (by omega) (by omega) (by omega);rw[show((s:Nat):Int).toNat=s by omega]at hcd;obtain⟨q1,q2,_⟩:=hst cd (List.mem_of_getElem? hcd);obtain⟨i,hi⟩:=Int.eq_ofNat_of_zero_le q1;simp (disch:=omega) only[go_sem,Gj,aK i1,rd.all,bP.av];generalize hz:(Tr.set (Tr.set hk _ _) nk _)=h8;have u8:Up hk nk h8 (nk+1):=by rw[<-hz];exact aH
  clear hz;have c8:=c1.more u8;rw[E_,hi];show CW (EF (K+402)) 224 [.i .i64 (k:Nat),.i .i64 (i:Nat),.p rb 0,.p ab 0] _ _ _;refine Ck K c8.uf (by omega) (by omega) λA2 r2 h2 n2 u2 mr _ l2 x2=>?_;simp (disch:=omega) only[go_sem];exact⟨rfl,rfl,_,⟨A2,r2,c8.join u2 mr l2 x2,(k1.up u8).on l2 x2,rfl⟩,by(repeat' (first|exact aP|refine aN rfl ?_))⟩
 .rintro hk nk G ⟨A1,r1,c1,k1,rfl⟩
  unfold mC3;simp (disch:=omega) only[go_sem,Ci,k1.use.2.1,aF.av];rw[aU];refine Gp (K+401) kc t λv4 h4 n4 u4 s4 b4=>?_;have c4:=c1.more u4;have hnl:kc.nums.length<=3:=by unfold aF.nums;split<;>simp
  have KJ:=c1.uf.KJ;have KG:=c1.KG;simp (disch:=omega) only[go_sem,s4.len];refine cK kc.nums.length (λs hk nk G=>∃A r m,Ip h n ab rb mb v C A r m w k (k+1) hk nk/\(∀a∈kc.nums.take s,∃u:Nat,nu m a=some (.i .i64 (u:Nat))/\r u=r k)/\Kp (λx=>x=ab\/x=mb) hk nk (λh n=>SL h n 1 v4 lF kc.nums)/\G=[(1,.p n 0),(7,.p rb 0),(8,.f 224 [.p rb 0,.p ab 0]),(9,.b w),(10,.m mb),(43,v.k),(44,.i .i64 (N:Nat)),(45,.i .i64 (k:Nat)),(11,.i .i64 (k:Nat)),(68,v4)]) (by omega) (by omega) (by omega) (by omega) (λk h8 n8 G ⟨_,_,_,_,_,_,e⟩=>by subst e;exact⟨rfl,rfl⟩) ⟨rfl,rfl,_,⟨A1,r1,m,c4,(λa ha=>by simp at ha),s4.kp λx hx e=>by have:=b4 x hx;omega,rfl⟩,by(repeat' (first|exact aP|refine aN rfl ?_))⟩ ?_ ?_
  .rintro s h5 n5 G hs ⟨A5,r5,m5,c5,sn5,k5,rfl⟩
   obtain⟨b1,o1,a,i1,ha,hb1,rd⟩:=k5.use.fQ (k:=(s:Nat)) (by omega) (by omega) (by omega);rw[show((s:Nat):Int).toNat=s by omega]at ha;have lk:=c5.mp.look (k:=a) Gq (z:=some (.i .i64 0)) (ok:=true) rfl;have htk:∀a'∈kc.nums.take (s+1),a'∈kc.nums.take s\/a'=a:=λa' h=>by
    rw[List.take_add_one,ha]at h;simpa using h
   cases hal:nu m5 a with
   |some x=>
    obtain⟨u,hu,rfl⟩:=c5.vals a x hal;rw[hal]at lk;simp only[bF]at lk;simp (disch:=omega) only[go_sem,Gi,aK i1,rd.el,rd.hd,lk];rw[E_];show CW (EF (K+402)) 224 [.i .i64 (u:Nat),.i .i64 (k:Nat),.p rb 0,.p ab 0] _ _ _;refine Ck K c5.uf (by omega) (by omega) λA2 r2 h2 n2 u2 mr req l2 x2=>?_;simp (disch:=omega) only[go_sem];refine⟨rfl,rfl,_,⟨A2,r2,m5,c5.join u2 mr l2 x2,λa' h=>?_,k5.on l2 λx hx hne=>x2 x hx λe=>hne (.inl e),rfl⟩,by(repeat' (first|exact aP|refine aN rfl ?_))⟩;rcases htk a' h with h|rfl
    .exact(sn5 a' h).imp λu e=>⟨e.1,mr _ _ e.2⟩
    .exact⟨u,hal,req⟩
   |none=>
    rw[hal]at lk;simp only[bF]at lk;obtain⟨o,up1,mp6⟩:=c5.mp.put (n:=n5) (k:=a) Gq (.i .i64 (k:Nat));simp (disch:=omega) only[go_sem,Gi,aK i1,rd.el,rd.hd,lk,up1];refine⟨rfl,rfl,_,⟨A5,r5,_,c5.put mp6 hal (by omega),λa' h=>?_,k5.set (.inl (.inr rfl)) (Nat.le_refl _),rfl⟩,by(repeat' (first|exact aP|refine aN rfl ?_))⟩;rcases htk a' h with h|rfl
    .obtain⟨u,h1,h2⟩:=sn5 a' h
     exact⟨u,by rw[nA,if_neg (λe=>by rw[e,hal]at h1;cases h1)];exact h1,h2⟩
    .exact⟨k,by rw[nA,if_pos rfl],rfl⟩
  .rintro h5 n5 G ⟨A5,r5,m5,c5,sn5,k5,rfl⟩
   rw[List.take_length]at sn5;simp (disch:=omega) only[go_sem];refine⟨rfl,rfl,_,⟨A5,r5,m5,⟨c5.uf,c5.mp,c5.vals,λj kc' hj hk'=>?_,c5.all,c5.up,c5.box,c5.KG,c5.d⟩,rfl⟩,by(repeat' (first|exact aP|refine aN rfl ?_))⟩;by_cases e:j=k
   .subst e;rw[hkc]at hk';cases hk';exact sn5
   .exact c5.seen j kc' (by omega) hk'
theorem zO(K:Nat)(hC:aZ h n v C)(ho:C.off.length<=1000000)(hv:C.valid=true)(hQ:∀P pv h' n',vN C P->Up h n h' n'->DZ h' n' n pv P->Q pv h' n'):CW (EF (K+403)) 130 [.agg (v.av C)] h n Q:=by
 have ok:=aA.ok hv;have:=ok.dN;have:=ok.jU;refine aD c130 rfl ?_;simp (disch:=omega) only[go_sem,aau,CS.av];rw[aU];refine pG _ (hC.up aH) ho λei h2 n2 u2=>?_;have e2:=u2.le;have g2:h2.get n=some (.row 27 (v.av C)):=by rw[u2.old _ (by omega)];exact aG
 have ux:Up h n h2 n2:=by exact aH
 clear u2;rw[(lY C).2 hv];simp (disch:=omega) only[go_sem,g2,CS.av,hC.lk];generalize hz:Tr.set h2 n2 _=h3;have u3:Up h2 n2 h3 (n2+1):=by rw[<-hz];exact aH
 have g3:h3.get n2=some (.row 347 ((vR 0).flatMap cn)):=by rw[<-hz,aG];kernel_rfl
 clear hz;refine cK C.clauses.length (λk hk nk G=>hk.get n2=some (.row 347 ((vR k).flatMap cn))/\nk=n2+1/\(∀x,x≠n2->hk.get x=h3.get x)/\G=[(1,.p n 0),(5,.p n2 0)]) (by omega) (by omega) (by omega) (by omega) (λk h8 n8 G ⟨_,_,_,e⟩=>by subst e;exact⟨rfl,rfl⟩) ⟨rfl,rfl,_,⟨g3,rfl,λ_ _=>rfl,rfl⟩,by(repeat' (first|exact aP|refine aN rfl ?_))⟩ ?_ ?_
 .rintro k hk nk G hkN ⟨gk,rfl,sk,rfl⟩
  have st:=VU (A:=vR k) (i:=k) (x:=k) (by rw[mE];omega);rw[Ou (by omega)]at st;simp (disch:=omega) only[go_sem,Oj,sF,Int.toNat_natCast,gk,st,Option.map_some];exact⟨rfl,rfl,_,⟨aG,rfl,λx hx=>by rw[ay hx];exact sk x hx,rfl⟩,by(repeat' (first|exact aP|refine aN rfl ?_))⟩
 rintro h4 n4 G ⟨g4,rfl,s4,rfl⟩;have u4:Up h n h4 (n2+1):=⟨by omega,λx hx=>by rw[s4 x (by omega),u3.old x (by omega),ux.old x hx]⟩;have q4:h4.get n=some (.row 27 (v.av C)):=by rw[s4 n (by omega),u3.old n (by omega)];exact g2
 simp (disch:=omega) only[go_sem,q4,CS.av];generalize hz:(Tr.set (Tr.set h4 _ _) (n2+1) _)=h5;have u5:Up h4 (n2+1) h5 (n2+1+1):=by rw[<-hz];exact aH
 have g5:h5.get (n2+1)=some (.row 348 [.f 223 [.p n2 0,.p (n2+1) 0]]):=by rw[<-hz,aG]
 clear hz;have O9:=u4.trans u5;rw[aU];refine Rb _ (hC.acts.up O9) (by omega) λw h6 n6 hw u6=>?_;have e6:=u6.le;have q6:h6.get n=some (.row 27 (v.av C)):=by rw[u6.old n (by omega),u5.old n (by omega)];exact q4
 have uf6:UF h6 n6 n2 (n2+1) (vR C.clauses.length) (λi=>if i<C.clauses.length/\i<400 then i else 0):=⟨by rw[u6.old _ (by omega),u5.old _ (by omega)];exact g4,by rw[u6.old _ (by omega)];exact g5,mE _,Gs _,by omega,by omega,by omega⟩;simp (disch:=omega) only[go_sem,q6,CS.av,hC.lk];have c0:Ip h n n2 (n2+1) n6 v C (vR C.clauses.length) (λi=>if i<C.clauses.length/\i<400 then i else 0) [] w 0 0 (Tr.set h6 n6 (.mp [] 0)) (n6+1):=⟨uf6.up aH,uw.new _,(λa x e=>by cases e),(λj kc hj=>absurd hj (by omega)),(λ_ j hj=>absurd hj (by omega)),by exact aH,by rw[ay (by omega)];exact q6,by omega,by omega⟩;generalize Tr.set h6 n6 _=h7 at*;refine cK C.clauses.length (CmI h n n2 (n2+1) n6 v C w) (by omega) (by omega) (by omega) (by omega) (λk h8 n8 G ⟨_,_,_,_,e⟩=>by subst e;exact⟨rfl,rfl⟩) ⟨rfl,rfl,_,⟨_,_,_,c0,rfl⟩,by(repeat' (first|exact aP|refine aN rfl ?_))⟩ ?_ ?_
 .rintro k hk nk G hkN ⟨A,r,m,c,rfl⟩
  simp (disch:=omega) only[go_sem,Ci];refine ni hC (by omega) (by omega) λb o kc t hkc hb st rd=>?_;rw[show((k:Nat):Int).toNat=k by omega]at hkc;simp (disch:=omega) only[go_sem,c.up.old b hb,rd.all,aF.av];generalize hz:(Tr.set (Tr.set hk _ _) nk _)=h8;have u8:Up hk nk h8 (nk+1):=by rw[<-hz];exact aH
  have g8:h8.get nk=some (.row 112 (kc.av t)):=by rw[<-hz,aG]
  clear hz;have c8:=c.more u8;have tab:∀x,blk t x->x≠n2:=λx hx=>by have:=st.fH hx;omega
  have s8:=st.up (c.up.trans u8);have nkg:n6<nk:=c.KG;cases w with
  |false=>
   simp (disch:=omega) only[go_sem,g8,aF.av,s8.len];exact Ak hv hkc rfl ⟨c8.uf,c8.mp,c8.vals,c8.seen,(λe=>by cases e),c8.up,c8.box,c8.KG,c8.d⟩ s8 g8 (by omega) (by omega) (by omega) tab
  |true=>
   simp (disch:=omega) only[go_sem];rw[E_];show CW (EF (K+402)) 224 [.i .i64 ((0:Nat):Int),.i .i64 (k:Nat),.p (n2+1) 0,.p n2 0] _ _ _;refine Ck K c8.uf (by omega) (by omega) λA2 r2 h9 n9 u9 mr req l9 x9=>?_;have g9:=(x9 nk (by omega) (by omega)).trans g8;have s9:=(s8.kp (X:=λx=>x=n2) λx hx e=>tab x hx e).on l9 x9;have c9:=c8.join u9 mr l9 x9;simp (disch:=omega) only[go_sem,g9,aF.av,s9.use.len];refine Ak hv hkc rfl ⟨c9.uf,c9.mp,c9.vals,c9.seen,λ_ j hj=>?_,c9.up,c9.box,c9.KG,c9.d⟩ s9.use g9 (by omega) (by omega) (by omega) tab;by_cases e:j=k
   .subst e;exact req.symm
   .exact c9.all rfl j (by omega)
 .rintro hk nk G ⟨A,r,m,c,rfl⟩
  have fn:=c.uf.fn;simp (disch:=omega) only[go_sem,c.box,CS.av,hC.lk,fn];rw[aU];refine JZ K (N:=C.clauses.length) c.uf (by omega) λA' mm P pv h8 n8 u8 ga hP rows l8 x8=>?_;simp (disch:=omega) only[go_sem];have:=c.up.le;refine hQ P pv _ _ (vN.of hP c.uf.roots ga (λe i hi=>c.all (hw.2 e) i hi) λi j k k' hk hk' t ht ht'=>?_) ⟨by omega,λx hx=>by rw[x8 x (by omega) (by omega)];exact c.up.old x hx⟩ (rows.lo (by omega));obtain⟨u,e1,e2⟩:=c.seen i k (List.getElem?_eq_some_iff.1 hk).1 hk t ht;obtain⟨u',e3,e4⟩:=c.seen j k' (List.getElem?_eq_some_iff.1 hk').1 hk' t ht';rw[e1]at e3;have e5:u=u':=by simp at e3;omega
  rw[<-e2,<-e4,e5]
end
end
end Go.Proofs.YtjoohkjmoghmoaaGreatDoor
