/- part -/
import Derived.Test.YtjoohkjmoghmoaaGreatDoorP12
set_option linter.all false
namespace Go.Proofs.YtjoohkjmoghmoaaGreatDoor
section
noncomputable section
def zL:List UInt8:=[48,48,48,49,48,50,48,51,48,52,48,53,48,54,48,55,48,56,48,57,49,48,49,49,49,50,49,51,49,52,49,53,49,54,49,55,49,56,49,57,50,48,50,49,50,50,50,51,50,52,50,53,50,54,50,55,50,56,50,57,51,48,51,49,51,50,51,51,51,52,51,53,51,54,51,55,51,56,51,57,52,48,52,49,52,50,52,51,52,52,52,53,52,54,52,55,52,56,52,57,53,48,53,49,53,50,53,51,53,52,53,53,53,54,53,55,53,56,53,57,54,48,54,49,54,50,54,51,54,52,54,53,54,54,54,55,54,56,54,57,55,48,55,49,55,50,55,51,55,52,55,53,55,54,55,55,55,56,55,57,56,48,56,49,56,50,56,51,56,52,56,53,56,54,56,55,56,56,56,57,57,48,57,49,57,50,57,51,57,52,57,53,57,54,57,55,57,56,57,57]
def FY:MC:=(.seq (.reg [nl (.mv (.s 49)),nl (.bJ 7 (.s 47) (.s 49)),nl (.ld (some 7) (.v 0)),nk 8 (.al 169 [(.i .i64 0),(.i .i64 0),(.i .i64 0),(.i .i64 0),(.i .i64 0),(.i .i64 0),(.i .i64 0)]),nk 7 (.mv (.v 2)),⟨none,(.st 7 (.s 8) (.v 0)),.n⟩]) (.seq (.reg [nk 9 (.mv (.c (.i .i64 (.negSucc 0))))]) (.seq (.seq (.reg [nl (.fa 1 (.s 8)),nl (.ld none (.v 0)),nk 56 (.bin .neq 3 (.v 0) (.c (.i .i64 (.negSucc 0))))]) (.cond (.s 56) (.reg [nl (.fa 0 (.s 1)),nl (.fa 1 (.v 0)),nl (.ld none (.v 0)),nl (.fa 1 (.s 8)),nl (.ld none (.v 0)),nl (.bJ 1 (.v 2) (.v 0)),nl (.ld none (.v 0)),nk 9 (.mv (.v 0))]) .skip)) (.seq (.seq (.reg [nl (.mv (.s 9)),nl (.ld none (.s 3)),nl (.bin .eql 3 (.v 1) (.v 0)),nl (.fa 4 (.s 1)),nl (.ld none (.v 0)),nk 69 (.bin .neq 4 (.v 2) (.v 0))]) (.cond (.s 69) (.exit 1) .skip)) (.seq (.reg [nl (.ld (some 7) (.s 2)),nl (.fa 0 (.s 1)),nl (.ld (some 4) (.v 0)),nl (.mv (.s 7)),nl (.call (.c (.f 18 [])) [(.v 3),(.v 1),(.v 0)]),nl (.mv (.v 0)),nl (.ext (.v 0) 0),nl (.ext (.v 1) 1),nk 10 (.al 43 [(.i .i64 0),(.k 1),(.k 1),(.k 1)]),⟨none,(.st 4 (.s 10) (.v 1)),.n⟩,nl (.mv (.v 0))]) (.seq (.reg [nl (.ld (some 4) (.s 10)),nl (.fa 0 (.s 1)),nl (.ld (some 4) (.v 0)),nl (.call (.c (.f 234 [])) [(.v 2),(.v 0)]),nl (.not (.v 0)),nl (.mv (.v 0)),ng 0 true (.mv (.s 0)),ng 1 true (.mv (.s 7)),ng 2 true (.ld (some 4) (.s 10)),ng 3 true (.jk [(.i .i64 0),(.k 1),(.k 1),(.k 1),(.b false)] [(0,(4,(.v 0))),(4,(1,(.c (.b true))))]),ng 4 true (.call (.v 3) [(.v 2),(.v 0)]),ng 5 true (.not (.v 0)),nk 90 (.pick (.v 6) (.v 0) (.c (.b false)))]) (.cond (.s 90) .ret .skip)))))))
def Va:MC:=(.seq (.seq (.reg [nl (.fa 4 (.s 1)),nl (.ld none (.v 0)),nl (.mv (.v 0)),ng 0 true (.mv (.s 0)),ng 1 true (.fa 0 (.s 1)),ng 2 true (.ld (some 4) (.v 0)),ng 3 true (.call (.c (.f 134 [])) [(.v 0)]),ng 4 true (.jk [(.i .i64 0),(.k 1),(.k 1),(.k 1),(.b false)] [(0,(4,(.v 0)))]),ng 5 true (.call (.v 4) [(.c (.i .i64 (.negSucc 1))),(.v 0)]),ng 6 true (.not (.v 0)),nl (.pick (.v 7) (.v 0) (.c (.b false))),nl (.mv (.v 0)),ng 0 false (.fa 0 (.s 1)),ng 1 false (.fa 0 (.v 0)),ng 2 false (.ld none (.v 0)),ng 3 false (.fa 5 (.s 2)),ng 4 false (.ld none (.v 0)),ng 5 false (.bin .geq 3 (.v 2) (.v 0)),nk 30 (.pick (.v 6) (.c (.b true)) (.v 0))]) (.cond (.s 30) .ret .skip)) (.seq (.seq (.reg [nl (.fa 4 (.s 1)),nl (.ld none (.v 0)),nk 33 (.not (.v 0))]) (.cond (.s 33) (.seq (.reg [nl (.ld (some 7) (.s 2)),nl (.fa 0 (.s 1)),nl (.ld (some 4) (.v 0)),nl (.call (.c (.f 18 [])) [(.v 2),(.v 0),(.c (.i .i64 (.negSucc 0)))]),nl (.mv (.v 0)),nl (.ext (.v 0) 0),nl (.ext (.v 1) 1),nk 5 (.al 43 [(.i .i64 0),(.k 1),(.k 1),(.k 1)]),⟨none,(.st 4 (.s 5) (.v 1)),.n⟩,nl (.mv (.v 0))]) (.seq (.reg [nl (.mv (.s 0)),nl (.ld (some 4) (.s 5)),nl (.jk [(.i .i64 0),(.k 1),(.k 1),(.k 1),(.b false)] [(0,(4,(.v 0))),(4,(1,(.c (.b true))))]),nl (.call (.v 2) [(.c (.i .i64 (.negSucc 0))),(.v 0)]),nk 45 (.not (.v 0))]) (.cond (.s 45) .ret .skip))) .skip)) (.seq (.reg [nl (.fa 3 (.s 2)),nk 47 (.ld none (.v 0)),nk 48 (.aW (.s 47)),nk 49 (.mv (.c (.i .i64 0)))]) (.blk 0 (g_ 3 49 48 50 0 1 FY)))))
theorem c233:dx Tryz.prog sl0 233=some ([true,true,true,true],Va,[]):=by kernel_rfl
def Zw:MC:=(.seq (.reg [nk 3 (.box 27 7 (.s 0)),nk 4 (.box 3 1 (.s 1)),nk 5 (.box 45 5 (.s 2)),nk 6 (.mv (.c (.k 3)))]) (.seq (.reg [nl (.z8 233 [(.s 5),(.s 3),(.s 4)]),nk 6 (.mv (.v 0))]) .ret))
theorem afh:dx Tryz.prog sl0 136=some ([true,true,true],Zw,[(.t 6)]):=by kernel_rfl
def Vb:MC:=(.seq (.reg [nk 1 (.box 43 4 (.s 0)),nk 2 (.al 43 [(.i .i64 0),(.k 1),(.k 1),(.k 1)])]) (.seq (.fV 0 [mq 0 [] (.fa 1 (.s 1)),mq 1 [0] (.ld none (.v 0)),mq 3 [1] (.call (.c (.f 45 [])) [(.v 0)]),mq 0 [] (.fa 2 (.s 1)),mq 1 [3] (.ld none (.v 0)),mq 3 [4] (.call (.c (.f 229 [])) [(.v 0)]),mq 0 [] (.fa 3 (.s 1)),mq 1 [6] (.ld none (.v 0)),mq 3 [7] (.call (.c (.f 230 [])) [(.v 0)]),mq 0 [] (.fa 1 (.s 1)),mq 3 [2,9] (.st 1 (.v 1) (.v 0)),mq 0 [] (.fa 2 (.s 1)),mq 3 [5,11] (.st 1 (.v 1) (.v 0)),mq 0 [] (.fa 3 (.s 1)),mq 3 [8,13] (.st 1 (.v 1) (.v 0))] [(4,0),(7,0),(7,3)] []) (.seq (.reg [nl (.ld (some 4) (.s 1)),⟨none,(.st 4 (.s 2) (.v 0)),.n⟩]) .ret)))
theorem afi:dx Tryz.prog sl0 134=some ([true],Vb,[(.c 2 (some 4))]):=by kernel_rfl
def Vd:MC:=(.seq (.reg [nk 3 (.box 27 7 (.s 0)),nk 5 (.box 45 5 (.s 2)),nk 6 (.mv (.c (.b false)))]) (.seq (.reg [nl (.mv (.s 1)),nl (.bin .geq 3 (.v 0) (.c (.i .i64 0))),nl (.mv (.v 0)),ng 0 true (.mv (.s 1)),ng 1 true (.fa 0 (.s 3)),ng 2 true (.ld none (.v 0)),ng 3 true (.bin .lss 3 (.v 2) (.v 0)),nl (.pick (.v 4) (.v 0) (.c (.b false))),nl (.mv (.v 0)),ng 0 true (.ld (some 7) (.s 3)),ng 1 true (.fa 0 (.s 5)),ng 2 true (.ld (some 4) (.v 0)),ng 3 true (.call (.c (.f 47 [])) [(.v 2),(.v 0)]),nl (.pick (.v 4) (.v 0) (.c (.b false))),nk 6 (.mv (.v 0))]) .ret))
theorem afj:dx Tryz.prog sl0 133=some ([true,true,true],Vd,[(.t 6)]):=by kernel_rfl
def M8:MC:=(.seq (.seq (.reg [nl (.mv (.s 10)),nl (.fa 1 (.s 8)),nl (.ld none (.v 0)),nl (.aW (.v 0)),nk 40 (.bin .lss 3 (.v 3) (.v 0))]) (.cond (.s 40) .skip (.exit 0))) (.seq (.blk 1 (.seq (.reg [nk 11 (.al 221 [(.k 1)])]) (.seq (.seq (.fV 0 [mq 1 [] (.ld (some 7) (.s 3)),mq 0 [] (.mv (.s 1)),mq 0 [] (.fa 1 (.s 8)),mq 1 [2] (.ld none (.v 0)),mq 0 [] (.mv (.s 10)),mq 0 [3,4] (.bJ 5 (.v 0) (.v 1)),mq 1 [5] (.ld (some 5) (.v 0)),mq 3 [0,1,6] (.call (.c (.f 136 [])) [(.v 0),(.v 1),(.v 2)])] [] [(7,50)]) (.blk 2 (.rng (.s 50) [51,52] (jy 74 0) (jB 74 0)))) (.reg [nl (.fa 2 (.s 8)),nl (.ld none (.v 0)),nl (.ld none (.s 11)),nl (.rP 221 1 [(.k 1)] [(0,(1,(.v 0)))]),nl (.app 221 1 (.v 2) (.v 0)),nl (.fa 2 (.s 8)),⟨none,(.st 1 (.v 0) (.v 1)),.n⟩])))) (.reg [nl (.mv (.s 10)),nl (.bin .add 3 (.v 0) (.c (.i .i64 1))),nk 10 (.mv (.v 0))])))
def m74:MC:=(.seq (.reg [nk 3 (.box 27 7 (.s 0)),nk 5 (.box 45 5 (.s 2)),nk 6 (.al 150 [(.i .i64 0),(.k 1),(.k 1)]),nk 7 (.al 31 [(.i .i64 0)])]) (.seq (.seq (.reg [nl (.ld (some 7) (.s 3)),nl (.mv (.s 1)),nl (.ld (some 5) (.s 5)),nl (.call (.c (.f 133 [])) [(.v 2),(.v 1),(.v 0)]),nk 21 (.not (.v 0))]) (.cond (.s 21) (.seq (.reg [nl (.jk [(.i .i64 0),(.k 1),(.k 1)] []),⟨none,(.st 3 (.s 6) (.v 0)),.n⟩,⟨none,(.st 1 (.s 7) (.c (.i .i64 1))),.n⟩]) .ret) .skip)) (.seq (.fV 3 [mq 0 [] (.mv (.s 1)),mq 0 [] (.fa 0 (.s 5)),mq 1 [1] (.ld (some 4) (.v 0)),mq 3 [2] (.call (.c (.f 134 [])) [(.v 0)]),mq 0 [] (.fa 4 (.s 5)),mq 1 [4] (.ld none (.v 0)),mq 0 [3,5] (.jk [(.i .i64 0),(.k 1),(.k 1),(.k 1),(.b false)] [(0,(4,(.v 0))),(4,(1,(.v 1)))]),mq 2 [6] (.rP 45 1 [(.i .i64 0),(.k 1),(.k 1),(.k 1),(.b false)] [(0,(5,(.v 0)))]),mq 0 [0,7] (.jk [(.i .i64 0),(.k 1),(.k 1)] [(0,(1,(.v 0))),(1,(1,(.v 1)))]),⟨2,false,[],none,(.al 150 [(.i .i64 0),(.k 1),(.k 1)])⟩,mq 3 [8,9] (.st 3 (.v 1) (.v 0))] [(5,0)] [(9,8)]) (.seq (.reg [nl .Ht,nl (.ld (some 5) (.s 5)),nl (.call (.c (.f 135 [])) [(.v 0)]),⟨none,(.upd 9 (.v 2) (.v 0) (.c (.i .i64 0))),.n⟩,nl (.mv (.v 2)),nk 9 (.al 230 [(.k 2)]),⟨none,(.st 1 (.s 9) (.v 0)),.n⟩]) (.seq (.seq (.reg [nk 10 (.mv (.c (.i .i64 0)))]) (.blk 0 (.loop M8))) (.seq (.reg [nl (.ld (some 3) (.s 8)),⟨none,(.st 3 (.s 6) (.v 0)),.n⟩,⟨none,(.st 1 (.s 7) (.c (.i .i64 0))),.n⟩]) .ret))))))
theorem c74:dx Tryz.prog sl0 74=some ([true,true,true],m74,[(.c 6 (some 3)),(.c 7 none)]):=by kernel_rfl
def M9:MC:=(.seq (.reg [nk 12 (.mv (.s 51))]) (.reg [nk 13 (.al 45 [(.i .i64 0),(.k 1),(.k 1),(.k 1),(.b false)]),⟨none,(.st 5 (.s 13) (.s 52)),.n⟩]))
theorem Ve:qg Tryz.prog (sl0 74) (jy 74 0)=some M9:=by kernel_rfl
def FZ:MC:=(.blk 3 (.seq (.reg [nl (.ld (some 5) (.s 13)),nl (.call (.c (.f 135 [])) [(.v 0)]),nk 14 (.mv (.v 0))]) (.seq (.reg [nl (.ld none (.s 9)),nl (.mv (.s 14)),nl (.look 9 (some (.i .i64 0)) (.v 1) (.v 0) true),nl (.mv (.v 0)),nl (.ext (.v 0) 0),nl (.ext (.v 1) 1),nk 15 (.mv (.v 1)),nk 16 (.mv (.v 0))]) (.seq (.seq (.reg [nl (.mv (.s 16)),nk 62 (.not (.v 0))]) (.cond (.s 62) (.seq (.reg [nl (.fa 1 (.s 8)),nl (.ld none (.v 0)),nl (.aW (.v 0)),nk 15 (.mv (.v 0))]) (.seq (.seq (.reg [nl (.mv (.s 15)),nk 67 (.bin .eql 3 (.v 0) (.c (.i .i64 1500)))]) (.cond (.s 67) (.seq (.reg [nl (.jk [(.i .i64 0),(.k 1),(.k 1)] []),⟨none,(.st 3 (.s 6) (.v 0)),.n⟩,⟨none,(.st 1 (.s 7) (.c (.i .i64 3))),.n⟩]) .ret) .skip)) (.seq (.reg [nl (.ld none (.s 9)),nl (.mv (.s 14)),nl (.mv (.s 15)),⟨none,(.upd 9 (.v 2) (.v 1) (.v 0)),.n⟩]) (.reg [nl (.fa 1 (.s 8)),nl (.ld none (.v 0)),nl (.ld (some 5) (.s 13)),nl (.rP 45 1 [(.i .i64 0),(.k 1),(.k 1),(.k 1),(.b false)] [(0,(5,(.v 0)))]),nl (.app 45 5 (.v 2) (.v 0)),nl (.fa 1 (.s 8)),⟨none,(.st 1 (.v 0) (.v 1)),.n⟩])))) .skip)) (.reg [nl (.ld none (.s 11)),nl (.mv (.s 12)),nl (.mv (.s 15)),nl (.jk [(.i .i64 0),(.i .i64 0)] [(0,(1,(.v 1))),(1,(1,(.v 0)))]),nl (.rP 223 1 [(.i .i64 0),(.i .i64 0)] [(0,(2,(.v 0)))]),nl (.app 223 2 (.v 4) (.v 0)),⟨none,(.st 1 (.s 11) (.v 0)),.n⟩])))))
theorem Vf:qg Tryz.prog (sl0 74) (jB 74 0)=some FZ:=by kernel_rfl
def M_:MC:=(.seq (.reg [nl (.bJ 5 (.s 56) (.s 58)),nl (.ld (some 5) (.v 0)),nk 11 (.al 144 [(.i .i64 0),(.i .i64 0),(.i .i64 0),(.i .i64 0),(.b false)]),⟨none,(.st 5 (.s 11) (.v 0)),.n⟩]) (.seq (.reg [nl (.mv (.s 4)),nl (.fa 0 (.s 11)),nl (.ld none (.v 0)),nl (.call (.v 2) [(.v 0)])]) (.seq (.reg [nl (.mv (.s 4)),nl (.fa 1 (.s 11)),nl (.ld none (.v 0)),nl (.call (.v 2) [(.v 0)])]) (.seq (.reg [nl (.mv (.s 4)),nl (.fa 2 (.s 11)),nl (.ld none (.v 0)),nl (.call (.v 2) [(.v 0)])]) (.seq (.reg [nl (.mv (.s 4)),nl (.fa 3 (.s 11)),nl (.ld none (.v 0)),nl (.call (.v 2) [(.v 0)])]) (.reg [nl (.mv (.s 5)),nl (.fa 4 (.s 11)),nl (.ld none (.v 0)),nl (.call (.v 2) [(.v 0)])]))))))
def Na:MC:=(.seq (.reg [nl (.bJ 1 (.s 44) (.s 46)),nl (.ld none (.v 0)),nk 9 (.mv (.v 0))]) (.reg [nl (.mv (.s 5)),nl (.mv (.s 9)),nl (.call (.v 1) [(.v 0)])]))
def Nb:MC:=(.seq (.reg [nl (.bJ 1 (.s 32) (.s 34)),nl (.ld none (.v 0)),nk 7 (.mv (.v 0))]) (.reg [nl (.mv (.s 4)),nl (.mv (.s 7)),nl (.call (.v 1) [(.v 0)])]))
def Zx:MC:=(.seq (.reg [nk 1 (.box 45 5 (.s 0)),nk 2 (.mv (.c (.s [])))]) (.seq (.reg [nl (.fa 0 (.s 1)),nl (.fa 3 (.v 0)),nl (.ld none (.v 0)),nl (.aW (.v 0)),nl (.bin .mul 3 (.c (.i .i64 12)) (.v 0)),nl (.bin .add 3 (.c (.i .i64 32)) (.v 0)),nl (.Bu 5 [(.i .u8 0)] (.c (.i .i64 0)) (.v 0)),nk 3 (.al 306 [(.k 1)]),⟨none,(.st 1 (.s 3) (.v 0)),.n⟩]) (.seq (.reg [nl (.z8 231 [(.s 3)]),nk 4 (.mv (.v 0))]) (.seq (.reg [nl (.z8 232 [(.s 3)]),nk 5 (.mv (.v 0))]) (.seq (.reg [nl (.mv (.s 5)),nl (.fa 4 (.s 1)),nl (.ld none (.v 0)),nl (.call (.v 2) [(.v 0)])]) (.seq (.reg [nl (.mv (.s 4)),nl (.fa 0 (.s 1)),nl (.fa 0 (.v 0)),nl (.ld none (.v 0)),nl (.call (.v 3) [(.v 0)])]) (.seq (.seq (.reg [nl (.fa 0 (.s 1)),nl (.fa 1 (.v 0)),nk 32 (.ld none (.v 0)),nk 33 (.aW (.s 32)),nk 34 (.mv (.c (.i .i64 0)))]) (.blk 0 (g_ 3 34 33 35 0 1 Nb))) (.seq (.seq (.reg [nl (.fa 0 (.s 1)),nl (.fa 2 (.v 0)),nk 44 (.ld none (.v 0)),nk 45 (.aW (.s 44)),nk 46 (.mv (.c (.i .i64 0)))]) (.blk 2 (g_ 3 46 45 47 2 3 Na))) (.seq (.seq (.reg [nl (.fa 0 (.s 1)),nl (.fa 3 (.v 0)),nk 56 (.ld none (.v 0)),nk 57 (.aW (.s 56)),nk 58 (.mv (.c (.i .i64 0)))]) (.blk 4 (g_ 3 58 57 59 4 5 M_))) (.seq (.reg [nl (.ld none (.s 3)),nl (.Jb (.v 0)),nk 2 (.mv (.v 0))]) .ret))))))))))
theorem afl:dx Tryz.prog sl0 135=some ([true],Zx,[(.t 2)]):=by kernel_rfl
def Zy:MC:=(.reg [nl (.ld none (.s 1)),nl (.mv (.s 0)),nl (.call (.c (.f 160 [])) [(.v 1),(.v 0),(.c (.i .i64 10))]),nl (.rP 5 1 [(.i .u8 0)] [(0,(1,(.c (.i .u8 32))))]),nl (.app 5 1 (.v 1) (.v 0)),⟨none,(.st 1 (.s 1) (.v 0)),.n⟩])
theorem afm:dx Tryz.prog sl0 231=some ([true,true],Zy,[]):=by kernel_rfl
def Vg:MC:=(.seq (.reg [nk 3 (.mv (.s 0))]) (.cond (.s 3) (.reg [nl (.ld none (.s 1)),nl (.rP 5 1 [(.i .u8 0)] [(0,(1,(.c (.i .u8 43))))]),nl (.app 5 1 (.v 1) (.v 0)),⟨none,(.st 1 (.s 1) (.v 0)),.n⟩]) (.reg [nl (.ld none (.s 1)),nl (.rP 5 1 [(.i .u8 0)] [(0,(1,(.c (.i .u8 45))))]),nl (.app 5 1 (.v 1) (.v 0)),⟨none,(.st 1 (.s 1) (.v 0)),.n⟩])))
theorem c232:dx Tryz.prog sl0 232=some ([true,true],Vg,[]):=by kernel_rfl
def Zz:MC:=(.seq (.reg [nk 6 (.mv (.c (.k 1)))]) (.seq (.reg [nl (.mv (.s 0)),nl (.mv (.s 1)),nl (.mv (.s 2)),nl (.call (.c (.f 250 [])) [(.v 2),(.v 1),(.v 0)]),nk 6 (.mv (.v 0))]) .ret))
theorem c160:dx Tryz.prog sl0 160=some ([true,true,true],Zz,[(.t 6)]):=by kernel_rfl
def Vh:MC:=(.seq (.reg [nk 6 (.mv (.c (.k 1)))]) (.seq (.reg [nl (.mv (.s 1)),nl (.Di .u64 (.v 0)),nk 7 (.mv (.v 0))]) (.seq (.seq (.reg [nl (.mv (.s 1)),nk 11 (.bin .lss 2 (.v 0) (.c (.i .i64 0)))]) (.cond (.s 11) (.seq (.reg [nl (.mv (.s 0)),nl (.rP 5 1 [(.i .u8 0)] [(0,(1,(.c (.i .u8 45))))]),nl (.app 5 1 (.v 1) (.v 0)),nk 0 (.mv (.v 0))]) (.reg [nl (.mv (.s 7)),nl (.neg (.v 0)),nk 7 (.mv (.v 0))])) .skip)) (.seq (.reg [nl (.mv (.s 0)),nl (.mv (.s 7)),nl (.mv (.s 2)),nl (.call (.c (.f 282 [])) [(.v 2),(.v 1),(.v 0)]),nk 6 (.mv (.v 0))]) .ret))))
theorem afn:dx Tryz.prog sl0 250=some ([true,true,true],Vh,[(.t 6)]):=by kernel_rfl
def F6:MC:=(.seq (.reg [nk 6 (.mv (.c (.k 1)))]) (.seq (.seq (.reg [nl (.mv (.s 2)),nk 10 (.bin .eql 3 (.v 0) (.c (.i .i64 10)))]) (.cond (.s 10) (.seq (.seq (.reg [nl (.mv (.s 1)),nk 12 (.bin .lss 338 (.v 0) (.c (.i .u64 100)))]) (.cond (.s 12) (.seq (.reg [nl (.mv (.s 0)),nl (.mv (.s 1)),nl (.Di .i64 (.v 0)),nl (.call (.c (.f 286 [])) [(.v 0)]),nl (.app 5 1 (.v 3) (.v 0)),nk 6 (.mv (.v 0))]) .ret) .skip)) (.seq (.reg [nk 7 (.al 402 [(.i .u8 0),(.i .u8 0),(.i .u8 0),(.i .u8 0),(.i .u8 0),(.i .u8 0),(.i .u8 0),(.i .u8 0),(.i .u8 0),(.i .u8 0),(.i .u8 0),(.i .u8 0),(.i .u8 0),(.i .u8 0),(.i .u8 0),(.i .u8 0),(.i .u8 0),(.i .u8 0),(.i .u8 0),(.i .u8 0),(.i .u8 0),(.i .u8 0),(.i .u8 0),(.i .u8 0)])]) (.seq (.reg [nl (.mv (.s 1)),nl (.call (.c (.f 287 [])) [(.v 0)]),nk 8 (.mv (.v 0))]) (.seq (.reg [nl (.mv (.s 8)),nl (.Lj 1 24 (.s 7) none (some (.v 0))),nl (.mv (.s 1)),nl (.call (.c (.f 288 [])) [(.v 1),(.v 0)])]) (.seq (.reg [nl (.mv (.s 0)),nl (.mv (.s 8)),nl (.Lj 1 24 (.s 7) none (some (.v 0))),nl (.app 5 1 (.v 2) (.v 0)),nk 6 (.mv (.v 0))]) .ret))))) .skip)) (.seq (.reg [nl (.mv (.s 0)),nl (.mv (.s 1)),nl (.mv (.s 2)),nl (.call (.c (.f 289 [])) [(.v 2),(.v 1),(.v 0),(.c (.b false)),(.c (.b true))]),nl (.mv (.v 0)),nl (.ext (.v 0) 0),nl (.ext (.v 1) 1),nk 0 (.mv (.v 1))]) (.seq (.reg [nl (.mv (.s 0)),nk 6 (.mv (.v 0))]) .ret))))
theorem afo:dx Tryz.prog sl0 282=some ([true,true,true],F6,[(.t 6)]):=by kernel_rfl
def Vi:MC:=(.seq (.reg [nk 2 (.mv (.c (.s [])))]) (.seq (.seq (.reg [nl (.mv (.s 0)),nk 4 (.bin .lss 3 (.v 0) (.c (.i .i64 10)))]) (.cond (.s 4) (.seq (.reg [nl (.mv (.s 0)),nl (.mv (.s 0)),nl (.bin .add 3 (.v 0) (.c (.i .i64 1))),nl (.RV (.c (.s [48,49,50,51,52,53,54,55,56,57,97,98,99,100,101,102,103,104,105,106,107,108,109,110,111,112,113,114,115,116,117,118,119,120,121,122])) (some (.v 2)) (some (.v 0))),nk 2 (.mv (.v 0))]) .ret) .skip)) (.seq (.reg [nl (.mv (.s 0)),nl (.bin .mul 3 (.v 0) (.c (.i .i64 2))),nl (.mv (.s 0)),nl (.bin .mul 3 (.v 0) (.c (.i .i64 2))),nl (.bin .add 3 (.v 0) (.c (.i .i64 2))),nl (.RV (.c (.s zL)) (some (.v 3)) (some (.v 0))),nk 2 (.mv (.v 0))]) .ret)))
theorem afp:dx Tryz.prog sl0 286=some ([true],Vi,[(.t 2)]):=by kernel_rfl
def F7:MC:=(.seq (.seq (.reg [nl (.mv (.s 4)),nk 20 (.bin .geq 3 (.v 0) (.c (.i .i64 8)))]) (.cond (.s 20) .skip (.exit 0))) (.blk 1 (.seq (.reg [nl (.mv (.s 1)),nl (.bin .rem 338 (.v 0) (.c (.i .u64 100000000))),nl (.Di .u32 (.v 0)),nk 5 (.mv (.v 0))]) (.seq (.reg [nl (.mv (.s 1)),nl (.bin .quo 338 (.v 0) (.c (.i .u64 100000000))),nk 1 (.mv (.v 0))]) (.seq (.reg [nl (.mv (.s 5)),nl (.bin .quo 336 (.v 0) (.c (.i .u32 10000))),nl (.mv (.s 5)),nl (.bin .rem 336 (.v 0) (.c (.i .u32 10000))),nk 6 (.mv (.v 2)),nk 7 (.mv (.v 0))]) (.seq (.reg [nl (.mv (.s 7)),nl (.bin .quo 336 (.v 0) (.c (.i .u32 100))),nl (.bin .mul 336 (.v 0) (.c (.i .u32 2))),nl (.mv (.s 7)),nl (.bin .rem 336 (.v 0) (.c (.i .u32 100))),nl (.bin .mul 336 (.v 0) (.c (.i .u32 2))),nk 8 (.mv (.v 3)),nk 9 (.mv (.v 0))]) (.seq (.reg [nl (.mv (.s 6)),nl (.bin .quo 336 (.v 0) (.c (.i .u32 100))),nl (.bin .mul 336 (.v 0) (.c (.i .u32 2))),nl (.mv (.s 6)),nl (.bin .rem 336 (.v 0) (.c (.i .u32 100))),nl (.bin .mul 336 (.v 0) (.c (.i .u32 2))),nk 10 (.mv (.v 3)),nk 11 (.mv (.v 0))]) (.seq (.fV 0 [mq 0 [] (.mv (.s 0)),mq 0 [] (.mv (.s 4)),mq 0 [1] (.bin .sub 3 (.v 0) (.c (.i .i64 1))),mq 0 [] (.mv (.s 0)),mq 0 [] (.mv (.s 4)),mq 0 [4] (.bin .sub 3 (.v 0) (.c (.i .i64 2))),mq 0 [] (.mv (.s 9)),mq 0 [6] (.bin .add 336 (.v 0) (.c (.i .u32 1))),mq 0 [7] (.z_ (.c (.s zL)) (.v 0)),mq 0 [] (.mv (.s 9)),mq 0 [9] (.z_ (.c (.s zL)) (.v 0)),mq 0 [0,2] (.bJ 1 (.v 0) (.v 1)),mq 3 [8,11] (.st 1 (.v 1) (.v 0)),mq 0 [3,5] (.bJ 1 (.v 0) (.v 1)),mq 3 [10,13] (.st 1 (.v 1) (.v 0))] [] []) (.seq (.fV 0 [mq 0 [] (.mv (.s 0)),mq 0 [] (.mv (.s 4)),mq 0 [1] (.bin .sub 3 (.v 0) (.c (.i .i64 3))),mq 0 [] (.mv (.s 0)),mq 0 [] (.mv (.s 4)),mq 0 [4] (.bin .sub 3 (.v 0) (.c (.i .i64 4))),mq 0 [] (.mv (.s 8)),mq 0 [6] (.bin .add 336 (.v 0) (.c (.i .u32 1))),mq 0 [7] (.z_ (.c (.s zL)) (.v 0)),mq 0 [] (.mv (.s 8)),mq 0 [9] (.z_ (.c (.s zL)) (.v 0)),mq 0 [0,2] (.bJ 1 (.v 0) (.v 1)),mq 3 [8,11] (.st 1 (.v 1) (.v 0)),mq 0 [3,5] (.bJ 1 (.v 0) (.v 1)),mq 3 [10,13] (.st 1 (.v 1) (.v 0))] [] []) (.seq (.fV 0 [mq 0 [] (.mv (.s 0)),mq 0 [] (.mv (.s 4)),mq 0 [1] (.bin .sub 3 (.v 0) (.c (.i .i64 5))),mq 0 [] (.mv (.s 0)),mq 0 [] (.mv (.s 4)),mq 0 [4] (.bin .sub 3 (.v 0) (.c (.i .i64 6))),mq 0 [] (.mv (.s 11)),mq 0 [6] (.bin .add 336 (.v 0) (.c (.i .u32 1))),mq 0 [7] (.z_ (.c (.s zL)) (.v 0)),mq 0 [] (.mv (.s 11)),mq 0 [9] (.z_ (.c (.s zL)) (.v 0)),mq 0 [0,2] (.bJ 1 (.v 0) (.v 1)),mq 3 [8,11] (.st 1 (.v 1) (.v 0)),mq 0 [3,5] (.bJ 1 (.v 0) (.v 1)),mq 3 [10,13] (.st 1 (.v 1) (.v 0))] [] []) (.seq (.fV 0 [mq 0 [] (.mv (.s 0)),mq 0 [] (.mv (.s 4)),mq 0 [1] (.bin .sub 3 (.v 0) (.c (.i .i64 7))),mq 0 [] (.mv (.s 0)),mq 0 [] (.mv (.s 4)),mq 0 [4] (.bin .sub 3 (.v 0) (.c (.i .i64 8))),mq 0 [] (.mv (.s 10)),mq 0 [6] (.bin .add 336 (.v 0) (.c (.i .u32 1))),mq 0 [7] (.z_ (.c (.s zL)) (.v 0)),mq 0 [] (.mv (.s 10)),mq 0 [9] (.z_ (.c (.s zL)) (.v 0)),mq 0 [0,2] (.bJ 1 (.v 0) (.v 1)),mq 3 [8,11] (.st 1 (.v 1) (.v 0)),mq 0 [3,5] (.bJ 1 (.v 0) (.v 1)),mq 3 [10,13] (.st 1 (.v 1) (.v 0))] [] []) (.reg [nl (.mv (.s 4)),nl (.bin .sub 3 (.v 0) (.c (.i .i64 8))),nk 4 (.mv (.v 0))]))))))))))))
def Vj:MC:=(.seq (.reg [nl (.mv (.s 0)),nl (.aW (.v 0)),nk 4 (.mv (.v 0))]) (.seq (.blk 0 (.loop F7)) (.seq (.reg [nl (.mv (.s 1)),nl (.Di .u32 (.v 0)),nk 12 (.mv (.v 0))]) (.seq (.seq (.reg [nl (.mv (.s 4)),nk 99 (.bin .geq 3 (.v 0) (.c (.i .i64 4)))]) (.cond (.s 99) (.seq (.reg [nl (.mv (.s 12)),nl (.bin .rem 336 (.v 0) (.c (.i .u32 10000))),nk 13 (.mv (.v 0))]) (.seq (.reg [nl (.mv (.s 12)),nl (.bin .quo 336 (.v 0) (.c (.i .u32 10000))),nk 12 (.mv (.v 0))]) (.seq (.reg [nl (.mv (.s 13)),nl (.bin .quo 336 (.v 0) (.c (.i .u32 100))),nl (.bin .mul 336 (.v 0) (.c (.i .u32 2))),nl (.mv (.s 13)),nl (.bin .rem 336 (.v 0) (.c (.i .u32 100))),nl (.bin .mul 336 (.v 0) (.c (.i .u32 2))),nk 14 (.mv (.v 3)),nk 15 (.mv (.v 0))]) (.seq (.fV 0 [mq 0 [] (.mv (.s 0)),mq 0 [] (.mv (.s 4)),mq 0 [1] (.bin .sub 3 (.v 0) (.c (.i .i64 1))),mq 0 [] (.mv (.s 0)),mq 0 [] (.mv (.s 4)),mq 0 [4] (.bin .sub 3 (.v 0) (.c (.i .i64 2))),mq 0 [] (.mv (.s 15)),mq 0 [6] (.bin .add 336 (.v 0) (.c (.i .u32 1))),mq 0 [7] (.z_ (.c (.s zL)) (.v 0)),mq 0 [] (.mv (.s 15)),mq 0 [9] (.z_ (.c (.s zL)) (.v 0)),mq 0 [0,2] (.bJ 1 (.v 0) (.v 1)),mq 3 [8,11] (.st 1 (.v 1) (.v 0)),mq 0 [3,5] (.bJ 1 (.v 0) (.v 1)),mq 3 [10,13] (.st 1 (.v 1) (.v 0))] [] []) (.seq (.fV 0 [mq 0 [] (.mv (.s 0)),mq 0 [] (.mv (.s 4)),mq 0 [1] (.bin .sub 3 (.v 0) (.c (.i .i64 3))),mq 0 [] (.mv (.s 0)),mq 0 [] (.mv (.s 4)),mq 0 [4] (.bin .sub 3 (.v 0) (.c (.i .i64 4))),mq 0 [] (.mv (.s 14)),mq 0 [6] (.bin .add 336 (.v 0) (.c (.i .u32 1))),mq 0 [7] (.z_ (.c (.s zL)) (.v 0)),mq 0 [] (.mv (.s 14)),mq 0 [9] (.z_ (.c (.s zL)) (.v 0)),mq 0 [0,2] (.bJ 1 (.v 0) (.v 1)),mq 3 [8,11] (.st 1 (.v 1) (.v 0)),mq 0 [3,5] (.bJ 1 (.v 0) (.v 1)),mq 3 [10,13] (.st 1 (.v 1) (.v 0))] [] []) (.reg [nl (.mv (.s 4)),nl (.bin .sub 3 (.v 0) (.c (.i .i64 4))),nk 4 (.mv (.v 0))])))))) .skip)) (.seq (.seq (.reg [nl (.mv (.s 4)),nk 139 (.bin .geq 3 (.v 0) (.c (.i .i64 2)))]) (.cond (.s 139) (.seq (.reg [nl (.mv (.s 12)),nl (.bin .rem 336 (.v 0) (.c (.i .u32 100))),nl (.bin .mul 336 (.v 0) (.c (.i .u32 2))),nk 16 (.mv (.v 0))]) (.seq (.reg [nl (.mv (.s 12)),nl (.bin .quo 336 (.v 0) (.c (.i .u32 100))),nk 12 (.mv (.v 0))]) (.seq (.fV 0 [mq 0 [] (.mv (.s 0)),mq 0 [] (.mv (.s 4)),mq 0 [1] (.bin .sub 3 (.v 0) (.c (.i .i64 1))),mq 0 [] (.mv (.s 0)),mq 0 [] (.mv (.s 4)),mq 0 [4] (.bin .sub 3 (.v 0) (.c (.i .i64 2))),mq 0 [] (.mv (.s 16)),mq 0 [6] (.bin .add 336 (.v 0) (.c (.i .u32 1))),mq 0 [7] (.z_ (.c (.s zL)) (.v 0)),mq 0 [] (.mv (.s 16)),mq 0 [9] (.z_ (.c (.s zL)) (.v 0)),mq 0 [0,2] (.bJ 1 (.v 0) (.v 1)),mq 3 [8,11] (.st 1 (.v 1) (.v 0)),mq 0 [3,5] (.bJ 1 (.v 0) (.v 1)),mq 3 [10,13] (.st 1 (.v 1) (.v 0))] [] []) (.reg [nl (.mv (.s 4)),nl (.bin .sub 3 (.v 0) (.c (.i .i64 2))),nk 4 (.mv (.v 0))])))) .skip)) (.seq (.reg [nl (.mv (.s 4)),nk 161 (.bin .gtr 3 (.v 0) (.c (.i .i64 0)))]) (.cond (.s 161) (.reg [nl (.mv (.s 0)),nl (.mv (.s 12)),nl (.bin .add 336 (.c (.i .u32 48)) (.v 0)),nl (.Di .u8 (.v 0)),nl (.bJ 1 (.v 3) (.c (.i .i64 0))),⟨none,(.st 1 (.v 0) (.v 1)),.n⟩]) .skip)))))))
theorem ZA:dx Tryz.prog sl0 288=some ([true,true],Vj,[]):=by kernel_rfl
def Vk:MC:=(.seq (.reg [nk 4 (.mv (.c (.s [])))]) (.seq (.seq (.reg [nl (.mv (.s 1)),nk 11 (.bin .eql 3 (.v 0) (.c (.i .i64 10)))]) (.cond (.s 11) (.seq (.seq (.reg [nl (.mv (.s 0)),nl (.bin .leq 2 (.c (.i .i64 0)) (.v 0)),nl (.mv (.v 0)),ng 0 true (.mv (.s 0)),ng 1 true (.bin .lss 2 (.v 0) (.c (.i .i64 100))),nk 17 (.pick (.v 2) (.v 0) (.c (.b false)))]) (.cond (.s 17) (.seq (.reg [nl (.mv (.s 0)),nl (.call (.c (.f 286 [])) [(.v 0)]),nk 4 (.mv (.v 0))]) .ret) .skip)) (.seq (.reg [nk 5 (.al 402 [(.i .u8 0),(.i .u8 0),(.i .u8 0),(.i .u8 0),(.i .u8 0),(.i .u8 0),(.i .u8 0),(.i .u8 0),(.i .u8 0),(.i .u8 0),(.i .u8 0),(.i .u8 0),(.i .u8 0),(.i .u8 0),(.i .u8 0),(.i .u8 0),(.i .u8 0),(.i .u8 0),(.i .u8 0),(.i .u8 0),(.i .u8 0),(.i .u8 0),(.i .u8 0),(.i .u8 0)])]) (.seq (.reg [nl (.mv (.s 0)),nl (.Di .u64 (.v 0)),nk 6 (.mv (.v 0))]) (.seq (.seq (.reg [nl (.mv (.s 0)),nk 23 (.bin .lss 2 (.v 0) (.c (.i .i64 0)))]) (.cond (.s 23) (.reg [nl (.mv (.s 6)),nl (.neg (.v 0)),nk 6 (.mv (.v 0))]) .skip)) (.seq (.reg [nl (.mv (.s 6)),nl (.call (.c (.f 287 [])) [(.v 0)]),nk 7 (.mv (.v 0))]) (.seq (.reg [nl (.mv (.s 7)),nl (.bin .add 3 (.c (.i .i64 1)) (.v 0)),nl (.Lj 1 24 (.s 5) (some (.c (.i .i64 1))) (some (.v 0))),nl (.mv (.s 6)),nl (.call (.c (.f 288 [])) [(.v 1),(.v 0)])]) (.seq (.seq (.reg [nl (.mv (.s 0)),nk 34 (.bin .lss 2 (.v 0) (.c (.i .i64 0)))]) (.cond (.s 34) (.seq (.reg [nl (.ER 1 24 (.s 5) (.c (.i .i64 0))),⟨none,(.st 1 (.v 0) (.c (.i .u8 45))),.n⟩]) (.seq (.reg [nl (.mv (.s 7)),nl (.bin .add 3 (.c (.i .i64 1)) (.v 0)),nl (.Lj 1 24 (.s 5) none (some (.v 0))),nl (.Jb (.v 0)),nk 4 (.mv (.v 0))]) .ret)) .skip)) (.seq (.reg [nl (.mv (.s 7)),nl (.bin .add 3 (.c (.i .i64 1)) (.v 0)),nl (.Lj 1 24 (.s 5) (some (.c (.i .i64 1))) (some (.v 0))),nl (.Jb (.v 0)),nk 4 (.mv (.v 0))]) .ret)))))))) .skip)) (.seq (.reg [nl (.mv (.s 0)),nl (.Di .u64 (.v 0)),nl (.mv (.s 1)),nl (.mv (.s 0)),nl (.bin .lss 2 (.v 0) (.c (.i .i64 0))),nl (.call (.c (.f 289 [])) [(.c (.k 1)),(.v 3),(.v 2),(.v 0),(.c (.b false))]),nl (.mv (.v 0)),nl (.ext (.v 0) 0),nl (.ext (.v 1) 1),nl (.mv (.v 1)),nk 9 (.mv (.v 1))]) (.seq (.reg [nl (.mv (.s 9)),nk 4 (.mv (.v 0))]) .ret))))
theorem afq:dx Tryz.prog sl0 254=some ([true,true],Vk,[(.t 4)]):=by kernel_rfl
def ZB:MC:=(.seq (.reg [nk 2 (.mv (.c (.s [])))]) (.seq (.reg [nl (.mv (.s 0)),nl (.call (.c (.f 254 [])) [(.v 0),(.c (.i .i64 10))]),nk 2 (.mv (.v 0))]) .ret))
theorem afr:dx Tryz.prog sl0 191=some ([true],ZB,[(.t 2)]):=by kernel_rfl
def ZC:MC:=(.seq (.reg [nk 2 (.mv (.c (.s [])))]) (.seq (.reg [nl (.mv (.s 0)),nl (.call (.c (.f 191 [])) [(.v 0)]),nk 2 (.mv (.v 0))]) .ret))
theorem c117:dx Tryz.prog sl0 117=some ([true],ZC,[(.t 2)]):=by kernel_rfl
end
end
section
noncomputable section
def dg(k:Nat):UInt8:=UInt8.ofNat (48+k)
def dec(u:Nat):List UInt8:=if u<10 then[dg u]else if u<100 then[dg (u/10),dg (u % 10)]else if u<1000 then[dg (u/100),dg (u/10 % 10),dg (u % 10)]else[dg (u/1000),dg (u/100 % 10),dg (u/10 % 10),dg (u % 10)]
def tn(x:Int):List UInt8:=if x<0 then 45::dec x.natAbs else dec x.toNat
theorem SG{v:AV}{l:List UInt8}(h:IK v (.s l)=true):v= .s l:=xV _ _ h
def Vl:List UInt8:=[48,49,50,51,52,53,54,55,56,57,97,98,99,100,101,102,103,104,105,106,107,108,109,110,111,112,113,114,115,116,117,118,119,120,121,122]
theorem F8{f:Nat->Bool}{n:Nat}(h:(List.range n).all f=true){k:Nat}(hk:k<n):f k=true:=List.all_eq_true.1 h k (List.mem_range.2 hk)
theorem QL:(List.range 10).all (λk=>match oh Vl (some (k:Nat)) (some ((k+1:Nat):Int))with|some v=>IK v (.s [dg k])|none=>false)=true:=by kernel_rfl
theorem Vm:(List.range 100).all (λk=>match oh zL (some ((k*2:Nat):Int)) (some ((k*2+2:Nat):Int))with|some v=>IK v (.s [dg (k/10),dg (k % 10)])|none=>false)=true:=by kernel_rfl
theorem QM:(List.range 100).all (λk=>match zL[k*2]?,zL[k*2+1]? with|some a,some b=>a==dg (k/10)&&b==dg (k % 10)|_,_=>false)=true:=by kernel_rfl
theorem Vn{k:Nat}(hk:k<10):oh Vl (some (k:Nat)) (some ((k+1:Nat):Int))=some (.s [dg k]):=by
 have h:=F8 QL hk;split at h
 .rename_i v hv;rw[hv,SG h]
 .cases h
theorem sm_at{k:Nat}(hk:k<100):oh zL (some ((k*2:Nat):Int)) (some ((k*2+2:Nat):Int))=some (.s [dg (k/10),dg (k % 10)]):=by
 have h:=F8 Vm hk;split at h
 .rename_i v hv;rw[hv,SG h]
 .cases h
theorem F9{k:Nat}(hk:k<100):zL[k*2]?=some (dg (k/10))/\zL[k*2+1]?=some (dg (k % 10)):=by
 have h:=F8 QM hk;split at h
 .rename_i a b h1 h2
  simp only[Bool.and_eq_true,beq_iff_eq]at h;exact⟨by rw[h1,h.1],by rw[h2,h.2]⟩
 .cases h
section
variable {P:Program} {ty:TypeId} {k:IntKind} {a b:Int}
theorem pI:(d_ P ty .lss).run (.i k a) (.i k b)=some (.b (decide (a<b))):=by
 show bc (wJ k k) (some (AV.b (pV (kM b a)))) none=_;rw[show wJ k k=true by cases k<;>rfl,bF,RQ]
theorem Nc:(d_ P ty .mul).run (.i k a) (.i k b)=some (.i k (gF k (a*b))):=by cases k<;>rfl
theorem Nf:(d_ P ty .add).run (.i k a) (.i k b)=some (.i k (gF k (a+b))):=by cases k<;>rfl
theorem Ng(hb:b≠0):(d_ P ty .quo).run (.i k a) (.i k b)=some (.i k (gF k (Int.tdiv a b))):=by
 show bc (wJ k k) (bc (fJ b 0) none (some (AV.i k (gF k (Int.tdiv a b))))) none=_;rw[show wJ k k=true by cases k<;>rfl,bF,cO,show decide (b=0)=false by simpa using hb,fU]
theorem Nh(hb:b≠0):(d_ P ty .rem).run (.i k a) (.i k b)=some (.i k (Int.tmod a b)):=by
 show bc (wJ k k) (bc (fJ b 0) none (some (AV.i k (Int.tmod a b)))) none=_;rw[show wJ k k=true by cases k<;>rfl,bF,cO,show decide (b=0)=false by simpa using hb,fU]
theorem nR{x:Int}(h1:0<=x)(h2:x<=4294967295):gF .u32 x=x:=by
 unfold gF;rw[eX,eX,show IntKind.u32.min=0 from by decide,show IntKind.u32.max=4294967295 from by decide];simp[h1,h2,bc]
theorem afs{x:Int}(h1:0<=x)(h2:x<=255):gF .u8 x=x:=by
 unfold gF;rw[eX,eX,show IntKind.u8.min=0 from by decide,show IntKind.u8.max=255 from by decide];simp[h1,h2,bc]
end
@[go_sem] theorem aiD {c:List UInt8} {lo hi:Option Int}:Ya (some (.s c)) (some lo) (some hi)=oh c lo hi:=rfl
section
variable {h:AH} {n:Nat} {Q:AV->AH->Nat->Prop}
theorem DR(K:Nat){u:Nat}(hu:u<100)(hQ:∀h' n',Up h n h' n'->Q (.s (dec u)) h' n'):CW (EF (K+1)) 286 [.i .i64 (u:Nat)] h n Q:=by
 refine aD afp rfl ?_;have w1:gF .i64 ((u:Int)+1)=((u+1:Nat):Int):=by rw[dM (by omega) (by omega)];rfl
 have w2:gF .i64 ((u:Int)*2)=((u*2:Nat):Int):=by rw[dM (by omega) (by omega)];rfl
 have w3:gF .i64 (((u*2:Nat):Int)+2)=((u*2+2:Nat):Int):=by rw[dM (by omega) (by omega)];rfl
 by_cases h10:u<10
 .have hd:decide ((u:Int)<10)=true:=decide_eq_true (by omega)
  have hs:=Vn h10;unfold Vl at hs;have hdec:dec u=[dg u]:=by unfold dec;rw[if_pos h10]
  rw[hdec]at hQ;repeat' (first|(simp (disch:=omega) only[go_sem,Vi,hd,w1,hs])|(refine aS ?_ ?_<;>(intro hb hd;rw[hb];clear hb))|(with_reducible refine aj ?_))
  exact hQ _ _ aH
 .have hd:decide ((u:Int)<10)=false:=decide_eq_false (by omega)
  have hs:=sm_at hu;have hdec:dec u=[dg (u/10),dg (u % 10)]:=by unfold dec;rw[if_neg h10,if_pos hu]
  rw[hdec]at hQ;repeat' (first|(simp (disch:=omega) only[go_sem,Vi,hd,w2,w3,hs])|(refine aS ?_ ?_<;>(intro hb hd;rw[hb];clear hb))|(with_reducible refine aj ?_))
  exact hQ _ _ aH
@[go_sem] theorem vP {c:List UInt8} {k:Nat} {j:IntKind} {b:UInt8} (h:k<1048576) (e:c[k]?=some b):LJ (some (.s c)) (some (.i j (k:Nat)))=some (.i .u8 (Int.ofNat b.toNat)):=by
 show Em (k:Nat) 1048576 (λk=>bnd (hd (qC k c)) λb=>some (.i .u8 (Int.ofNat b.toNat)))=_;rw[Sw (by omega) (by omega)];show bnd (hd (qC k c)) _=_;rw[mP,e];rfl
theorem SH{w b len:Nat}{k:Int}{c:Option Nat}(h0:0<=k)(h1:k<(len:Nat)):fQ w (some (.sl b 0 0 len c)) (some (.i .i64 k))=some (.p b (k.toNat*w)):=by
 obtain⟨i,rfl⟩:=Int.eq_ofNat_of_zero_le h0;rw[bU (by omega)];simp
theorem SI{S:SK}{d:MD}{r:List MR}{l':List AV}{s:List It}{f:FT}{F:Fm}{Q:PQ}{w b len:Nat}{k:Int}{c:Option Nat}(h0:0<=k)(h1:k<(len:Nat)):R8 S w (some (.sl b 0 0 len c)) (some (.i .i64 k)) d r l' s f h n F Q=mI S d (.p b (k.toNat*w)) r l' s f h n F Q:=by
 obtain⟨i,rfl⟩:=Int.eq_ofNat_of_zero_le h0;rw[b_ (by omega)];simp
abbrev QN(b:UInt8):AV:=.i .u8 (Int.ofNat b.toNat)
theorem QO(K:Nat){u ab T:Nat}(h1:100<=u)(h2:u<1000){z0 z1 z2:AV}{rest:List AV}(hr:h.get ab=some (.row T (z0::z1::z2::rest)))
 (hQ:∀h' n',UX (λx=>x=ab) h n h' n'->h'.get ab=some (.row T (QN (dg (u/100))::QN (dg (u/10 % 10))::QN (dg (u % 10))::rest))->Q (.bS []) h' n'):CW (EF (K+1)) 288 [.sl ab 0 0 3 (some 24),.i .u64 (u:Nat)] h n Q:=by
 refine aD ZA rfl ?_;repeat' (first|(simp (disch:=omega) only[go_sem,Vj,Ab (v:=.sl ab 0 0 3 (some 24)) (m:=3) rfl])|(refine aS ?_ ?_<;>(intro hb hd;rw[hb];clear hb))|(with_reducible refine aj ?_))
 refine jo (λm h2 n2 F=>h2=h/\n2=n/\F=[(0,.sl ab 0 0 3 (some 24)),(1,.i .u64 (u:Nat)),(4,.i .i64 3)]) 0 (by omega) ⟨_,⟨rfl,rfl,rfl⟩,by(repeat' (first|exact aP|refine aN rfl ?_))⟩ ?_;rintro m _ _ F ⟨rfl,rfl,rfl⟩;have e1:gF .u32 (u:Nat)=(u:Nat):=nR (by omega) (by omega);have e2:Int.tmod (u:Nat) 100=((u % 100:Nat):Int):=by rw[Int.tmod_eq_emod_of_nonneg (by omega)];rfl
 have e3:gF .u32 (((u % 100:Nat):Int)*2)=((u % 100*2:Nat):Int):=by rw[nR (by omega) (by omega)];rfl
 have e4:gF .u32 (Int.tdiv (u:Nat) 100)=((u/100:Nat):Int):=by rw[Int.tdiv_eq_ediv_of_nonneg (by omega),nR (by omega) (by omega)];rfl
 have e5:gF .u32 (((u % 100*2:Nat):Int)+1)=((u % 100*2+1:Nat):Int):=by rw[nR (by omega) (by omega)];rfl
 have e6:gF .u32 (48+((u/100:Nat):Int))=((48+u/100:Nat):Int):=by rw[nR (by omega) (by omega)];rfl
 have e7:gF .u8 ((48+u/100:Nat):Int)=((48+u/100:Nat):Int):=afs (by omega) (by omega);obtain⟨s1,s2⟩:=F9 (k:=u % 100) (by omega);repeat' (first|(simp (disch:=omega) only[go_sem,F7,Nh,Ng,Nc,Nf,e1,e2,e3,e4,e5,e6,e7,Int.reduceLE,Int.reduceLT,Int.reduceSub,Int.reduceEq,vP (by omega) s1,vP (by omega) s2,hr,SH,SI,dM])|(refine aS ?_ ?_<;>(intro hb hd;rw[hb];clear hb))|(with_reducible refine aj ?_))
 have d1:u % 100/10=u/10 % 10:=by omega
 have d2:u % 100 % 10=u % 10:=by omega
 have d3:AV.i .u8 ((48+u/100:Nat):Int)=QN (dg (u/100)):=by
  show AV.i .u8 _=AV.i .u8 (((UInt8.ofNat (48+u/100)).toNat:Nat):Int);have:(UInt8.ofNat (48+u/100)).toNat=48+u/100:=by simp;omega
  rw[this]
 rw[d1,d2,d3];exact hQ _ _ ((((UX.refl (X:=λx=>x=ab)).set (.inl rfl) (Nat.le_refl _)).set (.inl rfl) (Nat.le_refl _)).set (.inl rfl) (Nat.le_refl _)) aG
theorem QS(K:Nat){u ab T:Nat}(h1:1000<=u)(h2:u<10000){z0 z1 z2 z3:AV}{rest:List AV}(hr:h.get ab=some (.row T (z0::z1::z2::z3::rest)))
 (hQ:∀h' n',UX (λx=>x=ab) h n h' n'->h'.get ab=some (.row T (QN (dg (u/1000))::QN (dg (u/100 % 10))::QN (dg (u/10 % 10))::QN (dg (u % 10))::rest))->Q (.bS []) h' n'):CW (EF (K+1)) 288 [.sl ab 0 0 4 (some 24),.i .u64 (u:Nat)] h n Q:=by
 refine aD ZA rfl ?_;repeat' (first|(simp (disch:=omega) only[go_sem,Vj,Ab (v:=.sl ab 0 0 4 (some 24)) (m:=4) rfl])|(refine aS ?_ ?_<;>(intro hb hd;rw[hb];clear hb))|(with_reducible refine aj ?_))
 refine jo (λm h2 n2 F=>h2=h/\n2=n/\F=[(0,.sl ab 0 0 4 (some 24)),(1,.i .u64 (u:Nat)),(4,.i .i64 4)]) 0 (by omega) ⟨_,⟨rfl,rfl,rfl⟩,by(repeat' (first|exact aP|refine aN rfl ?_))⟩ ?_;rintro m _ _ F ⟨rfl,rfl,rfl⟩;have e1:gF .u32 (u:Nat)=(u:Nat):=nR (by omega) (by omega);have e2:Int.tmod (u:Nat) 10000=((u:Nat):Int):=by rw[Int.tmod_eq_emod_of_nonneg (by omega)];omega
 have e3:gF .u32 (Int.tdiv (u:Nat) 100)=((u/100:Nat):Int):=by rw[Int.tdiv_eq_ediv_of_nonneg (by omega),nR (by omega) (by omega)];rfl
 have e4:Int.tmod (u:Nat) 100=((u % 100:Nat):Int):=by rw[Int.tmod_eq_emod_of_nonneg (by omega)];rfl
 have e5:gF .u32 (((u % 100:Nat):Int)*2)=((u % 100*2:Nat):Int):=by rw[nR (by omega) (by omega)];rfl
 have e6:gF .u32 (((u/100:Nat):Int)*2)=((u/100*2:Nat):Int):=by rw[nR (by omega) (by omega)];rfl
 have e7:gF .u32 (((u % 100*2:Nat):Int)+1)=((u % 100*2+1:Nat):Int):=by rw[nR (by omega) (by omega)];rfl
 have e8:gF .u32 (((u/100*2:Nat):Int)+1)=((u/100*2+1:Nat):Int):=by rw[nR (by omega) (by omega)];rfl
 have e9:gF .u32 (Int.tdiv (u:Nat) 10000)=0:=by rw[Int.tdiv_eq_ediv_of_nonneg (by omega),nR (by omega) (by omega)];omega
 obtain⟨s1,s2⟩:=F9 (k:=u % 100) (by omega);obtain⟨s3,s4⟩:=F9 (k:=u/100) (by omega);repeat' (first|(simp (disch:=omega) only[go_sem,F7,Nh,Ng,Nc,Nf,e1,e2,e3,e4,e5,e6,e7,e8,e9,Int.reduceLE,Int.reduceLT,Int.reduceSub,Int.reduceEq,vP (by omega) s1,vP (by omega) s2,vP (by omega) s3,vP (by omega) s4,hr,SH,SI,dM])|(refine aS ?_ ?_<;>(intro hb hd;rw[hb];clear hb))|(with_reducible refine aj ?_))
 have d1:u % 100/10=u/10 % 10:=by omega
 have d2:u % 100 % 10=u % 10:=by omega
 have d3:u/100/10=u/1000:=by omega
 rw[d1,d2,d3];exact hQ _ _ (((((UX.refl (X:=λx=>x=ab)).set (.inl rfl) (Nat.le_refl _)).set (.inl rfl) (Nat.le_refl _)).set (.inl rfl) (Nat.le_refl _)).set (.inl rfl) (Nat.le_refl _)) aG
theorem ZE{u:Nat}(h1:1000<=u)(h2:u<10000):Lib.nDigits u=4:=by
 rw[Lib.nDigits_big (by omega),Lib.nDigits_big (by omega),Lib.nDigits_big (by omega),Lib.nDigits_small (by omega)]
theorem ZF{u:Nat}(h1:100<=u)(h2:u<1000):Lib.nDigits u=3:=by
 rw[Lib.nDigits_big (by omega),Lib.nDigits_big (by omega),Lib.nDigits_small (by omega)]
theorem SN(K:Nat){u:Nat}(h1:1<=u)(h2:u<10000)(hQ:Q (.i .i64 (Lib.nDigits u:Nat)) h n):CW (EF (K+1)) 287 [.i .u64 (u:Nat)] h n Q:=by
 refine⟨_,_,_,?_,hQ⟩;show@Option.rec fq (λ_=>fq) _ (λr=>r) (bc (Nat.beq 287 P6) none (bc (Nat.beq 287 Uj) (bc (Nat.ble 1 u) (bc (Nat.ble u 18446744073709551615) (some (fq.ok (.i .i64 (Lib.nDigits u:Nat)) h n)) none) none) none))=_;rw[show Nat.beq 287 P6=false from rfl,fU,show Nat.beq 287 Uj=true from rfl,bF,Nat.ble_eq_true_of_le (by omega),bF,Nat.ble_eq_true_of_le (by omega),bF]
theorem xB(u:Nat):(dec u).length<=4:=by
 unfold dec;split
 .simp
 .split
  .simp
  .split<;>simp
theorem aft{u:Nat}(h0:0<u)(h1:u<10000):gF .u64 (0 - gF .u64 (-(u:Int)))=(u:Nat):=by
 rw[uV,uV];simp only[IntKind.wrap,IntKind.signed,IntKind.bits,Bool.false_and,Bool.false_eq_true,↓reduceIte];omega
theorem Ic(K:Nat){dst:AV}{l:List UInt8}(g:Gr h n 5 1 dst bv l)(hl:l.length<=1000000){u:Nat}(hu:u<10000)
 (hQ:∀v' h' n',Gr h' n' 5 1 v' bv (l++dec u)->n<=n'->(∀x,x<n->¬blk dst x->h'.get x=h.get x)->(∀x,blk v' x->blk dst x\/n<=x)->Q v' h' n'):CW (EF (K+2)) 282 [dst,.i .u64 (u:Nat),.i .i64 10] h n Q:=by
 have hdl:=xB u;refine aD afo rfl ?_;by_cases Vo:u<100
 .have hd:decide ((u:Int)<100)=true:=decide_eq_true (by omega)
  have e1:gF .i64 (u:Nat)=(u:Nat):=dM (by omega) (by omega);repeat' (first|(simp (disch:=omega) only[go_sem,ub.old,F6,pI,hd,e1,Int.reduceEq])|(simp (disch:=omega) only[go_sem,F6,pI,hd,e1,Int.reduceEq])|((first|rw[aU]|rw[bT]);with_reducible refine DR _ Vo λh2 n2 u2=>?_;(first|replace ub:=Up.trans ub (Up.trans aH u2)|have ub:=u2);have hle:=ub.le;clear u2)|(refine aS ?_ ?_<;>(intro hb hd;rw[hb];clear hb))|(with_reducible refine aj ?_))
  refine jW (g.up ub) ae0 (by omega) λv' h3 n3 g3 l3 s3 b3=>?_;repeat' (first|(simp (disch:=omega) only[go_sem,ub.old])|(simp (disch:=omega) only[go_sem])|(refine aS ?_ ?_<;>(intro hb hd;rw[hb];clear hb))|(with_reducible refine aj ?_))
  exact hQ _ _ _ g3 (by have:=ub.le;omega) (λx hx hb=>by rw[s3 x (by have:=ub.le;omega) hb,ub.old x hx]) λx hx=>(b3 x hx).imp id λe=>by have:=ub.le;omega
 .have hd:decide ((u:Int)<100)=false:=decide_eq_false (by omega)
  by_cases h3:u<1000
  .have e3:Lib.nDigits u=3:=ZF (by omega) h3
   repeat' (first|(simp (disch:=omega) only[go_sem,ub.old,F6,pI,hd,Int.reduceEq])|(simp (disch:=omega) only[go_sem,F6,pI,hd,Int.reduceEq])|(refine aS ?_ ?_<;>(intro hb hd;rw[hb];clear hb))|(with_reducible refine aj ?_))
   rw[aU];refine SN _ (by omega) hu ?_;rw[e3];have ZG:∀b:Nat,Ji 1 24 (some (.p b 0)) (some none) (some (some ((3:Nat):Int)))=some (.sl b 0 0 3 (some 24)):=λ_=>rfl;simp (disch:=omega) only[go_sem,ZG];rw[aU];refine QO _ (by omega) h3 aG λh3 n3 u3 r3=>?_;simp (disch:=omega) only[go_sem,ZG];have u0:Up h n h3 n3:=⟨by have:=u3.le;omega,λx hx=>by rw[u3.old x (by omega) (by omega),ay (by omega)]⟩;have hdec:dec u=[dg (u/100),dg (u/10 % 10),dg (u % 10)]:=by unfold dec;rw[if_neg (by omega),if_neg Vo,if_pos (by assumption)]
   refine jW (l2:=dec u) (g.up u0) ⟨by rw[hdec];rfl,?_⟩ (by omega) λv' h4 n4 g4 l4 s4 b4=>?_
   .rw[hdec]
    show bnd (iA (h3.get n) 0 _) (λr=>mH (Nat.mul 3 1) r)=_;rw[r3];rfl
   simp (disch:=omega) only[go_sem];exact hQ _ _ _ g4 (by have:=u0.le;omega) (λx hx hb=>by rw[s4 x (by have:=u0.le;omega) hb,u0.old x hx]) λx hx=>(b4 x hx).imp id λe=>by have:=u0.le;omega
  .have e3:Lib.nDigits u=4:=ZE (by omega) hu
   repeat' (first|(simp (disch:=omega) only[go_sem,ub.old,F6,pI,hd,Int.reduceEq])|(simp (disch:=omega) only[go_sem,F6,pI,hd,Int.reduceEq])|(refine aS ?_ ?_<;>(intro hb hd;rw[hb];clear hb))|(with_reducible refine aj ?_))
   rw[aU];refine SN _ (by omega) hu ?_;rw[e3];have ZG:∀b:Nat,Ji 1 24 (some (.p b 0)) (some none) (some (some ((4:Nat):Int)))=some (.sl b 0 0 4 (some 24)):=λ_=>rfl;simp (disch:=omega) only[go_sem,ZG];rw[aU];refine QS _ (by omega) hu aG λh3 n3 u3 r3=>?_;simp (disch:=omega) only[go_sem,ZG];have u0:Up h n h3 n3:=⟨by have:=u3.le;omega,λx hx=>by rw[u3.old x (by omega) (by omega),ay (by omega)]⟩;have hdec:dec u=[dg (u/1000),dg (u/100 % 10),dg (u/10 % 10),dg (u % 10)]:=by unfold dec;rw[if_neg (by omega),if_neg Vo,if_neg (by assumption)]
   refine jW (l2:=dec u) (g.up u0) ⟨by rw[hdec];rfl,?_⟩ (by omega) λv' h4 n4 g4 l4 s4 b4=>?_
   .rw[hdec]
    show bnd (iA (h3.get n) 0 _) (λr=>mH (Nat.mul 4 1) r)=_;rw[r3];rfl
   simp (disch:=omega) only[go_sem];exact hQ _ _ _ g4 (by have:=u0.le;omega) (λx hx hb=>by rw[s4 x (by have:=u0.le;omega) hb,u0.old x hx]) λx hx=>(b4 x hx).imp id λe=>by have:=u0.le;omega
abbrev ApQ(dst:AV)(l l2:List UInt8)(h:AH)(n:Nat)(Q:AV->AH->Nat->Prop):Prop:=∀v' h' n',Gr h' n' 5 1 v' bv (l++l2)->n<=n'->(∀x,x<n->¬blk dst x->h'.get x=h.get x)->(∀x,blk v' x->blk dst x\/n<=x)->Q v' h' n'
theorem uJ{S:SK}{h:AH}{n:Nat}{dst:AV}{l:List UInt8}{d:MD}{r:List MR}{l':List AV}{s:List It}{f:FT}{F:Fm}{Q:PQ}{b:UInt8}{bi:Int}(g:Gr h n 5 1 dst bv l)(hl:l.length<=1000000)(hb:bi=(b.toNat:Int)){y:AV}{yb:Nat}(hy:y= .sl yb 0 0 1 (some 1))(hyr:h.get yb=some (.row 5 [.i .u8 bi]))
 (q:ApQ dst l [b] h n λv h n=>mI S d v r l' s f h n F Q):kR S (PY 5 1 h n (some dst) (some y)) d r l' s f F Q:=by
 subst hy;refine jW (l2:=[b]) g ⟨rfl,?_⟩ (by simp;omega) q;show bnd (iA (h.get yb) 0 _) (λr=>mH (Nat.mul 1 1) r)=_;rw[hyr,hb];rfl
theorem QT(K:Nat){dst:AV}{l:List UInt8}(g:Gr h n 5 1 dst bv l)(hl:l.length<=900000){x:Int}(h1: -10000<x)(h2:x<10000)(hQ:ApQ dst l (tn x) h n Q):CW (EF (K+3)) 250 [dst,.i .i64 x,.i .i64 10] h n Q:=by
 refine aD afn rfl ?_;by_cases h0:x<0
 .obtain⟨u,rfl⟩:∃u:Nat,x= -(u:Int):=⟨x.natAbs,by omega⟩
  have htn:tn (-(u:Int))=45::dec u:=by unfold tn;rw[if_pos h0];simp
  have hd:decide (-(u:Int)<0)=true:=decide_eq_true h0;rw[htn]at hQ;simp (disch:=omega) only[go_sem,Vh,hd];refine uJ (b:=45) (g.up aH) (by omega) rfl rfl aG λv' h3 n3 g3 l3 s3 b3=>?_;simp (disch:=omega) only[go_sem,aft (u:=u) (by omega) (by omega)];rw[aU];refine Ic _ g3 (by simp;omega) (by omega) λv4 h4 n4 g4 l4 s4 b4=>?_;simp (disch:=omega) only[go_sem];rw[List.append_assoc]at g4;refine hQ _ _ _ g4 (by omega) (λx hx hb=>?_) λx hx=>?_
  .rw[s4 x (by omega) (λe=>?_),s3 x (by omega) hb,ay (by omega)]
   rcases b3 x e with e|e
   .exact hb e
   .omega
  .rcases b4 x hx with e|e
   .rcases b3 x e with e|e
    .exact .inl e
    .exact .inr (by omega)
   .exact .inr (by omega)
 .obtain⟨u,rfl⟩:=Int.eq_ofNat_of_zero_le (show 0<=x by omega)
  have htn:tn (u:Nat)=dec u:=by unfold tn;rw[if_neg h0];simp
  rw[htn]at hQ;have hd:decide ((u:Int)<0)=false:=decide_eq_false h0;have e1:gF .u64 (u:Nat)=(u:Nat):=um (by omega) (by omega);simp (disch:=omega) only[go_sem,Vh,hd,e1];rw[aU];refine Ic _ g (by omega) (by omega) λv' h3 n3 g3 l3 s3 b3=>?_;simp (disch:=omega) only[go_sem];exact hQ _ _ _ g3 l3 s3 b3
theorem Ah(K:Nat){dst:AV}{l:List UInt8}(g:Gr h n 5 1 dst bv l)(hl:l.length<=900000){x:Int}(h1: -10000<x)(h2:x<10000)(hQ:ApQ dst l (tn x) h n Q):CW (EF (K+4)) 160 [dst,.i .i64 x,.i .i64 10] h n Q:=by
 refine aD c160 rfl ?_;simp (disch:=omega) only[go_sem,Zz];rw[aU];refine QT _ g hl h1 h2 λv' h3 n3 g3 l3 s3 b3=>?_;simp (disch:=omega) only[go_sem];exact hQ _ _ _ g3 l3 s3 b3
end
end
end
section
noncomputable section
def wr(x:Int):List UInt8:=tn x++[32]
def fl(b:Bool):List UInt8:=if b then[43]else[45]
def mkT(m:au):List UInt8:=wr m.status++wr m.left++wr m.got++wr m.aO++fl m.paused
def pJ(p:aR):List UInt8:=fl p.own++wr p.st.day++p.st.ah.flatMap wr++p.st.used.flatMap fl++p.st.marks.flatMap mkT
abbrev NB(x:Int):Prop:= -10000<x/\x<10000
structure PB(p:aR):Prop where
 day:NB p.st.day
 ah:∀x∈p.st.ah,NB x
 marks:∀m∈p.st.marks,NB m.status/\NB m.left/\NB m.got/\NB m.aO
 lh:p.st.ah.length<=1000
 lu:p.st.used.length<=1000
 lm:p.st.marks.length<=1000
theorem eD(x:Int):(wr x).length<=6:=by
 unfold wr tn;split
 .have:=xB x.natAbs;simp;omega
 .have:=xB x.toNat;simp;omega
theorem BZ(b:Bool):(fl b).length<=1:=by cases b<;>simp[fl]
theorem QU(m:au):(mkT m).length<=25:=by
 unfold mkT;have h1:=eD m.status;have h2:=eD m.left;have h3:=eD m.got;have h4:=eD m.aO;have h5:=BZ m.paused;simp only[List.length_append];omega
theorem gY{α:Type}{f:α->List UInt8}{k:Nat}(hf:∀a,(f a).length<=k)(l:List α):(l.flatMap f).length<=l.length*k:=by
 induction l with
 |nil=>simp
 |cons a l ih=>rw[List.flatMap_cons,List.length_append,List.length_cons,Nat.succ_mul];have:=hf a;omega
theorem lZ{α:Type}{f:α->List UInt8}{l:List α}{k:Nat}{a:α}(h:l[k]?=some a):(l.take (k+1)).flatMap f=(l.take k).flatMap f++f a:=by
 rw[List.take_add_one,h];simp
structure Tx(h:AH)(n:Nat)(P:Nat->Prop)(T tb:Nat)(l:List UInt8):Prop where
 hi:tb<n
 nt:¬P tb
 pr:∀x,P x->x<n
 ex:∃v,h.get tb=some (.row T [v])/\Gr h n 5 1 v bv l/\∀x,blk v x->¬P x/\x≠tb
abbrev UP(P:Nat->Prop)(h:AH)(n:Nat)(h':AH)(n':Nat):Prop:=UX (λx=>¬P x) h n h' n'
theorem UP.at_{P:Nat->Prop}{h h':AH}{n n' x:Nat}(u:UP P h n h' n')(hx:P x)(hn:x<n):h'.get x=h.get x:=u.old x hn λe=>e hx
theorem UP.wk{P P':Nat->Prop}{h h':AH}{n n':Nat}(u:UP P h n h' n')(e:∀x,P' x->P x):UP P' h n h' n':=⟨u.le,λx hx hX=>u.old x hx λk=>hX λp=>k (e x p)⟩
section
variable {P P':Nat->Prop} {h h':AH} {n n' T tb:Nat} {l:List UInt8} {Q:AV->AH->Nat->Prop}
theorem Tx.wk(t:Tx h n P T tb l)(e:∀x,P' x->P x):Tx h n P' T tb l:=by
 obtain⟨v,h1,h2,h3⟩:=t.ex;exact⟨t.hi,λp=>t.nt (e _ p),λx hx=>t.pr x (e x hx),v,h1,h2,λx hx=>⟨λp=>(h3 x hx).1 (e x p),(h3 x hx).2⟩⟩
theorem Tx.box(t:Tx h n P T tb l)(u:Up h n h' n')(hn:n<n'):Tx h' n' (λx=>P x\/x=n) T tb l:=by
 obtain⟨v,h1,h2,h3⟩:=t.ex;have hi:=t.hi;refine⟨by omega,λp=>p.elim t.nt (by omega),λx hx=>hx.elim (λp=>by have:=t.pr x p;omega) (by omega),v,(u.old _ t.hi).trans h1,h2.up u,λx hx=>⟨λp=>p.elim (h3 x hx).1 λe=>?_,(h3 x hx).2⟩⟩;have:=h2.fH hx;omega
theorem Tx.put{h0:AH}{n0:Nat}{v v':AV}{l2:List UInt8}(t:Tx h0 n0 P T tb l)(hv:h0.get tb=some (.row T [v]))(hB:∀x,blk v x->¬P x/\x≠tb)(u:Up h0 n0 h n)(g:Gr h' n' 5 1 v' bv l2)(ln:n<=n')(s:∀x,x<n->¬blk v x->h'.get x=h.get x)(b:∀x,blk v' x->blk v x\/n<=x):
 h'.get tb=some (.row T [v])/\Tx (h'.set tb (.row T [v'])) n' P T tb l2/\UP P h0 n0 (h'.set tb (.row T [v'])) n':=by
 have hlt:=t.hi;have hle:=u.le;have hne:∀x,blk v' x->¬P x/\x≠tb:=λx hx=>by
  rcases b x hx with e|e
  .exact hB x e
  .exact⟨λp=>by have:=t.pr x p;omega,by omega⟩
 refine⟨?_,⟨by omega,t.nt,λx hx=>by have:=t.pr x hx;omega,v',aG,g.on (Nat.le_refl _) λx _ hx=>ay (hne x hx).2,hne⟩,⟨by omega,λx hx hX=>?_⟩⟩
 .rw[s tb (by omega) (λe=>(hB tb e).2 rfl),u.old tb hlt];exact hv
 .have hX:P x:=Classical.byContradiction hX
  rw[ay (λe=>t.nt (by rw[<-e];exact hX)),s x (by omega) (λe=>(hB x e).1 hX),u.old x hx]
theorem UX.QV{B m:Nat}{h1 h2:AH}{n1 n2:Nat}(a:UP (λx=>x<B) h1 n1 h2 n2)(u:Up h m h1 n1)(hB:m<=B):Up h m h2 n2:=⟨Nat.le_trans u.le a.le,λx hx=>(a.at_ (show x<B by omega) (Nat.lt_of_lt_of_le hx u.le)).trans (u.old x hx)⟩
theorem mh(K:Nat)(t:Tx h n P T tb l)(hl:l.length<=800000){x:Int}(hx:NB x)(hQ:∀h' n',Tx h' n' P T tb (l++wr x)->UP P h n h' n'->Q (.bS []) h' n'):CW (EF (K+5)) 231 [.i .i64 x,.p tb 0] h n Q:=by
 obtain⟨v,h1,h2,h3⟩:=t.ex;have hlt:=t.hi;have htn:(tn x).length<=5:=by have:=eD x;unfold wr at this;simp at this;omega
 refine aD afm rfl ?_;simp (disch:=omega) only[go_sem,Zy,h1];rw[aU];refine Ah _ h2 (by omega) hx.1 hx.2 λv' h4 n4 g4 l4 s4 b4=>?_;simp (disch:=omega) only[go_sem];refine uJ (b:=32) (g4.up aH) (by simp;omega) rfl rfl aG λv5 h5 n5 g5 l5 s5 b5=>?_;have ZH:∀y,y<n->¬blk v y->h5.get y=h.get y:=λy hy hb=>by
  rw[s5 y (by omega) (λe=>by rcases b4 y e with e|e;exact hb e;omega),ay (by omega),s4 y hy hb]
 obtain⟨q1,q2,q3⟩:=t.put h1 h3 (Up.refl _ _) g5 (by omega) ZH λy hy=>by
  rcases b5 y hy with e|e
  .exact b4 y e
  .exact .inr (by omega)
 simp (disch:=omega) only[go_sem,q1,g5.cl];rw[List.append_assoc]at q2;exact hQ _ _ q2 q3
theorem B_(K:Nat)(t:Tx h n P T tb l)(hl:l.length<=800000)(b:Bool)(hQ:∀h' n',Tx h' n' P T tb (l++fl b)->UP P h n h' n'->Q (.bS []) h' n'):CW (EF (K+1)) 232 [.b b,.p tb 0] h n Q:=by
 obtain⟨v,h1,h2,h3⟩:=t.ex;have hlt:=t.hi;refine aD c232 rfl ?_;cases b with
 |true=>
  simp (disch:=omega) only[go_sem,Vg,h1];refine uJ (b:=43) (h2.up aH) (by omega) rfl rfl aG λv5 h5 n5 g5 l5 s5 b5=>?_;obtain⟨q1,q2,q3⟩:=t.put h1 h3 aH g5 (by omega) s5 b5;simp (disch:=omega) only[go_sem,q1,g5.cl];exact hQ _ _ q2 q3
 |false=>
  simp (disch:=omega) only[go_sem,Vg,h1];refine uJ (b:=45) (h2.up aH) (by omega) rfl rfl aG λv5 h5 n5 g5 l5 s5 b5=>?_;obtain⟨q1,q2,q3⟩:=t.put h1 h3 aH g5 (by omega) s5 b5;simp (disch:=omega) only[go_sem,q1,g5.cl];exact hQ _ _ q2 q3
theorem ZI{e:TypeId}{z:List AV}{h:AH}{n c:Nat}{k j:IntKind}(h2:c<=1048576):Ye e z h n (some (.i k 0)) (some (.i j (c:Nat)))=some (.ok (.sl n 0 0 0 (some c)) (h.set n (.row e (rep c z))) (n+1)):=Dw (a:=0) (Nat.zero_le _) h2
theorem mo{Y:YT}{S:SK}{q:FuncId}{a p:AV}{d:MD}{r:List MR}{l:List AV}{s:List It}{f:FT}{h:AH}{n:Nat}{F:Fm}{Q:PQ}:kF Y S (some (.f q [p])) (some [a]) d r l s f h n F Q=CW f q [a,p] h n λv h n=>mI S d v r l s f h n F Q:=rfl
@[reducible] def TS.pv (v:TS) (p:aR):List AV:=[.i .i64 p.st.day,v.h,v.u,v.m,.b p.own]
variable {tv:TS} {p:aR}
theorem JJ(l:List UInt8):og (l.flatMap bv)=some l:=by
 induction l with
 |nil=>rfl
 |cons a l ih=>
  show bnd (GN (QN a)) (λb=>bnd (og (l.flatMap bv)) λr=>some (b::r))=_;rw[ih];show bnd (bc (Nat.ble a.toNat 255) (some (UInt8.ofNat a.toNat)) none) _=_;rw[Nat.ble_eq_true_of_le (by have:=a.toNat_lt;omega),bF,UInt8.ofNat_toNat];rfl
theorem Gr.Jb{v:AV}{l:List UInt8}(g:Gr h n 5 1 v bv l):Uc h (some v)=some (.s l):=by
 have hs:=g.sl.ap;rcases g.2 with⟨rfl,rfl⟩|⟨b,cap,cells,rfl,h1,h2,h3,_⟩
 .rfl
 .show(match iV h 1 l.length (.sl b 0 0 l.length cap)with|some u=>(match og u with|some b=>some (AV.s b)|none=>none)|none=>none)=_
  rw[hs.2,];show(match og (l.flatMap bv)with|some b=>some (AV.s b)|none=>none)=_;rw[JJ]
theorem Ie(K:Nat)(hS:bZ h n tv p.st)(pb:PB p)(hQ:∀h' n',Up h n h' n'->Q (.s (pJ p)) h' n'):CW (EF (K+6)) 135 [.agg (tv.pv p)] h n Q:=by
 have lh:=pb.lh;have lu:=pb.lu;have lm:=pb.lm;have wid:gF .i64 (12*(p.st.marks.length:Int))=((12*p.st.marks.length:Nat):Int):=by rw[dM (by omega) (by omega)];rfl
 have Vp:gF .i64 (32+((12*p.st.marks.length:Nat):Int))=((32+12*p.st.marks.length:Nat):Int):=by rw[dM (by omega) (by omega)];rfl
 have z0:(0:Int)=((0:Nat):Int):=rfl;refine aD afl rfl ?_;repeat' (first|(simp (disch:=omega) only[go_sem,Zx,hS.marks.len,wid,Vp,ZI])|(refine aS ?_ ?_<;>(intro hb hd;rw[hb];clear hb))|(with_reducible refine aj ?_))
 have pub:Up h n (Tr.set h n (.row 45 (tv.pv p))) (n+1):=by exact aH
 generalize hh:Tr.set (Tr.set (Tr.set (Tr.set h n _) (n+1) _) (n+1+1) _) (n+1+1) _=h1;have u1:Up h n h1 (n+1+1+1):=by rw[<-hh];exact aH
 have q1:h1.get n=some (.row 45 (tv.pv p)):=by rw[<-hh];simp (disch:=omega) only[go_sem]
 have t1:Tx h1 (n+1+1+1) (λx=>x<n+1) 306 (n+1+1) []:=by
  refine⟨by omega,by omega,λx hx=>by omega,.sl (n+1) 0 0 0 (some (32+12*p.st.marks.length)),by rw[<-hh];simp (disch:=omega) only[go_sem],?_,λx hx=>by rw[eB]at hx;omega⟩;refine Gr.of (l:=[]) (λ_=>rfl) (by omega) (cells:=rep (32+12*p.st.marks.length) (bv 0)) (by rw[<-hh];simp (disch:=omega) only[go_sem];rfl) (by simp) (Nat.zero_le _) (by rw[je bv,bL (c:=bv) (w:=1) (λ_=>rfl)];simp)
 clear hh pub;rw[mo];refine B_ _ t1 (by simp) p.own λh2 n2 t2 u2=>?_;have q2:=(u2.at_ (Nat.lt_succ_self n) (by omega)).trans q1;have l2:=u2.le;have e1:=BZ p.own;simp (disch:=omega) only[go_sem,q2,TS.pv];rw[mo];refine mh _ t2 (by simp;omega) pb.day λh3 n3 t3 u3=>?_;have q3:=(u3.at_ (Nat.lt_succ_self n) (by omega)).trans q2;have l3:=u3.le;have e2:=eD p.st.day;have rz:UP (λx=>x<n+1) h1 (n+1+1+1) h3 n3:=u2.trans u3;simp (disch:=omega) only[go_sem,q3,TS.pv,hS.ah.len];refine cK p.st.ah.length (λk h8 n8 G=>Tx h8 n8 (λx=>x<n+1) 306 (n+1+1) (fl p.own++wr p.st.day++(p.st.ah.take k).flatMap wr)/\UP (λx=>x<n+1) h1 (n+1+1+1) h8 n8/\G=[(1,.p n 0),(3,.p (n+1+1) 0),(4,.f 231 [.p (n+1+1) 0]),(5,.f 232 [.p (n+1+1) 0]),(32,tv.h)]) (by omega) (by omega) (by omega) (by omega) (λk h8 n8 G ⟨_,_,e⟩=>by subst e;exact⟨rfl,rfl⟩) ⟨rfl,rfl,_,⟨by simpa using t3,rz,rfl⟩,by(repeat' (first|exact aP|refine aN rfl ?_))⟩ ?_ ?_
 .rintro k h8 n8 G hk ⟨t8,u8,rfl⟩
  have uu:=u8.QV u1 (Nat.le_succ n);obtain⟨b1,o1,a,i1,ha,hb1,rd⟩:=(hS.ah.up uu).fQ (k:=(k:Nat)) (by omega) (by omega) (by omega);rw[show((k:Nat):Int).toNat=k by omega]at ha;have hlen:=gY (f:=wr) (k:=6) eD (p.st.ah.take k);have htk:=List.length_take_le k p.st.ah;have hpre:(fl p.own++wr p.st.day).length<=30000:=by simp only[List.length_append];omega
  simp (disch:=omega) only[go_sem,Nb,aK i1,rd.el,rd.hd];rw[mo];refine mh _ t8 (by simp only[List.length_append];simp only[List.length_append]at hpre;omega) (pb.ah a (List.mem_of_getElem? ha)) λh9 n9 t9 u9=>?_;simp (disch:=omega) only[go_sem];rw[List.append_assoc,<-lZ ha]at t9;exact⟨rfl,rfl,_,⟨t9,u8.trans u9,rfl⟩,by(repeat' (first|exact aP|refine aN rfl ?_))⟩
 rintro h3 n3 G ⟨t3,rz,rfl⟩;rw[List.take_length]at t3;have q3:=(rz.at_ (Nat.lt_succ_self n) (by omega)).trans q1;have hlh:=gY (f:=wr) eD p.st.ah;simp (disch:=omega) only[go_sem,q3,TS.pv,hS.used.len];refine cK p.st.used.length (λk h8 n8 G=>Tx h8 n8 (λx=>x<n+1) 306 (n+1+1) (fl p.own++wr p.st.day++p.st.ah.flatMap wr++(p.st.used.take k).flatMap fl)/\UP (λx=>x<n+1) h1 (n+1+1+1) h8 n8/\G=[(1,.p n 0),(3,.p (n+1+1) 0),(4,.f 231 [.p (n+1+1) 0]),(5,.f 232 [.p (n+1+1) 0]),(44,tv.u)]) (by omega) (by omega) (by omega) (by omega) (λk h8 n8 G ⟨_,_,e⟩=>by subst e;exact⟨rfl,rfl⟩) ⟨rfl,rfl,_,⟨by simpa using t3,rz,rfl⟩,by(repeat' (first|exact aP|refine aN rfl ?_))⟩ ?_ ?_
 .rintro k h8 n8 G hk ⟨t8,u8,rfl⟩
  have uu:=u8.QV u1 (Nat.le_succ n);obtain⟨b1,o1,a,i1,ha,hb1,rd⟩:=(hS.used.up uu).fQ (k:=(k:Nat)) (by omega) (by omega) (by omega);rw[show((k:Nat):Int).toNat=k by omega]at ha;have hlen:=gY (f:=fl) (k:=1) BZ (p.st.used.take k);have htk:=List.length_take_le k p.st.used;have hpre:(fl p.own++wr p.st.day++p.st.ah.flatMap wr).length<=30000:=by simp only[List.length_append];omega
  simp (disch:=omega) only[go_sem,Na,aK i1,rd.el,rd.hd];rw[mo];refine B_ _ t8 (by simp only[List.length_append];simp only[List.length_append]at hpre;omega) a λh9 n9 t9 u9=>?_;simp (disch:=omega) only[go_sem];rw[List.append_assoc,<-lZ ha]at t9;exact⟨rfl,rfl,_,⟨t9,u8.trans u9,rfl⟩,by(repeat' (first|exact aP|refine aN rfl ?_))⟩
 rintro h3 n3 G ⟨t3,rz,rfl⟩;rw[List.take_length]at t3;have q3:=(rz.at_ (Nat.lt_succ_self n) (by omega)).trans q1;have hlu:=gY (f:=fl) BZ p.st.used;simp (disch:=omega) only[go_sem,q3,TS.pv,hS.marks.len];refine cK p.st.marks.length (λk h8 n8 G=>Tx h8 n8 (λx=>x<n+1) 306 (n+1+1) (fl p.own++wr p.st.day++p.st.ah.flatMap wr++p.st.used.flatMap fl++(p.st.marks.take k).flatMap mkT)/\UP (λx=>x<n+1) h1 (n+1+1+1) h8 n8/\G=[(1,.p n 0),(3,.p (n+1+1) 0),(4,.f 231 [.p (n+1+1) 0]),(5,.f 232 [.p (n+1+1) 0]),(56,tv.m)]) (by omega) (by omega) (by omega) (by omega) (λk h8 n8 G ⟨_,_,e⟩=>by subst e;exact⟨rfl,rfl⟩) ⟨rfl,rfl,_,⟨by simpa using t3,rz,rfl⟩,by(repeat' (first|exact aP|refine aN rfl ?_))⟩ ?_ ?_
 .rintro k h8 n8 G hk ⟨t8,u8,rfl⟩
  have uu:=u8.QV u1 (Nat.le_succ n);obtain⟨b1,o1,a,i1,ha,hb1,rd⟩:=(hS.marks.up uu).fQ (k:=(k:Nat)) (by omega) (by omega) (by omega);rw[show((k:Nat):Int).toNat=k by omega]at ha;have hlen:=gY (f:=mkT) (k:=25) QU (p.st.marks.take k);have htk:=List.length_take_le k p.st.marks;have hpre:(fl p.own++wr p.st.day++p.st.ah.flatMap wr++p.st.used.flatMap fl).length<=30000:=by simp only[List.length_append];omega
  have ha2:a=bM p.st.marks k:=by rw[fZ hk]at ha;cases ha;rfl
  have hb:=pb.marks a (List.mem_of_getElem? ha);have v1:=eD a.status;have v2:=eD a.left;have v3:=eD a.got;have v4:=eD a.aO;have hlp:(fl p.own++wr p.st.day++p.st.ah.flatMap wr++p.st.used.flatMap fl++(p.st.marks.take k).flatMap mkT).length<=60000:=by
   simp only[List.length_append]at hpre⊢;omega
  generalize fl p.own++wr p.st.day++p.st.ah.flatMap wr++p.st.used.flatMap fl=pre at*;simp (disch:=omega) only[go_sem,M_,aK i1,rd.el,rd.hd,rd.all];generalize hg:Tr.set (Tr.set h8 n8 _) n8 _=h10;have JK:Up h8 n8 h10 (n8+1):=by rw[<-hg];exact aH
  have k0:h10.get n8=some (.row 144 a.av):=by rw[<-hg];simp (disch:=omega) only[go_sem]
  have t10:=t8.box JK (Nat.lt_succ_self n8);clear hg;rw[mo];refine mh _ t10 (by simp only[List.length_append]at hlp⊢;omega) hb.1 λh11 n11 t11 SQ=>?_;have k1:=(SQ.at_ (.inr rfl) (Nat.lt_succ_self n8)).trans k0;have l11:=SQ.le;simp (disch:=omega) only[go_sem,k1];rw[mo];refine mh _ t11 (by simp only[List.length_append]at hlp⊢;omega) hb.2.1 λh12 n12 t12 wB=>?_;have k2:=(wB.at_ (.inr rfl) (by omega)).trans k1;have l12:=wB.le;simp (disch:=omega) only[go_sem,k2];rw[mo];refine mh _ t12 (by simp only[List.length_append]at hlp⊢;omega) hb.2.2.1 λh13 n13 t13 Ig=>?_;have k3:=(Ig.at_ (.inr rfl) (by omega)).trans k2;have l13:=Ig.le;simp (disch:=omega) only[go_sem,k3];rw[mo];refine mh _ t13 (by simp only[List.length_append]at hlp⊢;omega) hb.2.2.2 λh14 n14 t14 SS=>?_;have k4:=(SS.at_ (.inr rfl) (by omega)).trans k3;have JL:=SS.le;simp (disch:=omega) only[go_sem,k4];rw[mo];refine B_ _ t14 (by simp only[List.length_append]at hlp⊢;omega) a.paused λSV n15 t15 u15=>?_;simp (disch:=omega) only[go_sem];have t16:=t15.wk (P':=λx=>x<n+1) λx hx=>.inl hx;have e16:pre++(p.st.marks.take k).flatMap mkT++wr a.status++wr a.left++wr a.got++wr a.aO++fl a.paused=pre++(p.st.marks.take (k+1)).flatMap mkT:=by
   rw[lZ ha,mkT];simp only[List.append_assoc]
  rw[e16]at t16;have uu2:UP (λx=>x<n+1) h10 (n8+1) SV n15:=UP.wk (P:=λx=>x<n+1\/x=n8) (UX.trans (UX.trans (UX.trans (UX.trans SQ wB) Ig) SS) u15) λx hx=>.inl hx;exact⟨rfl,rfl,_,⟨t16,(u8.trans (UX.up JK)).trans uu2,rfl⟩,by(repeat' (first|exact aP|refine aN rfl ?_))⟩
 rintro h3 n3 G ⟨t3,rz,rfl⟩;rw[List.take_length]at t3;obtain⟨v,r1,r2,r3⟩:=t3.ex;have hcb:Uc h3 (some v)=some (.s (pJ p)):=Gr.Jb r2;simp (disch:=omega) only[go_sem,r1,hcb];exact hQ _ _ (rz.QV u1 (Nat.le_succ n))
end
end
end
section
noncomputable section
def dv(b:UInt8):Nat:=b.toNat - 48
theorem gW{k:Nat}(h:k<10):(dg k).toNat=48+k:=by unfold dg;simp;omega
def vl(l:List UInt8):Nat:=l.foldl (λx b=>x*10+(b.toNat - 48)) 0
theorem Ni{a:Nat}(ha:a<10000):vl (dec a)=a:=by
 unfold dec vl;split
 .simp only[List.foldl_cons,List.foldl_nil];rw[gW (by omega)];omega
 .split
  .simp only[List.foldl_cons,List.foldl_nil];rw[gW (by omega),gW (by omega)];omega
  .split
   .simp only[List.foldl_cons,List.foldl_nil];rw[gW (by omega),gW (by omega),gW (by omega)];omega
   .simp only[List.foldl_cons,List.foldl_nil];rw[gW (by omega),gW (by omega),gW (by omega),gW (by omega)];omega
theorem Ih{a b:Nat}(ha:a<10000)(hb:b<10000)(h:dec a=dec b):a=b:=by
 rw[<-Ni ha,h,Ni hb]
theorem Nj{a:Nat}(ha:a<10000):∀b∈dec a,48<=b.toNat/\b.toNat<58:=by
 intro b hb;unfold dec at hb;have key:∀k,k<10->b=dg k->48<=b.toNat/\b.toNat<58:=λk hk e=>by rw[e,gW hk];omega
 split at hb
 .simp at hb;exact key _ (by assumption) hb
 .split at hb
  .simp at hb;rcases hb with e|e<;>exact key _ (by omega) e
  .split at hb
   .simp at hb;rcases hb with e|e|e<;>exact key _ (by omega) e
   .simp at hb;rcases hb with e|e|e|e<;>exact key _ (by omega) e
theorem Vq{x y:Int}(hx:NB x)(hy:NB y)(h:tn x=tn y):x=y:=by
 unfold NB at hx hy;unfold tn at h;have d45:∀u:Nat,u<10000->∀r,dec u≠45::r:=λu hu r e=>by
  have:=Nj hu 45 (by rw[e];exact List.mem_cons_self);simp at this
 split at h<;>split at h
 .have:=Ih (by omega) (by omega) (List.cons.inj h).2;omega
 .exact absurd h.symm (d45 _ (by omega) _)
 .exact absurd h (d45 _ (by omega) _)
 .have:=Ih (by omega) (by omega) h;omega
theorem ZJ{x:Int}(hx:NB x):(32:UInt8)∉tn x:=by
 unfold NB at hx;unfold tn;intro h;split at h
 .rcases List.mem_cons.1 h with e|e
  .cases e
  .have:=Nj (by omega) _ e;simp at this
 .have:=Nj (by omega) _ h;simp at this
theorem QW{a b r s:List UInt8}(ha:(32:UInt8)∉a)(hb:(32:UInt8)∉b)(h:a++32::r=b++32::s):a=b/\r=s:=by
 induction a generalizing b with
 |nil=>cases b with
  |nil=>exact⟨rfl,(List.cons.inj h).2⟩
  |cons y b=>exact absurd (List.mem_cons.2 (.inl (List.cons.inj h).1)) hb
 |cons x a ih=>cases b with
  |nil=>exact absurd (List.mem_cons.2 (.inl (List.cons.inj h).1.symm)) ha
  |cons y b=>
   obtain⟨h1,h2⟩:=List.cons.inj h;obtain⟨h3,h4⟩:=ih (λe=>ha (List.mem_cons_of_mem _ e)) (λe=>hb (List.mem_cons_of_mem _ e)) h2;exact⟨by rw[h1,h3],h4⟩
theorem gD{x y:Int}{r s:List UInt8}(hx:NB x)(hy:NB y)(h:wr x++r=wr y++s):x=y/\r=s:=by
 unfold wr at h;rw[List.append_assoc,List.append_assoc]at h;obtain⟨h1,h2⟩:=QW (ZJ hx) (ZJ hy) h;exact⟨Vq hx hy h1,h2⟩
theorem za{x y:Bool}{r s:List UInt8}(h:fl x++r=fl y++s):x=y/\r=s:=by
 cases x<;>cases y<;>simp[fl]at h⊢<;>exact h
theorem Nk{x y:au}{r s:List UInt8}(hx:NB x.status/\NB x.left/\NB x.got/\NB x.aO)(hy:NB y.status/\NB y.left/\NB y.got/\NB y.aO)(h:mkT x++r=mkT y++s):x=y/\r=s:=by
 obtain⟨x1,x2,x3,x4,x5⟩:=x;obtain⟨y1,y2,y3,y4,y5⟩:=y;unfold mkT at h;simp only[List.append_assoc]at h;obtain⟨e1,h⟩:=gD hx.1 hy.1 h;obtain⟨e2,h⟩:=gD hx.2.1 hy.2.1 h;obtain⟨e3,h⟩:=gD hx.2.2.1 hy.2.2.1 h;obtain⟨e4,h⟩:=gD hx.2.2.2 hy.2.2.2 h;obtain⟨e5,h⟩:=za h;dsimp only at e1 e2 e3 e4 e5;exact⟨by rw[e1,e2,e3,e4,e5],h⟩
theorem jY{α:Type}{f:α->List UInt8}{B:α->Prop}(hf:∀x y r s,B x->B y->f x++r=f y++s->x=y/\r=s):∀{a b:List α}{r s:List UInt8},a.length=b.length->(∀x∈a,B x)->(∀x∈b,B x)->a.flatMap f++r=b.flatMap f++s->a=b/\r=s
 |[],[],_,_,_,_,_,h=>⟨rfl,h⟩
 |[],_::_,_,_,hl,_,_,_=>by simp at hl
 |_::_,[],_,_,hl,_,_,_=>by simp at hl
 |x::a,y::b,r,s,hl,ha,hb,h=>by
  rw[List.flatMap_cons,List.flatMap_cons,List.append_assoc,List.append_assoc]at h;obtain⟨e1,h⟩:=hf x y _ _ (ha x (by simp)) (hb y (by simp)) h;obtain⟨e2,h⟩:=jY hf (by simpa using hl) (λz hz=>ha z (List.mem_cons_of_mem _ hz)) (λz hz=>hb z (List.mem_cons_of_mem _ hz)) h;exact⟨by rw[e1,e2],h⟩
theorem Nl{p q:aR}(hp:PB p)(hq:PB q)(l1:p.st.ah.length=q.st.ah.length)(l2:p.st.used.length=q.st.used.length)(l3:p.st.marks.length=q.st.marks.length)(h:pJ p=pJ q):p=q:=by
 unfold pJ at h;rw[<-List.append_nil (p.st.marks.flatMap mkT),<-List.append_nil (q.st.marks.flatMap mkT)]at h;simp only[List.append_assoc]at h;obtain⟨e1,h⟩:=za h;obtain⟨e2,h⟩:=gD hp.day hq.day h;obtain⟨e3,h⟩:=jY (B:=NB) (λx y r s=>gD) l1 hp.ah hq.ah h;obtain⟨e4,h⟩:=jY (f:=fl) (B:=λ_=>True) (λx y r s _ _=>za) l2 (λ_ _=>trivial) (λ_ _=>trivial) h;obtain⟨e5,h⟩:=jY (B:=λx=>NB x.status/\NB x.left/\NB x.got/\NB x.aO) (λx y r s=>Nk) l3 hp.marks hq.marks h;obtain⟨⟨d,hs,us,ms⟩,o⟩:=p;obtain⟨⟨d',hs',us',ms'⟩,o'⟩:=q;cases e1;cases e2;cases e3;cases e4;cases e5
 rfl
section
variable {C:aA} {s:aI} {party:Int} {p q:aR}
theorem aM.pb(h:aM C s)(o:Bool):PB ⟨s,o⟩:=by
 have ok:=aA.ok h.con;have:=ok.dN;have:=ok.jU;have:=ok.kY;have:=ok.Sg;have:=ok.Mc;have:=h.lh;have:=h.lu;have:=h.lm;have:=h.Fe;have:=h.Fg;refine⟨by show NB s.day;unfold NB;omega,λx hx=>by have:=h.held x hx;unfold NB;omega,λm hm=>?_,by show s.ah.length<=1000;omega,by show s.used.length<=1000;omega,by show s.marks.length<=1000;omega⟩;obtain⟨i,hi⟩:=List.getElem?_of_mem hm;have hi:s.marks[i]?=some m:=hi;have hil:=(List.getElem?_eq_some_iff.1 hi).1;have hic:i<C.clauses.length:=by omega
 have hk:C.clauses[i]?=some C.clauses[i]:=List.getElem?_eq_some_iff.2 ⟨hic,rfl⟩;have xw:=ok.clause hk;have h1:=h.marks i m _ hi hk;have h2:=bO.got xw h1;have:=xw.Md;have:=xw.Me;unfold NB;rcases h1 with e|e|e
 .omega
 .obtain⟨e1,e2,e3,e4,e5,e6,e7⟩:=e
  by_cases hk4:C.clauses[i].kind=4
  .have:=e6 hk4
   rcases e1 with⟨e1,e1'⟩|⟨e1,e1'⟩<;>omega
  .have:=e7 hk4
   rcases e1 with⟨e1,e1'⟩|⟨e1,e1'⟩<;>omega
 .omega
theorem jE(h:aM C s){t:Int}(h1: -1<=t)(h2:t<C.acts.length)(hd:s.day<C.days):aM C (C.bA s t):=by
 unfold aA.bA;by_cases h3:t= -1
 .rw[if_pos h3];exact HZ h hd
 .rw[if_neg h3]
  obtain⟨i,rfl⟩:=Int.eq_ofNat_of_zero_le (show 0<=t by omega);rw[show((i:Nat):Int).toNat=i by omega];obtain⟨a,ha⟩:∃a,C.acts[i]?=some a:=⟨C.acts[i]'(by omega),List.getElem?_eq_some_iff.2 ⟨by omega,rfl⟩⟩;rw[ha];exact Mi h ha
theorem Nn(h:aM C p.st){m:Int}(hm:(m,q)∈C.oZ party p):aM C q.st:=by
 unfold aA.oZ aA.nW at hm;rcases List.mem_append.1 hm with hm|hm
 .rcases List.mem_append.1 hm with hm|hm
  .split at hm
   .simp at hm;rw[hm.2];exact h
   .cases hm
  .split at hm
   .rename_i h2
    simp at hm;rw[hm.2];exact jE (t:= -1) h (by omega) (by omega) h2.2
   .cases hm
 .split at hm
  .rename_i h2
   unfold aA.nY at hm;obtain⟨i,hi,e⟩:=List.mem_map.1 hm;have hlt:=List.mem_range.1 (List.mem_filter.1 hi).1;cases e
   exact jE (t:=(i:Int)) h (by omega) (by omega) h2
  .cases hm
theorem zq.ok(h:aM C p.st)(k:zq C party p q):aM C q.st:=by
 induction k with
 |refl=>exact h
 |step _ hm ih=>exact Nn ih hm
theorem QX(hp:aM C p.st)(hq:aM C q.st)(h:pJ p=pJ q):p=q:=
 Nl (hp.pb p.own) (hq.pb q.own) (by rw[hp.lh,hq.lh]) (by rw[hp.lu,hq.lu]) (by rw[hp.lm,hq.lm]) h
end
end
end
noncomputable section
section
variable {h h':AH} {n n':Nat} {v:CS} {C:aA} {s:aI} {tv:TS} {Q:AV->AH->Nat->Prop}
theorem Ai(K:Nat)(hS:bZ h n tv s)(l1:s.ah.length<=1000000)(l2:s.used.length<=1000000)(l3:s.marks.length<=1000000)
 (hQ:∀tv' h' n',Up h n h' n'->Kp (λx=>x<n) h' n' (λh n=>bZ h n tv' s)->Q (.agg (tv'.av s)) h' n'):CW (EF (K+2)) 134 [.agg (tv.av s)] h n Q:=by
 refine aD afi rfl ?_;repeat' (first|(simp (disch:=omega) only[go_sem,ub.old,Vb,TS.av])|(simp (disch:=omega) only[go_sem,Vb,TS.av])|(refine aS ?_ ?_<;>(intro hb hd;rw[hb];clear hb))|(with_reducible refine aj ?_))
 generalize hh:Tr.set (Tr.set h n _) (n+1) _=h0;have u0:Up h n h0 (n+2):=by rw[<-hh];exact aH
 have q0:h0.get n=some (.row 43 (tv.av s)):=by rw[<-hh];simp (disch:=omega) only[go_sem]
 have p0:h0.get (n+1)=some (.row 43 [.i .i64 0,.k 1,.k 1,.k 1]):=by rw[<-hh];simp (disch:=omega) only[go_sem]
 clear hh;rw[bT];refine eT U7 yX _ (hS.ah.up u0) l1 λv1 h1 n1 u1 g1 b1 _=>?_;have q1:=(u1.old n (by omega)).trans q0;have e1:=u1.le;simp (disch:=omega) only[go_sem,g1.cl,q1,TS.av];rw[bT];refine eT Zh Sy _ (hS.used.up (u0.trans u1)) l2 λv2 h2 n2 u2 g2 b2 _=>?_;have q2:=(u2.old n (by omega)).trans q1;have e2:=u2.le;simp (disch:=omega) only[go_sem,g2.cl,q2,TS.av];rw[bT];refine eT ae5 Zg _ (hS.marks.up ((u0.trans u1).trans u2)) l3 λv3 h3 n3 u3 g3 b3 _=>?_;have q3:=(u3.old n (by omega)).trans q2;have e3:=u3.le;simp (disch:=omega) only[go_sem,g1.cl,g2.cl,g3.cl,q3,q2,q1,q0,TS.av];have p3:=(u3.old (n+1) (by omega)).trans ((u2.old (n+1) (by omega)).trans ((u1.old (n+1) (by omega)).trans p0));simp (disch:=omega) only[go_sem,p3];have k1:=((g1.sl.kp (X:=λx=>x<n+2) λx hx=>by have:=b1 x hx;omega).up u2).up u3;have k2:=(g2.sl.kp (X:=λx=>x<n+2) λx hx=>by have:=b2 x hx;omega).up u3;have k3:=g3.sl.kp (X:=λx=>x<n+2) λx hx=>by have:=b3 x hx;omega
 have kk:Kp (λx=>x<n+2) h3 n3 λh n=>bZ h n ⟨v1,v2,v3⟩ s:=((k1.and k2).and k3).wk λh n ⟨⟨a,b⟩,c⟩=>⟨a,b,c⟩;refine hQ ⟨v1,v2,v3⟩ _ _ aH ?_;exact((((kk.set (.inl (by omega)) (Nat.le_refl _)).set (.inl (by omega)) (Nat.le_refl _)).set (.inl (by omega)) (Nat.le_refl _)).set (.inl (by omega)) (Nat.le_refl _)).le λx _ hx=>by omega
theorem DT(K:Nat)(hC:aZ h n v C)(ho:C.off.length<=1000000){party:Int}{p:aR}(hS:bZ h n tv p.st)
 (hQ:∀h' n',Up h n h' n'->Q (.b (decide (0<=party)&&decide (party<C.aC)&&C.dU p.st)) h' n'):CW (EF (K+8)) 133 [.agg (v.av C),.i .i64 party,.agg (tv.pv p)] h n Q:=by
 refine aD afj rfl ?_;repeat' (first|(simp (disch:=omega) only[go_sem,ub.old,Vd,CS.av,TS.pv])|(simp (disch:=omega) only[go_sem,Vd,CS.av,TS.pv])|((first|rw[aU]|rw[bT]);with_reducible refine gK _ (hC.up aH) ho (hS.up aH) λh2 n2 u2=>?_;(first|replace ub:=Up.trans ub (Up.trans aH u2)|have ub:=u2);have hle:=ub.le;clear u2)|(refine aS ?_ ?_<;>(intro hb hd;rw[hb];clear hb))|(with_reducible refine aj ?_))
 all_goals exact bY hQ (by simp[*]) aH
end
end
end Go.Proofs.YtjoohkjmoghmoaaGreatDoor
