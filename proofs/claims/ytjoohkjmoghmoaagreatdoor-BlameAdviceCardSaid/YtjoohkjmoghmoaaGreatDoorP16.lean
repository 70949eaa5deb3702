/- part -/
import Derived.Test.YtjoohkjmoghmoaaGreatDoorP14
set_option linter.all false
namespace Go.Proofs.YtjoohkjmoghmoaaGreatDoor
section
noncomputable section
set_option maxRecDepth 1000000
set_option maxHeartbeats 4000000
def Gv:MC:=(.seq (.reg [nl (.iM 1 (.s 68) (.s 70)),nl (.ld none (.v 0)),nk 16 (.mv (.v 0))]) (.seq (.reg [nl (.mv (.s 10)),nl (.mv (.s 16)),nl (.look 3 (some (.i .i64 0)) (.v 1) (.v 0) true),nl (.mv (.v 0)),nl (.ext (.v 0) 0),nl (.ext (.v 1) 1),nk 17 (.mv (.v 1)),nk 18 (.mv (.v 0))]) (.seq (.reg [nk 80 (.mv (.s 18))]) (.cond (.s 80) (.reg [nl (.mv (.s 8)),nl (.mv (.s 17)),nl (.mv (.s 11)),nl (.call (.v 2) [(.v 1),(.v 0)])]) (.reg [nl (.mv (.s 10)),nl (.mv (.s 16)),nl (.mv (.s 11)),⟨none,(.upd 3 (.v 2) (.v 1) (.v 0)),.n⟩])))))
def Gw:MC:=(.seq (.reg [nl (.iM 2 (.s 55) (.s 57)),nl (.ld (some 2) (.v 0)),nk 14 (.al 191 [(.i .i64 0),(.i .i64 0)]),⟨none,(.st 2 (.s 14) (.v 0)),.n⟩]) (.reg [nl (.mv (.s 8)),nl (.mv (.s 11)),nl (.fa 0 (.s 14)),nl (.ld none (.v 0)),nl (.call (.v 3) [(.v 2),(.v 0)])]))
def CO:MC:=(.seq (.reg [nl (.mv (.s 45)),nl (.iM 16 (.s 43) (.s 45)),nl (.ld (some 16) (.v 0)),nk 12 (.al 112 [(.i .i64 0),(.i .i64 0),(.i .i64 0),(.i .i64 0),(.k 1),(.i .i64 0),(.i .i64 0),(.b false),(.b false),(.i .i64 0),(.i .i64 0),(.i .i64 0),(.i .i64 0),(.i .i64 0),(.i .i64 0),(.b false)]),nk 11 (.mv (.v 2)),⟨none,(.st 16 (.s 12) (.v 0)),.n⟩]) (.seq (.seq (.reg [nk 50 (.mv (.s 9))]) (.cond (.s 50) (.reg [nl (.mv (.s 8)),nl (.mv (.s 11)),nl (.call (.v 1) [(.c (.i .i64 0)),(.v 0)])]) .skip)) (.seq (.seq (.reg [nl (.fa 4 (.s 12)),nk 55 (.ld none (.v 0)),nk 56 (.gW (.s 55)),nk 57 (.mv (.c (.i .i64 0)))]) (.blk 4 (xP 3 57 56 58 4 5 Gw))) (.seq (.reg [nl (.ld (some 16) (.s 12)),nk 68 (.call (.c (.f 227 [])) [(.v 0)]),nk 69 (.gW (.s 68)),nk 70 (.mv (.c (.i .i64 0)))]) (.blk 6 (xP 3 70 69 71 6 7 Gv))))))
def N_:MC:=(.seq (.reg [nl (.mv (.s 29)),nk 6 (.mv (.v 0))]) (.reg [nl (.mv (.s 6)),nl (.mv (.s 6)),nl (.Pz 1 400 (.s 5) (.v 1)),⟨none,(.st 1 (.v 0) (.v 1)),.n⟩]))
def aak:MC:=(.seq (.reg [nk 1 (.box 27 7 (.s 0)),nk 2 (.mv (.c (.k 1)))]) (.seq (.seq (.reg [nl (.ld (some 7) (.s 1)),nl (.call (.c (.f 44 [])) [(.v 0)]),nl (.mv (.v 0)),nl (.ext (.v 0) 0),nl (.ext (.v 1) 1),nk 3 (.mv (.v 1)),nl (.mv (.v 0))]) (.seq (.reg [nl (.mv (.s 3)),nk 25 (.bin .neq 31 (.v 0) (.c (.i .i64 0)))]) (.cond (.s 25) (.seq (.reg [nk 2 (.mv (.c (.k 1)))]) .ret) .skip))) (.seq (.reg [nk 5 (.al 347 (rep 400 [(.i .i64 0)]))]) (.seq (.seq (.reg [nl (.fa 4 (.s 1)),nl (.ld none (.v 0)),nk 28 (.gW (.v 0)),nk 29 (.mv (.c (.i .i64 0)))]) (.blk 0 (xP 3 29 28 30 0 1 N_))) (.seq (.reg [nk 7 (.al 348 [(.k 3)])]) (.seq (.reg [nl (.Fq 223 [(.s 5),(.s 7)]),⟨none,(.st 1 (.s 7) (.v 0)),.n⟩]) (.seq (.reg [nl (.Fq 224 [(.s 7),(.s 5)]),nk 8 (.mv (.v 0))]) (.seq (.reg [nl (.fa 3 (.s 1)),nl (.ld none (.v 0)),nl (.call (.c (.f 225 [])) [(.v 0),(.c (.f 226 []))]),nk 9 (.mv (.v 0))]) (.seq (.reg [nl .LM,nk 10 (.mv (.v 0))]) (.seq (.seq (.reg [nl (.fa 4 (.s 1)),nk 43 (.ld none (.v 0)),nk 44 (.gW (.s 43)),nk 45 (.mv (.c (.i .i64 0)))]) (.blk 2 (xP 3 45 44 46 2 3 CO))) (.seq (.reg [nl (.fa 4 (.s 1)),nl (.ld none (.v 0)),nl (.gW (.v 0)),nl (.ld none (.s 7)),nl (.call (.c (.f 228 [])) [(.v 1),(.v 0)]),nk 2 (.mv (.v 0))]) .ret)))))))))))
theorem c130:xO Tryz.prog sl0 130=some ([true],aak,[(.t 2)]):=by kernel_rfl
def Oa:MC:=(.seq (.reg [nl (.mv (.s 85)),nk 15 (.mv (.v 0))]) (.seq (.reg [nl (.mv (.s 1)),nl (.fa 4 (.s 14)),nl (.ld none (.v 0)),nl (.mv (.s 15)),nl (.iM 2 (.v 1) (.v 0)),nl (.fa 0 (.v 0)),nl (.ld none (.v 0)),nl (.call (.c (.f 99 [])) [(.v 6),(.v 0)]),nl (.mv (.v 0)),nl (.ext (.v 0) 0),nl (.ext (.v 1) 1),nk 16 (.mv (.v 1)),nk 17 (.mv (.v 0))]) (.seq (.seq (.reg [nl (.mv (.s 17)),nk 100 (.not (.v 0))]) (.cond (.s 100) (.seq (.reg [nl (.Ic [(.i .i64 0),(.k 1),(.k 1),(.k 1),(.k 1),(.i .i64 0),(.k 1)] []),⟨none,(.st 7 (.s 4) (.v 0)),.n⟩,nk 5 (.mv (.c (.i .i64 1)))]) .ret) .skip)) (.reg [nl (.fa 4 (.s 14)),nl (.ld none (.v 0)),nl (.mv (.s 15)),nl (.mv (.s 16)),nl (.iM 2 (.v 2) (.v 1)),nl (.fa 0 (.v 0)),⟨none,(.st 1 (.v 0) (.v 2)),.n⟩]))))
def Gx:MC:=(.seq (.reg [nl (.mv (.s 68)),nl (.iM 1 (.s 66) (.s 68)),nl (.ld none (.v 0)),nk 12 (.mv (.v 2)),nk 13 (.mv (.v 0))]) (.seq (.reg [nl (.fa 4 (.s 2)),nl (.ld none (.v 0)),nl (.mv (.s 13)),nl (.iM 16 (.v 1) (.v 0)),nl (.ld (some 16) (.v 0)),nk 14 (.al 112 [(.i .i64 0),(.i .i64 0),(.i .i64 0),(.i .i64 0),(.k 1),(.i .i64 0),(.i .i64 0),(.b false),(.b false),(.i .i64 0),(.i .i64 0),(.i .i64 0),(.i .i64 0),(.i .i64 0),(.i .i64 0),(.b false)]),⟨none,(.st 16 (.s 14) (.v 0)),.n⟩]) (.seq (.reg [nl (.fa 4 (.s 14)),nl (.ld none (.v 0)),nl (.call (.c (.f 71 [])) [(.v 0)]),nl (.fa 4 (.s 14)),⟨none,(.st 1 (.v 0) (.v 1)),.n⟩]) (.seq (.seq (.reg [nl (.fa 4 (.s 14)),nl (.ld none (.v 0)),nk 84 (.gW (.v 0)),nk 85 (.mv (.c (.i .i64 0)))]) (.blk 4 (xP 3 85 84 86 4 5 Oa))) (.reg [nl (.fa 4 (.s 11)),nl (.ld none (.v 0)),nl (.mv (.s 12)),nl (.ld (some 16) (.s 14)),nl (.iM 16 (.v 2) (.v 1)),⟨none,(.st 16 (.v 0) (.v 1)),.n⟩])))))
def Gy:MC:=(.seq (.reg [nl (.iM 1 (.s 26) (.s 28)),nl (.ld none (.v 0)),nk 10 (.mv (.v 0))]) (.seq (.seq (.reg [nl (.mv (.s 10)),nl (.mv (.s 8)),nl (.bin .leq 3 (.v 1) (.v 0)),nl (.mv (.v 0)),ng 0 false (.mv (.s 10)),ng 1 false (.fa 4 (.s 2)),ng 2 false (.ld none (.v 0)),ng 3 false (.gW (.v 0)),ng 4 false (.bin .geq 3 (.v 3) (.v 0)),nk 41 (.pick (.v 5) (.c (.b true)) (.v 0))]) (.cond (.s 41) (.seq (.reg [nl (.Ic [(.i .i64 0),(.k 1),(.k 1),(.k 1),(.k 1),(.i .i64 0),(.k 1)] []),⟨none,(.st 7 (.s 4) (.v 0)),.n⟩,nk 5 (.mv (.c (.i .i64 1)))]) .ret) .skip)) (.reg [nl (.mv (.s 10)),nk 8 (.mv (.v 0))])))
def aal:MC:=(.seq (.reg [nk 2 (.box 27 7 (.s 0)),nk 4 (.al 27 [(.i .i64 0),(.k 1),(.k 1),(.k 1),(.k 1),(.i .i64 0),(.k 1)]),nk 5 (.mv (.c (.i .i64 0)))]) (.seq (.seq (.reg [nl (.ld (some 7) (.s 2)),nl (.call (.c (.f 44 [])) [(.v 0)]),nl (.mv (.v 0)),nl (.ext (.v 0) 0),nl (.ext (.v 1) 1),nk 6 (.mv (.v 1)),nl (.mv (.v 0))]) (.seq (.reg [nl (.mv (.s 6)),nk 24 (.bin .neq 31 (.v 0) (.c (.i .i64 0)))]) (.cond (.s 24) (.seq (.reg [nl (.Ic [(.i .i64 0),(.k 1),(.k 1),(.k 1),(.k 1),(.i .i64 0),(.k 1)] []),⟨none,(.st 7 (.s 4) (.v 0)),.n⟩,nk 5 (.mv (.c (.i .i64 1)))]) .ret) .skip))) (.seq (.reg [nk 8 (.mv (.c (.i .i64 (.negSucc 0))))]) (.seq (.seq (.reg [nk 26 (.mv (.s 1)),nk 27 (.gW (.s 26)),nk 28 (.mv (.c (.i .i64 0)))]) (.blk 0 (xP 3 28 27 29 0 1 Gy))) (.seq (.reg [nl (.ld (some 7) (.s 2)),nk 11 (.al 27 [(.i .i64 0),(.k 1),(.k 1),(.k 1),(.k 1),(.i .i64 0),(.k 1)]),⟨none,(.st 7 (.s 11) (.v 0)),.n⟩]) (.seq (.reg [nl (.fa 1 (.s 2)),nl (.ld none (.v 0)),nl (.call (.c (.f 45 [])) [(.v 0)]),nl (.fa 1 (.s 11)),⟨none,(.st 1 (.v 0) (.v 1)),.n⟩]) (.seq (.reg [nl (.fa 2 (.s 2)),nl (.ld none (.v 0)),nl (.call (.c (.f 68 [])) [(.v 0)]),nl (.fa 2 (.s 11)),⟨none,(.st 1 (.v 0) (.v 1)),.n⟩]) (.seq (.reg [nl (.fa 3 (.s 2)),nl (.ld none (.v 0)),nl (.call (.c (.f 69 [])) [(.v 0)]),nl (.fa 3 (.s 11)),⟨none,(.st 1 (.v 0) (.v 1)),.n⟩]) (.seq (.reg [nl (.fa 6 (.s 2)),nl (.ld none (.v 0)),nl (.call (.c (.f 45 [])) [(.v 0)]),nl (.fa 6 (.s 11)),⟨none,(.st 1 (.v 0) (.v 1)),.n⟩]) (.seq (.reg [nl (.mv (.s 1)),nl (.gW (.v 0)),nl (.Ju 112 [(.i .i64 0),(.i .i64 0),(.i .i64 0),(.i .i64 0),(.k 1),(.i .i64 0),(.i .i64 0),(.b false),(.b false),(.i .i64 0),(.i .i64 0),(.i .i64 0),(.i .i64 0),(.i .i64 0),(.i .i64 0),(.b false)] (.v 0) (.v 0)),nl (.fa 4 (.s 11)),⟨none,(.st 1 (.v 0) (.v 1)),.n⟩]) (.seq (.seq (.reg [nk 66 (.mv (.s 1)),nk 67 (.gW (.s 66)),nk 68 (.mv (.c (.i .i64 0)))]) (.blk 2 (xP 3 68 67 69 2 3 Gx))) (.seq (.reg [nl (.ld (some 7) (.s 11)),⟨none,(.st 7 (.s 4) (.v 0)),.n⟩,nk 5 (.mv (.c (.i .i64 0)))]) .ret))))))))))))
theorem c131:xO Tryz.prog sl0 131=some ([true,true],aal,[(.c 4 (some 7)),(.t 5)]):=by kernel_rfl
def CP:MC:=(.seq (.reg [nl (.mv (.s 11)),nk 7 (.mv (.v 0))]) (.seq (.reg [nl (.mv (.s 1)),nl (.mv (.s 7)),nl (.call (.v 1) [(.v 0)]),nk 8 (.mv (.v 0))]) (.seq (.seq (.reg [nl (.mv (.s 8)),nl (.mv (.s 7)),nk 19 (.bin .eql 3 (.v 1) (.v 0))]) (.cond (.s 19) (.seq (.reg [nl (.mv (.s 6)),nl (.mv (.s 7)),nl (.mv (.s 5)),nl (.gW (.v 0)),⟨none,(.upd 3 (.v 3) (.v 2) (.v 0)),.n⟩]) (.reg [nl (.mv (.s 5)),nl (.KO 22 1 [(.k 1)] [(0,(1,(.c (.k 1))))]),nl (.app 22 1 (.v 1) (.v 0)),nk 5 (.mv (.v 0))])) .skip)) (.yM 2 [mq 0 [] (.mv (.s 5)),mq 0 [] (.mv (.s 6)),mq 0 [] (.mv (.s 8)),mq 1 [1,2] (.look 3 (some (.i .i64 0)) (.v 0) (.v 1) false),mq 0 [] (.mv (.s 5)),mq 0 [] (.mv (.s 6)),mq 0 [] (.mv (.s 8)),mq 1 [5,6] (.look 3 (some (.i .i64 0)) (.v 0) (.v 1) false),mq 0 [4,7] (.iM 1 (.v 0) (.v 1)),mq 1 [8] (.ld none (.v 0)),mq 0 [] (.mv (.s 7)),mq 2 [10] (.KO 3 1 [(.i .i64 0)] [(0,(1,(.v 0)))]),mq 3 [9,11] (.app 3 1 (.v 0) (.v 1)),mq 0 [0,3] (.iM 1 (.v 0) (.v 1)),mq 3 [12,13] (.st 1 (.v 1) (.v 0))] [(3,13)] []))))
def VN:MC:=(.seq (.reg [nk 4 (.mv (.c (.k 1)))]) (.seq (.reg [nk 5 (.mv (.c (.k 1)))]) (.seq (.reg [nl .LM,nk 6 (.mv (.v 0))]) (.seq (.seq (.reg [nk 10 (.mv (.s 0)),nk 11 (.mv (.c (.i .i64 0)))]) (.blk 0 (xP 3 11 10 12 0 1 CP))) (.seq (.reg [nl (.mv (.s 5)),nk 4 (.mv (.v 0))]) .ret)))))
theorem c228:xO Tryz.prog sl0 228=some ([true,true],VN,[(.t 4)]):=by kernel_rfl
def m5:MC:=vF 5
def c5:=vT 5 m5
def m12:MC:=vF 12
def c12:=vT 12 m12
def m38:MC:=vF 38
def c38:=vT 38 m38
def WW:MC:=vF 72
def c72:=vT 72 WW
def m73:MC:=vF 73
def c73:=vT 73 m73
def VO:MC:=vF 132
def agr:=vT 132 VO
def Q5:MC:=vF 223
def ags:=vT 223 Q5
def VP:MC:=vF 224
def agt:=vT 224 VP
def aam:MC:=vF 225
def agu:=vT 225 aam
def aan:MC:=vF 226
def c226:=vT 226 aan
def VQ:MC:=vF 227
def c227:=vT 227 VQ
def aao:MC:=vF 262
def agv:=vT 262 aao
end
end
section
noncomputable section
open Classical
def aF.onto(k:aF)(l:List bO):aF:=⟨k.kind,k.role,k.act,k.need,l,k.after,k.gF,k.gY,k.final,k.pause,k.resume,k.value,k.unit,k.tgt,k.iR⟩
def zL(cl:List Nat)(c c':bO):Prop:=c'.is=c.is/\0<=c.clause/\∃p:Nat,c'.clause=p/\cl[p]?=some c.clause.toNat
def qJ(cl:List Nat)(l l':List bO):Prop:=l'.length=l.length/\∀(n:Nat)(c c':bO),l[n]?=some c->l'[n]?=some c'->zL cl c c'
structure eO(C D:aA)(cl:List Nat):Prop where
 aC:D.aC=C.aC
 ah:D.ah=C.ah
 acts:D.acts=C.acts
 days:D.days=C.days
 off:D.off=C.off
 len:D.clauses.length=cl.length
 at_:∀(j i:Nat),cl[j]?=some i->∃k l,C.clauses[i]?=some k/\D.clauses[j]?=some (k.onto l)/\qJ cl k.start l
def bP(cl:List Nat)(ms:List au):List au:=cl.map λi=>(ms[i]?).getD ⟨0,0,0,0,false⟩
def aI.rs(cl:List Nat)(s:aI):aI:=⟨s.day,s.ah,s.used,bP cl s.marks⟩
theorem qJ.fwd{cl:List Nat}{l l':List bO}(h:qJ cl l l'){c:bO}(hc:c∈l):∃c'∈l',zL cl c c':=by
 obtain⟨n,hn⟩:=List.getElem?_of_mem hc;have h1:n<l'.length:=by rw[h.1];exact(List.getElem?_eq_some_iff.1 hn).1
 exact⟨l'[n],List.getElem_mem h1,h.2 n c _ hn (List.getElem?_eq_getElem h1)⟩
theorem qJ.bwd{cl:List Nat}{l l':List bO}(h:qJ cl l l'){c':bO}(hc:c'∈l'):∃c∈l,zL cl c c':=by
 obtain⟨n,hn⟩:=List.getElem?_of_mem hc;have h1:n<l.length:=by rw[<-h.1];exact(List.getElem?_eq_some_iff.1 hn).1
 exact⟨l[n],List.getElem_mem h1,h.2 n _ c' (List.getElem?_eq_getElem h1) hn⟩
section
variable {C D:aA} {cl:List Nat} {ms:List au}
theorem sW:(bP cl ms).length=cl.length:=by simp[bP]
theorem kI(hr:∀i∈cl,i<ms.length){j i:Nat}(h:cl[j]?=some i):(bP cl ms)[j]?=ms[i]?:=by
 have hi:=hr i (List.mem_of_getElem? h);simp[bP,h,List.getElem?_eq_getElem hi]
theorem Te(hr:∀i∈cl,i<ms.length){l:List au}(hl:l.length=cl.length)(h:∀j i:Nat,cl[j]?=some i->l[j]?=ms[i]?):l=bP cl ms:=by
 apply List.ext_getElem?;intro j;by_cases hj:j<cl.length
 .have e:cl[j]?=some cl[j]:=List.getElem?_eq_getElem hj
  rw[kI hr e,h j _ e]
 .rw[List.getElem?_eq_none (by omega),List.getElem?_eq_none (by rw[sW];omega)]
theorem eO.lt(h:eO C D cl){i:Nat}(hi:i∈cl):i<C.clauses.length:=by
 obtain⟨j,hj⟩:=List.getElem?_of_mem hi;obtain⟨k,l,h1,_⟩:=h.at_ j i hj;exact(List.getElem?_eq_some_iff.1 h1).1
theorem uS(hr:∀i∈cl,i<ms.length){f g:Nat->au->au}{l l':List au}(hl:∀j:Nat,l[j]?=((bP cl ms)[j]?).map (g j))(hl':∀i:Nat,l'[i]?=(ms[i]?).map (f i))(e:∀(j i:Nat)(m:au),cl[j]?=some i->g j m=f i m):l=bP cl l':=by
 have h1:=jZ hl;have h2:=jZ hl';refine Te (λi hi=>by rw[h2];exact hr i hi) (by rw[h1,sW]) λj i hj=>?_;rw[hl,hl',kI hr hj];cases ms[i]? with
 |none=>rfl
 |some m=>simp only[Option.map_some,e j i m hj]
theorem Kh(h:eO C D cl)(hr:∀i∈cl,i<ms.length)(t:Int):D.paused t (bP cl ms)=bP cl (C.paused t ms):=
 uS hr (iT D t _) (iT C t ms) λj i m hj=>by
  obtain⟨k,l,h1,h2,_⟩:=h.at_ j i hj;simp only[jf,h1,h2];rfl
theorem Ob(h:eO C D cl)(hr:∀i∈cl,i<ms.length)(t w:Int):D.n_ t w (bP cl ms)=bP cl (C.n_ t w ms):=
 uS hr (jI D t w _) (jI C t w ms) λj i m hj=>by
  obtain⟨k,l,h1,h2,_⟩:=h.at_ j i hj;simp only[pI,h1,h2];rfl
theorem Ki(h:eO C D cl)(hr:∀i∈cl,i<ms.length)(b:Bool):D.vW b (bP cl ms)=bP cl (C.vW b ms):=
 uS hr (nL D b _) (nL C b ms) λj i m hj=>by
  obtain⟨k,l,h1,h2,_⟩:=h.at_ j i hj;simp only[qF,h1,h2];rfl
theorem Gz(h:eO C D cl)(hr:∀i∈cl,i<ms.length)(g t:Int):(gZ (bP cl ms) (bP cl ms).length).foldl (λms i=>dJ D g t i ms) (bP cl ms)=bP cl ((gZ ms ms.length).foldl (λms i=>dJ C g t i ms) ms):=
 uS hr (pK D g t _) (pK C g t ms) λj i m hj=>by
  obtain⟨k,l,h1,h2,_⟩:=h.at_ j i hj;simp only[pJ,h1,h2];rfl
end
inductive Starts (C:aA) (ms:List au):Nat->Prop
 |mk {i:Nat} {k:aF} {m:au}:C.clauses[i]?=some k->ms[i]?=some m->m.status=0->k.iR=false->(∀c∈k.start,d9 ms c=false->c.is=1)->(∀c∈k.start,d9 ms c=false->Starts C ms c.clause.toNat)->Starts C ms i
theorem qg(is:Int):sF is 0=false:=by
 unfold sF;cases (is==1)<;>cases (is==2)<;>cases (is==3)<;>cases (is==4)<;>rfl
theorem GA{is:Int}(h:sF is 1=true):is=1:=by
 unfold sF at h;by_cases e:is=1
 .exact e
 .rw[show(is==1)=false by simpa using e]at h
  revert h;cases (is==2)<;>cases (is==3)<;>cases (is==4)<;>simp
def GD(C:aA)(hs:List Int)(ms x:List au):Prop:=x.length=ms.length/\∀(j:Nat)(m':au),x[j]?=some m'->∃m,ms[j]?=some m/\(m'=m\/m.status=0/\Starts C ms j/\∃k,C.clauses[j]?=some k/\m'=mE hs k)
theorem CQ{C:aA}{hs:List Int}{ms x:List au}(h:GD C hs ms x)(i:Nat):GD C hs ms (gX C hs x i):=by
 refine⟨by rw[pz];exact h.1,λj m' hm=>?_⟩;cases hf:eu C x i with
 |false=>rw[(nK C hs x i).2 hf]at hm;exact h.2 j m' hm
 |true=>
  have hf':=hf;unfold eu at hf';unfold gX at hm;cases hk:C.clauses[i]? with
  |none=>simp[hk]at hf'
  |some k=>
   cases Qe:x[i]? with
   |none=>simp[hk,Qe]at hf'
   |some m=>
    simp only[hk,Qe]at hf';simp only[hk,hf,cond_true]at hm;by_cases hij:i=j
    .subst hij
     rw[jH Qe]at hm;injection hm with hm
     simp only[dz,Bool.and_eq_true,beq_iff_eq,Bool.not_eq_true']at hf';obtain⟨f1,f2,f3⟩:=hf';obtain⟨m0,h1,h2⟩:=h.2 i m Qe;obtain rfl:m=m0:=by
      rcases h2 with h2|⟨_,_,_,_,rfl⟩
      .exact h2
      .exact absurd f1 (by show¬(1:Int)=0;decide)
     have hx:∀c∈k.start,d9 ms c=false->c.is=1/\Starts C ms c.clause.toNat:=λc hc hn=>by
      have h3:d9 x c=true:=List.all_eq_true.1 f3 c hc;unfold d9 jV at h3 hn;cases hxc:x[c.clause.toNat]? with
      |none=>rw[hxc]at h3;simp[qg]at h3
      |some mc=>
       rw[hxc]at h3;obtain⟨m1,h4,h5⟩:=h.2 _ mc hxc;rcases h5 with rfl|⟨_,h5,k',_,rfl⟩
       .rw[h4]at hn
        rw[hn]at h3;cases h3
       .exact⟨GA h3,h5⟩
     exact⟨m,h1,.inr ⟨f1,.mk hk h1 f1 f2 (λc hc hn=>(hx c hc hn).1) (λc hc hn=>(hx c hc hn).2),k,hk,hm.symm⟩⟩
    .rw[List.getElem?_set,if_neg hij]at hm
     exact h.2 j m' hm
theorem uT{C:aA}{hs:List Int}{ms x:List au}(h:GD C hs ms x):∀n,GD C hs ms (bL C hs x n)
 |0=>h
 |n+1=>CQ (uT h n) n
theorem rT{C:aA}{hs:List Int}{ms:List au}:∀(f:Nat)(x:List au),GD C hs ms x->GD C hs ms (fU C hs f x)
 |0,_,h=>h
 |f+1,x,h=>by
  rw[fU];cases bZ C hs x C.clauses.length with
  |false=>exact h
  |true=>exact rT f _ (uT h _)
theorem sZ(C:aA)(hs:List Int)(ms:List au):GD C hs ms (C.begin hs ms):=rT _ ms ⟨rfl,λ_ m' h=>⟨m',h,.inl rfl⟩⟩
theorem uU{C:aA}{hs:List Int}{ms:List au}{i:Nat}(h:Starts C ms i):∃k,C.clauses[i]?=some k/\(C.begin hs ms)[i]?=some (mE hs k):=by
 induction h with
 |@mk i k m hk hm h0 hw h1 _ ih=>
  refine⟨k,hk,?_⟩;have hi:i<(C.begin hs ms).length:=by rw[gU];exact(List.getElem?_eq_some_iff.1 hm).1
  have hg:(C.begin hs ms)[i]?=some (C.begin hs ms)[i]:=List.getElem?_eq_getElem hi;obtain⟨m0,h2,h3⟩:=(sZ C hs ms).2 i _ hg;rw[hm]at h2;cases h2
  rcases h3 with h3|⟨_,_,k',hk',h3⟩
  .have hn:=zh C hs ms i (List.getElem?_eq_some_iff.1 hk).1
   exfalso;unfold eu at hn;rw[hk,hg,h3]at hn;simp only[dz,h0,hw,beq_self_eq_true,Bool.true_and,Bool.not_false]at hn;have:gT (C.begin hs ms) k.start=true:=by
    unfold gT;rw[List.all_eq_true];intro c hc;cases hcm:d9 ms c with
    |false=>
     obtain⟨kc,_,h5⟩:=ih c hc hcm;unfold d9 jV;rw[h5,h1 c hc hcm];rfl
    |true=>
     unfold d9 jV at hcm⊢;cases hmc:ms[c.clause.toNat]? with
     |none=>rw[hmc]at hcm;simp[qg]at hcm
     |some mc=>
      rw[hmc]at hcm;by_cases hz:mc.status=0
      .simp[hz,qg]at hcm
      .rw[FP hmc hz]
       exact hcm
   rw[this]at hn;cases hn
  .rw[hk]at hk'
   cases hk'
   rw[hg,h3]
theorem AU{C:aA}{hs:List Int}{ms:List au}{i:Nat}(h:¬Starts C ms i):(C.begin hs ms)[i]?=ms[i]?:=by
 cases hg:(C.begin hs ms)[i]? with
 |none=>rw[List.getElem?_eq_none_iff,gU]at hg;exact(List.getElem?_eq_none hg).symm
 |some m'=>
  obtain⟨m0,h2,h3⟩:=(sZ C hs ms).2 i m' hg;rcases h3 with rfl|⟨_,h3,_⟩
  .exact h2.symm
  .exact absurd h3 h
section
variable {C D:aA} {cl:List Nat} {ms:List au}
theorem zL.holds(hr:∀i∈cl,i<ms.length){c c':bO}(h:zL cl c c'):d9 (bP cl ms) c'=d9 ms c:=by
 obtain⟨h1,_,p,h2,h3⟩:=h;unfold d9 jV;rw[h2,Int.toNat_natCast,kI hr h3,h1]
theorem Kj(h:eO C D cl)(hr:∀i∈cl,i<ms.length){j:Nat}(hs:Starts D (bP cl ms) j):∀i:Nat,cl[j]?=some i->Starts C ms i:=by
 induction hs with
 |@mk j k' m hk hm h0 hw h1 _ ih=>
  intro i hj;obtain⟨k,l,g1,g2,g3⟩:=h.at_ j i hj;rw[hk]at g2;cases g2
  rw[kI hr hj]at hm;refine .mk g1 hm h0 hw (λc hc hn=>?_) λc hc hn=>?_
  .obtain⟨c',q1,q2⟩:=g3.fwd hc
   rw[<-q2.1];exact h1 c' q1 (by rw[q2.holds hr];exact hn)
  .obtain⟨c',q1,q2⟩:=g3.fwd hc
   obtain⟨p,e1,e2⟩:=q2.2.2;exact ih c' q1 (by rw[q2.holds hr];exact hn) _ (by rw[e1];exact e2)
theorem Kk(h:eO C D cl)(hr:∀i∈cl,i<ms.length){i:Nat}(hs:Starts C ms i):∀j:Nat,cl[j]?=some i->Starts D (bP cl ms) j:=by
 induction hs with
 |@mk i k m hk hm h0 hw h1 _ ih=>
  intro j hj;obtain⟨k0,l,g1,g2,g3⟩:=h.at_ j i hj;rw[hk]at g1;cases g1
  refine .mk g2 (by rw[kI hr hj];exact hm) h0 hw (λc' hc hn=>?_) λc' hc hn=>?_
  .obtain⟨c,q1,q2⟩:=g3.bwd hc
   rw[q2.1];exact h1 c q1 (by rw[<-q2.holds hr];exact hn)
  .obtain⟨c,q1,q2⟩:=g3.bwd hc
   obtain⟨p,e1,e2⟩:=q2.2.2;exact ih c q1 (by rw[<-q2.holds hr];exact hn) _ (by rw[e1];exact e2)
theorem uV(h:eO C D cl)(hr:∀i∈cl,i<ms.length)(hs:List Int):D.begin hs (bP cl ms)=bP cl (C.begin hs ms):=by
 refine Te (λi hi=>by rw[gU];exact hr i hi) (by rw[gU,sW]) λj i hj=>?_;by_cases hS:Starts C ms i
 .obtain⟨k,h1,h2⟩:=uU (hs:=hs) hS
  obtain⟨k',h3,h4⟩:=uU (hs:=hs) (Kk h hr hS j hj);obtain⟨k0,l,g1,g2,g3⟩:=h.at_ j i hj;rw[h1]at g1;cases g1
  rw[h3]at g2;cases g2
  rw[h2,h4];rfl
 .rw[AU hS,AU λe=>hS (Kj h hr e i hj),kI hr hj]
theorem Q6(h:eO C D cl){s:aI}(hl:s.marks.length=C.clauses.length):D.tick (s.rs cl)=(C.tick s).rs cl:=by
 have hr:∀i∈cl,i<s.marks.length:=λi hi=>by rw[hl];exact h.lt hi
 unfold aA.tick aI.rs;simp only[h.off,Ki h hr];rw[uV h λi hi=>by rw[y9];exact hr i hi]
theorem VR(h:eO C D cl){s:aI}(hl:s.marks.length=C.clauses.length)(i:Nat)(a:dh):D.act i a (s.rs cl)=(C.act i a s).rs cl:=by
 have hr:∀i∈cl,i<s.marks.length:=λi hi=>by rw[hl];exact h.lt hi
 have hr1:∀j∈cl,j<(C.paused i s.marks).length:=λj hj=>by rw[y8];exact hr j hj
 have hr2:∀j∈cl,j<(C.n_ i (bC s.ah a) (C.paused i s.marks)).length:=λj hj=>by rw[vX];exact hr1 j hj
 unfold aA.act;simp only[aI.rs,Kh h hr,Ob h hr1];cases ((a.kind !=1)&&s.used.getD i false)with
 |true=>rfl
 |false=>
  cases (a.kind !=1)with
  |false=>simp only[cond_false];rw[uV h hr2]
  |true=>
   simp only[cond_true,cond_false,aA.shift];cases (a.kind !=3)with
   |true=>simp only[cond_true];rw[uV h hr2]
   |false=>
    simp only[cond_false,Gz h hr2];rw[uV h λj hj=>by rw[vV _ (λi ms=>iY C _ _ i ms)];exact hr2 j hj]
theorem jD(h:eO C D cl){s:aI}(hl:s.marks.length=C.clauses.length)(t:Int):D.aW (s.rs cl) t=(C.aW s t).rs cl:=by
 unfold aA.aW;rw[h.acts];by_cases e:t= -1
 .rw[if_pos e,if_pos e,Q6 h hl]
 .rw[if_neg e,if_neg e]
  cases C.acts[t.toNat]? with
  |none=>rfl
  |some a=>exact VR h hl _ a
theorem xY(h:eO C D cl)(s:aI)(t:Int):D.doer (s.rs cl) t=C.doer s t:=by
 unfold aA.doer;rw[h.acts];rfl
theorem jc{C:aA}{s:aI}{p:Int}:anyFailed C s p=true↔∃(i:Nat)(m:au)(k:aF),s.marks[i]?=some m/\C.clauses[i]?=some k/\jX k m p=true:=by
 unfold anyFailed;rw[List.any_eq_true];constructor
 .rintro⟨i,_,h⟩
  cases hm:s.marks[i]? with
  |none=>simp[hm]at h
  |some m=>
   cases hk:C.clauses[i]? with
   |none=>simp[hm,hk]at h
   |some k=>exact⟨i,m,k,hm,hk,by simpa only[hm,hk]using h⟩
 .rintro⟨i,m,k,hm,hk,h⟩
  refine⟨i,List.mem_range.2 (List.getElem?_eq_some_iff.1 hm).1,?_⟩;simp only[hm,hk,h]
theorem Kl(h:eO C D cl){s:aI}(hl:s.marks.length=C.clauses.length){p:Int}(hf:anyFailed D (s.rs cl) p=true):anyFailed C s p=true:=by
 have hr:∀i∈cl,i<s.marks.length:=λi hi=>by rw[hl];exact h.lt hi
 obtain⟨j,m,k',h1,h2,h3⟩:=jc.1 hf;have hj:j<cl.length:=by have:=(List.getElem?_eq_some_iff.1 h1).1;simpa [aI.rs,sW]using this
 obtain⟨k,l,g1,g2,_⟩:=h.at_ j _ (List.getElem?_eq_getElem hj);rw[h2]at g2;cases g2
 exact jc.2 ⟨_,m,k,(kI hr (List.getElem?_eq_getElem hj)).symm.trans h1,g1,h3⟩
theorem Km(h:eO C D cl){s:aI}(hl:s.marks.length=C.clauses.length){p:Int}{i:Nat}{m:au}{k:aF}(hi:i∈cl)(h1:s.marks[i]?=some m)(h2:C.clauses[i]?=some k)(h3:jX k m p=true):anyFailed D (s.rs cl) p=true:=by
 have hr:∀i∈cl,i<s.marks.length:=λi hi=>by rw[hl];exact h.lt hi
 obtain⟨j,hj⟩:=List.getElem?_of_mem hi;obtain⟨k',l,g1,g2,_⟩:=h.at_ j i hj;rw[h2]at g1;cases g1
 exact jc.2 ⟨j,m,_,(kI hr hj).trans h1,g2,h3⟩
theorem Oc(h:eO C D cl)(hD:D.valid=true){s:aI}(hs:aK C s):aK D (s.rs cl):=by
 have hr:∀i∈cl,i<s.marks.length:=λi hi=>by rw[hs.lm];exact h.lt hi
 have inv:∀(j:Nat)(m:au)(k':aF),(bP cl s.marks)[j]?=some m->D.clauses[j]?=some k'->∃(i:Nat)(k:aF)(l:List bO),s.marks[i]?=some m/\C.clauses[i]?=some k/\k'=k.onto l/\qJ cl k.start l:=λj m k' hm hk=>by
  have hj:j<cl.length:=by have:=(List.getElem?_eq_some_iff.1 hm).1;simpa [sW]using this
  obtain⟨k,l,g1,g2,g3⟩:=h.at_ j _ (List.getElem?_eq_getElem hj);rw[hk]at g2;cases g2
  exact⟨_,k,l,(kI hr (List.getElem?_eq_getElem hj)).symm.trans hm,g1,rfl,g3⟩
 refine⟨hD,hs.FN,by rw[h.days];exact hs.D8,by rw[h.ah];exact hs.lh,by rw[h.acts];exact hs.lu,by simp[aI.rs,sW,h.len],λp hp=>by rw[h.aC];exact hs.held p hp,λi a hu ha=>hs.used i a hu (by rw[<-h.acts];exact ha),λj m k' hm hk=>?_,λj m k' hm hk=>?_⟩
 .obtain⟨i,k,l,h1,h2,rfl,_⟩:=inv j m k' hm hk
  have:=hs.marks i m k h1 h2;unfold bM at this⊢;rw[h.aC];exact this
 .obtain⟨i,k,l,h1,h2,rfl,g3⟩:=inv j m k' hm hk
  have h4:=hs.still i m k h1 h2;have e:gT (bP cl s.marks) l=gT s.marks k.start:=by
   rw[Bool.eq_iff_iff];unfold gT;rw[List.all_eq_true,List.all_eq_true];constructor
   .intro h5 c hc
    obtain⟨c',q1,q2⟩:=g3.fwd hc;rw[<-q2.holds hr];exact h5 c' q1
   .intro h5 c' hc
    obtain⟨c,q1,q2⟩:=g3.bwd hc;rw[q2.holds hr];exact h5 c q1
  have e2:dz (bP cl s.marks) (k.onto l) m=dz s.marks k m:=by
   unfold dz;rw[show(k.onto l).start=l from rfl,e];rfl
  exact e2.trans h4
end
theorem gK{C:aA}{party:Int}{p:aP}{m:Int}{q:aP}:(m,q)∈C.kJ party p↔(m= -2/\p.own=true/\q=⟨p.st,false⟩)\/(m= -1/\p.own=false/\p.st.day<C.days/\q=⟨C.aW p.st (-1),true⟩)\/(∃i:Nat,i<C.acts.length/\m=i/\p.st.day<C.days/\C.Iy party p i/\q=⟨C.aW p.st i,true⟩):=by
 unfold aA.kJ aA.mI aA.mJ;simp only[List.mem_append];constructor
 .rintro((h|h)|h)
  .split at h
   .simp at h;exact .inl ⟨h.1,by assumption,h.2⟩
   .simp at h
  .split at h
   .rename_i hc;simp at h;exact .inr (.inl ⟨h.1,hc.1,hc.2,h.2⟩)
   .simp at h
  .split at h
   .rename_i hc
    simp at h;obtain⟨i,⟨h1,h2⟩,h3,h4⟩:=h;exact .inr (.inr ⟨i,h1,h3.symm,hc,h2,h4.symm⟩)
   .simp at h
 .rintro(⟨rfl,h1,rfl⟩|⟨rfl,h1,h2,rfl⟩|⟨i,h1,rfl,h2,h3,rfl⟩)
  .exact .inl (.inl (by simp[h1]))
  .exact .inl (.inr (by simp[h1,h2]))
  .exact .inr (by simp only[h2,if_true];simp;exact⟨i,⟨h1,h3⟩,rfl,rfl⟩)
end
end
section
noncomputable section
open Classical
def aF.names(k:aF)(t:Int):Prop:=k.act=t\/k.pause=t\/k.resume=t
structure Parts(C:aA)(ps:List (List Nat×aA)):Prop where
 part:∀x∈ps,eO C x.2 x.1
 valid:∀x∈ps,x.2.valid=true
 cover:∀i:Nat,i<C.clauses.length->∃x∈ps,i∈x.1
 apart:∀x∈ps,∀y∈ps,x≠y->(∀a∈C.acts,a.kind=1)/\∀i∈x.1,∀j∈y.1,∀k k':aF,C.clauses[i]?=some k->C.clauses[j]?=some k'->∀t:Nat,k.names t->¬k'.names t
section
variable {C:aA} {ps:List (List Nat×aA)} {s:aI}
theorem step_ok(h:aK C s){t:Int}(hd:s.day<C.days):aK C (C.aW s t):=by
 unfold aA.aW;by_cases e:t= -1
 .rw[if_pos e];exact Il h hd
 .rw[if_neg e]
  cases ha:C.acts[t.toNat]? with
  |none=>exact h
  |some a=>exact MH h ha
theorem tu{i:Nat}{a:dh}(ha:C.acts[i]?=some a):C.aW s i=C.act i a s:=by
 unfold aA.aW;rw[if_neg (by omega),Int.toNat_natCast,ha]
theorem Parts.other(P:Parts C ps)(h:aK C s){x y:List Nat×aA}(hx:x∈ps)(hy:y∈ps)(hxy:y≠x){i:Nat}(hi:i<C.acts.length)(hc:x.2.aW (s.rs x.1) i≠s.rs x.1):y.2.aW (s.rs y.1) i=s.rs y.1:=by
 obtain⟨h1,h2⟩:=P.apart x hx y hy λe=>hxy e.symm;obtain⟨a,ha⟩:∃a,C.acts[i]?=some a:=⟨_,List.getElem?_eq_getElem hi⟩;have hk:=h1 a (List.mem_of_getElem? ha);have still:∀z∈ps,(∀i'∈z.1,∀k:aF,C.clauses[i']?=some k->¬k.names i)->z.2.aW (s.rs z.1) i=s.rs z.1:=λz hz hn=>by
  have hp:=P.part z hz;rw[tu (by rw[hp.acts];exact ha)];refine MJ (Oc hp (P.valid z hz) h) hk λj m k' hm hk' _=>?_;have hj:j<z.1.length:=by have:=(List.getElem?_eq_some_iff.1 hm).1;simpa [aI.rs,sW]using this
  obtain⟨k,l,g1,g2,_⟩:=hp.at_ j _ (List.getElem?_eq_getElem hj);rw[hk']at g2;cases g2
  have:=hn _ (List.getElem_mem hj) k g1;exact⟨λe=>this (.inl e),λe=>this (.inr (.inl e)),λe=>this (.inr (.inr e))⟩
 refine still y hy λj hj k' hk' hn=>hc (still x hx λi' hi' k hk hn'=>h2 i' hi' j hj k k' hk hk' i hn' hn)
theorem Parts.VT(P:Parts C ps){party:Int}{p:aP}(h:bS C party p):aK C p.st->∃x∈ps,bS x.2 party ⟨p.st.rs x.1,p.own⟩:=by
 induction h with
 |@lost p hf=>
  intro hs;obtain⟨i,m,k,h1,h2,h3⟩:=jc.1 hf;obtain⟨x,hx,hi⟩:=P.cover i (List.getElem?_eq_some_iff.1 h2).1;exact⟨x,hx,.lost (Km (P.part x hx) hs.lm hi h1 h2 h3)⟩
 |@own p ho _ ih=>
  intro hs;obtain⟨s,o⟩:=p;subst ho;apply Classical.byContradiction;intro hn;have hn:∀x∈ps,¬bS x.2 party ⟨s.rs x.1,true⟩:=λx hx hd=>hn ⟨x,hx,hd⟩;obtain⟨x,hx,hd⟩:=ih (-2) ⟨s,false⟩ (gK.2 (.inl ⟨rfl,rfl,rfl⟩)) hs;have hp:=P.part x hx;have:¬∀m q,(m,q)∈x.2.kJ party ⟨s.rs x.1,true⟩->bS x.2 party q:=λe=>hn x hx (.own rfl e);obtain⟨m,e⟩:=Classical.not_forall.1 this;obtain⟨q,e⟩:=Classical.not_forall.1 e;obtain⟨hm,hq⟩:=Classical.not_imp.1 e;rcases gK.1 hm with⟨_,_,rfl⟩|⟨_,h1,_⟩|⟨i,h1,_,h2,h3,rfl⟩
  .exact hq hd
  .cases h1
  .rw[hp.acts]at h1
   have h2:s.day<C.days:=by rw[hp.days]at h2;exact h2
   have hmv:C.Iy party ⟨s,true⟩ i:=⟨by have:=h3.1;rw[xY hp]at this;exact this,λe=>h3.2 (by show x.2.aW (s.rs x.1) i=s.rs x.1;rw[jD hp hs.lm];exact congrArg (aI.rs x.1) e)⟩;obtain⟨y,hy,hdy⟩:=ih i ⟨C.aW s i,true⟩ (gK.2 (.inr (.inr ⟨i,h1,rfl,h2,hmv,rfl⟩))) (step_ok (t:=i) hs h2);change bS y.2 party ⟨(C.aW s i).rs y.1,true⟩at hdy;rw[<-jD (P.part y hy) hs.lm]at hdy;by_cases e:y=x
   .subst e
    exact hq hdy
   .rw[P.other hs hx hy e h1 h3.2]at hdy
    exact hn y hy hdy
 |@jJ p m q ho hm _ ih=>
  intro hs;obtain⟨s,o⟩:=p;subst ho;rcases gK.1 hm with⟨_,h1,_⟩|⟨rfl,_,h2,rfl⟩|⟨i,h1,rfl,h2,h3,rfl⟩
  .cases h1
  .have h2:s.day<C.days:=h2
   obtain⟨x,hx,hd⟩:=ih (step_ok (t:= -1) hs h2);have hp:=P.part x hx;rw[<-jD hp hs.lm]at hd;exact⟨x,hx,.jJ rfl (gK.2 (.inr (.inl ⟨rfl,rfl,by rw[hp.days];exact h2,rfl⟩))) hd⟩
  .have h2:s.day<C.days:=h2
   obtain⟨x,hx,hd⟩:=ih (step_ok (t:=i) hs h2);have hp:=P.part x hx;rw[<-jD hp hs.lm]at hd;refine⟨x,hx,?_⟩;by_cases e:x.2.aW (s.rs x.1) i=s.rs x.1
   .simp only[e]at hd
    cases hd with
    |lost hf=>exact .lost hf
    |own _ hall=>exact hall (-2) _ (gK.2 (.inl ⟨rfl,rfl,rfl⟩))
    |jJ h=>cases h
   .exact .jJ rfl (gK.2 (.inr (.inr ⟨i,by rw[hp.acts];exact h1,rfl,by rw[hp.days];exact h2,⟨by rw[xY hp];exact h3.1,e⟩,rfl⟩))) hd
def au.mu(m:au):Nat:=if m.status=0 then 30 else if m.runs=true then 20 - m.got.toNat else 0
def uW:List au->Nat
 |[]=>0
 |m::l=>m.mu+uW l
theorem Et:∀{l l':List au},l'.length=l.length->(∀(i:Nat)(m m':au),l[i]?=some m->l'[i]?=some m'->m'=m\/m'.mu<m.mu)->uW l'<=uW l/\(l'≠l->uW l'<uW l)
 |[],[],_,_=>⟨Nat.le_refl _,λh=>absurd rfl h⟩
 |m::l,m'::l',hl,h=>by
  have hl:l'.length=l.length:=by simpa using hl
  obtain⟨h1,h2⟩:=Et hl λi a b ha hb=>h (i+1) a b (by simpa using ha) (by simpa using hb);have h3:=h 0 m m' rfl rfl;simp only[uW];by_cases e:l'=l
  .subst e
   rcases h3 with rfl|h3
   .exact⟨Nat.le_refl _,λh=>absurd rfl h⟩
   .exact⟨by omega,λ_=>by omega⟩
  .have:=h2 e
   rcases h3 with rfl|h3
   .exact⟨by omega,λ_=>by omega⟩
   .exact⟨by omega,λ_=>by omega⟩
theorem VU(h:aK C s){i:Nat}{a:dh}(ha:C.acts[i]?=some a)(hk:a.kind=1)(hr:a.role≠ -1):C.act i a s≠s->uW (C.act i a s).marks<uW s.marks:=by
 have hC:=aA.ok h.con;have h1:C.paused i s.marks=s.marks:=zl (iT C i s.marks) λj m hm hrn=>by
  unfold jf;cases hkc:C.clauses[j]? with
  |none=>rfl
  |some k=>
   have nat:C.natural i=true->False:=λe=>by
    unfold aA.natural aA.D6 at e;rw[if_pos (by omega),Int.toNat_natCast,ha]at e;simp at e;exact hr e.2
   have hp:=(hC.clause hkc).pause;have e2:((i:Int)==k.pause)=false:=by
    have:(i:Int)≠k.pause:=λe=>nat (by rw[e];exact(hp (.inl (by omega))).2.1);simpa using this
   have e3:((i:Int)==k.resume)=false:=by
    have:(i:Int)≠k.resume:=λe=>nat (by rw[e];exact(hp (.inr (by omega))).2.2);simpa using this
   simp only[e2,e3,cond_false]
 have q:(a.kind !=1)=false:=by simpa using hk
 unfold aA.act;simp only[q,Bool.false_and,cond_false,h1];intro hne;have hl:(C.begin s.ah (C.n_ i (bC s.ah a) s.marks)).length=s.marks.length:=by rw[gU,vX]
 refine(Et hl λj m m' hm hm'=>?_).2 λe=>hne (by rw[e]);obtain⟨m1,g1,g2⟩:=(sZ C s.ah _).2 j m' hm';have g3:=jI C i (bC s.ah a) s.marks j;rw[g1,hm,Option.map_some,Option.some.injEq]at g3;have hj:j<C.clauses.length:=by rw[<-h.lm];exact(List.getElem?_eq_some_iff.1 hm).1
 have hkc:C.clauses[j]?=some C.clauses[j]:=List.getElem?_eq_getElem hj;generalize C.clauses[j]=k at hkc;have hmk:=h.marks j m k hm hkc;have am_:=hmk.got (hC.clause hkc);cases hrn:m.runs with
 |false=>
  rw[hrn,cond_false]at g3;subst g3;rcases g2 with rfl|⟨g2,_,k',_,rfl⟩
  .exact .inl rfl
  .right
   simp[au.mu,mE,au.runs,g2]
 |true=>
  rw[hrn,cond_true]at g3;have ana:=(jg m).1 hrn;have hmu:m.mu=20 - m.got.toNat:=by unfold au.mu;rw[if_neg (by omega),if_pos hrn]
  have ended:∀(x:au)(st:Int),st=3\/st=4\/st=5->(x.ended st).mu=0/\(x.ended st).status≠0:=λx st hst=>by
   have h0:(x.ended st).status=st:=rfl;have h2:(x.ended st).runs=false:=zi (by rw[h0];exact hst);refine⟨?_,by rw[h0];omega⟩;unfold au.mu;rw[h0,if_neg (by omega),h2];rfl
  have key:(m1=m\/m1.mu<m.mu)/\m1.status≠0:=by
   subst g3;unfold pI;rw[hkc];dsimp only;cases ((k.act==(i:Int))&&((k.kind==4)||(m.aS==bC s.ah a)))with
   |false=>exact⟨.inl rfl,by simp only[cond_false];omega⟩
   |true=>
    simp only[cond_true,au.hit];cases (k.kind==1)with
    |true=>
     simp only[cond_true,au.performed];cases (m.got+1==k.need)with
     |true=>
      have:=ended ⟨m.status,m.left,m.got+1,m.aS,m.paused⟩ 3 (.inl rfl);simp only[cond_true];exact⟨.inr (by rw[this.1,hmu];omega),this.2⟩
     |false=>
      simp only[cond_false];refine⟨.inr ?_,by show m.status≠0;omega⟩;have:au.mu ⟨m.status,m.left,m.got+1,m.aS,m.paused⟩=20 - (m.got+1).toNat:=by
       unfold au.mu;rw[if_neg (by show¬m.status=0;omega),if_pos (by exact hrn)]
      rw[this,hmu];omega
    |false=>
     simp only[cond_false];cases (k.kind==2)with
     |true=>
      simp only[cond_true,au.violated];cases m.paused with
      |true=>exact⟨.inl rfl,by simp only[cond_true];omega⟩
      |false=>
       have:=ended m 4 (.inr (.inl rfl));exact⟨.inr (by simp only[cond_false];rw[this.1,hmu];omega),this.2⟩
     |false=>
      have:=ended m 3 (.inl rfl);exact⟨.inr (by simp only[cond_false];rw[this.1,hmu];omega),this.2⟩
  rcases g2 with rfl|⟨g2,_⟩
  .exact key.1
  .exact absurd g2 key.2
theorem Parts.Q7(P:Parts C ps){party:Int}(hp0:0<=party){x:List Nat×aA}(hx:x∈ps){q:aP}(h:bS x.2 party q):∀s:aI,aK C s->q.st=s.rs x.1->bS C party ⟨s,q.own⟩:=by
 have hp:=P.part x hx;induction h with
 |lost hf=>intro s hs e;rw[e]at hf;exact .lost (Kl hp hs.lm hf)
 |@own q ho _ ih=>
  obtain⟨r,o⟩:=q;subst ho;intro s;generalize hn:uW s.marks=n;induction n using Nat.strongRecOn generalizing s with
  |_ n ihn=>
   intro hs e;dsimp only at e;subst e;refine .own rfl λm q' hm=>?_;rcases gK.1 hm with⟨_,_,rfl⟩|⟨_,h1,_⟩|⟨i,h1,_,h2,h3,rfl⟩
   .exact ih (-2) ⟨s.rs x.1,false⟩ (gK.2 (.inl ⟨rfl,rfl,rfl⟩)) s hs rfl
   .cases h1
   .have h2:s.day<C.days:=h2
    have hs2:=step_ok (t:=i) hs h2;by_cases ec:x.2.aW (s.rs x.1) i=s.rs x.1
    .have WX:(C.aW s i).rs x.1=s.rs x.1:=by rw[<-jD hp hs.lm];exact ec
     obtain⟨a,ha⟩:∃a,C.acts[i]?=some a:=⟨_,List.getElem?_eq_getElem h1⟩;have hd:bC s.ah a=party:=by
      have:=h3.1.2 rfl;unfold aA.doer at this;rw[Int.toNat_natCast,ha]at this;exact this
     have aap:a.role≠ -1:=λe=>by unfold bC at hd;rw[e]at hd;simp at hd;omega
     have hne:=h3.2;rw[show aP.st ⟨s,_⟩=s from rfl,tu ha]at hne⊢;rw[tu ha]at WX hs2;by_cases hdo:∀a∈C.acts,a.kind=1
     .have:=VU hs ha (hdo a (List.mem_of_getElem? ha)) aap hne
      exact ihn _ (by omega) _ rfl hs2 WX.symm
     .exfalso
      apply hne;have eq:∀y∈ps,y=x:=λy hy=>Classical.byContradiction λe=>hdo (P.apart y hy x hx e).1;generalize C.act i a s=s' at WX hs2;have l1:=hs.lm;have l2:=hs2.lm;obtain⟨d,ho,us,ms⟩:=s;obtain⟨d',ho',us',ms'⟩:=s';unfold aI.rs at WX;simp only[aI.mk.injEq]at WX l1 l2⊢;obtain⟨e1,e2,e3,e4⟩:=WX;refine⟨e1,e2,e3,List.ext_getElem? λj=>?_⟩;by_cases hj:j<C.clauses.length
      .obtain⟨y,hy,hjy⟩:=P.cover j hj
       rw[eq y hy]at hjy;have l1:ms.length=C.clauses.length:=l1;have l2:ms'.length=C.clauses.length:=l2;obtain⟨n,hn⟩:=List.getElem?_of_mem hjy;rw[<-kI (ms:=ms) (λi hi=>by rw[l1];exact hp.lt hi) hn,<-kI (ms:=ms') (λi hi=>by rw[l2];exact hp.lt hi) hn,e4]
      .rw[List.getElem?_eq_none (by omega),List.getElem?_eq_none (by omega)]
    .exact ih i ⟨x.2.aW (s.rs x.1) i,true⟩ (gK.2 (.inr (.inr ⟨i,by rw[hp.acts];exact h1,rfl,by rw[hp.days];exact h2,⟨by rw[xY hp];exact h3.1,ec⟩,rfl⟩))) _ hs2 (jD hp hs.lm i)
 |@jJ q m q' ho hm _ ih=>
  obtain⟨r,o⟩:=q;subst ho;intro s hs e;dsimp only at e;subst e;rcases gK.1 hm with⟨_,h1,_⟩|⟨rfl,_,h2,rfl⟩|⟨i,h1,rfl,h2,h3,rfl⟩
  .cases h1
  .have h2:s.day<C.days:=by rw[hp.days]at h2;exact h2
   exact .jJ rfl (gK.2 (.inr (.inl ⟨rfl,rfl,h2,rfl⟩))) (ih _ (step_ok (t:= -1) hs h2) (jD hp hs.lm (-1)))
  .have h2:s.day<C.days:=by rw[hp.days]at h2;exact h2
   have h1:i<C.acts.length:=by rw[hp.acts]at h1;exact h1
   refine .jJ rfl (gK.2 (.inr (.inr ⟨i,h1,rfl,h2,⟨by have:=h3.1;rw[xY hp]at this;exact this,λe=>h3.2 ?_⟩,rfl⟩))) (ih _ (step_ok (t:=i) hs h2) (jD hp hs.lm i));show x.2.aW (s.rs x.1) i=s.rs x.1;rw[jD hp hs.lm];exact congrArg (aI.rs x.1) e
theorem Parts.Od(P:Parts C ps){party:Int}(hp0:0<=party)(hs:aK C s)(o:Bool):bS C party ⟨s,o⟩↔∃x∈ps,bS x.2 party ⟨s.rs x.1,o⟩:=
 ⟨λh=>P.VT h hs,λ⟨_,hx,h⟩=>P.Q7 hp0 hx h s hs rfl⟩
end
end
end
section
noncomputable section
open Classical
structure jq(u r:Nat->Nat):Prop where
 le:∀i,u i<=i
 fix:∀i,u i=i->r i=i
 step:∀i,r (u i)=r i
def GH(u:Nat->Nat)(i v:Nat):Nat->Nat:=λj=>if j=i then v else u j
section
variable {u r:Nat->Nat}
theorem jq.root(h:jq u r)(i:Nat):u (r i)=r i/\r i<=i:=by
 induction i using Nat.strongRecOn with
 |_ i ih=>
  by_cases e:u i=i
  .rw[h.fix i e];exact⟨e,Nat.le_refl _⟩
  .have:=h.le i
   obtain⟨h1,h2⟩:=ih (u i) (by omega);rw[h.step]at h1 h2;exact⟨h1,by omega⟩
theorem jq.idem(h:jq u r)(i:Nat):r (r i)=r i:=h.fix _ (h.root i).1
theorem jq.aaq(h:jq u r)(i:Nat):jq (GH u i (r i)) r:=by
 refine⟨λj=>?_,λj=>?_,λj=>?_⟩<;>unfold GH<;>by_cases e:j=i
 .rw[if_pos e,e];exact(h.root i).2
 .rw[if_neg e];exact h.le j
 .rw[if_pos e,e];exact id
 .rw[if_neg e];exact h.fix j
 .rw[if_pos e,e];exact h.idem i
 .rw[if_neg e];exact h.step j
theorem jq.join(h:jq u r){a b:Nat}(ha:r a=a)(hb:r b=b)(hab:a<=b):jq (GH u b a) (λx=>if r x=b then a else r x):=by
 refine⟨λj=>?_,λj=>?_,λj=>?_⟩<;>unfold GH<;>by_cases e:j=b
 .rw[if_pos e];omega
 .rw[if_neg e];exact h.le j
 .rw[if_pos e,e];intro hh;rw[if_pos hb];exact hh
 .rw[if_neg e];intro hh;rw[h.fix j hh,if_neg e]
 .rw[if_pos e,e,ha,if_pos hb];split<;>rfl
 .rw[if_neg e,h.step]
def KY(r r':Nat->Nat):Prop:=∀x y,r x=r y->r' x=r' y
theorem KY.refl(r:Nat->Nat):KY r r:=λ_ _ h=>h
theorem KY.trans{r r' r'':Nat->Nat}(a:KY r r')(b:KY r' r''):KY r r'':=λx y h=>b x y (a x y h)
theorem KY.join(r:Nat->Nat)(a b:Nat):KY r (λx=>if r x=b then a else r x):=λx y h=>by dsimp only;rw[h]
structure wB(r:Nat->Nat)(k:Nat)(m:Nat->Option Nat)(P:List (List Nat)):Prop where
 at_:∀i,i<k->r i=i->∃p:Nat,m i=some p/\P[p]?=some ((List.range k).filter λj=>decide (r j=i))
 of:∀(p:Nat)(l:List Nat),P[p]?=some l->∃i,i<k/\r i=i/\m i=some p/\l=(List.range k).filter λj=>decide (r j=i)
theorem wB.nil(r:Nat->Nat)(m:Nat->Option Nat):wB r 0 m []:=⟨λi h=>absurd h (Nat.not_lt_zero i),λp l h=>by simp at h⟩
theorem iW(r:Nat->Nat)(k i:Nat):(List.range (k+1)).filter (λj=>decide (r j=i))=(List.range k).filter (λj=>decide (r j=i))++if r k=i then[k]else[]:=by
 rw[List.range_succ,List.filter_append];congr 1;by_cases e:r k=i<;>simp[e]
theorem wB.old(h:jq u r){k:Nat}{m:Nat->Option Nat}{P:List (List Nat)}(g:wB r k m P)(hk:r k≠k):∃(p:Nat)(l:List Nat),m (r k)=some p/\P[p]?=some l/\wB r (k+1) m (P.set p (l++[k])):=by
 have hr:=h.root k;obtain⟨p,h1,h2⟩:=g.at_ (r k) (by omega) (h.idem k);have hp:=(List.getElem?_eq_some_iff.1 h2).1;refine⟨p,_,h1,h2,λi hi hri=>?_,λq l hq=>?_⟩
 .have hik:i<k:=by
   by_cases e:i=k
   .subst e;exact absurd hri hk
   .omega
  obtain⟨q,h3,h4⟩:=g.at_ i hik hri;refine⟨q,h3,?_⟩;rw[List.getElem?_set,iW];by_cases e:r k=i
  .rw[<-e,h1]at h3
   cases h3
   rw[if_pos rfl,if_pos hp,if_pos e,e]
  .have hqp:p≠q:=λe2=>by
    subst e2;rw[h2]at h4;have h5:r k∈(List.range k).filter λj=>decide (r j=r k):=by simp[h.idem k];omega
    rw[Option.some.inj h4]at h5;have:=(List.mem_filter.1 h5).2;simp[h.idem k]at this;exact e this
   rw[if_neg hqp,if_neg e,List.append_nil];exact h4
 .rw[List.getElem?_set]at hq
  by_cases e:p=q
  .subst e
   rw[if_pos rfl,if_pos hp]at hq;cases hq
   refine⟨r k,by omega,h.idem k,h1,?_⟩;rw[iW,if_pos rfl]
  .rw[if_neg e]at hq
   obtain⟨i,h3,h4,h5,h6⟩:=g.of q l hq;refine⟨i,by omega,h4,h5,?_⟩;rw[iW,h6];by_cases e2:r k=i
   .subst e2
    rw[h1]at h5;cases h5
    exact absurd rfl e
   .rw[if_neg e2,List.append_nil]
theorem wB.new(h:jq u r){k:Nat}{m:Nat->Option Nat}{P:List (List Nat)}(g:wB r k m P)(hk:r k=k):wB r (k+1) (λi=>if i=k then some P.length else m i) ((P++[[]]).set P.length ([]++[k])):=by
 have hs:(P++[[]]).set P.length ([]++[k])=P++[[k]]:=by simp
 rw[hs];have lt:∀j,j<k->r j≠k:=λj hj e=>by have:=(h.root j).2;omega
 have hz:(List.range k).filter (λj=>decide (r j=k))=[]:=by
  rw[List.filter_eq_nil_iff];intro j hj;simpa using lt j (List.mem_range.1 hj)
 refine⟨λi hi hri=>?_,λq l hq=>?_⟩
 .by_cases e:i=k
  .subst e
   refine⟨P.length,if_pos rfl,?_⟩;rw[List.getElem?_append_right (Nat.le_refl _),Nat.sub_self,iW,if_pos hk,hz];rfl
  .obtain⟨p,h1,h2⟩:=g.at_ i (by omega) hri
   refine⟨p,by rw[if_neg e];exact h1,?_⟩;rw[List.getElem?_append_left (List.getElem?_eq_some_iff.1 h2).1,h2,iW,if_neg (by omega),List.append_nil]
 .by_cases hq2:q<P.length
  .rw[List.getElem?_append_left hq2]at hq
   obtain⟨i,h3,h4,h5,h6⟩:=g.of q l hq;refine⟨i,by omega,h4,by rw[if_neg (by omega)];exact h5,?_⟩;rw[iW,h6,if_neg (by omega),List.append_nil]
  .have hq3:=(List.getElem?_eq_some_iff.1 hq).1
   simp at hq3;obtain rfl:q=P.length:=by omega
   rw[List.getElem?_append_right (Nat.le_refl _),Nat.sub_self]at hq;cases hq
   refine⟨k,by omega,hk,if_pos rfl,?_⟩;rw[iW,if_pos hk,hz];rfl
end
def aF.nums(k:aF):List Int:=if k.pause= -1 then[k.act]else[k.act,k.pause,k.resume]
structure wC(C:aA)(P:List (List Nat)):Prop where
 agw:P.length<=C.clauses.length
 len:∀l∈P,l.length<=C.clauses.length
 lt:∀l∈P,∀i∈l,i<C.clauses.length
 cover:∀i,i<C.clauses.length->∃l∈P,i∈l
 apart:∀l∈P,∀l'∈P,l≠l'->(∀a∈C.acts,a.kind=1)/\∀i∈l,∀j∈l',∀k k':aF,C.clauses[i]?=some k->C.clauses[j]?=some k'->∀t∈k.nums,t∉k'.nums
theorem wC.of{C:aA}{u r:Nat->Nat}{m:Nat->Option Nat}{P:List (List Nat)}(hP:P.length<=C.clauses.length)(h:jq u r)(g:wB r C.clauses.length m P)
 (h1:(∃a∈C.acts,a.kind≠1)->∀i,i<C.clauses.length->r i=r 0)
 (h2:∀(i j:Nat)(k k':aF),C.clauses[i]?=some k->C.clauses[j]?=some k'->∀t∈k.nums,t∈k'.nums->r i=r j):wC C P:=by
 refine⟨hP,λl hl=>?_,λl hl i hi=>?_,λi hi=>?_,λl hl l' hl' hne=>?_⟩
 .obtain⟨p,hp⟩:=List.getElem?_of_mem hl
  obtain⟨q,_,_,_,rfl⟩:=g.of p l hp;have:=List.length_filter_le (λj=>decide (r j=q)) (List.range C.clauses.length);rw[List.length_range]at this;exact this
 .obtain⟨p,hp⟩:=List.getElem?_of_mem hl
  obtain⟨q,_,_,_,rfl⟩:=g.of p l hp;exact List.mem_range.1 (List.mem_filter.1 hi).1
 .have hr:=h.root i
  obtain⟨p,h3,h4⟩:=g.at_ (r i) (by omega) (h.idem i);exact⟨_,List.mem_of_getElem? h4,List.mem_filter.2 ⟨List.mem_range.2 hi,by simp⟩⟩
 .obtain⟨p,hp⟩:=List.getElem?_of_mem hl
  obtain⟨p',hp'⟩:=List.getElem?_of_mem hl';obtain⟨q,q1,q2,_,rfl⟩:=g.of p l hp;obtain⟨q',q1',q2',_,rfl⟩:=g.of p' l' hp';have hqq:q≠q':=λe=>hne (by rw[e]);refine⟨λa ha=>Classical.byContradiction λe=>hqq ?_,λi hi j hj k k' hk hk' t ht ht'=>hqq ?_⟩
  .have e1:=h1 ⟨a,ha,e⟩ q q1
   have e2:=h1 ⟨a,ha,e⟩ q' q1';omega
  .have e1:r i=q:=by simpa using(List.mem_filter.1 hi).2
   have e2:r j=q':=by simpa using(List.mem_filter.1 hj).2
   rw[<-e1,<-e2];exact h2 i j k k' hk hk' t ht ht'
def tC(C:aA)(cl:List Nat)(i:Nat):aF:=match C.clauses[i]? with
 |some k=>k.onto (k.start.map λc=>⟨(cl.idxOf c.clause.toNat:Nat),c.is⟩)
 |none=>⟨0,0,0,0,[],0,0,false,false,0,0,⟨0,0⟩,0,0,false⟩
def aA.part(C:aA)(cl:List Nat):aA:=⟨C.aC,C.ah,C.units,C.acts,cl.map (tC C cl),C.days,C.off⟩
theorem Q8{C:aA}{cl:List Nat}:(C.part cl).clauses.length=cl.length/\∀(j i:Nat)(k:aF),cl[j]?=some i->C.clauses[i]?=some k->(C.part cl).clauses[j]?=some (k.onto (k.start.map λc=>⟨(cl.idxOf c.clause.toNat:Nat),c.is⟩)):=by
 refine⟨by simp[aA.part],λj i k hj hk=>?_⟩;show(cl.map (tC C cl))[j]?=_;rw[List.getElem?_map,hj,Option.map_some,tC,hk]
theorem eO.of{C:aA}{cl:List Nat}(hl:∀i∈cl,i<C.clauses.length)(hc:∀i∈cl,∀k:aF,C.clauses[i]?=some k->∀c∈k.start,0<=c.clause/\c.clause.toNat∈cl):eO C (C.part cl) cl:=by
 obtain⟨h1,h2⟩:=Q8 (C:=C) (cl:=cl);refine⟨rfl,rfl,rfl,rfl,rfl,h1,λj i hj=>?_⟩;have hi:=List.mem_of_getElem? hj;have hk:C.clauses[i]?=some (C.clauses[i]'(hl i hi)):=List.getElem?_eq_getElem (hl i hi);refine⟨_,_,hk,h2 j i _ hj hk,by simp,λn c c' hn hn'=>?_⟩;rw[List.getElem?_map,hn]at hn';cases hn'
 obtain⟨g1,g2⟩:=hc i hi _ hk c (List.mem_of_getElem? hn);exact⟨rfl,g1,_,rfl,by rw[List.getElem?_eq_getElem (List.idxOf_lt_length_of_mem g2),List.getElem_idxOf]⟩
theorem Parts.of{C:aA}{P:List (List Nat)}(hv:C.valid=true)(h:wC C P)(hp:∀l∈P,eO C (C.part l) l/\(C.part l).valid=true):Parts C (P.map λl=>(l,C.part l)):=by
 have mem:∀x∈P.map λl=>(l,C.part l),x.1∈P/\x.2=C.part x.1:=λx hx=>by
  obtain⟨l,hl,rfl⟩:=List.mem_map.1 hx;exact⟨hl,rfl⟩
 refine⟨λx hx=>?_,λx hx=>?_,λi hi=>?_,λx hx y hy hne=>?_⟩
 .obtain⟨h1,h2⟩:=mem x hx;rw[h2];exact(hp _ h1).1
 .obtain⟨h1,h2⟩:=mem x hx;rw[h2];exact(hp _ h1).2
 .obtain⟨l,hl,h1⟩:=h.cover i hi
  exact⟨_,List.mem_map.2 ⟨l,hl,rfl⟩,h1⟩
 .obtain⟨h1,h2⟩:=mem x hx
  obtain⟨h3,h4⟩:=mem y hy;have hxy:x.1≠y.1:=λe=>hne (by obtain⟨a,b⟩:=x;obtain⟨c,d⟩:=y;dsimp only at e h2 h4;subst e;rw[h2,h4]);obtain⟨g1,g2⟩:=h.apart _ h1 _ h3 hxy;refine⟨g1,λi hi j hj k k' hk hk' t ht ht'=>?_⟩;have hC:=aA.ok hv;have nm:∀(i:Nat)(k:aF),C.clauses[i]?=some k->k.names t->(t:Int)∈k.nums:=λi k hk hn=>by
   unfold aF.nums;have hp:=(hC.clause hk).pause;by_cases e:k.pause= -1
   .rw[if_pos e]
    rcases hn with hn|hn|hn
    .simp[hn]
    .omega
    .have hn1:=(hp (.inr (by omega))).2.1
     rw[e]at hn1;simp[aA.natural,aA.D6]at hn1
   .rw[if_neg e]
    rcases hn with hn|hn|hn<;>simp[hn]
  exact g2 i hi j hj k k' hk hk' t (nm i k hk ht) (nm j k' hk' ht')
theorem GI{C:aA}{P:List (List Nat)}(h:wC C P){party:Int}(hp0:0<=party){p:aP}(hs:aK C p.st)(hp:∀l∈P,eO C (C.part l) l/\(C.part l).valid=true):(∀l∈P,¬bS (C.part l) party ⟨p.st.rs l,p.own⟩)↔¬bS C party p:=by
 have:=(Parts.of hs.con h hp).Od hp0 hs p.own;constructor
 .intro h1 h2
  obtain⟨x,hx,hd⟩:=this.1 h2;obtain⟨l,hl,rfl⟩:=List.mem_map.1 hx;exact h1 l hl hd
 .exactλh1 l hl hd=>h1 (this.2 ⟨_,List.mem_map.2 ⟨l,hl,rfl⟩,hd⟩)
end
end
section
noncomputable section
@[go_sem] theorem aju {k j:IntKind} {a b:Int}:X8 (some (.i k a)) (some (.i j b))=some (.i k (if a<=b then a else b)):=by
 show some (AV.i k (bc (lD a b) a b))=_;rw[eP];by_cases h:a<=b<;>simp[h,bc]
@[go_sem] theorem ajv {k j:IntKind} {a b:Int}:X6 (some (.i k a)) (some (.i j b))=some (.i k (if b<=a then a else b)):=by
 show some (AV.i k (bc (lD b a) a b))=_;rw[eP];by_cases h:b<=a<;>simp[h,bc]
section
variable {h h':AH} {n n':Nat} {v:CS} {C:aA} {tv:TS} {s:aI} {party:Int} {Q:AV->AH->Nat->Prop}
theorem Oe(K:Nat)(a:dh)(hQ:∀h' n',Up h n h' n'->Q (.b (!decide (a.kind=1))) h' n'):CW (EF (K+1)) 226 [.agg a.av] h n Q:=by
 refine aD c226 rfl ?_;repeat' (first|(simp (disch:=omega) only[go_sem,simprocAttr,aan,dh.av])|(refine aR ?_ ?_<;>(intro hb hd;rw[hb];clear hb))|(with_reducible refine aj ?_))
 exact hQ _ _ aH
theorem Q9(K:Nat){x:AV}{l:List dh}(hx:SL h n 7 x dh.av l)(hl:l.length<=1000000)(hQ:∀(r:Int) h' n',(0<=r↔∃a∈l,a.kind≠1)->Up h n h' n'->Q (.i .i64 r) h' n'):CW (EF (K+2)) 262 [x,.f 226 []] h n Q:=by
 refine aD agv rfl ?_;repeat' (first|(simp (disch:=omega) only[go_sem,simprocAttr,aao,hx.len])|(refine aR ?_ ?_<;>(intro hb hd;rw[hb];clear hb))|(with_reducible refine aj ?_))
 refine gI l.length (λk=>∀(j:Nat)(a:dh),j<k->l[j]?=some a->a.kind=1) h n (λ_=>[(0,x),(1,.f 226 [])]) (by omega) (by omega) (by omega) (by omega) (λk=>⟨rfl,rfl⟩) rfl rfl (by(repeat' (first|exact aO|refine aN rfl ?_))) (Up.refl _ _) (λj a hj=>absurd hj (by omega)) ?_ ?_
 .intro k h3 n3 hk hno u
  obtain⟨b1,o1,a,i1,ha,hb1,rd⟩:=(hx.up u).fu (k:=(k:Nat)) (by omega) (by omega) (by omega);rw[show((k:Nat):Int).toNat=k by omega]at ha;simp (disch:=omega) only[go_sem,simprocAttr,aJ i1,rd.all];rw[aU];refine Oe K a λh4 n4 u4=>?_;by_cases hd:a.kind=1
  .rw[decide_eq_true hd]
   simp (disch:=omega) only[go_sem,simprocAttr];refine iC rfl rfl (λj a' hj ha'=>?_) aH (by(repeat' (first|exact aO|refine aN rfl ?_)));by_cases e:j=k
   .subst e;rw[ha]at ha';cases ha';exact hd
   .exact hno j a' (by omega) ha'
  .rw[decide_eq_false hd]
   simp (disch:=omega) only[go_sem,simprocAttr];exact hQ _ _ _ ⟨λ_=>⟨a,List.mem_of_getElem? ha,hd⟩,λ_=>Int.natCast_nonneg _⟩ aH
 .intro h3 n3 hno u
  simp (disch:=omega) only[go_sem,simprocAttr];refine hQ _ _ _ ⟨λe=>by omega,λ⟨a,ha,hk⟩=>?_⟩ u;obtain⟨j,hj⟩:=List.getElem?_of_mem ha;exact absurd (hno j a (List.getElem?_eq_some_iff.1 hj).1 hj) hk
theorem Q_(K:Nat){x:AV}{l:List dh}(hx:SL h n 7 x dh.av l)(hl:l.length<=1000000)(hQ:∀b h' n',(b=true↔∃a∈l,a.kind≠1)->Up h n h' n'->Q (.b b) h' n'):CW (EF (K+3)) 225 [x,.f 226 []] h n Q:=by
 refine aD agu rfl ?_;simp (disch:=omega) only[go_sem,simprocAttr,aam];rw[aU];refine Q9 K hx hl λr h2 n2 hr u=>?_;simp (disch:=omega) only[go_sem,simprocAttr];exact hQ _ _ _ (by rw[decide_eq_true_iff];exact hr) u
theorem GJ(K:Nat)(k:aF)(t:AV)(hQ:∀v' h' n',Up h n h' n'->SL h' n' 1 v' iN k.nums->(∀x,blk v' x->n<=x)->Q v' h' n'):CW (EF (K+1)) 227 [.agg (k.av t)] h n Q:=by
 refine aD c227 rfl ?_;by_cases hp:k.pause= -1
 .have hd:decide (k.pause= -1)=true:=decide_eq_true hp
  repeat' (first|(simp (disch:=omega) only[go_sem,simprocAttr,VQ,aF.av,hd])|(refine aR ?_ ?_<;>(intro hb hd;rw[hb];clear hb))|(with_reducible refine aj ?_))
  refine hQ _ _ _ aH (SL.of (λ_=>rfl) (by omega) aG ?_ ?_ λ_ e=>by cases e;omega) (λx hx=>by rw[dO]at hx;omega)
  .unfold aF.nums;rw[if_pos hp];rfl
  .unfold aF.nums;rw[if_pos hp];rfl
 .have hd:decide (k.pause= -1)=false:=decide_eq_false hp
  repeat' (first|(simp (disch:=omega) only[go_sem,simprocAttr,VQ,aF.av,hd])|(refine aR ?_ ?_<;>(intro hb hd;rw[hb];clear hb))|(with_reducible refine aj ?_))
  refine hQ _ _ _ aH (SL.of (λ_=>rfl) (by omega) aG ?_ ?_ λ_ e=>by cases e;omega) (λx hx=>by rw[dO]at hx;omega)
  .unfold aF.nums;rw[if_neg hp];rfl
  .unfold aF.nums;rw[if_neg hp];rfl
end
end
end
section
noncomputable section
structure UF(h:AH)(n ab rb:Nat)(A:List Nat)(r:Nat->Nat):Prop where
 row:h.get ab=some (.row 347 (A.flatMap cn))
 fn:h.get rb=some (.row 348 [.f 223 [.p ab 0,.p rb 0]])
 len:A.length=400
 roots:jq (λi=>A.getD i 0) r
 KZ:ab<n
 JW:rb<n
 ne:rb≠ab
section
variable {h h':AH} {n n' ab rb:Nat} {A:List Nat} {r:Nat->Nat} {Q:AV->AH->Nat->Prop}
theorem UF.up(u:UF h n ab rb A r)(x:Up h n h' n'):UF h' n' ab rb A r:=⟨(x.old _ u.KZ).trans u.row,(x.old _ u.JW).trans u.fn,u.len,u.roots,Nat.lt_of_lt_of_le u.KZ x.le,Nat.lt_of_lt_of_le u.JW x.le,u.ne⟩
theorem Kn(A:List Nat){i v:Nat}(hi:i<A.length):(λj=>(A.set i v).getD j 0)=GH (λj=>A.getD j 0) i v:=by
 funext j;unfold GH;rw[List.getD_eq_getElem?_getD,List.getElem?_set];by_cases e:j=i
 .subst e;rw[if_pos rfl,if_pos hi,if_pos rfl];rfl
 .rw[if_neg (Ne.symm e),if_neg e];simp[List.getD_eq_getElem?_getD]
theorem UF.set(u:UF h n ab rb A r){i v:Nat}{r':Nat->Nat}(hi:i<400)(hr:jq (GH (λj=>A.getD j 0) i v) r'):UF (h.set ab (.row 347 ((A.set i v).flatMap cn))) n ab rb (A.set i v) r':=
 ⟨aG,(ay u.ne).trans u.fn,by rw[List.length_set];exact u.len,by rw[Kn A (by rw[u.len];exact hi)];exact hr,u.KZ,u.JW,u.ne⟩
theorem UF.at_(u:UF h n ab rb A r){i:Nat}(hi:i<400):A[i]?=some (A.getD i 0):=by
 rw[List.getD_eq_getElem?_getD,List.getElem?_eq_getElem (by rw[u.len];exact hi)];rfl
theorem nv1{A:List Nat}{i x:Nat}(h:A[i]?=some x):nv (A.flatMap cn) (0+i*1)=some (.i .i64 (x:Nat)):=by
 have e:=nR (t:=347) (c:=cn) (λ_=>rfl) h rfl;rw[Yq,<-Nat.zero_add (i*1)]at e;exact e
theorem VW{A:List Nat}{i x:Nat}(h:i<A.length):st1 (0+i*1) (.i .i64 (x:Nat)) (A.flatMap cn)=some ((A.set i x).flatMap cn):=by
 rw[Nat.zero_add];exact lM (c:=cn) (λ_=>rfl) h rfl
theorem uX:∀(i K:Nat){h:AH}{n:Nat}{A:List Nat}{Q:AV->AH->Nat->Prop},UF h n ab rb A r->i<400->(∀A' h' n',UF h' n' ab rb A' r->n<=n'->(∀x,x<n->x≠ab->h'.get x=h.get x)->Q (.i .i64 (r i:Nat)) h' n')->CW (EF (K+i+1)) 223 [.i .i64 (i:Nat),.p ab 0,.p rb 0] h n Q:=by
 intro i;induction i using Nat.strongRecOn with
 |_ i ih=>
  intro K h n A Q u hi hQ;have rd:=nv1 (u.at_ hi);have row:=u.row;have fn:=u.fn;have hle:A.getD i 0<=i:=u.roots.le i;refine aD ags rfl ?_;by_cases he:A.getD i 0=i
  .have hr:r i=i:=u.roots.fix i he
   rw[hr]at hQ;rw[he]at rd;simp (disch:=omega) only[go_sem,simprocAttr,Q5,sJ,Int.toNat_natCast,row,rd];exact hQ A _ _ u (Nat.le_refl _) λ_ _ _=>rfl
  .have hd:decide (((A.getD i 0:Nat):Int)=(i:Int))=false:=decide_eq_false (by omega)
   have hst:r (A.getD i 0)=r i:=u.roots.step i;repeat' (first|(simp (disch:=omega) only[go_sem,simprocAttr,ub.old,Q5,sJ,Int.toNat_natCast,row,rd,hd,fn])|(simp (disch:=omega) only[go_sem,simprocAttr,Q5,sJ,Int.toNat_natCast,row,rd,hd,fn])|(refine aR ?_ ?_<;>(intro hb hd;rw[hb];clear hb))|(with_reducible refine aj ?_))
   rw[vP];show CW (EF (K+i)) 223 [.i .i64 (A.getD i 0:Nat),.p ab 0,.p rb 0] _ _ _;rw[show K+i=(K+(i - (A.getD i 0+1)))+A.getD i 0+1 by omega];refine ih _ (by omega) _ u (by omega) λA' h2 n2 u2 l2 x2=>?_;rw[hst];have st:=VW (A:=A') (i:=i) (x:=r i) (by rw[u2.len];exact hi);have wD:=u2.row;have u3:=u2.set (i:=i) (v:=r i) hi (u2.roots.aaq i);have hA3:(A'.set i (r i))[i]?=some (r i):=by rw[List.getElem?_set,if_pos rfl,if_pos (by rw[u2.len];exact hi)]
   have oF:=nv1 hA3;simp (disch:=omega) only[go_sem,simprocAttr,sJ,Int.toNat_natCast,wD,st,Option.map_some];simp (disch:=omega) only[go_sem,simprocAttr,sJ,Int.toNat_natCast,oF];exact hQ _ _ _ u3 l2 λx hx hne=>by rw[ay hne];exact x2 x hx hne
theorem CU(K:Nat){i j:Nat}(u:UF h n ab rb A r)(hi:i<400)(hj:j<400)(hQ:∀A' r' h' n',UF h' n' ab rb A' r'->KY r r'->r' i=r' j->n<=n'->(∀x,x<n->x≠ab->h'.get x=h.get x)->Q (.bN []) h' n'):CW (EF (K+402)) 224 [.i .i64 (i:Nat),.i .i64 (j:Nat),.p rb 0,.p ab 0] h n Q:=by
 have fn:=u.fn;refine aD agt rfl ?_;repeat' (first|(simp (disch:=omega) only[go_sem,simprocAttr,ub.old,VP,fn])|(simp (disch:=omega) only[go_sem,simprocAttr,VP,fn])|(refine aR ?_ ?_<;>(intro hb hd;rw[hb];clear hb))|(with_reducible refine aj ?_))
 rw[vP];show CW (EF (K+401)) 223 [.i .i64 (i:Nat),.p ab 0,.p rb 0] _ _ _;rw[show K+401=(K+(400 - i))+i+1 by omega];refine uX i _ u hi λA1 h1 n1 u1 l1 x1=>?_;rw[show(K+(400 - i))+i+1=K+401 by omega];have fn1:=u1.fn;simp (disch:=omega) only[go_sem,simprocAttr,fn1];rw[vP];show CW (EF (K+401)) 223 [.i .i64 (j:Nat),.p ab 0,.p rb 0] _ _ _;rw[show K+401=(K+(400 - j))+j+1 by omega];refine uX j _ u1 hj λA2 h2 n2 u2 l2 x2=>?_;rw[show(K+(400 - j))+j+1=K+401 by omega];have fn2:=u2.fn;simp (disch:=omega) only[go_sem,simprocAttr,fn2];rw[vP];show CW (EF (K+401)) 223 [.i .i64 (i:Nat),.p ab 0,.p rb 0] _ _ _;rw[show K+401=(K+(400 - i))+i+1 by omega];refine uX i _ u2 hi λA3 h3 n3 u3 l3 x3=>?_;rw[show(K+(400 - i))+i+1=K+401 by omega];have fn3:=u3.fn;simp (disch:=omega) only[go_sem,simprocAttr,fn3];rw[vP];show CW (EF (K+401)) 223 [.i .i64 (j:Nat),.p ab 0,.p rb 0] _ _ _;rw[show K+401=(K+(400 - j))+j+1 by omega];refine uX j _ u3 hj λA4 h4 n4 u4 l4 x4=>?_;rw[show(K+(400 - j))+j+1=K+401 by omega];have fn4:=u4.fn;simp (disch:=omega) only[go_sem,simprocAttr,fn4];refine⟨⟨by rw[fn];rfl,by rw[fn];rfl,by rw[fn1];rfl,by rw[fn];rfl,by rw[fn1];rfl,by rw[fn2];rfl⟩,?_⟩;have hri:=(u.roots.root i).2;have hrj:=(u.roots.root j).2;obtain⟨lo,hh,e1,e2,e3,e4⟩:∃lo hh:Nat,(if((r i:Nat):Int)<=((r j:Nat):Int)then((r i:Nat):Int)else((r j:Nat):Int))=(lo:Int)/\(if((r j:Nat):Int)<=((r i:Nat):Int)then((r i:Nat):Int)else((r j:Nat):Int))=(hh:Int)/\lo<=hh/\((lo=r i/\hh=r j)\/(lo=r j/\hh=r i)):=by
  by_cases h1:r i<=r j
  .refine⟨r i,r j,if_pos (by omega),?_,h1,.inl ⟨rfl,rfl⟩⟩
   by_cases h2:r j<=r i
   .rw[if_pos (by omega)];omega
   .rw[if_neg (by omega)]
  .exact⟨r j,r i,if_neg (by omega),if_pos (by omega),by omega,.inr ⟨rfl,rfl⟩⟩
 rw[e1,e2];have hh4:hh<400:=by omega
 have rlo:r lo=lo:=by rcases e4 with⟨e,_⟩|⟨e,_⟩<;>rw[e,u.roots.idem]
 have rhh:r hh=hh:=by rcases e4 with⟨_,e⟩|⟨_,e⟩<;>rw[e,u.roots.idem]
 have agy:=u4.row;have st:=VW (A:=A4) (i:=hh) (x:=lo) (by rw[u4.len];exact hh4);have u5:=u4.set hh4 (u4.roots.join rlo rhh e3);simp (disch:=omega) only[go_sem,simprocAttr,sJ,Int.toNat_natCast,agy,st,Option.map_some];refine hQ _ _ _ _ u5 (KY.join r lo hh) ?_ (by omega) λx hx hne=>by rw[ay hne,x4 x (by omega) hne,x3 x (by omega) hne,x2 x (by omega) hne,x1 x hx hne]
 rcases e4 with⟨e,e'⟩|⟨e,e'⟩
 .rw[if_pos e'.symm];split
  .rfl
  .exact e.symm
 .rw[if_pos (c:=r i=hh) e'.symm];split
  .rfl
  .exact e
end
end
end
section
noncomputable section
theorem Gr.aas{h:AH}{n e:Nat}{v:AV}{l:List AV}(g:Gr h n e 1 v one l){p:Nat}(hp:p<l.length)(y:AV):∃b cap cells cells',v= .sl b 0 0 l.length cap/\b<n/\h.get b=some (.row e cells)/\st1 (p*1) y cells=some cells'/\nv cells (p*1)=l[p]?/\Gr (h.set b (.row e cells')) n e 1 v one (l.set p y):=by
 rcases g.2 with⟨_,rfl⟩|⟨b,cap,cells,rfl,h1,h2,h3,h4,h5,h6⟩
 .cases hp
 .have hf:∀l:List AV,l.flatMap one=l:=λl=>by induction l with|nil=>rfl|cons a l ih=>rw[List.flatMap_cons,ih];rfl
  rw[hf,Nat.mul_one]at h3;rw[Nat.mul_one]at h4;have hc:cells=l++cells.drop l.length:=by conv=>lhs;rw[<-List.take_append_drop l.length cells,h3]
  refine⟨b,cap,cells,cells.set p y,rfl,h1,h2,?_,?_,g.1,.inr ⟨b,cap,cells.set p y,by rw[List.length_set],h1,aG,?_,by simp;omega,λe=>by simp;have:=h5 e;omega,λk e=>by simp;have:=h6 k e;omega⟩⟩
  .rw[sw,Nat.mul_one]
   unfold oz;rw[if_pos (by simp;omega),List.set_eq_take_append_cons_drop,if_pos (by omega)];rfl
  .rw[rG,Nat.mul_one,<-h3,List.getElem?_take,if_pos hp]
  .rw[hf,List.length_set,Nat.mul_one,List.take_set,h3]
structure PG(h:AH)(n n0 mb:Nat)(pv:AV)(bs:List AV)(B:List (List Nat)):Prop where
 gp:Gr h n 22 1 pv one bs
 lb:bs.length=B.length
 gb:∀(j:Nat)(y:AV)(l:List Nat),bs[j]?=some y->B[j]?=some l->Gr h n 3 1 y cn l
 d1:∀(j:Nat)(y:AV),bs[j]?=some y->∀x,blk y x->¬blk pv x
 d2:∀(i j:Nat)(y z:AV),bs[i]?=some y->bs[j]?=some z->i≠j->∀x,blk y x->¬blk z x
 np:∀x,blk pv x->n0<=x/\x≠mb
 nb:∀(j:Nat)(y:AV),bs[j]?=some y->∀x,blk y x->n0<=x/\x≠mb
section
variable {h h':AH} {n n' n0 mb:Nat} {pv:AV} {bs:List AV} {B:List (List Nat)}
theorem PG.on(a:PG h n n0 mb pv bs B)(hn:n<=n')(e:∀x,x<n->n0<=x->x≠mb->h'.get x=h.get x):PG h' n' n0 mb pv bs B:=
 ⟨a.gp.on hn λx hx hb=>e x hx (a.np x hb).1 (a.np x hb).2,a.lb,λj y l h1 h2=>(a.gb j y l h1 h2).on hn λx hx hb=>e x hx (a.nb j y h1 x hb).1 (a.nb j y h1 x hb).2,a.d1,a.d2,a.np,a.nb⟩
theorem PG.new(a:PG h n n0 mb pv bs B){pv':AV}(g:Gr h' n' 22 1 pv' one (bs++[.k 1]))(hn:n<=n')(hm:mb<n)(h0:n0<=n)(s:∀x,x<n->¬blk pv x->h'.get x=h.get x)(b:∀x,blk pv' x->blk pv x\/n<=x):PG h' n' n0 mb pv' (bs++[.k 1]) (B++[[]]):=by
 have get:∀(j:Nat)(y:AV),(bs++[AV.k 1])[j]?=some y->(j<bs.length/\bs[j]?=some y)\/(j=bs.length/\y= .k 1):=λj y e=>by
  by_cases hj:j<bs.length
  .rw[List.getElem?_append_left hj]at e;exact .inl ⟨hj,e⟩
  .have:=(List.getElem?_eq_some_iff.1 e).1
   simp at this;obtain rfl:j=bs.length:=by omega
   rw[List.getElem?_append_right (Nat.le_refl _),Nat.sub_self]at e;cases e
   exact .inr ⟨rfl,rfl⟩
 refine⟨g,by simp[a.lb],λj y l h1 h2=>?_,λj y h1 x hx=>?_,λi j y z h1 h2 hij x hx=>?_,λx hx=>?_,λj y h1 x hx=>?_⟩
 .rcases get j y h1 with⟨hj,e⟩|⟨rfl,rfl⟩
  .rw[List.getElem?_append_left (by rw[<-a.lb];exact hj)]at h2
   exact(a.gb j y l e h2).on hn λx hx hb=>s x hx (a.d1 j y e x hb)
  .rw[a.lb,List.getElem?_append_right (Nat.le_refl _),Nat.sub_self]at h2
   cases h2
   exact Gr.nil λ_=>rfl
 .rcases get j y h1 with⟨hj,e⟩|⟨rfl,rfl⟩
  .intro hp
   rcases b x hp with hp|hp
   .exact a.d1 j y e x hx hp
   .obtain⟨l,hl⟩:∃l,B[j]?=some l:=⟨B[j]'(by rw[<-a.lb];exact hj),List.getElem?_eq_getElem _⟩
    have:=(a.gb j y l e hl).fF hx;omega
  .exact absurd hx eX
 .rcases get i y h1 with⟨hi,e1⟩|⟨rfl,rfl⟩
  .rcases get j z h2 with⟨hj,e2⟩|⟨rfl,rfl⟩
   .exact a.d2 i j y z e1 e2 hij x hx
   .exact eX
  .exact absurd hx eX
 .rcases b x hx with hp|hp
  .exact a.np x hp
  .omega
 .rcases get j y h1 with⟨hj,e⟩|⟨rfl,rfl⟩
  .exact a.nb j y e x hx
  .exact absurd hx eX
theorem PG.put(a:PG h n n0 mb pv bs B){p i:Nat}{y y':AV}{l:List Nat}(hy:bs[p]?=some y)(hl:B[p]?=some l)(g:Gr h' n' 3 1 y' cn (l++[i]))(hn:n<=n')(hm:mb<n)(h0:n0<=n)(s:∀x,x<n->¬blk y x->h'.get x=h.get x)(b:∀x,blk y' x->blk y x\/n<=x):
 ∃pb cap cells cells',pv= .sl pb 0 0 bs.length cap/\pb<n/\h'.get pb=some (.row 22 cells)/\st1 (p*1) y' cells=some cells'/\PG (h'.set pb (.row 22 cells')) n' n0 mb pv (bs.set p y') (B.set p (l++[i])):=by
 have hp:=(List.getElem?_eq_some_iff.1 hy).1;have gp':Gr h' n' 22 1 pv one bs:=a.gp.on hn λx hx hb=>s x hx λe=>a.d1 p y hy x e hb;obtain⟨pb,cap,cells,cells',q1,q2,q3,q4,q5,q6⟩:=gp'.aas hp y';have hpb:blk pv pb:=by rw[q1];exact dO.2 rfl
 have hpn:=a.gp.fF hpb;have get:∀(k:Nat)(z:AV),(bs.set p y')[k]?=some z->(k=p/\z=y')\/(k≠p/\bs[k]?=some z):=λk z e=>by
  rw[List.getElem?_set]at e;by_cases h:p=k
  .rw[if_pos h,if_pos hp]at e;exact .inl ⟨h.symm,by cases e;rfl⟩
  .rw[if_neg h]at e;exact .inr ⟨λk=>h k.symm,e⟩
 have lt:∀(k:Nat)(z:AV),bs[k]?=some z->∀x,blk z x->x<n:=λk z e x hx=>by
  obtain⟨l,hl⟩:∃l,B[k]?=some l:=⟨B[k]'(by rw[<-a.lb];exact(List.getElem?_eq_some_iff.1 e).1),List.getElem?_eq_getElem _⟩;exact(a.gb k z l e hl).fF hx
 have ny:∀x,blk y' x->¬blk pv x:=λx hx hb=>by
  rcases b x hx with e|e
  .exact a.d1 p y hy x e hb
  .have:=a.gp.fF hb;omega
 refine⟨pb,cap,cells,cells',q1,hpn,q3,q4,q6,by simp[a.lb],λj z l' h1 h2=>?_,λj z h1 x hx=>?_,λi j z w h1 h2 hij x hx=>?_,a.np,λj z h1 x hx=>?_⟩
 .rcases get j z h1 with⟨rfl,rfl⟩|⟨hj,hz⟩
  .rw[List.getElem?_set,if_pos rfl,if_pos (by rw[<-a.lb];exact hp)]at h2
   cases h2
   exact g.on (Nat.le_refl _) λx _ hx=>ay λe=>ny x hx (by rw[e];exact hpb)
  .rw[List.getElem?_set,if_neg (Ne.symm hj)]at h2
   exact(a.gb j z l' hz h2).on hn λx hx hb=>by
    rw[ay (λe=>a.d1 j z hz x hb (by rw[e];exact hpb)),s x hx λe=>a.d2 p j y z hy hz (Ne.symm hj) x e hb]
 .rcases get j z h1 with⟨rfl,rfl⟩|⟨hj,hz⟩
  .exact ny x hx
  .exact a.d1 j z hz x hx
 .have ne:∀(k:Nat)(z:AV),k≠p->bs[k]?=some z->∀x,blk y' x->¬blk z x:=λk z hk hz x hx kx=>by
   rcases b x hx with e|e
   .exact a.d2 p k y z hy hz (Ne.symm hk) x e kx
   .have:=lt k z hz x kx;omega
  rcases get i z h1 with⟨rfl,rfl⟩|⟨hi,hz⟩
  .rcases get j w h2 with⟨rfl,rfl⟩|⟨hj,hw⟩
   .exact absurd rfl hij
   .exact ne j w hj hw x hx
  .rcases get j w h2 with⟨rfl,rfl⟩|⟨hj,hw⟩
   .exactλe=>ne i z hi hz x e hx
   .exact a.d2 i j z w hz hw hij x hx
 .rcases get j z h1 with⟨rfl,rfl⟩|⟨hj,hz⟩
  .rcases b x hx with e|e
   .exact a.nb j y hy x e
   .omega
  .exact a.nb j z hz x hx
end
end
end
noncomputable section
theorem GK:MN Tryz.prog 3 (λi:Int=>AV.i .i64 i):=by
 refine⟨λa b=>⟨fM a b,by kernel_rfl,by rw[cK];simp⟩,λa=>by kernel_rfl,λa=>rfl⟩
def Eu(h:AH)(n m0:Nat)(pv:AV)(P:List (List Nat)):Prop:=∃bs:List AV,SL h n 1 pv one bs/\bs.length=P.length/\(∀(j:Nat)(y:AV)(l:List Nat),bs[j]?=some y->P[j]?=some l->SL h n 1 y cn l)/\(∀x,blk pv x->m0<=x)/\∀(j:Nat)(y:AV),bs[j]?=some y->∀x,blk y x->m0<=x
theorem Eu.lo{h:AH}{n m0 m1:Nat}{pv:AV}{P:List (List Nat)}(a:Eu h n m0 pv P)(e:m1<=m0):Eu h n m1 pv P:=
 let⟨bs,h1,h2,h3,h4,h5⟩:=a
 ⟨bs,h1,h2,h3,λx hx=>Nat.le_trans e (h4 x hx),λj y hj x hx=>Nat.le_trans e (h5 j y hj x hx)⟩
section
variable {h h':AH} {n n' ab rb:Nat} {A:List Nat} {r:Nat->Nat} {Q:AV->AH->Nat->Prop}
def GaI(h:AH)(n ab rb:Nat)(r:Nat->Nat)(k:Nat)(hk:AH)(nk:Nat)(G:Fm):Prop:=∃(A:List Nat)(pv:AV)(bs:List AV)(B:List (List Nat))(m:List (Int×AV))(pl:Nat->Option Nat),
 UF hk nk ab rb A r/\PG hk nk n n pv bs B/\uG hk n (λi:Int=>AV.i .i64 i) m/\(∀i p:Nat,pl i=some p->nM m (i:Int)=some (.i .i64 (p:Nat)))/\wB r k pl B/\B.length<=k/\n<nk/\(∀x,x<n->x≠ab->hk.get x=h.get x)/\G=[(1,.f 223 [.p ab 0,.p rb 0]),(5,pv),(6,.m n)]
theorem UF.on(u:UF h n ab rb A r)(hn:n<=n')(e1:h'.get ab=h.get ab)(e2:h'.get rb=h.get rb):UF h' n' ab rb A r:=⟨e1.trans u.row,e2.trans u.fn,u.len,u.roots,Nat.lt_of_lt_of_le u.KZ hn,Nat.lt_of_lt_of_le u.JW hn,u.ne⟩
def mGd:MC:=match CP with
 | .seq _ (.seq _ (.seq _ d))=>d
 |x=>x
theorem wV{K k N:Nat}{h4:AH}{n4:Nat}{pv:AV}{bs:List AV}{B:List (List Nat)}{m:List (Int×AV)}{pl:Nat->Option Nat}{p:Nat}{l:List Nat}{bb:Bool}{S:List It}{Qx:PQ}(hk:k<N)(hN:N<=400)(hab:ab<n)(hrb:rb<n)(u:UF h4 n4 ab rb A r)(pg:PG h4 n4 n n pv bs B)(mp:uG h4 n (λi:Int=>AV.i .i64 i) m)
 (hpl:∀i p:Nat,pl i=some p->nM m (i:Int)=some (.i .i64 (p:Nat)))(hal:nM m ((r k:Nat):Int)=some (.i .i64 (p:Nat)))(hl:B[p]?=some l)(ga:wB r (k+1) pl (B.set p (l++[k])))(hB:B.length<=k+1)(hn:n<n4)(same:∀x,x<n->x≠ab->h4.get x=h.get x):
 SM Tryz.prog Y0 228 [.c mGd] .bW (EF (K+401)) h4 n4 [(1,.f 223 [.p ab 0,.p rb 0]),(5,pv),(6,.m n),(10,.i .i64 (N:Nat)),(11,.i .i64 (k:Nat)),(7,.i .i64 (k:Nat)),(8,.i .i64 (r k:Nat)),(19,.b bb)] (Sg Tryz.prog Y0 228 (GaI h n ab rb r) k 11 10 N 1 S (EF (K+401)) Qx):=by
 have hp:=(List.getElem?_eq_some_iff.1 hl).1;have lb:=pg.lb;obtain⟨y,hy⟩:∃y,bs[p]?=some y:=⟨bs[p]'(by omega),List.getElem?_eq_getElem _⟩;obtain⟨pb,cap,cells,_,rfl,q2,q3,_,q5,_⟩:=pg.gp.aas (p:=p) (by omega) (.k 1);rw[hy]at q5;have lk:=mp.look (k:=((r k:Nat):Int)) GK (z:=some (.i .i64 0)) (ok:=false) rfl;rw[hal]at lk;simp only[gu]at lk;have aat:p<bs.length:=by omega
 have gy:=pg.gb p y l hy hl;unfold mGd;have hll:l.length<=401:=by
  obtain⟨i,_,_,_,e⟩:=ga.of p (l++[k]) (by rw[List.getElem?_set,if_pos rfl,if_pos hp]);have e:=congrArg List.length e;have:=List.length_filter_le (λj=>decide (r j=i)) (List.range (k+1));simp at e this;omega
 repeat' (first|(simp (disch:=omega) only[go_sem,simprocAttr,CP,lk,bU aat,q3,q5])|(refine aR ?_ ?_<;>(intro hb hd;rw[hb];clear hb))|(with_reducible refine aj ?_))
 refine CB (l2:=[k]) (gy.up aH) ⟨rfl,?_⟩ (by simp;omega) λy' h6 n6 g6 l6 s6 b6=>?_
 .show bnd (iA (Tr.get _ _) 0 _) (λr=>lQ (Nat.mul 1 1) r)=_
  rw[aG];rfl
 have Og:∀x,x<n4->¬blk y x->h6.get x=h4.get x:=λx hx hb=>by rw[s6 x (by omega) hb,ay (by omega)]
 obtain⟨pb2,cap2,Oh,cells',e1,e2,e3,e4,pg6⟩:=pg.put hy hl g6 (by omega) (by omega) (by omega) Og λx hx=>(b6 x hx).imp id λe=>by omega
 cases e1
 have KZ:=u.KZ;have JW:=u.JW;have hne:=u.ne;have uab:n4<=n6:=by omega
 have mp6:=mp.on (Og n hn λe=>(pg.nb p y hy n e).2 rfl);have lk6:=mp6.look (k:=((r k:Nat):Int)) GK (z:=some (.i .i64 0)) (ok:=false) rfl;rw[hal]at lk6;simp only[gu]at lk6;have rs:fE (some (.row 22 Oh)) (p*1) (some [y'])=some (.row 22 cells'):=by
  show(match oz [y'] (p*1) Oh with|some m=>some (AO.row 22 m)|none=>none)=_;rw[<-sw,e4]
 simp (disch:=omega) only[go_sem,simprocAttr,bU aat,e3,g6.cl,rs];refine⟨lk6,?_⟩;obtain⟨p1,p2⟩:=pg.np pb (dO.2 rfl);have ny:∀x,x<n->¬blk y x:=λx hx e=>by have:=(pg.nb p y hy x e).1;omega
 refine⟨rfl,rfl,_,⟨A,_,bs.set p y',B.set p (l++[k]),m,pl,u.on (by omega) (by rw[ay (by omega),Og ab (by omega) (ny ab hab)]) (by rw[ay (by omega),Og rb (by omega) (ny rb hrb)]),pg6,mp6.on (ay (Ne.symm p2)),hpl,ga,by rw[List.length_set];exact hB,by omega,λx hx hne=>by rw[ay (by omega),Og x (by omega) (ny x hx),same x hx hne],rfl⟩,by(repeat' (first|exact aO|refine aN rfl ?_))⟩
theorem Ko(K:Nat){N:Nat}(u:UF h n ab rb A r)(hN:N<=400)(hQ:∀A' m P pv h' n',UF h' n' ab rb A' r->wB r N m P->P.length<=N->Eu h' n' n pv P->n<=n'->(∀x,x<n->x≠ab->h'.get x=h.get x)->Q pv h' n'):CW (EF (K+402)) 228 [.i .i64 (N:Nat),.f 223 [.p ab 0,.p rb 0]] h n Q:=by
 have KZ:=u.KZ;have JW:=u.JW;have rne:=u.ne;refine aD c228 rfl ?_;repeat' (first|(simp (disch:=omega) only[go_sem,simprocAttr,ub.old,VN])|(simp (disch:=omega) only[go_sem,simprocAttr,VN])|(refine aR ?_ ?_<;>(intro hb hd;rw[hb];clear hb))|(with_reducible refine aj ?_))
 refine bX N (GaI h n ab rb r) (by omega) (by omega) (by omega) (by omega) (λk h8 n8 G ⟨_,_,_,_,_,_,_,_,_,_,_,_,_,_,e⟩=>by subst e;exact⟨rfl,rfl⟩) ⟨rfl,rfl,_,⟨A,.k 1,[],[],[],λ_=>none,u.up aH,⟨Gr.nil λ_=>rfl,rfl,λj y l h1=>by simp at h1,λj y h1=>by simp at h1,λi j y z h1=>by simp at h1,λx hx=>absurd hx eX,λj y h1=>by simp at h1⟩,uG.new _,(λ_ _ e=>by cases e),wB.nil r _,Nat.le_refl _,by omega,λx hx _=>ay (by omega),rfl⟩,by(repeat' (first|exact aO|refine aN rfl ?_))⟩ ?_ ?_
 .rintro k hk nk G hkN ⟨A1,pv,bs,B,m,pl,u1,pg,mp,hpl,ga,hBk,hn,same,rfl⟩
  simp (disch:=omega) only[go_sem,simprocAttr,CP];rw[Ci];show CW (EF (K+401)) 223 [.i .i64 (k:Nat),.p ab 0,.p rb 0] _ _ _;rw[show K+401=(K+(400 - k))+k+1 by omega];refine uX k _ u1 (by omega) λA2 h2 n2 u2 l2 x2=>?_;rw[show(K+(400 - k))+k+1=K+401 by omega];have pg2:PG h2 n2 n n pv bs B:=pg.on l2 λx hx h1 h3=>x2 x hx (by omega);have mp2:=mp.on (x2 n hn (by omega));have hrk:=(u1.roots.root k).2;have Tf:∀x,x<n->x≠ab->h2.get x=h.get x:=λx hx hne=>(x2 x (by omega) hne).trans (same x hx hne);by_cases hroot:r k=k
  .have hd:decide (((r k:Nat):Int)=(k:Int))=true:=decide_eq_true (by omega)
   obtain⟨o,up1,mp3⟩:=mp2.put (n:=n2) (k:=(k:Int)) GK (.i .i64 (bs.length:Nat));have agB:=pg2.gp.len;have lbs:=pg2.lb;simp (disch:=omega) only[go_sem,simprocAttr,hd,agB,up1];have WY:PG (h2.set n o) n2 n n pv bs B:=pg2.on (Nat.le_refl _) λx _ _ h3=>ay h3;refine jm (l2:=[AV.k 1]) (WY.gp.up aH) ⟨rfl,?_⟩ (by simp;omega) λpv' h4 n4 g4 l4 s4 b4=>?_
   .show bnd (iA (Tr.get _ _) 0 _) (λr=>lQ (Nat.mul 1 1) r)=_
    rw[aG];rfl
   simp (disch:=omega) only[go_sem,simprocAttr,g4.cl];have hal:nM (D_ m (k:Int) (.i .i64 (bs.length:Nat))) ((r k:Nat):Int)=some (.i .i64 (bs.length:Nat)):=by rw[nN,if_pos (by omega)]
   have hl':(B++[[]])[bs.length]?=some []:=by rw[lbs,List.getElem?_append_right (Nat.le_refl _),Nat.sub_self];rfl
   have ga':=ga.new u1.roots hroot;rw[<-lbs]at ga';have hpl':∀i p:Nat,(if i=k then some bs.length else pl i)=some p->nM (D_ m (k:Int) (.i .i64 (bs.length:Nat))) (i:Int)=some (.i .i64 (p:Nat)):=λi p e=>by
    rw[nN];by_cases hik:i=k
    .rw[if_pos hik]at e;cases e;rw[if_pos (by omega)]
    .rw[if_neg hik]at e;rw[if_neg (by omega)];exact hpl i p e
   have pgn:=WY.new g4 (by omega) (by omega) (by omega) (λx hx hb=>by rw[s4 x (by omega) hb,ay (by omega)]) (λx hx=>(b4 x hx).imp id λe=>by omega);have hB':(B++[[]]).length<=k+1:=by simp;omega
   have jJ:∀x,x<n2->¬blk pv x->h4.get x=(Tr.set h2 n o).get x:=λx hx hb=>by rw[s4 x (by omega) hb,ay (by omega)]
   have u5:UF h4 n4 ab rb A2 r:=u2.on (by omega) (by rw[jJ ab (by omega) λe=>by have:=(WY.np ab e).1;omega,ay (by omega)]) (by rw[jJ rb (by omega) λe=>by have:=(WY.np rb e).1;omega,ay (by omega)]);have mp5:=mp3.on (jJ n (by omega) λe=>(WY.np n e).2 rfl);have aau:∀x,x<n->x≠ab->h4.get x=h.get x:=λx hx hne=>by rw[jJ x (by omega) λe=>by have:=(WY.np x e).1;omega,ay (by omega),Tf x hx hne]
   have hn5:n<n4:=by omega
   clear jJ;exact wV hkN hN KZ JW u5 pgn mp5 hpl' hal hl' ga' hB' hn5 aau
  .have hd:decide (((r k:Nat):Int)=(k:Int))=false:=decide_eq_false (by omega)
   simp (disch:=omega) only[go_sem,simprocAttr,hd];obtain⟨p5,l5,e1,hl',ga'⟩:=ga.old u1.roots hroot;have hal:=hpl _ _ e1;exact wV hkN hN KZ JW u2 pg2 mp2 hpl hal hl' ga' (by omega) (by omega) Tf
 .rintro hk nk G ⟨A1,pv,bs,B,m,pl,u1,pg,mp,hpl,ga,hBk,hn,same,rfl⟩
  simp (disch:=omega) only[go_sem,simprocAttr];exact hQ A1 pl B pv _ _ u1 ga hBk ⟨bs,pg.gp.sl,pg.lb,λj y l e1 e2=>(pg.gb j y l e1 e2).sl,λx hx=>(pg.np x hx).1,λj y hj x hx=>(pg.nb j y hj x hx).1⟩ (by omega) same
end
end
end Go.Proofs.YtjoohkjmoghmoaaGreatDoor
