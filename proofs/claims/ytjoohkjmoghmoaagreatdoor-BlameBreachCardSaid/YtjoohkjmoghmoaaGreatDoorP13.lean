/- part -/
import Derived.Test.YtjoohkjmoghmoaaGreatDoorP12
set_option linter.all false
namespace Go.Proofs.YtjoohkjmoghmoaaGreatDoor
section
noncomputable section
set_option maxRecDepth 1000000
set_option maxHeartbeats 4000000
def Nr:MC:=(.seq (.reg [nl (.jc 1 (.s 132) (.s 134)),nl (.ld none (.v 0)),nk 21 (.mv (.v 0))]) (.reg [nl (.mv (.s 17)),nl (.mv (.s 21)),nl (.mv (.s 18)),nl (.call (.v 2) [(.v 1),(.v 0)])]))
def Cn:MC:=(.seq (.seq (.reg [nk 124 (.mv (.s 19))]) (.cond (.s 124) .skip (.exit 6))) (.seq (.blk 7 (.seq (.reg [nl (.mv (.s 8)),nl (.mv (.s 18)),nl (.jc 1 (.v 1) (.v 0)),nk 132 (.ld none (.v 0)),nk 133 (.iE (.s 132)),nk 134 (.mv (.c (.i .i64 0)))]) (.blk 8 (zW 3 134 133 135 8 9 Nr)))) (.reg [nl (.call (.c (.f 186 [])) [(.s 9)]),nl (.mv (.v 0)),nl (.ext (.v 0) 0),nl (.ext (.v 1) 1),nk 18 (.mv (.v 1)),nk 19 (.mv (.v 0))])))
def F9:MC:=(.seq (.reg [nl (.mv (.s 94)),nl (.jc 5 (.s 92) (.s 94)),nl (.ld (some 5) (.v 0)),nk 16 (.al 45 [(.i .i64 0),(.k 1),(.k 1),(.k 1),(.b false)]),nk 15 (.mv (.v 2)),⟨none,(.st 5 (.s 16) (.v 0)),.n⟩]) (.seq (.reg [nl (.fa 4 (.s 16)),nl (.ld none (.v 0)),nl (.mv (.v 0)),ng 0 true (.ld none (.s 7)),ng 1 true (.mv (.s 15)),ng 2 true (.jc 1 (.v 1) (.v 0)),ng 3 true (.ld none (.v 0)),ng 4 true (.bin .eql 3 (.v 0) (.c (.i .i64 0))),nl (.pick (.v 5) (.v 0) (.c (.b false))),nl (.mv (.v 0)),ng 0 true (.ld none (.s 6)),ng 1 true (.mv (.s 15)),ng 2 true (.jc 1 (.v 1) (.v 0)),ng 3 true (.ld none (.v 0)),ng 4 true (.bin .eql 3 (.v 0) (.c (.i .i64 (.negSucc 0)))),nk 114 (.pick (.v 5) (.v 0) (.c (.b false)))]) (.cond (.s 114) (.reg [nl (.ld none (.s 14)),nl (.mv (.s 15)),nl (.call (.v 1) [(.v 0),(.c (.i .i64 1))])]) .skip)))
def Ga:MC:=(.seq (.reg [nl (.jc 2 (.s 59) (.s 61)),nl (.ld (some 2) (.v 0)),nk 13 (.al 223 [(.i .i64 0),(.i .i64 0)]),⟨none,(.st 2 (.s 13) (.v 0)),.n⟩]) (.Aj 2 [mq 0 [] (.mv (.s 8)),mq 0 [] (.fa 1 (.s 13)),mq 1 [1] (.ld none (.v 0)),mq 0 [] (.mv (.s 8)),mq 0 [] (.fa 1 (.s 13)),mq 1 [4] (.ld none (.v 0)),mq 0 [3,5] (.jc 1 (.v 0) (.v 1)),mq 1 [6] (.ld none (.v 0)),mq 0 [] (.mv (.s 10)),mq 2 [8] (.KH 3 1 [(.i .i64 0)] [(0,(1,(.v 0)))]),mq 3 [7,9] (.app 3 1 (.v 0) (.v 1)),mq 0 [0,2] (.jc 1 (.v 0) (.v 1)),mq 3 [10,11] (.st 1 (.v 1) (.v 0))] [(2,11)] []))
def Gb:MC:=(.seq (.reg [nl (.mv (.s 38)),nl (.jc 5 (.s 36) (.s 38)),nl (.ld (some 5) (.v 0)),nk 11 (.al 45 [(.i .i64 0),(.k 1),(.k 1),(.k 1),(.b false)]),nk 10 (.mv (.v 2)),⟨none,(.st 5 (.s 11) (.v 0)),.n⟩]) (.seq (.Aj 0 [mq 1 [] (.ld none (.s 6)),mq 0 [] (.mv (.s 10)),mq 1 [] (.ld none (.s 7)),mq 0 [] (.mv (.s 10)),mq 0 [] (.fa 2 (.s 3)),mq 1 [4] (.ld none (.v 0)),mq 0 [] (.mv (.s 10)),mq 0 [5,6] (.jc 1 (.v 0) (.v 1)),mq 1 [7] (.ld none (.v 0)),mq 1 [8] (.iE (.v 0)),mq 0 [0,1] (.jc 1 (.v 0) (.v 1)),mq 3 [10] (.st 1 (.v 0) (.c (.i .i64 (.negSucc 0)))),mq 0 [2,3] (.jc 1 (.v 0) (.v 1)),mq 3 [9,12] (.st 1 (.v 1) (.v 0))] [(2,12),(9,12)] []) (.seq (.seq (.reg [nl (.fa 2 (.s 3)),nl (.ld none (.v 0)),nl (.mv (.s 10)),nl (.jc 1 (.v 1) (.v 0)),nk 59 (.ld none (.v 0)),nk 60 (.iE (.s 59)),nk 61 (.mv (.c (.i .i64 0)))]) (.blk 2 (zW 3 61 60 62 2 3 Ga))) (.seq (.reg [nl (.ld (some 7) (.s 2)),nl (.fa 0 (.s 11)),nl (.ld (some 4) (.v 0)),nl (.fa 0 (.s 3)),nl (.ld none (.v 0)),nk 83 (.call (.c (.f 182 [])) [(.v 4),(.v 2),(.v 0)])]) (.cond (.s 83) (.seq (.reg [nl (.ld none (.s 6)),nl (.mv (.s 10)),nl (.jc 1 (.v 1) (.v 0)),⟨none,(.st 1 (.v 0) (.c (.i .i64 0))),.n⟩]) (.reg [nl (.mv (.s 10)),nl (.call (.c (.f 183 [])) [(.s 9),(.v 0)])])) .skip)))))
def Zr:MC:=(.seq (.reg [nk 2 (.box 27 7 (.s 0)),nk 3 (.box 150 3 (.s 1)),nk 4 (.mv (.c (.k 1)))]) (.seq (.seq (.reg [nl (.ld (some 7) (.s 2)),nl (.ld (some 3) (.s 3)),nl (.call (.c (.f 181 [])) [(.v 1),(.v 0)]),nk 25 (.not (.v 0))]) (.cond (.s 25) (.seq (.reg [nk 4 (.mv (.c (.k 1)))]) .ret) .skip)) (.seq (.reg [nl (.fa 1 (.s 3)),nl (.ld none (.v 0)),nl (.iE (.v 0)),nk 5 (.mv (.v 0))]) (.seq (.reg [nl (.mv (.s 5)),nl (.Jh 3 [(.i .i64 0)] (.v 0) (.v 0)),nk 6 (.al 22 [(.k 1)]),⟨none,(.st 1 (.s 6) (.v 0)),.n⟩]) (.seq (.reg [nl (.mv (.s 5)),nl (.Jh 3 [(.i .i64 0)] (.v 0) (.v 0)),nk 7 (.al 22 [(.k 1)]),⟨none,(.st 1 (.s 7) (.v 0)),.n⟩]) (.seq (.reg [nl (.mv (.s 5)),nl (.Jh 22 [(.k 1)] (.v 0) (.v 0)),nk 8 (.mv (.v 0))]) (.seq (.reg [nk 9 (.al 323 [(.k 1),(.i .i64 0)])]) (.seq (.seq (.reg [nl (.fa 1 (.s 3)),nk 36 (.ld none (.v 0)),nk 37 (.iE (.s 36)),nk 38 (.mv (.c (.i .i64 0)))]) (.blk 0 (zW 3 38 37 39 0 1 Gb))) (.seq (.reg [nl (.HV 184 [(.s 6),(.s 9)]),nk 14 (.al 303 [(.k 3)]),⟨none,(.st 1 (.s 14) (.v 0)),.n⟩]) (.seq (.seq (.reg [nl (.fa 1 (.s 3)),nk 92 (.ld none (.v 0)),nk 93 (.iE (.s 92)),nk 94 (.mv (.c (.i .i64 0)))]) (.blk 4 (zW 3 94 93 95 4 5 F9))) (.seq (.reg [nl (.HV 185 [(.s 7),(.s 6),(.s 3),(.s 14)]),nk 17 (.mv (.v 0))]) (.seq (.seq (.reg [nl (.call (.c (.f 186 [])) [(.s 9)]),nl (.mv (.v 0)),nl (.ext (.v 0) 0),nl (.ext (.v 1) 1),nk 18 (.mv (.v 1)),nk 19 (.mv (.v 0))]) (.blk 6 (.loop Cn))) (.seq (.reg [nl (.ld none (.s 6)),nk 4 (.mv (.v 0))]) .ret)))))))))))))
theorem c105:yC Tryz.prog sl0 105=some ([true,true],Zr,[(.t 4)]):=by kernel_rfl
def Zt:MC:=vF 182
def c182:=vT 182 Zt
def Zu:MC:=vF 181
def afr:=vT 181 Zu
def Zv:MC:=vF 183
def c183:=vT 183 Zv
def U9:MC:=vF 186
def afs:=vT 186 U9
def Zw:MC:=vF 184
def aft:=vT 184 Zw
def Zx:MC:=vF 185
def afu:=vT 185 Zx
def m52:MC:=vF 52
def c52:=vT 52 m52
def Zy:MC:=vF 119
def c119:=vT 119 Zy
def U_:MC:=vF 194
def c194:=vT 194 U_
end
end
section
noncomputable section
section
variable {h h':AH} {n n':Nat} {v:CS} {C:aA} {tv:TS} {s:aH} {p:aP} {party:Int} {ps:List (TS×aP)} {wv:List AV} {M:List (List (Int×Nat))} {Q:AV->AH->Nat->Prop}
def iT(C:aA)(s:aH)(p:Int)(i:Nat):Bool:=match s.marks[i]?,C.clauses[i]? with|some m,some k=>iA k m p|_,_=>false
theorem jB(C:aA)(s:aH)(p:Int):anyFailed C s p=(List.range s.marks.length).any (iT C s p):=rfl
theorem QA(K:Nat)(hC:aY h n v C)(hS:bX h n tv s)(so:aM C s)(hQ:∀h' n',Up h n h' n'->Q (.b (anyFailed C s party)) h' n'):CW (EF (K+1)) 182 [.agg (v.av C),.agg (tv.av s),.i .i64 party] h n Q:=by
 have ok:=aA.ok so.con;have:=so.lm;have:=ok.dL;refine aD c182 rfl ?_;repeat' (first|(simp (disch:=omega) only[go_sem,simprocAttr,Zt,CS.av,TS.av,hS.marks.len])|(refine aT ?_ ?_<;>(intro hb hd;rw[hb];clear hb))|(with_reducible refine aj ?_))
 have u0:∀h0,h0=(Tr.set h n (.row 27 (v.av C))).set (n+1) (.row 43 (tv.av s))->Up h n h0 (n+2):=λh0 e=>by rw[e];exact aI
 have g0:∀h0,h0=(Tr.set h n (.row 27 (v.av C))).set (n+1) (.row 43 (tv.av s))->h0.get n=some (.row 27 (v.av C)):=λh0 e=>by rw[e];simp (disch:=omega) only[go_sem]
 have u0:=u0 _ rfl;have g0:=g0 _ rfl;refine b_ s.marks.length (λk h3 n3 G=>(List.range k).any (iT C s party)=false/\Up h n h3 n3/\n+2<=n3/\h3.get n=some (.row 27 (v.av C))/\G=[(2,.i .i64 party),(3,.p n 0),(10,tv.m)]) (by omega) (by omega) (by omega) (by omega) (λk h8 n8 G ⟨_,_,_,_,e⟩=>by subst e;exact⟨rfl,rfl⟩) ⟨rfl,rfl,_,⟨rfl,u0,Nat.le_refl _,g0,rfl⟩,by(repeat' (first|exact aR|refine aN rfl ?_))⟩ ?_ ?_
 .rintro k h3 n3 G hk ⟨hno,u3,l3,r3,rfl⟩
  obtain⟨b1,o1,a,i1,ha,hb1,rd⟩:=(hS.marks.up u3).gD (k:=(k:Nat)) (by omega) (by omega) (by omega);rw[show((k:Nat):Int).toNat=k by omega]at ha;repeat' (first|(simp (disch:=omega) only[go_sem,simprocAttr,aK i1,rd.el,rd.hd,rd.all,r3,CS.av])|(refine aT ?_ ?_<;>(intro hb hd;rw[hb];clear hb))|(with_reducible refine aj ?_))
  refine nH (hC.up u3) (by omega) (by omega) λb2 o2 kc t hkc hb2 _ gu=>?_;rw[show((k:Nat):Int).toNat=k by omega]at hkc;have hfa:iT C s party k=iA kc a party:=by unfold iT;rw[ha,hkc]
  have RB:iT C s party k=false->(List.range (k+1)).any (iT C s party)=false:=λe=>by
   rw[List.range_succ,List.any_append,hno];simp[e]
  have hit:iT C s party k=true->anyFailed C s party=true:=λe=>by
   rw[jB,List.any_eq_true];exact⟨k,List.mem_range.2 hk,e⟩
  repeat' (first|(simp (disch:=omega) only[go_sem,simprocAttr,gu.el,gu.hd])|(refine aT ?_ ?_<;>(intro hb hd;rw[hb];clear hb))|(with_reducible refine aj ?_))
  .have e:=hit (by rw[hfa];unfold iA;simp[*])
   rw[e]at hQ;exact hQ _ _ aI
  all_goals exact⟨rfl,rfl,_,⟨RB (by rw[hfa];unfold iA;simp[*]),by exact aI,by omega,by simp (disch:=omega) only[go_sem,r3],rfl⟩,by(repeat' (first|exact aR|refine aN rfl ?_))⟩
 .rintro h3 n3 G ⟨hno,u3,_,_,rfl⟩
  repeat' (first|(simp (disch:=omega) only[go_sem,simprocAttr])|(refine aT ?_ ?_<;>(intro hb hd;rw[hb];clear hb))|(with_reducible refine aj ?_))
  rw[jB,hno]at hQ;exact hQ _ _ u3
@[reducible] def D9 (party:Int) (v w:AV):List AV:=[.i .i64 party,v,w]
theorem dx.tgt{P:List aP}(a:dx C party p P M){i:Nat}{l:List (Int×Nat)}{m:Int}{j:Nat}(hl:M[i]?=some l)(hm:(m,j)∈l):j<P.length:=by
 have hi:i<P.length:=by rw[<-a.len];exact(List.getElem?_eq_some_iff.1 hl).1
 obtain⟨r,h1,_⟩:=a.back (List.getElem?_eq_some_iff.2 ⟨hi,rfl⟩) hl hm;exact(List.getElem?_eq_some_iff.1 h1).1
theorem vW.len2{vv ww:AV}(ai:vW h n vv ww ps wv M){P:List aP}(a:dx C party p (ps.map (·.2)) M):wv.length=ps.length:=by
 rw[ai.len,a.len,List.length_map]
theorem zZ(K:Nat){vv ww:AV}(hC:aY h n v C)(ho:C.off.length<=1000000)(ai:vW h n vv ww ps wv M)(ia:dx C party p (ps.map (·.2)) M)(h0:0<=party)(h1:party<C.aC)(so:∀x∈ps,aM C x.2.st)(hQ:∀h' n',Up h n h' n'->Q (.b true) h' n'):CW (EF (K+8)) 181 [.agg (v.av C),.agg (D9 party vv ww)] h n Q:=by
 have hsm:=ia.small;have hlen:=ia.len;have hl2:=ai.len;rw[List.length_map]at hsm hlen;refine aD afr rfl ?_;repeat' (first|(simp (disch:=omega) only[go_sem,simprocAttr,Zu,CS.av,ai.row.len,ai.pos.len])|(refine aT ?_ ?_<;>(intro hb hd;rw[hb];clear hb))|(with_reducible refine aj ?_))
 .omega
 .omega
 .omega
 have u0:∀h0,h0=(Tr.set h n (.row 27 (v.av C))).set (n+1) (.row 150 (D9 party vv ww))->Up h n h0 (n+2)/\h0.get n=some (.row 27 (v.av C))/\h0.get (n+1)=some (.row 150 (D9 party vv ww)):=λh0 e=>by
  rw[e];exact⟨by exact aI,by simp (disch:=omega) only[go_sem],by simp (disch:=omega) only[go_sem]⟩
 obtain⟨u0,g0,g1⟩:=u0 _ rfl;refine b_ ps.length (λk h3 n3 G=>Up h n h3 n3/\n+2<=n3/\h3.get n=some (.row 27 (v.av C))/\h3.get (n+1)=some (.row 150 (D9 party vv ww))/\G=[(2,.p n 0),(3,.p (n+1) 0),(29,vv)]) (by omega) (by omega) (by omega) (by omega) (λk h8 n8 G ⟨_,_,_,_,e⟩=>by subst e;exact⟨rfl,rfl⟩) ⟨rfl,rfl,_,⟨u0,Nat.le_refl _,g0,g1,rfl⟩,by(repeat' (first|exact aR|refine aN rfl ?_))⟩ ?_ ?_
 .rintro k h3 n3 G hk ⟨u3,l3,r3,r4,rfl⟩
  obtain⟨b1,o1,x,i1,hx,hb1,rd⟩:=(ai.pos.up u3).gD (k:=(k:Nat)) (by omega) (by omega) (by omega);obtain⟨b2,o2,y,i2,hy,hb2,gu⟩:=(ai.row.up u3).gD (k:=(k:Nat)) (by omega) (by omega) (by omega);rw[show((k:Nat):Int).toNat=k by omega]at hx hy;obtain⟨l,hl⟩:∃l,M[k]?=some l:=⟨M[k]'(by omega),List.getElem?_eq_some_iff.2 ⟨by omega,rfl⟩⟩;have sl:=ai.mv k y l hy hl;have hll:l.length<=100:=by
   have hP:(ps.map (·.2))[k]?=some x.2:=by rw[List.getElem?_map,hx];rfl
   have e1:=(ia.mv k x.2 l hP hl).1;have e3:=uG C party x.2;have:=(aA.ok (so x (List.mem_of_getElem? hx)).con).jY;omega
  repeat' (first|(simp (disch:=omega) only[go_sem,simprocAttr,aK i1,aK i2,rd.all,gu.el,gu.hd,r4,sl.len])|(refine aT ?_ ?_<;>(intro hb hd;rw[hb];clear hb))|(with_reducible refine aj ?_))
  have u4:∀h0,h0=(Tr.set h3 n3 (.row 45 [.i .i64 0,.k 1,.k 1,.k 1,.b false])).set n3 (.row 45 (Ev x))->Up h3 n3 h0 (n3+1)/\h0.get n3=some (.row 45 (Ev x)):=λh0 e=>by
   rw[e];exact⟨by exact aI,aG⟩
  obtain⟨u4,g4⟩:=u4 _ rfl;generalize(Tr.set h3 n3 _).set n3 _=h4 at*;refine b_ l.length (λj h5 n5 G=>Up h4 (n3+1) h5 n5/\G=[(2,.p n 0),(3,.p (n+1) 0),(29,vv),(30,.i .i64 (ps.length:Nat)),(31,.i .i64 (k:Nat)),(5,.i .i64 (k:Nat)),(6,.p n3 0),(40,y)]) (by omega) (by omega) (by omega) (by omega) (λk h8 n8 G ⟨_,e⟩=>by subst e;exact⟨rfl,rfl⟩) ⟨rfl,rfl,_,⟨Up.refl _ _,rfl⟩,by(repeat' (first|exact aR|refine aN rfl ?_))⟩ ?_ ?_
  .rintro j h5 n5 G hj ⟨u5,rfl⟩
   have e5:=u5.le;obtain⟨b3,o3,z,i3,hz,hb3,sj⟩:=(sl.up ((u3.trans u4).trans u5)).gD (k:=(j:Nat)) (by omega) (by omega) (by omega);rw[show((j:Nat):Int).toNat=j by omega]at hz;have hlt:=ia.tgt hl (List.mem_of_getElem? hz);rw[List.length_map]at hlt;have r5:h5.get (n+1)=some (.row 150 (D9 party vv ww)):=by rw[u5.old _ (by omega),u4.old _ (by omega)];exact r4
   repeat' (first|(simp (disch:=omega) only[go_sem,simprocAttr,aK i3,sj.all,r5,ai.pos.len])|(refine aT ?_ ?_<;>(intro hb hd;rw[hb];clear hb))|(with_reducible refine aj ?_))
   .exfalso;omega
   .exfalso;omega
   .exact⟨rfl,rfl,_,⟨by exact aI,rfl⟩,by(repeat' (first|exact aR|refine aN rfl ?_))⟩
  .rintro h5 n5 G ⟨u5,rfl⟩
   have e5:=u5.le;have r5:h5.get n=some (.row 27 (v.av C)):=by rw[u5.old _ (by omega),u4.old _ (by omega)];exact r3
   have r6:h5.get (n+1)=some (.row 150 (D9 party vv ww)):=by rw[u5.old _ (by omega),u4.old _ (by omega)];exact r4
   have r7:h5.get n3=some (.row 45 (Ev x)):=by rw[u5.old _ (by omega)];exact g4
   have u35:Up h n h5 n5:=(u3.trans u4).trans u5;have oks:C.dQ x.2.st=true:=(dP C x.2.st).2 (so x (List.mem_of_getElem? hx));simp (disch:=omega) only[go_sem,simprocAttr,r5,r7,CS.av,TS.pv];rw[aU];refine gQ _ (hC.up u35) ho ((ai.st x (List.mem_of_getElem? hx)).up u35) λh6 n6 u6=>?_;have e6:=u6.le;repeat' (first|(simp (disch:=omega) only[go_sem,simprocAttr,oks])|(refine aT ?_ ?_<;>(intro hb hd;rw[hb];clear hb))|(with_reducible refine aj ?_))
   exact⟨rfl,rfl,_,⟨u35.trans u6,by omega,by rw[u6.old _ (by omega)];exact r5,by rw[u6.old _ (by omega)];exact r6,rfl⟩,by(repeat' (first|exact aR|refine aN rfl ?_))⟩
 .rintro h3 n3 G ⟨u3,_,_,_,rfl⟩
  repeat' (first|(simp (disch:=omega) only[go_sem,simprocAttr])|(refine aT ?_ ?_<;>(intro hb hd;rw[hb];clear hb))|(with_reducible refine aj ?_))
  exact hQ _ _ u3
end
end
end
section
noncomputable section
abbrev kD(x:Int):List AV:=[.i .i64 x]
abbrev cn(x:Nat):List AV:=[.i .i64 (x:Nat)]
theorem pU{α:Type}{c:α->List AV}(hw:∀a,(c a).length=1){l:List α}{i:Nat}{a:α}{y:AV}(hi:i<l.length)(hy:c a=[y]):st1 (i*1) y (l.flatMap c)=some ((l.set i a).flatMap c):=by
 rw[rV,<-hy];exact ug hw l i a hi
theorem nN{t:TypeId}{α:Type}{c:α->List AV}(hw:∀a,(c a).length=1){l:List α}{i:Nat}{a:α}{y:AV}(hi:l[i]?=some a)(hy:c a=[y]):qX (some (.row t (l.flatMap c))) (i*1) none=some y:=by
 have e:=vG hw hi (j:=0) (by omega);rw[Nat.add_zero,hy]at e;exact e
structure KP where
 rb:Nat
 ob:Nat
 bb:Nat
 b9:Nat
def KP.mem(g:KP)(x:Nat):Prop:=x=g.rb\/x=g.ob\/x=g.bb\/x=g.b9
structure nO(h:AH)(n:Nat)(g:KP)(X:Nat->Prop)(A:HP)(r op:List Int)(qv:AV)(Q:List Nat)(nx:Nat)(bs:List AV)(B:List (List Nat)):Prop where
 rr:h.get g.rb=some (.row 3 (r.flatMap kD))
 ro:h.get g.ob=some (.row 3 (op.flatMap kD))
 rq:h.get g.b9=some (.row 323 [qv,.i .i64 (nx:Nat)])
 rf:h.get g.bb=some (.row 22 (bs.flatMap one))
 gq:Gr h n 3 1 qv cn Q
 lb:bs.length=B.length
 gb:∀(j:Nat)(y:AV)(l:List Nat),bs[j]?=some y->B[j]?=some l->Gr h n 3 1 y cn l
 d1:g.rb≠g.ob/\g.rb≠g.bb/\g.rb≠g.b9/\g.ob≠g.bb/\g.ob≠g.b9/\g.bb≠g.b9
 d2:∀x,blk qv x->¬g.mem x
 d3:∀(j:Nat)(y:AV),bs[j]?=some y->∀x,blk y x->¬g.mem x/\¬blk qv x
 d4:∀(i j:Nat)(y z:AV),bs[i]?=some y->bs[j]?=some z->i≠j->∀x,blk y x->¬blk z x
 Xg:∀x,g.mem x->X x
 Xq:∀x,blk qv x->X x
 Xb:∀(j:Nat)(y:AV),bs[j]?=some y->∀x,blk y x->X x
 lt:∀x,X x->x<n
 A:Kp X h n A
section
variable {h h' h2 h3:AH} {n n' n2 n3:Nat} {g:KP} {X:Nat->Prop} {A:HP} {r op:List Int} {qv:AV} {Q:List Nat} {nx:Nat} {bs:List AV} {B:List (List Nat)}
theorem nO.up(a:nO h n g X A r op qv Q nx bs B)(u:Up h n h' n'):nO h' n' g X A r op qv Q nx bs B:=
 have o:∀x,g.mem x->h'.get x=h.get x:=λx hx=>u.old x (a.lt x (a.Xg x hx))
 ⟨(o _ (.inl rfl)).trans a.rr,(o _ (.inr (.inl rfl))).trans a.ro,(o _ (.inr (.inr (.inr rfl)))).trans a.rq,(o _ (.inr (.inr (.inl rfl)))).trans a.rf,a.gq.up u,a.lb,λj y l h1 h2=>(a.gb j y l h1 h2).up u,a.d1,a.d2,a.d3,a.d4,a.Xg,a.Xq,a.Xb,λx hx=>Nat.lt_of_lt_of_le (a.lt x hx) u.le,a.A.up u⟩
theorem nO.turn(a:nO h n g X A r op qv Q nx bs B){y:Nat}(hy:g.mem y)(ob:AO):(∀x,g.mem x->x≠y->(h.set y ob).get x=h.get x)/\Gr (h.set y ob) n 3 1 qv cn Q/\(∀(j:Nat)(z:AV)(l:List Nat),bs[j]?=some z->B[j]?=some l->Gr (h.set y ob) n 3 1 z cn l)/\Kp X (h.set y ob) n A:=
 ⟨λx _ e=>ay e,a.gq.on (Nat.le_refl _) λx _ hx=>ay λe=>a.d2 x hx (by rw[e];exact hy),λj z l h1 h2=>(a.gb j z l h1 h2).on (Nat.le_refl _) λx _ hx=>ay λe=>(a.d3 j z h1 x hx).1 (by rw[e];exact hy),a.A.set (.inl (a.Xg y hy)) (Nat.le_refl _)⟩
theorem nO.Va(a:nO h n g X A r op qv Q nx bs B)(r':List Int):nO (h.set g.rb (.row 3 (r'.flatMap kD))) n g X A r' op qv Q nx bs B:=by
 obtain⟨t1,t2,t3,t4⟩:=a.turn (y:=g.rb) (.inl rfl) (.row 3 (r'.flatMap kD));obtain⟨e1,e2,e3,e4,e5,e6⟩:=a.d1;exact⟨aG,(t1 _ (.inr (.inl rfl)) (Ne.symm e1)).trans a.ro,(t1 _ (.inr (.inr (.inr rfl))) (Ne.symm e3)).trans a.rq,(t1 _ (.inr (.inr (.inl rfl))) (Ne.symm e2)).trans a.rf,t2,a.lb,t3,a.d1,a.d2,a.d3,a.d4,a.Xg,a.Xq,a.Xb,a.lt,t4⟩
theorem nO.FU(a:nO h n g X A r op qv Q nx bs B)(o':List Int):nO (h.set g.ob (.row 3 (o'.flatMap kD))) n g X A r o' qv Q nx bs B:=by
 obtain⟨t1,t2,t3,t4⟩:=a.turn (y:=g.ob) (.inr (.inl rfl)) (.row 3 (o'.flatMap kD));obtain⟨e1,e2,e3,e4,e5,e6⟩:=a.d1;exact⟨(t1 _ (.inl rfl) e1).trans a.rr,aG,(t1 _ (.inr (.inr (.inr rfl))) (Ne.symm e5)).trans a.rq,(t1 _ (.inr (.inr (.inl rfl))) (Ne.symm e4)).trans a.rf,t2,a.lb,t3,a.d1,a.d2,a.d3,a.d4,a.Xg,a.Xq,a.Xb,a.lt,t4⟩
theorem nO.afv(a:nO h n g X A r op qv Q nx bs B)(m:Nat):nO (h.set g.b9 (.row 323 [qv,.i .i64 (m:Nat)])) n g X A r op qv Q m bs B:=by
 obtain⟨t1,t2,t3,t4⟩:=a.turn (y:=g.b9) (.inr (.inr (.inr rfl))) (.row 323 [qv,.i .i64 (m:Nat)]);obtain⟨e1,e2,e3,e4,e5,e6⟩:=a.d1;exact⟨(t1 _ (.inl rfl) e3).trans a.rr,(t1 _ (.inr (.inl rfl)) e5).trans a.ro,aG,(t1 _ (.inr (.inr (.inl rfl))) e6).trans a.rf,t2,a.lb,t3,a.d1,a.d2,a.d3,a.d4,a.Xg,a.Xq,a.Xb,a.lt,t4⟩
theorem nO.push(a:nO h n g X A r op qv Q nx bs B){v':AV}{i:Nat}(u:Up h n h2 n2)(gr:Gr h3 n3 3 1 v' cn (Q++[i]))(le:n2<=n3)(s:∀x,x<n2->¬blk qv x->h3.get x=h2.get x)(b:∀x,blk v' x->blk qv x\/n2<=x):
 h3.get g.b9=some (.row 323 [qv,.i .i64 (nx:Nat)])/\nO (h3.set g.b9 (.row 323 [v',.i .i64 (nx:Nat)])) n3 g (λx=>X x\/blk v' x) A r op v' (Q++[i]) nx bs B:=by
 have hn:=u.le;have old:∀x,x<n->¬blk qv x->h3.get x=h.get x:=λx hx h2=>by rw[s x (by omega) h2,u.old x hx]
 have new:∀x,blk v' x->x<n->blk qv x:=λx hx hl=>(b x hx).elim id (by omega);have ml:∀x,g.mem x->x<n:=λx hx=>a.lt x (a.Xg x hx);have om:∀x,g.mem x->h3.get x=h.get x:=λx hx=>old x (ml x hx) λk=>a.d2 x k hx;have nv:∀x,blk v' x->¬g.mem x:=λx hx k=>by
  rcases b x hx with e|e
  .exact a.d2 x e k
  .have:=ml x k;omega
 have m9:g.mem g.b9:=.inr (.inr (.inr rfl));obtain⟨e1,e2,e3,e4,e5,e6⟩:=a.d1;refine⟨(om _ m9).trans a.rq,⟨?_,?_,aG,?_,?_,a.lb,λj y l h1 h2=>?_,a.d1,nv,λj y h1 x hx=>⟨(a.d3 j y h1 x hx).1,λk=>?_⟩,a.d4,λx hx=>.inl (a.Xg x hx),λx hx=>.inr hx,λj y h1 x hx=>.inl (a.Xb j y h1 x hx),λx hx=>?_,?_⟩⟩
 .rw[ay e3,om _ (.inl rfl)];exact a.rr
 .rw[ay e5,om _ (.inr (.inl rfl))];exact a.ro
 .rw[ay e6,om _ (.inr (.inr (.inl rfl)))];exact a.rf
 .exact gr.on (Nat.le_refl _) λx _ hx=>ay λk=>nv x hx (by rw[k];exact m9)
 .exact(a.gb j y l h1 h2).on (by omega) λx hx hb=>by
   obtain⟨k1,k2⟩:=a.d3 j y h1 x hb;rw[ay (λk=>k1 (by rw[k];exact m9)),old x hx k2]
 .rcases b x k with e|e
  .exact(a.d3 j y h1 x hx).2 e
  .have:=a.lt x (a.Xb j y h1 x hx);omega
 .rcases hx with hx|hx
  .have:=a.lt x hx;omega
  .exact gr.fE hx
 .refine(a.A.le λx hx (e:X x\/blk v' x)=>e.elim id λe=>a.Xq x (new x e hx)).on (by omega) λx hx e=>?_
  have e1:¬X x:=λk=>e (.inl k);rw[ay (λk=>e1 (by rw[k];exact a.Xg _ m9)),old x hx λk=>e1 (a.Xq x k)]
theorem nO.oC(a:nO h n g X A r op qv Q nx bs B){v' y:AV}{i j:Nat}{l:List Nat}(hy:bs[j]?=some y)(hl:B[j]?=some l)(u:Up h n h2 n2)(gr:Gr h3 n3 3 1 v' cn (l++[i]))(le:n2<=n3)(s:∀x,x<n2->¬blk y x->h3.get x=h2.get x)(b:∀x,blk v' x->blk y x\/n2<=x):
 h3.get g.bb=some (.row 22 (bs.flatMap one))/\nO (h3.set g.bb (.row 22 ((bs.set j v').flatMap one))) n3 g (λx=>X x\/blk v' x) A r op qv Q nx (bs.set j v') (B.set j (l++[i])):=by
 have hn:=u.le;have old:∀x,x<n->¬blk y x->h3.get x=h.get x:=λx hx h2=>by rw[s x (by omega) h2,u.old x hx]
 have new:∀x,blk v' x->x<n->blk y x:=λx hx hl=>(b x hx).elim id (by omega);have ml:∀x,g.mem x->x<n:=λx hx=>a.lt x (a.Xg x hx);have om:∀x,g.mem x->h3.get x=h.get x:=λx hx=>old x (ml x hx) λk=>(a.d3 j y hy x k).1 hx;have nv:∀x,blk v' x->¬g.mem x/\¬blk qv x:=λx hx=>by
  rcases b x hx with e|e
  .exact a.d3 j y hy x e
  .exact⟨λk=>by have:=ml x k;omega,λk=>by have:=a.lt x (a.Xq x k);omega⟩
 have mb:g.mem g.bb:=.inr (.inr (.inl rfl));have hjl:j<bs.length:=(List.getElem?_eq_some_iff.1 hy).1;have get:∀(k:Nat)(z:AV),(bs.set j v')[k]?=some z->(k=j/\z=v')\/(k≠j/\bs[k]?=some z):=λk z e=>by
  rw[List.getElem?_set]at e;by_cases h:j=k
  .rw[if_pos h,if_pos hjl]at e;exact .inl ⟨h.symm,by cases e;rfl⟩
  .rw[if_neg h]at e;exact .inr ⟨λk=>h k.symm,e⟩
 have nz:∀(k:Nat)(z:AV),k≠j->bs[k]?=some z->∀x,blk v' x->¬blk z x:=λk z hk hz x hx kx=>by
  rcases b x hx with e|e
  .exact a.d4 j k y z hy hz (Ne.symm hk) x e kx
  .have:=a.lt x (a.Xb k z hz x kx);omega
 obtain⟨e1,e2,e3,e4,e5,e6⟩:=a.d1;refine⟨(om _ mb).trans a.rf,⟨?_,?_,?_,aG,?_,by simp[a.lb],λk z l' h1 h2=>?_,a.d1,a.d2,λk z h1 x hx=>?_,λk m z w h1 h2 hkm x hx=>?_,λx hx=>.inl (a.Xg x hx),λx hx=>.inl (a.Xq x hx),λk z h1 x hx=>?_,λx hx=>?_,?_⟩⟩
 .rw[ay e2,om _ (.inl rfl)];exact a.rr
 .rw[ay e4,om _ (.inr (.inl rfl))];exact a.ro
 .rw[ay (Ne.symm e6),om _ (.inr (.inr (.inr rfl)))];exact a.rq
 .exact a.gq.on (by omega) λx hx hb=>by
   rw[ay (λk=>a.d2 x hb (by rw[k];exact mb)),old x hx λk=>(a.d3 j y hy x k).2 hb]
 .rcases get k z h1 with⟨rfl,rfl⟩|⟨hk,hz⟩
  .rw[List.getElem?_set,if_pos rfl,if_pos (by rw[<-a.lb];exact hjl)]at h2
   cases h2
   exact gr.on (Nat.le_refl _) λx _ hx=>ay λe=>(nv x hx).1 (by rw[e];exact mb)
  .rw[List.getElem?_set,if_neg (Ne.symm hk)]at h2
   exact(a.gb k z l' hz h2).on (by omega) λx hx hb=>by
    rw[ay (λe=>(a.d3 k z hz x hb).1 (by rw[e];exact mb)),old x hx λe=>a.d4 j k y z hy hz (Ne.symm hk) x e hb]
 .rcases get k z h1 with⟨rfl,rfl⟩|⟨hk,hz⟩
  .exact nv x hx
  .exact a.d3 k z hz x hx
 .rcases get k z h1 with⟨rfl,rfl⟩|⟨hk,hz⟩
  .rcases get m w h2 with⟨rfl,rfl⟩|⟨hm,hw⟩
   .exact absurd rfl hkm
   .exact nz m w hm hw x hx
  .rcases get m w h2 with⟨rfl,rfl⟩|⟨hm,hw⟩
   .exactλe=>nz k z hk hz x e hx
   .exact a.d4 k m z w hz hw hkm x hx
 .rcases get k z h1 with⟨rfl,rfl⟩|⟨hk,hz⟩
  .exact .inr hx
  .exact .inl (a.Xb k z hz x hx)
 .rcases hx with hx|hx
  .have:=a.lt x hx;omega
  .exact gr.fE hx
 .refine(a.A.le λx hx (e:X x\/blk v' x)=>e.elim id λe=>a.Xb j y hy x (new x e hx)).on (by omega) λx hx e=>?_
  have e1:¬X x:=λk=>e (.inl k);rw[ay (λk=>e1 (by rw[k];exact a.Xg _ mb)),old x hx λk=>e1 (a.Xb j y hy x k)]
theorem nO.uX{A':HP}(a:nO h n g X A r op qv Q nx bs B)(k:Kp X h n A'):nO h n g X A' r op qv Q nx bs B:=
 ⟨a.rr,a.ro,a.rq,a.rf,a.gq,a.lb,a.gb,a.d1,a.d2,a.d3,a.d4,a.Xg,a.Xq,a.Xb,a.lt,k⟩
theorem Iq(K:Nat){i:Nat}{R:AV->AH->Nat->Prop}(a:nO h n g X A r op qv Q nx bs B)(hl:Q.length<=100000)(hR:∀v' X' h' n',nO h' n' g X' A r op v' (Q++[i]) nx bs B->n<=n'->(∀x,x<n->¬X x->h'.get x=h.get x)->(∀x,X x->X' x)->(∀x,X' x->X x\/n<=x)->R (.bQ []) h' n'):CW (EF (K+1)) 183 [.p g.b9 0,.i .i64 (i:Nat)] h n R:=by
 have rq:=a.rq;refine aD c183 rfl ?_;simp (disch:=omega) only[go_sem,simprocAttr,Zv,rq];refine jZ (l2:=[i]) (a.gq.up aI) ⟨rfl,?_⟩ (by simp;omega) λv' h4 n4 g4 l4 s4 b4=>?_
 .show bnd (iD (Tr.get _ _) 0 _) (λr=>mO (Nat.mul 1 1) r)=_
  rw[aG];rfl
 obtain⟨q1,q2⟩:=a.push (show Up h n _ (n+1) by exact aI) g4 l4 s4 b4;simp (disch:=omega) only[go_sem,simprocAttr,q1,g4.cl];refine hR _ _ _ _ q2 (by omega) (λx hx hX=>?_) (λx hx=>.inl hx) λx hx=>?_
 .rw[ay (λe=>hX (by rw[e];exact a.Xg _ (.inr (.inr (.inr rfl))))),s4 x (by omega) (λe=>hX (a.Xq x e)),ay (by omega)]
 .rcases hx with e|e
  .exact .inl e
  .rcases b4 x e with e|e
   .exact .inl (a.Xq x e)
   .exact .inr (by omega)
theorem Ns(K:Nat){R:AV->AH->Nat->Prop}(a:nO h n g X A r op qv Q nx bs B)(hl:Q.length<=100000)(hnx:nx<=Q.length)(hR1:nx=Q.length->R (.bQ [.i .i64 0,.b false]) h n)
 (hR2:∀to,Q[nx]?=some to->nO (h.set g.b9 (.row 323 [qv,.i .i64 ((nx+1:Nat):Int)])) n g X A r op qv Q (nx+1) bs B->R (.bQ [.i .i64 (to:Nat),.b true]) (h.set g.b9 (.row 323 [qv,.i .i64 ((nx+1:Nat):Int)])) n):CW (EF (K+1)) 186 [.p g.b9 0] h n R:=by
 have rq:=a.rq;refine aD afs rfl ?_;by_cases hn:nx=Q.length
 .have hd:decide ((nx:Int)=(Q.length:Int))=true:=decide_eq_true (by omega)
  repeat' (first|(simp (disch:=omega) only[go_sem,simprocAttr,U9,rq,a.gq.len,hd])|(refine aT ?_ ?_<;>(intro hb hd;rw[hb];clear hb))|(with_reducible refine aj ?_))
  exact hR1 hn
 .have hd:decide ((nx:Int)=(Q.length:Int))=false:=decide_eq_false (by omega)
  have w1:gK .i64 ((nx:Int)+1)=((nx+1:Nat):Int):=by rw[dJ (by omega) (by omega)];rfl
  have w2:gK .i64 (((nx+1:Nat):Int) - 1)=(nx:Int):=by rw[dJ (by omega) (by omega)];omega
  have a2:=a.afv (nx+1);have rq2:=a2.rq;obtain⟨b1,o1,x,i1,hx,hb1,rd⟩:=a2.gq.sl.gD (k:=(nx:Nat)) (by omega) (by omega) (by omega);rw[show((nx:Nat):Int).toNat=nx by omega]at hx;repeat' (first|(simp (disch:=omega) only[go_sem,simprocAttr,U9,rq,a.gq.len,hd,w1])|(refine aT ?_ ?_<;>(intro hb hd;rw[hb];clear hb))|(with_reducible refine aj ?_))
  repeat' (first|(simp (disch:=omega) only[go_sem,simprocAttr,rq2,w2,i1,rd.el,rd.hd])|(refine aT ?_ ?_<;>(intro hb hd;rw[hb];clear hb))|(with_reducible refine aj ?_))
  exact hR2 _ hx a2
theorem Av(K:Nat){b6 i:Nat}{x:Int}{R:AV->AH->Nat->Prop}(a:nO h n g X A r op qv Q nx bs B)(hl:Q.length<=100000)(h6:∀h n,A h n->h.get b6=some (.row 22 [.sl g.rb 0 0 r.length (some r.length)]))(hi:i<r.length)
 (hR:∀v' X' h' n',nO h' n' g X' A (r.set i x) op v' (Q++[i]) nx bs B->n<=n'->(∀x,x<n->¬X x->h'.get x=h.get x)->(∀x,X x->X' x)->(∀x,X' x->X x\/n<=x)->R (.bQ []) h' n'):CW (EF (K+2)) 184 [.i .i64 (i:Nat),.i .i64 x,.p b6 0,.p g.b9 0] h n R:=by
 have r6:=h6 _ _ a.A.use;have rr:=a.rr;have hset:=pU (c:=kD) (λ_=>rfl) (a:=x) hi rfl;refine aD aft rfl ?_;simp (disch:=omega) only[go_sem,simprocAttr,Zw,r6,bZ hi,rr,hset,Option.map_some];rw[aU];have a2:=a.Va (r.set i x);refine Iq K a2 hl λv' X' h' n' a3 hn hs hX1 hX2=>?_;simp (disch:=omega) only[go_sem,simprocAttr];refine hR _ _ _ _ a3 hn (λx hx hX=>?_) hX1 hX2;rw[hs x hx hX,ay λe=>hX (by rw[e];exact a.Xg _ (.inl rfl))]
structure BkA(b6 b7 b3 b14:Nat)(g:KP)(N:Nat)(party:Int)(vv ww:AV)(ps:List (TS×aP))(h:AH)(n:Nat):Prop where
 r6:h.get b6=some (.row 22 [.sl g.rb 0 0 N (some N)])
 r7:h.get b7=some (.row 22 [.sl g.ob 0 0 N (some N)])
 r3:h.get b3=some (.row 150 (D9 party vv ww))
 Ew:h.get b14=some (.row 303 [.f 184 [.p b6 0,.p g.b9 0]])
 pos:SL h n 5 vv Ev ps
theorem QB(K:Nat){b6 b7 b3 b14 f to N:Nat}{party:Int}{vv ww:AV}{ps:List (TS×aP)}{x:TS×aP}{R:AV->AH->Nat->Prop}(a:nO h n g X A r op qv Q nx bs B)(hl:Q.length<=100000)(hA:∀h n,A h n->BkA b6 b7 b3 b14 g N party vv ww ps h n)
 (lr:r.length=N)(lo:op.length=N)(lp:ps.length=N)(hx:ps[f]?=some x)(hto:to<N)(ho: -1000000<=op.getD f 0/\op.getD f 0<=1000000)(hrt: -1<=rk r to/\rk r to<=1000000)(hne:f≠to\/rk r f≠ -1)
 (hR1:(rk r f≠ -1\/(x.2.own=true/\op.getD f 0 - 1≠0))->∀h' n',nO h' n' g X A r (op.set f (op.getD f 0 - 1)) qv Q nx bs B->n<=n'->(∀x,x<n->¬X x->h'.get x=h.get x)->R (.bQ []) h' n')
 (hR2:rk r f= -1->(x.2.own=false\/op.getD f 0 - 1=0)->∀v' X' h' n',nO h' n' g X' A (r.set f (rk r to+1)) (op.set f (op.getD f 0 - 1)) v' (Q++[f]) nx bs B->n<=n'->(∀x,x<n->¬X x->h'.get x=h.get x)->(∀x,X x->X' x)->(∀x,X' x->X x\/n<=x)->R (.bQ []) h' n'):
 CW (EF (K+3)) 185 [.i .i64 (f:Nat),.i .i64 (to:Nat),.p b7 0,.p b6 0,.p b3 0,.p b14 0] h n R:=by
 have hf:f<N:=by rw[<-lp];exact(List.getElem?_eq_some_iff.1 hx).1
 have ba:=hA _ _ a.A.use;have r6:=ba.r6;have r7:=ba.r7;have r3:=ba.r3;have Ew:=ba.Ew;have ro:=a.ro;have hfo:f<op.length:=by omega
 have hop:op[f]?=some (op.getD f 0):=by rw[List.getD_eq_getElem?_getD,List.getElem?_eq_getElem hfo];rfl
 have rd1:=nN (t:=3) (c:=kD) (λ_=>rfl) hop rfl;have w1:gK .i64 (op.getD f 0 - 1)=op.getD f 0 - 1:=dJ (by omega) (by omega);have st:=pU (c:=kD) (λ_=>rfl) (a:=op.getD f 0 - 1) hfo rfl;have a2:=a.FU (op.set f (op.getD f 0 - 1));refine aD afu rfl ?_;simp (disch:=omega) only[go_sem,simprocAttr,Zx,r7,bZ hf,ro,rd1,w1,st,Option.map_some];have us:∀x,x<n->¬X x->(h.set g.ob (.row 3 ((op.set f (op.getD f 0 - 1)).flatMap kD))).get x=h.get x:=λx _ hX=>ay λe=>hX (by rw[e];exact a.Xg _ (.inr (.inl rfl)));generalize Tr.set h g.ob _=h2 at*;clear r6 r7 r3 Ew ba;have ba:=hA _ _ a2.A.use;have r6:=ba.r6;have r7:=ba.r7;have r3:=ba.r3;have Ew:=ba.Ew;have rr:=a2.rr;have ro2:=a2.ro;have rdf:=nN (t:=3) (c:=kD) (λ_=>rfl) (uH (r:=r) (i:=f) (by omega)) rfl;have rdt:=nN (t:=3) (c:=kD) (λ_=>rfl) (uH (r:=r) (i:=to) (by omega)) rfl;have hop2:(op.set f (op.getD f 0 - 1))[f]?=some (op.getD f 0 - 1):=by rw[List.getElem?_set,if_pos rfl,if_pos hfo]
 have QC:=nN (t:=3) (c:=kD) (λ_=>rfl) hop2 rfl;obtain⟨b1,o1,x',i1,hx',hb1,rd⟩:=ba.pos.gD (k:=(f:Nat)) (by omega) (by omega) (by omega);rw[show((f:Nat):Int).toNat=f by omega,hx]at hx';cases hx'
 have w2:gK .i64 (rk r to+1)=rk r to+1:=dJ (by omega) (by omega);repeat' (first|(simp (disch:=omega) only[go_sem,simprocAttr,r6,r7,r3,Ew,bZ hf,rr,ro2,rdf,QC,rdt,w2,bS hto,aK i1,rd.el,rd.hd])|(refine aT ?_ ?_<;>(intro hb hd;rw[hb];clear hb))|(with_reducible refine aj ?_))
 all_goals first
  |(
   rename_i q1 q2;exact hR1 (.inr ⟨by assumption,hd⟩) _ _ a2 (Nat.le_refl _) us)
  |exact hR1 (.inl hd) _ _ a2 (Nat.le_refl _) us
  |(
   rw[vI];show CW _ 184 [.i .i64 (f:Nat),.i .i64 (rk r to+1),.p b6 0,.p g.b9 0] _ _ _;refine Av K a2 hl (λh n e=>by rw[lr];exact(hA h n e).r6) (by omega) λv' X' h3 n3 a3 hn hs hX1 hX2=>?_;simp (disch:=omega) only[go_sem,simprocAttr];refine hR2 (by assumption) (by first|exact .inl hd|exact .inr hd) v' X' _ _ a3 hn (λx hx hX=>by rw[hs x hx hX,us x hx hX]) hX1 hX2)
end
end
end
section
noncomputable section
def sI(M:List (List (Int×Nat)))(k j:Nat):List Nat:=(List.range k).flatMap λi=>((mr M i).filter λx=>x.2==j).map λ_=>i
def mI(M:List (List (Int×Nat)))(k:Nat)(l:List (Int×Nat))(t j:Nat):List Nat:=sI M k j++((l.take t).filter λx=>x.2==j).map λ_=>k
theorem Nt(M:List (List (Int×Nat)))(j:Nat):oC M j=sI M M.length j:=rfl
theorem Vb{M:List (List (Int×Nat))}{k:Nat}{l:List (Int×Nat)}{j:Nat}:mI M k l 0 j=sI M k j:=by simp[mI]
theorem Nu{M:List (List (Int×Nat))}{k:Nat}{l:List (Int×Nat)}{j:Nat}(h:M[k]?=some l):mI M k l l.length j=sI M (k+1) j:=by
 have:mr M k=l:=by unfold mr;rw[List.getD_eq_getElem?_getD,h];rfl
 simp[mI,sI,List.range_succ,this]
theorem JO{M:List (List (Int×Nat))}{k t N:Nat}{l:List (Int×Nat)}{z:Int×Nat}(h:l[t]?=some z)(hz:z.2<N):(List.range N).map (mI M k l (t+1))=((List.range N).map (mI M k l t)).set z.2 (mI M k l t z.2++[k]):=by
 have key:∀j,mI M k l (t+1) j=if z.2=j then mI M k l t j++[k]else mI M k l t j:=λj=>by
  unfold mI;rw[List.take_add_one,h];simp only[Option.toList_some,List.filter_append,List.map_append];by_cases e:z.2=j
  .simp[e]
  .have:(z.2==j)=false:=by simpa using e
   simp[e,this]
 apply List.ext_getElem?;intro j;rw[List.getElem?_set];by_cases hj:j<N
 .by_cases e:z.2=j
  .subst e
   rw[if_pos rfl,if_pos (by simpa using hj),List.getElem?_map,List.getElem?_range hj,Option.map_some,key,if_pos rfl]
  .rw[if_neg e,List.getElem?_map,List.getElem?_map,List.getElem?_range hj,Option.map_some,Option.map_some,key,if_neg e]
 .have h1:((List.range N).map (mI M k l (t+1)))[j]?=none:=by simp;omega
  have h2:((List.range N).map (mI M k l t))[j]?=none:=by simp;omega
  rw[h1,if_neg (by omega),h2]
section
variable {h h':AH} {n n':Nat} {v:CS} {C:aA} {p:aP} {party:Int} {ps:List (TS×aP)} {wv:List AV} {M:List (List (Int×Nat))} {Q:AV->AH->Nat->Prop} {vv ww:AV}
theorem D_{M:List (List (Int×Nat))}{c:Nat}(h:∀i,(mr M i).length<=c)(k j:Nat):(sI M k j).length<=k*c:=by
 induction k with
 |zero=>simp[sI]
 |succ k ih=>
  have e:sI M (k+1) j=sI M k j++((mr M k).filter λx=>x.2==j).map λ_=>k:=by simp[sI,List.range_succ]
  rw[e,List.length_append,List.length_map,Nat.succ_mul];have:=List.length_filter_le (λx:Int×Nat=>x.2==j) (mr M k);have:=h k;omega
theorem Co{D:DK}{h:AH}{n e w:Nat}{v y:AV}{α:Type}{c:α->List AV}{l l2:List α}{l':List MQ}{j r n0:Nat}{f:FT}{vs:List AV}{hs:List (Nat×AH)}{F:Fm}
 (g:Gr h n e w v c l)(hy:lM y=some l2.length/\iZ h w l2.length y=some (l2.flatMap c))(hl:l.length+l2.length<=1048576)
 (q:∀v' h' n',Gr h' n' e w v' c (l++l2)->n<=n'->(∀x,x<n->¬blk v x->h'.get x=h.get x)->(∀x,blk v' x->blk v x\/n<=x)->D l' (j+1) r n0 f h' n' (v'::vs) ((j+1,h')::hs) F):dR D (some ((jq e w).run h n v y)) l' j r n0 f vs hs F:=by
 obtain⟨v',h',n',e1,e2,e3,e4,e5⟩:=g.app hy.1 hy.2 hl;rw[e1,adE];exact q v' h' n' e2 e3 e4 e5
structure RkA(n0 b6 b7:Nat)(g:KP)(N:Nat)(v:CS)(C:aA)(party:Int)(vv ww:AV)(ps:List (TS×aP))(wv:List AV)(M:List (List (Int×Nat)))(h:AH)(n:Nat):Prop where
 r2:h.get n0=some (.row 27 (v.av C))
 r3:h.get (n0+1)=some (.row 150 (D9 party vv ww))
 r6:h.get b6=some (.row 22 [.sl g.rb 0 0 N (some N)])
 r7:h.get b7=some (.row 22 [.sl g.ob 0 0 N (some N)])
 con:aY h n v C
 ar:vW h n vv ww ps wv M
def kU(C:aA)(party:Int)(P:List aP)(j:Nat):Bool:=match P[j]? with|some q=>anyFailed C q.st party|none=>false
def nZ(C:aA)(party:Int)(P:List aP)(j:Nat):Int:=if kU C party P j=true then 0 else -1
def qO(n1:Nat):KP:=⟨n1,n1+1+1,n1+1+1+1+1,n1+1+1+1+1+1⟩
def PA(h:AH)(n n1:Nat)(v:CS)(C:aA)(party:Int)(vv ww:AV)(ps:List (TS×aP))(wv:List AV)(M:List (List (Int×Nat)))(k:Nat)(hk:AH)(nk:Nat)(G:Fm):Prop:=∃(X:Nat->Prop)(r op:List Int)(qv:AV)(bs:List AV),
 nO hk nk (qO n1) X (RkA n (n1+1) (n1+1+1+1) (qO n1) ps.length v C party vv ww ps wv M) r op qv ((List.range k).filter (kU C party (ps.map (·.2)))) 0 bs ((List.range ps.length).map (sI M k))/\r.length=ps.length/\op.length=ps.length/\
 (∀j,j<k->r[j]?=some (nZ C party (ps.map (·.2)) j))/\(∀j,j<k->op[j]?=some ((mr M j).length:Int))/\Up h n hk nk/\(∀x,X x->n1<=x)/\
 G=[(2,.p n 0),(3,.p (n+1) 0),(5,.i .i64 (ps.length:Nat)),(6,.p (n1+1) 0),(7,.p (n1+1+1+1) 0),(8,.sl (n1+1+1+1+1) 0 0 ps.length (some ps.length)),(9,.p (n1+1+1+1+1+1) 0),(36,vv)]
def PB2(h:AH)(n n1 n3:Nat)(v:CS)(C:aA)(party:Int)(vv ww:AV)(ps:List (TS×aP))(wv:List AV)(M:List (List (Int×Nat)))(k:Nat)(x:TS×aP)(y qv:AV)(Qs:List Nat)(r op:List Int)(l:List (Int×Nat))(t:Nat)(hk:AH)(nk:Nat)(G:Fm):Prop:=∃(X:Nat->Prop)(bs:List AV),
 nO hk nk (qO n1) X (RkA n (n1+1) (n1+1+1+1) (qO n1) ps.length v C party vv ww ps wv M) r op qv Qs 0 bs ((List.range ps.length).map (mI M k l t))/\Up h n hk nk/\(∀x,X x->n1<=x)/\hk.get n3=some (.row 45 (Ev x))/\¬X n3/\n3<nk/\
 G=[(2,.p n 0),(3,.p (n+1) 0),(5,.i .i64 (ps.length:Nat)),(6,.p (n1+1) 0),(7,.p (n1+1+1+1) 0),(8,.sl (n1+1+1+1+1) 0 0 ps.length (some ps.length)),(9,.p (n1+1+1+1+1+1) 0),(36,vv),(37,.i .i64 (ps.length:Nat)),(38,.i .i64 (k:Nat)),(11,.p n3 0),(10,.i .i64 (k:Nat)),(59,y)]
theorem RI.start{P:List aP}{r op:List Int}(lr:r.length=P.length)(lo:op.length=P.length)(lm:M.length=P.length)(hr:∀j,j<P.length->r[j]?=some (nZ C party P j))(hop:∀j,j<P.length->op[j]?=some ((mr M j).length:Int)):
 RI C party P M r op ((List.range P.length).filter (kU C party P)) [] 0/\∀i∈(List.range P.length).filter (kU C party P),rk r i<=1:=by
 have e1:∀j,j<P.length->rk r j=nZ C party P j:=λj hj=>pR (hr j hj);have e2:∀j,¬j<P.length->rk r j= -1:=λj hj=>by unfold rk;rw[List.getD_eq_getElem?_getD,List.getElem?_eq_none (by omega)];rfl
 have e3:∀j p,P[j]?=some p->kU C party P j=anyFailed C p.st party:=λj p h=>by unfold kU;rw[h]
 have e4:∀j,nZ C party P j=0\/nZ C party P j= -1:=λj=>by unfold nZ;split;exact .inl rfl;exact .inr rfl
 have lt:∀{j:Nat}{p:aP},P[j]?=some p->j<P.length:=λh=>(List.getElem?_eq_some_iff.1 h).1;have le0:∀j,rk r j<=0:=λj=>by
  by_cases hj:j<P.length
  .rw[e1 j hj];rcases e4 j with e|e<;>omega
  .rw[e2 j hj];omega
 refine⟨⟨lr,lo,lm,List.Pairwise.filter _ List.nodup_range,λi=>?_,λi=>?_,λi hi=>?_,λi p hp=>?_,λi p _ _ h=>by have:=le0 i;omega,λi p _ _ h=>by have:=le0 i;omega,?_,λi p _ _=>⟨λ_=>rfl,λh=>by omega⟩⟩,λi _=>by have:=le0 i;omega⟩
 .rw[List.mem_filter,List.mem_range]
  constructor
  .rintro⟨a,b⟩
   refine⟨a,?_⟩;rw[e1 i a];unfold nZ;rw[if_pos b];omega
  .rintro⟨a,b⟩
   refine⟨a,?_⟩;rw[e1 i a]at b;unfold nZ at b;cases h:kU C party P i with
   |true=>rfl
   |false=>rw[h]at b;simp at b
 .by_cases hj:i<P.length
  .rw[e1 i hj];rcases e4 i with e|e<;>omega
  .rw[e2 i hj];omega
 .rw[List.getD_eq_getElem?_getD,hop i hi];simp
 .rw[e1 i (lt hp)];unfold nZ
  rw[e3 i p hp];cases anyFailed C p.st party<;>simp
 .refine List.Pairwise.imp_of_mem (R:=λ_ _=>True) (λ{a b} ha hb _=>?_) (List.pairwise_of_forall λ_ _=>trivial)
  have h1:=List.mem_filter.1 ha;have h2:=List.mem_filter.1 hb;rw[e1 a (List.mem_range.1 h1.1),e1 b (List.mem_range.1 h2.1)];unfold nZ;rw[if_pos h1.2,if_pos h2.2];exact Int.le_refl _
structure JQ(n0 b6 b7 b14:Nat)(g:KP)(N:Nat)(v:CS)(C:aA)(party:Int)(vv ww:AV)(ps:List (TS×aP))(wv:List AV)(M:List (List (Int×Nat)))(h:AH)(n:Nat):Prop where
 a:RkA n0 b6 b7 g N v C party vv ww ps wv M h n
 Ew:h.get b14=some (.row 303 [.f 184 [.p b6 0,.p g.b9 0]])
theorem JQ.bk{n0 b6 b7 b14:Nat}{g:KP}{N:Nat}(x:JQ n0 b6 b7 b14 g N v C party vv ww ps wv M h n):BkA b6 b7 (n0+1) b14 g N party vv ww ps h n:=⟨x.a.r6,x.a.r7,x.a.r3,x.Ew,x.a.ar.pos⟩
def PB3(h:AH)(n n1 b14:Nat)(v:CS)(C:aA)(party:Int)(vv ww:AV)(ps:List (TS×aP))(wv:List AV)(M:List (List (Int×Nat)))(k:Nat)(hk:AH)(nk:Nat)(G:Fm):Prop:=∃(X:Nat->Prop)(r op:List Int)(qv:AV)(Qs:List Nat)(bs:List AV),
 nO hk nk (qO n1) X (JQ n (n1+1) (n1+1+1+1) b14 (qO n1) ps.length v C party vv ww ps wv M) r op qv Qs 0 bs ((List.range ps.length).map (oC M))/\RI C party (ps.map (·.2)) M r op Qs [] k/\(∀i∈Qs,rk r i<=1)/\Up h n hk nk/\(∀x,X x->n1<=x)/\b14<nk/\
 G=[(3,.p (n+1) 0),(6,.p (n1+1) 0),(7,.p (n1+1+1+1) 0),(8,.sl (n1+1+1+1+1) 0 0 ps.length (some ps.length)),(9,.p (n1+1+1+1+1+1) 0),(14,.p b14 0),(92,vv)]
def PC(h:AH)(n n1 b14:Nat)(v:CS)(C:aA)(party:Int)(vv ww:AV)(ps:List (TS×aP))(wv:List AV)(M:List (List (Int×Nat)))(m:Nat)(hk:AH)(nk:Nat)(G:Fm):Prop:=∃(X:Nat->Prop)(r op:List Int)(qv:AV)(Qs:List Nat)(bs:List AV)(nx:Nat)(D rest:List Nat)(to:Nat)(ok:Bool),
 nO hk nk (qO n1) X (JQ n (n1+1) (n1+1+1+1) b14 (qO n1) ps.length v C party vv ww ps wv M) r op qv Qs nx bs ((List.range ps.length).map (oC M))/\Up h n hk nk/\(∀x,X x->n1<=x)/\b14<nk/\
 ((ok=true/\Qs=D++to::rest/\nx=D.length+1/\RI C party (ps.map (·.2)) M r op Qs (D.flatMap (oC M)) ps.length/\(∀i∈Qs,rk r i<=rk r to+1)/\rk r to<=nx/\m+nx=ps.length+1)\/
  (ok=false/\RI C party (ps.map (·.2)) M r op Qs (Qs.flatMap (oC M)) ps.length/\m=0))/\
 G=[(3,.p (n+1) 0),(6,.p (n1+1) 0),(7,.p (n1+1+1+1) 0),(8,.sl (n1+1+1+1+1) 0 0 ps.length (some ps.length)),(9,.p (n1+1+1+1+1+1) 0),(14,.p b14 0),(17,.f 185 [.p (n1+1+1+1) 0,.p (n1+1) 0,.p (n+1) 0,.p b14 0]),(18,.i .i64 (to:Nat)),(19,.b ok)]
def PD(h:AH)(n n1 b14:Nat)(v:CS)(C:aA)(party:Int)(vv ww:AV)(ps:List (TS×aP))(wv:List AV)(M:List (List (Int×Nat)))(D:List Nat)(to:Nat)(y:AV)(bs:List AV)(t:Nat)(hk:AH)(nk:Nat)(G:Fm):Prop:=∃(X:Nat->Prop)(r op:List Int)(qv:AV)(Qs:List Nat)(rest:List Nat),
 nO hk nk (qO n1) X (JQ n (n1+1) (n1+1+1+1) b14 (qO n1) ps.length v C party vv ww ps wv M) r op qv Qs (D.length+1) bs ((List.range ps.length).map (oC M))/\Up h n hk nk/\(∀x,X x->n1<=x)/\b14<nk/\
 Qs=D++to::rest/\RI C party (ps.map (·.2)) M r op Qs (D.flatMap (oC M)++(oC M to).take t) ps.length/\(∀i∈Qs,rk r i<=rk r to+1)/\rk r to<=D.length+1/\
 G=[(3,.p (n+1) 0),(6,.p (n1+1) 0),(7,.p (n1+1+1+1) 0),(8,.sl (n1+1+1+1+1) 0 0 ps.length (some ps.length)),(9,.p (n1+1+1+1+1+1) 0),(14,.p b14 0),(17,.f 185 [.p (n1+1+1+1) 0,.p (n1+1) 0,.p (n+1) 0,.p b14 0]),(18,.i .i64 (to:Nat)),(132,y)]
theorem Nv(K:Nat)(hC:aY h n v C)(ho:C.off.length<=1000000)(ai:vW h n vv ww ps wv M)(ia:dx C party p (ps.map (·.2)) M)(h0:0<=party)(h1:party<C.aC)(so:aM C p.st)
 (hQ:∀v' r h' n',lI C party (ps.map (·.2)) M r->Up h n h' n'->Kp (λx=>x<n) h' n' (λh n=>SL h n 1 v' kD r)->Q v' h' n'):CW (EF (K+9)) 105 [.agg (v.av C),.agg (D9 party vv ww)] h n Q:=by
 have hsm:=ia.small;have hlen:=ia.len;have hl2:=ai.len;rw[List.length_map]at hsm hlen;have sos:∀x∈ps,aM C x.2.st:=λx hx=>zo.ok so (ia.rch _ (List.mem_map_of_mem hx));have SC:∀i,(mr M i).length<=100:=λi=>by
  unfold mr;rw[List.getD_eq_getElem?_getD];cases hm:M[i]? with
  |none=>simp
  |some l=>
   have hi:i<ps.length:=by rw[<-hlen];exact(List.getElem?_eq_some_iff.1 hm).1
   have hx:ps[i]?=some ps[i]:=List.getElem?_eq_some_iff.2 ⟨hi,rfl⟩;have hP:(ps.map (·.2))[i]?=some ps[i].2:=by rw[List.getElem?_map,hx];rfl
   have e1:=(ia.mv i _ l hP hm).1;have e3:=uG C party ps[i].2;have:=(aA.ok (sos _ (List.mem_of_getElem? hx)).con).jY;show l.length<=100;omega
 refine aD c105 rfl ?_;simp (disch:=omega) only[go_sem,simprocAttr,Zr,CS.av];rw[aU];refine zZ _ (hC.up aI) ho (ai.up aI) ia h0 h1 sos λh1 n1 u1=>?_;have e1:=u1.le;have r2:h1.get n=some (.row 27 (v.av C)):=by rw[u1.old _ (by omega)];simp (disch:=omega) only[go_sem]
 have r3:h1.get (n+1)=some (.row 150 (D9 party vv ww)):=by rw[u1.old _ (by omega)];simp (disch:=omega) only[go_sem]
 have ux:Up h n h1 n1:=by exact aI
 clear u1;repeat' (first|(simp (disch:=omega) only[go_sem,simprocAttr,ub.old,r3,ai.pos.len,DL])|(simp (disch:=omega) only[go_sem,simprocAttr,r3,ai.pos.len,DL])|(refine aT ?_ ?_<;>(intro hb hd;rw[hb];clear hb))|(with_reducible refine aj ?_))
 generalize hh:Tr.set (Tr.set (Tr.set (Tr.set (Tr.set (Tr.set (Tr.set (Tr.set h1 _ _) _ _) _ _) _ _) _ _) _ _) _ _) _ _=h2;have u2:Up h1 n1 h2 (n1+1+1+1+1+1+1):=by rw[<-hh];exact aI
 have g1:h2.get n1=some (.row 3 ((List.replicate ps.length (0:Int)).flatMap kD)):=by rw[<-hh,<-jk kD];simp (disch:=omega) only[go_sem]
 have g2:h2.get (n1+1)=some (.row 22 [.sl n1 0 0 ps.length (some ps.length)]):=by rw[<-hh];simp (disch:=omega) only[go_sem]
 have g3:h2.get (n1+1+1)=some (.row 3 ((List.replicate ps.length (0:Int)).flatMap kD)):=by rw[<-hh,<-jk kD];simp (disch:=omega) only[go_sem]
 have g4:h2.get (n1+1+1+1)=some (.row 22 [.sl (n1+1+1) 0 0 ps.length (some ps.length)]):=by rw[<-hh];simp (disch:=omega) only[go_sem]
 have g5:h2.get (n1+1+1+1+1)=some (.row 22 ((List.replicate ps.length (AV.k 1)).flatMap one)):=by rw[<-hh,<-jk one];simp (disch:=omega) only[go_sem]
 have g6:h2.get (n1+1+1+1+1+1)=some (.row 323 [.k 1,.i .i64 0]):=by rw[<-hh];simp (disch:=omega) only[go_sem]
 clear hh;have pa:PA h n n1 v C party vv ww ps wv M 0 h2 (n1+1+1+1+1+1+1) [(2,.p n 0),(3,.p (n+1) 0),(5,.i .i64 (ps.length:Nat)),(6,.p (n1+1) 0),(7,.p (n1+1+1+1) 0),(8,.sl (n1+1+1+1+1) 0 0 ps.length (some ps.length)),(9,.p (n1+1+1+1+1+1) 0),(36,vv)]:=by
  have hB:(List.range ps.length).map (sI M 0)=List.replicate ps.length []:=by
   apply List.ext_getElem?;intro j;by_cases hj:j<ps.length
   .rw[List.getElem?_map,List.getElem?_range hj,List.getElem?_replicate,if_pos hj];rfl
   .rw[List.getElem?_replicate,if_neg hj];simp;omega
  have gk:∀(j:Nat)(y:AV),(List.replicate ps.length (AV.k 1))[j]?=some y->y= .k 1:=λj y e=>by
   rw[List.getElem?_replicate]at e;split at e<;>cases e;rfl
  refine⟨(qO n1).mem,_,_,.k 1,List.replicate ps.length (.k 1),⟨g1,g3,g6,g5,Gr.nil λ_=>rfl,by simp,λj y l e1 e2=>?_,(by simp only[qO];refine⟨?_,?_,?_,?_,?_,?_⟩<;>omega),λx hx=>absurd hx fA,λj y e x hx=>?_,λi j y z e _ _ x hx=>?_,λx hx=>hx,λx hx=>absurd hx fA,λj y e x hx=>?_,λx hx=>?_,λh' n' hn he=>?_⟩,by simp,by simp,(λj hj=>absurd hj (by omega)),(λj hj=>absurd hj (by omega)),ux.trans u2,λx hx=>?_,rfl⟩
  .rw[hB,List.getElem?_replicate]at e2
   split at e2<;>cases e2
   rw[gk j y e1];exact Gr.nil λ_=>rfl
  .rw[gk j y e]at hx;exact absurd hx fA
  .rw[gk i y e]at hx;exact absurd hx fA
  .rw[gk j y e]at hx;exact absurd hx fA
  .have:=hx;simp only[KP.mem,qO]at this;omega
  .have nm:∀x,x<n1\/x=n1+1\/x=n1+1+1+1->¬(qO n1).mem x:=λx hx e=>by simp only[KP.mem,qO]at e;omega
   have old:∀x,x<n1->h'.get x=h1.get x:=λx hx=>(he x (by omega) (nm x (.inl hx))).trans (u2.old x hx);have u':Up h n h' n':=ux.trans ⟨by omega,old⟩;exact⟨(old _ (by omega)).trans r2,(old _ (by omega)).trans r3,(he _ (by omega) (nm _ (.inr (.inl rfl)))).trans g2,(he _ (by omega) (nm _ (.inr (.inr rfl)))).trans g4,hC.up u',ai.up u'⟩
  .simp only[KP.mem,qO]at hx;omega
 refine b_ ps.length (PA h n n1 v C party vv ww ps wv M) (by omega) (by omega) (by omega) (by omega) (λk h8 n8 G ⟨X,r,op,qv,bs,_,_,_,_,_,_,_,e⟩=>by subst e;exact⟨rfl,rfl⟩) ⟨rfl,rfl,_,pa,by(repeat' (first|exact aR|refine aN rfl ?_))⟩ ?_ ?_
 .rintro k h3 n3 G hk ⟨X,r,op,qv,bs,a,lr,lo,hr,hop,u3,hX,rfl⟩
  have ca:=a.A.use;have r2:=ca.r2;have r3:=ca.r3;have r6:=ca.r6;have r7:=ca.r7;have rr:=a.rr;have ro:=a.ro;obtain⟨b1,o1,x,i1,hx,hb1,rd⟩:=ca.ar.pos.gD (k:=(k:Nat)) (by omega) (by omega) (by omega);obtain⟨b2,o2,y,i2,hy,hb2,gu⟩:=ca.ar.row.gD (k:=(k:Nat)) (by omega) (by omega) (by omega);rw[show((k:Nat):Int).toNat=k by omega]at hx hy;obtain⟨l,hl⟩:∃l,M[k]?=some l:=⟨M[k]'(by omega),List.getElem?_eq_some_iff.2 ⟨by omega,rfl⟩⟩;have sl:=ca.ar.mv k y l hy hl;have st1':=pU (c:=kD) (λ_=>rfl) (a:=(-1:Int)) (show k<r.length by omega) rfl;have st2':=pU (c:=kD) (λ_=>rfl) (a:=(l.length:Int)) (show k<op.length by omega) rfl;have hP:(ps.map (·.2))[k]?=some x.2:=by rw[List.getElem?_map,hx];rfl
  have hll:l.length<=100:=by
   have e1:=(ia.mv k x.2 l hP hl).1;have e3:=uG C party x.2;have:=(aA.ok (sos x (List.mem_of_getElem? hx)).con).jY;omega
  have lb9:n1+1+1+1+1+1<n3:=a.lt _ (a.Xg _ (.inr (.inr (.inr rfl))));simp only[qO]at r6 r7 rr ro;repeat' (first|(simp (disch:=omega) only[go_sem,simprocAttr,ub.old,Gb,aK i1,i1,i2,rd.all,gu.el,gu.hd,r3,r6,r7,sl.len,bS hk,rr,ro,st1',st2',Option.map_some])|(simp (disch:=omega) only[go_sem,simprocAttr,Gb,aK i1,i1,i2,rd.all,gu.el,gu.hd,r3,r6,r7,sl.len,bS hk,rr,ro,st1',st2',Option.map_some])|(refine aT ?_ ?_<;>(intro hb hd;rw[hb];clear hb))|(with_reducible refine aj ?_))
  have a2:nO ((((Tr.set h3 n3 (.row 45 [.i .i64 0,.k 1,.k 1,.k 1,.b false])).set n3 (.row 45 (Ev x))).set n1 (.row 3 ((r.set k (-1)).flatMap kD))).set (n1+1+1) (.row 3 ((op.set k (l.length:Int)).flatMap kD))) (n3+1) (qO n1) X _ (r.set k (-1)) (op.set k (l.length:Int)) qv _ 0 bs _:=
   ((a.up (show Up h3 n3 ((Tr.set h3 n3 (.row 45 [.i .i64 0,.k 1,.k 1,.k 1,.b false])).set n3 (.row 45 (Ev x))) (n3+1) by exact aI)).Va (r.set k (-1))).FU (op.set k (l.length:Int))
  have u4:Up h n ((((Tr.set h3 n3 (.row 45 [.i .i64 0,.k 1,.k 1,.k 1,.b false])).set n3 (.row 45 (Ev x))).set n1 (.row 3 ((r.set k (-1)).flatMap kD))).set (n1+1+1) (.row 3 ((op.set k (l.length:Int)).flatMap kD))) (n3+1):=by exact aI
  have g4:((((Tr.set h3 n3 (.row 45 [.i .i64 0,.k 1,.k 1,.k 1,.b false])).set n3 (.row 45 (Ev x))).set n1 (.row 3 ((r.set k (-1)).flatMap kD))).set (n1+1+1) (.row 3 ((op.set k (l.length:Int)).flatMap kD))).get n3=some (.row 45 (Ev x)):=by simp (disch:=omega) only[go_sem]
  generalize Tr.set (Tr.set (Tr.set (Tr.set h3 _ _) _ _) _ _) _ _=h4 at*;obtain⟨b2,o2,y',i2,hy',hb2,gu⟩:=a2.A.use.ar.row.gD (k:=(k:Nat)) (by omega) (by omega) (by omega);rw[show((k:Nat):Int).toNat=k by omega,hy]at hy';cases hy'
  repeat' (first|(simp (disch:=omega) only[go_sem,simprocAttr,ub.old,aK i2,gu.el,gu.hd,sl.len])|(simp (disch:=omega) only[go_sem,simprocAttr,aK i2,gu.el,gu.hd,sl.len])|(refine aT ?_ ?_<;>(intro hb hd;rw[hb];clear hb))|(with_reducible refine aj ?_))
  have hBI:(List.range ps.length).map (sI M k)=(List.range ps.length).map (mI M k l 0):=by
   congr 1;funext j;exact Vb.symm
  rw[hBI]at a2;refine b_ l.length (PB2 h n n1 n3 v C party vv ww ps wv M k x y qv _ (r.set k (-1)) (op.set k (l.length:Int)) l) (by omega) (by omega) (by omega) (by omega) (λk h8 n8 G ⟨_,_,_,_,_,_,_,_,e⟩=>by subst e;exact⟨rfl,rfl⟩) ⟨rfl,rfl,_,⟨X,bs,a2,u4,hX,g4,λe=>by have:=a.lt _ e;omega,Nat.lt_succ_self _,rfl⟩,by(repeat' (first|exact aR|refine aN rfl ?_))⟩ ?_ ?_
  .rintro t h5 n5 G ht ⟨X5,Vd,a5,u5,Ve,g5,Zz,ln5,rfl⟩
   have Wq:=a5.A.use;obtain⟨b3,o3,z,i3,hz,hb3,sj⟩:=(Wq.ar.mv k y l hy hl).gD (k:=(t:Nat)) (by omega) (by omega) (by omega);rw[show((t:Nat):Int).toNat=t by omega]at hz;have hlt:=ia.tgt hl (List.mem_of_getElem? hz);rw[List.length_map]at hlt;have lb9:n1+1+1+1+1+1<n5:=a5.lt _ (a5.Xg _ (.inr (.inr (.inr rfl))));have rf:=a5.rf;simp only[qO]at rf;have hBz:((List.range ps.length).map (mI M k l t))[z.2]?=some (mI M k l t z.2):=by rw[List.getElem?_map,List.getElem?_range hlt];rfl
   have hlb:=a5.lb;rw[List.length_map,List.length_range]at hlb;obtain⟨yz,hyz⟩:∃yz,Vd[z.2]?=some yz:=⟨Vd[z.2]'(by omega),List.getElem?_eq_some_iff.2 ⟨by omega,rfl⟩⟩;have rdz:=nN (t:=22) (c:=one) (λ_=>rfl) hyz rfl;have gz:=a5.gb _ _ _ hyz hBz;repeat' (first|(simp (disch:=omega) only[go_sem,simprocAttr,ub.old,Ga,aK i3,sj.all,bS hlt,rf,rdz])|(simp (disch:=omega) only[go_sem,simprocAttr,Ga,aK i3,sj.all,bS hlt,rf,rdz])|(refine aT ?_ ?_<;>(intro hb hd;rw[hb];clear hb))|(with_reducible refine aj ?_))
   have hln:(mI M k l t z.2).length<=200000:=by
    have e1:=D_ SC k z.2;have e2:=List.length_filter_le (λx:Int×Nat=>x.2==z.2) (l.take t);have e3:=List.length_take_le t l;unfold mI;rw[List.length_append,List.length_map];omega
   refine Co (l2:=[k]) (gz.up aI) ⟨rfl,?_⟩ (by simp;omega) λv' h6 n6 g6 l6 s6 b6=>?_
   .show bnd (iD (Tr.get _ _) 0 _) (λr=>mO (Nat.mul 1 1) r)=_
    rw[aG];rfl
   obtain⟨q1,q2⟩:=a5.oC hyz hBz (show Up h5 n5 _ (n5+1+2) by exact aI) g6 l6 s6 b6;have ltz:∀x,blk yz x->x<n5:=λx hx=>gz.fE hx;have q3:h6.get n5=some (.row 223 [.i .i64 z.1,.i .i64 (z.2:Nat)]):=by
    rw[s6 n5 (by omega) (λe=>by have:=ltz _ e;omega)];simp (disch:=omega) only[go_sem]
   have st3:=pU (c:=one) (λ_=>rfl) (l:=Vd) (i:=z.2) (a:=v') (show z.2<Vd.length by omega) rfl;simp only[qO]at q1;simp (disch:=omega) only[go_sem,simprocAttr,g6.cl,q1,q3,bS hlt,st3,Option.map_some];have hYX:∀x,blk yz x->X5 x:=λx hx=>a5.Xb _ _ hyz x hx;have afy:n3<n6:=by omega
   have ub:=u5.le;refine⟨rfl,rfl,_,⟨_,_,by rw[JO hz hlt];exact q2,⟨by omega,λx hx=>?_⟩,λx hx=>?_,?_,λe=>?_,afy,rfl⟩,by(repeat' (first|exact aR|refine aN rfl ?_))⟩
   .rw[ay (by omega),s6 x (by omega) (λe=>by have:=Ve x (hYX x e);omega)]
    rw[ay (by omega),ay (by omega),ay (by omega),u5.old x hx]
   .rcases hx with hx|hx
    .exact Ve x hx
    .rcases b6 x hx with e|e
     .exact Ve x (hYX x e)
     .omega
   .rw[ay (λe=>Zz (by rw[e];exact a5.Xg _ (.inr (.inr (.inl rfl))))),s6 n3 (by omega) (λe=>Zz (hYX _ e)),ay (by omega),ay (by omega),ay (by omega)];exact g5
   .rcases e with e|e
    .exact Zz e
    .rcases b6 n3 e with e|e
     .exact Zz (hYX _ e)
     .omega
  .rintro h5 n5 G ⟨X5,Vd,a5,u5,Ve,g5,Zz,ln5,rfl⟩
   have Wq:=a5.A.use;have r2:=Wq.r2;have r3:=Wq.r3;have hBe:(List.range ps.length).map (mI M k l l.length)=(List.range ps.length).map (sI M (k+1)):=by
    congr 1;funext j;exact Nu hl
   rw[hBe]at a5;simp (disch:=omega) only[go_sem,simprocAttr,r2,r3,g5,CS.av,TS.pv];rw[aU];have Ws:=sos x (List.mem_of_getElem? hx);refine QA _ Wq.con (Wq.ar.st x (List.mem_of_getElem? hx)) Ws λh6 n6 u6=>?_;have a6:=a5.up u6;have e6:=u6.le;have ca6:=a6.A.use;have r6:=ca6.r6;have rr:=a6.rr;simp only[qO]at r6 rr;have u36:=u5.trans u6;have mk:mr M k=l:=by unfold mr;rw[List.getD_eq_getElem?_getD,hl];rfl
   have hlb:kU C party (ps.map (·.2)) k=anyFailed C x.2.st party:=by unfold kU;rw[hP]
   have hop':∀j,j<k+1->(op.set k (l.length:Int))[j]?=some ((mr M j).length:Int):=λj hj=>by
    rw[List.getElem?_set];by_cases e:k=j
    .subst e;rw[if_pos rfl,if_pos (by omega),mk]
    .rw[if_neg e];exact hop j (by omega)
   have lk':k<(r.set k (-1)).length:=by simp;omega
   have st4:=pU (c:=kD) (λ_=>rfl) (l:=r.set k (-1)) (i:=k) (a:=(0:Int)) lk' rfl;have hfil:(List.range (k+1)).filter (kU C party (ps.map (·.2)))=(List.range k).filter (kU C party (ps.map (·.2)))++if anyFailed C x.2.st party=true then[k]else[]:=by
    rw[List.range_succ,List.filter_append];congr 1;cases hf:anyFailed C x.2.st party with
    |true=>simp[hlb,hf]
    |false=>simp[hlb,hf]
   cases hf:anyFailed C x.2.st party with
   |false=>
    rw[hf]at hfil;simp only[Bool.false_eq_true,if_false,List.append_nil]at hfil;repeat' (first|(simp (disch:=omega) only[go_sem,simprocAttr,ub.old])|(simp (disch:=omega) only[go_sem,simprocAttr])|(refine aT ?_ ?_<;>(intro hb hd;rw[hb];clear hb))|(with_reducible refine aj ?_))
    refine⟨rfl,rfl,_,⟨X5,r.set k (-1),op.set k (l.length:Int),qv,Vd,by rw[hfil];exact a6,by simp[lr],by simp[lo],λj hj=>?_,hop',u36,Ve,rfl⟩,by(repeat' (first|exact aR|refine aN rfl ?_))⟩;rw[List.getElem?_set];by_cases e:k=j
    .subst e;rw[if_pos rfl,if_pos (by omega),nZ,hlb,hf];rfl
    .rw[if_neg e];exact hr j (by omega)
   |true=>
    rw[hf]at hfil;simp only[if_true]at hfil;have hlen':(r.set k (-1)).length=ps.length:=by simp[lr]
    repeat' (first|(simp (disch:=omega) only[go_sem,simprocAttr,ub.old,r6,bZ hk,rr,st4,Option.map_some])|(simp (disch:=omega) only[go_sem,simprocAttr,r6,bZ hk,rr,st4,Option.map_some])|(refine aT ?_ ?_<;>(intro hb hd;rw[hb];clear hb))|(with_reducible refine aj ?_))
    rw[aU];have a7:=a6.Va ((r.set k (-1)).set k 0);have ZA:((List.range k).filter (kU C party (ps.map (·.2)))).length<=100000:=by
     have:=List.length_filter_le (kU C party (ps.map (·.2))) (List.range k);simp at this;omega
    refine Iq (K+7) (g:=qO n1) (i:=k) a7 ZA λv' X' h8 n8 a8 hn8 hs8 Zo hX8=>?_;simp (disch:=omega) only[go_sem,simprocAttr];have lt6:=a6.lt;refine⟨rfl,rfl,_,⟨X',(r.set k (-1)).set k 0,op.set k (l.length:Int),v',Vd,by rw[hfil];exact a8,by simp[lr],by simp[lo],λj hj=>?_,hop',⟨by have:=u36.le;omega,λx hx=>?_⟩,λx hx=>?_,rfl⟩,by(repeat' (first|exact aR|refine aN rfl ?_))⟩
    .rw[List.getElem?_set]
     by_cases e:k=j
     .subst e;rw[if_pos rfl,if_pos lk',nZ,hlb,hf];rfl
     .rw[if_neg e,List.getElem?_set,if_neg e];exact hr j (by omega)
    .have:=u36.le
     rw[hs8 x (by omega) (λe=>by have:=Ve x e;omega),ay (by show x≠n1;omega),u36.old x hx]
    .rcases hX8 x hx with e|e
     .exact Ve x e
     .have:=u36.le;have:=lt6 n1 (a6.Xg _ (.inl rfl));omega
 .rintro h3 n3 G ⟨X,r,op,qv,bs,a,lr,lo,hr,hop,u3,hX,rfl⟩
  have hlr:r.length=(ps.map (·.2)).length:=by rw[List.length_map];exact lr
  have hlo:op.length=(ps.map (·.2)).length:=by rw[List.length_map];exact lo
  have hlm:M.length=(ps.map (·.2)).length:=by rw[List.length_map];exact hlen
  obtain⟨ri,rb⟩:=RI.start (C:=C) (party:=party) hlr hlo hlm (λj hj=>hr j (by simpa using hj)) (λj hj=>hop j (by simpa using hj));rw[List.length_map]at ri rb;have ca:=a.A.use;have r3:=ca.r3;have lb9:n1+1+1+1+1+1<n3:=a.lt _ (a.Xg _ (.inr (.inr (.inr rfl))));simp (disch:=omega) only[go_sem,simprocAttr,r3,ca.ar.pos.len];have a2:nO ((Tr.set h3 n3 (.row 303 [.k 3])).set n3 (.row 303 [.f 184 [.p (n1+1) 0,.p (n1+1+1+1+1+1) 0]])) (n3+1) (qO n1) X (JQ n (n1+1) (n1+1+1+1) n3 (qO n1) ps.length v C party vv ww ps wv M) r op qv ((List.range ps.length).filter (kU C party (ps.map (·.2)))) 0 bs ((List.range ps.length).map (oC M)):=by
   have hb:(List.range ps.length).map (sI M ps.length)=(List.range ps.length).map (oC M):=by
    congr 1;funext j;rw[Nt,hlen]
   rw[<-hb];have u:Up h3 n3 ((Tr.set h3 n3 (.row 303 [.k 3])).set n3 (.row 303 [.f 184 [.p (n1+1) 0,.p (n1+1+1+1+1+1) 0]])) (n3+1):=by exact aI
   refine(a.up u).uX (((a.A.up u).and (B:=λh n=>h.get n3=some (.row 303 [.f 184 [.p (n1+1) 0,.p (n1+1+1+1+1+1) 0]])) λh' n' hn he=>?_).wk λh n e=>⟨e.1,e.2⟩);exact(he n3 (by omega) (λe=>by have:=a.lt _ e;omega)).trans aG
  have u4:Up h n ((Tr.set h3 n3 (.row 303 [.k 3])).set n3 (.row 303 [.f 184 [.p (n1+1) 0,.p (n1+1+1+1+1+1) 0]])) (n3+1):=by exact aI
  generalize(Tr.set h3 n3 (.row 303 [.k 3])).set n3 _=h4 at*;refine b_ ps.length (PB3 h n n1 n3 v C party vv ww ps wv M) (by omega) (by omega) (by omega) (by omega) (λk h8 n8 G ⟨X,r,op,qv,Qs,bs,_,_,_,_,_,_,e⟩=>by subst e;exact⟨rfl,rfl⟩) ⟨rfl,rfl,_,⟨X,r,op,qv,_,bs,a2,ri,rb,u4,hX,Nat.lt_succ_self _,rfl⟩,by(repeat' (first|exact aR|refine aN rfl ?_))⟩ ?_ ?_
  .clear a2 ri rb u4 a ca hr hop lr lo hlr hlo
   rintro k h5 n5 G hk ⟨X,r,op,qv,Qs,bs,a,ri,rb,u5,hX,JH,rfl⟩;have ca:=a.A.use;have r6:=ca.a.r6;have r7:=ca.a.r7;have Ew:=ca.Ew;have rr:=a.rr;have ro:=a.ro;simp only[qO]at r6 r7 Ew rr ro;have lr:=ri.lr;have lo:=ri.lo;rw[List.length_map]at lr lo;obtain⟨b1,o1,x,i1,hx,hb1,rd⟩:=ca.a.ar.pos.gD (k:=(k:Nat)) (by omega) (by omega) (by omega);rw[show((k:Nat):Int).toNat=k by omega]at hx;have hP:(ps.map (·.2))[k]?=some x.2:=by rw[List.getElem?_map,hx];rfl
   have lb9:n1+1+1+1+1+1<n5:=a.lt _ (a.Xg _ (.inr (.inr (.inr rfl))));have afB:op[k]?=some (op.getD k 0):=by rw[List.getD_eq_getElem?_getD,List.getElem?_eq_getElem (show k<op.length by omega)];rfl
   have QC:=nN (t:=3) (c:=kD) (λ_=>rfl) afB rfl;have rdr:=nN (t:=3) (c:=kD) (λ_=>rfl) (uH (r:=r) (i:=k) (by omega)) rfl;repeat' (first|(simp (disch:=omega) only[go_sem,simprocAttr,ub.old,F9,aK i1,rd.all,r6,r7,Ew,rr,ro,bZ hk,QC,rdr])|(simp (disch:=omega) only[go_sem,simprocAttr,F9,aK i1,rd.all,r6,r7,Ew,rr,ro,bZ hk,QC,rdr])|(refine aT ?_ ?_<;>(intro hb hd;rw[hb];clear hb))|(with_reducible refine aj ?_))
   .rw[Fu]
    show CW _ 184 [.i .i64 (k:Nat),.i .i64 1,.p (n1+1) 0,.p (n1+1+1+1+1+1) 0] _ _ _;have ZA:Qs.length<=100000:=by
     have:=ri.Nq;rw[List.length_map]at this;omega
    have a':=a.up (show Up h5 n5 ((Tr.set h5 n5 (.row 45 [.i .i64 0,.k 1,.k 1,.k 1,.b false])).set n5 (.row 45 [.i .i64 x.2.st.day,x.1.h,x.1.u,x.1.m,.b true])) (n5+1) by exact aI);have us:Up h n ((Tr.set h5 n5 (.row 45 [.i .i64 0,.k 1,.k 1,.k 1,.b false])).set n5 (.row 45 [.i .i64 x.2.st.day,x.1.h,x.1.u,x.1.m,.b true])) (n5+1):=by exact aI
    refine Av (K+6) (g:=qO n1) (i:=k) a' ZA (λh n e=>by rw[lr];exact e.a.r6) (by omega) λv' X' h8 n8 a8 hn8 hs8 Zo hX8=>?_;simp (disch:=omega) only[go_sem,simprocAttr];have ZB:=ri.afp hP (by assumption) (by assumption) hd rb;have e5:=us.le;have lk5:k<r.length:=by omega
    refine⟨rfl,rfl,_,⟨X',r.set k 1,op,v',Qs++[k],bs,a8,ZB,λi hi=>?_,⟨by omega,λx hx=>?_⟩,λx hx=>?_,by omega,rfl⟩,by(repeat' (first|exact aR|refine aN rfl ?_))⟩
    .rw[sF lk5]
     split
     .omega
     .rcases List.mem_append.1 hi with hi|hi
      .exact rb i hi
      .simp at hi;omega
    .rw[hs8 x (by omega) (λe=>by have:=hX x e;omega),us.old x hx]
    .rcases hX8 x hx with e|e
     .exact hX x e
     .omega
   all_goals exact⟨rfl,rfl,_,⟨X,r,op,qv,Qs,bs,a.up aI,ri.skip hP (λe=>by simp_all),rb,by exact aI,hX,by omega,rfl⟩,by(repeat' (first|exact aR|refine aN rfl ?_))⟩
  .clear a2 ri rb u4 a ca hr hop lr lo hlr hlo
   rintro h5 n5 G ⟨X,r,op,qv,Qs,bs,a,ri,rb,u5,hX,JH,rfl⟩;have ZA:Qs.length<=100000:=by
    have:=ri.Nq;rw[List.length_map]at this;omega
   have ht:∀(i:Nat) l m j,M[i]?=some l->(m,j)∈l->j<(ps.map (·.2)).length:=λi l m j e1 e2=>ia.tgt e1 e2;have loop:∀m h8 n8 (F:Fm),PC h n n1 n3 v C party vv ww ps wv M m h8 n8 F->m<=ps.length->∀F',(∀k w,lk F k=some w->lk F' k=some w)->SM Tryz.prog Y0 105 [It.c (.loop Cn),It.b 6,It.c (((MC.reg [⟨none,.ld none (.s 6),.l⟩,⟨none,.mv (.v 0),.k 4⟩]).seq .ret))] .bT (EF (K+8)) h8 n8 F' (RS [MS.t 4] Q):=by
    intro m h8 n8 F pc hm F' hF';refine jw (PC h n n1 n3 v C party vv ww ps wv M) m (by omega) ⟨F,pc,hF'⟩ ?_;clear pc hF' F' F h8 n8 hm m;rintro m h8 n8 F ⟨X,r,op,qv,Qs,bs,nx,D,rest,to,ok,a,u8,hX,JH,hok,rfl⟩;rcases hok with⟨rfl,zL,hnx,ri,hbd,hto,hm⟩|⟨rfl,ri,rfl⟩
    .have Vf:=ri.Nq
     rw[List.length_map]at Vf;subst hnx;have QD:to<ps.length:=by
      have:=((ri.qr to).1 (by rw[zL];simp)).1;rw[List.length_map]at this;exact this
     have QE:0<=rk r to:=((ri.qr to).1 (by rw[zL];simp)).2;have lb9:n1+1+1+1+1+1<n8:=a.lt _ (a.Xg _ (.inr (.inr (.inr rfl))));have rf:=a.rf;simp only[qO]at rf;have hlb:=a.lb;rw[List.length_map,List.length_range]at hlb;obtain⟨y,hy⟩:∃y,bs[to]?=some y:=⟨bs[to]'(by omega),List.getElem?_eq_some_iff.2 ⟨by omega,rfl⟩⟩;have hBy:((List.range ps.length).map (oC M))[to]?=some (oC M to):=by rw[List.getElem?_map,List.getElem?_range QD];rfl
     have Wn:=nN (t:=22) (c:=one) (λ_=>rfl) hy rfl;have gy:=a.gb _ _ _ hy hBy;have hbl:(oC M to).length<=200000:=by
      have:=D_ SC M.length to;rw[Nt];omega
     simp (disch:=omega) only[go_sem,simprocAttr,Cn,bS QD,bZ QD,rf,Wn,gy.len];refine b_ (oC M to).length (PD h n n1 n3 v C party vv ww ps wv M D to y bs) (by omega) (by omega) (by omega) (by omega) (λk h8 n8 G ⟨X,r,op,qv,Qs,rest,_,_,_,_,_,_,_,_,e⟩=>by subst e;exact⟨rfl,rfl⟩) ⟨rfl,rfl,_,⟨X,r,op,qv,Qs,rest,a,u8,hX,JH,zL,by simpa using ri,hbd,by omega,rfl⟩,by(repeat' (first|exact aR|refine aN rfl ?_))⟩ ?_ ?_
     .clear ri hbd hto zL a u8 hX JH Vf rf gy QE
      rintro t h9 n9 G ht' ⟨X,r,op,qv,Qs,rest,a,u9,hX,JH,zL,ri,hbd,hto,rfl⟩;have gy:=a.gb _ _ _ hy hBy;obtain⟨b3,o3,f,i3,hf,hb3,sj⟩:=gy.sl.gD (k:=(t:Nat)) (by omega) (by omega) (by omega);rw[show((t:Nat):Int).toNat=t by omega]at hf;have hfN:f<ps.length:=by
       have:=(Io.1 (List.mem_of_getElem? hf)).1;omega
      have hx:ps[f]?=some ps[f]:=List.getElem?_eq_some_iff.2 ⟨hfN,rfl⟩;have hP:(ps.map (·.2))[f]?=some ps[f].2:=by rw[List.getElem?_map,hx];rfl
      have QE:0<=rk r to:=((ri.qr to).1 (by rw[zL];simp)).2;have Vf:=ri.Nq;rw[List.length_map]at Vf;have hc:=ri.U8 zL rfl (f:=f) (by rw[List.length_map];exact hfN);have hof:=ri.op f (by rw[List.length_map];exact hfN);have aiy:=SC f;have lr:=ri.lr;have lo:=ri.lo;rw[List.length_map]at lr lo;have htk:(oC M to).take (t+1)=(oC M to).take t++[f]:=by rw[List.take_add_one,hf];rfl
      have hDl:D.length<=1500:=by
       have:=congrArg List.length zL;simp at this;omega
      simp (disch:=omega) only[go_sem,simprocAttr,Nr,aK i3,sj.el,sj.hd];rw[Fu];show CW _ 185 [.i .i64 (f:Nat),.i .i64 (to:Nat),.p (n1+1+1+1) 0,.p (n1+1) 0,.p (n+1) 0,.p n3 0] _ _ _;refine QB (K+5) (g:=qO n1) (f:=f) (to:=to) a (by omega) (λh n e=>e.bk) lr lo rfl hx QD (by omega) (by omega) (by by_cases e:f=to;exact .inr (by rw[e];omega);exact .inl e) (λhc' h' n' a' hn' hs'=>?_) (λhr hc' v' X' h' n' a' hn' hs' Zo QF=>?_)
      .simp (disch:=omega) only[go_sem,simprocAttr]
       have ZB:=ri.edge hP hc';refine⟨rfl,rfl,_,⟨X,r,_,qv,Qs,rest,a',⟨by have:=u9.le;omega,λx hx=>?_⟩,hX,by omega,zL,by rw[htk,<-List.append_assoc];exact ZB,hbd,hto,rfl⟩,by(repeat' (first|exact aR|refine aN rfl ?_))⟩;have:=u9.le;rw[hs' x (by omega) (λe=>by have:=hX x e;omega),u9.old x hx]
      .simp (disch:=omega) only[go_sem,simprocAttr]
       have ZB:=ri.Zq ht zL rfl hbd hP hf hr hc';have hne:to≠f:=λe=>by rw[<-e]at hr;omega
       have lkf:f<r.length:=by omega
       have ZC:rk (r.set f (rk r to+1)) to=rk r to:=by rw[sF lkf,if_neg (Ne.symm hne)]
       refine⟨rfl,rfl,_,⟨X',_,_,v',Qs++[f],rest++[f],a',⟨by have:=u9.le;omega,λx hx=>?_⟩,λx hx=>?_,by omega,by rw[zL];simp,by rw[htk,<-List.append_assoc];exact ZB,λi hi=>?_,by rw[ZC];exact hto,rfl⟩,by(repeat' (first|exact aR|refine aN rfl ?_))⟩
       .have:=u9.le
        rw[hs' x (by omega) (λe=>by have:=hX x e;omega),u9.old x hx]
       .rcases QF x hx with e|e
        .exact hX x e
        .have:=a.lt _ (a.Xg n1 (.inl rfl));omega
       .rw[ZC,sF lkf]
        split
        .omega
        .rcases List.mem_append.1 hi with hi|hi
         .exact hbd i hi
         .simp at hi;omega
     .clear ri hbd hto zL a u8 hX JH Vf rf gy QE
      rintro h9 n9 G ⟨X,r,op,qv,Qs,rest,a,u9,hX,JH,zL,ri,hbd,hto,rfl⟩;have Vf:=ri.Nq;rw[List.length_map]at Vf;have hlen':=congrArg List.length zL;simp only[List.length_append,List.length_cons]at hlen';rw[List.take_length]at ri;have hE:D.flatMap (oC M)++oC M to=(D++[to]).flatMap (oC M):=by simp
      rw[hE]at ri;simp (disch:=omega) only[go_sem,simprocAttr];rw[aU];refine Ns (K+7) (g:=qO n1) a (by omega) (by omega) (λe=>?_) (λVg Nw a2=>?_)
      .have hr0:rest=[]:=List.length_eq_zero_iff.1 (by omega)
       simp (disch:=omega) only[go_sem,simprocAttr];refine⟨0,_,by omega,⟨X,r,op,qv,Qs,bs,D.length+1,[],[],0,false,a,u9,hX,JH,.inr ⟨rfl,by rw[zL,hr0];rw[zL,hr0]at ri;exact ri,rfl⟩,rfl⟩,by(repeat' (first|exact aR|refine aN rfl ?_))⟩
      .have hr1:∃rest',rest=Vg::rest':=by
        rw[zL,List.getElem?_append_right (by omega)]at Nw;rw[show D.length+1 - D.length=1 by omega,List.getElem?_cons_succ]at Nw;cases rest with
        |nil=>cases Nw
        |cons a b=>simp at Nw;subst Nw;exact⟨b,rfl⟩
       obtain⟨rest',hr1⟩:=hr1;have Vh:Qs=(D++[to])++Vg::rest':=by rw[zL,hr1];simp
       have hle:rk r to<=rk r Vg:=by
        have hm:=ri.mono;rw[Vh,List.pairwise_append]at hm;exact hm.2.2 to (by simp) Vg (by simp)
       have alS:rk r Vg<=rk r to+1:=hbd Vg (by rw[Vh];simp);simp (disch:=omega) only[go_sem,simprocAttr];refine⟨m - 1,_,by omega,⟨X,r,op,qv,Qs,bs,D.length+1+1,D++[to],rest',Vg,true,a2,Up.st u9 _ _ (by have:=hX _ (a.Xg (qO n1).b9 (.inr (.inr (.inr rfl))));omega),hX,JH,.inl ⟨rfl,Vh,by simp,ri,λi hi=>by have:=hbd i hi;omega,by omega,by omega⟩,rfl⟩,by(repeat' (first|exact aR|refine aN rfl ?_))⟩
    .have r6:=a.A.use.a.r6
     have rr:=a.rr;simp only[qO]at r6 rr;have lr:=ri.lr;rw[List.length_map]at lr;simp (disch:=omega) only[go_sem,simprocAttr,Cn,r6];have hN:ps.length=(ps.map (·.2)).length:=by rw[List.length_map]
     rw[hN]at ri;refine hQ _ r _ _ (ri.done rfl ht) u8 ?_;have sl:SL h8 n8 1 (.sl n1 0 0 ps.length (some ps.length)) kD r:=SL.of (λ_=>rfl) (a.lt _ (a.Xg n1 (.inl rfl))) rr rfl lr.symm (λk hk=>by cases hk;exact Nat.le_refl _);exact sl.kp λx hx=>by rw[d_]at hx;omega
   simp (disch:=omega) only[go_sem,simprocAttr];rw[aU];refine Ns (K+7) (g:=qO n1) a ZA (Nat.zero_le _) (λe=>?_) (λto hto a2=>?_)
   .simp (disch:=omega) only[go_sem,simprocAttr]
    have Wt:Qs=[]:=List.length_eq_zero_iff.1 e.symm;exact loop 0 _ _ _ ⟨X,r,op,qv,Qs,bs,0,[],[],0,false,a,u5,hX,JH,.inr ⟨rfl,by rw[Wt];rw[Wt]at ri;exact ri,rfl⟩,rfl⟩ (by omega) _ (by(repeat' (first|exact aR|refine aN rfl ?_)))
   .simp (disch:=omega) only[go_sem,simprocAttr]
    obtain⟨rest,zL⟩:∃rest,Qs=to::rest:=by
     cases Qs with
     |nil=>cases hto
     |cons a b=>simp at hto;subst hto;exact⟨b,rfl⟩
    have QE:0<=rk r to:=((ri.qr to).1 (by rw[zL];simp)).2;have alT:=rb to (by rw[zL];simp);exact loop ps.length _ _ _ ⟨X,r,op,qv,Qs,bs,0+1,[],rest,to,true,a2,Up.st u5 _ _ (by have:=hX _ (a.Xg (qO n1).b9 (.inr (.inr (.inr rfl))));omega),hX,JH,.inl ⟨rfl,zL,rfl,ri,λi hi=>by have:=rb i hi;omega,by omega,by omega⟩,rfl⟩ (by omega) _ (by(repeat' (first|exact aR|refine aN rfl ?_)))
end
end
end
noncomputable section
abbrev Vi(x:Bool):List AV:=[.b x]
def SE(C:aA)(party:Int)(P:List aP)(sf:List Bool):Prop:=sf.length=P.length/\∀(j:Nat)(q:aP),P[j]?=some q->∃b,sf[j]?=some b/\(b=true↔¬bY C party q)
section
variable {h h':AH} {n n':Nat} {v:CS} {C:aA} {p:aP} {party:Int} {ps:List (TS×aP)} {wv:List AV} {M:List (List (Int×Nat))} {Q:AV->AH->Nat->Prop} {vv ww:AV}
theorem Ir(K:Nat)(hC:aY h n v C)(ho:C.off.length<=1000000)(ai:vW h n vv ww ps wv M)(ia:dx C party p (ps.map (·.2)) M)(h0:0<=party)(h1:party<C.aC)(so:aM C p.st)
 (hQ:∀v' sf h' n',SE C party (ps.map (·.2)) sf->Up h n h' n'->Kp (λx=>x<n) h' n' (λh n=>SL h n 1 v' Vi sf)->Q v' h' n'):CW (EF (K+10)) 52 [.agg (v.av C),.agg (D9 party vv ww)] h n Q:=by
 have hsm:=ia.small;rw[List.length_map]at hsm;refine aD c52 rfl ?_;simp (disch:=omega) only[go_sem,simprocAttr,m52,CS.av];rw[aU];refine Nv K (hC.up aI) ho (ai.up aI) ia h0 h1 so λv1 r h2 n2 ir u2 k2=>?_;have e2:=u2.le;have sl:=k2.use;have lr:=ir.len;rw[List.length_map]at lr;have ux:Up h n h2 n2:=by exact aI
 simp (disch:=omega) only[go_sem,simprocAttr,sl.len,DL];have g3:(Tr.set h2 n2 (.row 4 (rep r.length [.b false]))).get n2=some (.row 4 ((List.replicate r.length false).flatMap Vi)):=by rw[aG,<-jk Vi]
 have u3:Up h2 n2 (Tr.set h2 n2 (.row 4 (rep r.length [.b false]))) (n2+1):=by exact aI
 generalize Tr.set h2 n2 _=h3 at*;refine b_ r.length (λk h5 n5 G=>∃bl:List Bool,bl.length=r.length/\(∀j,j<k->bl[j]?=some (decide (rk r j= -1)))/\h5.get n2=some (.row 4 (bl.flatMap Vi))/\Up h2 n2 h5 n5/\n2<n5/\G=[(6,.sl n2 0 0 r.length (some r.length)),(15,v1)]) (by omega) (by omega) (by omega) (by omega) (λk h8 n8 G ⟨_,_,_,_,_,_,e⟩=>by subst e;exact⟨rfl,rfl⟩) ⟨rfl,rfl,_,⟨_,by simp,(λj hj=>absurd hj (by omega)),g3,u3,Nat.lt_succ_self _,rfl⟩,by(repeat' (first|exact aR|refine aN rfl ?_))⟩ ?_ ?_
 .rintro k h5 n5 G hk ⟨bl,hbl,hb,g5,u5,l5,rfl⟩
  obtain⟨b1,o1,x,i1,hx,hb1,rd⟩:=(sl.up u5).gD (k:=(k:Nat)) (by omega) (by omega) (by omega);rw[show((k:Nat):Int).toNat=k by omega]at hx;have hrk:=pR hx;have st:=pU (c:=Vi) (λ_=>rfl) (l:=bl) (i:=k) (a:=decide (x= -1)) (by omega) rfl;simp (disch:=omega) only[go_sem,simprocAttr,aK i1,rd.el,rd.hd,bZ hk,g5,st,Option.map_some];refine⟨rfl,rfl,_,⟨bl.set k (decide (x= -1)),by simp[hbl],λj hj=>?_,aG,⟨u5.le,λy hy=>?_⟩,l5,rfl⟩,by(repeat' (first|exact aR|refine aN rfl ?_))⟩
  .rw[List.getElem?_set]
   by_cases e:k=j
   .subst e;rw[if_pos rfl,if_pos (by omega),hrk]
   .rw[if_neg e];exact hb j (by omega)
  .rw[ay (by omega),u5.old y hy]
 .rintro h5 n5 G ⟨bl,hbl,hb,g5,u5,l5,rfl⟩
  simp (disch:=omega) only[go_sem,simprocAttr];refine hQ _ bl _ _ ⟨by rw[hbl,ir.len],λj q hq=>?_⟩ (ux.trans u5) ?_
  .have hj:=(List.getElem?_eq_some_iff.1 hq).1
   rw[List.length_map]at hj;refine⟨_,hb j (by omega),?_⟩;rw[decide_eq_true_iff];exact ir.safe ia hq (uH (by omega))
  .have sl5:SL h5 n5 1 (.sl n2 0 0 r.length (some r.length)) Vi bl:=SL.of (λ_=>rfl) l5 g5 rfl hbl.symm (λk hk=>by cases hk;exact Nat.le_refl _)
   exact sl5.kp λx hx=>by rw[d_]at hx;have:=ux.le;omega
theorem Gc(so:aM C p.st)(ia:dx C party p (ps.map (·.2)) M){i:Nat}{l:List (Int×Nat)}(hl:M[i]?=some l):l.length<=100:=by
 have hlen:=ia.len;rw[List.length_map]at hlen;have hi:i<ps.length:=by rw[<-hlen];exact(List.getElem?_eq_some_iff.1 hl).1
 have hx:ps[i]?=some ps[i]:=List.getElem?_eq_some_iff.2 ⟨hi,rfl⟩;have hP:(ps.map (·.2))[i]?=some ps[i].2:=by rw[List.getElem?_map,hx];rfl
 have e1:=(ia.mv i _ l hP hl).1;have e3:=uG C party ps[i].2;have:=(aA.ok (zo.ok so (ia.rch _ (List.mem_of_getElem? hP))).con).jY;omega
end
end
end Go.Proofs.YtjoohkjmoghmoaaGreatDoor
