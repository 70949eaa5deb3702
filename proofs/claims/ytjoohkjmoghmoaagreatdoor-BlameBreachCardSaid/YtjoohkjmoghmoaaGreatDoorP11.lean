/- part -/
import Derived.Test.YtjoohkjmoghmoaaGreatDoorP10
set_option linter.all false
namespace Go.Proofs.YtjoohkjmoghmoaaGreatDoor
section
noncomputable section
section
variable {h h':AH} {n n':Nat} {b:WB} {v:CS} {C:aA} {s:aH} {tv:TS} {Q:AV->AH->Nat->Prop}
theorem zq{w e b:Nat}{cells:List AV}{x:AV}{α:Type}{c:α->List AV}{l:List α}{cap:Option Nat}(hb:h.get b=some (.row e cells))(hl:cells.length=l.length*w)(hx:SL h n w x c l):qU w h n (.sl b 0 0 l.length cap) x= .ok (.i .i64 (l.length:Nat)) (h.set b (.row e (l.flatMap c))) n:=by
 have hw:=hx.1;have e1:lM (.sl b 0 0 l.length cap)=some l.length:=rfl;have e2:Nat.min l.length l.length=l.length:=Nat.min_self _;have e3:uT (l.flatMap c) 0 cells=some (l.flatMap c):=yB (Ya (by rw[hl,bJ hw]));simp only[qU,e1,e2,hx.ap.1,hx.ap.2,aJ,hb,e3];rfl
theorem aM.mb(so:aM C s):MB s.marks:=λm hm=>by
 have ok:=aA.ok so.con;obtain⟨i,hi⟩:=List.getElem?_of_mem hm;have hil:=(List.getElem?_eq_some_iff.1 hi).1;have hic:i<C.clauses.length:=by have:=so.lm;omega
 have hk:C.clauses[i]?=some C.clauses[i]:=List.getElem?_eq_some_iff.2 ⟨hic,rfl⟩;have xI:=ok.clause hk;have h1:=so.marks i m _ hi hk;have h2:=bM.got xI h1;have h3: -1000<=m.left/\m.left<=1000:=by
  have:=xI.Mk;have:=xI.Ml;rcases h1 with e|e|e
  .omega
  .rcases e with⟨e1|e1,e2,e3,_⟩<;>omega
  .omega
 omega
theorem uD(K:Nat)(hC:aY h n v C)(ho:C.off.length<=1000000)(hS:bX h n tv s)(t:Int)
 (lK:(C.dQ s=false\/t< -1\/C.acts.length<=t)->∀h' n',Up h n h' n'->Q (.bQ [Sj,.i .i64 1]) h' n')
 (uS:C.dQ s=true-> -1<=t->t<C.acts.length->s.day=C.days->∀h' n',Up h n h' n'->Q (.bQ [Sj,.i .i64 13]) h' n')
 (KN:C.dQ s=true-> -1<=t->t<C.acts.length->s.day<C.days->∀tv h' n',Up h n h' n'->Kp (λx=>x<n) h' n' (λh n=>bX h n tv (C.aZ s t))->Q (.bQ [.agg (tv.av (C.aZ s t)),.i .i64 0]) h' n'):CW (EF (K+8)) 18 [.agg (v.av C),.agg (tv.av s),.i .i64 t] h n Q:=by
 refine aD c18 rfl ?_;repeat' (first|(simp (disch:=omega) only[go_sem,simprocAttr,ub.old,m18,CS.av,TS.av,hC.acts.len,hS.ah.len,hS.used.len,hS.marks.len])|(simp (disch:=omega) only[go_sem,simprocAttr,m18,CS.av,TS.av,hC.acts.len,hS.ah.len,hS.used.len,hS.marks.len])|((first|rw[aU]|rw[bR]);with_reducible refine gQ _ (hC.up aI) ho (hS.up aI) λh2 n2 u2=>?_;(first|replace ub:=Up.trans ub (Up.trans aI u2)|have ub:=u2);have hle:=ub.le;clear u2)|(refine aT ?_ ?_<;>(intro hb hd;rw[hb];clear hb))|(with_reducible refine aj ?_))
 .exact lK (.inl hd) _ _ aI
 .exact lK (.inr (.inl hd)) _ _ aI
 .exact lK (.inr (.inr hd)) _ _ aI
 .exact uS ‹_› (by omega) (by omega) hd _ _ aI
 .rename_i hst h1 h2
  have so:=(dP C s).1 hst;have ok:=aA.ok so.con;have DZ:=ok.dL;have aeK:=ok.jY;have ala:=ok.lG;have lh:=so.lh;have lu:=so.lu;have lm:=so.lm;have w_:s.day<C.days:=by have:=so.Fy;omega
  repeat' (first|(simp (disch:=omega) only[go_sem,simprocAttr,ub.old,hS.ah.len,hS.used.len,hS.marks.len])|(simp (disch:=omega) only[go_sem,simprocAttr,hS.ah.len,hS.used.len,hS.marks.len])|(refine aT ?_ ?_<;>(intro hb hd;rw[hb];clear hb))|(with_reducible refine aj ?_))
  generalize hh:Tr.set (Tr.set (Tr.set (Tr.set _ n2 _) (n2+1) _) (n2+2) _) (n2+3) _=h4;have ux:Up h n h4 (n2+5):=by rw[<-hh];exact aI
  have hf1:h4.get n=some (.row 27 (v.av C)):=by rw[<-hh];simp (disch:=omega) only[go_sem,ub.old]
  have hf2:h4.get (n+1)=some (.row 43 (tv.av s)):=by rw[<-hh];simp (disch:=omega) only[go_sem,ub.old]
  have hf3:h4.get (n+1+1)=some (.row 43 [.i .i64 0,.k 1,.k 1,.k 1]):=by rw[<-hh];simp (disch:=omega) only[go_sem,ub.old]
  have r0:h4.get (n2+3)=some (.row 142 [.i .i64 C.aC,v.h,v.u,v.a,v.k,.i .i64 C.days,v.o,.i .i64 s.day,.sl n2 0 0 s.ah.length (some s.ah.length),.sl (n2+1) 0 0 s.used.length (some s.used.length),.sl (n2+2) 0 0 s.marks.length (some s.marks.length)]):=by rw[<-hh];simp (disch:=omega) only[go_sem]
  have r1:h4.get n2=some (.row 3 (rep s.ah.length (ci 0))):=by rw[<-hh];simp (disch:=omega) only[go_sem]
  have r2:h4.get (n2+1)=some (.row 4 (rep s.used.length (cb false))):=by rw[<-hh];simp (disch:=omega) only[go_sem]
  have r3:h4.get (n2+2)=some (.row 144 (rep s.marks.length (au.av ⟨0,0,0,0,false⟩))):=by rw[<-hh];simp (disch:=omega) only[go_sem]
  have kc:Kp (λx=>n+1+1+1<=x) h4 (n2+5) λh n=>aY h n v C:=by
   rw[<-hh];refine(((((Kp.Jv (n:=n+1+1+1) (λh' n' u=>hC.up (Up.trans ?_ u)) (λx hx=>hx)).up ub).set (.inl ?_) (Nat.le_refl _)).set (.inl ?_) (Nat.le_refl _)).set (.inl ?_) (Nat.le_refl _)).set (.inl ?_) ?_
   .exact aI
   all_goals first|omega|(show n+1+1+1<=_;omega)
  have c1:qU 1 h4 (n2+5) (.sl n2 0 0 s.ah.length (some s.ah.length)) tv.h= .ok (.i .i64 (s.ah.length:Nat)) (h4.set n2 (.row 3 (s.ah.flatMap ci))) (n2+5):=zq r1 (by rw[jk ci];rw[bJ (c:=ci) (w:=1) (λ_=>rfl)];simp) (hS.ah.up ux);have u5:Up h n (h4.set n2 (.row 3 (s.ah.flatMap ci))) (n2+5):=by exact aI
  have c2:qU 1 (h4.set n2 (.row 3 (s.ah.flatMap ci))) (n2+5) (.sl (n2+1) 0 0 s.used.length (some s.used.length)) tv.u= .ok (.i .i64 (s.used.length:Nat)) ((h4.set n2 (.row 3 (s.ah.flatMap ci))).set (n2+1) (.row 4 (s.used.flatMap cb))) (n2+5):=zq (by rw[ay (by omega)];exact r2) (by rw[jk cb];rw[bJ (c:=cb) (w:=1) (λ_=>rfl)];simp) (hS.used.up u5);have u6:Up h n ((h4.set n2 (.row 3 (s.ah.flatMap ci))).set (n2+1) (.row 4 (s.used.flatMap cb))) (n2+5):=by exact aI
  have c3:qU 5 ((h4.set n2 (.row 3 (s.ah.flatMap ci))).set (n2+1) (.row 4 (s.used.flatMap cb))) (n2+5) (.sl (n2+2) 0 0 s.marks.length (some s.marks.length)) tv.m= .ok (.i .i64 (s.marks.length:Nat)) (((h4.set n2 (.row 3 (s.ah.flatMap ci))).set (n2+1) (.row 4 (s.used.flatMap cb))).set (n2+2) (.row 144 (s.marks.flatMap au.av))) (n2+5):=zq (by rw[ay (by omega),ay (by omega)];exact r3) (by rw[jk au.av];rw[bJ (c:=au.av) (w:=5) (λ_=>rfl)];simp) (hS.marks.up u6);have hle:n+1+1+1<=n2:=by omega
  clear hh ub;repeat' (first|(simp (disch:=omega) only[go_sem,simprocAttr,ub.old,c1,c2,c3,r0,hf1,hf2,hf3,TS.av])|(simp (disch:=omega) only[go_sem,simprocAttr,c1,c2,c3,r0,hf1,hf2,hf3,TS.av])|(refine aT ?_ ?_<;>(intro hb hd;rw[hb];clear hb))|(with_reducible refine aj ?_))
  all_goals
   generalize hh7:Tr.set (Tr.set (Tr.set h4 n2 _) (n2+1) _) (n2+2) _=h7;have u7:Up h n h7 (n2+5):=by rw[<-hh7];exact aI
   have q3:h7.get (n+1+1)=some (.row 43 [.i .i64 0,.k 1,.k 1,.k 1]):=by rw[<-hh7];simp (disch:=omega) only[go_sem,hf3]
   obtain⟨b,UK,hbg,hbX,w7⟩:∃b:WB,b.B=n+1+1+1/\b.g=n2+3/\(∀x,b.X x->n+1+1+1<=x)/\Wk h7 (n2+5) b v C s:=by
    rw[<-hh7];refine⟨⟨n+1+1+1,n2+3,n2,n2+1,n2+2,some s.ah.length,some s.used.length,some s.marks.length⟩,rfl,rfl,?_,?_,?_,?_,?_,by show n2+3<n2+5;omega,by show n2<n2+5;omega,by show n2+1<n2+5;omega,by show n2+2<n2+5;omega,λk hk=>(by cases hk;exact Nat.le_refl _),λk hk=>(by cases hk;exact Nat.le_refl _),λk hk=>(by cases hk;exact Nat.le_refl _),⟨by show n+1+1+1<=n2+3;omega,by show n+1+1+1<=n2;omega,by show n+1+1+1<=n2+1;omega,by show n+1+1+1<=n2+2;omega⟩,?_⟩
    .rintro x (e|e|e|e)
     .have:x=n2+3:=e;omega
     .have:x=n2:=e;omega
     .have:x=n2+1:=e;omega
     .have:x=n2+2:=e;omega
    .simp (disch:=omega) only[go_sem,r0]
    .simp (disch:=omega) only[go_sem]
    .simp (disch:=omega) only[go_sem]
    .simp (disch:=omega) only[go_sem]
    .exact((kc.set (.inl (by show n+1+1+1<=_;omega)) (Nat.le_refl _)).set (.inl (by show n+1+1+1<=_;omega)) (Nat.le_refl _)).set (.inl (by show n+1+1+1<=_;omega)) (Nat.le_refl _)
   clear hh7 c1 c2 c3 r0 r1 r2 r3 kc hf1 hf2 hf3 u5 u6;rw[<-hbg]
  .rw[aU]
   refine Qh _ w7 ok ho lm lh so.mb (by have:=so.Fx;have:=so.Fy;have:=ok.RZ;omega) λh8 n8 w8 u8=>?_;have p3:=(u8.old (n+1+1) (by omega) (λe=>by have:=hbX _ e;omega)).trans q3;repeat' (first|(simp (disch:=omega) only[go_sem,simprocAttr,ub.old,p3,w8.row,WB.cells])|(simp (disch:=omega) only[go_sem,simprocAttr,p3,w8.row,WB.cells])|(refine aT ?_ ?_<;>(intro hb hd;rw[hb];clear hb))|(with_reducible refine aj ?_))
   have hst':C.aZ s t=C.tick s:=by unfold aA.aZ;rw[if_pos hd]
   have res:=KN hst (by omega) (by omega) w_ (b.tv (C.tick s));rw[hst']at res;refine res _ _ ?_ ?_
   .have:=((UX.up u7).trans u8).UH λx hx=>by have:=hbX x hx;omega
    exact aI
   .exact(w8.MP.set (.inl (by rw[UK];omega)) (Nat.le_refl _)).le λx _ hx=>by rw[UK];omega
  .rw[aU]
   obtain⟨i,rfl⟩:=Int.eq_ofNat_of_zero_le (show 0<=t by omega);obtain⟨a,ha⟩:∃a,C.acts[i]?=some a:=⟨C.acts[i]'(by omega),List.getElem?_eq_some_iff.2 ⟨by omega,rfl⟩⟩;refine MN _ w7 ok lm lh lu so.mb ha λh8 n8 w8 u8=>?_;have p3:=(u8.old (n+1+1) (by omega) (λe=>by have:=hbX _ e;omega)).trans q3;repeat' (first|(simp (disch:=omega) only[go_sem,simprocAttr,ub.old,p3,w8.row,WB.cells])|(simp (disch:=omega) only[go_sem,simprocAttr,p3,w8.row,WB.cells])|(refine aT ?_ ?_<;>(intro hb hd;rw[hb];clear hb))|(with_reducible refine aj ?_))
   have hst':C.aZ s (i:Nat)=C.act i a s:=by unfold aA.aZ;rw[if_neg hd,show((i:Nat):Int).toNat=i by omega,ha]
   have res:=KN hst (by omega) (by omega) w_ (b.tv (C.act i a s));rw[hst']at res;refine res _ _ ?_ ?_
   .have:=((UX.up u7).trans u8).UH λx hx=>by have:=hbX x hx;omega
    exact aI
   .exact(w8.MP.set (.inl (by rw[UK];omega)) (Nat.le_refl _)).le λx _ hx=>by rw[UK];omega
end
end
end
section
noncomputable section
set_option maxRecDepth 1000000
set_option maxHeartbeats 4000000
def zY:List UInt8:=[48,48,48,49,48,50,48,51,48,52,48,53,48,54,48,55,48,56,48,57,49,48,49,49,49,50,49,51,49,52,49,53,49,54,49,55,49,56,49,57,50,48,50,49,50,50,50,51,50,52,50,53,50,54,50,55,50,56,50,57,51,48,51,49,51,50,51,51,51,52,51,53,51,54,51,55,51,56,51,57,52,48,52,49,52,50,52,51,52,52,52,53,52,54,52,55,52,56,52,57,53,48,53,49,53,50,53,51,53,52,53,53,53,54,53,55,53,56,53,57,54,48,54,49,54,50,54,51,54,52,54,53,54,54,54,55,54,56,54,57,55,48,55,49,55,50,55,51,55,52,55,53,55,54,55,55,55,56,55,57,56,48,56,49,56,50,56,51,56,52,56,53,56,54,56,55,56,56,56,57,57,48,57,49,57,50,57,51,57,52,57,53,57,54,57,55,57,56,57,57]
def FX:MC:=(.seq (.reg [nl (.mv (.s 49)),nl (.jc 7 (.s 47) (.s 49)),nl (.ld (some 7) (.v 0)),nk 8 (.al 169 [(.i .i64 0),(.i .i64 0),(.i .i64 0),(.i .i64 0),(.i .i64 0),(.i .i64 0),(.i .i64 0)]),nk 7 (.mv (.v 2)),⟨none,(.st 7 (.s 8) (.v 0)),.n⟩]) (.seq (.reg [nk 9 (.mv (.c (.i .i64 (.negSucc 0))))]) (.seq (.seq (.reg [nl (.fa 1 (.s 8)),nl (.ld none (.v 0)),nk 56 (.bin .neq 3 (.v 0) (.c (.i .i64 (.negSucc 0))))]) (.cond (.s 56) (.reg [nl (.fa 0 (.s 1)),nl (.fa 1 (.v 0)),nl (.ld none (.v 0)),nl (.fa 1 (.s 8)),nl (.ld none (.v 0)),nl (.jc 1 (.v 2) (.v 0)),nl (.ld none (.v 0)),nk 9 (.mv (.v 0))]) .skip)) (.seq (.seq (.reg [nl (.mv (.s 9)),nl (.ld none (.s 3)),nl (.bin .eql 3 (.v 1) (.v 0)),nl (.fa 4 (.s 1)),nl (.ld none (.v 0)),nk 69 (.bin .neq 4 (.v 2) (.v 0))]) (.cond (.s 69) (.exit 1) .skip)) (.seq (.reg [nl (.ld (some 7) (.s 2)),nl (.fa 0 (.s 1)),nl (.ld (some 4) (.v 0)),nl (.mv (.s 7)),nl (.call (.c (.f 18 [])) [(.v 3),(.v 1),(.v 0)]),nl (.mv (.v 0)),nl (.ext (.v 0) 0),nl (.ext (.v 1) 1),nk 10 (.al 43 [(.i .i64 0),(.k 1),(.k 1),(.k 1)]),⟨none,(.st 4 (.s 10) (.v 1)),.n⟩,nl (.mv (.v 0))]) (.seq (.reg [nl (.ld (some 4) (.s 10)),nl (.fa 0 (.s 1)),nl (.ld (some 4) (.v 0)),nl (.call (.c (.f 234 [])) [(.v 2),(.v 0)]),nl (.not (.v 0)),nl (.mv (.v 0)),ng 0 true (.mv (.s 0)),ng 1 true (.mv (.s 7)),ng 2 true (.ld (some 4) (.s 10)),ng 3 true (.Hz [(.i .i64 0),(.k 1),(.k 1),(.k 1),(.b false)] [(0,(4,(.v 0))),(4,(1,(.c (.b true))))]),ng 4 true (.call (.v 3) [(.v 2),(.v 0)]),ng 5 true (.not (.v 0)),nk 90 (.pick (.v 6) (.v 0) (.c (.b false)))]) (.cond (.s 90) .ret .skip)))))))
def UL:MC:=(.seq (.seq (.reg [nl (.fa 4 (.s 1)),nl (.ld none (.v 0)),nl (.mv (.v 0)),ng 0 true (.mv (.s 0)),ng 1 true (.fa 0 (.s 1)),ng 2 true (.ld (some 4) (.v 0)),ng 3 true (.call (.c (.f 134 [])) [(.v 0)]),ng 4 true (.Hz [(.i .i64 0),(.k 1),(.k 1),(.k 1),(.b false)] [(0,(4,(.v 0)))]),ng 5 true (.call (.v 4) [(.c (.i .i64 (.negSucc 1))),(.v 0)]),ng 6 true (.not (.v 0)),nl (.pick (.v 7) (.v 0) (.c (.b false))),nl (.mv (.v 0)),ng 0 false (.fa 0 (.s 1)),ng 1 false (.fa 0 (.v 0)),ng 2 false (.ld none (.v 0)),ng 3 false (.fa 5 (.s 2)),ng 4 false (.ld none (.v 0)),ng 5 false (.bin .geq 3 (.v 2) (.v 0)),nk 30 (.pick (.v 6) (.c (.b true)) (.v 0))]) (.cond (.s 30) .ret .skip)) (.seq (.seq (.reg [nl (.fa 4 (.s 1)),nl (.ld none (.v 0)),nk 33 (.not (.v 0))]) (.cond (.s 33) (.seq (.reg [nl (.ld (some 7) (.s 2)),nl (.fa 0 (.s 1)),nl (.ld (some 4) (.v 0)),nl (.call (.c (.f 18 [])) [(.v 2),(.v 0),(.c (.i .i64 (.negSucc 0)))]),nl (.mv (.v 0)),nl (.ext (.v 0) 0),nl (.ext (.v 1) 1),nk 5 (.al 43 [(.i .i64 0),(.k 1),(.k 1),(.k 1)]),⟨none,(.st 4 (.s 5) (.v 1)),.n⟩,nl (.mv (.v 0))]) (.seq (.reg [nl (.mv (.s 0)),nl (.ld (some 4) (.s 5)),nl (.Hz [(.i .i64 0),(.k 1),(.k 1),(.k 1),(.b false)] [(0,(4,(.v 0))),(4,(1,(.c (.b true))))]),nl (.call (.v 2) [(.c (.i .i64 (.negSucc 0))),(.v 0)]),nk 45 (.not (.v 0))]) (.cond (.s 45) .ret .skip))) .skip)) (.seq (.reg [nl (.fa 3 (.s 2)),nk 47 (.ld none (.v 0)),nk 48 (.iE (.s 47)),nk 49 (.mv (.c (.i .i64 0)))]) (.blk 0 (zW 3 49 48 50 0 1 FX)))))
theorem c233:yC Tryz.prog sl0 233=some ([true,true,true,true],UL,[]):=by kernel_rfl
def MU:MC:=(.seq (.reg [nl (.jc 5 (.s 56) (.s 58)),nl (.ld (some 5) (.v 0)),nk 11 (.al 144 [(.i .i64 0),(.i .i64 0),(.i .i64 0),(.i .i64 0),(.b false)]),⟨none,(.st 5 (.s 11) (.v 0)),.n⟩]) (.seq (.reg [nl (.mv (.s 4)),nl (.fa 0 (.s 11)),nl (.ld none (.v 0)),nl (.call (.v 2) [(.v 0)])]) (.seq (.reg [nl (.mv (.s 4)),nl (.fa 1 (.s 11)),nl (.ld none (.v 0)),nl (.call (.v 2) [(.v 0)])]) (.seq (.reg [nl (.mv (.s 4)),nl (.fa 2 (.s 11)),nl (.ld none (.v 0)),nl (.call (.v 2) [(.v 0)])]) (.seq (.reg [nl (.mv (.s 4)),nl (.fa 3 (.s 11)),nl (.ld none (.v 0)),nl (.call (.v 2) [(.v 0)])]) (.reg [nl (.mv (.s 5)),nl (.fa 4 (.s 11)),nl (.ld none (.v 0)),nl (.call (.v 2) [(.v 0)])]))))))
def MV:MC:=(.seq (.reg [nl (.jc 1 (.s 44) (.s 46)),nl (.ld none (.v 0)),nk 9 (.mv (.v 0))]) (.reg [nl (.mv (.s 5)),nl (.mv (.s 9)),nl (.call (.v 1) [(.v 0)])]))
def MW:MC:=(.seq (.reg [nl (.jc 1 (.s 32) (.s 34)),nl (.ld none (.v 0)),nk 7 (.mv (.v 0))]) (.reg [nl (.mv (.s 4)),nl (.mv (.s 7)),nl (.call (.v 1) [(.v 0)])]))
def mTx(a b:FuncId):MC:=(.seq (.reg [nk 1 (.box 45 5 (.s 0)),nk 2 (.mv (.c (.s [])))]) (.seq (.reg [nl (.fa 0 (.s 1)),nl (.fa 3 (.v 0)),nl (.ld none (.v 0)),nl (.iE (.v 0)),nl (.bin .mul 3 (.c (.i .i64 12)) (.v 0)),nl (.bin .add 3 (.c (.i .i64 32)) (.v 0)),nl (.Jh 5 [(.i .u8 0)] (.c (.i .i64 0)) (.v 0)),nk 3 (.al 306 [(.k 1)]),⟨none,(.st 1 (.s 3) (.v 0)),.n⟩]) (.seq (.reg [nl (.HV a [(.s 3)]),nk 4 (.mv (.v 0))]) (.seq (.reg [nl (.HV b [(.s 3)]),nk 5 (.mv (.v 0))]) (.seq (.reg [nl (.mv (.s 5)),nl (.fa 4 (.s 1)),nl (.ld none (.v 0)),nl (.call (.v 2) [(.v 0)])]) (.seq (.reg [nl (.mv (.s 4)),nl (.fa 0 (.s 1)),nl (.fa 0 (.v 0)),nl (.ld none (.v 0)),nl (.call (.v 3) [(.v 0)])]) (.seq (.seq (.reg [nl (.fa 0 (.s 1)),nl (.fa 1 (.v 0)),nk 32 (.ld none (.v 0)),nk 33 (.iE (.s 32)),nk 34 (.mv (.c (.i .i64 0)))]) (.blk 0 (zW 3 34 33 35 0 1 MW))) (.seq (.seq (.reg [nl (.fa 0 (.s 1)),nl (.fa 2 (.v 0)),nk 44 (.ld none (.v 0)),nk 45 (.iE (.s 44)),nk 46 (.mv (.c (.i .i64 0)))]) (.blk 2 (zW 3 46 45 47 2 3 MV))) (.seq (.seq (.reg [nl (.fa 0 (.s 1)),nl (.fa 3 (.v 0)),nk 56 (.ld none (.v 0)),nk 57 (.iE (.s 56)),nk 58 (.mv (.c (.i .i64 0)))]) (.blk 4 (zW 3 58 57 59 4 5 MU))) (.seq (.reg [nl (.ld none (.s 3)),nl (.KI (.v 0)),nk 2 (.mv (.v 0))]) .ret))))))))))
theorem aeQ:yC Tryz.prog sl0 135=some ([true],mTx 231 232,[(.t 2)]):=by kernel_rfl
def UM:MC:=(.seq (.reg [nk 2 (.mv (.c (.s [])))]) (.seq (.seq (.reg [nl (.mv (.s 0)),nk 4 (.bin .lss 3 (.v 0) (.c (.i .i64 10)))]) (.cond (.s 4) (.seq (.reg [nl (.mv (.s 0)),nl (.mv (.s 0)),nl (.bin .add 3 (.v 0) (.c (.i .i64 1))),nl (.Oz (.c (.s [48,49,50,51,52,53,54,55,56,57,97,98,99,100,101,102,103,104,105,106,107,108,109,110,111,112,113,114,115,116,117,118,119,120,121,122])) (some (.v 2)) (some (.v 0))),nk 2 (.mv (.v 0))]) .ret) .skip)) (.seq (.reg [nl (.mv (.s 0)),nl (.bin .mul 3 (.v 0) (.c (.i .i64 2))),nl (.mv (.s 0)),nl (.bin .mul 3 (.v 0) (.c (.i .i64 2))),nl (.bin .add 3 (.v 0) (.c (.i .i64 2))),nl (.Oz (.c (.s zY)) (some (.v 3)) (some (.v 0))),nk 2 (.mv (.v 0))]) .ret)))
theorem aeR:yC Tryz.prog sl0 286=some ([true],UM,[(.t 2)]):=by kernel_rfl
def FY:MC:=(.seq (.seq (.reg [nl (.mv (.s 4)),nk 20 (.bin .geq 3 (.v 0) (.c (.i .i64 8)))]) (.cond (.s 20) .skip (.exit 0))) (.blk 1 (.seq (.reg [nl (.mv (.s 1)),nl (.bin .rem 338 (.v 0) (.c (.i .u64 100000000))),nl (.Lx .u32 (.v 0)),nk 5 (.mv (.v 0))]) (.seq (.reg [nl (.mv (.s 1)),nl (.bin .quo 338 (.v 0) (.c (.i .u64 100000000))),nk 1 (.mv (.v 0))]) (.seq (.reg [nl (.mv (.s 5)),nl (.bin .quo 336 (.v 0) (.c (.i .u32 10000))),nl (.mv (.s 5)),nl (.bin .rem 336 (.v 0) (.c (.i .u32 10000))),nk 6 (.mv (.v 2)),nk 7 (.mv (.v 0))]) (.seq (.reg [nl (.mv (.s 7)),nl (.bin .quo 336 (.v 0) (.c (.i .u32 100))),nl (.bin .mul 336 (.v 0) (.c (.i .u32 2))),nl (.mv (.s 7)),nl (.bin .rem 336 (.v 0) (.c (.i .u32 100))),nl (.bin .mul 336 (.v 0) (.c (.i .u32 2))),nk 8 (.mv (.v 3)),nk 9 (.mv (.v 0))]) (.seq (.reg [nl (.mv (.s 6)),nl (.bin .quo 336 (.v 0) (.c (.i .u32 100))),nl (.bin .mul 336 (.v 0) (.c (.i .u32 2))),nl (.mv (.s 6)),nl (.bin .rem 336 (.v 0) (.c (.i .u32 100))),nl (.bin .mul 336 (.v 0) (.c (.i .u32 2))),nk 10 (.mv (.v 3)),nk 11 (.mv (.v 0))]) (.seq (.Aj 0 [mq 0 [] (.mv (.s 0)),mq 0 [] (.mv (.s 4)),mq 0 [1] (.bin .sub 3 (.v 0) (.c (.i .i64 1))),mq 0 [] (.mv (.s 0)),mq 0 [] (.mv (.s 4)),mq 0 [4] (.bin .sub 3 (.v 0) (.c (.i .i64 2))),mq 0 [] (.mv (.s 9)),mq 0 [6] (.bin .add 336 (.v 0) (.c (.i .u32 1))),mq 0 [7] (.zJ (.c (.s zY)) (.v 0)),mq 0 [] (.mv (.s 9)),mq 0 [9] (.zJ (.c (.s zY)) (.v 0)),mq 0 [0,2] (.jc 1 (.v 0) (.v 1)),mq 3 [8,11] (.st 1 (.v 1) (.v 0)),mq 0 [3,5] (.jc 1 (.v 0) (.v 1)),mq 3 [10,13] (.st 1 (.v 1) (.v 0))] [] []) (.seq (.Aj 0 [mq 0 [] (.mv (.s 0)),mq 0 [] (.mv (.s 4)),mq 0 [1] (.bin .sub 3 (.v 0) (.c (.i .i64 3))),mq 0 [] (.mv (.s 0)),mq 0 [] (.mv (.s 4)),mq 0 [4] (.bin .sub 3 (.v 0) (.c (.i .i64 4))),mq 0 [] (.mv (.s 8)),mq 0 [6] (.bin .add 336 (.v 0) (.c (.i .u32 1))),mq 0 [7] (.zJ (.c (.s zY)) (.v 0)),mq 0 [] (.mv (.s 8)),mq 0 [9] (.zJ (.c (.s zY)) (.v 0)),mq 0 [0,2] (.jc 1 (.v 0) (.v 1)),mq 3 [8,11] (.st 1 (.v 1) (.v 0)),mq 0 [3,5] (.jc 1 (.v 0) (.v 1)),mq 3 [10,13] (.st 1 (.v 1) (.v 0))] [] []) (.seq (.Aj 0 [mq 0 [] (.mv (.s 0)),mq 0 [] (.mv (.s 4)),mq 0 [1] (.bin .sub 3 (.v 0) (.c (.i .i64 5))),mq 0 [] (.mv (.s 0)),mq 0 [] (.mv (.s 4)),mq 0 [4] (.bin .sub 3 (.v 0) (.c (.i .i64 6))),mq 0 [] (.mv (.s 11)),mq 0 [6] (.bin .add 336 (.v 0) (.c (.i .u32 1))),mq 0 [7] (.zJ (.c (.s zY)) (.v 0)),mq 0 [] (.mv (.s 11)),mq 0 [9] (.zJ (.c (.s zY)) (.v 0)),mq 0 [0,2] (.jc 1 (.v 0) (.v 1)),mq 3 [8,11] (.st 1 (.v 1) (.v 0)),mq 0 [3,5] (.jc 1 (.v 0) (.v 1)),mq 3 [10,13] (.st 1 (.v 1) (.v 0))] [] []) (.seq (.Aj 0 [mq 0 [] (.mv (.s 0)),mq 0 [] (.mv (.s 4)),mq 0 [1] (.bin .sub 3 (.v 0) (.c (.i .i64 7))),mq 0 [] (.mv (.s 0)),mq 0 [] (.mv (.s 4)),mq 0 [4] (.bin .sub 3 (.v 0) (.c (.i .i64 8))),mq 0 [] (.mv (.s 10)),mq 0 [6] (.bin .add 336 (.v 0) (.c (.i .u32 1))),mq 0 [7] (.zJ (.c (.s zY)) (.v 0)),mq 0 [] (.mv (.s 10)),mq 0 [9] (.zJ (.c (.s zY)) (.v 0)),mq 0 [0,2] (.jc 1 (.v 0) (.v 1)),mq 3 [8,11] (.st 1 (.v 1) (.v 0)),mq 0 [3,5] (.jc 1 (.v 0) (.v 1)),mq 3 [10,13] (.st 1 (.v 1) (.v 0))] [] []) (.reg [nl (.mv (.s 4)),nl (.bin .sub 3 (.v 0) (.c (.i .i64 8))),nk 4 (.mv (.v 0))]))))))))))))
def UN:MC:=(.seq (.reg [nl (.mv (.s 0)),nl (.iE (.v 0)),nk 4 (.mv (.v 0))]) (.seq (.blk 0 (.loop FY)) (.seq (.reg [nl (.mv (.s 1)),nl (.Lx .u32 (.v 0)),nk 12 (.mv (.v 0))]) (.seq (.seq (.reg [nl (.mv (.s 4)),nk 99 (.bin .geq 3 (.v 0) (.c (.i .i64 4)))]) (.cond (.s 99) (.seq (.reg [nl (.mv (.s 12)),nl (.bin .rem 336 (.v 0) (.c (.i .u32 10000))),nk 13 (.mv (.v 0))]) (.seq (.reg [nl (.mv (.s 12)),nl (.bin .quo 336 (.v 0) (.c (.i .u32 10000))),nk 12 (.mv (.v 0))]) (.seq (.reg [nl (.mv (.s 13)),nl (.bin .quo 336 (.v 0) (.c (.i .u32 100))),nl (.bin .mul 336 (.v 0) (.c (.i .u32 2))),nl (.mv (.s 13)),nl (.bin .rem 336 (.v 0) (.c (.i .u32 100))),nl (.bin .mul 336 (.v 0) (.c (.i .u32 2))),nk 14 (.mv (.v 3)),nk 15 (.mv (.v 0))]) (.seq (.Aj 0 [mq 0 [] (.mv (.s 0)),mq 0 [] (.mv (.s 4)),mq 0 [1] (.bin .sub 3 (.v 0) (.c (.i .i64 1))),mq 0 [] (.mv (.s 0)),mq 0 [] (.mv (.s 4)),mq 0 [4] (.bin .sub 3 (.v 0) (.c (.i .i64 2))),mq 0 [] (.mv (.s 15)),mq 0 [6] (.bin .add 336 (.v 0) (.c (.i .u32 1))),mq 0 [7] (.zJ (.c (.s zY)) (.v 0)),mq 0 [] (.mv (.s 15)),mq 0 [9] (.zJ (.c (.s zY)) (.v 0)),mq 0 [0,2] (.jc 1 (.v 0) (.v 1)),mq 3 [8,11] (.st 1 (.v 1) (.v 0)),mq 0 [3,5] (.jc 1 (.v 0) (.v 1)),mq 3 [10,13] (.st 1 (.v 1) (.v 0))] [] []) (.seq (.Aj 0 [mq 0 [] (.mv (.s 0)),mq 0 [] (.mv (.s 4)),mq 0 [1] (.bin .sub 3 (.v 0) (.c (.i .i64 3))),mq 0 [] (.mv (.s 0)),mq 0 [] (.mv (.s 4)),mq 0 [4] (.bin .sub 3 (.v 0) (.c (.i .i64 4))),mq 0 [] (.mv (.s 14)),mq 0 [6] (.bin .add 336 (.v 0) (.c (.i .u32 1))),mq 0 [7] (.zJ (.c (.s zY)) (.v 0)),mq 0 [] (.mv (.s 14)),mq 0 [9] (.zJ (.c (.s zY)) (.v 0)),mq 0 [0,2] (.jc 1 (.v 0) (.v 1)),mq 3 [8,11] (.st 1 (.v 1) (.v 0)),mq 0 [3,5] (.jc 1 (.v 0) (.v 1)),mq 3 [10,13] (.st 1 (.v 1) (.v 0))] [] []) (.reg [nl (.mv (.s 4)),nl (.bin .sub 3 (.v 0) (.c (.i .i64 4))),nk 4 (.mv (.v 0))])))))) .skip)) (.seq (.seq (.reg [nl (.mv (.s 4)),nk 139 (.bin .geq 3 (.v 0) (.c (.i .i64 2)))]) (.cond (.s 139) (.seq (.reg [nl (.mv (.s 12)),nl (.bin .rem 336 (.v 0) (.c (.i .u32 100))),nl (.bin .mul 336 (.v 0) (.c (.i .u32 2))),nk 16 (.mv (.v 0))]) (.seq (.reg [nl (.mv (.s 12)),nl (.bin .quo 336 (.v 0) (.c (.i .u32 100))),nk 12 (.mv (.v 0))]) (.seq (.Aj 0 [mq 0 [] (.mv (.s 0)),mq 0 [] (.mv (.s 4)),mq 0 [1] (.bin .sub 3 (.v 0) (.c (.i .i64 1))),mq 0 [] (.mv (.s 0)),mq 0 [] (.mv (.s 4)),mq 0 [4] (.bin .sub 3 (.v 0) (.c (.i .i64 2))),mq 0 [] (.mv (.s 16)),mq 0 [6] (.bin .add 336 (.v 0) (.c (.i .u32 1))),mq 0 [7] (.zJ (.c (.s zY)) (.v 0)),mq 0 [] (.mv (.s 16)),mq 0 [9] (.zJ (.c (.s zY)) (.v 0)),mq 0 [0,2] (.jc 1 (.v 0) (.v 1)),mq 3 [8,11] (.st 1 (.v 1) (.v 0)),mq 0 [3,5] (.jc 1 (.v 0) (.v 1)),mq 3 [10,13] (.st 1 (.v 1) (.v 0))] [] []) (.reg [nl (.mv (.s 4)),nl (.bin .sub 3 (.v 0) (.c (.i .i64 2))),nk 4 (.mv (.v 0))])))) .skip)) (.seq (.reg [nl (.mv (.s 4)),nk 161 (.bin .gtr 3 (.v 0) (.c (.i .i64 0)))]) (.cond (.s 161) (.reg [nl (.mv (.s 0)),nl (.mv (.s 12)),nl (.bin .add 336 (.c (.i .u32 48)) (.v 0)),nl (.Lx .u8 (.v 0)),nl (.jc 1 (.v 3) (.c (.i .i64 0))),⟨none,(.st 1 (.v 0) (.v 1)),.n⟩]) .skip)))))))
theorem Y6:yC Tryz.prog sl0 288=some ([true,true],UN,[]):=by kernel_rfl
def Y7:MC:=vF 136
def aeS:=vT 136 Y7
def UO:MC:=vF 134
def aeT:=vT 134 UO
def UQ:MC:=vF 133
def aeU:=vT 133 UQ
def m74:MC:=vF 74
def c74:=vT 74 m74
def MX:MC:=vB 74 (jE 74 0)
def UR:=vU 74 (jE 74 0) MX
def FZ:MC:=vB 74 (jF 74 0)
def UU:=vU 74 (jF 74 0) FZ
def Ql:MC:=vF 231
def aeW:=vT 231 Ql
def MZ:MC:=vF 232
def c232:=vT 232 MZ
def Y8:MC:=vF 160
def c160:=vT 160 Y8
def UW:MC:=vF 250
def aeX:=vT 250 UW
def F6:MC:=vF 282
def aeY:=vT 282 F6
def UY:MC:=vF 254
def aeZ:=vT 254 UY
def Y9:MC:=vF 191
def ae0:=vT 191 Y9
def Y_:MC:=vF 117
def c117:=vT 117 Y_
end
end
section
noncomputable section
def dg(k:Nat):UInt8:=UInt8.ofNat (48+k)
def dec(u:Nat):List UInt8:=if u<10 then[dg u]else if u<100 then[dg (u/10),dg (u % 10)]else if u<1000 then[dg (u/100),dg (u/10 % 10),dg (u % 10)]else[dg (u/1000),dg (u/100 % 10),dg (u/10 % 10),dg (u % 10)]
def tn(x:Int):List UInt8:=if x<0 then 45::dec x.natAbs else dec x.toNat
theorem Sk{v:AV}{l:List UInt8}(h:IW v (.s l)=true):v= .s l:=yu _ _ h
def UZ:List UInt8:=[48,49,50,51,52,53,54,55,56,57,97,98,99,100,101,102,103,104,105,106,107,108,109,110,111,112,113,114,115,116,117,118,119,120,121,122]
theorem F7{f:Nat->Bool}{n:Nat}(h:(List.range n).all f=true){k:Nat}(hk:k<n):f k=true:=List.all_eq_true.1 h k (List.mem_range.2 hk)
theorem Qm:(List.range 10).all (λk=>match oH UZ (some (k:Nat)) (some ((k+1:Nat):Int))with|some v=>IW v (.s [dg k])|none=>false)=true:=by kernel_rfl
theorem U0:(List.range 100).all (λk=>match oH zY (some ((k*2:Nat):Int)) (some ((k*2+2:Nat):Int))with|some v=>IW v (.s [dg (k/10),dg (k % 10)])|none=>false)=true:=by kernel_rfl
theorem Qn:(List.range 100).all (λk=>match zY[k*2]?,zY[k*2+1]? with|some a,some b=>a==dg (k/10)&&b==dg (k % 10)|_,_=>false)=true:=by kernel_rfl
theorem U1{k:Nat}(hk:k<10):oH UZ (some (k:Nat)) (some ((k+1:Nat):Int))=some (.s [dg k]):=by
 have h:=F7 Qm hk;split at h
 .rename_i v hv;rw[hv,Sk h]
 .cases h
theorem sm_at{k:Nat}(hk:k<100):oH zY (some ((k*2:Nat):Int)) (some ((k*2+2:Nat):Int))=some (.s [dg (k/10),dg (k % 10)]):=by
 have h:=F7 U0 hk;split at h
 .rename_i v hv;rw[hv,Sk h]
 .cases h
theorem F8{k:Nat}(hk:k<100):zY[k*2]?=some (dg (k/10))/\zY[k*2+1]?=some (dg (k % 10)):=by
 have h:=F7 Qn hk;split at h
 .rename_i a b h1 h2
  simp only[Bool.and_eq_true,beq_iff_eq]at h;exact⟨by rw[h1,h.1],by rw[h2,h.2]⟩
 .cases h
section
variable {P:Program} {ty:TypeId} {k:IntKind} {a b:Int}
theorem pQ:(dY P ty .lss).run (.i k a) (.i k b)=some (.b (decide (a<b))):=by
 show bc (wT k k) (some (AV.b (p9 (kY b a)))) none=_;rw[show wT k k=true by cases k<;>rfl,bD,Rs]
theorem M0:(dY P ty .mul).run (.i k a) (.i k b)=some (.i k (gK k (a*b))):=by cases k<;>rfl
theorem M4:(dY P ty .add).run (.i k a) (.i k b)=some (.i k (gK k (a+b))):=by cases k<;>rfl
theorem M5(hb:b≠0):(dY P ty .quo).run (.i k a) (.i k b)=some (.i k (gK k (Int.tdiv a b))):=by
 show bc (wT k k) (bc (fM b 0) none (some (AV.i k (gK k (Int.tdiv a b))))) none=_;rw[show wT k k=true by cases k<;>rfl,bD,cK,show decide (b=0)=false by simpa using hb,fU]
theorem M6(hb:b≠0):(dY P ty .rem).run (.i k a) (.i k b)=some (.i k (Int.tmod a b)):=by
 show bc (wT k k) (bc (fM b 0) none (some (AV.i k (Int.tmod a b)))) none=_;rw[show wT k k=true by cases k<;>rfl,bD,cK,show decide (b=0)=false by simpa using hb,fU]
theorem nY{x:Int}(h1:0<=x)(h2:x<=4294967295):gK .u32 x=x:=by
 unfold gK;rw[eP,eP,show IntKind.u32.min=0 from by decide,show IntKind.u32.max=4294967295 from by decide];simp[h1,h2,bc]
theorem ae1{x:Int}(h1:0<=x)(h2:x<=255):gK .u8 x=x:=by
 unfold gK;rw[eP,eP,show IntKind.u8.min=0 from by decide,show IntKind.u8.max=255 from by decide];simp[h1,h2,bc]
end
@[go_sem] theorem ail {c:List UInt8} {lo hi:Option Int}:XE (some (.s c)) (some lo) (some hi)=oH c lo hi:=rfl
section
variable {h:AH} {n:Nat} {Q:AV->AH->Nat->Prop}
theorem D6(K:Nat){u:Nat}(hu:u<100)(hQ:∀h' n',Up h n h' n'->Q (.s (dec u)) h' n'):CW (EF (K+1)) 286 [.i .i64 (u:Nat)] h n Q:=by
 refine aD aeR rfl ?_;have w1:gK .i64 ((u:Int)+1)=((u+1:Nat):Int):=by rw[dJ (by omega) (by omega)];rfl
 have w2:gK .i64 ((u:Int)*2)=((u*2:Nat):Int):=by rw[dJ (by omega) (by omega)];rfl
 have w3:gK .i64 (((u*2:Nat):Int)+2)=((u*2+2:Nat):Int):=by rw[dJ (by omega) (by omega)];rfl
 by_cases h10:u<10
 .have hd:decide ((u:Int)<10)=true:=decide_eq_true (by omega)
  have hs:=U1 h10;unfold UZ at hs;have hdec:dec u=[dg u]:=by unfold dec;rw[if_pos h10]
  rw[hdec]at hQ;repeat' (first|(simp (disch:=omega) only[go_sem,simprocAttr,UM,hd,w1,hs])|(refine aT ?_ ?_<;>(intro hb hd;rw[hb];clear hb))|(with_reducible refine aj ?_))
  exact hQ _ _ aI
 .have hd:decide ((u:Int)<10)=false:=decide_eq_false (by omega)
  have hs:=sm_at hu;have hdec:dec u=[dg (u/10),dg (u % 10)]:=by unfold dec;rw[if_neg h10,if_pos hu]
  rw[hdec]at hQ;repeat' (first|(simp (disch:=omega) only[go_sem,simprocAttr,UM,hd,w2,w3,hs])|(refine aT ?_ ?_<;>(intro hb hd;rw[hb];clear hb))|(with_reducible refine aj ?_))
  exact hQ _ _ aI
@[go_sem] theorem vV {c:List UInt8} {k:Nat} {j:IntKind} {b:UInt8} (h:k<1048576) (e:c[k]?=some b):LW (some (.s c)) (some (.i j (k:Nat)))=some (.i .u8 (Int.ofNat b.toNat)):=by
 show Ez (k:Nat) 1048576 (λk=>bnd (hd (qH k c)) λb=>some (.i .u8 (Int.ofNat b.toNat)))=_;rw[R9 (by omega) (by omega)];show bnd (hd (qH k c)) _=_;rw[mW,e];rfl
theorem Sm{w b len:Nat}{k:Int}{c:Option Nat}(h0:0<=k)(h1:k<(len:Nat)):gD w (some (.sl b 0 0 len c)) (some (.i .i64 k))=some (.p b (k.toNat*w)):=by
 obtain⟨i,rfl⟩:=Int.eq_ofNat_of_zero_le h0;rw[bS (by omega)];simp
theorem Sn{S:SK}{d:MD}{r:List MR}{l':List AV}{s:List It}{f:FT}{F:Fm}{Q:PQ}{w b len:Nat}{k:Int}{c:Option Nat}(h0:0<=k)(h1:k<(len:Nat)):RQ S w (some (.sl b 0 0 len c)) (some (.i .i64 k)) d r l' s f h n F Q=mP S d (.p b (k.toNat*w)) r l' s f h n F Q:=by
 obtain⟨i,rfl⟩:=Int.eq_ofNat_of_zero_le h0;rw[bZ (by omega)];simp
abbrev Qo(b:UInt8):AV:=.i .u8 (Int.ofNat b.toNat)
theorem Qp(K:Nat){u ab T:Nat}(h1:100<=u)(h2:u<1000){z0 z1 z2:AV}{rest:List AV}(hr:h.get ab=some (.row T (z0::z1::z2::rest)))
 (hQ:∀h' n',UX (λx=>x=ab) h n h' n'->h'.get ab=some (.row T (Qo (dg (u/100))::Qo (dg (u/10 % 10))::Qo (dg (u % 10))::rest))->Q (.bQ []) h' n'):CW (EF (K+1)) 288 [.sl ab 0 0 3 (some 24),.i .u64 (u:Nat)] h n Q:=by
 refine aD Y6 rfl ?_;repeat' (first|(simp (disch:=omega) only[go_sem,simprocAttr,UN,Al (v:=.sl ab 0 0 3 (some 24)) (m:=3) rfl])|(refine aT ?_ ?_<;>(intro hb hd;rw[hb];clear hb))|(with_reducible refine aj ?_))
 refine jw (λm h2 n2 F=>h2=h/\n2=n/\F=[(0,.sl ab 0 0 3 (some 24)),(1,.i .u64 (u:Nat)),(4,.i .i64 3)]) 0 (by omega) ⟨_,⟨rfl,rfl,rfl⟩,by(repeat' (first|exact aR|refine aN rfl ?_))⟩ ?_;rintro m _ _ F ⟨rfl,rfl,rfl⟩;have e1:gK .u32 (u:Nat)=(u:Nat):=nY (by omega) (by omega);have e2:Int.tmod (u:Nat) 100=((u % 100:Nat):Int):=by rw[Int.tmod_eq_emod_of_nonneg (by omega)];rfl
 have e3:gK .u32 (((u % 100:Nat):Int)*2)=((u % 100*2:Nat):Int):=by rw[nY (by omega) (by omega)];rfl
 have e4:gK .u32 (Int.tdiv (u:Nat) 100)=((u/100:Nat):Int):=by rw[Int.tdiv_eq_ediv_of_nonneg (by omega),nY (by omega) (by omega)];rfl
 have e5:gK .u32 (((u % 100*2:Nat):Int)+1)=((u % 100*2+1:Nat):Int):=by rw[nY (by omega) (by omega)];rfl
 have e6:gK .u32 (48+((u/100:Nat):Int))=((48+u/100:Nat):Int):=by rw[nY (by omega) (by omega)];rfl
 have e7:gK .u8 ((48+u/100:Nat):Int)=((48+u/100:Nat):Int):=ae1 (by omega) (by omega);obtain⟨s1,s2⟩:=F8 (k:=u % 100) (by omega);repeat' (first|(simp (disch:=omega) only[go_sem,simprocAttr,FY,M6,M5,M0,M4,e1,e2,e3,e4,e5,e6,e7,Int.reduceLE,Int.reduceLT,Int.reduceSub,Int.reduceEq,vV (by omega) s1,vV (by omega) s2,hr,Sm,Sn,dJ])|(refine aT ?_ ?_<;>(intro hb hd;rw[hb];clear hb))|(with_reducible refine aj ?_))
 have d1:u % 100/10=u/10 % 10:=by omega
 have d2:u % 100 % 10=u % 10:=by omega
 have d3:AV.i .u8 ((48+u/100:Nat):Int)=Qo (dg (u/100)):=by
  show AV.i .u8 _=AV.i .u8 (((UInt8.ofNat (48+u/100)).toNat:Nat):Int);have:(UInt8.ofNat (48+u/100)).toNat=48+u/100:=by simp;omega
  rw[this]
 rw[d1,d2,d3];exact hQ _ _ ((((UX.refl (X:=λx=>x=ab)).set (.inl rfl) (Nat.le_refl _)).set (.inl rfl) (Nat.le_refl _)).set (.inl rfl) (Nat.le_refl _)) aG
theorem Qq(K:Nat){u ab T:Nat}(h1:1000<=u)(h2:u<10000){z0 z1 z2 z3:AV}{rest:List AV}(hr:h.get ab=some (.row T (z0::z1::z2::z3::rest)))
 (hQ:∀h' n',UX (λx=>x=ab) h n h' n'->h'.get ab=some (.row T (Qo (dg (u/1000))::Qo (dg (u/100 % 10))::Qo (dg (u/10 % 10))::Qo (dg (u % 10))::rest))->Q (.bQ []) h' n'):CW (EF (K+1)) 288 [.sl ab 0 0 4 (some 24),.i .u64 (u:Nat)] h n Q:=by
 refine aD Y6 rfl ?_;repeat' (first|(simp (disch:=omega) only[go_sem,simprocAttr,UN,Al (v:=.sl ab 0 0 4 (some 24)) (m:=4) rfl])|(refine aT ?_ ?_<;>(intro hb hd;rw[hb];clear hb))|(with_reducible refine aj ?_))
 refine jw (λm h2 n2 F=>h2=h/\n2=n/\F=[(0,.sl ab 0 0 4 (some 24)),(1,.i .u64 (u:Nat)),(4,.i .i64 4)]) 0 (by omega) ⟨_,⟨rfl,rfl,rfl⟩,by(repeat' (first|exact aR|refine aN rfl ?_))⟩ ?_;rintro m _ _ F ⟨rfl,rfl,rfl⟩;have e1:gK .u32 (u:Nat)=(u:Nat):=nY (by omega) (by omega);have e2:Int.tmod (u:Nat) 10000=((u:Nat):Int):=by rw[Int.tmod_eq_emod_of_nonneg (by omega)];omega
 have e3:gK .u32 (Int.tdiv (u:Nat) 100)=((u/100:Nat):Int):=by rw[Int.tdiv_eq_ediv_of_nonneg (by omega),nY (by omega) (by omega)];rfl
 have e4:Int.tmod (u:Nat) 100=((u % 100:Nat):Int):=by rw[Int.tmod_eq_emod_of_nonneg (by omega)];rfl
 have e5:gK .u32 (((u % 100:Nat):Int)*2)=((u % 100*2:Nat):Int):=by rw[nY (by omega) (by omega)];rfl
 have e6:gK .u32 (((u/100:Nat):Int)*2)=((u/100*2:Nat):Int):=by rw[nY (by omega) (by omega)];rfl
 have e7:gK .u32 (((u % 100*2:Nat):Int)+1)=((u % 100*2+1:Nat):Int):=by rw[nY (by omega) (by omega)];rfl
 have e8:gK .u32 (((u/100*2:Nat):Int)+1)=((u/100*2+1:Nat):Int):=by rw[nY (by omega) (by omega)];rfl
 have e9:gK .u32 (Int.tdiv (u:Nat) 10000)=0:=by rw[Int.tdiv_eq_ediv_of_nonneg (by omega),nY (by omega) (by omega)];omega
 obtain⟨s1,s2⟩:=F8 (k:=u % 100) (by omega);obtain⟨s3,s4⟩:=F8 (k:=u/100) (by omega);repeat' (first|(simp (disch:=omega) only[go_sem,simprocAttr,FY,M6,M5,M0,M4,e1,e2,e3,e4,e5,e6,e7,e8,e9,Int.reduceLE,Int.reduceLT,Int.reduceSub,Int.reduceEq,vV (by omega) s1,vV (by omega) s2,vV (by omega) s3,vV (by omega) s4,hr,Sm,Sn,dJ])|(refine aT ?_ ?_<;>(intro hb hd;rw[hb];clear hb))|(with_reducible refine aj ?_))
 have d1:u % 100/10=u/10 % 10:=by omega
 have d2:u % 100 % 10=u % 10:=by omega
 have d3:u/100/10=u/1000:=by omega
 rw[d1,d2,d3];exact hQ _ _ (((((UX.refl (X:=λx=>x=ab)).set (.inl rfl) (Nat.le_refl _)).set (.inl rfl) (Nat.le_refl _)).set (.inl rfl) (Nat.le_refl _)).set (.inl rfl) (Nat.le_refl _)) aG
theorem Za{u:Nat}(h1:1000<=u)(h2:u<10000):Lib.nDigits u=4:=by
 rw[Lib.nDigits_big (by omega),Lib.nDigits_big (by omega),Lib.nDigits_big (by omega),Lib.nDigits_small (by omega)]
theorem Zb{u:Nat}(h1:100<=u)(h2:u<1000):Lib.nDigits u=3:=by
 rw[Lib.nDigits_big (by omega),Lib.nDigits_big (by omega),Lib.nDigits_small (by omega)]
theorem Sq(K:Nat){u:Nat}(h1:1<=u)(h2:u<10000)(hQ:Q (.i .i64 (Lib.nDigits u:Nat)) h n):CW (EF (K+1)) 287 [.i .u64 (u:Nat)] h n Q:=by
 refine⟨_,_,_,?_,hQ⟩;show@Option.rec eY (λ_=>eY) _ (λr=>r) (bc (Nat.beq KL OA) none (bc (Nat.beq KL KL) (bc (Nat.ble 1 u) (bc (Nat.ble u 18446744073709551615) (some (eY.ok (.i .i64 (Lib.nDigits u:Nat)) h n)) none) none) none))=_;rw[show Nat.beq KL OA=false from rfl,fU,show Nat.beq KL KL=true from rfl,bD,Nat.ble_eq_true_of_le (by omega),bD,Nat.ble_eq_true_of_le (by omega),bD]
theorem xK(u:Nat):(dec u).length<=4:=by
 unfold dec;split
 .simp
 .split
  .simp
  .split<;>simp
theorem ae2{u:Nat}(h0:0<u)(h1:u<10000):gK .u64 (0 - gK .u64 (-(u:Int)))=(u:Nat):=by
 rw[uY,uY];simp only[IntKind.wrap,IntKind.signed,IntKind.bits,Bool.false_and,Bool.false_eq_true,↓reduceIte];omega
theorem Ih(K:Nat){dst:AV}{l:List UInt8}(g:Gr h n 5 1 dst bv l)(hl:l.length<=1000000){u:Nat}(hu:u<10000)
 (hQ:∀v' h' n',Gr h' n' 5 1 v' bv (l++dec u)->n<=n'->(∀x,x<n->¬blk dst x->h'.get x=h.get x)->(∀x,blk v' x->blk dst x\/n<=x)->Q v' h' n'):CW (EF (K+2)) 282 [dst,.i .u64 (u:Nat),.i .i64 10] h n Q:=by
 have hdl:=xK u;refine aD aeY rfl ?_;by_cases U2:u<100
 .have hd:decide ((u:Int)<100)=true:=decide_eq_true (by omega)
  have e1:gK .i64 (u:Nat)=(u:Nat):=dJ (by omega) (by omega);repeat' (first|(simp (disch:=omega) only[go_sem,simprocAttr,ub.old,F6,pQ,hd,e1,Int.reduceEq])|(simp (disch:=omega) only[go_sem,simprocAttr,F6,pQ,hd,e1,Int.reduceEq])|((first|rw[aU]|rw[bR]);with_reducible refine D6 _ U2 λh2 n2 u2=>?_;(first|replace ub:=Up.trans ub (Up.trans aI u2)|have ub:=u2);have hle:=ub.le;clear u2)|(refine aT ?_ ?_<;>(intro hb hd;rw[hb];clear hb))|(with_reducible refine aj ?_))
  refine jZ (g.up ub) adY (by omega) λv' h3 n3 g3 l3 s3 b3=>?_;repeat' (first|(simp (disch:=omega) only[go_sem,simprocAttr,ub.old])|(simp (disch:=omega) only[go_sem,simprocAttr])|(refine aT ?_ ?_<;>(intro hb hd;rw[hb];clear hb))|(with_reducible refine aj ?_))
  exact hQ _ _ _ g3 (by have:=ub.le;omega) (λx hx hb=>by rw[s3 x (by have:=ub.le;omega) hb,ub.old x hx]) λx hx=>(b3 x hx).imp id λe=>by have:=ub.le;omega
 .have hd:decide ((u:Int)<100)=false:=decide_eq_false (by omega)
  by_cases h3:u<1000
  .have e3:Lib.nDigits u=3:=Zb (by omega) h3
   repeat' (first|(simp (disch:=omega) only[go_sem,simprocAttr,ub.old,F6,pQ,hd,Int.reduceEq])|(simp (disch:=omega) only[go_sem,simprocAttr,F6,pQ,hd,Int.reduceEq])|(refine aT ?_ ?_<;>(intro hb hd;rw[hb];clear hb))|(with_reducible refine aj ?_))
   rw[aU];refine Sq _ (by omega) hu ?_;rw[e3];have Zc:∀b:Nat,Jo 1 24 (some (.p b 0)) (some none) (some (some (3:Int)))=some (.sl b 0 0 3 (some 24)):=λ_=>rfl;simp (disch:=omega) only[go_sem,simprocAttr,Zc];rw[aU];refine Qp _ (by omega) h3 aG λh3 n3 u3 r3=>?_;simp (disch:=omega) only[go_sem,simprocAttr,Zc];have u0:Up h n h3 n3:=⟨by have:=u3.le;omega,λx hx=>by rw[u3.old x (by omega) (by omega),ay (by omega)]⟩;have hdec:dec u=[dg (u/100),dg (u/10 % 10),dg (u % 10)]:=by unfold dec;rw[if_neg (by omega),if_neg U2,if_pos (by assumption)]
   refine jZ (l2:=dec u) (g.up u0) ⟨by rw[hdec];rfl,?_⟩ (by omega) λv' h4 n4 g4 l4 s4 b4=>?_
   .rw[hdec]
    show bnd (iD (h3.get n) 0 _) (λr=>mO (Nat.mul 3 1) r)=_;rw[r3];rfl
   simp (disch:=omega) only[go_sem,simprocAttr];exact hQ _ _ _ g4 (by have:=u0.le;omega) (λx hx hb=>by rw[s4 x (by have:=u0.le;omega) hb,u0.old x hx]) λx hx=>(b4 x hx).imp id λe=>by have:=u0.le;omega
  .have e3:Lib.nDigits u=4:=Za (by omega) hu
   repeat' (first|(simp (disch:=omega) only[go_sem,simprocAttr,ub.old,F6,pQ,hd,Int.reduceEq])|(simp (disch:=omega) only[go_sem,simprocAttr,F6,pQ,hd,Int.reduceEq])|(refine aT ?_ ?_<;>(intro hb hd;rw[hb];clear hb))|(with_reducible refine aj ?_))
   rw[aU];refine Sq _ (by omega) hu ?_;rw[e3];have Zc:∀b:Nat,Jo 1 24 (some (.p b 0)) (some none) (some (some (4:Int)))=some (.sl b 0 0 4 (some 24)):=λ_=>rfl;simp (disch:=omega) only[go_sem,simprocAttr,Zc];rw[aU];refine Qq _ (by omega) hu aG λh3 n3 u3 r3=>?_;simp (disch:=omega) only[go_sem,simprocAttr,Zc];have u0:Up h n h3 n3:=⟨by have:=u3.le;omega,λx hx=>by rw[u3.old x (by omega) (by omega),ay (by omega)]⟩;have hdec:dec u=[dg (u/1000),dg (u/100 % 10),dg (u/10 % 10),dg (u % 10)]:=by unfold dec;rw[if_neg (by omega),if_neg U2,if_neg (by assumption)]
   refine jZ (l2:=dec u) (g.up u0) ⟨by rw[hdec];rfl,?_⟩ (by omega) λv' h4 n4 g4 l4 s4 b4=>?_
   .rw[hdec]
    show bnd (iD (h3.get n) 0 _) (λr=>mO (Nat.mul 4 1) r)=_;rw[r3];rfl
   simp (disch:=omega) only[go_sem,simprocAttr];exact hQ _ _ _ g4 (by have:=u0.le;omega) (λx hx hb=>by rw[s4 x (by have:=u0.le;omega) hb,u0.old x hx]) λx hx=>(b4 x hx).imp id λe=>by have:=u0.le;omega
abbrev ApQ(dst:AV)(l l2:List UInt8)(h:AH)(n:Nat)(Q:AV->AH->Nat->Prop):Prop:=∀v' h' n',Gr h' n' 5 1 v' bv (l++l2)->n<=n'->(∀x,x<n->¬blk dst x->h'.get x=h.get x)->(∀x,blk v' x->blk dst x\/n<=x)->Q v' h' n'
theorem uE{S:SK}{h:AH}{n:Nat}{dst:AV}{l:List UInt8}{d:MD}{r:List MR}{l':List AV}{s:List It}{f:FT}{F:Fm}{Q:PQ}{b:UInt8}{bi:Int}(g:Gr h n 5 1 dst bv l)(hl:l.length<=1000000)(hb:bi=(b.toNat:Int)){y:AV}{yb:Nat}(hy:y= .sl yb 0 0 1 (some 1))(hyr:h.get yb=some (.row 5 [.i .u8 bi]))
 (q:ApQ dst l [b] h n λv h n=>mP S d v r l' s f h n F Q):kR S (Po 5 1 h n (some dst) (some y)) d r l' s f F Q:=by
 subst hy;refine jZ (l2:=[b]) g ⟨rfl,?_⟩ (by simp;omega) q;show bnd (iD (h.get yb) 0 _) (λr=>mO (Nat.mul 1 1) r)=_;rw[hyr,hb];rfl
theorem Qr(K:Nat){dst:AV}{l:List UInt8}(g:Gr h n 5 1 dst bv l)(hl:l.length<=900000){x:Int}(h1: -10000<x)(h2:x<10000)(hQ:ApQ dst l (tn x) h n Q):CW (EF (K+3)) 250 [dst,.i .i64 x,.i .i64 10] h n Q:=by
 refine aD aeX rfl ?_;by_cases h0:x<0
 .obtain⟨u,rfl⟩:∃u:Nat,x= -(u:Int):=⟨x.natAbs,by omega⟩
  have htn:tn (-(u:Int))=45::dec u:=by unfold tn;rw[if_pos h0];simp
  have hd:decide (-(u:Int)<0)=true:=decide_eq_true h0;rw[htn]at hQ;simp (disch:=omega) only[go_sem,simprocAttr,UW,hd];refine uE (b:=45) (g.up aI) (by omega) rfl rfl aG λv' h3 n3 g3 l3 s3 b3=>?_;simp (disch:=omega) only[go_sem,simprocAttr,ae2 (u:=u) (by omega) (by omega)];rw[aU];refine Ih _ g3 (by simp;omega) (by omega) λv4 h4 n4 g4 l4 s4 b4=>?_;simp (disch:=omega) only[go_sem,simprocAttr];rw[List.append_assoc]at g4;refine hQ _ _ _ g4 (by omega) (λx hx hb=>?_) λx hx=>?_
  .rw[s4 x (by omega) (λe=>?_),s3 x (by omega) hb,ay (by omega)]
   rcases b3 x e with e|e
   .exact hb e
   .omega
  .rcases b4 x hx with e|e
   .rcases b3 x e with e|e
    .exact .inl e
    .exact .inr (by omega)
   .exact .inr (by omega)
 .obtain⟨u,rfl⟩:=Int.eq_ofNat_of_zero_le (show 0<=x by omega)
  have htn:tn (u:Nat)=dec u:=by unfold tn;rw[if_neg h0];simp
  rw[htn]at hQ;have hd:decide ((u:Int)<0)=false:=decide_eq_false h0;have e1:gK .u64 (u:Nat)=(u:Nat):=t_ (by omega) (by omega);simp (disch:=omega) only[go_sem,simprocAttr,UW,hd,e1];rw[aU];refine Ih _ g (by omega) (by omega) λv' h3 n3 g3 l3 s3 b3=>?_;simp (disch:=omega) only[go_sem,simprocAttr];exact hQ _ _ _ g3 l3 s3 b3
theorem Ar(K:Nat){dst:AV}{l:List UInt8}(g:Gr h n 5 1 dst bv l)(hl:l.length<=900000){x:Int}(h1: -10000<x)(h2:x<10000)(hQ:ApQ dst l (tn x) h n Q):CW (EF (K+4)) 160 [dst,.i .i64 x,.i .i64 10] h n Q:=by
 refine aD c160 rfl ?_;simp (disch:=omega) only[go_sem,simprocAttr,Y8];rw[aU];refine Qr _ g hl h1 h2 λv' h3 n3 g3 l3 s3 b3=>?_;simp (disch:=omega) only[go_sem,simprocAttr];exact hQ _ _ _ g3 l3 s3 b3
end
end
end
section
noncomputable section
def wr(x:Int):List UInt8:=tn x++[32]
def fl(b:Bool):List UInt8:=if b then[43]else[45]
def mkT(m:au):List UInt8:=wr m.status++wr m.left++wr m.got++wr m.aO++fl m.paused
def oz(p:aP):List UInt8:=fl p.own++wr p.st.day++p.st.ah.flatMap wr++p.st.used.flatMap fl++p.st.marks.flatMap mkT
abbrev NB(x:Int):Prop:= -10000<x/\x<10000
structure PB(p:aP):Prop where
 day:NB p.st.day
 ah:∀x∈p.st.ah,NB x
 marks:∀m∈p.st.marks,NB m.status/\NB m.left/\NB m.got/\NB m.aO
 lh:p.st.ah.length<=1000
 lu:p.st.used.length<=1000
 lm:p.st.marks.length<=1000
theorem eu(x:Int):(wr x).length<=6:=by
 unfold wr tn;split
 .have:=xK x.natAbs;simp;omega
 .have:=xK x.toNat;simp;omega
theorem Ck(b:Bool):(fl b).length<=1:=by cases b<;>simp[fl]
theorem Qt(m:au):(mkT m).length<=25:=by
 unfold mkT;have h1:=eu m.status;have h2:=eu m.left;have h3:=eu m.got;have h4:=eu m.aO;have h5:=Ck m.paused;simp only[List.length_append];omega
theorem ig{α:Type}{f:α->List UInt8}{k:Nat}(hf:∀a,(f a).length<=k)(l:List α):(l.flatMap f).length<=l.length*k:=by
 induction l with
 |nil=>simp
 |cons a l ih=>rw[List.flatMap_cons,List.length_append,List.length_cons,Nat.succ_mul];have:=hf a;omega
theorem mF{α:Type}{f:α->List UInt8}{l:List α}{k:Nat}{a:α}(h:l[k]?=some a):(l.take (k+1)).flatMap f=(l.take k).flatMap f++f a:=by
 rw[List.take_add_one,h];simp
structure Tx(h:AH)(n:Nat)(P:Nat->Prop)(T tb:Nat)(l:List UInt8):Prop where
 hi:tb<n
 nt:¬P tb
 pr:∀x,P x->x<n
 ex:∃v,h.get tb=some (.row T [v])/\Gr h n 5 1 v bv l/\∀x,blk v x->¬P x/\x≠tb
abbrev UP(P:Nat->Prop)(h:AH)(n:Nat)(h':AH)(n':Nat):Prop:=UX (λx=>¬P x) h n h' n'
theorem UP.at_{P:Nat->Prop}{h h':AH}{n n' x:Nat}(u:UP P h n h' n')(hx:P x)(hn:x<n):h'.get x=h.get x:=u.old x hn λe=>e hx
theorem UP.wk{P P':Nat->Prop}{h h':AH}{n n':Nat}(u:UP P h n h' n')(e:∀x,P' x->P x):UP P' h n h' n':=⟨u.le,λx hx hX=>u.old x hx λk=>hX λp=>k (e x p)⟩
section
variable {P P':Nat->Prop} {h h':AH} {n n' T tb:Nat} {l:List UInt8} {Q:AV->AH->Nat->Prop}
theorem Tx.up(t:Tx h n P T tb l)(u:Up h n h' n'):Tx h' n' P T tb l:=by
 obtain⟨v,h1,h2,h3⟩:=t.ex;exact⟨Nat.lt_of_lt_of_le t.hi u.le,t.nt,λx hx=>Nat.lt_of_lt_of_le (t.pr x hx) u.le,v,(u.old _ t.hi).trans h1,h2.up u,h3⟩
theorem Tx.wk(t:Tx h n P T tb l)(e:∀x,P' x->P x):Tx h n P' T tb l:=by
 obtain⟨v,h1,h2,h3⟩:=t.ex;exact⟨t.hi,λp=>t.nt (e _ p),λx hx=>t.pr x (e x hx),v,h1,h2,λx hx=>⟨λp=>(h3 x hx).1 (e x p),(h3 x hx).2⟩⟩
theorem Tx.box(t:Tx h n P T tb l)(u:Up h n h' n')(hn:n<n'):Tx h' n' (λx=>P x\/x=n) T tb l:=by
 obtain⟨v,h1,h2,h3⟩:=t.ex;have hi:=t.hi;refine⟨by omega,λp=>p.elim t.nt (by omega),λx hx=>hx.elim (λp=>by have:=t.pr x p;omega) (by omega),v,(u.old _ t.hi).trans h1,h2.up u,λx hx=>⟨λp=>p.elim (h3 x hx).1 λe=>?_,(h3 x hx).2⟩⟩;have:=h2.fE hx;omega
theorem Tx.put{h0:AH}{n0:Nat}{v v':AV}{l2:List UInt8}(t:Tx h0 n0 P T tb l)(hv:h0.get tb=some (.row T [v]))(hB:∀x,blk v x->¬P x/\x≠tb)(u:Up h0 n0 h n)(g:Gr h' n' 5 1 v' bv l2)(ln:n<=n')(s:∀x,x<n->¬blk v x->h'.get x=h.get x)(b:∀x,blk v' x->blk v x\/n<=x):
 h'.get tb=some (.row T [v])/\Tx (h'.set tb (.row T [v'])) n' P T tb l2/\UP P h0 n0 (h'.set tb (.row T [v'])) n':=by
 have hlt:=t.hi;have hle:=u.le;have hne:∀x,blk v' x->¬P x/\x≠tb:=λx hx=>by
  rcases b x hx with e|e
  .exact hB x e
  .exact⟨λp=>by have:=t.pr x p;omega,by omega⟩
 refine⟨?_,⟨by omega,t.nt,λx hx=>by have:=t.pr x hx;omega,v',aG,g.on (Nat.le_refl _) λx _ hx=>ay (hne x hx).2,hne⟩,⟨by omega,λx hx hX=>?_⟩⟩
 .rw[s tb (by omega) (λe=>(hB tb e).2 rfl),u.old tb hlt];exact hv
 .have hX:P x:=Classical.byContradiction hX
  rw[ay (λe=>t.nt (by rw[<-e];exact hX)),s x (by omega) (λe=>(hB x e).1 hX),u.old x hx]
theorem UX.Qu{B m:Nat}{h1 h2:AH}{n1 n2:Nat}(a:UP (λx=>x<B) h1 n1 h2 n2)(u:Up h m h1 n1)(hB:m<=B):Up h m h2 n2:=⟨Nat.le_trans u.le a.le,λx hx=>(a.at_ (show x<B by omega) (Nat.lt_of_lt_of_le hx u.le)).trans (u.old x hx)⟩
def Sr(g:FuncId)(bs:List Bool)(m:MC)(rs:List MS):Prop:=yC Tryz.prog sl0 g=some (bs,m,rs)/\Nat.beq g KL=false/\Nat.beq g OA=false
theorem mG(K:Nat){gw:FuncId}(cw:Sr gw [true,true] Ql [])(t:Tx h n P T tb l)(hl:l.length<=800000){x:Int}(hx:NB x)(hQ:∀h' n',Tx h' n' P T tb (l++wr x)->UP P h n h' n'->Q (.bQ []) h' n'):CW (EF (K+5)) gw [.i .i64 x,.p tb 0] h n Q:=by
 obtain⟨v,h1,h2,h3⟩:=t.ex;have hlt:=t.hi;have htn:(tn x).length<=5:=by have:=eu x;unfold wr at this;simp at this;omega
 refine aD cw.1 rfl (hg:=cw.2.1) (hg':=cw.2.2) ?_;simp (disch:=omega) only[go_sem,simprocAttr,Ql,h1];rw[aU];refine Ar _ h2 (by omega) hx.1 hx.2 λv' h4 n4 g4 l4 s4 b4=>?_;simp (disch:=omega) only[go_sem,simprocAttr];refine uE (b:=32) (g4.up aI) (by simp;omega) rfl rfl aG λv5 h5 n5 g5 l5 s5 b5=>?_;have Zd:∀y,y<n->¬blk v y->h5.get y=h.get y:=λy hy hb=>by
  rw[s5 y (by omega) (λe=>by rcases b4 y e with e|e;exact hb e;omega),ay (by omega),s4 y hy hb]
 obtain⟨q1,q2,q3⟩:=t.put h1 h3 (Up.refl _ _) g5 (by omega) Zd λy hy=>by
  rcases b5 y hy with e|e
  .exact b4 y e
  .exact .inr (by omega)
 simp (disch:=omega) only[go_sem,simprocAttr,q1,g5.cl];rw[List.append_assoc]at q2;exact hQ _ _ q2 q3
theorem Cm(K:Nat){gf:FuncId}(cf:Sr gf [true,true] MZ [])(t:Tx h n P T tb l)(hl:l.length<=800000)(b:Bool)(hQ:∀h' n',Tx h' n' P T tb (l++fl b)->UP P h n h' n'->Q (.bQ []) h' n'):CW (EF (K+1)) gf [.b b,.p tb 0] h n Q:=by
 obtain⟨v,h1,h2,h3⟩:=t.ex;have hlt:=t.hi;refine aD cf.1 rfl (hg:=cf.2.1) (hg':=cf.2.2) ?_;cases b with
 |true=>
  simp (disch:=omega) only[go_sem,simprocAttr,MZ,h1];refine uE (b:=43) (h2.up aI) (by omega) rfl rfl aG λv5 h5 n5 g5 l5 s5 b5=>?_;obtain⟨q1,q2,q3⟩:=t.put h1 h3 aI g5 (by omega) s5 b5;simp (disch:=omega) only[go_sem,simprocAttr,q1,g5.cl];exact hQ _ _ q2 q3
 |false=>
  simp (disch:=omega) only[go_sem,simprocAttr,MZ,h1];refine uE (b:=45) (h2.up aI) (by omega) rfl rfl aG λv5 h5 n5 g5 l5 s5 b5=>?_;obtain⟨q1,q2,q3⟩:=t.put h1 h3 aI g5 (by omega) s5 b5;simp (disch:=omega) only[go_sem,simprocAttr,q1,g5.cl];exact hQ _ _ q2 q3
theorem Ze{e:TypeId}{z:List AV}{h:AH}{n c:Nat}{k j:IntKind}(h2:c<=1048576):XI e z h n (some (.i k 0)) (some (.i j (c:Nat)))=some (.ok (.sl n 0 0 0 (some c)) (h.set n (.row e (rep c z))) (n+1)):=DL (a:=0) (Nat.zero_le _) h2
theorem mH{Y:YT}{S:SK}{q:FuncId}{a p:AV}{d:MD}{r:List MR}{l:List AV}{s:List It}{f:FT}{h:AH}{n:Nat}{F:Fm}{Q:PQ}:kF Y S (some (.f q [p])) (some [a]) d r l s f h n F Q=CW f q [a,p] h n λv h n=>mP S d v r l s f h n F Q:=rfl
@[reducible] def TS.pv (v:TS) (p:aP):List AV:=[.i .i64 p.st.day,v.h,v.u,v.m,.b p.own]
variable {tv:TS} {p:aP}
theorem JF(l:List UInt8):oF (l.flatMap bv)=some l:=by
 induction l with
 |nil=>rfl
 |cons a l ih=>
  show bnd (GU (Qo a)) (λb=>bnd (oF (l.flatMap bv)) λr=>some (b::r))=_;rw[ih];show bnd (bc (Nat.ble a.toNat 255) (some (UInt8.ofNat a.toNat)) none) _=_;rw[Nat.ble_eq_true_of_le (by have:=a.toNat_lt;omega),bD,UInt8.ofNat_toNat];rfl
theorem Gr.KI{v:AV}{l:List UInt8}(g:Gr h n 5 1 v bv l):TK h (some v)=some (.s l):=by
 have hs:=g.sl.ap;rcases g.2 with⟨rfl,rfl⟩|⟨b,cap,cells,rfl,h1,h2,h3,_⟩
 .rfl
 .show(match iZ h 1 l.length (.sl b 0 0 l.length cap)with|some u=>(match oF u with|some b=>some (AV.s b)|none=>none)|none=>none)=_
  rw[hs.2,];show(match oF (l.flatMap bv)with|some b=>some (AV.s b)|none=>none)=_;rw[JF]
theorem M7(K:Nat){g gw gf:FuncId}(cg:Sr g [true] (mTx gw gf) [.t 2])(cw:Sr gw [true,true] Ql [])(cf:Sr gf [true,true] MZ [])(hS:bX h n tv p.st)(pb:PB p)(hQ:∀h' n',Up h n h' n'->Q (.s (oz p)) h' n'):CW (EF (K+6)) g [.agg (tv.pv p)] h n Q:=by
 have lh:=pb.lh;have lu:=pb.lu;have lm:=pb.lm;have wid:gK .i64 (12*(p.st.marks.length:Int))=((12*p.st.marks.length:Nat):Int):=by rw[dJ (by omega) (by omega)];rfl
 have U3:gK .i64 (32+((12*p.st.marks.length:Nat):Int))=((32+12*p.st.marks.length:Nat):Int):=by rw[dJ (by omega) (by omega)];rfl
 have z0:(0:Int)=((0:Nat):Int):=rfl;refine aD cg.1 rfl (hg:=cg.2.1) (hg':=cg.2.2) ?_;repeat' (first|(simp (disch:=omega) only[go_sem,simprocAttr,mTx,hS.marks.len,wid,U3,Ze])|(refine aT ?_ ?_<;>(intro hb hd;rw[hb];clear hb))|(with_reducible refine aj ?_))
 have pub:Up h n (Tr.set h n (.row 45 (tv.pv p))) (n+1):=by exact aI
 generalize hh:Tr.set (Tr.set (Tr.set (Tr.set h n _) (n+1) _) (n+1+1) _) (n+1+1) _=h1;have u1:Up h n h1 (n+1+1+1):=by rw[<-hh];exact aI
 have q1:h1.get n=some (.row 45 (tv.pv p)):=by rw[<-hh];simp (disch:=omega) only[go_sem]
 have t1:Tx h1 (n+1+1+1) (λx=>x<n+1) 306 (n+1+1) []:=by
  refine⟨by omega,by omega,λx hx=>by omega,.sl (n+1) 0 0 0 (some (32+12*p.st.marks.length)),by rw[<-hh];simp (disch:=omega) only[go_sem],?_,λx hx=>by rw[d_]at hx;omega⟩;refine Gr.of (l:=[]) (λ_=>rfl) (by omega) (cells:=rep (32+12*p.st.marks.length) (bv 0)) (by rw[<-hh];simp (disch:=omega) only[go_sem];rfl) (by simp) (Nat.zero_le _) (by rw[jk bv,bJ (c:=bv) (w:=1) (λ_=>rfl)];simp)
 clear hh pub;rw[mH];refine Cm _ cf t1 (by simp) p.own λh2 n2 t2 u2=>?_;have q2:=(u2.at_ (Nat.lt_succ_self n) (by omega)).trans q1;have l2:=u2.le;have e1:=Ck p.own;simp (disch:=omega) only[go_sem,simprocAttr,q2,TS.pv];rw[mH];refine mG _ cw t2 (by simp;omega) pb.day λh3 n3 t3 u3=>?_;have q3:=(u3.at_ (Nat.lt_succ_self n) (by omega)).trans q2;have l3:=u3.le;have e2:=eu p.st.day;have rG:UP (λx=>x<n+1) h1 (n+1+1+1) h3 n3:=u2.trans u3;simp (disch:=omega) only[go_sem,simprocAttr,q3,TS.pv,hS.ah.len];refine b_ p.st.ah.length (λk h8 n8 G=>Tx h8 n8 (λx=>x<n+1) 306 (n+1+1) (fl p.own++wr p.st.day++(p.st.ah.take k).flatMap wr)/\UP (λx=>x<n+1) h1 (n+1+1+1) h8 n8/\G=[(1,.p n 0),(3,.p (n+1+1) 0),(4,.f gw [.p (n+1+1) 0]),(5,.f gf [.p (n+1+1) 0]),(32,tv.h)]) (by omega) (by omega) (by omega) (by omega) (λk h8 n8 G ⟨_,_,e⟩=>by subst e;exact⟨rfl,rfl⟩) ⟨rfl,rfl,_,⟨by simpa using t3,rG,rfl⟩,by(repeat' (first|exact aR|refine aN rfl ?_))⟩ ?_ ?_
 .rintro k h8 n8 G hk ⟨t8,u8,rfl⟩
  have uu:=u8.Qu u1 (Nat.le_succ n);obtain⟨b1,o1,a,i1,ha,hb1,rd⟩:=(hS.ah.up uu).gD (k:=(k:Nat)) (by omega) (by omega) (by omega);rw[show((k:Nat):Int).toNat=k by omega]at ha;have hlen:=ig (f:=wr) (k:=6) eu (p.st.ah.take k);have htk:=List.length_take_le k p.st.ah;have hpre:(fl p.own++wr p.st.day).length<=30000:=by simp only[List.length_append];omega
  simp (disch:=omega) only[go_sem,simprocAttr,MW,aK i1,rd.el,rd.hd];rw[mH];refine mG _ cw t8 (by simp only[List.length_append];simp only[List.length_append]at hpre;omega) (pb.ah a (List.mem_of_getElem? ha)) λh9 n9 t9 u9=>?_;simp (disch:=omega) only[go_sem,simprocAttr];rw[List.append_assoc,<-mF ha]at t9;exact⟨rfl,rfl,_,⟨t9,u8.trans u9,rfl⟩,by(repeat' (first|exact aR|refine aN rfl ?_))⟩
 rintro h3 n3 G ⟨t3,rG,rfl⟩;rw[List.take_length]at t3;have q3:=(rG.at_ (Nat.lt_succ_self n) (by omega)).trans q1;have hlh:=ig (f:=wr) eu p.st.ah;simp (disch:=omega) only[go_sem,simprocAttr,q3,TS.pv,hS.used.len];refine b_ p.st.used.length (λk h8 n8 G=>Tx h8 n8 (λx=>x<n+1) 306 (n+1+1) (fl p.own++wr p.st.day++p.st.ah.flatMap wr++(p.st.used.take k).flatMap fl)/\UP (λx=>x<n+1) h1 (n+1+1+1) h8 n8/\G=[(1,.p n 0),(3,.p (n+1+1) 0),(4,.f gw [.p (n+1+1) 0]),(5,.f gf [.p (n+1+1) 0]),(44,tv.u)]) (by omega) (by omega) (by omega) (by omega) (λk h8 n8 G ⟨_,_,e⟩=>by subst e;exact⟨rfl,rfl⟩) ⟨rfl,rfl,_,⟨by simpa using t3,rG,rfl⟩,by(repeat' (first|exact aR|refine aN rfl ?_))⟩ ?_ ?_
 .rintro k h8 n8 G hk ⟨t8,u8,rfl⟩
  have uu:=u8.Qu u1 (Nat.le_succ n);obtain⟨b1,o1,a,i1,ha,hb1,rd⟩:=(hS.used.up uu).gD (k:=(k:Nat)) (by omega) (by omega) (by omega);rw[show((k:Nat):Int).toNat=k by omega]at ha;have hlen:=ig (f:=fl) (k:=1) Ck (p.st.used.take k);have htk:=List.length_take_le k p.st.used;have hpre:(fl p.own++wr p.st.day++p.st.ah.flatMap wr).length<=30000:=by simp only[List.length_append];omega
  simp (disch:=omega) only[go_sem,simprocAttr,MV,aK i1,rd.el,rd.hd];rw[mH];refine Cm _ cf t8 (by simp only[List.length_append];simp only[List.length_append]at hpre;omega) a λh9 n9 t9 u9=>?_;simp (disch:=omega) only[go_sem,simprocAttr];rw[List.append_assoc,<-mF ha]at t9;exact⟨rfl,rfl,_,⟨t9,u8.trans u9,rfl⟩,by(repeat' (first|exact aR|refine aN rfl ?_))⟩
 rintro h3 n3 G ⟨t3,rG,rfl⟩;rw[List.take_length]at t3;have q3:=(rG.at_ (Nat.lt_succ_self n) (by omega)).trans q1;have hlu:=ig (f:=fl) Ck p.st.used;simp (disch:=omega) only[go_sem,simprocAttr,q3,TS.pv,hS.marks.len];refine b_ p.st.marks.length (λk h8 n8 G=>Tx h8 n8 (λx=>x<n+1) 306 (n+1+1) (fl p.own++wr p.st.day++p.st.ah.flatMap wr++p.st.used.flatMap fl++(p.st.marks.take k).flatMap mkT)/\UP (λx=>x<n+1) h1 (n+1+1+1) h8 n8/\G=[(1,.p n 0),(3,.p (n+1+1) 0),(4,.f gw [.p (n+1+1) 0]),(5,.f gf [.p (n+1+1) 0]),(56,tv.m)]) (by omega) (by omega) (by omega) (by omega) (λk h8 n8 G ⟨_,_,e⟩=>by subst e;exact⟨rfl,rfl⟩) ⟨rfl,rfl,_,⟨by simpa using t3,rG,rfl⟩,by(repeat' (first|exact aR|refine aN rfl ?_))⟩ ?_ ?_
 .rintro k h8 n8 G hk ⟨t8,u8,rfl⟩
  have uu:=u8.Qu u1 (Nat.le_succ n);obtain⟨b1,o1,a,i1,ha,hb1,rd⟩:=(hS.marks.up uu).gD (k:=(k:Nat)) (by omega) (by omega) (by omega);rw[show((k:Nat):Int).toNat=k by omega]at ha;have hlen:=ig (f:=mkT) (k:=25) Qt (p.st.marks.take k);have htk:=List.length_take_le k p.st.marks;have hpre:(fl p.own++wr p.st.day++p.st.ah.flatMap wr++p.st.used.flatMap fl).length<=30000:=by simp only[List.length_append];omega
  have ha2:a=bK p.st.marks k:=by rw[gG hk]at ha;cases ha;rfl
  have hb:=pb.marks a (List.mem_of_getElem? ha);have v1:=eu a.status;have v2:=eu a.left;have v3:=eu a.got;have v4:=eu a.aO;have hlp:(fl p.own++wr p.st.day++p.st.ah.flatMap wr++p.st.used.flatMap fl++(p.st.marks.take k).flatMap mkT).length<=60000:=by
   simp only[List.length_append]at hpre⊢;omega
  generalize fl p.own++wr p.st.day++p.st.ah.flatMap wr++p.st.used.flatMap fl=pre at*;simp (disch:=omega) only[go_sem,simprocAttr,MU,aK i1,rd.el,rd.hd,rd.all];generalize hg:Tr.set (Tr.set h8 n8 _) n8 _=h10;have JG:Up h8 n8 h10 (n8+1):=by rw[<-hg];exact aI
  have k0:h10.get n8=some (.row 144 a.av):=by rw[<-hg];simp (disch:=omega) only[go_sem]
  have t10:=t8.box JG (Nat.lt_succ_self n8);clear hg;rw[mH];refine mG _ cw t10 (by simp only[List.length_append]at hlp⊢;omega) hb.1 λh11 n11 t11 Sv=>?_;have k1:=(Sv.at_ (.inr rfl) (Nat.lt_succ_self n8)).trans k0;have l11:=Sv.le;simp (disch:=omega) only[go_sem,simprocAttr,k1];rw[mH];refine mG _ cw t11 (by simp only[List.length_append]at hlp⊢;omega) hb.2.1 λh12 n12 t12 wK=>?_;have k2:=(wK.at_ (.inr rfl) (by omega)).trans k1;have l12:=wK.le;simp (disch:=omega) only[go_sem,simprocAttr,k2];rw[mH];refine mG _ cw t12 (by simp only[List.length_append]at hlp⊢;omega) hb.2.2.1 λWW n13 t13 Ii=>?_;have k3:=(Ii.at_ (.inr rfl) (by omega)).trans k2;have l13:=Ii.le;simp (disch:=omega) only[go_sem,simprocAttr,k3];rw[mH];refine mG _ cw t13 (by simp only[List.length_append]at hlp⊢;omega) hb.2.2.2 λh14 n14 t14 Sw=>?_;have k4:=(Sw.at_ (.inr rfl) (by omega)).trans k3;have JH:=Sw.le;simp (disch:=omega) only[go_sem,simprocAttr,k4];rw[mH];refine Cm _ cf t14 (by simp only[List.length_append]at hlp⊢;omega) a.paused λSy n15 t15 u15=>?_;simp (disch:=omega) only[go_sem,simprocAttr];have t16:=t15.wk (P':=λx=>x<n+1) λx hx=>.inl hx;have e16:pre++(p.st.marks.take k).flatMap mkT++wr a.status++wr a.left++wr a.got++wr a.aO++fl a.paused=pre++(p.st.marks.take (k+1)).flatMap mkT:=by
   rw[mF ha,mkT];simp only[List.append_assoc]
  rw[e16]at t16;have uu2:UP (λx=>x<n+1) h10 (n8+1) Sy n15:=UP.wk (P:=λx=>x<n+1\/x=n8) (UX.trans (UX.trans (UX.trans (UX.trans Sv wK) Ii) Sw) u15) λx hx=>.inl hx;exact⟨rfl,rfl,_,⟨t16,(u8.trans (UX.up JG)).trans uu2,rfl⟩,by(repeat' (first|exact aR|refine aN rfl ?_))⟩
 rintro h3 n3 G ⟨t3,rG,rfl⟩;rw[List.take_length]at t3;obtain⟨v,r1,r2,r3⟩:=t3.ex;have hcb:TK h3 (some v)=some (.s (oz p)):=Gr.KI r2;simp (disch:=omega) only[go_sem,simprocAttr,r1,hcb];exact hQ _ _ (rG.Qu u1 (Nat.le_succ n))
theorem Ij(K:Nat)(hS:bX h n tv p.st)(pb:PB p)(hQ:∀h' n',Up h n h' n'->Q (.s (oz p)) h' n'):CW (EF (K+6)) 135 [.agg (tv.pv p)] h n Q:=M7 K ⟨aeQ,rfl,rfl⟩ ⟨aeW,rfl,rfl⟩ ⟨c232,rfl,rfl⟩ hS pb hQ
end
end
end
section
noncomputable section
def dv(b:UInt8):Nat:=b.toNat - 48
theorem g_{k:Nat}(h:k<10):(dg k).toNat=48+k:=by unfold dg;simp;omega
def vl(l:List UInt8):Nat:=l.foldl (λx b=>x*10+(b.toNat - 48)) 0
theorem M8{a:Nat}(ha:a<10000):vl (dec a)=a:=by
 unfold dec vl;split
 .simp only[List.foldl_cons,List.foldl_nil];rw[g_ (by omega)];omega
 .split
  .simp only[List.foldl_cons,List.foldl_nil];rw[g_ (by omega),g_ (by omega)];omega
  .split
   .simp only[List.foldl_cons,List.foldl_nil];rw[g_ (by omega),g_ (by omega),g_ (by omega)];omega
   .simp only[List.foldl_cons,List.foldl_nil];rw[g_ (by omega),g_ (by omega),g_ (by omega),g_ (by omega)];omega
theorem Ik{a b:Nat}(ha:a<10000)(hb:b<10000)(h:dec a=dec b):a=b:=by
 rw[<-M8 ha,h,M8 hb]
theorem M9{a:Nat}(ha:a<10000):∀b∈dec a,48<=b.toNat/\b.toNat<58:=by
 intro b hb;unfold dec at hb;have key:∀k,k<10->b=dg k->48<=b.toNat/\b.toNat<58:=λk hk e=>by rw[e,g_ hk];omega
 split at hb
 .simp at hb;exact key _ (by assumption) hb
 .split at hb
  .simp at hb;rcases hb with e|e<;>exact key _ (by omega) e
  .split at hb
   .simp at hb;rcases hb with e|e|e<;>exact key _ (by omega) e
   .simp at hb;rcases hb with e|e|e|e<;>exact key _ (by omega) e
theorem U4{x y:Int}(hx:NB x)(hy:NB y)(h:tn x=tn y):x=y:=by
 unfold NB at hx hy;unfold tn at h;have d45:∀u:Nat,u<10000->∀r,dec u≠45::r:=λu hu r e=>by
  have:=M9 hu 45 (by rw[e];exact List.mem_cons_self);simp at this
 split at h<;>split at h
 .have:=Ik (by omega) (by omega) (List.cons.inj h).2;omega
 .exact absurd h.symm (d45 _ (by omega) _)
 .exact absurd h (d45 _ (by omega) _)
 .have:=Ik (by omega) (by omega) h;omega
theorem Zf{x:Int}(hx:NB x):(32:UInt8)∉tn x:=by
 unfold NB at hx;unfold tn;intro h;split at h
 .rcases List.mem_cons.1 h with e|e
  .cases e
  .have:=M9 (by omega) _ e;simp at this
 .have:=M9 (by omega) _ h;simp at this
theorem Qv{a b r s:List UInt8}(ha:(32:UInt8)∉a)(hb:(32:UInt8)∉b)(h:a++32::r=b++32::s):a=b/\r=s:=by
 induction a generalizing b with
 |nil=>cases b with
  |nil=>exact⟨rfl,(List.cons.inj h).2⟩
  |cons y b=>exact absurd (List.mem_cons.2 (.inl (List.cons.inj h).1)) hb
 |cons x a ih=>cases b with
  |nil=>exact absurd (List.mem_cons.2 (.inl (List.cons.inj h).1.symm)) ha
  |cons y b=>
   obtain⟨h1,h2⟩:=List.cons.inj h;obtain⟨h3,h4⟩:=ih (λe=>ha (List.mem_cons_of_mem _ e)) (λe=>hb (List.mem_cons_of_mem _ e)) h2;exact⟨by rw[h1,h3],h4⟩
theorem gJ{x y:Int}{r s:List UInt8}(hx:NB x)(hy:NB y)(h:wr x++r=wr y++s):x=y/\r=s:=by
 unfold wr at h;rw[List.append_assoc,List.append_assoc]at h;obtain⟨h1,h2⟩:=Qv (Zf hx) (Zf hy) h;exact⟨U4 hx hy h1,h2⟩
theorem zu{x y:Bool}{r s:List UInt8}(h:fl x++r=fl y++s):x=y/\r=s:=by
 cases x<;>cases y<;>simp[fl]at h⊢<;>exact h
theorem M_{x y:au}{r s:List UInt8}(hx:NB x.status/\NB x.left/\NB x.got/\NB x.aO)(hy:NB y.status/\NB y.left/\NB y.got/\NB y.aO)(h:mkT x++r=mkT y++s):x=y/\r=s:=by
 obtain⟨x1,x2,x3,x4,x5⟩:=x;obtain⟨y1,y2,y3,y4,y5⟩:=y;unfold mkT at h;simp only[List.append_assoc]at h;obtain⟨e1,h⟩:=gJ hx.1 hy.1 h;obtain⟨e2,h⟩:=gJ hx.2.1 hy.2.1 h;obtain⟨e3,h⟩:=gJ hx.2.2.1 hy.2.2.1 h;obtain⟨e4,h⟩:=gJ hx.2.2.2 hy.2.2.2 h;obtain⟨e5,h⟩:=zu h;dsimp only at e1 e2 e3 e4 e5;exact⟨by rw[e1,e2,e3,e4,e5],h⟩
theorem kg{α:Type}{f:α->List UInt8}{B:α->Prop}(hf:∀x y r s,B x->B y->f x++r=f y++s->x=y/\r=s):∀{a b:List α}{r s:List UInt8},a.length=b.length->(∀x∈a,B x)->(∀x∈b,B x)->a.flatMap f++r=b.flatMap f++s->a=b/\r=s
 |[],[],_,_,_,_,_,h=>⟨rfl,h⟩
 |[],_::_,_,_,hl,_,_,_=>by simp at hl
 |_::_,[],_,_,hl,_,_,_=>by simp at hl
 |x::a,y::b,r,s,hl,ha,hb,h=>by
  rw[List.flatMap_cons,List.flatMap_cons,List.append_assoc,List.append_assoc]at h;obtain⟨e1,h⟩:=hf x y _ _ (ha x (by simp)) (hb y (by simp)) h;obtain⟨e2,h⟩:=kg hf (by simpa using hl) (λz hz=>ha z (List.mem_cons_of_mem _ hz)) (λz hz=>hb z (List.mem_cons_of_mem _ hz)) h;exact⟨by rw[e1,e2],h⟩
theorem Na{p q:aP}(hp:PB p)(hq:PB q)(l1:p.st.ah.length=q.st.ah.length)(l2:p.st.used.length=q.st.used.length)(l3:p.st.marks.length=q.st.marks.length)(h:oz p=oz q):p=q:=by
 unfold oz at h;rw[<-List.append_nil (p.st.marks.flatMap mkT),<-List.append_nil (q.st.marks.flatMap mkT)]at h;simp only[List.append_assoc]at h;obtain⟨e1,h⟩:=zu h;obtain⟨e2,h⟩:=gJ hp.day hq.day h;obtain⟨e3,h⟩:=kg (B:=NB) (λx y r s=>gJ) l1 hp.ah hq.ah h;obtain⟨e4,h⟩:=kg (f:=fl) (B:=λ_=>True) (λx y r s _ _=>zu) l2 (λ_ _=>trivial) (λ_ _=>trivial) h;obtain⟨e5,h⟩:=kg (B:=λx=>NB x.status/\NB x.left/\NB x.got/\NB x.aO) (λx y r s=>M_) l3 hp.marks hq.marks h;obtain⟨⟨d,hs,us,ms⟩,o⟩:=p;obtain⟨⟨d',hs',us',ms'⟩,o'⟩:=q;cases e1;cases e2;cases e3;cases e4;cases e5
 rfl
section
variable {C:aA} {s:aH} {party:Int} {p q:aP}
theorem aM.pb(h:aM C s)(o:Bool):PB ⟨s,o⟩:=by
 have ok:=aA.ok h.con;have:=ok.dL;have:=ok.jY;have:=ok.lG;have:=ok.RZ;have:=ok.Mj;have:=h.lh;have:=h.lu;have:=h.lm;have:=h.Fx;have:=h.Fy;refine⟨by show NB s.day;unfold NB;omega,λx hx=>by have:=h.held x hx;unfold NB;omega,λm hm=>?_,by show s.ah.length<=1000;omega,by show s.used.length<=1000;omega,by show s.marks.length<=1000;omega⟩;obtain⟨i,hi⟩:=List.getElem?_of_mem hm;have hi:s.marks[i]?=some m:=hi;have hil:=(List.getElem?_eq_some_iff.1 hi).1;have hic:i<C.clauses.length:=by omega
 have hk:C.clauses[i]?=some C.clauses[i]:=List.getElem?_eq_some_iff.2 ⟨hic,rfl⟩;have xI:=ok.clause hk;have h1:=h.marks i m _ hi hk;have h2:=bM.got xI h1;have:=xI.Mk;have:=xI.Ml;unfold NB;rcases h1 with e|e|e
 .omega
 .obtain⟨e1,e2,e3,e4,e5,e6,e7⟩:=e
  by_cases hk4:C.clauses[i].kind=4
  .have:=e6 hk4
   rcases e1 with⟨e1,e1'⟩|⟨e1,e1'⟩<;>omega
  .have:=e7 hk4
   rcases e1 with⟨e1,e1'⟩|⟨e1,e1'⟩<;>omega
 .omega
theorem jI(h:aM C s){t:Int}(h1: -1<=t)(h2:t<C.acts.length)(hd:s.day<C.days):aM C (C.aZ s t):=by
 unfold aA.aZ;by_cases h3:t= -1
 .rw[if_pos h3];exact H_ h hd
 .rw[if_neg h3]
  obtain⟨i,rfl⟩:=Int.eq_ofNat_of_zero_le (show 0<=t by omega);rw[show((i:Nat):Int).toNat=i by omega];obtain⟨a,ha⟩:∃a,C.acts[i]?=some a:=⟨C.acts[i]'(by omega),List.getElem?_eq_some_iff.2 ⟨by omega,rfl⟩⟩;rw[ha];exact Mt h ha
theorem Nb(h:aM C p.st){m:Int}(hm:(m,q)∈C.pO party p):aM C q.st:=by
 unfold aA.pO aA.oq at hm;rcases List.mem_append.1 hm with hm|hm
 .rcases List.mem_append.1 hm with hm|hm
  .split at hm
   .simp at hm;rw[hm.2];exact h
   .cases hm
  .split at hm
   .rename_i h2
    simp at hm;rw[hm.2];exact jI (t:= -1) h (by omega) (by omega) h2.2
   .cases hm
 .split at hm
  .rename_i h2
   unfold aA.ou at hm;obtain⟨i,hi,e⟩:=List.mem_map.1 hm;have hlt:=List.mem_range.1 (List.mem_filter.1 hi).1;cases e
   exact jI (t:=(i:Int)) h (by omega) (by omega) h2
  .cases hm
theorem zo.ok(h:aM C p.st)(k:zo C party p q):aM C q.st:=by
 induction k with
 |refl=>exact h
 |step _ hm ih=>exact Nb ih hm
theorem Qw(hp:aM C p.st)(hq:aM C q.st)(h:oz p=oz q):p=q:=
 Na (hp.pb p.own) (hq.pb q.own) (by rw[hp.lh,hq.lh]) (by rw[hp.lu,hq.lu]) (by rw[hp.lm,hq.lm]) h
end
end
end
noncomputable section
section
variable {h h':AH} {n n':Nat} {v:CS} {C:aA} {s:aH} {tv:TS} {Q:AV->AH->Nat->Prop}
theorem Au(K:Nat)(hS:bX h n tv s)(l1:s.ah.length<=1000000)(l2:s.used.length<=1000000)(l3:s.marks.length<=1000000)
 (hQ:∀tv' h' n',Up h n h' n'->Kp (λx=>x<n) h' n' (λh n=>bX h n tv' s)->Q (.agg (tv'.av s)) h' n'):CW (EF (K+2)) 134 [.agg (tv.av s)] h n Q:=by
 refine aD aeT rfl ?_;repeat' (first|(simp (disch:=omega) only[go_sem,simprocAttr,ub.old,UO,TS.av])|(simp (disch:=omega) only[go_sem,simprocAttr,UO,TS.av])|(refine aT ?_ ?_<;>(intro hb hd;rw[hb];clear hb))|(with_reducible refine aj ?_))
 generalize hh:Tr.set (Tr.set h n _) (n+1) _=h0;have u0:Up h n h0 (n+2):=by rw[<-hh];exact aI
 have q0:h0.get n=some (.row 43 (tv.av s)):=by rw[<-hh];simp (disch:=omega) only[go_sem]
 have p0:h0.get (n+1)=some (.row 43 [.i .i64 0,.k 1,.k 1,.k 1]):=by rw[<-hh];simp (disch:=omega) only[go_sem]
 clear hh;rw[bR];refine eG UE zh _ (hS.ah.up u0) l1 λv1 h1 n1 u1 g1 b1 _=>?_;have q1:=(u1.old n (by omega)).trans q0;have e1:=u1.le;simp (disch:=omega) only[go_sem,simprocAttr,g1.cl,q1,TS.av];rw[bR];refine eG YO R_ _ (hS.used.up (u0.trans u1)) l2 λv2 h2 n2 u2 g2 b2 _=>?_;have q2:=(u2.old n (by omega)).trans q1;have e2:=u2.le;simp (disch:=omega) only[go_sem,simprocAttr,g2.cl,q2,TS.av];rw[bR];refine eG aez YN _ (hS.marks.up ((u0.trans u1).trans u2)) l3 λv3 h3 n3 u3 g3 b3 _=>?_;have q3:=(u3.old n (by omega)).trans q2;have e3:=u3.le;simp (disch:=omega) only[go_sem,simprocAttr,g1.cl,g2.cl,g3.cl,q3,q2,q1,q0,TS.av];have p3:=(u3.old (n+1) (by omega)).trans ((u2.old (n+1) (by omega)).trans ((u1.old (n+1) (by omega)).trans p0));simp (disch:=omega) only[go_sem,simprocAttr,p3];have k1:=((g1.sl.kp (X:=λx=>x<n+2) λx hx=>by have:=b1 x hx;omega).up u2).up u3;have k2:=(g2.sl.kp (X:=λx=>x<n+2) λx hx=>by have:=b2 x hx;omega).up u3;have k3:=g3.sl.kp (X:=λx=>x<n+2) λx hx=>by have:=b3 x hx;omega
 have kk:Kp (λx=>x<n+2) h3 n3 λh n=>bX h n ⟨v1,v2,v3⟩ s:=((k1.and k2).and k3).wk λh n ⟨⟨a,b⟩,c⟩=>⟨a,b,c⟩;refine hQ ⟨v1,v2,v3⟩ _ _ aI ?_;exact((((kk.set (.inl (by omega)) (Nat.le_refl _)).set (.inl (by omega)) (Nat.le_refl _)).set (.inl (by omega)) (Nat.le_refl _)).set (.inl (by omega)) (Nat.le_refl _)).le λx _ hx=>by omega
theorem D7(K:Nat)(hC:aY h n v C)(ho:C.off.length<=1000000){party:Int}{p:aP}(hS:bX h n tv p.st)
 (hQ:∀h' n',Up h n h' n'->Q (.b (decide (0<=party)&&decide (party<C.aC)&&C.dQ p.st)) h' n'):CW (EF (K+8)) 133 [.agg (v.av C),.i .i64 party,.agg (tv.pv p)] h n Q:=by
 refine aD aeU rfl ?_;repeat' (first|(simp (disch:=omega) only[go_sem,simprocAttr,ub.old,UQ,CS.av,TS.pv])|(simp (disch:=omega) only[go_sem,simprocAttr,UQ,CS.av,TS.pv])|((first|rw[aU]|rw[bR]);with_reducible refine gQ _ (hC.up aI) ho (hS.up aI) λh2 n2 u2=>?_;(first|replace ub:=Up.trans ub (Up.trans aI u2)|have ub:=u2);have hle:=ub.le;clear u2)|(refine aT ?_ ?_<;>(intro hb hd;rw[hb];clear hb))|(with_reducible refine aj ?_))
 all_goals exact bW hQ (by simp[*]) aI
end
end
end Go.Proofs.YtjoohkjmoghmoaaGreatDoor
