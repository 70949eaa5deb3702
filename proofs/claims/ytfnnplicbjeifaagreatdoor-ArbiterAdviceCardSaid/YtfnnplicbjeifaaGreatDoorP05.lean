/- part -/
import Derived.Test.YtfnnplicbjeifaaGreatDoorP04
set_option linter.all false
namespace Go.Proofs.YtfnnplicbjeifaaGreatDoor
section
noncomputable section
section
variable {h h':AH} {n n':Nat} {b:WB} {v:CS} {C:ay} {s:aI} {tv:TS} {Q:AV->AH->Nat->Prop}
theorem AU{w e b:Nat}{cells:List AV}{x:AV}{α:Type}{c:α->List AV}{l:List α}{cap:Option Nat}(hb:h.get b=some (.row e cells))(hl:cells.length=l.length*w)(hx:SL h n w x c l):sV w h n (.sl b 0 0 l.length cap) x= .ok (.i .i64 (l.length:Nat)) (h.set b (.row e (l.flatMap c))) n:=by
 have hw:=hx.1;have e1:mR (.sl b 0 0 l.length cap)=some l.length:=rfl;have e2:Nat.min l.length l.length=l.length:=Nat.min_self _;have e3:wJ (l.flatMap c) 0 cells=some (l.flatMap c):=zY (abj (by rw[hl,bN hw]));simp only[sV,e1,e2,hx.ap.1,hx.ap.2,aP,hb,e3];rfl
theorem aK.mb(so:aK C s):MB s.marks:=λm hm=>by
 have ok:=ay.ok so.con;obtain⟨i,hi⟩:=List.getElem?_of_mem hm;have hil:=(List.getElem?_eq_some_iff.1 hi).1;have hic:i<C.clauses.length:=by have:=so.lm;omega
 have hk:C.clauses[i]?=some C.clauses[i]:=List.getElem?_eq_some_iff.2 ⟨hic,rfl⟩;have zl:=ok.clause hk;have h1:=so.marks i m _ hi hk;have h2:=bS.got zl h1;have h3: -1000<=m.left/\m.left<=1000:=by
  have:=zl.O6;have:=zl.O7;rcases h1 with e|e|e
  .omega
  .rcases e with⟨e1|e1,e2,e3,_⟩<;>omega
  .omega
 omega
theorem oK(K:Nat)(hC:aY h n v C)(ho:C.off.length<=1000000)(hS:bI h n tv s)(t:Int)
 (jV:(C.dB s=false\/t< -1\/C.acts.length<=t)->∀h' n',Up h n h' n'->Q (.bJ [VG,.i .i64 1]) h' n')
 (rQ:C.dB s=true-> -1<=t->t<C.acts.length->s.day=C.days->∀h' n',Up h n h' n'->Q (.bJ [VG,.i .i64 13]) h' n')
 (KA:C.dB s=true-> -1<=t->t<C.acts.length->s.day<C.days->∀tv h' n',Up h n h' n'->Kp (λx=>x<n) h' n' (λh n=>bI h n tv (C.aU s t))->Q (.bJ [.agg (tv.av (C.aU s t)),.i .i64 0]) h' n'):CW (EF (K+8)) 77 [.agg (v.av C),.agg (tv.av s),.i .i64 t] h n Q:=by
 refine aC c18 rfl ?_;repeat' (first|(simp (disch:=omega) only[go_sem,simprocAttr,ub.old,m18,CS.av,TS.av,hC.acts.len,hS.ah.len,hS.used.len,hS.marks.len])|(simp (disch:=omega) only[go_sem,simprocAttr,m18,CS.av,TS.av,hC.acts.len,hS.ah.len,hS.used.len,hS.marks.len])|((first|rw[aR]|rw[bF]);with_reducible refine gJ _ (hC.up aH) ho (hS.up aH) λh2 n2 u2=>?_;(first|replace ub:=Up.trans ub (Up.trans aH u2)|have ub:=u2);have hle:=ub.le;clear u2)|(refine aS ?_ ?_<;>(intro hb hd;rw[hb];clear hb))|(with_reducible refine aj ?_))
 .exact jV (.inl hd) _ _ aH
 .exact jV (.inr (.inl hd)) _ _ aH
 .exact jV (.inr (.inr hd)) _ _ aH
 .exact rQ ‹_› (by omega) (by omega) hd _ _ aH
 .rename_i hst h1 h2
  have so:=(bR C s).1 hst;have ok:=ay.ok so.con;have FQ:=ok.dJ;have aiL:=ok.iX;have aqx:=ok.jm;have lh:=so.lh;have lu:=so.lu;have lm:=so.lm;have jW:s.day<C.days:=by have:=so.Fz;omega
  repeat' (first|(simp (disch:=omega) only[go_sem,simprocAttr,ub.old,hS.ah.len,hS.used.len,hS.marks.len])|(simp (disch:=omega) only[go_sem,simprocAttr,hS.ah.len,hS.used.len,hS.marks.len])|(refine aS ?_ ?_<;>(intro hb hd;rw[hb];clear hb))|(with_reducible refine aj ?_))
  generalize hh:Tr.set (Tr.set (Tr.set (Tr.set _ n2 _) (n2+1) _) (n2+2) _) (n2+3) _=h4;have ux:Up h n h4 (n2+5):=by rw[<-hh];exact aH
  have hf1:h4.get n=some (.row 27 (v.av C)):=by rw[<-hh];simp (disch:=omega) only[go_sem,ub.old]
  have hf2:h4.get (n+1)=some (.row 77 (tv.av s)):=by rw[<-hh];simp (disch:=omega) only[go_sem,ub.old]
  have hf3:h4.get (n+1+1)=some (.row 77 [.i .i64 0,.k 1,.k 1,.k 1]):=by rw[<-hh];simp (disch:=omega) only[go_sem,ub.old]
  have r0:h4.get (n2+3)=some (.row 199 [.i .i64 C.aD,v.h,v.u,v.a,v.k,.i .i64 C.days,v.o,.i .i64 s.day,.sl n2 0 0 s.ah.length (some s.ah.length),.sl (n2+1) 0 0 s.used.length (some s.used.length),.sl (n2+2) 0 0 s.marks.length (some s.marks.length)]):=by rw[<-hh];simp (disch:=omega) only[go_sem]
  have r1:h4.get n2=some (.row 3 (rep s.ah.length (ci 0))):=by rw[<-hh];simp (disch:=omega) only[go_sem]
  have r2:h4.get (n2+1)=some (.row 4 (rep s.used.length (cb false))):=by rw[<-hh];simp (disch:=omega) only[go_sem]
  have r3:h4.get (n2+2)=some (.row 185 (rep s.marks.length (aA.av ⟨0,0,0,0,false⟩))):=by rw[<-hh];simp (disch:=omega) only[go_sem]
  have kc:Kp (λx=>n+1+1+1<=x) h4 (n2+5) λh n=>aY h n v C:=by
   rw[<-hh];refine(((((Kp.Pm (n:=n+1+1+1) (λh' n' u=>hC.up (Up.trans ?_ u)) (λx hx=>hx)).up ub).set (.inl ?_) (Nat.le_refl _)).set (.inl ?_) (Nat.le_refl _)).set (.inl ?_) (Nat.le_refl _)).set (.inl ?_) ?_
   .exact aH
   all_goals first|omega|(show n+1+1+1<=_;omega)
  have c1:sV 1 h4 (n2+5) (.sl n2 0 0 s.ah.length (some s.ah.length)) tv.h= .ok (.i .i64 (s.ah.length:Nat)) (h4.set n2 (.row 3 (s.ah.flatMap ci))) (n2+5):=AU r1 (by rw[jr ci];rw[bN (c:=ci) (w:=1) (λ_=>rfl)];simp) (hS.ah.up ux);have u5:Up h n (h4.set n2 (.row 3 (s.ah.flatMap ci))) (n2+5):=by exact aH
  have c2:sV 1 (h4.set n2 (.row 3 (s.ah.flatMap ci))) (n2+5) (.sl (n2+1) 0 0 s.used.length (some s.used.length)) tv.u= .ok (.i .i64 (s.used.length:Nat)) ((h4.set n2 (.row 3 (s.ah.flatMap ci))).set (n2+1) (.row 4 (s.used.flatMap cb))) (n2+5):=AU (by rw[au (by omega)];exact r2) (by rw[jr cb];rw[bN (c:=cb) (w:=1) (λ_=>rfl)];simp) (hS.used.up u5);have u6:Up h n ((h4.set n2 (.row 3 (s.ah.flatMap ci))).set (n2+1) (.row 4 (s.used.flatMap cb))) (n2+5):=by exact aH
  have c3:sV 5 ((h4.set n2 (.row 3 (s.ah.flatMap ci))).set (n2+1) (.row 4 (s.used.flatMap cb))) (n2+5) (.sl (n2+2) 0 0 s.marks.length (some s.marks.length)) tv.m= .ok (.i .i64 (s.marks.length:Nat)) (((h4.set n2 (.row 3 (s.ah.flatMap ci))).set (n2+1) (.row 4 (s.used.flatMap cb))).set (n2+2) (.row 185 (s.marks.flatMap aA.av))) (n2+5):=AU (by rw[au (by omega),au (by omega)];exact r3) (by rw[jr aA.av];rw[bN (c:=aA.av) (w:=5) (λ_=>rfl)];simp) (hS.marks.up u6);have hle:n+1+1+1<=n2:=by omega
  clear hh ub;repeat' (first|(simp (disch:=omega) only[go_sem,simprocAttr,ub.old,c1,c2,c3,r0,hf1,hf2,hf3,TS.av])|(simp (disch:=omega) only[go_sem,simprocAttr,c1,c2,c3,r0,hf1,hf2,hf3,TS.av])|(refine aS ?_ ?_<;>(intro hb hd;rw[hb];clear hb))|(with_reducible refine aj ?_))
  all_goals
   generalize hh7:Tr.set (Tr.set (Tr.set h4 n2 _) (n2+1) _) (n2+2) _=h7;have u7:Up h n h7 (n2+5):=by rw[<-hh7];exact aH
   have q3:h7.get (n+1+1)=some (.row 77 [.i .i64 0,.k 1,.k 1,.k 1]):=by rw[<-hh7];simp (disch:=omega) only[go_sem,hf3]
   obtain⟨b,Yo,hbg,hbX,w7⟩:∃b:WB,b.B=n+1+1+1/\b.g=n2+3/\(∀x,b.X x->n+1+1+1<=x)/\Wk h7 (n2+5) b v C s:=by
    rw[<-hh7];refine⟨⟨n+1+1+1,n2+3,n2,n2+1,n2+2,some s.ah.length,some s.used.length,some s.marks.length⟩,rfl,rfl,?_,?_,?_,?_,?_,by show n2+3<n2+5;omega,by show n2<n2+5;omega,by show n2+1<n2+5;omega,by show n2+2<n2+5;omega,λk hk=>(by cases hk;exact Nat.le_refl _),λk hk=>(by cases hk;exact Nat.le_refl _),λk hk=>(by cases hk;exact Nat.le_refl _),⟨by show n+1+1+1<=n2+3;omega,by show n+1+1+1<=n2;omega,by show n+1+1+1<=n2+1;omega,by show n+1+1+1<=n2+2;omega⟩,?_⟩
    .rintro x (e|e|e|e)
     .have:x=n2+3:=e;omega
     .have:x=n2:=e;omega
     .have:x=n2+1:=e;omega
     .have:x=n2+2:=e;omega
    .simp (disch:=omega) only[go_sem,r0]
    .simp (disch:=omega) only[go_sem]
    .simp (disch:=omega) only[go_sem]
    .simp (disch:=omega) only[go_sem]
    .exact((kc.set (.inl (by show n+1+1+1<=_;omega)) (Nat.le_refl _)).set (.inl (by show n+1+1+1<=_;omega)) (Nat.le_refl _)).set (.inl (by show n+1+1+1<=_;omega)) (Nat.le_refl _)
   clear hh7 c1 c2 c3 r0 r1 r2 r3 kc hf1 hf2 hf3 u5 u6;rw[<-hbg]
  .rw[aR]
   refine TF _ w7 ok ho lm lh so.mb (by have:=so.BJ;have:=so.Fz;have:=ok.O4;omega) λh8 n8 w8 u8=>?_;have p3:=(u8.old (n+1+1) (by omega) (λe=>by have:=hbX _ e;omega)).trans q3;repeat' (first|(simp (disch:=omega) only[go_sem,simprocAttr,ub.old,p3,w8.row,WB.cells])|(simp (disch:=omega) only[go_sem,simprocAttr,p3,w8.row,WB.cells])|(refine aS ?_ ?_<;>(intro hb hd;rw[hb];clear hb))|(with_reducible refine aj ?_))
   have hst':C.aU s t=C.tick s:=by unfold ay.aU;rw[if_pos hd]
   have res:=KA hst (by omega) (by omega) jW (b.tv (C.tick s));rw[hst']at res;refine res _ _ ?_ ?_
   .have:=((UX.up u7).trans u8).Ym λx hx=>by have:=hbX x hx;omega
    exact aH
   .exact(w8.PI.set (.inl (by rw[Yo];omega)) (Nat.le_refl _)).le λx _ hx=>by rw[Yo];omega
  .rw[aR]
   obtain⟨i,rfl⟩:=Int.eq_ofNat_of_zero_le (show 0<=t by omega);obtain⟨a,ha⟩:∃a,C.acts[i]?=some a:=⟨C.acts[i]'(by omega),List.getElem?_eq_some_iff.2 ⟨by omega,rfl⟩⟩;refine Pz _ w7 ok lm lh lu so.mb ha λh8 n8 w8 u8=>?_;have p3:=(u8.old (n+1+1) (by omega) (λe=>by have:=hbX _ e;omega)).trans q3;repeat' (first|(simp (disch:=omega) only[go_sem,simprocAttr,ub.old,p3,w8.row,WB.cells])|(simp (disch:=omega) only[go_sem,simprocAttr,p3,w8.row,WB.cells])|(refine aS ?_ ?_<;>(intro hb hd;rw[hb];clear hb))|(with_reducible refine aj ?_))
   have hst':C.aU s (i:Nat)=C.act i a s:=by unfold ay.aU;rw[if_neg hd,show((i:Nat):Int).toNat=i by omega,ha]
   have res:=KA hst (by omega) (by omega) jW (b.tv (C.act i a s));rw[hst']at res;refine res _ _ ?_ ?_
   .have:=((UX.up u7).trans u8).Ym λx hx=>by have:=hbX x hx;omega
    exact aH
   .exact(w8.PI.set (.inl (by rw[Yo];omega)) (Nat.le_refl _)).le λx _ hx=>by rw[Yo];omega
end
end
end
section
noncomputable section
set_option maxRecDepth 1000000
set_option maxHeartbeats 4000000
def BK:List UInt8:=[48,48,48,49,48,50,48,51,48,52,48,53,48,54,48,55,48,56,48,57,49,48,49,49,49,50,49,51,49,52,49,53,49,54,49,55,49,56,49,57,50,48,50,49,50,50,50,51,50,52,50,53,50,54,50,55,50,56,50,57,51,48,51,49,51,50,51,51,51,52,51,53,51,54,51,55,51,56,51,57,52,48,52,49,52,50,52,51,52,52,52,53,52,54,52,55,52,56,52,57,53,48,53,49,53,50,53,51,53,52,53,53,53,54,53,55,53,56,53,57,54,48,54,49,54,50,54,51,54,52,54,53,54,54,54,55,54,56,54,57,55,48,55,49,55,50,55,51,55,52,55,53,55,54,55,55,55,56,55,57,56,48,56,49,56,50,56,51,56,52,56,53,56,54,56,55,56,56,56,57,57,48,57,49,57,50,57,51,57,52,57,53,57,54,57,55,57,56,57,57]
def Iy:MC:=(.seq (.reg [nl (.mv (.s 49)),nl (.je 7 (.s 47) (.s 49)),nl (.ld (some 7) (.v 0)),nk 8 (.al 161 [(.i .i64 0),(.i .i64 0),(.i .i64 0),(.i .i64 0),(.i .i64 0),(.i .i64 0),(.i .i64 0)]),nk 7 (.mv (.v 2)),⟨none,(.st 7 (.s 8) (.v 0)),.n⟩]) (.seq (.reg [nk 9 (.mv (.c (.i .i64 (.negSucc 0))))]) (.seq (.seq (.reg [nl (.fa 1 (.s 8)),nl (.ld none (.v 0)),nk 56 (.bin .neq 3 (.v 0) (.c (.i .i64 (.negSucc 0))))]) (.cond (.s 56) (.reg [nl (.fa 0 (.s 1)),nl (.fa 1 (.v 0)),nl (.ld none (.v 0)),nl (.fa 1 (.s 8)),nl (.ld none (.v 0)),nl (.je 1 (.v 2) (.v 0)),nl (.ld none (.v 0)),nk 9 (.mv (.v 0))]) .skip)) (.seq (.seq (.reg [nl (.mv (.s 9)),nl (.ld none (.s 3)),nl (.bin .eql 3 (.v 1) (.v 0)),nl (.fa 4 (.s 1)),nl (.ld none (.v 0)),nk 69 (.bin .neq 4 (.v 2) (.v 0))]) (.cond (.s 69) (.exit 1) .skip)) (.seq (.reg [nl (.ld (some 7) (.s 2)),nl (.fa 0 (.s 1)),nl (.ld (some 4) (.v 0)),nl (.mv (.s 7)),nl (.call (.c (.f 77 [])) [(.v 3),(.v 1),(.v 0)]),nl (.mv (.v 0)),nl (.ext (.v 0) 0),nl (.ext (.v 1) 1),nk 10 (.al 77 [(.i .i64 0),(.k 1),(.k 1),(.k 1)]),⟨none,(.st 4 (.s 10) (.v 1)),.n⟩,nl (.mv (.v 0))]) (.seq (.reg [nl (.ld (some 4) (.s 10)),nl (.fa 0 (.s 1)),nl (.ld (some 4) (.v 0)),nl (.call (.c (.f 123 [])) [(.v 2),(.v 0)]),nl (.not (.v 0)),nl (.mv (.v 0)),ng 0 true (.mv (.s 0)),ng 1 true (.mv (.s 7)),ng 2 true (.ld (some 4) (.s 10)),ng 3 true (.Ki [(.i .i64 0),(.k 1),(.k 1),(.k 1),(.b false)] [(0,(4,(.v 0))),(4,(1,(.c (.b true))))]),ng 4 true (.call (.v 3) [(.v 2),(.v 0)]),ng 5 true (.not (.v 0)),nk 90 (.pick (.v 6) (.v 0) (.c (.b false)))]) (.cond (.s 90) .ret .skip)))))))
def Yp:MC:=(.seq (.seq (.reg [nl (.fa 4 (.s 1)),nl (.ld none (.v 0)),nl (.mv (.v 0)),ng 0 true (.mv (.s 0)),ng 1 true (.fa 0 (.s 1)),ng 2 true (.ld (some 4) (.v 0)),ng 3 true (.call (.c (.f 89 [])) [(.v 0)]),ng 4 true (.Ki [(.i .i64 0),(.k 1),(.k 1),(.k 1),(.b false)] [(0,(4,(.v 0)))]),ng 5 true (.call (.v 4) [(.c (.i .i64 (.negSucc 1))),(.v 0)]),ng 6 true (.not (.v 0)),nl (.pick (.v 7) (.v 0) (.c (.b false))),nl (.mv (.v 0)),ng 0 false (.fa 0 (.s 1)),ng 1 false (.fa 0 (.v 0)),ng 2 false (.ld none (.v 0)),ng 3 false (.fa 5 (.s 2)),ng 4 false (.ld none (.v 0)),ng 5 false (.bin .geq 3 (.v 2) (.v 0)),nk 30 (.pick (.v 6) (.c (.b true)) (.v 0))]) (.cond (.s 30) .ret .skip)) (.seq (.seq (.reg [nl (.fa 4 (.s 1)),nl (.ld none (.v 0)),nk 33 (.not (.v 0))]) (.cond (.s 33) (.seq (.reg [nl (.ld (some 7) (.s 2)),nl (.fa 0 (.s 1)),nl (.ld (some 4) (.v 0)),nl (.call (.c (.f 77 [])) [(.v 2),(.v 0),(.c (.i .i64 (.negSucc 0)))]),nl (.mv (.v 0)),nl (.ext (.v 0) 0),nl (.ext (.v 1) 1),nk 5 (.al 77 [(.i .i64 0),(.k 1),(.k 1),(.k 1)]),⟨none,(.st 4 (.s 5) (.v 1)),.n⟩,nl (.mv (.v 0))]) (.seq (.reg [nl (.mv (.s 0)),nl (.ld (some 4) (.s 5)),nl (.Ki [(.i .i64 0),(.k 1),(.k 1),(.k 1),(.b false)] [(0,(4,(.v 0))),(4,(1,(.c (.b true))))]),nl (.call (.v 2) [(.c (.i .i64 (.negSucc 0))),(.v 0)]),nk 45 (.not (.v 0))]) (.cond (.s 45) .ret .skip))) .skip)) (.seq (.reg [nl (.fa 3 (.s 2)),nk 47 (.ld none (.v 0)),nk 48 (.ig (.s 47)),nk 49 (.mv (.c (.i .i64 0)))]) (.blk 0 (zf 3 49 48 50 0 1 Iy)))))
theorem c233:yc Tryz.prog sl0 154=some ([true,true,true,true],Yp,[]):=by kernel_rfl
def PK:MC:=(.seq (.reg [nl (.je 5 (.s 56) (.s 58)),nl (.ld (some 5) (.v 0)),nk 11 (.al 185 [(.i .i64 0),(.i .i64 0),(.i .i64 0),(.i .i64 0),(.b false)]),⟨none,(.st 5 (.s 11) (.v 0)),.n⟩]) (.seq (.reg [nl (.mv (.s 4)),nl (.fa 0 (.s 11)),nl (.ld none (.v 0)),nl (.call (.v 2) [(.v 0)])]) (.seq (.reg [nl (.mv (.s 4)),nl (.fa 1 (.s 11)),nl (.ld none (.v 0)),nl (.call (.v 2) [(.v 0)])]) (.seq (.reg [nl (.mv (.s 4)),nl (.fa 2 (.s 11)),nl (.ld none (.v 0)),nl (.call (.v 2) [(.v 0)])]) (.seq (.reg [nl (.mv (.s 4)),nl (.fa 3 (.s 11)),nl (.ld none (.v 0)),nl (.call (.v 2) [(.v 0)])]) (.reg [nl (.mv (.s 5)),nl (.fa 4 (.s 11)),nl (.ld none (.v 0)),nl (.call (.v 2) [(.v 0)])]))))))
def PL:MC:=(.seq (.reg [nl (.je 1 (.s 44) (.s 46)),nl (.ld none (.v 0)),nk 9 (.mv (.v 0))]) (.reg [nl (.mv (.s 5)),nl (.mv (.s 9)),nl (.call (.v 1) [(.v 0)])]))
def PN:MC:=(.seq (.reg [nl (.je 1 (.s 32) (.s 34)),nl (.ld none (.v 0)),nk 7 (.mv (.v 0))]) (.reg [nl (.mv (.s 4)),nl (.mv (.s 7)),nl (.call (.v 1) [(.v 0)])]))
def mTx(a b:FuncId):MC:=(.seq (.reg [nk 1 (.box 114 5 (.s 0)),nk 2 (.mv (.c (.s [])))]) (.seq (.reg [nl (.fa 0 (.s 1)),nl (.fa 3 (.v 0)),nl (.ld none (.v 0)),nl (.ig (.v 0)),nl (.bin .mul 3 (.c (.i .i64 12)) (.v 0)),nl (.bin .add 3 (.c (.i .i64 32)) (.v 0)),nl (.Lr 5 [(.i .u8 0)] (.c (.i .i64 0)) (.v 0)),nk 3 (.al 276 [(.k 1)]),⟨none,(.st 1 (.s 3) (.v 0)),.n⟩]) (.seq (.reg [nl (.Hw a [(.s 3)]),nk 4 (.mv (.v 0))]) (.seq (.reg [nl (.Hw b [(.s 3)]),nk 5 (.mv (.v 0))]) (.seq (.reg [nl (.mv (.s 5)),nl (.fa 4 (.s 1)),nl (.ld none (.v 0)),nl (.call (.v 2) [(.v 0)])]) (.seq (.reg [nl (.mv (.s 4)),nl (.fa 0 (.s 1)),nl (.fa 0 (.v 0)),nl (.ld none (.v 0)),nl (.call (.v 3) [(.v 0)])]) (.seq (.seq (.reg [nl (.fa 0 (.s 1)),nl (.fa 1 (.v 0)),nk 32 (.ld none (.v 0)),nk 33 (.ig (.s 32)),nk 34 (.mv (.c (.i .i64 0)))]) (.blk 0 (zf 3 34 33 35 0 1 PN))) (.seq (.seq (.reg [nl (.fa 0 (.s 1)),nl (.fa 2 (.v 0)),nk 44 (.ld none (.v 0)),nk 45 (.ig (.s 44)),nk 46 (.mv (.c (.i .i64 0)))]) (.blk 2 (zf 3 46 45 47 2 3 PL))) (.seq (.seq (.reg [nl (.fa 0 (.s 1)),nl (.fa 3 (.v 0)),nk 56 (.ld none (.v 0)),nk 57 (.ig (.s 56)),nk 58 (.mv (.c (.i .i64 0)))]) (.blk 4 (zf 3 58 57 59 4 5 PK))) (.seq (.reg [nl (.ld none (.s 3)),nl (.Np (.v 0)),nk 2 (.mv (.v 0))]) .ret))))))))))
theorem aiP:yc Tryz.prog sl0 90=some ([true],mTx 152 153,[(.t 2)]):=by kernel_rfl
def Yq:MC:=(.seq (.reg [nk 2 (.mv (.c (.s [])))]) (.seq (.seq (.reg [nl (.mv (.s 0)),nk 4 (.bin .lss 3 (.v 0) (.c (.i .i64 10)))]) (.cond (.s 4) (.seq (.reg [nl (.mv (.s 0)),nl (.mv (.s 0)),nl (.bin .add 3 (.v 0) (.c (.i .i64 1))),nl (.RG (.c (.s [48,49,50,51,52,53,54,55,56,57,97,98,99,100,101,102,103,104,105,106,107,108,109,110,111,112,113,114,115,116,117,118,119,120,121,122])) (some (.v 2)) (some (.v 0))),nk 2 (.mv (.v 0))]) .ret) .skip)) (.seq (.reg [nl (.mv (.s 0)),nl (.bin .mul 3 (.v 0) (.c (.i .i64 2))),nl (.mv (.s 0)),nl (.bin .mul 3 (.v 0) (.c (.i .i64 2))),nl (.bin .add 3 (.v 0) (.c (.i .i64 2))),nl (.RG (.c (.s BK)) (some (.v 3)) (some (.v 0))),nk 2 (.mv (.v 0))]) .ret)))
theorem aiQ:yc Tryz.prog sl0 278=some ([true],Yq,[(.t 2)]):=by kernel_rfl
def Iz:MC:=(.seq (.seq (.reg [nl (.mv (.s 4)),nk 20 (.bin .geq 3 (.v 0) (.c (.i .i64 8)))]) (.cond (.s 20) .skip (.exit 0))) (.blk 1 (.seq (.reg [nl (.mv (.s 1)),nl (.bin .rem 359 (.v 0) (.c (.i .u64 100000000))),nl (.Ol .u32 (.v 0)),nk 5 (.mv (.v 0))]) (.seq (.reg [nl (.mv (.s 1)),nl (.bin .quo 359 (.v 0) (.c (.i .u64 100000000))),nk 1 (.mv (.v 0))]) (.seq (.reg [nl (.mv (.s 5)),nl (.bin .quo 357 (.v 0) (.c (.i .u32 10000))),nl (.mv (.s 5)),nl (.bin .rem 357 (.v 0) (.c (.i .u32 10000))),nk 6 (.mv (.v 2)),nk 7 (.mv (.v 0))]) (.seq (.reg [nl (.mv (.s 7)),nl (.bin .quo 357 (.v 0) (.c (.i .u32 100))),nl (.bin .mul 357 (.v 0) (.c (.i .u32 2))),nl (.mv (.s 7)),nl (.bin .rem 357 (.v 0) (.c (.i .u32 100))),nl (.bin .mul 357 (.v 0) (.c (.i .u32 2))),nk 8 (.mv (.v 3)),nk 9 (.mv (.v 0))]) (.seq (.reg [nl (.mv (.s 6)),nl (.bin .quo 357 (.v 0) (.c (.i .u32 100))),nl (.bin .mul 357 (.v 0) (.c (.i .u32 2))),nl (.mv (.s 6)),nl (.bin .rem 357 (.v 0) (.c (.i .u32 100))),nl (.bin .mul 357 (.v 0) (.c (.i .u32 2))),nk 10 (.mv (.v 3)),nk 11 (.mv (.v 0))]) (.seq (.zW 0 [mq 0 [] (.mv (.s 0)),mq 0 [] (.mv (.s 4)),mq 0 [1] (.bin .sub 3 (.v 0) (.c (.i .i64 1))),mq 0 [] (.mv (.s 0)),mq 0 [] (.mv (.s 4)),mq 0 [4] (.bin .sub 3 (.v 0) (.c (.i .i64 2))),mq 0 [] (.mv (.s 9)),mq 0 [6] (.bin .add 357 (.v 0) (.c (.i .u32 1))),mq 0 [7] (.Br (.c (.s BK)) (.v 0)),mq 0 [] (.mv (.s 9)),mq 0 [9] (.Br (.c (.s BK)) (.v 0)),mq 0 [0,2] (.je 1 (.v 0) (.v 1)),mq 3 [8,11] (.st 1 (.v 1) (.v 0)),mq 0 [3,5] (.je 1 (.v 0) (.v 1)),mq 3 [10,13] (.st 1 (.v 1) (.v 0))] [] []) (.seq (.zW 0 [mq 0 [] (.mv (.s 0)),mq 0 [] (.mv (.s 4)),mq 0 [1] (.bin .sub 3 (.v 0) (.c (.i .i64 3))),mq 0 [] (.mv (.s 0)),mq 0 [] (.mv (.s 4)),mq 0 [4] (.bin .sub 3 (.v 0) (.c (.i .i64 4))),mq 0 [] (.mv (.s 8)),mq 0 [6] (.bin .add 357 (.v 0) (.c (.i .u32 1))),mq 0 [7] (.Br (.c (.s BK)) (.v 0)),mq 0 [] (.mv (.s 8)),mq 0 [9] (.Br (.c (.s BK)) (.v 0)),mq 0 [0,2] (.je 1 (.v 0) (.v 1)),mq 3 [8,11] (.st 1 (.v 1) (.v 0)),mq 0 [3,5] (.je 1 (.v 0) (.v 1)),mq 3 [10,13] (.st 1 (.v 1) (.v 0))] [] []) (.seq (.zW 0 [mq 0 [] (.mv (.s 0)),mq 0 [] (.mv (.s 4)),mq 0 [1] (.bin .sub 3 (.v 0) (.c (.i .i64 5))),mq 0 [] (.mv (.s 0)),mq 0 [] (.mv (.s 4)),mq 0 [4] (.bin .sub 3 (.v 0) (.c (.i .i64 6))),mq 0 [] (.mv (.s 11)),mq 0 [6] (.bin .add 357 (.v 0) (.c (.i .u32 1))),mq 0 [7] (.Br (.c (.s BK)) (.v 0)),mq 0 [] (.mv (.s 11)),mq 0 [9] (.Br (.c (.s BK)) (.v 0)),mq 0 [0,2] (.je 1 (.v 0) (.v 1)),mq 3 [8,11] (.st 1 (.v 1) (.v 0)),mq 0 [3,5] (.je 1 (.v 0) (.v 1)),mq 3 [10,13] (.st 1 (.v 1) (.v 0))] [] []) (.seq (.zW 0 [mq 0 [] (.mv (.s 0)),mq 0 [] (.mv (.s 4)),mq 0 [1] (.bin .sub 3 (.v 0) (.c (.i .i64 7))),mq 0 [] (.mv (.s 0)),mq 0 [] (.mv (.s 4)),mq 0 [4] (.bin .sub 3 (.v 0) (.c (.i .i64 8))),mq 0 [] (.mv (.s 10)),mq 0 [6] (.bin .add 357 (.v 0) (.c (.i .u32 1))),mq 0 [7] (.Br (.c (.s BK)) (.v 0)),mq 0 [] (.mv (.s 10)),mq 0 [9] (.Br (.c (.s BK)) (.v 0)),mq 0 [0,2] (.je 1 (.v 0) (.v 1)),mq 3 [8,11] (.st 1 (.v 1) (.v 0)),mq 0 [3,5] (.je 1 (.v 0) (.v 1)),mq 3 [10,13] (.st 1 (.v 1) (.v 0))] [] []) (.reg [nl (.mv (.s 4)),nl (.bin .sub 3 (.v 0) (.c (.i .i64 8))),nk 4 (.mv (.v 0))]))))))))))))
def Yr:MC:=(.seq (.reg [nl (.mv (.s 0)),nl (.ig (.v 0)),nk 4 (.mv (.v 0))]) (.seq (.blk 0 (.loop Iz)) (.seq (.reg [nl (.mv (.s 1)),nl (.Ol .u32 (.v 0)),nk 12 (.mv (.v 0))]) (.seq (.seq (.reg [nl (.mv (.s 4)),nk 99 (.bin .geq 3 (.v 0) (.c (.i .i64 4)))]) (.cond (.s 99) (.seq (.reg [nl (.mv (.s 12)),nl (.bin .rem 357 (.v 0) (.c (.i .u32 10000))),nk 13 (.mv (.v 0))]) (.seq (.reg [nl (.mv (.s 12)),nl (.bin .quo 357 (.v 0) (.c (.i .u32 10000))),nk 12 (.mv (.v 0))]) (.seq (.reg [nl (.mv (.s 13)),nl (.bin .quo 357 (.v 0) (.c (.i .u32 100))),nl (.bin .mul 357 (.v 0) (.c (.i .u32 2))),nl (.mv (.s 13)),nl (.bin .rem 357 (.v 0) (.c (.i .u32 100))),nl (.bin .mul 357 (.v 0) (.c (.i .u32 2))),nk 14 (.mv (.v 3)),nk 15 (.mv (.v 0))]) (.seq (.zW 0 [mq 0 [] (.mv (.s 0)),mq 0 [] (.mv (.s 4)),mq 0 [1] (.bin .sub 3 (.v 0) (.c (.i .i64 1))),mq 0 [] (.mv (.s 0)),mq 0 [] (.mv (.s 4)),mq 0 [4] (.bin .sub 3 (.v 0) (.c (.i .i64 2))),mq 0 [] (.mv (.s 15)),mq 0 [6] (.bin .add 357 (.v 0) (.c (.i .u32 1))),mq 0 [7] (.Br (.c (.s BK)) (.v 0)),mq 0 [] (.mv (.s 15)),mq 0 [9] (.Br (.c (.s BK)) (.v 0)),mq 0 [0,2] (.je 1 (.v 0) (.v 1)),mq 3 [8,11] (.st 1 (.v 1) (.v 0)),mq 0 [3,5] (.je 1 (.v 0) (.v 1)),mq 3 [10,13] (.st 1 (.v 1) (.v 0))] [] []) (.seq (.zW 0 [mq 0 [] (.mv (.s 0)),mq 0 [] (.mv (.s 4)),mq 0 [1] (.bin .sub 3 (.v 0) (.c (.i .i64 3))),mq 0 [] (.mv (.s 0)),mq 0 [] (.mv (.s 4)),mq 0 [4] (.bin .sub 3 (.v 0) (.c (.i .i64 4))),mq 0 [] (.mv (.s 14)),mq 0 [6] (.bin .add 357 (.v 0) (.c (.i .u32 1))),mq 0 [7] (.Br (.c (.s BK)) (.v 0)),mq 0 [] (.mv (.s 14)),mq 0 [9] (.Br (.c (.s BK)) (.v 0)),mq 0 [0,2] (.je 1 (.v 0) (.v 1)),mq 3 [8,11] (.st 1 (.v 1) (.v 0)),mq 0 [3,5] (.je 1 (.v 0) (.v 1)),mq 3 [10,13] (.st 1 (.v 1) (.v 0))] [] []) (.reg [nl (.mv (.s 4)),nl (.bin .sub 3 (.v 0) (.c (.i .i64 4))),nk 4 (.mv (.v 0))])))))) .skip)) (.seq (.seq (.reg [nl (.mv (.s 4)),nk 139 (.bin .geq 3 (.v 0) (.c (.i .i64 2)))]) (.cond (.s 139) (.seq (.reg [nl (.mv (.s 12)),nl (.bin .rem 357 (.v 0) (.c (.i .u32 100))),nl (.bin .mul 357 (.v 0) (.c (.i .u32 2))),nk 16 (.mv (.v 0))]) (.seq (.reg [nl (.mv (.s 12)),nl (.bin .quo 357 (.v 0) (.c (.i .u32 100))),nk 12 (.mv (.v 0))]) (.seq (.zW 0 [mq 0 [] (.mv (.s 0)),mq 0 [] (.mv (.s 4)),mq 0 [1] (.bin .sub 3 (.v 0) (.c (.i .i64 1))),mq 0 [] (.mv (.s 0)),mq 0 [] (.mv (.s 4)),mq 0 [4] (.bin .sub 3 (.v 0) (.c (.i .i64 2))),mq 0 [] (.mv (.s 16)),mq 0 [6] (.bin .add 357 (.v 0) (.c (.i .u32 1))),mq 0 [7] (.Br (.c (.s BK)) (.v 0)),mq 0 [] (.mv (.s 16)),mq 0 [9] (.Br (.c (.s BK)) (.v 0)),mq 0 [0,2] (.je 1 (.v 0) (.v 1)),mq 3 [8,11] (.st 1 (.v 1) (.v 0)),mq 0 [3,5] (.je 1 (.v 0) (.v 1)),mq 3 [10,13] (.st 1 (.v 1) (.v 0))] [] []) (.reg [nl (.mv (.s 4)),nl (.bin .sub 3 (.v 0) (.c (.i .i64 2))),nk 4 (.mv (.v 0))])))) .skip)) (.seq (.reg [nl (.mv (.s 4)),nk 161 (.bin .gtr 3 (.v 0) (.c (.i .i64 0)))]) (.cond (.s 161) (.reg [nl (.mv (.s 0)),nl (.mv (.s 12)),nl (.bin .add 357 (.c (.i .u32 48)) (.v 0)),nl (.Ol .u8 (.v 0)),nl (.je 1 (.v 3) (.c (.i .i64 0))),⟨none,(.st 1 (.v 0) (.v 1)),.n⟩]) .skip)))))))
theorem ach:yc Tryz.prog sl0 280=some ([true,true],Yr,[]):=by kernel_rfl
def aci:MC:=vF 91
def aiR:=vT 91 aci
def Yt:MC:=vF 89
def aiS:=vT 89 Yt
def Yu:MC:=vF 88
def aiT:=vT 88 Yu
def m74:MC:=vF 44
def c74:=vT 44 m74
def PO:MC:=vB 44 (gW 44 0)
def Yv:=vU 44 (gW 44 0) PO
def IC:MC:=vB 44 (gX 44 0)
def Yw:=vU 44 (gX 44 0) IC
def m50:MC:=vF 48
def c50:=vT 48 m50
def TG:MC:=vF 152
def aiW:=vT 152 TG
def PS:MC:=vF 153
def c232:=vT 153 PS
def acj:MC:=vF 112
def c160:=vT 112 acj
def Yx:MC:=vF 181
def aiX:=vT 181 Yx
def IE:MC:=vF 247
def aiY:=vT 247 IE
def Yy:MC:=vF 260
def aiZ:=vT 260 Yy
def acn:MC:=vF 227
def ai0:=vT 227 acn
def aco:MC:=vF 148
def c117:=vT 148 aco
end
end
section
noncomputable section
def dg(k:Nat):UInt8:=UInt8.ofNat (48+k)
def dec(u:Nat):List UInt8:=if u<10 then[dg u]else if u<100 then[dg (u/10),dg (u % 10)]else if u<1000 then[dg (u/100),dg (u/10 % 10),dg (u % 10)]else[dg (u/1000),dg (u/100 % 10),dg (u/10 % 10),dg (u % 10)]
def tn(x:Int):List UInt8:=if x<0 then 45::dec x.natAbs else dec x.toNat
theorem VH{v:AV}{l:List UInt8}(h:K7 v (.s l)=true):v= .s l:=wX _ _ h
def Yz:List UInt8:=[48,49,50,51,52,53,54,55,56,57,97,98,99,100,101,102,103,104,105,106,107,108,109,110,111,112,113,114,115,116,117,118,119,120,121,122]
theorem IG{f:Nat->Bool}{n:Nat}(h:(List.range n).all f=true){k:Nat}(hk:k<n):f k=true:=List.all_eq_true.1 h k (List.mem_range.2 hk)
theorem TH:(List.range 10).all (λk=>match pU Yz (some (k:Nat)) (some ((k+1:Nat):Int))with|some v=>K7 v (.s [dg k])|none=>false)=true:=by kernel_rfl
theorem YA:(List.range 100).all (λk=>match pU BK (some ((k*2:Nat):Int)) (some ((k*2+2:Nat):Int))with|some v=>K7 v (.s [dg (k/10),dg (k % 10)])|none=>false)=true:=by kernel_rfl
theorem TI:(List.range 100).all (λk=>match BK[k*2]?,BK[k*2+1]? with|some a,some b=>a==dg (k/10)&&b==dg (k % 10)|_,_=>false)=true:=by kernel_rfl
theorem YB{k:Nat}(hk:k<10):pU Yz (some (k:Nat)) (some ((k+1:Nat):Int))=some (.s [dg k]):=by
 have h:=IG TH hk;split at h
 .rename_i v hv;rw[hv,VH h]
 .cases h
theorem sm_at{k:Nat}(hk:k<100):pU BK (some ((k*2:Nat):Int)) (some ((k*2+2:Nat):Int))=some (.s [dg (k/10),dg (k % 10)]):=by
 have h:=IG YA hk;split at h
 .rename_i v hv;rw[hv,VH h]
 .cases h
theorem II{k:Nat}(hk:k<100):BK[k*2]?=some (dg (k/10))/\BK[k*2+1]?=some (dg (k % 10)):=by
 have h:=IG TI hk;split at h
 .rename_i a b h1 h2
  simp only[Bool.and_eq_true,beq_iff_eq]at h;exact⟨by rw[h1,h.1],by rw[h2,h.2]⟩
 .cases h
section
variable {P:Program} {ty:TypeId} {k:IntKind} {a b:Int}
theorem qN:(eB P ty .lss).run (.i k a) (.i k b)=some (.b (decide (a<b))):=by
 show bc (yL k k) (some (AV.b (qY (mo b a)))) none=_;rw[show yL k k=true by cases k<;>rfl,bD,U9]
theorem PU:(eB P ty .mul).run (.i k a) (.i k b)=some (.i k (gN k (a*b))):=by cases k<;>rfl
theorem PV:(eB P ty .add).run (.i k a) (.i k b)=some (.i k (gN k (a+b))):=by cases k<;>rfl
theorem PW(hb:b≠0):(eB P ty .quo).run (.i k a) (.i k b)=some (.i k (gN k (Int.tdiv a b))):=by
 show bc (yL k k) (bc (gu b 0) none (some (AV.i k (gN k (Int.tdiv a b))))) none=_;rw[show yL k k=true by cases k<;>rfl,bD,dz,show decide (b=0)=false by simpa using hb,gH]
theorem PX(hb:b≠0):(eB P ty .rem).run (.i k a) (.i k b)=some (.i k (Int.tmod a b)):=by
 show bc (yL k k) (bc (gu b 0) none (some (AV.i k (Int.tmod a b)))) none=_;rw[show yL k k=true by cases k<;>rfl,bD,dz,show decide (b=0)=false by simpa using hb,gH]
theorem o_{x:Int}(h1:0<=x)(h2:x<=4294967295):gN .u32 x=x:=by
 unfold gN;rw[eZ,eZ,show IntKind.u32.min=0 from by decide,show IntKind.u32.max=4294967295 from by decide];simp[h1,h2,bc]
theorem ai1{x:Int}(h1:0<=x)(h2:x<=255):gN .u8 x=x:=by
 unfold gN;rw[eZ,eZ,show IntKind.u8.min=0 from by decide,show IntKind.u8.max=255 from by decide];simp[h1,h2,bc]
end
@[go_sem] theorem am_ {c:List UInt8} {lo hi:Option Int}:ssO (some (.s c)) (some lo) (some hi)=pU c lo hi:=rfl
section
variable {h:AH} {n:Nat} {Q:AV->AH->Nat->Prop}
theorem FV(K:Nat){u:Nat}(hu:u<100)(hQ:∀h' n',Up h n h' n'->Q (.s (dec u)) h' n'):CW (EF (K+1)) 278 [.i .i64 (u:Nat)] h n Q:=by
 refine aC aiQ rfl ?_;have w1:gN .i64 ((u:Int)+1)=((u+1:Nat):Int):=by rw[dI (by omega) (by omega)];rfl
 have w2:gN .i64 ((u:Int)*2)=((u*2:Nat):Int):=by rw[dI (by omega) (by omega)];rfl
 have w3:gN .i64 (((u*2:Nat):Int)+2)=((u*2+2:Nat):Int):=by rw[dI (by omega) (by omega)];rfl
 by_cases h10:u<10
 .have hd:decide ((u:Int)<10)=true:=decide_eq_true (by omega)
  have hs:=YB h10;unfold Yz at hs;have hdec:dec u=[dg u]:=by unfold dec;rw[if_pos h10]
  rw[hdec]at hQ;repeat' (first|(simp (disch:=omega) only[go_sem,simprocAttr,Yq,hd,w1,hs])|(refine aS ?_ ?_<;>(intro hb hd;rw[hb];clear hb))|(with_reducible refine aj ?_))
  exact hQ _ _ aH
 .have hd:decide ((u:Int)<10)=false:=decide_eq_false (by omega)
  have hs:=sm_at hu;have hdec:dec u=[dg (u/10),dg (u % 10)]:=by unfold dec;rw[if_neg h10,if_pos hu]
  rw[hdec]at hQ;repeat' (first|(simp (disch:=omega) only[go_sem,simprocAttr,Yq,hd,w2,w3,hs])|(refine aS ?_ ?_<;>(intro hb hd;rw[hb];clear hb))|(with_reducible refine aj ?_))
  exact hQ _ _ aH
@[go_sem] theorem xJ {c:List UInt8} {k:Nat} {j:IntKind} {b:UInt8} (h:k<1048576) (e:c[k]?=some b):OH (some (.s c)) (some (.i j (k:Nat)))=some (.i .u8 (Int.ofNat b.toNat)):=by
 show GJ (k:Nat) 1048576 (λk=>bnd (hd (r_ k c)) λb=>some (.i .u8 (Int.ofNat b.toNat)))=_;rw[Vz (by omega) (by omega)];show bnd (hd (r_ k c)) _=_;rw[nV,e];rfl
theorem VI{w b len:Nat}{k:Int}{c:Option Nat}(h0:0<=k)(h1:k<(len:Nat)):dL w (some (.sl b 0 0 len c)) (some (.i .i64 k))=some (.p b (k.toNat*w)):=by
 obtain⟨i,rfl⟩:=Int.eq_ofNat_of_zero_le h0;rw[cK (by omega)];simp
theorem VJ{S:SK}{d:MD}{r:List MR}{l':List AV}{s:List It}{f:FT}{F:Fm}{Q:PQ}{w b len:Nat}{k:Int}{c:Option Nat}(h0:0<=k)(h1:k<(len:Nat)):Vq S w (some (.sl b 0 0 len c)) (some (.i .i64 k)) d r l' s f h n F Q=mG S d (.p b (k.toNat*w)) r l' s f h n F Q:=by
 obtain⟨i,rfl⟩:=Int.eq_ofNat_of_zero_le h0;rw[b_ (by omega)];simp
abbrev TJ(b:UInt8):AV:=.i .u8 (Int.ofNat b.toNat)
theorem TK(K:Nat){u ab T:Nat}(h1:100<=u)(h2:u<1000){z0 z1 z2:AV}{rest:List AV}(hr:h.get ab=some (.row T (z0::z1::z2::rest)))
 (hQ:∀h' n',UX (λx=>x=ab) h n h' n'->h'.get ab=some (.row T (TJ (dg (u/100))::TJ (dg (u/10 % 10))::TJ (dg (u % 10))::rest))->Q (.bJ []) h' n'):CW (EF (K+1)) 280 [.sl ab 0 0 3 (some 24),.i .u64 (u:Nat)] h n Q:=by
 refine aC ach rfl ?_;repeat' (first|(simp (disch:=omega) only[go_sem,simprocAttr,Yr,Ca (v:=.sl ab 0 0 3 (some 24)) (m:=3) rfl])|(refine aS ?_ ?_<;>(intro hb hd;rw[hb];clear hb))|(with_reducible refine aj ?_))
 refine iF (λm h2 n2 F=>h2=h/\n2=n/\F=[(0,.sl ab 0 0 3 (some 24)),(1,.i .u64 (u:Nat)),(4,.i .i64 3)]) 0 (by omega) ⟨_,⟨rfl,rfl,rfl⟩,by(repeat' (first|exact aO|refine aM rfl ?_))⟩ ?_;rintro m _ _ F ⟨rfl,rfl,rfl⟩;have e1:gN .u32 (u:Nat)=(u:Nat):=o_ (by omega) (by omega);have e2:Int.tmod (u:Nat) 100=((u % 100:Nat):Int):=by rw[Int.tmod_eq_emod_of_nonneg (by omega)];rfl
 have e3:gN .u32 (((u % 100:Nat):Int)*2)=((u % 100*2:Nat):Int):=by rw[o_ (by omega) (by omega)];rfl
 have e4:gN .u32 (Int.tdiv (u:Nat) 100)=((u/100:Nat):Int):=by rw[Int.tdiv_eq_ediv_of_nonneg (by omega),o_ (by omega) (by omega)];rfl
 have e5:gN .u32 (((u % 100*2:Nat):Int)+1)=((u % 100*2+1:Nat):Int):=by rw[o_ (by omega) (by omega)];rfl
 have e6:gN .u32 (48+((u/100:Nat):Int))=((48+u/100:Nat):Int):=by rw[o_ (by omega) (by omega)];rfl
 have e7:gN .u8 ((48+u/100:Nat):Int)=((48+u/100:Nat):Int):=ai1 (by omega) (by omega);obtain⟨s1,s2⟩:=II (k:=u % 100) (by omega);repeat' (first|(simp (disch:=omega) only[go_sem,simprocAttr,Iz,PX,PW,PU,PV,e1,e2,e3,e4,e5,e6,e7,Int.reduceLE,Int.reduceLT,Int.reduceSub,Int.reduceEq,xJ (by omega) s1,xJ (by omega) s2,hr,VI,VJ,dI])|(refine aS ?_ ?_<;>(intro hb hd;rw[hb];clear hb))|(with_reducible refine aj ?_))
 have d1:u % 100/10=u/10 % 10:=by omega
 have d2:u % 100 % 10=u % 10:=by omega
 have d3:AV.i .u8 ((48+u/100:Nat):Int)=TJ (dg (u/100)):=by
  show AV.i .u8 _=AV.i .u8 (((UInt8.ofNat (48+u/100)).toNat:Nat):Int);have:(UInt8.ofNat (48+u/100)).toNat=48+u/100:=by simp;omega
  rw[this]
 rw[d1,d2,d3];exact hQ _ _ ((((UX.refl (X:=λx=>x=ab)).set (.inl rfl) (Nat.le_refl _)).set (.inl rfl) (Nat.le_refl _)).set (.inl rfl) (Nat.le_refl _)) aF
theorem TL(K:Nat){u ab T:Nat}(h1:1000<=u)(h2:u<10000){z0 z1 z2 z3:AV}{rest:List AV}(hr:h.get ab=some (.row T (z0::z1::z2::z3::rest)))
 (hQ:∀h' n',UX (λx=>x=ab) h n h' n'->h'.get ab=some (.row T (TJ (dg (u/1000))::TJ (dg (u/100 % 10))::TJ (dg (u/10 % 10))::TJ (dg (u % 10))::rest))->Q (.bJ []) h' n'):CW (EF (K+1)) 280 [.sl ab 0 0 4 (some 24),.i .u64 (u:Nat)] h n Q:=by
 refine aC ach rfl ?_;repeat' (first|(simp (disch:=omega) only[go_sem,simprocAttr,Yr,Ca (v:=.sl ab 0 0 4 (some 24)) (m:=4) rfl])|(refine aS ?_ ?_<;>(intro hb hd;rw[hb];clear hb))|(with_reducible refine aj ?_))
 refine iF (λm h2 n2 F=>h2=h/\n2=n/\F=[(0,.sl ab 0 0 4 (some 24)),(1,.i .u64 (u:Nat)),(4,.i .i64 4)]) 0 (by omega) ⟨_,⟨rfl,rfl,rfl⟩,by(repeat' (first|exact aO|refine aM rfl ?_))⟩ ?_;rintro m _ _ F ⟨rfl,rfl,rfl⟩;have e1:gN .u32 (u:Nat)=(u:Nat):=o_ (by omega) (by omega);have e2:Int.tmod (u:Nat) 10000=((u:Nat):Int):=by rw[Int.tmod_eq_emod_of_nonneg (by omega)];omega
 have e3:gN .u32 (Int.tdiv (u:Nat) 100)=((u/100:Nat):Int):=by rw[Int.tdiv_eq_ediv_of_nonneg (by omega),o_ (by omega) (by omega)];rfl
 have e4:Int.tmod (u:Nat) 100=((u % 100:Nat):Int):=by rw[Int.tmod_eq_emod_of_nonneg (by omega)];rfl
 have e5:gN .u32 (((u % 100:Nat):Int)*2)=((u % 100*2:Nat):Int):=by rw[o_ (by omega) (by omega)];rfl
 have e6:gN .u32 (((u/100:Nat):Int)*2)=((u/100*2:Nat):Int):=by rw[o_ (by omega) (by omega)];rfl
 have e7:gN .u32 (((u % 100*2:Nat):Int)+1)=((u % 100*2+1:Nat):Int):=by rw[o_ (by omega) (by omega)];rfl
 have e8:gN .u32 (((u/100*2:Nat):Int)+1)=((u/100*2+1:Nat):Int):=by rw[o_ (by omega) (by omega)];rfl
 have e9:gN .u32 (Int.tdiv (u:Nat) 10000)=0:=by rw[Int.tdiv_eq_ediv_of_nonneg (by omega),o_ (by omega) (by omega)];omega
 obtain⟨s1,s2⟩:=II (k:=u % 100) (by omega);obtain⟨s3,s4⟩:=II (k:=u/100) (by omega);repeat' (first|(simp (disch:=omega) only[go_sem,simprocAttr,Iz,PX,PW,PU,PV,e1,e2,e3,e4,e5,e6,e7,e8,e9,Int.reduceLE,Int.reduceLT,Int.reduceSub,Int.reduceEq,xJ (by omega) s1,xJ (by omega) s2,xJ (by omega) s3,xJ (by omega) s4,hr,VI,VJ,dI])|(refine aS ?_ ?_<;>(intro hb hd;rw[hb];clear hb))|(with_reducible refine aj ?_))
 have d1:u % 100/10=u/10 % 10:=by omega
 have d2:u % 100 % 10=u % 10:=by omega
 have d3:u/100/10=u/1000:=by omega
 rw[d1,d2,d3];exact hQ _ _ (((((UX.refl (X:=λx=>x=ab)).set (.inl rfl) (Nat.le_refl _)).set (.inl rfl) (Nat.le_refl _)).set (.inl rfl) (Nat.le_refl _)).set (.inl rfl) (Nat.le_refl _)) aF
theorem acp{u:Nat}(h1:1000<=u)(h2:u<10000):Lib.nDigits u=4:=by
 rw[Lib.nDigits_big (by omega),Lib.nDigits_big (by omega),Lib.nDigits_big (by omega),Lib.nDigits_small (by omega)]
theorem acr{u:Nat}(h1:100<=u)(h2:u<1000):Lib.nDigits u=3:=by
 rw[Lib.nDigits_big (by omega),Lib.nDigits_big (by omega),Lib.nDigits_small (by omega)]
theorem VK(K:Nat){u:Nat}(h1:1<=u)(h2:u<10000)(hQ:Q (.i .i64 (Lib.nDigits u:Nat)) h n):CW (EF (K+1)) 279 [.i .u64 (u:Nat)] h n Q:=by
 refine⟨_,_,_,?_,hQ⟩;show@Option.rec fH (λ_=>fH) _ (λr=>r) (bc (Nat.beq Nr RJ) none (bc (Nat.beq Nr Nr) (bc (Nat.ble 1 u) (bc (Nat.ble u 18446744073709551615) (some (fH.ok (.i .i64 (Lib.nDigits u:Nat)) h n)) none) none) none))=_;rw[show Nat.beq Nr RJ=false from rfl,gH,show Nat.beq Nr Nr=true from rfl,bD,Nat.ble_eq_true_of_le (by omega),bD,Nat.ble_eq_true_of_le (by omega),bD]
theorem zo(u:Nat):(dec u).length<=4:=by
 unfold dec;split
 .simp
 .split
  .simp
  .split<;>simp
theorem ai2{u:Nat}(h0:0<u)(h1:u<10000):gN .u64 (0 - gN .u64 (-(u:Int)))=(u:Nat):=by
 rw[wQ,wQ];simp only[IntKind.wrap,IntKind.signed,IntKind.bits,Bool.false_and,Bool.false_eq_true,↓reduceIte];omega
theorem KC(K:Nat){dst:AV}{l:List UInt8}(g:Gr h n 5 1 dst bv l)(hl:l.length<=1000000){u:Nat}(hu:u<10000)
 (hQ:∀v' h' n',Gr h' n' 5 1 v' bv (l++dec u)->n<=n'->(∀x,x<n->¬blk dst x->h'.get x=h.get x)->(∀x,blk v' x->blk dst x\/n<=x)->Q v' h' n'):CW (EF (K+2)) 247 [dst,.i .u64 (u:Nat),.i .i64 10] h n Q:=by
 have hdl:=zo u;refine aC aiY rfl ?_;by_cases YC:u<100
 .have hd:decide ((u:Int)<100)=true:=decide_eq_true (by omega)
  have e1:gN .i64 (u:Nat)=(u:Nat):=dI (by omega) (by omega);repeat' (first|(simp (disch:=omega) only[go_sem,simprocAttr,ub.old,IE,qN,hd,e1,Int.reduceEq])|(simp (disch:=omega) only[go_sem,simprocAttr,IE,qN,hd,e1,Int.reduceEq])|((first|rw[aR]|rw[bF]);with_reducible refine FV _ YC λh2 n2 u2=>?_;(first|replace ub:=Up.trans ub (Up.trans aH u2)|have ub:=u2);have hle:=ub.le;clear u2)|(refine aS ?_ ?_<;>(intro hb hd;rw[hb];clear hb))|(with_reducible refine aj ?_))
  refine jq (g.up ub) ahY (by omega) λv' h3 n3 g3 l3 s3 b3=>?_;repeat' (first|(simp (disch:=omega) only[go_sem,simprocAttr,ub.old])|(simp (disch:=omega) only[go_sem,simprocAttr])|(refine aS ?_ ?_<;>(intro hb hd;rw[hb];clear hb))|(with_reducible refine aj ?_))
  exact hQ _ _ _ g3 (by have:=ub.le;omega) (λx hx hb=>by rw[s3 x (by have:=ub.le;omega) hb,ub.old x hx]) λx hx=>(b3 x hx).imp id λe=>by have:=ub.le;omega
 .have hd:decide ((u:Int)<100)=false:=decide_eq_false (by omega)
  by_cases h3:u<1000
  .have e3:Lib.nDigits u=3:=acr (by omega) h3
   repeat' (first|(simp (disch:=omega) only[go_sem,simprocAttr,ub.old,IE,qN,hd,Int.reduceEq])|(simp (disch:=omega) only[go_sem,simprocAttr,IE,qN,hd,Int.reduceEq])|(refine aS ?_ ?_<;>(intro hb hd;rw[hb];clear hb))|(with_reducible refine aj ?_))
   rw[aR];refine VK _ (by omega) hu ?_;rw[e3];have sl3:∀b:Nat,Lx 1 24 (some (.p b 0)) (some none) (some (some (3:Int)))=some (.sl b 0 0 3 (some 24)):=λ_=>rfl;simp (disch:=omega) only[go_sem,simprocAttr,sl3];rw[aR];refine TK _ (by omega) h3 aF λh3 n3 u3 r3=>?_;simp (disch:=omega) only[go_sem,simprocAttr,sl3];have u0:Up h n h3 n3:=⟨by have:=u3.le;omega,λx hx=>by rw[u3.old x (by omega) (by omega),au (by omega)]⟩;have hdec:dec u=[dg (u/100),dg (u/10 % 10),dg (u % 10)]:=by unfold dec;rw[if_neg (by omega),if_neg YC,if_pos (by assumption)]
   refine jq (l2:=dec u) (g.up u0) ⟨by rw[hdec];rfl,?_⟩ (by omega) λv' h4 n4 g4 l4 s4 b4=>?_
   .rw[hdec]
    show bnd (iI (h3.get n) 0 _) (λr=>mP (Nat.mul 3 1) r)=_;rw[r3];rfl
   simp (disch:=omega) only[go_sem,simprocAttr];exact hQ _ _ _ g4 (by have:=u0.le;omega) (λx hx hb=>by rw[s4 x (by have:=u0.le;omega) hb,u0.old x hx]) λx hx=>(b4 x hx).imp id λe=>by have:=u0.le;omega
  .have e3:Lib.nDigits u=4:=acp (by omega) hu
   repeat' (first|(simp (disch:=omega) only[go_sem,simprocAttr,ub.old,IE,qN,hd,Int.reduceEq])|(simp (disch:=omega) only[go_sem,simprocAttr,IE,qN,hd,Int.reduceEq])|(refine aS ?_ ?_<;>(intro hb hd;rw[hb];clear hb))|(with_reducible refine aj ?_))
   rw[aR];refine VK _ (by omega) hu ?_;rw[e3];have sl3:∀b:Nat,Lx 1 24 (some (.p b 0)) (some none) (some (some (4:Int)))=some (.sl b 0 0 4 (some 24)):=λ_=>rfl;simp (disch:=omega) only[go_sem,simprocAttr,sl3];rw[aR];refine TL _ (by omega) hu aF λh3 n3 u3 r3=>?_;simp (disch:=omega) only[go_sem,simprocAttr,sl3];have u0:Up h n h3 n3:=⟨by have:=u3.le;omega,λx hx=>by rw[u3.old x (by omega) (by omega),au (by omega)]⟩;have hdec:dec u=[dg (u/1000),dg (u/100 % 10),dg (u/10 % 10),dg (u % 10)]:=by unfold dec;rw[if_neg (by omega),if_neg YC,if_neg (by assumption)]
   refine jq (l2:=dec u) (g.up u0) ⟨by rw[hdec];rfl,?_⟩ (by omega) λv' h4 n4 g4 l4 s4 b4=>?_
   .rw[hdec]
    show bnd (iI (h3.get n) 0 _) (λr=>mP (Nat.mul 4 1) r)=_;rw[r3];rfl
   simp (disch:=omega) only[go_sem,simprocAttr];exact hQ _ _ _ g4 (by have:=u0.le;omega) (λx hx hb=>by rw[s4 x (by have:=u0.le;omega) hb,u0.old x hx]) λx hx=>(b4 x hx).imp id λe=>by have:=u0.le;omega
abbrev ApQ(dst:AV)(l l2:List UInt8)(h:AH)(n:Nat)(Q:AV->AH->Nat->Prop):Prop:=∀v' h' n',Gr h' n' 5 1 v' bv (l++l2)->n<=n'->(∀x,x<n->¬blk dst x->h'.get x=h.get x)->(∀x,blk v' x->blk dst x\/n<=x)->Q v' h' n'
theorem vS{S:SK}{h:AH}{n:Nat}{dst:AV}{l:List UInt8}{d:MD}{r:List MR}{l':List AV}{s:List It}{f:FT}{F:Fm}{Q:PQ}{b:UInt8}{bi:Int}(g:Gr h n 5 1 dst bv l)(hl:l.length<=1000000)(hb:bi=(b.toNat:Int)){y:AV}{yb:Nat}(hy:y= .sl yb 0 0 1 (some 1))(Z0:h.get yb=some (.row 5 [.i .u8 bi]))
 (q:ApQ dst l [b] h n λv h n=>mG S d v r l' s f h n F Q):kR S (SA 5 1 h n (some dst) (some y)) d r l' s f F Q:=by
 subst hy;refine jq (l2:=[b]) g ⟨rfl,?_⟩ (by simp;omega) q;show bnd (iI (h.get yb) 0 _) (λr=>mP (Nat.mul 1 1) r)=_;rw[Z0,hb];rfl
theorem TM(K:Nat){dst:AV}{l:List UInt8}(g:Gr h n 5 1 dst bv l)(hl:l.length<=900000){x:Int}(h1: -10000<x)(h2:x<10000)(hQ:ApQ dst l (tn x) h n Q):CW (EF (K+3)) 181 [dst,.i .i64 x,.i .i64 10] h n Q:=by
 refine aC aiX rfl ?_;by_cases h0:x<0
 .obtain⟨u,rfl⟩:∃u:Nat,x= -(u:Int):=⟨x.natAbs,by omega⟩
  have htn:tn (-(u:Int))=45::dec u:=by unfold tn;rw[if_pos h0];simp
  have hd:decide (-(u:Int)<0)=true:=decide_eq_true h0;rw[htn]at hQ;simp (disch:=omega) only[go_sem,simprocAttr,Yx,hd];refine vS (b:=45) (g.up aH) (by omega) rfl rfl aF λv' h3 n3 g3 l3 s3 b3=>?_;simp (disch:=omega) only[go_sem,simprocAttr,ai2 (u:=u) (by omega) (by omega)];rw[aR];refine KC _ g3 (by simp;omega) (by omega) λv4 h4 n4 g4 l4 s4 b4=>?_;simp (disch:=omega) only[go_sem,simprocAttr];rw[List.append_assoc]at g4;refine hQ _ _ _ g4 (by omega) (λx hx hb=>?_) λx hx=>?_
  .rw[s4 x (by omega) (λe=>?_),s3 x (by omega) hb,au (by omega)]
   rcases b3 x e with e|e
   .exact hb e
   .omega
  .rcases b4 x hx with e|e
   .rcases b3 x e with e|e
    .exact .inl e
    .exact .inr (by omega)
   .exact .inr (by omega)
 .obtain⟨u,rfl⟩:=Int.eq_ofNat_of_zero_le (show 0<=x by omega)
  have htn:tn (u:Nat)=dec u:=by unfold tn;rw[if_neg h0];simp
  rw[htn]at hQ;have hd:decide ((u:Int)<0)=false:=decide_eq_false h0;have e1:gN .u64 (u:Nat)=(u:Nat):=vL (by omega) (by omega);simp (disch:=omega) only[go_sem,simprocAttr,Yx,hd,e1];rw[aR];refine KC _ g (by omega) (by omega) λv' h3 n3 g3 l3 s3 b3=>?_;simp (disch:=omega) only[go_sem,simprocAttr];exact hQ _ _ _ g3 l3 s3 b3
theorem Cj(K:Nat){dst:AV}{l:List UInt8}(g:Gr h n 5 1 dst bv l)(hl:l.length<=900000){x:Int}(h1: -10000<x)(h2:x<10000)(hQ:ApQ dst l (tn x) h n Q):CW (EF (K+4)) 112 [dst,.i .i64 x,.i .i64 10] h n Q:=by
 refine aC c160 rfl ?_;simp (disch:=omega) only[go_sem,simprocAttr,acj];rw[aR];refine TM _ g hl h1 h2 λv' h3 n3 g3 l3 s3 b3=>?_;simp (disch:=omega) only[go_sem,simprocAttr];exact hQ _ _ _ g3 l3 s3 b3
end
end
end
section
noncomputable section
def wr(x:Int):List UInt8:=tn x++[32]
def fl(b:Bool):List UInt8:=if b then[43]else[45]
def mkT(m:aA):List UInt8:=wr m.status++wr m.left++wr m.got++wr m.aT++fl m.paused
def gG(p:aN):List UInt8:=fl p.own++wr p.st.day++p.st.ah.flatMap wr++p.st.used.flatMap fl++p.st.marks.flatMap mkT
abbrev NB(x:Int):Prop:= -10000<x/\x<10000
structure PB(p:aN):Prop where
 day:NB p.st.day
 ah:∀x∈p.st.ah,NB x
 marks:∀m∈p.st.marks,NB m.status/\NB m.left/\NB m.got/\NB m.aT
 lh:p.st.ah.length<=1000
 lu:p.st.used.length<=1000
 lm:p.st.marks.length<=1000
theorem eG(x:Int):(wr x).length<=6:=by
 unfold wr tn;split
 .have:=zo x.natAbs;simp;omega
 .have:=zo x.toNat;simp;omega
theorem Ed(b:Bool):(fl b).length<=1:=by cases b<;>simp[fl]
theorem TN(m:aA):(mkT m).length<=25:=by
 unfold mkT;have h1:=eG m.status;have h2:=eG m.left;have h3:=eG m.got;have h4:=eG m.aT;have h5:=Ed m.paused;simp only[List.length_append];omega
theorem iG{α:Type}{f:α->List UInt8}{k:Nat}(hf:∀a,(f a).length<=k)(l:List α):(l.flatMap f).length<=l.length*k:=by
 induction l with
 |nil=>simp
 |cons a l ih=>rw[List.flatMap_cons,List.length_append,List.length_cons,Nat.succ_mul];have:=hf a;omega
theorem nH{α:Type}{f:α->List UInt8}{l:List α}{k:Nat}{a:α}(h:l[k]?=some a):(l.take (k+1)).flatMap f=(l.take k).flatMap f++f a:=by
 rw[List.take_add_one,h];simp
structure Tx(h:AH)(n:Nat)(P:Nat->Prop)(T tb:Nat)(l:List UInt8):Prop where
 hi:tb<n
 nt:¬P tb
 pr:∀x,P x->x<n
 ex:∃v,h.get tb=some (.row T [v])/\Gr h n 5 1 v bv l/\∀x,blk v x->¬P x/\x≠tb
abbrev UP(P:Nat->Prop)(h:AH)(n:Nat)(h':AH)(n':Nat):Prop:=UX (λx=>¬P x) h n h' n'
theorem UP.at_{P:Nat->Prop}{h h':AH}{n n' x:Nat}(u:UP P h n h' n')(hx:P x)(hn:x<n):h'.get x=h.get x:=u.old x hn λe=>e hx
theorem UP.wk{P P':Nat->Prop}{h h':AH}{n n':Nat}(u:UP P h n h' n')(e:∀x,P' x->P x):UP P' h n h' n':=⟨u.le,λx hx hX=>u.old x hx λk=>hX λp=>k (e x p)⟩
section
variable {P P':Nat->Prop} {h h':AH} {n n' T tb:Nat} {l:List UInt8} {Q:AV->AH->Nat->Prop}
theorem Tx.wk(t:Tx h n P T tb l)(e:∀x,P' x->P x):Tx h n P' T tb l:=by
 obtain⟨v,h1,h2,h3⟩:=t.ex;exact⟨t.hi,λp=>t.nt (e _ p),λx hx=>t.pr x (e x hx),v,h1,h2,λx hx=>⟨λp=>(h3 x hx).1 (e x p),(h3 x hx).2⟩⟩
theorem Tx.box(t:Tx h n P T tb l)(u:Up h n h' n')(hn:n<n'):Tx h' n' (λx=>P x\/x=n) T tb l:=by
 obtain⟨v,h1,h2,h3⟩:=t.ex;have hi:=t.hi;refine⟨by omega,λp=>p.elim t.nt (by omega),λx hx=>hx.elim (λp=>by have:=t.pr x p;omega) (by omega),v,(u.old _ t.hi).trans h1,h2.up u,λx hx=>⟨λp=>p.elim (h3 x hx).1 λe=>?_,(h3 x hx).2⟩⟩;have:=h2.fK hx;omega
theorem Tx.put{h0:AH}{n0:Nat}{v v':AV}{l2:List UInt8}(t:Tx h0 n0 P T tb l)(hv:h0.get tb=some (.row T [v]))(hB:∀x,blk v x->¬P x/\x≠tb)(u:Up h0 n0 h n)(g:Gr h' n' 5 1 v' bv l2)(ln:n<=n')(s:∀x,x<n->¬blk v x->h'.get x=h.get x)(b:∀x,blk v' x->blk v x\/n<=x):
 h'.get tb=some (.row T [v])/\Tx (h'.set tb (.row T [v'])) n' P T tb l2/\UP P h0 n0 (h'.set tb (.row T [v'])) n':=by
 have hlt:=t.hi;have hle:=u.le;have hne:∀x,blk v' x->¬P x/\x≠tb:=λx hx=>by
  rcases b x hx with e|e
  .exact hB x e
  .exact⟨λp=>by have:=t.pr x p;omega,by omega⟩
 refine⟨?_,⟨by omega,t.nt,λx hx=>by have:=t.pr x hx;omega,v',aF,g.on (Nat.le_refl _) λx _ hx=>au (hne x hx).2,hne⟩,⟨by omega,λx hx hX=>?_⟩⟩
 .rw[s tb (by omega) (λe=>(hB tb e).2 rfl),u.old tb hlt];exact hv
 .have hX:P x:=Classical.byContradiction hX
  rw[au (λe=>t.nt (by rw[<-e];exact hX)),s x (by omega) (λe=>(hB x e).1 hX),u.old x hx]
theorem UX.TP{B m:Nat}{h1 h2:AH}{n1 n2:Nat}(a:UP (λx=>x<B) h1 n1 h2 n2)(u:Up h m h1 n1)(hB:m<=B):Up h m h2 n2:=⟨Nat.le_trans u.le a.le,λx hx=>(a.at_ (show x<B by omega) (Nat.lt_of_lt_of_le hx u.le)).trans (u.old x hx)⟩
def TQ(g:FuncId)(bs:List Bool)(m:MC)(rs:List MS):Prop:=yc Tryz.prog sl0 g=some (bs,m,rs)/\Nat.beq g Nr=false/\Nat.beq g RJ=false
theorem nI(K:Nat){gw:FuncId}(cw:TQ gw [true,true] TG [])(t:Tx h n P T tb l)(hl:l.length<=800000){x:Int}(hx:NB x)(hQ:∀h' n',Tx h' n' P T tb (l++wr x)->UP P h n h' n'->Q (.bJ []) h' n'):CW (EF (K+5)) gw [.i .i64 x,.p tb 0] h n Q:=by
 obtain⟨v,h1,h2,h3⟩:=t.ex;have hlt:=t.hi;have htn:(tn x).length<=5:=by have:=eG x;unfold wr at this;simp at this;omega
 refine aC cw.1 rfl (hg:=cw.2.1) (hg':=cw.2.2) ?_;simp (disch:=omega) only[go_sem,simprocAttr,TG,h1];rw[aR];refine Cj _ h2 (by omega) hx.1 hx.2 λv' h4 n4 g4 l4 s4 b4=>?_;simp (disch:=omega) only[go_sem,simprocAttr];refine vS (b:=32) (g4.up aH) (by simp;omega) rfl rfl aF λv5 h5 n5 g5 l5 s5 b5=>?_;have s45:∀y,y<n->¬blk v y->h5.get y=h.get y:=λy hy hb=>by
  rw[s5 y (by omega) (λe=>by rcases b4 y e with e|e;exact hb e;omega),au (by omega),s4 y hy hb]
 obtain⟨q1,q2,q3⟩:=t.put h1 h3 (Up.refl _ _) g5 (by omega) s45 λy hy=>by
  rcases b5 y hy with e|e
  .exact b4 y e
  .exact .inr (by omega)
 simp (disch:=omega) only[go_sem,simprocAttr,q1,g5.cl];rw[List.append_assoc]at q2;exact hQ _ _ q2 q3
theorem Ee(K:Nat){gf:FuncId}(cf:TQ gf [true,true] PS [])(t:Tx h n P T tb l)(hl:l.length<=800000)(b:Bool)(hQ:∀h' n',Tx h' n' P T tb (l++fl b)->UP P h n h' n'->Q (.bJ []) h' n'):CW (EF (K+1)) gf [.b b,.p tb 0] h n Q:=by
 obtain⟨v,h1,h2,h3⟩:=t.ex;have hlt:=t.hi;refine aC cf.1 rfl (hg:=cf.2.1) (hg':=cf.2.2) ?_;cases b with
 |true=>
  simp (disch:=omega) only[go_sem,simprocAttr,PS,h1];refine vS (b:=43) (h2.up aH) (by omega) rfl rfl aF λv5 h5 n5 g5 l5 s5 b5=>?_;obtain⟨q1,q2,q3⟩:=t.put h1 h3 aH g5 (by omega) s5 b5;simp (disch:=omega) only[go_sem,simprocAttr,q1,g5.cl];exact hQ _ _ q2 q3
 |false=>
  simp (disch:=omega) only[go_sem,simprocAttr,PS,h1];refine vS (b:=45) (h2.up aH) (by omega) rfl rfl aF λv5 h5 n5 g5 l5 s5 b5=>?_;obtain⟨q1,q2,q3⟩:=t.put h1 h3 aH g5 (by omega) s5 b5;simp (disch:=omega) only[go_sem,simprocAttr,q1,g5.cl];exact hQ _ _ q2 q3
theorem acv{e:TypeId}{z:List AV}{h:AH}{n c:Nat}{k j:IntKind}(h2:c<=1048576):msO e z h n (some (.i k 0)) (some (.i j (c:Nat)))=some (.ok (.sl n 0 0 0 (some c)) (h.set n (.row e (rep c z))) (n+1)):=Ce (a:=0) (Nat.zero_le _) h2
theorem nK{Y:YT}{S:SK}{q:FuncId}{a p:AV}{d:MD}{r:List MR}{l:List AV}{s:List It}{f:FT}{h:AH}{n:Nat}{F:Fm}{Q:PQ}:kF Y S (some (.f q [p])) (some [a]) d r l s f h n F Q=CW f q [a,p] h n λv h n=>mG S d v r l s f h n F Q:=rfl
@[reducible] def TS.pv (v:TS) (p:aN):List AV:=[.i .i64 p.st.day,v.h,v.u,v.m,.b p.own]
variable {tv:TS} {p:aN}
theorem L8(l:List UInt8):pR (l.flatMap bv)=some l:=by
 induction l with
 |nil=>rfl
 |cons a l ih=>
  show bnd (JM (TJ a)) (λb=>bnd (pR (l.flatMap bv)) λr=>some (b::r))=_;rw[ih];show bnd (bc (Nat.ble a.toNat 255) (some (UInt8.ofNat a.toNat)) none) _=_;rw[Nat.ble_eq_true_of_le (by have:=a.toNat_lt;omega),bD,UInt8.ofNat_toNat];rfl
theorem Gr.Np{v:AV}{l:List UInt8}(g:Gr h n 5 1 v bv l):Xm h (some v)=some (.s l):=by
 have hs:=g.sl.ap;rcases g.2 with⟨rfl,rfl⟩|⟨b,cap,cells,rfl,h1,h2,h3,_⟩
 .rfl
 .show(match jG h 1 l.length (.sl b 0 0 l.length cap)with|some u=>(match pR u with|some b=>some (AV.s b)|none=>none)|none=>none)=_
  rw[hs.2,];show(match pR (l.flatMap bv)with|some b=>some (AV.s b)|none=>none)=_;rw[L8]
theorem FW(K:Nat){g gw gf:FuncId}(cg:TQ g [true] (mTx gw gf) [.t 2])(cw:TQ gw [true,true] TG [])(cf:TQ gf [true,true] PS [])(hS:bI h n tv p.st)(pb:PB p)(hQ:∀h' n',Up h n h' n'->Q (.s (gG p)) h' n'):CW (EF (K+6)) g [.agg (tv.pv p)] h n Q:=by
 have lh:=pb.lh;have lu:=pb.lu;have lm:=pb.lm;have wid:gN .i64 (12*(p.st.marks.length:Int))=((12*p.st.marks.length:Nat):Int):=by rw[dI (by omega) (by omega)];rfl
 have YD:gN .i64 (32+((12*p.st.marks.length:Nat):Int))=((32+12*p.st.marks.length:Nat):Int):=by rw[dI (by omega) (by omega)];rfl
 have z0:(0:Int)=((0:Nat):Int):=rfl;refine aC cg.1 rfl (hg:=cg.2.1) (hg':=cg.2.2) ?_;repeat' (first|(simp (disch:=omega) only[go_sem,simprocAttr,mTx,hS.marks.len,wid,YD,acv])|(refine aS ?_ ?_<;>(intro hb hd;rw[hb];clear hb))|(with_reducible refine aj ?_))
 have pub:Up h n (Tr.set h n (.row 114 (tv.pv p))) (n+1):=by exact aH
 generalize hh:Tr.set (Tr.set (Tr.set (Tr.set h n _) (n+1) _) (n+1+1) _) (n+1+1) _=h1;have u1:Up h n h1 (n+1+1+1):=by rw[<-hh];exact aH
 have q1:h1.get n=some (.row 114 (tv.pv p)):=by rw[<-hh];simp (disch:=omega) only[go_sem]
 have t1:Tx h1 (n+1+1+1) (λx=>x<n+1) 276 (n+1+1) []:=by
  refine⟨by omega,by omega,λx hx=>by omega,.sl (n+1) 0 0 0 (some (32+12*p.st.marks.length)),by rw[<-hh];simp (disch:=omega) only[go_sem],?_,λx hx=>by rw[eu]at hx;omega⟩;refine Gr.of (l:=[]) (λ_=>rfl) (by omega) (cells:=rep (32+12*p.st.marks.length) (bv 0)) (by rw[<-hh];simp (disch:=omega) only[go_sem];rfl) (by simp) (Nat.zero_le _) (by rw[jr bv,bN (c:=bv) (w:=1) (λ_=>rfl)];simp)
 clear hh pub;rw[nK];refine Ee _ cf t1 (by simp) p.own λh2 n2 t2 u2=>?_;have q2:=(u2.at_ (Nat.lt_succ_self n) (by omega)).trans q1;have l2:=u2.le;have e1:=Ed p.own;simp (disch:=omega) only[go_sem,simprocAttr,q2,TS.pv];rw[nK];refine nI _ cw t2 (by simp;omega) pb.day λh3 n3 t3 u3=>?_;have q3:=(u3.at_ (Nat.lt_succ_self n) (by omega)).trans q2;have l3:=u3.le;have e2:=eG p.st.day;have rR:UP (λx=>x<n+1) h1 (n+1+1+1) h3 n3:=u2.trans u3;simp (disch:=omega) only[go_sem,simprocAttr,q3,TS.pv,hS.ah.len];refine bP p.st.ah.length (λk h8 n8 G=>Tx h8 n8 (λx=>x<n+1) 276 (n+1+1) (fl p.own++wr p.st.day++(p.st.ah.take k).flatMap wr)/\UP (λx=>x<n+1) h1 (n+1+1+1) h8 n8/\G=[(1,.p n 0),(3,.p (n+1+1) 0),(4,.f gw [.p (n+1+1) 0]),(5,.f gf [.p (n+1+1) 0]),(32,tv.h)]) (by omega) (by omega) (by omega) (by omega) (λk h8 n8 G ⟨_,_,e⟩=>by subst e;exact⟨rfl,rfl⟩) ⟨rfl,rfl,_,⟨by simpa using t3,rR,rfl⟩,by(repeat' (first|exact aO|refine aM rfl ?_))⟩ ?_ ?_
 .rintro k h8 n8 G hk ⟨t8,u8,rfl⟩
  have uu:=u8.TP u1 (Nat.le_succ n);obtain⟨b1,o1,a,i1,ha,hb1,rd⟩:=(hS.ah.up uu).dL (k:=(k:Nat)) (by omega) (by omega) (by omega);rw[show((k:Nat):Int).toNat=k by omega]at ha;have hlen:=iG (f:=wr) (k:=6) eG (p.st.ah.take k);have htk:=List.length_take_le k p.st.ah;have hpre:(fl p.own++wr p.st.day).length<=30000:=by simp only[List.length_append];omega
  simp (disch:=omega) only[go_sem,simprocAttr,PN,aJ i1,rd.el,rd.hd];rw[nK];refine nI _ cw t8 (by simp only[List.length_append];simp only[List.length_append]at hpre;omega) (pb.ah a (List.mem_of_getElem? ha)) λh9 n9 t9 u9=>?_;simp (disch:=omega) only[go_sem,simprocAttr];rw[List.append_assoc,<-nH ha]at t9;exact⟨rfl,rfl,_,⟨t9,u8.trans u9,rfl⟩,by(repeat' (first|exact aO|refine aM rfl ?_))⟩
 rintro h3 n3 G ⟨t3,rR,rfl⟩;rw[List.take_length]at t3;have q3:=(rR.at_ (Nat.lt_succ_self n) (by omega)).trans q1;have hlh:=iG (f:=wr) eG p.st.ah;simp (disch:=omega) only[go_sem,simprocAttr,q3,TS.pv,hS.used.len];refine bP p.st.used.length (λk h8 n8 G=>Tx h8 n8 (λx=>x<n+1) 276 (n+1+1) (fl p.own++wr p.st.day++p.st.ah.flatMap wr++(p.st.used.take k).flatMap fl)/\UP (λx=>x<n+1) h1 (n+1+1+1) h8 n8/\G=[(1,.p n 0),(3,.p (n+1+1) 0),(4,.f gw [.p (n+1+1) 0]),(5,.f gf [.p (n+1+1) 0]),(44,tv.u)]) (by omega) (by omega) (by omega) (by omega) (λk h8 n8 G ⟨_,_,e⟩=>by subst e;exact⟨rfl,rfl⟩) ⟨rfl,rfl,_,⟨by simpa using t3,rR,rfl⟩,by(repeat' (first|exact aO|refine aM rfl ?_))⟩ ?_ ?_
 .rintro k h8 n8 G hk ⟨t8,u8,rfl⟩
  have uu:=u8.TP u1 (Nat.le_succ n);obtain⟨b1,o1,a,i1,ha,hb1,rd⟩:=(hS.used.up uu).dL (k:=(k:Nat)) (by omega) (by omega) (by omega);rw[show((k:Nat):Int).toNat=k by omega]at ha;have hlen:=iG (f:=fl) (k:=1) Ed (p.st.used.take k);have htk:=List.length_take_le k p.st.used;have hpre:(fl p.own++wr p.st.day++p.st.ah.flatMap wr).length<=30000:=by simp only[List.length_append];omega
  simp (disch:=omega) only[go_sem,simprocAttr,PL,aJ i1,rd.el,rd.hd];rw[nK];refine Ee _ cf t8 (by simp only[List.length_append];simp only[List.length_append]at hpre;omega) a λh9 n9 t9 u9=>?_;simp (disch:=omega) only[go_sem,simprocAttr];rw[List.append_assoc,<-nH ha]at t9;exact⟨rfl,rfl,_,⟨t9,u8.trans u9,rfl⟩,by(repeat' (first|exact aO|refine aM rfl ?_))⟩
 rintro h3 n3 G ⟨t3,rR,rfl⟩;rw[List.take_length]at t3;have q3:=(rR.at_ (Nat.lt_succ_self n) (by omega)).trans q1;have hlu:=iG (f:=fl) Ed p.st.used;simp (disch:=omega) only[go_sem,simprocAttr,q3,TS.pv,hS.marks.len];refine bP p.st.marks.length (λk h8 n8 G=>Tx h8 n8 (λx=>x<n+1) 276 (n+1+1) (fl p.own++wr p.st.day++p.st.ah.flatMap wr++p.st.used.flatMap fl++(p.st.marks.take k).flatMap mkT)/\UP (λx=>x<n+1) h1 (n+1+1+1) h8 n8/\G=[(1,.p n 0),(3,.p (n+1+1) 0),(4,.f gw [.p (n+1+1) 0]),(5,.f gf [.p (n+1+1) 0]),(56,tv.m)]) (by omega) (by omega) (by omega) (by omega) (λk h8 n8 G ⟨_,_,e⟩=>by subst e;exact⟨rfl,rfl⟩) ⟨rfl,rfl,_,⟨by simpa using t3,rR,rfl⟩,by(repeat' (first|exact aO|refine aM rfl ?_))⟩ ?_ ?_
 .rintro k h8 n8 G hk ⟨t8,u8,rfl⟩
  have uu:=u8.TP u1 (Nat.le_succ n);obtain⟨b1,o1,a,i1,ha,hb1,rd⟩:=(hS.marks.up uu).dL (k:=(k:Nat)) (by omega) (by omega) (by omega);rw[show((k:Nat):Int).toNat=k by omega]at ha;have hlen:=iG (f:=mkT) (k:=25) TN (p.st.marks.take k);have htk:=List.length_take_le k p.st.marks;have hpre:(fl p.own++wr p.st.day++p.st.ah.flatMap wr++p.st.used.flatMap fl).length<=30000:=by simp only[List.length_append];omega
  have ha2:a=bO p.st.marks k:=by rw[gL hk]at ha;cases ha;rfl
  have hb:=pb.marks a (List.mem_of_getElem? ha);have v1:=eG a.status;have v2:=eG a.left;have v3:=eG a.got;have v4:=eG a.aT;have hlp:(fl p.own++wr p.st.day++p.st.ah.flatMap wr++p.st.used.flatMap fl++(p.st.marks.take k).flatMap mkT).length<=60000:=by
   simp only[List.length_append]at hpre⊢;omega
  generalize fl p.own++wr p.st.day++p.st.ah.flatMap wr++p.st.used.flatMap fl=pre at*;simp (disch:=omega) only[go_sem,simprocAttr,PK,aJ i1,rd.el,rd.hd,rd.all];generalize hg:Tr.set (Tr.set h8 n8 _) n8 _=h10;have rT:Up h8 n8 h10 (n8+1):=by rw[<-hg];exact aH
  have k0:h10.get n8=some (.row 185 a.av):=by rw[<-hg];simp (disch:=omega) only[go_sem]
  have t10:=t8.box rT (Nat.lt_succ_self n8);clear hg;rw[nK];refine nI _ cw t10 (by simp only[List.length_append]at hlp⊢;omega) hb.1 λh11 n11 t11 yx=>?_;have k1:=(yx.at_ (.inr rfl) (Nat.lt_succ_self n8)).trans k0;have l11:=yx.le;simp (disch:=omega) only[go_sem,simprocAttr,k1];rw[nK];refine nI _ cw t11 (by simp only[List.length_append]at hlp⊢;omega) hb.2.1 λh12 n12 t12 uP=>?_;have k2:=(uP.at_ (.inr rfl) (by omega)).trans k1;have l12:=uP.le;simp (disch:=omega) only[go_sem,simprocAttr,k2];rw[nK];refine nI _ cw t12 (by simp only[List.length_append]at hlp⊢;omega) hb.2.2.1 λh13 n13 t13 KD=>?_;have k3:=(KD.at_ (.inr rfl) (by omega)).trans k2;have l13:=KD.le;simp (disch:=omega) only[go_sem,simprocAttr,k3];rw[nK];refine nI _ cw t13 (by simp only[List.length_append]at hlp⊢;omega) hb.2.2.2 λh14 n14 t14 VL=>?_;have k4:=(VL.at_ (.inr rfl) (by omega)).trans k3;have L9:=VL.le;simp (disch:=omega) only[go_sem,simprocAttr,k4];rw[nK];refine Ee _ cf t14 (by simp only[List.length_append]at hlp⊢;omega) a.paused λVN n15 t15 u15=>?_;simp (disch:=omega) only[go_sem,simprocAttr];have t16:=t15.wk (P':=λx=>x<n+1) λx hx=>.inl hx;have e16:pre++(p.st.marks.take k).flatMap mkT++wr a.status++wr a.left++wr a.got++wr a.aT++fl a.paused=pre++(p.st.marks.take (k+1)).flatMap mkT:=by
   rw[nH ha,mkT];simp only[List.append_assoc]
  rw[e16]at t16;have uu2:UP (λx=>x<n+1) h10 (n8+1) VN n15:=UP.wk (P:=λx=>x<n+1\/x=n8) (UX.trans (UX.trans (UX.trans (UX.trans yx uP) KD) VL) u15) λx hx=>.inl hx;exact⟨rfl,rfl,_,⟨t16,(u8.trans (UX.up rT)).trans uu2,rfl⟩,by(repeat' (first|exact aO|refine aM rfl ?_))⟩
 rintro h3 n3 G ⟨t3,rR,rfl⟩;rw[List.take_length]at t3;obtain⟨v,r1,r2,r3⟩:=t3.ex;have hcb:Xm h3 (some v)=some (.s (gG p)):=Gr.Np r2;simp (disch:=omega) only[go_sem,simprocAttr,r1,hcb];exact hQ _ _ (rR.TP u1 (Nat.le_succ n))
theorem KE(K:Nat)(hS:bI h n tv p.st)(pb:PB p)(hQ:∀h' n',Up h n h' n'->Q (.s (gG p)) h' n'):CW (EF (K+6)) 90 [.agg (tv.pv p)] h n Q:=FW K ⟨aiP,rfl,rfl⟩ ⟨aiW,rfl,rfl⟩ ⟨c232,rfl,rfl⟩ hS pb hQ
end
end
end
section
noncomputable section
def dv(b:UInt8):Nat:=b.toNat - 48
theorem iE{k:Nat}(h:k<10):(dg k).toNat=48+k:=by unfold dg;simp;omega
def vl(l:List UInt8):Nat:=l.foldl (λx b=>x*10+(b.toNat - 48)) 0
theorem PY{a:Nat}(ha:a<10000):vl (dec a)=a:=by
 unfold dec vl;split
 .simp only[List.foldl_cons,List.foldl_nil];rw[iE (by omega)];omega
 .split
  .simp only[List.foldl_cons,List.foldl_nil];rw[iE (by omega),iE (by omega)];omega
  .split
   .simp only[List.foldl_cons,List.foldl_nil];rw[iE (by omega),iE (by omega),iE (by omega)];omega
   .simp only[List.foldl_cons,List.foldl_nil];rw[iE (by omega),iE (by omega),iE (by omega),iE (by omega)];omega
theorem KF{a b:Nat}(ha:a<10000)(hb:b<10000)(h:dec a=dec b):a=b:=by
 rw[<-PY ha,h,PY hb]
theorem PZ{a:Nat}(ha:a<10000):∀b∈dec a,48<=b.toNat/\b.toNat<58:=by
 intro b hb;unfold dec at hb;have key:∀k,k<10->b=dg k->48<=b.toNat/\b.toNat<58:=λk hk e=>by rw[e,iE hk];omega
 split at hb
 .simp at hb;exact key _ (by assumption) hb
 .split at hb
  .simp at hb;rcases hb with e|e<;>exact key _ (by omega) e
  .split at hb
   .simp at hb;rcases hb with e|e|e<;>exact key _ (by omega) e
   .simp at hb;rcases hb with e|e|e|e<;>exact key _ (by omega) e
theorem YE{x y:Int}(hx:NB x)(hy:NB y)(h:tn x=tn y):x=y:=by
 unfold NB at hx hy;unfold tn at h;have d45:∀u:Nat,u<10000->∀r,dec u≠45::r:=λu hu r e=>by
  have:=PZ hu 45 (by rw[e];exact List.mem_cons_self);simp at this
 split at h<;>split at h
 .have:=KF (by omega) (by omega) (List.cons.inj h).2;omega
 .exact absurd h.symm (d45 _ (by omega) _)
 .exact absurd h (d45 _ (by omega) _)
 .have:=KF (by omega) (by omega) h;omega
theorem acw{x:Int}(hx:NB x):(32:UInt8)∉tn x:=by
 unfold NB at hx;unfold tn;intro h;split at h
 .rcases List.mem_cons.1 h with e|e
  .cases e
  .have:=PZ (by omega) _ e;simp at this
 .have:=PZ (by omega) _ h;simp at this
theorem TR{a b r s:List UInt8}(ha:(32:UInt8)∉a)(hb:(32:UInt8)∉b)(h:a++32::r=b++32::s):a=b/\r=s:=by
 induction a generalizing b with
 |nil=>cases b with
  |nil=>exact⟨rfl,(List.cons.inj h).2⟩
  |cons y b=>exact absurd (List.mem_cons.2 (.inl (List.cons.inj h).1)) hb
 |cons x a ih=>cases b with
  |nil=>exact absurd (List.mem_cons.2 (.inl (List.cons.inj h).1.symm)) ha
  |cons y b=>
   obtain⟨h1,h2⟩:=List.cons.inj h;obtain⟨h3,h4⟩:=ih (λe=>ha (List.mem_cons_of_mem _ e)) (λe=>hb (List.mem_cons_of_mem _ e)) h2;exact⟨by rw[h1,h3],h4⟩
theorem gQ{x y:Int}{r s:List UInt8}(hx:NB x)(hy:NB y)(h:wr x++r=wr y++s):x=y/\r=s:=by
 unfold wr at h;rw[List.append_assoc,List.append_assoc]at h;obtain⟨h1,h2⟩:=TR (acw hx) (acw hy) h;exact⟨YE hx hy h1,h2⟩
theorem AX{x y:Bool}{r s:List UInt8}(h:fl x++r=fl y++s):x=y/\r=s:=by
 cases x<;>cases y<;>simp[fl]at h⊢<;>exact h
theorem P5{x y:aA}{r s:List UInt8}(hx:NB x.status/\NB x.left/\NB x.got/\NB x.aT)(hy:NB y.status/\NB y.left/\NB y.got/\NB y.aT)(h:mkT x++r=mkT y++s):x=y/\r=s:=by
 obtain⟨x1,x2,x3,x4,x5⟩:=x;obtain⟨y1,y2,y3,y4,y5⟩:=y;unfold mkT at h;simp only[List.append_assoc]at h;obtain⟨e1,h⟩:=gQ hx.1 hy.1 h;obtain⟨e2,h⟩:=gQ hx.2.1 hy.2.1 h;obtain⟨e3,h⟩:=gQ hx.2.2.1 hy.2.2.1 h;obtain⟨e4,h⟩:=gQ hx.2.2.2 hy.2.2.2 h;obtain⟨e5,h⟩:=AX h;dsimp only at e1 e2 e3 e4 e5;exact⟨by rw[e1,e2,e3,e4,e5],h⟩
theorem lF{α:Type}{f:α->List UInt8}{B:α->Prop}(hf:∀x y r s,B x->B y->f x++r=f y++s->x=y/\r=s):∀{a b:List α}{r s:List UInt8},a.length=b.length->(∀x∈a,B x)->(∀x∈b,B x)->a.flatMap f++r=b.flatMap f++s->a=b/\r=s
 |[],[],_,_,_,_,_,h=>⟨rfl,h⟩
 |[],_::_,_,_,hl,_,_,_=>by simp at hl
 |_::_,[],_,_,hl,_,_,_=>by simp at hl
 |x::a,y::b,r,s,hl,ha,hb,h=>by
  rw[List.flatMap_cons,List.flatMap_cons,List.append_assoc,List.append_assoc]at h;obtain⟨e1,h⟩:=hf x y _ _ (ha x (by simp)) (hb y (by simp)) h;obtain⟨e2,h⟩:=lF hf (by simpa using hl) (λz hz=>ha z (List.mem_cons_of_mem _ hz)) (λz hz=>hb z (List.mem_cons_of_mem _ hz)) h;exact⟨by rw[e1,e2],h⟩
theorem P6{p q:aN}(hp:PB p)(hq:PB q)(l1:p.st.ah.length=q.st.ah.length)(l2:p.st.used.length=q.st.used.length)(l3:p.st.marks.length=q.st.marks.length)(h:gG p=gG q):p=q:=by
 unfold gG at h;rw[<-List.append_nil (p.st.marks.flatMap mkT),<-List.append_nil (q.st.marks.flatMap mkT)]at h;simp only[List.append_assoc]at h;obtain⟨e1,h⟩:=AX h;obtain⟨e2,h⟩:=gQ hp.day hq.day h;obtain⟨e3,h⟩:=lF (B:=NB) (λx y r s=>gQ) l1 hp.ah hq.ah h;obtain⟨e4,h⟩:=lF (f:=fl) (B:=λ_=>True) (λx y r s _ _=>AX) l2 (λ_ _=>trivial) (λ_ _=>trivial) h;obtain⟨e5,h⟩:=lF (B:=λx=>NB x.status/\NB x.left/\NB x.got/\NB x.aT) (λx y r s=>P5) l3 hp.marks hq.marks h;obtain⟨⟨d,hs,us,ms⟩,o⟩:=p;obtain⟨⟨d',hs',us',ms'⟩,o'⟩:=q;cases e1;cases e2;cases e3;cases e4;cases e5
 rfl
section
variable {C:ay} {s:aI} {party:Int} {p q:aN}
theorem aK.pb(h:aK C s)(o:Bool):PB ⟨s,o⟩:=by
 have ok:=ay.ok h.con;have:=ok.dJ;have:=ok.iX;have:=ok.jm;have:=ok.O4;have:=ok.O5;have:=h.lh;have:=h.lu;have:=h.lm;have:=h.BJ;have:=h.Fz;refine⟨by show NB s.day;unfold NB;omega,λx hx=>by have:=h.held x hx;unfold NB;omega,λm hm=>?_,by show s.ah.length<=1000;omega,by show s.used.length<=1000;omega,by show s.marks.length<=1000;omega⟩;obtain⟨i,hi⟩:=List.getElem?_of_mem hm;have hi:s.marks[i]?=some m:=hi;have hil:=(List.getElem?_eq_some_iff.1 hi).1;have hic:i<C.clauses.length:=by omega
 have hk:C.clauses[i]?=some C.clauses[i]:=List.getElem?_eq_some_iff.2 ⟨hic,rfl⟩;have zl:=ok.clause hk;have h1:=h.marks i m _ hi hk;have h2:=bS.got zl h1;have:=zl.O6;have:=zl.O7;unfold NB;rcases h1 with e|e|e
 .omega
 .obtain⟨e1,e2,e3,e4,e5,e6,e7⟩:=e
  by_cases hk4:C.clauses[i].kind=4
  .have:=e6 hk4
   rcases e1 with⟨e1,e1'⟩|⟨e1,e1'⟩<;>omega
  .have:=e7 hk4
   rcases e1 with⟨e1,e1'⟩|⟨e1,e1'⟩<;>omega
 .omega
theorem ko(h:aK C s){t:Int}(h1: -1<=t)(h2:t<C.acts.length)(hd:s.day<C.days):aK C (C.aU s t):=by
 unfold ay.aU;by_cases h3:t= -1
 .rw[if_pos h3];exact Kr h hd
 .rw[if_neg h3]
  obtain⟨i,rfl⟩:=Int.eq_ofNat_of_zero_le (show 0<=t by omega);rw[show((i:Nat):Int).toNat=i by omega];obtain⟨a,ha⟩:∃a,C.acts[i]?=some a:=⟨C.acts[i]'(by omega),List.getElem?_eq_some_iff.2 ⟨by omega,rfl⟩⟩;rw[ha];exact Pb h ha
theorem IJ(h:aK C p.st){m:Int}(hm:(m,q)∈C.iK party p):aK C q.st:=by
 unfold ay.iK ay.mI at hm;rcases List.mem_append.1 hm with hm|hm
 .rcases List.mem_append.1 hm with hm|hm
  .split at hm
   .simp at hm;rw[hm.2];exact h
   .cases hm
  .split at hm
   .rename_i h2
    simp at hm;rw[hm.2];exact ko (t:= -1) h (by omega) (by omega) h2.2
   .cases hm
 .split at hm
  .rename_i h2
   unfold ay.mJ at hm;obtain⟨i,hi,e⟩:=List.mem_map.1 hm;have hlt:=List.mem_range.1 (List.mem_filter.1 hi).1;cases e
   exact ko (t:=(i:Int)) h (by omega) (by omega) h2
  .cases hm
theorem wH.ok(h:aK C p.st)(k:wH C party p q):aK C q.st:=by
 induction k with
 |refl=>exact h
 |step _ hm ih=>exact IJ ih hm
theorem KG(hp:aK C p.st)(hq:aK C q.st)(h:gG p=gG q):p=q:=
 P6 (hp.pb p.own) (hq.pb q.own) (by rw[hp.lh,hq.lh]) (by rw[hp.lu,hq.lu]) (by rw[hp.lm,hq.lm]) h
end
end
end
section
noncomputable section
section
variable {h h':AH} {n n':Nat} {v:CS} {C:ay} {s:aI} {tv:TS} {Q:AV->AH->Nat->Prop}
theorem Ck(K:Nat)(hS:bI h n tv s)(l1:s.ah.length<=1000000)(l2:s.used.length<=1000000)(l3:s.marks.length<=1000000)
 (hQ:∀tv' h' n',Up h n h' n'->Kp (λx=>x<n) h' n' (λh n=>bI h n tv' s)->Q (.agg (tv'.av s)) h' n'):CW (EF (K+2)) 89 [.agg (tv.av s)] h n Q:=by
 refine aC aiS rfl ?_;repeat' (first|(simp (disch:=omega) only[go_sem,simprocAttr,ub.old,Yt,TS.av])|(simp (disch:=omega) only[go_sem,simprocAttr,Yt,TS.av])|(refine aS ?_ ?_<;>(intro hb hd;rw[hb];clear hb))|(with_reducible refine aj ?_))
 generalize hh:Tr.set (Tr.set h n _) (n+1) _=h0;have u0:Up h n h0 (n+2):=by rw[<-hh];exact aH
 have q0:h0.get n=some (.row 77 (tv.av s)):=by rw[<-hh];simp (disch:=omega) only[go_sem]
 have p0:h0.get (n+1)=some (.row 77 [.i .i64 0,.k 1,.k 1,.k 1]):=by rw[<-hh];simp (disch:=omega) only[go_sem]
 clear hh;rw[bF];refine eU Yk AA _ (hS.ah.up u0) l1 λv1 h1 n1 u1 g1 b1 _=>?_;have q1:=(u1.old n (by omega)).trans q0;have e1:=u1.le;simp (disch:=omega) only[go_sem,simprocAttr,g1.cl,q1,TS.av];rw[bF];refine eU ab0 VA _ (hS.used.up (u0.trans u1)) l2 λv2 h2 n2 u2 g2 b2 _=>?_;have q2:=(u2.old n (by omega)).trans q1;have e2:=u2.le;simp (disch:=omega) only[go_sem,simprocAttr,g2.cl,q2,TS.av];rw[bF];refine eU aiA abZ _ (hS.marks.up ((u0.trans u1).trans u2)) l3 λv3 h3 n3 u3 g3 b3 _=>?_;have q3:=(u3.old n (by omega)).trans q2;have e3:=u3.le;simp (disch:=omega) only[go_sem,simprocAttr,g1.cl,g2.cl,g3.cl,q3,q2,q1,q0,TS.av];have p3:=(u3.old (n+1) (by omega)).trans ((u2.old (n+1) (by omega)).trans ((u1.old (n+1) (by omega)).trans p0));simp (disch:=omega) only[go_sem,simprocAttr,p3];have k1:=((g1.sl.kp (X:=λx=>x<n+2) λx hx=>by have:=b1 x hx;omega).up u2).up u3;have k2:=(g2.sl.kp (X:=λx=>x<n+2) λx hx=>by have:=b2 x hx;omega).up u3;have k3:=g3.sl.kp (X:=λx=>x<n+2) λx hx=>by have:=b3 x hx;omega
 have kk:Kp (λx=>x<n+2) h3 n3 λh n=>bI h n ⟨v1,v2,v3⟩ s:=((k1.and k2).and k3).wk λh n ⟨⟨a,b⟩,c⟩=>⟨a,b,c⟩;refine hQ ⟨v1,v2,v3⟩ _ _ aH ?_;exact((((kk.set (.inl (by omega)) (Nat.le_refl _)).set (.inl (by omega)) (Nat.le_refl _)).set (.inl (by omega)) (Nat.le_refl _)).set (.inl (by omega)) (Nat.le_refl _)).le λx _ hx=>by omega
theorem yA(K:Nat)(hC:aY h n v C)(ho:C.off.length<=1000000){party:Int}{p:aN}(hS:bI h n tv p.st)
 (hQ:∀h' n',Up h n h' n'->Q (.b (decide (0<=party)&&decide (party<C.aD)&&C.dB p.st)) h' n'):CW (EF (K+8)) 88 [.agg (v.av C),.i .i64 party,.agg (tv.pv p)] h n Q:=by
 refine aC aiT rfl ?_;repeat' (first|(simp (disch:=omega) only[go_sem,simprocAttr,ub.old,Yu,CS.av,TS.pv])|(simp (disch:=omega) only[go_sem,simprocAttr,Yu,CS.av,TS.pv])|((first|rw[aR]|rw[bF]);with_reducible refine gJ _ (hC.up aH) ho (hS.up aH) λh2 n2 u2=>?_;(first|replace ub:=Up.trans ub (Up.trans aH u2)|have ub:=u2);have hle:=ub.le;clear u2)|(refine aS ?_ ?_<;>(intro hb hd;rw[hb];clear hb))|(with_reducible refine aj ?_))
 all_goals exact dh hQ (by simp[*]) aH
end
end
end
section
noncomputable section
section
variable {h h':AH} {n n':Nat} {v:CS} {C:ay} {tv:TS} {p:aN} {party:Int} {Q:AV->AH->Nat->Prop}
structure L_(h:AH)(n pb cb tb:Nat)(v:CS)(C:ay)(tv:TS)(p:aN)(party:Int):Prop where
 rp:h.get pb=some (.row 114 (tv.pv p))
 rc:h.get cb=some (.row 27 (v.av C))
 rt:h.get tb=some (.row 3 [.i .i64 party])
 pn:pb<n
 cn:cb<n
 tn:tb<n
 con:aY h n v C
 st:bI h n tv p.st
theorem L_.up{pb cb tb:Nat}(m:L_ h n pb cb tb v C tv p party)(u:Up h n h' n'):L_ h' n' pb cb tb v C tv p party:=
 have:=u.le
 ⟨(u.old _ m.pn).trans m.rp,(u.old _ m.cn).trans m.rc,(u.old _ m.tn).trans m.rt,Nat.lt_of_lt_of_le m.pn this,Nat.lt_of_lt_of_le m.cn this,Nat.lt_of_lt_of_le m.tn this,m.con.up u,m.st.up u⟩
theorem FX(K:Nat)(hC:aY h n v C)(hS:bI h n tv p.st)(hQ:∀pb cb tb h' n',Up h n h' n'->L_ h' n' pb cb tb v C tv p party->n<=pb->n<=cb->n<=tb->Q (.f 154 [.p pb 0,.p cb 0,.p tb 0]) h' n'):CW (EF (K+1)) 91 [.agg (v.av C),.i .i64 party,.agg (tv.pv p)] h n Q:=by
 refine aC aiR rfl ?_;repeat' (first|(simp (disch:=omega) only[go_sem,simprocAttr,aci,CS.av,TS.pv])|(refine aS ?_ ?_<;>(intro hb hd;rw[hb];clear hb))|(with_reducible refine aj ?_))
 have u:∀h',h'=((Tr.set h n (AO.row 27 (v.av C))).set (n+1) (.row 3 [.i .i64 party])).set (n+1+1) (.row 114 (tv.pv p))->Up h n h' (n+1+1+1):=λh' e=>by rw[e];exact aH
 refine hQ (n+2) n (n+1) _ _ (u _ rfl) ⟨?_,?_,?_,by omega,by omega,by omega,hC.up (u _ rfl),hS.up (u _ rfl)⟩ (by omega) (by omega) (by omega);all_goals simp (disch:=omega) only[go_sem]
theorem P7(C:ay)(party:Int)(p:aN){k N:Nat}(h:k<=N):C.mJ party p k<+:C.mJ party p N:=by
 induction h with
 |refl=>exact⟨[],by simp⟩
 |step _ ih=>rw[xH];exact ih.trans ⟨_,rfl⟩
theorem KH(K:Nat){pb cb tb yr:Nat}(J:AH->Nat->List (Int×aN)->Prop)(E:AH->Nat->Prop)(ho:C.off.length<=1000000)(ok:aK C p.st)(hJ:∀h n h' n' l,J h n l->Up h n h' n'->J h' n' l)
 (KI:∀h n l,J h n l->L_ h n pb cb tb v C tv p party)(j0:J h n [])
 (hstep:∀(l:List (Int×aN))(m:Int)(q:aN)(tvq:TS) h0 n0 h1 n1,(l++[(m,q)])<+:C.iK party p->J h0 n0 l->Up h0 n0 h1 n1->Kp (λx=>x<n0) h1 n1 (λh n=>bI h n tvq q.st)->
  RW (Y0 yr [.i .i64 m,.agg (tvq.pv q)] (EF (K+8)) h1 n1) λu h2 n2=>∃b,u= .b b/\(b=true->J h2 n2 (l++[(m,q)]))/\(b=false->E h2 n2))
 (hQ:∀h' n',J h' n' (C.iK party p)->Q (.bJ []) h' n')(hE:∀h' n',E h' n'->Q (.bJ []) h' n'):CW (EF (K+9)) 154 [.y yr,.p pb 0,.p cb 0,.p tb 0] h n Q:=by
 have hm0:=KI _ _ _ j0;have rp:=hm0.rp;have rc:=hm0.rc;have rt:=hm0.rt;refine aC c233 rfl ?_;have ok1:=ay.ok ok.con;have:=ok.lh;have:=ok.lu;have:=ok.lm;have:=ok1.dJ;have:=ok1.iX;have:=ok1.jm;have tail:∀h2 n2 (F:Fm),J h2 n2 (C.mI p)->p.st.day<C.days->lk F 49=some (.i .i64 0)->lk F 48=some (.i .i64 (C.acts.length:Nat))->lk F 0=some (.y yr)->lk F 1=some (.p pb 0)->lk F 2=some (.p cb 0)->lk F 3=some (.p tb 0)->lk F 47=some v.a->
  SM Tryz.prog Y0 154 (.c (zf 3 49 48 50 0 1 Iy)::[It.b 0]) .bX (EF (K+8)) h2 n2 F (Kn [] Q):=by
  intro h2 n2 F j2 jW f1 f2 f3 f4 f5 f6 f7;refine bP C.acts.length (λk h n G=>J h n (C.mI p++C.mJ party p k)/\G=[(0,.y yr),(1,.p pb 0),(2,.p cb 0),(3,.p tb 0),(47,v.a)]) (by omega) (by omega) (by omega) (by omega) (λk h8 n8 G ⟨_,e⟩=>by subst e;exact⟨rfl,rfl⟩) ⟨f1,f2,_,⟨by simpa [ay.mJ]using j2,rfl⟩,aM f3 (aM f4 (aM f5 (aM f6 (aM f7 aO))))⟩ ?_ ?_
  .rintro k h3 n3 G hk ⟨j3,rfl⟩
   have FY:=KI _ _ _ j3;have rp:=FY.rp;have rc:=FY.rc;have rt:=FY.rt;obtain⟨b1,o1,a,i1,ha,hb1,rd⟩:=FY.con.acts.dL (k:=(k:Nat)) (by omega) (by omega) (by omega);rw[show((k:Nat):Int).toNat=k by omega]at ha;have pn:=FY.pn;have cn:=FY.cn;have tn:=FY.tn;have act:=ok1.act (List.mem_of_getElem? ha);have hdo:C.doer p.st (k:Nat)=bC p.st.ah a:=by unfold ay.doer;rw[show((k:Nat):Int).toNat=k by omega,ha]
   have rp:=FY.rp;have rc:=FY.rc;have rt:=FY.rt;have sk:¬C.Kt party p k->∀h4 n4,Up h3 n3 h4 n4->J h4 n4 (C.mI p++C.mJ party p (k+1)):=λh h4 n4 u=>by rw[xH,if_neg h,List.append_nil];exact hJ _ _ _ _ _ j3 u
   have ks:C.Kt party p k->C.mI p++C.mJ party p (k+1)=C.mI p++C.mJ party p k++[((k:Int),⟨C.aU p.st k,true⟩)]:=λh=>by rw[xH,if_pos h,List.append_assoc]
   have pre:C.mI p++C.mJ party p (k+1)<+:C.iK party p:=by
    rw[ay.iK,if_pos jW,List.prefix_append_right_inj];exact P7 C party p hk
   repeat' (first|(simp (disch:=omega) only[go_sem,simprocAttr,Iy,aJ i1,rd.el,rd.hd,rd.all])|(refine aS ?_ ?_<;>(intro hb hd;rw[hb];clear hb))|(with_reducible refine aj ?_))
   .have hr:=act.role hd
    obtain⟨b2,o2,x,i2,hx,hb2,eP⟩:=FY.st.ah.dL (k:=a.role) (by omega) (by omega) (by omega);have hdx:bC p.st.ah a=x:=by unfold bC gY;rw[hx,show(a.role== -1)=false by simpa using hd];rfl
    simp (disch:=omega) only[go_sem,simprocAttr,rp,rc,rt,TS.pv,CS.av,aJ i2,eP.el,eP.hd];rw[<-hdx];rw[<-hdo];refine zh (λhd2=>?_) (λhd2=>?_)<;>rw[hd2]
    .simp (disch:=omega) only[go_sem,simprocAttr]
     have hn:¬C.Kt party p k:=λe=>by
      have e:=e.1;by_cases hx:C.doer p.st (k:Nat)=party
      .rw[hx,e.1 hx]at hd2;simp at hd2
      .have:p.own=false:=by cases ho:p.own with|true=>exact absurd (e.2 ho) hx|false=>rfl
       rw[this]at hd2;simp[hx]at hd2
     refine⟨rfl,rfl,_,⟨sk hn _ _ aH,rfl⟩,by(repeat' (first|exact aO|refine aM rfl ?_))⟩
    .have hde:C.doer p.st (k:Nat)=party↔p.own=true:=by
      by_cases hx:C.doer p.st (k:Nat)=party
      .cases ho:p.own with
       |true=>simp[hx]
       |false=>rw[ho]at hd2;simp[hx]at hd2
      .cases ho:p.own with
       |false=>simp[hx]
       |true=>rw[ho]at hd2;simp[hx]at hd2
     simp (disch:=omega) only[go_sem,simprocAttr,rp,rc,rt,TS.pv,CS.av];rw[aR];refine oK _ (FY.con.up aH) ho (FY.st.up aH) (k:Nat) (λe=>?_) (λ_ _ _ e=>?_) (λ_ _ _ _ tv4 h4 n4 u4 k4=>?_)
     .exact absurd e (by rw[(bR C p.st).2 ok];simp;omega)
     .omega
     have hm4:=FY.up (show Up h3 n3 h4 n4 by exact aH);have rp:=hm4.rp;have e4:=u4.le;have pn4:pb<n4:=by omega
     have YF:=ko ok (t:=(k:Nat)) (by omega) (by omega) jW;have l1:=YF.lh;have l2:=YF.lu;have l3:=YF.lm;simp (disch:=omega) only[go_sem,simprocAttr,rp,TS.pv,TS.av];rw[aR];refine zi _ ((k4.up aH).use) (hm4.st.up aH) (by omega) (by omega) (by omega) λh5 n5 u5=>?_;by_cases hsm:C.aU p.st (k:Nat)=p.st
     .rw[yw hsm]
      simp (disch:=omega) only[go_sem,simprocAttr];refine⟨rfl,rfl,_,⟨sk (λe=>e.2 hsm) _ _ aH,rfl⟩,by(repeat' (first|exact aO|refine aM rfl ?_))⟩
     .rw[vN hsm]
      have hmv:C.Kt party p k:=⟨hde,hsm⟩;simp (disch:=omega) only[go_sem,simprocAttr,u5.old,TS.av];rw[sI];refine RW.mono (hstep _ (k:Int) ⟨C.aU p.st k,true⟩ tv4 _ _ _ _ (by rw[<-ks hmv];exact pre) j3 aH ((k4.up aH).le λx hx h=>?_)) ?_
      .omega
      rintro _ h6 n6 ⟨b,rfl,hb1,hb2⟩;cases b with
      |false=>
       simp (disch:=omega) only[go_sem,simprocAttr];exact hE _ _ (hb2 rfl)
      |true=>
       have j6:=hb1 rfl;rw[<-ks hmv]at j6;simp (disch:=omega) only[go_sem,simprocAttr];exact⟨rfl,rfl,_,⟨j6,rfl⟩,by(repeat' (first|exact aO|refine aM rfl ?_))⟩
   .have hdx:bC p.st.ah a= -1:=by unfold bC;rw[hd];rfl
    simp (disch:=omega) only[go_sem,simprocAttr,rp,rc,rt,TS.pv,CS.av];rw[<-hdx];rw[<-hdo];refine zh (λhd2=>?_) (λhd2=>?_)<;>rw[hd2]
    .simp (disch:=omega) only[go_sem,simprocAttr]
     have hn:¬C.Kt party p k:=λe=>by
      have e:=e.1;by_cases hx:C.doer p.st (k:Nat)=party
      .rw[hx,e.1 hx]at hd2;simp at hd2
      .have:p.own=false:=by cases ho:p.own with|true=>exact absurd (e.2 ho) hx|false=>rfl
       rw[this]at hd2;simp[hx]at hd2
     refine⟨rfl,rfl,_,⟨sk hn _ _ aH,rfl⟩,by(repeat' (first|exact aO|refine aM rfl ?_))⟩
    .have hde:C.doer p.st (k:Nat)=party↔p.own=true:=by
      by_cases hx:C.doer p.st (k:Nat)=party
      .cases ho:p.own with
       |true=>simp[hx]
       |false=>rw[ho]at hd2;simp[hx]at hd2
      .cases ho:p.own with
       |false=>simp[hx]
       |true=>rw[ho]at hd2;simp[hx]at hd2
     simp (disch:=omega) only[go_sem,simprocAttr,rp,rc,rt,TS.pv,CS.av];rw[aR];refine oK _ (FY.con.up aH) ho (FY.st.up aH) (k:Nat) (λe=>?_) (λ_ _ _ e=>?_) (λ_ _ _ _ tv4 h4 n4 u4 k4=>?_)
     .exact absurd e (by rw[(bR C p.st).2 ok];simp;omega)
     .omega
     have hm4:=FY.up (show Up h3 n3 h4 n4 by exact aH);have rp:=hm4.rp;have e4:=u4.le;have pn4:pb<n4:=by omega
     have YF:=ko ok (t:=(k:Nat)) (by omega) (by omega) jW;have l1:=YF.lh;have l2:=YF.lu;have l3:=YF.lm;simp (disch:=omega) only[go_sem,simprocAttr,rp,TS.pv,TS.av];rw[aR];refine zi _ ((k4.up aH).use) (hm4.st.up aH) (by omega) (by omega) (by omega) λh5 n5 u5=>?_;by_cases hsm:C.aU p.st (k:Nat)=p.st
     .rw[yw hsm]
      simp (disch:=omega) only[go_sem,simprocAttr];refine⟨rfl,rfl,_,⟨sk (λe=>e.2 hsm) _ _ aH,rfl⟩,by(repeat' (first|exact aO|refine aM rfl ?_))⟩
     .rw[vN hsm]
      have hmv:C.Kt party p k:=⟨hde,hsm⟩;simp (disch:=omega) only[go_sem,simprocAttr,u5.old,TS.av];rw[sI];refine RW.mono (hstep _ (k:Int) ⟨C.aU p.st k,true⟩ tv4 _ _ _ _ (by rw[<-ks hmv];exact pre) j3 aH ((k4.up aH).le λx hx h=>?_)) ?_
      .omega
      rintro _ h6 n6 ⟨b,rfl,hb1,hb2⟩;cases b with
      |false=>
       simp (disch:=omega) only[go_sem,simprocAttr];exact hE _ _ (hb2 rfl)
      |true=>
       have j6:=hb1 rfl;rw[<-ks hmv]at j6;simp (disch:=omega) only[go_sem,simprocAttr];exact⟨rfl,rfl,_,⟨j6,rfl⟩,by(repeat' (first|exact aO|refine aM rfl ?_))⟩
  .rintro h3 n3 G ⟨j3,rfl⟩
   simp (disch:=omega) only[go_sem,simprocAttr];refine hQ _ _ ?_;rw[ay.iK,if_pos jW];exact j3
 cases hown:p.own with
 |true=>
  have Ma:C.mI p=[(-2,⟨p.st,false⟩)]:=by unfold ay.mI;rw[if_pos hown,if_neg (by rw[hown];simp)];rfl
  simp (disch:=omega) only[go_sem,simprocAttr,Yp,rp,rc,rt,TS.pv,CS.av,hown];rw[aR];refine Ck _ hm0.st (by omega) (by omega) (by omega) λRN h1 n1 u1 k1=>?_;simp (disch:=omega) only[go_sem,simprocAttr,TS.av];rw[sI];refine RW.mono (hstep [] (-2) ⟨p.st,false⟩ RN _ _ _ _ (by rw[ay.iK,Ma];exact⟨_,rfl⟩) j0 u1 k1) ?_;rintro _ h2 n2 ⟨b,rfl,hb1,hb2⟩;cases b with
  |false=>
   simp (disch:=omega) only[go_sem,simprocAttr];exact hE _ _ (hb2 rfl)
  |true=>
   have j2:=hb1 rfl;have hm2:=KI _ _ _ j2;have rp:=hm2.rp;have rc:=hm2.rc;have rt:=hm2.rt;repeat' (first|(simp (disch:=omega) only[go_sem,simprocAttr,rp,rc,TS.pv,CS.av,hown,hm2.con.acts.len])|(refine aS ?_ ?_<;>(intro hb hd;rw[hb];clear hb))|(with_reducible refine aj ?_))
   .refine hQ _ _ ?_
    rw[ay.iK,Ma,if_neg (by omega)];exact j2
   exact tail _ _ _ (by rw[Ma];exact j2) (by omega) rfl rfl rfl rfl rfl rfl rfl
 |false=>
  have no:¬p.own=true:=by rw[hown];simp
  simp (disch:=omega) only[go_sem,simprocAttr,Yp,rp,rc,rt,TS.pv,CS.av,hown];refine zh (λhd2=>?_) (λhd2=>?_)<;>(rw[hd2];simp only[decide_eq_true_eq,decide_eq_false_iff_not]at hd2)
  .simp (disch:=omega) only[go_sem,simprocAttr]
   refine hQ _ _ ?_;rw[ay.iK,ay.mI,if_neg no,if_neg (by omega),if_neg (by omega)];exact j0
  .have jW:p.st.day<C.days:=by omega
   have Ma:C.mI p=[(-1,⟨C.aU p.st (-1),true⟩)]:=by unfold ay.mI;rw[if_neg no,if_pos ⟨hown,jW⟩];rfl
   simp (disch:=omega) only[go_sem,simprocAttr,rp,rc,rt,TS.pv,CS.av,hown];rw[aR];refine oK _ hm0.con ho hm0.st (-1) (λe=>?_) (λ_ _ _ e=>?_) (λ_ _ _ _ tv4 h4 n4 u4 k4=>?_)
   .exact absurd e (by rw[(bR C p.st).2 ok];simp;omega)
   .omega
   have e4:=u4.le;simp (disch:=omega) only[go_sem,simprocAttr,TS.av];rw[sI];refine RW.mono (hstep [] (-1) ⟨C.aU p.st (-1),true⟩ tv4 _ _ _ _ (by rw[ay.iK,Ma];exact⟨_,rfl⟩) j0 aH (k4.up aH)) ?_;rintro _ h6 n6 ⟨b,rfl,hb1,hb2⟩;cases b with
   |false=>
    simp (disch:=omega) only[go_sem,simprocAttr];exact hE _ _ (hb2 rfl)
   |true=>
    have j2:=hb1 rfl;have hm2:=KI _ _ _ j2;have rp:=hm2.rp;have rc:=hm2.rc;have rt:=hm2.rt;repeat' (first|(simp (disch:=omega) only[go_sem,simprocAttr,rp,rc,TS.pv,CS.av,hown,hm2.con.acts.len])|(refine aS ?_ ?_<;>(intro hb hd;rw[hb];clear hb))|(with_reducible refine aj ?_))
    exact tail _ _ _ (by rw[Ma];exact j2) jW rfl rfl rfl rfl rfl rfl rfl
end
end
end
section
noncomputable section
def uy:List aN->Nat->List (List UInt8×AV)
 |[],_=>[]
 |q::r,i=>(gG q,.i .i64 (i:Nat))::uy r (i+1)
section
variable {C:ay} {party:Int} {p q r:aN} {P:List aN} {M:List (List (Int×Nat))} {l:List (Int×Nat)} {ms:List (Int×aN)}
theorem P8{v:AV}(hq:aK C q.st)(hP:∀x∈P,aK C x.st):∀{i:Nat},jD (uy P i) (gG q)=some v->∃j:Nat,P[j]?=some q/\v= .i .i64 ((i+j:Nat):Int):=by
 induction P with
 |nil=>intro i h;cases h
 |cons a P ih=>
  intro i h;rw[uy,jD]at h;split at h
  .rename_i e
   cases KG hq (hP a (by simp)) e
   cases h
   exact⟨0,rfl,by simp⟩
  .obtain⟨j,h1,h2⟩:=ih (λx hx=>hP x (List.mem_cons_of_mem _ hx)) h
   exact⟨j+1,h1,by rw[h2];congr 2;omega⟩
theorem P9:∀{i:Nat},jD (uy P i) (gG q)=none->q∉P:=by
 induction P with
 |nil=>intro i _ h;cases h
 |cons a P ih=>
  intro i h;rw[uy,jD]at h;split at h
  .cases h
  .rename_i e
   intro hm;rcases List.mem_cons.1 hm with rfl|hm
   .exact e rfl
   .exact ih h hm
theorem P_{κ:Type}{m:List (κ×AV)}{k:κ}{v:AV}(h:jD m k=none):Ch m k v=m++[(k,v)]:=by
 induction m with
 |nil=>rfl
 |cons a m ih=>
  rw[jD]at h;split at h
  .cases h
  .rename_i e
   rw[Ch,if_neg e,ih h];rfl
theorem Qa:∀{i:Nat},uy (P++[q]) i=uy P i++[(gG q,.i .i64 ((i+P.length:Nat):Int))]:=by
 induction P with
 |nil=>intro i;rfl
 |cons a P ih=>
  intro i;rw[List.cons_append,uy,uy,ih,List.cons_append,List.length_cons];rw[show i+1+P.length=i+(P.length+1) by omega]
def Row(P:List aN)(l:List (Int×Nat))(ms:List (Int×aN)):Prop:=l.length=ms.length/\∀(k:Nat)(m:Int)(j:Nat),l[k]?=some (m,j)->∃r,P[j]?=some r/\ms[k]?=some (m,r)
theorem Row.nil(P:List aN):Row P [] []:=⟨rfl,λk m j h=>by cases h⟩
theorem Row.mono(h:Row P l ms)(x:List aN):Row (P++x) l ms:=⟨h.1,λk m j e=>by
 obtain⟨r,h1,h2⟩:=h.2 k m j e;exact⟨r,by rw[List.getElem?_append_left (List.getElem?_eq_some_iff.1 h1).1];exact h1,h2⟩⟩
theorem Row.snoc(h:Row P l ms){m:Int}{j:Nat}(hj:P[j]?=some r):Row P (l++[(m,j)]) (ms++[(m,r)]):=by
 refine⟨by simp[h.1],λk m' j' e=>?_⟩;have hl:=h.1;by_cases hk:k<l.length
 .rw[List.getElem?_append_left hk]at e
  obtain⟨r',h1,h2⟩:=h.2 k m' j' e;exact⟨r',h1,by rw[List.getElem?_append_left (by omega)];exact h2⟩
 .have hk2:k<(l++[(m,j)]).length:=(List.getElem?_eq_some_iff.1 e).1
  obtain rfl:k=l.length:=by simp at hk2;omega
  rw[List.getElem?_append_right (Nat.le_refl _)]at e;simp at e;obtain⟨rfl,rfl⟩:=e;exact⟨r,hj,by rw[List.getElem?_append_right (by omega),hl];simp⟩
structure GD(C:ay)(party:Int)(p:aN)(P:List aN)(M:List (List (Int×Nat))):Prop where
 hd:P[0]?=some p
 nd:P.Nodup
 rch:∀q∈P,wH C party p q
 small:P.length<=1500
 le:M.length<=P.length
 mv:∀(i:Nat)(q:aN)(l:List (Int×Nat)),P[i]?=some q->M[i]?=some l->Row P l (C.iK party q)
theorem GD.one(C:ay)(party:Int)(p:aN):GD C party p [p] []:=⟨rfl,by simp,λq hq=>by simp at hq;subst hq;exact .refl,by simp,by simp,λi q l _ h=>by cases h⟩
theorem GD.pos(a:GD C party p P M)(hq:q∉P)(hr:wH C party p q)(h:P.length≠1500):GD C party p (P++[q]) M:=by
 have hs:=a.small;have hl:=a.le;have h0:0<P.length:=(List.getElem?_eq_some_iff.1 a.hd).1;refine⟨by rw[List.getElem?_append_left h0];exact a.hd,?_,λx hx=>?_,by simp;omega,by simp;omega,λi x l hx hl=>?_⟩
 .rw[List.nodup_append]
  exact⟨a.nd,by simp,λx hx y hy e=>by simp at hy;subst hy;subst e;exact hq hx⟩
 .rcases List.mem_append.1 hx with h|h
  .exact a.rch x h
  .simp at h;subst h;exact hr
 .have hi:=(List.getElem?_eq_some_iff.1 hl).1
  rw[List.getElem?_append_left (by omega)]at hx;exact(a.mv i x l hx hl).mono _
theorem GD.row(a:GD C party p P M)(h:P[M.length]?=some q)(hr:Row P l (C.iK party q)):GD C party p P (M++[l]):=by
 have hi:=(List.getElem?_eq_some_iff.1 h).1;refine⟨a.hd,a.nd,a.rch,a.small,by simp;omega,λi x l' hx hl=>?_⟩;by_cases hk:i<M.length
 .rw[List.getElem?_append_left hk]at hl
  exact a.mv i x l' hx hl
 .have hk2:i<(M++[l]).length:=(List.getElem?_eq_some_iff.1 hl).1
  obtain rfl:i=M.length:=by simp at hk2;omega
  rw[List.getElem?_append_right (Nat.le_refl _)]at hl;simp at hl;subst hl;rw[h]at hx;cases hx
  exact hr
theorem GD.done(a:GD C party p P M)(h:P.length<=M.length):bZ C party p P M:=
 ⟨a.hd,a.nd,by have:=a.le;omega,λi q l h1 h2=>a.mv i q l h1 h2,a.rch,a.small⟩
theorem GD.big(a:GD C party p P M)(hq:q∉P)(hr:wH C party p q)(h:P.length=1500):gT C party p:=by
 refine⟨P++[q],?_,by simp;omega,λx hx=>?_⟩
 .rw[List.nodup_append]
  exact⟨a.nd,by simp,λx hx y hy e=>by simp at hy;subst hy;subst e;exact hq hx⟩
 .rcases List.mem_append.1 hx with h|h
  .exact a.rch x h
  .simp at h;subst h;exact hr
end
@[reducible] def Z4 (x:Int×Nat):List AV:=[.i .i64 x.1,.i .i64 (x.2:Nat)]
@[reducible] def pJ (x:TS×aN):List AV:=x.1.pv x.2
abbrev one(y:AV):List AV:=[y]
structure uD(h:AH)(n:Nat)(v w:AV)(ps:List (TS×aN))(wv:List AV)(M:List (List (Int×Nat))):Prop where
 pos:SL h n 5 v pJ ps
 st:∀x∈ps,bI h n x.1 x.2.st
 row:SL h n 1 w one wv
 len:wv.length=M.length
 mv:∀(i:Nat)(y:AV)(l:List (Int×Nat)),wv[i]?=some y->M[i]?=some l->SL h n 2 y Z4 l
theorem uD.up{h h':AH}{n n':Nat}{v w:AV}{ps:List (TS×aN)}{wv:List AV}{M:List (List (Int×Nat))}(a:uD h n v w ps wv M)(u:Up h n h' n'):uD h' n' v w ps wv M:=
 ⟨a.pos.up u,λx hx=>(a.st x hx).up u,a.row.up u,a.len,λi y l h1 h2=>(a.mv i y l h1 h2).up u⟩
structure Own where
 ab:Nat
 kb:Nat
 lb:Nat
 v:AV
 w:AV
 lv:AV
 X:Nat->Prop
def Own.own(o:Own)(x:Nat):Prop:=x=o.ab\/x=o.kb\/x=o.lb\/blk o.v x\/blk o.w x\/blk o.lv x
structure AI(B:Nat)(h:AH)(n:Nat)(o:Own)(party:Int)(A:HP)(ps:List (TS×aN))(wv:List AV)(M:List (List (Int×Nat)))(l:List (Int×Nat)):Prop where
 ra:h.get o.ab=some (.row 147 [.i .i64 party,o.v,o.w])
 rl:h.get o.lb=some (.row 238 [o.lv])
 gv:Gr h n 114 5 o.v pJ ps
 gw:Gr h n 238 1 o.w one wv
 gl:Gr h n 243 2 o.lv Z4 l
 mp:qK h o.kb AV.s (uy (ps.map (·.2)) 0)
 Xa:o.X o.ab
 Xk:o.X o.kb
 Xl:o.X o.lb
 Xv:∀x,blk o.v x->o.X x
 Xw:∀x,blk o.w x->o.X x
 Xy:∀x,blk o.lv x->o.X x
 lt:∀x,o.X x->x<n
 ak:o.ab≠o.kb
 al:o.ab≠o.lb
 kl:o.kb≠o.lb
 dv:∀x,blk o.v x->x≠o.ab/\x≠o.kb/\x≠o.lb/\¬blk o.w x/\¬blk o.lv x
 dw:∀x,blk o.w x->x≠o.ab/\x≠o.kb/\x≠o.lb/\¬blk o.lv x
 dl:∀x,blk o.lv x->x≠o.ab/\x≠o.kb/\x≠o.lb
 st:∀x∈ps,Kp (λx=>o.X x\/x<B) h n (λh n=>bI h n x.1 x.2.st)
 len:wv.length=M.length
 mv:∀(i:Nat)(y:AV)(l:List (Int×Nat)),wv[i]?=some y->M[i]?=some l->Kp (λx=>o.X x\/x<B) h n (λh n=>SL h n 2 y Z4 l)
 A:Kp o.X h n A
 nB:∀x,o.X x->B<=x
 Bn:B<=n
structure AP(B:Nat)(h:AH)(n:Nat)(ab kb:Nat)(v w:AV)(X:Nat->Prop)(party:Int)(A:HP)(ps:List (TS×aN))(wv:List AV)(M:List (List (Int×Nat))):Prop where
 ra:h.get ab=some (.row 147 [.i .i64 party,v,w])
 gv:Gr h n 114 5 v pJ ps
 gw:Gr h n 238 1 w one wv
 mp:qK h kb AV.s (uy (ps.map (·.2)) 0)
 Xa:X ab
 Xk:X kb
 Xv:∀x,blk v x->X x
 Xw:∀x,blk w x->X x
 lt:∀x,X x->x<n
 ak:ab≠kb
 dv:∀x,blk v x->x≠ab/\x≠kb/\¬blk w x
 dw:∀x,blk w x->x≠ab/\x≠kb
 st:∀x∈ps,Kp (λx=>X x\/x<B) h n (λh n=>bI h n x.1 x.2.st)
 len:wv.length=M.length
 mv:∀(i:Nat)(y:AV)(l:List (Int×Nat)),wv[i]?=some y->M[i]?=some l->Kp (λx=>X x\/x<B) h n (λh n=>SL h n 2 y Z4 l)
 A:Kp X h n A
 nB:∀x,X x->B<=x
 Bn:B<=n
section
variable {B:Nat} {h h' h2 h3:AH} {n n' n2 n3:Nat} {o:Own} {party:Int} {A:HP} {ps:List (TS×aN)} {wv:List AV} {M:List (List (Int×Nat))} {l:List (Int×Nat)}
theorem AI.up(a:AI B h n o party A ps wv M l)(u:Up h n h' n'):AI B h' n' o party A ps wv M l:=
 ⟨(u.old _ (a.lt _ a.Xa)).trans a.ra,(u.old _ (a.lt _ a.Xl)).trans a.rl,a.gv.up u,a.gw.up u,a.gl.up u,a.mp.on (u.old _ (a.lt _ a.Xk)),a.Xa,a.Xk,a.Xl,a.Xv,a.Xw,a.Xy,λx hx=>Nat.lt_of_lt_of_le (a.lt x hx) u.le,a.ak,a.al,a.kl,a.dv,a.dw,a.dl,
  λx hx=>(a.st x hx).up u,a.len,λi y l h1 h2=>(a.mv i y l h1 h2).up u,a.A.up u,a.nB,Nat.le_trans a.Bn u.le⟩
theorem AI.acB(a:AI B h n o party A ps wv M l){x:Nat}(hx:o.own x):o.X x:=by
 rcases hx with rfl|rfl|rfl|e|e|e
 .exact a.Xa
 .exact a.Xk
 .exact a.Xl
 .exact a.Xv x e
 .exact a.Xw x e
 .exact a.Xy x e
theorem AI.wP{A':HP}(a:AI B h n o party A ps wv M l)(k:Kp o.X h n A'):AI B h n o party A' ps wv M l:=
 ⟨a.ra,a.rl,a.gv,a.gw,a.gl,a.mp,a.Xa,a.Xk,a.Xl,a.Xv,a.Xw,a.Xy,a.lt,a.ak,a.al,a.kl,a.dv,a.dw,a.dl,a.st,a.len,a.mv,k,a.nB,a.Bn⟩
theorem AI.sQ(a:AI B h n o party A ps wv M l){L:Nat}(hX:o.X L)(hL:¬o.own L)(r:AO):AI B (h.set L r) n o party A ps wv M l:=by
 have ne:∀x,o.own x->(h.set L r).get x=h.get x:=λx hx=>au λe=>hL (by rw[<-e];exact hx);have kp:∀{Y:Nat->Prop}{E:HP},Y L->Kp Y h n E->Kp Y (h.set L r) n E:=λy k=>k.set (.inl y) (Nat.le_refl _);exact⟨(ne _ (.inl rfl)).trans a.ra,(ne _ (.inr (.inr (.inl rfl)))).trans a.rl,a.gv.on (Nat.le_refl _) λx _ hx=>ne x (.inr (.inr (.inr (.inl hx)))),a.gw.on (Nat.le_refl _) λx _ hx=>ne x (.inr (.inr (.inr (.inr (.inl hx))))),a.gl.on (Nat.le_refl _) λx _ hx=>ne x (.inr (.inr (.inr (.inr (.inr hx))))),a.mp.on (ne _ (.inr (.inl rfl))),a.Xa,a.Xk,a.Xl,a.Xv,a.Xw,a.Xy,a.lt,a.ak,a.al,a.kl,a.dv,a.dw,a.dl,
  λx hx=>kp (.inl hX) (a.st x hx),a.len,λi y l h1 h2=>kp (.inl hX) (a.mv i y l h1 h2),kp hX a.A,a.nB,a.Bn⟩
theorem AI.ajc(a:AI B h n o party A ps wv M l)(r:AO):AI B (h.set n r) (n+1) {o with X:=λx=>o.X x\/x=n} party A ps wv M l:=by
 have u:Up h n (h.set n r) (n+1):=by exact aH
 have b:=a.up u;have kp:∀{Y:Nat->Prop}{E:HP},Kp Y h n E->Kp (λx=>Y x\/x=n) (h.set n r) (n+1) E:=λ{Y E} k=>
  (k.le λx hx (e:Y x\/x=n)=>e.elim id (by omega)).up u
 have kp2:∀{E:HP},Kp (λx=>o.X x\/x<B) h n E->Kp (λx=>(o.X x\/x=n)\/x<B) (h.set n r) (n+1) E:=λk=>(kp k).le λx _ e=>by
  rcases e with(e|e)|e
  .exact .inl (.inl e)
  .exact .inr e
  .exact .inl (.inr e)
 refine⟨b.ra,b.rl,b.gv,b.gw,b.gl,b.mp,.inl a.Xa,.inl a.Xk,.inl a.Xl,λx hx=>.inl (a.Xv x hx),λx hx=>.inl (a.Xw x hx),λx hx=>.inl (a.Xy x hx),λx hx=>?_,a.ak,a.al,a.kl,a.dv,a.dw,a.dl,λx hx=>kp2 (a.st x hx),a.len,λi y l h1 h2=>kp2 (a.mv i y l h1 h2),kp a.A,λx hx=>?_,by have:=a.Bn;omega⟩
 .rcases hx with hx|hx
  .have:=a.lt x hx;omega
  .omega
 .have:=a.Bn
  rcases hx with hx|hx
  .exact a.nB x hx
  .omega
theorem AI.pos(a:AI B h n o party A ps wv M l){ob:AO}{tq:TS}{q:aN}{v':AV}(hm:qK (h.set o.kb ob) o.kb AV.s (uy ((ps++[(tq,q)]).map (·.2)) 0))(u:Up (h.set o.kb ob) n h2 n2)(k:Kp (λx=>o.X x\/x<B) h n (λh n=>bI h n tq q.st))
 (g:Gr h3 n3 114 5 v' pJ (ps++[(tq,q)]))(le:n2<=n3)(s:∀x,x<n2->¬blk o.v x->h3.get x=h2.get x)(b:∀x,blk v' x->blk o.v x\/n2<=x):
 h3.get o.ab=some (.row 147 [.i .i64 party,o.v,o.w])/\AI B (h3.set o.ab (.row 147 [.i .i64 party,v',o.w])) n3 {o with v:=v',X:=λx=>o.X x\/blk v' x} party A (ps++[(tq,q)]) wv M l:=by
 have hn:=u.le;have old:∀x,x<n->x≠o.kb->¬blk o.v x->h3.get x=h.get x:=λx hx h1 h2=>by rw[s x (by omega) h2,u.old x hx,au h1]
 have new:∀x,blk v' x->x<n->blk o.v x:=λx hx hl=>(b x hx).elim id (by omega);have lt:=a.lt;have hA:=a.lt _ a.Xa;have hK:=a.lt _ a.Xk;have hL:=a.lt _ a.Xl;have VO:∀{Y:Nat->Prop}{E:HP},(∀x,o.X x->Y x)->Kp Y h n E->Kp (λx=>Y x\/blk v' x) (h3.set o.ab (.row 147 [.i .i64 party,v',o.w])) n3 E:=λ{Y E} XY kb=>
  (kb.le λx hx (e:Y x\/blk v' x)=>e.elim id λe=>XY x (a.Xv x (new x e hx))).on (by omega) λx hx e=>by
   have e1:¬o.X x:=λk=>e (.inl (XY x k));rw[au (λk=>e1 (by rw[k];exact a.Xa)),old x hx (λk=>e1 (by rw[k];exact a.Xk)) λk=>e1 (a.Xv x k)]
 have kp:∀{E:HP},Kp (λx=>o.X x\/x<B) h n E->Kp (λx=>(o.X x\/blk v' x)\/x<B) (h3.set o.ab (.row 147 [.i .i64 party,v',o.w])) n3 E:=λk=>(VO (λ_ h=>.inl h) k).le λx _ e=>by
  rcases e with(e|e)|e
  .exact .inl (.inl e)
  .exact .inr e
  .exact .inl (.inr e)
 have nB':∀x,o.X x\/blk v' x->B<=x:=λx hx=>by
  have:=a.Bn;rcases hx with e|e
  .exact a.nB x e
  .rcases b x e with e|e
   .exact a.nB x (a.Xv x e)
   .omega
 have Bn':B<=n3:=by have:=a.Bn;omega
 have blw:∀x,blk o.w x->x<n:=λx hx=>a.lt x (a.Xw x hx);have bll:∀x,blk o.lv x->x<n:=λx hx=>a.lt x (a.Xy x hx);have ne:∀x,blk v' x->x≠o.ab/\x≠o.kb/\x≠o.lb/\¬blk o.w x/\¬blk o.lv x:=λx hx=>by
  rcases b x hx with e|e
  .exact a.dv x e
  .exact⟨by omega,by omega,by omega,λk=>by have:=blw x k;omega,λk=>by have:=bll x k;omega⟩
 have dva:∀x,x=o.ab\/x=o.kb\/x=o.lb->¬blk o.v x:=λx hx k=>by
  obtain⟨h1,h2,h3,_⟩:=a.dv x k;rcases hx with e|e|e<;>contradiction
 refine⟨(old _ hA a.ak (dva _ (.inl rfl))).trans a.ra,⟨aF,?_,?_,?_,?_,?_,.inl a.Xa,.inl a.Xk,.inl a.Xl,λx hx=>.inr hx,λx hx=>.inl (a.Xw x hx),λx hx=>.inl (a.Xy x hx),λx hx=>?_,a.ak,a.al,a.kl,ne,a.dw,a.dl,λx hx=>?_,a.len,λi y l h1 h2=>kp (a.mv i y l h1 h2),VO (λ_ h=>h) a.A,nB',Bn'⟩⟩
 .show Tr.get _ o.lb=_
  rw[au (Ne.symm a.al),old _ hL (Ne.symm a.kl) (dva _ (.inr (.inr rfl)))];exact a.rl
 .exact g.on (Nat.le_refl _) λx _ hx=>au (ne x hx).1
 .exact a.gw.on (by omega) λx hx hb=>by
   rw[au (a.dw x hb).1,old x hx (a.dw x hb).2.1 λk=>(a.dv x k).2.2.2.1 hb]
 .exact a.gl.on (by omega) λx hx hb=>by
   rw[au (a.dl x hb).1,old x hx (a.dl x hb).2.1 λk=>(a.dv x k).2.2.2.2 hb]
 .exact hm.on (by rw[au (Ne.symm a.ak),s _ (by omega) (dva _ (.inr (.inl rfl))),u.old _ hK])
 .rcases hx with hx|hx
  .have:=a.lt x hx;omega
  .have:=g.fK hx;exact this
 .rcases List.mem_append.1 hx with hx|hx
  .exact kp (a.st x hx)
  .simp at hx;subst hx;exact kp k
theorem AI.move(a:AI B h n o party A ps wv M l){m:Int}{j:Nat}{v':AV}(u:Up h n h2 n2)(g:Gr h3 n3 243 2 v' Z4 (l++[(m,j)]))(le:n2<=n3)(s:∀x,x<n2->¬blk o.lv x->h3.get x=h2.get x)(b:∀x,blk v' x->blk o.lv x\/n2<=x):
 h3.get o.lb=some (.row 238 [o.lv])/\AI B (h3.set o.lb (.row 238 [v'])) n3 {o with lv:=v',X:=λx=>o.X x\/blk v' x} party A ps wv M (l++[(m,j)]):=by
 have hn:=u.le;have old:∀x,x<n->¬blk o.lv x->h3.get x=h.get x:=λx hx h2=>by rw[s x (by omega) h2,u.old x hx]
 have new:∀x,blk v' x->x<n->blk o.lv x:=λx hx hl=>(b x hx).elim id (by omega);have hA:=a.lt _ a.Xa;have hK:=a.lt _ a.Xk;have hL:=a.lt _ a.Xl;have VO:∀{Y:Nat->Prop}{E:HP},(∀x,o.X x->Y x)->Kp Y h n E->Kp (λx=>Y x\/blk v' x) (h3.set o.lb (.row 238 [v'])) n3 E:=λ{Y E} XY kb=>
  (kb.le λx hx (e:Y x\/blk v' x)=>e.elim id λe=>XY x (a.Xy x (new x e hx))).on (by omega) λx hx e=>by
   have e1:¬o.X x:=λk=>e (.inl (XY x k));rw[au (λk=>e1 (by rw[k];exact a.Xl)),old x hx λk=>e1 (a.Xy x k)]
 have kp:∀{E:HP},Kp (λx=>o.X x\/x<B) h n E->Kp (λx=>(o.X x\/blk v' x)\/x<B) (h3.set o.lb (.row 238 [v'])) n3 E:=λk=>(VO (λ_ h=>.inl h) k).le λx _ e=>by
  rcases e with(e|e)|e
  .exact .inl (.inl e)
  .exact .inr e
  .exact .inl (.inr e)
 have nB':∀x,o.X x\/blk v' x->B<=x:=λx hx=>by
  have:=a.Bn;rcases hx with e|e
  .exact a.nB x e
  .rcases b x e with e|e
   .exact a.nB x (a.Xy x e)
   .omega
 have Bn':B<=n3:=by have:=a.Bn;omega
 have blw:∀x,blk o.w x->x<n:=λx hx=>a.lt x (a.Xw x hx);have blv:∀x,blk o.v x->x<n:=λx hx=>a.lt x (a.Xv x hx);have ne:∀x,blk v' x->x≠o.ab/\x≠o.kb/\x≠o.lb:=λx hx=>by
  rcases b x hx with e|e
  .exact a.dl x e
  .exact⟨by omega,by omega,by omega⟩
 have nw:∀x,blk o.w x->¬blk v' x:=λx hx k=>by
  rcases b x k with e|e
  .exact(a.dw x hx).2.2.2 e
  .have:=blw x hx;omega
 have nv:∀x,blk o.v x->¬blk v' x:=λx hx k=>by
  rcases b x k with e|e
  .exact(a.dv x hx).2.2.2.2 e
  .have:=blv x hx;omega
 have dla:∀x,x=o.ab\/x=o.kb\/x=o.lb->¬blk o.lv x:=λx hx k=>by
  obtain⟨h1,h2,h3⟩:=a.dl x k;rcases hx with e|e|e<;>contradiction
 refine⟨(old _ hL (dla _ (.inr (.inr rfl)))).trans a.rl,⟨?_,aF,?_,?_,?_,?_,.inl a.Xa,.inl a.Xk,.inl a.Xl,λx hx=>.inl (a.Xv x hx),λx hx=>.inl (a.Xw x hx),λx hx=>.inr hx,λx hx=>?_,a.ak,a.al,a.kl,λx hx=>?_,λx hx=>?_,ne,λx hx=>kp (a.st x hx),a.len,λi y l h1 h2=>kp (a.mv i y l h1 h2),VO (λ_ h=>h) a.A,nB',Bn'⟩⟩
 .show Tr.get _ o.ab=_
  rw[au a.al,old _ hA (dla _ (.inl rfl))];exact a.ra
 .exact a.gv.on (by omega) λx hx hb=>by
   rw[au (a.dv x hb).2.2.1,old x hx (a.dv x hb).2.2.2.2]
 .exact a.gw.on (by omega) λx hx hb=>by
   rw[au (a.dw x hb).2.2.1,old x hx (a.dw x hb).2.2.2]
 .exact g.on (Nat.le_refl _) λx _ hx=>au (ne x hx).2.2
 .exact a.mp.on (by rw[au a.kl,old _ hK (dla _ (.inr (.inl rfl)))])
 .rcases hx with hx|hx
  .have:=a.lt x hx;omega
  .exact g.fK hx
 .obtain⟨h1,h2,h3,h4,h5⟩:=a.dv x hx
  exact⟨h1,h2,h3,h4,nv x hx⟩
 .obtain⟨h1,h2,h3,h4⟩:=a.dw x hx
  exact⟨h1,h2,h3,nw x hx⟩
theorem AI.row(a:AI B h n o party A ps wv M l){v':AV}(u:Up h n h2 n2)(g:Gr h3 n3 238 1 v' one (wv++[o.lv]))(le:n2<=n3)(s:∀x,x<n2->¬blk o.w x->h3.get x=h2.get x)(b:∀x,blk v' x->blk o.w x\/n2<=x):
 h3.get o.ab=some (.row 147 [.i .i64 party,o.v,o.w])/\AP B (h3.set o.ab (.row 147 [.i .i64 party,o.v,v'])) n3 o.ab o.kb o.v v' (λx=>(o.X x/\¬blk o.lv x)\/blk v' x) party A ps (wv++[o.lv]) (M++[l]):=by
 have hn:=u.le;have old:∀x,x<n->¬blk o.w x->h3.get x=h.get x:=λx hx h2=>by rw[s x (by omega) h2,u.old x hx]
 have new:∀x,blk v' x->x<n->blk o.w x:=λx hx hl=>(b x hx).elim id (by omega);have hA:=a.lt _ a.Xa;have hK:=a.lt _ a.Xk;have blv:∀x,blk o.v x->x<n:=λx hx=>a.lt x (a.Xv x hx);have bll:∀x,blk o.lv x->x<n:=λx hx=>a.lt x (a.Xy x hx);have ne:∀x,blk v' x->x≠o.ab/\x≠o.kb/\¬blk o.v x/\¬blk o.lv x:=λx hx=>by
  rcases b x hx with e|e
  .obtain⟨h1,h2,h3,h4⟩:=a.dw x e
   exact⟨h1,h2,λk=>(a.dv x k).2.2.2.1 e,h4⟩
  .exact⟨by omega,by omega,λk=>by have:=blv x k;omega,λk=>by have:=bll x k;omega⟩
 have VO:∀{Y:Nat->Prop}{E:HP},(∀x,o.X x->Y x)->Kp Y h n E->Kp (λx=>(Y x/\¬blk o.lv x)\/blk v' x) (h3.set o.ab (.row 147 [.i .i64 party,o.v,v'])) n3 E:=λ{Y E} XY kb=>
  (kb.le λx hx (e:(Y x/\¬blk o.lv x)\/blk v' x)=>e.elim (·.1) λe=>XY x (a.Xw x (new x e hx))).on (by omega) λx hx e=>by
   have e2:x≠o.ab:=λk=>e (.inl ⟨XY x (by rw[k];exact a.Xa),λk2=>(a.dl x k2).1 k⟩);rw[au e2,old x hx λk=>e (.inl ⟨XY x (a.Xw x k),(a.dw x k).2.2.2⟩)]
 have perm:∀{E:HP}{h n},Kp (λx=>((o.X x\/x<B)/\¬blk o.lv x)\/blk v' x) h n E->Kp (λx=>((o.X x/\¬blk o.lv x)\/blk v' x)\/x<B) h n E:=λk=>k.le λx _ e=>by
  rcases e with(⟨e,e2⟩|e)|e
  .exact .inl ⟨.inl e,e2⟩
  .exact .inr e
  .exact .inl ⟨.inr e,λk=>by have:=a.nB x (a.Xy x k);omega⟩
 have kp:∀{E:HP},Kp (λx=>o.X x\/x<B) h n E->Kp (λx=>((o.X x/\¬blk o.lv x)\/blk v' x)\/x<B) (h3.set o.ab (.row 147 [.i .i64 party,o.v,v'])) n3 E:=λk=>perm (VO (λ_ h=>.inl h) k);have dwa:∀x,x=o.ab\/x=o.kb->¬blk o.w x:=λx hx k=>by
  obtain⟨h1,h2,_⟩:=a.dw x k;rcases hx with e|e<;>contradiction
 refine⟨(old _ hA (dwa _ (.inl rfl))).trans a.ra,⟨aF,?_,?_,?_,.inl ⟨a.Xa,λk=>(a.dl _ k).1 rfl⟩,.inl ⟨a.Xk,λk=>(a.dl _ k).2.1 rfl⟩,λx hx=>.inl ⟨a.Xv x hx,(a.dv x hx).2.2.2.2⟩,λx hx=>.inr hx,λx hx=>?_,a.ak,λx hx=>?_,λx hx=>⟨(ne x hx).1,(ne x hx).2.1⟩,λx hx=>kp (a.st x hx),by simp[a.len],λi y l1 h1 h2=>?_,VO (λ_ h=>h) a.A,λx hx=>?_,by have:=a.Bn;omega⟩⟩
 .exact a.gv.on (by omega) λx hx hb=>by
   rw[au (a.dv x hb).1,old x hx (a.dv x hb).2.2.2.1]
 .exact g.on (Nat.le_refl _) λx _ hx=>au (ne x hx).1
 .exact a.mp.on (by rw[au (Ne.symm a.ak),old _ hK (dwa _ (.inr rfl))])
 .rcases hx with hx|hx
  .have:=a.lt x hx.1;omega
  .exact g.fK hx
 .obtain⟨h1,h2,_,_,h5⟩:=a.dv x hx
  exact⟨h1,h2,λk=>(ne x k).2.2.1 hx⟩
 .have hlen:=a.len
  by_cases hi:i<wv.length
  .rw[List.getElem?_append_left hi]at h1
   rw[List.getElem?_append_left (by omega)]at h2;exact kp (a.mv i y l1 h1 h2)
  .have hi2:i<(wv++[o.lv]).length:=(List.getElem?_eq_some_iff.1 h1).1
   obtain rfl:i=wv.length:=by simp at hi2;omega
   rw[List.getElem?_append_right (Nat.le_refl _)]at h1;rw[List.getElem?_append_right (by omega),hlen]at h2;simp at h1 h2;subst h1;subst h2;have gl':Gr (h3.set o.ab (.row 147 [.i .i64 party,o.v,v'])) n3 243 2 o.lv Z4 l:=a.gl.on (by omega) λx hx hb=>by
    rw[au (a.dl x hb).1,old x hx λk=>(a.dw x k).2.2.2 hb]
   refine gl'.sl.kp λx hx e=>?_;rcases e with(⟨_,e⟩|e)|e
   .exact e hx
   .exact(ne x e).2.2.2 hx
   .have:=a.nB x (a.Xy x hx);omega
 .have:=a.Bn
  rcases hx with hx|hx
  .exact a.nB x hx.1
  .rcases b x hx with e|e
   .exact a.nB x (a.Xw x e)
   .omega
end
section
variable {B:Nat} {h h':AH} {n n' ab kb:Nat} {v w:AV} {X:Nat->Prop} {party:Int} {A:HP} {ps:List (TS×aN)} {wv:List AV} {M:List (List (Int×Nat))}
theorem AP.up(a:AP B h n ab kb v w X party A ps wv M)(u:Up h n h' n'):AP B h' n' ab kb v w X party A ps wv M:=
 ⟨(u.old _ (a.lt _ a.Xa)).trans a.ra,a.gv.up u,a.gw.up u,a.mp.on (u.old _ (a.lt _ a.Xk)),a.Xa,a.Xk,a.Xv,a.Xw,λx hx=>Nat.lt_of_lt_of_le (a.lt x hx) u.le,a.ak,a.dv,a.dw,
  λx hx=>(a.st x hx).up u,a.len,λi y l h1 h2=>(a.mv i y l h1 h2).up u,a.A.up u,a.nB,Nat.le_trans a.Bn u.le⟩
theorem AP.wP{A':HP}(a:AP B h n ab kb v w X party A ps wv M)(k:∀h n,A h n->A' h n):AP B h n ab kb v w X party A' ps wv M:=
 ⟨a.ra,a.gv,a.gw,a.mp,a.Xa,a.Xk,a.Xv,a.Xw,a.lt,a.ak,a.dv,a.dw,a.st,a.len,a.mv,a.A.wk k,a.nB,a.Bn⟩
theorem AP.start(a:AP B h n ab kb v w X party A ps wv M):AI B (h.set n (.row 238 [.k 1])) (n+1) ⟨ab,kb,n,v,w,.k 1,λx=>X x\/x=n⟩ party A ps wv M []:=by
 have u:Up h n (h.set n (.row 238 [.k 1])) (n+1):=by exact aH
 have hlt:=a.lt;have hA:=a.lt _ a.Xa;have hK:=a.lt _ a.Xk;have kp:∀{Y:Nat->Prop}{E:HP},Kp Y h n E->Kp (λx=>Y x\/x=n) (h.set n (.row 238 [.k 1])) (n+1) E:=λ{Y E} k=>
  (k.le λx hx (e:Y x\/x=n)=>e.elim id (by omega)).up u
 have kp2:∀{E:HP},Kp (λx=>X x\/x<B) h n E->Kp (λx=>(X x\/x=n)\/x<B) (h.set n (.row 238 [.k 1])) (n+1) E:=λk=>(kp k).le λx _ e=>by
  rcases e with(e|e)|e
  .exact .inl (.inl e)
  .exact .inr e
  .exact .inl (.inr e)
 have b:=a.up u;refine⟨b.ra,aF,b.gv,b.gw,Gr.nil λ_=>rfl,b.mp,.inl a.Xa,.inl a.Xk,.inr rfl,λx hx=>.inl (a.Xv x hx),λx hx=>.inl (a.Xw x hx),λx hx=>absurd hx fA,λx hx=>?_,a.ak,by show ab≠n;omega,by show kb≠n;omega,λx hx=>?_,λx hx=>?_,λx hx=>absurd hx fA,λx hx=>kp2 (a.st x hx),a.len,λi y l h1 h2=>kp2 (a.mv i y l h1 h2),kp a.A,λx hx=>?_,by have:=a.Bn;omega⟩
 .rcases hx with hx|hx
  .have:=a.lt x hx;omega
  .omega
 .obtain⟨h1,h2,h3⟩:=a.dv x hx
  have:=a.lt x (a.Xv x hx);exact⟨h1,h2,by show x≠n;omega,h3,fA⟩
 .obtain⟨h1,h2⟩:=a.dw x hx
  have:=a.lt x (a.Xw x hx);exact⟨h1,h2,by show x≠n;omega,fA⟩
 .have:=a.Bn
  rcases hx with hx|hx
  .exact a.nB x hx
  .omega
theorem AP.fin(a:AP B h n ab kb v w X party A ps wv M):Kp (λx=>x<B) h n (λh n=>uD h n v w ps wv M):=λh' n' h1 h2=>by
 have wk:∀{E:HP},Kp (λx=>X x\/x<B) h n E->E h' n':=λk=>(k.le λx _ e=>.inr e) h' n' h1 h2;have kv:Kp (λx=>x<B) h n (λh n=>SL h n 5 v pJ ps):=a.gv.sl.kp λx hx=>by have:=a.nB x (a.Xv x hx);omega
 have kw:Kp (λx=>x<B) h n (λh n=>SL h n 1 w one wv):=a.gw.sl.kp λx hx=>by have:=a.nB x (a.Xw x hx);omega
 exact⟨kv h' n' h1 h2,λx hx=>wk (a.st x hx),kw h' n' h1 h2,a.len,λi y l e1 e2=>wk (a.mv i y l e1 e2)⟩
end
end
end
section
noncomputable section
theorem FZ:Po Tryz.prog 9 (AV.s):=by
 refine⟨λa b=>⟨sj a b,by kernel_rfl,by rw[jy];simp⟩,λa=>by kernel_rfl,λa=>rfl⟩
section
variable {B:Nat} {h h':AH} {n n':Nat} {o:Own} {v:CS} {C:ay} {p:aN} {party:Int} {A:HP} {ps:List (TS×aN)} {wv:List AV} {M:List (List (Int×Nat))} {l:List (Int×Nat)} {Q:PQ}
theorem Qc(K:Nat){mb rb eb:Nat}{tq:TS}{q:aN}{m:Int}{F:Fm}{g:FuncId}(a:AI B h n o party A ps wv M l)(hA:∀h n,A h n->h.get mb=some (.row 222 [.m o.kb])/\mb<n/\h.get rb=some (.row 147 [.i .i64 0,.k 1,.k 1])/\rb<n/\h.get eb=some (.row 41 [.i .i64 0])/\eb<n)
 (kq:Kp (λx=>o.X x\/x<B) h n (λh n=>bI h n tq q.st))(hq:aK C q.st)(hps:∀x∈ps,aK C x.2.st)(nps:ps.length<=1500)(nl:l.length<=100000)
 (f6:lk F 6=some (.p rb 0))(f7:lk F 7=some (.p eb 0))(f8:lk F 8=some (.p o.ab 0))(f9:lk F 9=some (.p mb 0))(f11:lk F 11=some (.p o.lb 0))(f12:lk F 12=some (.i .i64 m))(f13:∃b,lk F 13=some (.p b 0)/\h.get b=some (.row 114 (tq.pv q))/\b<n/\¬o.X b)
 (hR:∀o' ps' j h' n' F',AI B h' n' o' party A ps' wv M (l++[(m,j)])->o'.ab=o.ab->o'.kb=o.kb->o'.lb=o.lb->(ps'=ps\/(q∉ps.map (·.2)/\ps.length≠1500/\ps'=ps++[(tq,q)]))->(ps'.map (·.2))[j]?=some q->n<=n'->(∀x,x<n->¬o.own x->h'.get x=h.get x)->(∀x,o.X x->o'.X x)->(∀x,o'.own x->o.own x\/n<=x)->Q .bX h' n' F')
 (hE:q∉ps.map (·.2)->ps.length=1500->∀h' n' F',n<=n'->h'.get rb=some (.row 147 [.i .i64 0,.k 1,.k 1])->h'.get eb=some (.row 41 [.i .i64 3])->(∀x,x<n->x≠rb->x≠eb->h'.get x=h.get x)->Q .ret h' n' F')(heb:¬o.X eb)(hrb:¬o.X rb)(ajk:rb≠eb):sK Tryz.prog (yl Tryz.prog sl0 19) g 100000 [.c IC] .bX (EF (K+6)) h n F Q:=by
 obtain⟨b13,f13,yB,n13,x13⟩:=f13;simp (disch:=omega) only[go_sem,simprocAttr,IC,f13,yB];rw[aR];refine KE K kq.use (hq.pb q.own) λh2 n2 u2=>?_;have a2:=a.up u2;have kq2:=kq.up u2;have e2:=u2.le;have yB:=(u2.old b13 n13).trans yB;obtain⟨c1,c2,c3,c4,c5,c6⟩:=hA _ _ a2.A.use;have ra:=a2.ra;have rl:=a2.rl;have AY:=a2.mp.look (k:=gG q) FZ (z:=some (.i .i64 0)) (ok:=true) rfl;have YG:∀x∈ps.map (·.2),aK C x.st:=λx hx=>by
  obtain⟨y,hy,rfl⟩:=List.mem_map.1 hx;exact hps y hy
 cases hk:jD (uy (ps.map (·.2)) 0) (gG q)with
 |some w=>
  obtain⟨j,hj,rfl⟩:=P8 hq YG hk;rw[hk]at AY;simp only[bD,Nat.zero_add]at AY;simp (disch:=omega) only[go_sem,simprocAttr,fM,f9,f11,f12,c1,AY,rl];refine jq (l2:=[(m,j)]) (a2.gl.up aH) ⟨rfl,?_⟩ (by simp;omega) λv' h4 n4 g4 l4 s4 b4=>?_
  .show bnd (iI (Tr.get _ _) 0 _) (λr=>mP (Nat.mul 1 2) r)=_
   rw[aF];rfl
  obtain⟨q1,q2⟩:=a2.move (show Up _ _ _ _ by exact aH) g4 l4 s4 b4;simp (disch:=omega) only[go_sem,simprocAttr,fM,f11,q1,g4.cl];refine hR _ ps j _ _ _ q2 rfl rfl rfl (.inl rfl) hj (by omega) (λx hx hX=>?_) (λx hx=>.inl hx) λx hx=>?_
  .rw[au (λe=>hX (.inr (.inr (.inl e)))),s4 x (by omega) (λe=>hX (.inr (.inr (.inr (.inr (.inr e)))))),au (by omega),u2.old x hx]
  .rcases hx with e|e|e|e|e|e
   .exact .inl (.inl e)
   .exact .inl (.inr (.inl e))
   .exact .inl (.inr (.inr (.inl e)))
   .exact .inl (.inr (.inr (.inr (.inl e))))
   .exact .inl (.inr (.inr (.inr (.inr (.inl e)))))
   .rcases b4 x e with e|e
    .exact .inl (.inr (.inr (.inr (.inr (.inr e)))))
    .exact .inr (by omega)
 |none=>
  have hnew:=P9 hk;rw[hk]at AY;simp only[bD,Nat.zero_add]at AY;simp (disch:=omega) only[go_sem,simprocAttr,fM,f9,c1,AY,f8,ra,a2.gv.len];by_cases VN:ps.length=1500
  .rw[decide_eq_true (by omega)]
   simp (disch:=omega) only[go_sem,simprocAttr,fM,f6,f7,c3,c5];refine hE hnew VN _ _ _ e2 ?_ ?_ λx hx h1 h2=>?_
   .rw[au ajk,aF]
   .rw[aF]
   .rw[au h2,au h1,u2.old x hx]
  .rw[decide_eq_false (by omega)]
   obtain⟨ob,m1,m2⟩:=a2.mp.put (k:=gG q) (n:=n2) FZ (.i .i64 (ps.length:Nat));rw[P_ hk]at m2;have hmap:uy (ps.map (·.2)) 0++[(gG q,AV.i .i64 (ps.length:Nat))]=uy ((ps++[(tq,q)]).map (·.2)) 0:=by rw[List.map_append,List.map_cons,List.map_nil,Qa];simp
   rw[hmap]at m2;have hXa:=a2.ak;have aqG:b13≠o.kb:=λe=>x13 (by rw[e];exact a.Xk);simp (disch:=omega) only[go_sem,simprocAttr,fM,f9,c1,m1,f8,f13,ra,yB];have gk:=a2.gv.on (h':=h2.set o.kb ob) (Nat.le_refl _) λx _ hx=>au (a2.dv x hx).2.1;refine jq (l2:=[(tq,q)]) (gk.up aH) ⟨rfl,?_⟩ (by simp;omega) λv5 h5 n5 g5 l5 s5 b5=>?_
   .show bnd (iI (Tr.get _ _) 0 _) (λr=>mP (Nat.mul 1 5) r)=_
    rw[aF];rfl
   obtain⟨q3,a5⟩:=a2.pos m2 (show Up (h2.set o.kb ob) n2 _ (n2+1) by exact aH) kq2 g5 l5 s5 b5;have rl5:=a5.rl;simp (disch:=omega) only[go_sem,simprocAttr,fM,f8,q3,g5.cl,f11,f12,rl5];refine jq (l2:=[(m,ps.length)]) (a5.gl.up aH) ⟨rfl,?_⟩ (by simp;omega) λv' h4 n4 g4 l4 s4 b4=>?_
   .show bnd (iI (Tr.get _ _) 0 _) (λr=>mP (Nat.mul 1 2) r)=_
    rw[aF];rfl
   obtain⟨q1,q2⟩:=a5.move (show Up _ _ _ _ by exact aH) g4 l4 s4 b4;simp (disch:=omega) only[go_sem,simprocAttr,fM,f11,q1,g4.cl];refine hR _ (ps++[(tq,q)]) ps.length _ _ _ q2 rfl rfl rfl (.inr ⟨hnew,VN,rfl⟩) ?_ (by omega) (λx hx hX=>?_) (λx hx=>.inl (.inl hx)) λx hx=>?_
   .rw[List.map_append,List.getElem?_append_right (by simp)];simp
   .rw[au (λe=>hX (.inr (.inr (.inl e)))),s4 x (by omega) (λe=>hX (.inr (.inr (.inr (.inr (.inr e)))))),au (by omega),au (λe=>hX (.inl e)),s5 x (by omega) (λe=>hX (.inr (.inr (.inr (.inl e))))),au (by omega),au (λe=>hX (.inr (.inl e))),u2.old x hx]
   .rcases hx with e|e|e|e|e|e
    .exact .inl (.inl e)
    .exact .inl (.inr (.inl e))
    .exact .inl (.inr (.inr (.inl e)))
    .rcases b5 x e with e|e
     .exact .inl (.inr (.inr (.inr (.inl e))))
     .exact .inr (by omega)
    .exact .inl (.inr (.inr (.inr (.inr (.inl e)))))
    .rcases b4 x e with e|e
     .exact .inl (.inr (.inr (.inr (.inr (.inr e)))))
     .exact .inr (by omega)
end
end
end
section
noncomputable section
section
variable {B:Nat} {h h':AH} {n n':Nat} {o:Own} {v:CS} {C:ay} {tv:TS} {p:aN} {party:Int} {A:HP} {ps:List (TS×aN)} {wv:List AV} {M:List (List (Int×Nat))} {l:List (Int×Nat)} {Q:AV->AH->Nat->Prop}
theorem lW(C:ay)(party:Int)(q:aN):(C.iK party q).length<=C.acts.length+2:=by
 have h1:∀n,(C.mJ party q n).length<=n:=λn=>by
  unfold ay.mJ;rw[List.length_map];exact Nat.le_trans (List.length_filter_le _ _) (by simp)
 have h2:(C.mI q).length<=2:=by
  unfold ay.mI;rw[List.length_append];split<;>split<;>simp
 unfold ay.iK;rw[List.length_append];split
 .have:=h1 C.acts.length;omega
 .simp;omega
def EI:AV:=.agg [.i .i64 0,.k 1,.k 1]
def acD(C:ay)(party:Int)(p:aN)(h:AH)(n:Nat)(Q:AV->AH->Nat->Prop):Prop:=
 (¬(0<=party/\party<C.aD/\aK C p.st)->∀h' n',Up h n h' n'->Q (.bJ [EI,.i .i64 1]) h' n')/\
 (0<=party->party<C.aD->aK C p.st->gT C party p->∀h' n',Up h n h' n'->Q (.bJ [EI,.i .i64 3]) h' n')/\
 (0<=party->party<C.aD->aK C p.st->∀ps wv M v w h' n',bZ C party p (ps.map (·.2)) M->Up h n h' n'->Kp (λx=>x<n) h' n' (λh n=>uD h n v w ps wv M)->Q (.bJ [.agg [.i .i64 party,v,w],.i .i64 0]) h' n')
structure FA(n0:Nat)(kb mb:Nat)(v:CS)(C:ay)(h:AH)(n:Nat):Prop where
 rmb:h.get mb=some (.row 222 [.m kb])
 Nv:mb<n
 rrb:h.get (n0+1+1)=some (.row 147 [.i .i64 0,.k 1,.k 1])
 Mc:n0+1+1<n
 reb:h.get (n0+1+1+1)=some (.row 41 [.i .i64 0])
 ebn:n0+1+1+1<n
 rcb:h.get n0=some (.row 27 (v.av C))
 con:aY h n v C
def FI(h:AH)(v:CS)(C:ay)(party:Int)(p:aN)(n n1 kb mb:Nat)(m:Nat)(h8:AH)(n8:Nat)(F:Fm):Prop:=∃(ps:List (TS×aN))(wv:List AV)(M:List (List (Int×Nat)))(vv ww:AV)(X:Nat->Prop),AP (n+4) h8 n8 (n1+1) kb vv ww X party (λh m=>FA n kb mb v C h m) ps wv M/\GD C party p (ps.map (·.2)) M/\M.length+m=1500/\Up h n h8 n8/\F=[(1,.i .i64 party),(3,.p n 0),(6,.p (n+1+1) 0),(7,.p (n+1+1+1) 0),(8,.p (n1+1) 0),(9,.p mb 0),(10,.i .i64 (M.length:Nat))]
structure IB(pb cb tb:Nat)(v:CS)(C:ay)(party:Int)(q:TS×aN)(h:AH)(n:Nat):Prop where
 p:h.get pb=some (.row 114 (q.1.pv q.2))
 c:h.get cb=some (.row 27 (v.av C))
 t:h.get tb=some (.row 3 [.i .i64 party])
 pn:pb<n
 cn:cb<n
 tn:tb<n
def Z5(st:LoopState)(pd:Option Code)(t:Tr AV):AO:=.lp st pd 44 t [51,52] (gW 44 0) (gX 44 0)
def FJ(h:AH)(v:CS)(C:ay)(party:Int)(p:aN)(n n1 kb mb lb L pb cb tb i:Nat)(q:TS×aN)(t:Tr AV)(M:List (List (Int×Nat)))(hJ:AH)(nJ:Nat)(done:List (Int×aN)):Prop:=
 ∃(o:Own)(ps:List (TS×aN))(wv:List AV)(l:List (Int×Nat)),AI (n+4) hJ nJ o party (λh m=>FA n kb mb v C h m/\IB pb cb tb v C party q h m) ps wv M l/\o.ab=n1+1/\o.kb=kb/\o.lb=lb/\o.X L/\¬o.own L/\hJ.get L=some (Z5 .ready none t)/\
  GD C party p (ps.map (·.2)) M/\Row (ps.map (·.2)) l done/\ps[i]?=some q/\Up h n hJ nJ
def FE(h:AH)(C:ay)(party:Int)(p:aN)(n L:Nat)(t:Tr AV)(hJ:AH)(nJ:Nat):Prop:=gT C party p/\hJ.get (n+1+1)=some (.row 147 [.i .i64 0,.k 1,.k 1])/\hJ.get (n+1+1+1)=some (.row 41 [.i .i64 3])/\hJ.get L=some (Z5 .done (some .ret) t)/\n+4<=L/\Up h n hJ nJ
theorem zq(K:Nat)(hC:aY h n v C)(ho:C.off.length<=1000000)(hS:bI h n tv p.st)(hQ:acD C party p h n Q):CW (EF (K+10)) 44 [.agg (v.av C),.i .i64 party,.agg (tv.pv p)] h n Q:=by
 obtain⟨jV,rQ,KA⟩:=hQ;refine aC c74 rfl ?_;repeat' (first|(simp (disch:=omega) only[go_sem,simprocAttr,ub.old,m74,CS.av,TS.pv])|(simp (disch:=omega) only[go_sem,simprocAttr,m74,CS.av,TS.pv])|(refine aS ?_ ?_<;>(intro hb hd;rw[hb];clear hb))|(with_reducible refine aj ?_))
 rw[aR];refine yA _ (hC.up aH) ho (hS.up aH) λh1 n1 u1=>?_;have e1:=u1.le;cases hp:(decide (0<=party)&&decide (party<C.aD)&&C.dB p.st)with
 |false=>
  have hn:¬(0<=party/\party<C.aD/\aK C p.st):=λ⟨a,b,c⟩=>by
   rw[decide_eq_true a,decide_eq_true b,(bR C p.st).2 c]at hp;cases hp
  repeat' (first|(simp (disch:=omega) only[go_sem,simprocAttr,ub.old,hp,u1.old])|(simp (disch:=omega) only[go_sem,simprocAttr,hp,u1.old])|(refine aS ?_ ?_<;>(intro hb hd;rw[hb];clear hb))|(with_reducible refine aj ?_))
  exact jV hn _ _ aH
 |true=>
  simp only[Bool.and_eq_true,decide_eq_true_eq]at hp;obtain⟨⟨hp0,hp1⟩,hp2⟩:=hp;have ok:=(bR C p.st).1 hp2;have ok1:=ay.ok ok.con;have:=ok.lh;have:=ok.lu;have:=ok.lm;have:=ok1.dJ;have:=ok1.iX;have:=ok1.jm;have r0:h1.get n=some (.row 27 (v.av C)):=by rw[u1.old n (by omega)];simp (disch:=omega) only[go_sem]
  have r1:h1.get (n+1)=some (.row 114 (tv.pv p)):=by rw[u1.old _ (by omega)];simp (disch:=omega) only[go_sem]
  have r2:h1.get (n+1+1)=some (.row 147 [.i .i64 0,.k 1,.k 1]):=by rw[u1.old _ (by omega)];simp (disch:=omega) only[go_sem]
  have r3:h1.get (n+1+1+1)=some (.row 41 [.i .i64 0]):=by rw[u1.old _ (by omega)];simp (disch:=omega) only[go_sem]
  have ux:Up h n h1 n1:=by exact aH
  have kC:Kp (λx=>n+4<=x) h1 n1 (λh n=>aY h n v C):=Kp.up (n:=n+1+1+1+1) (Kp.Pm (λh' n' u=>hC.up (Up.trans aH u)) λx hx=>hx) u1;have kS:Kp (λx=>n+4<=x) h1 n1 (λh n=>bI h n tv p.st):=Kp.up (n:=n+1+1+1+1) (Kp.Pm (λh' n' u=>hS.up (Up.trans aH u)) λx hx=>hx) u1;clear u1;repeat' (first|(simp (disch:=omega) only[go_sem,simprocAttr,ub.old,r1,CS.av,TS.pv])|(simp (disch:=omega) only[go_sem,simprocAttr,r1,CS.av,TS.pv])|(refine aS ?_ ?_<;>(intro hb hd;rw[hb];clear hb))|(with_reducible refine aj ?_))
  rw[bF];refine Ck _ (kS.up (show Up h1 n1 h1 (n1+3) by exact aH)).use (by omega) (by omega) (by omega) λtv2 h2 n2 u2 k2=>?_;have e2:=u2.le;have q1:=(u2.old (n+1) (by omega)).trans r1;simp (disch:=omega) only[go_sem,simprocAttr,q1,r1,TS.pv,TS.av];generalize hh:Tr.set (Tr.set (Tr.set (Tr.set h2 n1 _) (n1+1) _) (n1+1) _) n2 _=h3;have u3:Up h1 n1 h3 (n2+1):=by rw[<-hh];exact aH
  have g1:h3.get n1=some (.row 114 (tv2.pv p)):=by rw[<-hh];simp (disch:=omega) only[go_sem]
  have g2:h3.get (n1+1)=some (.row 147 [.i .i64 party,.sl n1 0 0 1 (some 1),.k 1]):=by rw[<-hh];simp (disch:=omega) only[go_sem]
  have g3:qK h3 n2 AV.s []:=by rw[<-hh];exact qK.new _
  have k3:Kp (λx=>x<n1+3\/x=n2) h3 (n2+1) (λh n=>bI h n tv2 p.st):=by
   rw[<-hh];have k2':=k2.le (Y:=λx=>x<n1+3\/x=n2) λx hx e=>by rcases e with e|e<;>omega
   exact((((k2'.set (.inl (.inl (by omega))) (Nat.le_refl _)).set (.inl (.inl (by omega))) (Nat.le_refl _)).set (.inl (.inl (by omega))) (Nat.le_refl _)).set (.inl (.inr rfl)) (Nat.le_succ _))
  clear hh;rw[aR];refine KE _ (kS.up u3).use (ok.pb p.own) λh4 n4 u4=>?_;have e4:=u4.le;obtain⟨ob,m1,m2⟩:=(g3.on (u4.old n2 (by omega))).put (k:=gG p) (n:=n4) FZ (.i .i64 0);simp (disch:=omega) only[go_sem,simprocAttr,m1];generalize hh:Tr.set (Tr.set (Tr.set h4 n2 ob) n4 _) n4 _=h5;have s5:∀x,x<n4->x≠n2->h5.get x=h4.get x:=λx hx hne=>by rw[<-hh];simp (disch:=omega) only[go_sem]
  have r5:h5.get n4=some (.row 222 [.m n2]):=by rw[<-hh];exact aF
  have o5:∀x,x<n1->h5.get x=h1.get x:=λx hx=>by rw[s5 x (by omega) (by omega),u4.old x (by omega),u3.old x hx]
  have ap:AP (n+4) h5 (n4+1) (n1+1) n2 (.sl n1 0 0 1 (some 1)) (.k 1) (λx=>x=n1\/x=n1+1\/x=n2) party (λh m=>FA n n2 n4 v C h m) [(tv2,p)] [] []:=by
   refine⟨?_,?_,Gr.nil λ_=>rfl,?_,.inr (.inl rfl),.inr (.inr rfl),λx hx=>.inl (eu.1 hx),λx hx=>absurd hx fA,λx hx=>by omega,by omega,λx hx=>?_,λx hx=>absurd hx fA,λx hx=>?_,rfl,(λi y l h=>by cases h),?_,(λx hx=>by omega),by omega⟩
   .rw[s5 _ (by omega) (by omega),u4.old _ (by omega)];exact g2
   .refine Gr.all (l:=[(tv2,p)]) (λ_=>rfl) (by omega) ?_ rfl
    rw[s5 _ (by omega) (by omega),u4.old _ (by omega)];exact g1
   .have m3:qK h5 n2 AV.s (Ch [] (gG p) (.i .i64 0)):=m2.on (by rw[<-hh];simp (disch:=omega) only[go_sem])
    exact m3
   .rw[eu]at hx
    exact⟨by omega,by omega,fA⟩
   .simp at hx;subst hx
    rw[<-hh];have k4:=(k3.up u4).le (Y:=λx=>(x=n1\/x=n1+1\/x=n2)\/x<n+4) λx hx e=>by omega
    exact((k4.set (.inl (.inl (.inr (.inr rfl)))) (Nat.le_refl _)).set (.inr (Nat.le_refl _)) (Nat.le_refl _)).set (m:=n4+1) (.inr (Nat.le_refl _)) (Nat.le_succ _)
   .intro h' n' hn he
    have cn:aY h' n' v C:=by
     have k5:Kp (λx=>n+4<=x) h5 (n4+1) (λh n=>aY h n v C):=(kC.on (h':=h5) (n':=n4+1) (by omega) λx hx _=>o5 x hx);exact(k5.le (Y:=λx=>x=n1\/x=n1+1\/x=n2) λx _ e=>by omega) h' n' hn he
    exact⟨(he n4 (by omega) (by omega)).trans r5,by omega,(he _ (by omega) (by omega)).trans ((o5 _ (by omega)).trans r2),by omega,(he _ (by omega) (by omega)).trans ((o5 _ (by omega)).trans r3),by omega,(he _ (by omega) (by omega)).trans ((o5 _ (by omega)).trans r0),cn⟩
  have GH:Up h n h5 (n4+1):=⟨by omega,λx hx=>(o5 x (by omega)).trans (ux.old x hx)⟩;clear hh;refine iF (FI h v C party p n n1 n2 n4) 1500 (by omega) ⟨_,⟨[(tv2,p)],[],[],_,_,_,ap,GD.one C party p,rfl,GH,rfl⟩,by(repeat' (first|exact aO|refine aM rfl ?_))⟩ ?_;rintro m h8 n8 F ⟨ps,wv,M,vv,ww,X,a8,an,hm,u8,rfl⟩;have ra:=a8.ra;have:=an.le;have:=an.small;have fa:=a8.A.use;have rcb:=fa.rcb;have rrb:=fa.rrb;have reb:=fa.reb;have c1:=fa.Nv;have c2:=fa.Mc;have c3:=fa.ebn;have lta:=a8.lt _ a8.Xa;rw[List.length_map]at*;repeat' (first|(simp (disch:=omega) only[go_sem,simprocAttr,ub.old,ra,a8.gv.len,rrb,reb])|(simp (disch:=omega) only[go_sem,simprocAttr,ra,a8.gv.len,rrb,reb])|(refine aS ?_ ?_<;>(intro hb hd;rw[hb];clear hb))|(with_reducible refine aj ?_))
  .rename_i hlt
   obtain⟨b1,o1,xq,i1,hx,hb1,rd⟩:=a8.gv.sl.dL (k:=(M.length:Nat)) (by omega) (by omega) (by omega);rw[show((M.length:Nat):Int).toNat=M.length by omega]at hx;repeat' (first|(simp (disch:=omega) only[go_sem,simprocAttr,ub.old,rcb,CS.av,ra,i1,rd.all])|(simp (disch:=omega) only[go_sem,simprocAttr,rcb,CS.av,ra,i1,rd.all])|(refine aS ?_ ?_<;>(intro hb hd;rw[hb];clear hb))|(with_reducible refine aj ?_))
   have hxm:=List.mem_of_getElem? hx;have PI:=a8.st xq hxm;have ai:=a8.start;have hq:aK C xq.2.st:=wH.ok ok (an.rch _ (List.mem_map_of_mem hxm));have uA:Up h8 n8 (Tr.set h8 n8 (.row 238 [.k 1])) (n8+1):=by exact aH
   generalize Tr.set h8 n8 (.row 238 [.k 1])=hA at*;rw[bF];refine FX _ (fa.con.up uA) (PI.use.up uA) λpb cb tb h9 n9 u9 Z6 e7 e8 e9=>?_;simp (disch:=omega) only[go_sem,simprocAttr];refine oH rfl λt hF=>?_;refine KH K (v:=v) (tv:=xq.1) (party:=party) (FJ h v C party p n n1 n2 n4 n8 n9 pb cb tb M.length xq t M) (FE h C party p n n9 t) ho hq ?_ ?_ ?_ ?_ ?_ ?_
   .rintro h' n' h'' n'' l ⟨o,ps,wv,l',b1,b2,b3,b4,b5,b6,b7,b8,b9,b10,b11⟩ u
    exact⟨o,ps,wv,l',b1.up u,b2,b3,b4,b5,b6,(u.old _ (b1.lt _ b5)).trans b7,b8,b9,b10,b11.trans u⟩
   .rintro h' n' l ⟨o,ps,wv,l',b1,b2,b3,b4,b5,b6,b7,b8,b9,b10,b11⟩
    obtain⟨fa',ib⟩:=b1.A.use;exact⟨ib.p,ib.c,ib.t,ib.pn,ib.cn,ib.tn,fa'.con,(b1.st xq (List.mem_of_getElem? b10)).use⟩
   .have b:=(ai.up u9).wP (A':=λh m=>FA n n2 n4 v C h m/\IB pb cb tb v C party xq h m) ((ai.A.up u9).and λh' n' hn he=>?_)
    .have b2:=b.ajc (Z5 .ready none t)
     refine⟨_,ps,wv,[],b2,rfl,rfl,rfl,.inr rfl,λe=>?_,aF,an,Row.nil _,hx,?_⟩
     .have:=(b.acB e);have:=b.lt _ this;omega
     .have:=u9.le;have:=uA.le
      exact((u8.trans uA).trans u9).trans (Up.st (Up.refl _ _) _ _ (Nat.le_refl _) |>.wk (Nat.le_succ _))
    .have:=Z6.pn;have:=Z6.cn;have:=Z6.tn
     have nx:∀x,n8+1<=x->¬(X x\/x=n8):=λx hx e=>by have:=ai.lt x e;omega
     exact⟨(he _ (by omega) (nx _ e7)).trans Z6.rp,(he _ (by omega) (nx _ e8)).trans Z6.rc,(he _ (by omega) (nx _ e9)).trans Z6.rt,by omega,by omega,by omega⟩
   .rintro done m' q tq h0 n0 h1' n1' hpre ⟨o,ps',wv',l,b1,b2,b3,b4,b5,b6,b7,b8,b9,b10,b11⟩ RO kq
    have bn:n8+1<=n9:=u9.le;have hmem:(m',q)∈C.iK party xq.2:=hpre.subset (by simp);have hqs:aK C q.st:=IJ hq hmem;have acH:wH C party p q:=(an.rch _ (List.mem_map_of_mem hxm)).step hmem;have hL0:=b1.lt _ b5;have e01:=RO.le;have r1':=(RO.old n9 hL0).trans b7;have a1:=b1.up RO;refine RW.mono (lV (d:=19) (F:=_) (bs:=[true,true]) (R:=λb h' n'=>(b=true->FJ h v C party p n n1 n2 n4 n8 n9 pb cb tb M.length xq t M h' n' (done++[(m',q)]))/\(b=false->FE h C party p n n9 t h' n')) r1' hF (by kernel_rfl) rfl Yv Yw ?_) ?_
    .simp (disch:=omega) only[go_sem,simprocAttr,PO,Nu]
     generalize hx:Tr.set (Tr.set h1' n1' _) n1' _=h2';have uP:Up h1' n1' h2' (n1'+1):=by rw[<-hx];exact aH
     have yB:h2'.get n1'=some (.row 114 (tq.pv q)):=by rw[<-hx];exact aF
     clear hx;have r2':=(uP.old n9 (by omega)).trans r1';refine⟨_,_,_,_,_,_,r2',?_⟩;have a2:AI (n+4) (h2'.set n9 (.lp .busy none 44 t [51,52] (gW 44 0) (gX 44 0))) (n1'+1) o party _ ps' wv' M l:=(a1.up uP).sQ b5 b6 _;have kq2:Kp (λx=>o.X x\/x<n+4) (h2'.set n9 (.lp .busy none 44 t [51,52] (gW 44 0) (gX 44 0))) (n1'+1) (λh n=>bI h n tq q.st):=
      ((kq.le (Y:=λx=>o.X x\/x<n+4) λx _ e=>by
       have:=b1.Bn;rcases e with e|e
       .exact b1.lt x e
       .omega).up uP).set (.inl (.inl b5)) (Nat.le_refl _)
     have ajm:∀x∈ps',aK C x.2.st:=λx hx=>wH.ok ok (b8.rch _ (List.mem_map_of_mem hx));have hsm:=b8.small;rw[List.length_map]at hsm;have hll:l.length<=100000:=by
      have e1:=b9.1;have e2:done.length<=(C.iK party xq.2).length:=by
       have:=hpre.length_le;simp at this;omega
      have e3:=lW C party xq.2;omega
     have r3':(h2'.set n9 (.lp .busy none 44 t [51,52] (gW 44 0) (gX 44 0))).get n9=some (.lp .busy none 44 t [51,52] (gW 44 0) (gX 44 0)):=aF;have u8':Up h n (h2'.set n9 (.lp .busy none 44 t [51,52] (gW 44 0) (gX 44 0))) (n1'+1):=by
      have:=u8.le;have:=uA.le;exact Up.st ((b11.trans RO).trans uP) _ _ (by omega)
     have Qd:(h2'.set n9 (.lp .busy none 44 t [51,52] (gW 44 0) (gX 44 0))).get n1'=some (.row 114 (tq.pv q)):=by rw[au (by omega)];exact yB
     generalize h2'.set n9 _=h3' at*;have nX:∀x,x<n+4->¬o.X x:=λx hx e=>by have:=b1.nB x e;omega
     have hfa:∀h' n',(FA n n2 n4 v C h' n'/\IB pb cb tb v C party xq h' n')->h'.get n4=some (.row 222 [.m o.kb])/\n4<n'/\h'.get (n+1+1)=some (.row 147 [.i .i64 0,.k 1,.k 1])/\n+1+1<n'/\h'.get (n+1+1+1)=some (.row 41 [.i .i64 0])/\n+1+1+1<n':=λh' n' e=>by
      rw[b3];exact⟨e.1.rmb,e.1.Nv,e.1.rrb,e.1.Mc,e.1.reb,e.1.ebn⟩
     refine Qc (C:=C) (K+2) a2 hfa kq2 hqs ajm hsm hll rfl rfl (by rw[b2];rfl) rfl (by rw[b4];rfl) rfl ⟨n1',rfl,Qd,Nat.lt_succ_self _,λe=>by have:=b1.lt _ e;omega⟩ ?_ ?_ (nX _ (by omega)) (nX _ (by omega)) (by omega)
     .intro o' TT j h' n' F' a3 eab ekb elb YG hj hn hsame YH hown
      have acI:¬o'.own n9:=λe=>by
       rcases hown _ e with e|e
       .exact b6 e
       .omega
      have g9:=(hsame n9 (by omega) b6).trans r3';refine⟨_,_,_,_,_,_,_,g9,⟨λ_=>?_,λe=>(by cases e)⟩⟩;have a4:=a3.sQ (YH _ b5) acI (Z5 .ready none t);have hrow:Row (TT.map (·.2)) l done/\GD C party p (TT.map (·.2)) M/\TT[M.length]?=some xq:=by
       rcases YG with rfl|⟨e1,e2,rfl⟩
       .exact⟨b9,b8,b10⟩
       .rw[List.map_append]
        exact⟨b9.mono _,b8.pos e1 acH (by rw[List.length_map];exact e2),by rw[List.getElem?_append_left (List.getElem?_eq_some_iff.1 b10).1];exact b10⟩
      refine⟨o',TT,wv',_,a4,eab.trans b2,ekb.trans b3,elb.trans b4,YH _ b5,acI,aF,hrow.2.1,hrow.1.snoc hj,hrow.2.2,⟨by have:=u8'.le;omega,λx hx=>?_⟩⟩;have:=u8.le;have:=uA.le;have:=u8'.le;rw[au (by omega),hsame x (by omega) (λe=>nX x (by omega) (a2.acB e)),u8'.old x hx]
     .intro hnew VN h' n' F' hn q1 q2 hsame
      have:=u8.le;have:=uA.le;have:=u8'.le;have g9:=(hsame n9 (by omega) (by omega) (by omega)).trans r3';refine⟨_,_,_,_,_,_,_,g9,⟨λe=>(by cases e),λ_=>?_⟩⟩;refine⟨b8.big hnew acH (by rw[List.length_map];exact VN),?_,?_,aF,by omega,⟨by omega,λx hx=>?_⟩⟩
      .rw[au (by omega)];exact q1
      .rw[au (by omega)];exact q2
      .rw[au (by omega),hsame x (by omega) (by omega) (by omega),u8'.old x hx]
    .rintro u h' n' ⟨b,rfl,hb⟩
     exact⟨b,rfl,hb⟩
   .rintro h' n' ⟨o,ps',wv',l,b1,b2,b3,b4,b5,b6,b7,b8,b9,b10,b11⟩
    refine⟨_,_,_,_,_,_,_,b7,.inl ⟨rfl,rfl,?_⟩⟩;have hlen:=b1.len;have bn:n8+1<=n9:=u9.le;have:=uA.le;have b1':AI (n+4) (Tr.set h' n9 (.lp .exhausted none 44 t [51,52] (gW 44 0) (gX 44 0))) n' o party _ ps' wv' M l:=b1.sQ b5 b6 _;have ux9:Up h n (Tr.set h' n9 (.lp .exhausted none 44 t [51,52] (gW 44 0) (gX 44 0))) n':=Up.st b11 _ _ (by have:=u8.le;omega);generalize Tr.set h' n9 _=hx9 at*;obtain⟨ab,kb,lb,vo,wo,lo,Xo⟩:=o;dsimp only at b2 b3 b4;subst b2;subst b3;subst b4;have ra:=b1'.ra;have rl:=b1'.rl;have lta:=b1'.lt _ b1'.Xa;have lle:=b8.le;have lsm:=b8.small;rw[List.length_map]at lle lsm;simp (disch:=omega) only[go_sem,simprocAttr,ra,rl,b1'.gl.cl];refine jq (l2:=[lo]) (b1'.gw.up aH) ⟨rfl,?_⟩ (by simp;omega) λv' h4 n4' g4 l4 s4 b4=>?_
    .show bnd (iI (Tr.get _ _) 0 _) (λr=>mP (Nat.mul 1 1) r)=_
     rw[aF];rfl
    obtain⟨q1,q2⟩:=b1'.row (show Up hx9 n' _ (n'+1) by exact aH) g4 l4 s4 b4;simp (disch:=omega) only[go_sem,simprocAttr,q1,g4.cl];have hxq:(ps'.map (·.2))[M.length]?=some xq.2:=by rw[List.getElem?_map,b10];rfl
    have wid:gN .i64 ((M.length:Int)+1)=(((M++[l]).length:Nat):Int):=by rw[dI (by omega) (by omega)];simp
    rw[wid];have blo:∀x,blk wo x->n+4<=x:=λx hx=>b1'.nB x (b1'.Xw x hx);have nab:n+4<=n1+1:=by omega
    refine⟨m - 1,_,by omega,⟨ps',wv'++[lo],M++[l],vo,v',_,q2.wP λh n e=>e.1,b8.row hxq b9,by simp;omega,⟨by have:=ux9.le;omega,λx hx=>?_⟩,rfl⟩,by(repeat' (first|exact aO|refine aM rfl ?_))⟩;have:=ux9.le;rw[au (by omega),s4 x (by omega) (λe=>by have:=blo x e;omega),au (by omega)];exact ux9.old x hx
   .rintro h' n' ⟨b1,b2,b3,b4,b5,b6⟩
    refine⟨_,_,_,_,_,_,_,b4,.inr (.inl ⟨rfl,rfl,?_⟩)⟩;simp (disch:=omega) only[go_sem,simprocAttr,b2,b3];exact rQ (by omega) (by omega) ok b1 _ _ (Up.st b6 _ _ (by omega))
  .refine KA (by omega) (by omega) ok ps wv M vv ww _ _ (an.done (by rw[List.length_map];omega)) aH ?_
   have k9:=a8.fin;exact(((k9.set (.inl (by omega)) (Nat.le_refl _)).set (.inl (by omega)) (Nat.le_refl _))).le λx _ hx=>by omega
theorem Qe(K:Nat)(hC:aY h n v C)(ho:C.off.length<=1000000)(jV:¬(C.valid=true/\0<=party/\party<C.aD)->∀h' n',Up h n h' n'->Q (.bJ [EI,.i .i64 1]) h' n')
 (rQ:C.valid=true->0<=party->party<C.aD->gT C party ⟨C.first,true⟩->∀h' n',Up h n h' n'->Q (.bJ [EI,.i .i64 3]) h' n')
 (KA:C.valid=true->0<=party->party<C.aD->∀ps wv M v w h' n',bZ C party ⟨C.first,true⟩ (ps.map (·.2)) M->Up h n h' n'->Kp (λx=>x<n) h' n' (λh n=>uD h n v w ps wv M)->Q (.bJ [.agg [.i .i64 party,v,w],.i .i64 0]) h' n'):CW (EF (K+11)) 48 [.agg (v.av C),.i .i64 party] h n Q:=by
 refine aC c50 rfl ?_;repeat' (first|(simp (disch:=omega) only[go_sem,simprocAttr,ub.old,m50,CS.av])|(simp (disch:=omega) only[go_sem,simprocAttr,m50,CS.av])|(refine aS ?_ ?_<;>(intro hb hd;rw[hb];clear hb))|(with_reducible refine aj ?_))
 rw[aR];refine AQ _ (hC.up aH) ho (λhv h1 n1 u1=>?_) (λhv RN h1 n1 u1 k1=>?_)
 .have e1:=u1.le
  have r1:h1.get (n+1)=some (.row 147 [.i .i64 0,.k 1,.k 1]):=by rw[u1.old _ (by omega)];simp (disch:=omega) only[go_sem]
  repeat' (first|(simp (disch:=omega) only[go_sem,simprocAttr,ub.old,VG,r1,Int.reduceEq])|(simp (disch:=omega) only[go_sem,simprocAttr,VG,r1,Int.reduceEq])|(refine aS ?_ ?_<;>(intro hb hd;rw[hb];clear hb))|(with_reducible refine aj ?_))
  exact jV (λe=>by rw[hv]at e;cases e.1) _ _ aH
 .have e1:=u1.le
  have r0:h1.get n=some (.row 27 (v.av C)):=by rw[u1.old _ (by omega)];simp (disch:=omega) only[go_sem]
  have r1:h1.get (n+1)=some (.row 147 [.i .i64 0,.k 1,.k 1]):=by rw[u1.old _ (by omega)];simp (disch:=omega) only[go_sem]
  have ux:Up h n h1 n1:=by exact aH
  clear u1;repeat' (first|(simp (disch:=omega) only[go_sem,simprocAttr,ub.old,r0,CS.av,TS.av,Int.reduceEq])|(simp (disch:=omega) only[go_sem,simprocAttr,r0,CS.av,TS.av,Int.reduceEq])|(refine aS ?_ ?_<;>(intro hb hd;rw[hb];clear hb))|(with_reducible refine aj ?_))
  rw[aR];have so:=qI hv;refine zq K (p:=⟨C.first,true⟩) (tv:=RN) (hC.up aH) ho ((k1.up aH).use) ⟨λhn h2 n2 u2=>?_,λa b c d h2 n2 u2=>?_,λa b c ps wv M v' w' h2 n2 ia u2 k2=>?_⟩
  .have e2:=u2.le
   have r2:h2.get (n+1)=some (.row 147 [.i .i64 0,.k 1,.k 1]):=by rw[u2.old _ (by omega),au (by omega),au (by omega)];exact r1
   repeat' (first|(simp (disch:=omega) only[go_sem,simprocAttr,ub.old,EI,r2,Int.reduceEq])|(simp (disch:=omega) only[go_sem,simprocAttr,EI,r2,Int.reduceEq])|(refine aS ?_ ?_<;>(intro hb hd;rw[hb];clear hb))|(with_reducible refine aj ?_))
   exact jV (λe=>hn ⟨e.2.1,e.2.2,so⟩) _ _ aH
  .have e2:=u2.le
   have r2:h2.get (n+1)=some (.row 147 [.i .i64 0,.k 1,.k 1]):=by rw[u2.old _ (by omega),au (by omega),au (by omega)];exact r1
   repeat' (first|(simp (disch:=omega) only[go_sem,simprocAttr,ub.old,EI,r2,Int.reduceEq])|(simp (disch:=omega) only[go_sem,simprocAttr,EI,r2,Int.reduceEq])|(refine aS ?_ ?_<;>(intro hb hd;rw[hb];clear hb))|(with_reducible refine aj ?_))
   exact rQ hv a b d _ _ aH
  .have e2:=u2.le
   have r2:h2.get (n+1)=some (.row 147 [.i .i64 0,.k 1,.k 1]):=by rw[u2.old _ (by omega),au (by omega),au (by omega)];exact r1
   repeat' (first|(simp (disch:=omega) only[go_sem,simprocAttr,ub.old,r2,Int.reduceEq])|(simp (disch:=omega) only[go_sem,simprocAttr,r2,Int.reduceEq])|(refine aS ?_ ?_<;>(intro hb hd;rw[hb];clear hb))|(with_reducible refine aj ?_))
   exact KA hv a b ps wv M v' w' _ _ ia aH ((k2.set (.inl (by omega)) (Nat.le_refl _)).le λx _ hx=>by omega)
end
end
end
section
noncomputable section
def rk(r:List Int)(i:Nat):Int:=r.getD i (-1)
theorem uE{r:List Int}{i j:Nat}{x:Int}(hi:i<r.length):rk (r.set i x) j=if i=j then x else rk r j:=by
 unfold rk;rw[List.getD_eq_getElem?_getD,List.getD_eq_getElem?_getD,List.getElem?_set];by_cases h:i=j
 .rw[if_pos h,if_pos h,if_pos (by omega)];rfl
 .rw[if_neg h,if_neg h]
theorem qO{r:List Int}{i:Nat}{x:Int}(h:r[i]?=some x):rk r i=x:=by unfold rk;rw[List.getD_eq_getElem?_getD,h];rfl
theorem vV{r:List Int}{i:Nat}(h:i<r.length):r[i]?=some (rk r i):=by
 unfold rk;rw[List.getD_eq_getElem?_getD,List.getElem?_eq_getElem h];rfl
def mr(M:List (List (Int×Nat)))(i:Nat):List (Int×Nat):=M.getD i []
def pK(M:List (List (Int×Nat)))(j:Nat):List Nat:=(List.range M.length).flatMap λi=>((mr M i).filter λx=>x.2==j).map λ_=>i
def hits(M:List (List (Int×Nat)))(i j:Nat):Nat:=((mr M i).filter λx=>x.2==j).length
theorem Md{l:List (Int×Nat)}{i k:Nat}:(l.map λ_=>i).count k=if k=i then l.length else 0:=by
 induction l with
 |nil=>simp
 |cons a l ih=>
  rw[List.map_cons,List.count_cons,ih];by_cases h:k=i
  .simp[h]
  .have:¬i=k:=λe=>h e.symm
   simp[h,this]
theorem Me{M:List (List (Int×Nat))}{i j:Nat}(hi:i<M.length):(pK M j).count i=hits M i j:=by
 unfold pK hits;have key:∀n,((List.range n).flatMap λi=>((mr M i).filter λx=>x.2==j).map λ_=>i).count i=if i<n then((mr M i).filter λx=>x.2==j).length else 0:=by
  intro n;induction n with
  |zero=>simp
  |succ n ih=>
   rw[List.range_succ,List.flatMap_append,List.count_append,ih,List.flatMap_cons,List.flatMap_nil,List.append_nil,Md];by_cases h:i=n
   .subst h;simp
   .have h2:i<n+1↔i<n:=by omega
    simp[h,h2]
 rw[key,if_pos hi]
theorem KJ{M:List (List (Int×Nat))}{i j:Nat}:i∈pK M j↔i<M.length/\∃m,(m,j)∈mr M i:=by
 unfold pK;rw[List.mem_flatMap];constructor
 .rintro⟨k,hk,hm⟩
  obtain⟨x,hx,rfl⟩:=List.mem_map.1 hm;have:=List.mem_filter.1 hx;refine⟨List.mem_range.1 hk,x.1,?_⟩;have e:x.2=j:=by simpa using this.2
  rw[<-e];exact this.1
 .rintro⟨hi,m,hm⟩
  exact⟨i,List.mem_range.2 hi,List.mem_map.2 ⟨(m,j),List.mem_filter.2 ⟨hm,by simp⟩,rfl⟩⟩
theorem KL{M:List (List (Int×Nat))}{i:Nat}:∀{L:List Nat},L.Nodup->(L.map (hits M i)).sum=((mr M i).filter λx=>L.contains x.2).length
 |[],_=>by rw[List.map_nil,List.sum_nil,List.filter_eq_nil_iff.2 (by simp)];rfl
 |j::L,h=>by
  rw[List.nodup_cons]at h;rw[List.map_cons,List.sum_cons,KL h.2];unfold hits;generalize mr M i=l;induction l with
  |nil=>rfl
  |cons a l ih=>
   simp only[List.filter_cons];by_cases h1:a.2=j
   .subst h1
    have h2:L.contains a.2=false:=by simpa using h.1
    have h3:(a.2::L).contains a.2=true:=by simp
    simp only[h2,h3,beq_self_eq_true,if_true,Bool.false_eq_true,if_false,List.length_cons];omega
   .have h1b:(a.2==j)=false:=by simpa using h1
    cases h2:L.contains a.2 with
    |true=>
     have h3:(j::L).contains a.2=true:=by simp at h2⊢;exact .inr h2
     simp only[h1b,h3,if_true,Bool.false_eq_true,if_false,List.length_cons];omega
    |false=>
     have h3:(j::L).contains a.2=false:=by simp at h2⊢;exact⟨h1,h2⟩
     simp only[h1b,h3,Bool.false_eq_true,if_false];exact ih
theorem uG{M:List (List (Int×Nat))}{i:Nat}(hi:i<M.length){L:List Nat}(h:L.Nodup):(L.flatMap (pK M)).count i=((mr M i).filter λx=>L.contains x.2).length:=by
 rw[<-KL h];induction L with
 |nil=>simp
 |cons a L ih=>
  rw[List.nodup_cons]at h;rw[List.flatMap_cons,List.count_append,ih h.2,List.map_cons,List.sum_cons,Me hi]
structure RI(C:ay)(party:Int)(P:List aN)(M:List (List (Int×Nat)))(r op:List Int)(Q E:List Nat)(n0:Nat):Prop where
 lr:r.length=P.length
 lo:op.length=P.length
 lm:M.length=P.length
 q:Q.Nodup
 qr:∀i,i∈Q↔i<P.length/\0<=rk r i
 neg:∀i, -1<=rk r i
 op:∀i,i<P.length->op.getD i 0=(mr M i).length - (E.count i:Int)
 lost:∀(i:Nat)(p:aN),P[i]?=some p->(rk r i=0↔anyFailed C p.st party=true)
 own:∀(i:Nat)(p:aN),P[i]?=some p->p.own=true->0<rk r i->∀m j,(m,j)∈mr M i->0<=rk r j/\rk r j<rk r i
 jM:∀(i:Nat)(p:aN),P[i]?=some p->p.own=false->0<rk r i->∃m j,(m,j)∈mr M i/\0<=rk r j/\rk r j<rk r i
 mono:Q.Pairwise λa b=>rk r a<=rk r b
 cl:∀(i:Nat)(p:aN),P[i]?=some p->rk r i= -1->(p.own=false->E.count i=0)/\(i<n0->p.own=true->E.count i≠(mr M i).length)
section
variable {C:ay} {party:Int} {P:List aN} {M:List (List (Int×Nat))} {r op:List Int} {Q E D:List Nat} {n0:Nat}
theorem RI.settle(a:RI C party P M r op Q E n0){f:Nat}{p:aN}{x:Int}(hf:P[f]?=some p)(hr:rk r f= -1)(hx:0<x)(hb:∀i∈Q,rk r i<=x)
 (h1:p.own=true->∀m j,(m,j)∈mr M f->0<=rk r j/\rk r j<x)(h2:p.own=false->∃m j,(m,j)∈mr M f/\0<=rk r j/\rk r j<x):RI C party P M (r.set f x) op (Q++[f]) E n0:=by
 have hl:=(List.getElem?_eq_some_iff.1 hf).1;have hl2:f<r.length:=by rw[a.lr];exact hl
 have nQ:f∉Q:=λh=>by have:=((a.qr f).1 h).2;omega
 have ne:∀{j:Nat},0<=rk r j->rk (r.set f x) j=rk r j:=λ{j} h=>by
  rw[uE hl2,if_neg (λe=>by subst e;omega)]
 have le:∀i,rk (r.set f x) i=if f=i then x else rk r i:=λi=>uE hl2
 refine⟨by simp[a.lr],a.lo,a.lm,?_,λi=>?_,λi=>?_,a.op,λi p' hi=>?_,λi p' hi ho hp m j hm=>?_,λi p' hi ho hp=>?_,?_,λi p' hi hp=>?_⟩
 .rw[List.nodup_append]
  exact⟨a.q,by simp,λy hy z hz e=>by simp at hz;subst hz;subst e;exact nQ hy⟩
 .rw[List.mem_append,List.mem_singleton,a.qr,le]
  by_cases h:f=i
  .rw[if_pos h]
   constructor
   .rintro _;exact⟨by omega,by omega⟩
   .intro _;exact .inr h.symm
  .rw[if_neg h]
   constructor
   .rintro(e|e)
    .exact e
    .exact absurd e.symm h
   .exactλe=>.inl e
 .rw[le];split
  .omega
  .exact a.neg i
 .rw[le]
  by_cases h:f=i
  .rw[if_pos h]
   subst h;have:=a.lost f p' hi;constructor
   .intro e;omega
   .intro e;have:=this.2 e;omega
  .rw[if_neg h];exact a.lost i p' hi
 .rw[le i]at hp⊢
  by_cases h:f=i
  .subst h
   rw[if_pos rfl];rw[hf]at hi;cases hi;obtain⟨g1,g2⟩:=h1 ho m j hm;rw[ne g1];exact⟨g1,g2⟩
  .rw[if_neg h]at hp⊢
   obtain⟨g1,g2⟩:=a.own i p' hi ho hp m j hm;rw[ne g1];exact⟨g1,g2⟩
 .rw[le]at hp
  by_cases h:f=i
  .subst h
   rw[hf]at hi;cases hi;obtain⟨m,j,g0,g1,g2⟩:=h2 ho;refine⟨m,j,g0,?_⟩;rw[ne g1,le,if_pos rfl];exact⟨g1,g2⟩
  .rw[if_neg h]at hp
   obtain⟨m,j,g0,g1,g2⟩:=a.jM i p' hi ho hp;refine⟨m,j,g0,?_⟩;rw[ne g1,le,if_neg h];exact⟨g1,g2⟩
 .rw[List.pairwise_append]
  refine⟨?_,by simp,λy hy z hz=>?_⟩
  .refine List.Pairwise.imp_of_mem (λ{y z} hy hz e=>?_) a.mono
   rw[ne ((a.qr y).1 hy).2,ne ((a.qr z).1 hz).2];exact e
  .simp at hz;subst hz
   rw[ne ((a.qr y).1 hy).2,le,if_pos rfl];exact hb y hy
 .rw[le]at hp
  by_cases h:f=i
  .rw[if_pos h]at hp;omega
  .rw[if_neg h]at hp;exact a.cl i p' hi hp
theorem RI.Qf(a:RI C party P M r op Q E n0):Q.length<=P.length:=by
 have key:∀(n:Nat)(l:List Nat),l.Nodup->(∀x∈l,x<n)->l.length<=n:=by
  intro n;induction n with
  |zero=>intro l _ h;cases l with
   |nil=>simp
   |cons a l=>exact absurd (h a (by simp)) (by omega)
  |succ n ih=>
   intro l hl h;have h1:=ih (l.erase n) (hl.erase n) λx hx=>by
    have h2:=h x (List.mem_of_mem_erase hx);have h3:=(List.Nodup.mem_erase_iff hl).1 hx;have:=h3.1;omega
   by_cases hm:n∈l
   .rw[List.length_erase_of_mem hm]at h1
    omega
   .rw[List.erase_of_not_mem hm]at h1;omega
 exact key _ _ a.q λx hx=>((a.qr x).1 hx).1
theorem RI.skip(a:RI C party P M r op Q [] n0){p:aN}(hp:P[n0]?=some p)(h:¬(p.own=true/\op.getD n0 0=0/\rk r n0= -1)):RI C party P M r op Q [] (n0+1):=by
 refine⟨a.lr,a.lo,a.lm,a.q,a.qr,a.neg,a.op,a.lost,a.own,a.jM,a.mono,λi p' hi hr=>⟨(a.cl i p' hi hr).1,λh1 h2=>?_⟩⟩;by_cases e:i<n0
 .exact(a.cl i p' hi hr).2 e h2
 .obtain rfl:i=n0:=by omega
  rw[hp]at hi;cases hi;intro e2;have hl:=(List.getElem?_eq_some_iff.1 hp).1;have:=a.op i hl;refine h ⟨h2,?_,hr⟩;rw[this,<-e2];simp
theorem RI.ajp(a:RI C party P M r op Q [] n0){p:aN}(hp:P[n0]?=some p)(ho:p.own=true)(h0:op.getD n0 0=0)(hr:rk r n0= -1)(hb:∀i∈Q,rk r i<=1):RI C party P M (r.set n0 1) op (Q++[n0]) [] (n0+1):=by
 have hl:=(List.getElem?_eq_some_iff.1 hp).1;have h1:=a.op n0 hl;have h2:(mr M n0).length=0:=by rw[h0]at h1;simp at h1;omega
 have b:=a.settle hp hr (by omega) hb (λ_ m j hm=>by rw[List.length_eq_zero_iff.1 h2]at hm;cases hm) (λe=>by rw[ho]at e;cases e);refine RI.skip (n0:=n0) b hp λe=>?_;have:=e.2.2;rw[uE (by rw[a.lr];exact hl),if_pos rfl]at this;omega
theorem vW{E:List Nat}{f i:Nat}:(E++[f]).count i=E.count i+if f=i then 1 else 0:=by
 rw[List.count_append,List.count_singleton];by_cases h:f=i<;>simp[h]
theorem RI.edge(a:RI C party P M r op Q E n0){f:Nat}{p:aN}(hf:P[f]?=some p)(h:rk r f≠ -1\/(p.own=true/\op.getD f 0 - 1≠0)):RI C party P M r (op.set f (op.getD f 0 - 1)) Q (E++[f]) n0:=by
 have hl:=(List.getElem?_eq_some_iff.1 hf).1;have hop:∀i,i<P.length->(op.set f (op.getD f 0 - 1)).getD i 0=(mr M i).length - ((E++[f]).count i:Int):=λi hi=>by
  have h1:=a.op i hi;rw[vW,List.getD_eq_getElem?_getD,List.getElem?_set];rw[List.getD_eq_getElem?_getD]at h1;by_cases e:f=i
  .subst e
   rw[if_pos rfl,if_pos rfl,if_pos (by rw[a.lo];exact hl),List.getD_eq_getElem?_getD];simp only[Option.getD_some];rw[h1];omega
  .rw[if_neg e,if_neg e,h1];rfl
 refine⟨a.lr,by simp[a.lo],a.lm,a.q,a.qr,a.neg,hop,a.lost,a.own,a.jM,a.mono,λi p' hi hr=>?_⟩;by_cases e:f=i
 .subst e
  rw[hf]at hi;cases hi;rcases h with h|⟨h1,h2⟩
  .exact absurd hr h
  .refine⟨(λk=>by rw[h1]at k;cases k),λ_ _ k=>h2 ?_⟩
   have h3:=a.op f hl;rw[vW,if_pos rfl]at k;omega
 .obtain⟨g1,g2⟩:=a.cl i p' hi hr
  rw[vW,if_neg e];exact⟨g1,g2⟩
theorem RI.acJ(a:RI C party P M r op Q E n0)(ht:∀(i:Nat) l m j,M[i]?=some l->(m,j)∈l->j<P.length){f to t:Nat}{p:aN}{rest:List Nat}(hQ:Q=D++to::rest)(hE:E=D.flatMap (pK M)++(pK M to).take t)(hb:∀i∈Q,rk r i<=rk r to+1)(hf:P[f]?=some p)(hft:(pK M to)[t]?=some f)
 (hr:rk r f= -1)(h:p.own=false\/op.getD f 0 - 1=0):RI C party P M (r.set f (rk r to+1)) (op.set f (op.getD f 0 - 1)) (Q++[f]) (E++[f]) n0:=by
 have hl:=(List.getElem?_eq_some_iff.1 hf).1;have hto:=((a.qr to).1 (by rw[hQ];simp)).2;have hmem:f∈pK M to:=List.mem_of_getElem? hft;obtain⟨_,mm,hmm⟩:=KJ.1 hmem;have hQn:=a.q;rw[hQ]at hQn;have hDn:(D++[to]).Nodup:=by
  rw[show D++to::rest=(D++[to])++rest by simp]at hQn;exact(List.nodup_append.1 hQn).1
 have ajq:∀j∈D++[to],0<=rk r j/\rk r j<=rk r to:=by
  intro j hj;have hm:=a.mono;rw[hQ,List.pairwise_append]at hm;rcases List.mem_append.1 hj with hj|hj
  .exact⟨((a.qr j).1 (by rw[hQ];simp[hj])).2,hm.2.2 j hj to (by simp)⟩
  .simp at hj;subst hj;exact⟨hto,by omega⟩
 have all:op.getD f 0 - 1=0->∀m j,(m,j)∈mr M f->0<=rk r j/\rk r j<rk r to+1:=by
  intro h0 m j hm;have h1:=a.op f hl;have h2:(E++[f]).count f=(mr M f).length:=by rw[vW,if_pos rfl];omega
  have h3:E++[f]=D.flatMap (pK M)++(pK M to).take (t+1):=by
   rw[hE,List.append_assoc,List.take_add_one,hft];rfl
  have h4:(E++[f]).count f<=((D++[to]).flatMap (pK M)).count f:=by
   rw[h3,List.flatMap_append,List.count_append,List.count_append,List.flatMap_cons,List.flatMap_nil,List.append_nil];exact Nat.add_le_add_left ((List.take_sublist _ _).count_le _) _
  rw[uG (by rw[a.lm];exact hl) hDn,h2]at h4;have h5:=List.length_filter_le (λx=>(D++[to]).contains x.2) (mr M f);have h6:=List.length_filter_eq_length_iff.1 (Nat.le_antisymm h5 h4) (m,j) hm;have h7:=ajq j (by simpa using h6);omega
 have b:=a.settle hf hr (x:=rk r to+1) (by omega) hb (λho=>all (by
  rcases h with h|h
  .rw[ho]at h;cases h
  .exact h)) (λ_=>⟨mm,to,hmm,hto,by omega⟩)
 have hl2:f<r.length:=by rw[a.lr];exact hl
 refine RI.edge b hf (.inl ?_);rw[uE hl2,if_pos rfl];omega
theorem RI.YI(a:RI C party P M r op Q E n0){f to t:Nat}{rest:List Nat}(hQ:Q=D++to::rest)(hE:E=D.flatMap (pK M)++(pK M to).take t)(hf:f<P.length):E.count f<=(mr M f).length:=by
 have hQn:=a.q;rw[hQ]at hQn;have hDn:(D++[to]).Nodup:=by
  rw[show D++to::rest=(D++[to])++rest by simp]at hQn;exact(List.nodup_append.1 hQn).1
 have h4:E.count f<=((D++[to]).flatMap (pK M)).count f:=by
  rw[hE,List.flatMap_append,List.count_append,List.count_append,List.flatMap_cons,List.flatMap_nil,List.append_nil];exact Nat.add_le_add_left ((List.take_sublist _ _).count_le _) _
 rw[uG (by rw[a.lm];exact hf) hDn]at h4;exact Nat.le_trans h4 (List.length_filter_le _ _)
theorem RI.done(a:RI C party P M r op Q E P.length)(hE:E=Q.flatMap (pK M))(ht:∀(i:Nat) l m j,M[i]?=some l->(m,j)∈l->j<P.length):qJ C party P M r:=by
 have VP:∀{i:Nat}{l:List (Int×Nat)},M[i]?=some l->mr M i=l:=λ{i l} h=>by unfold mr;rw[List.getD_eq_getElem?_getD,h];rfl
 have cnt:∀i,i<P.length->E.count i=((mr M i).filter λx=>Q.contains x.2).length:=λi hi=>by rw[hE,uG (by rw[a.lm];exact hi) a.q]
 have sm:∀{j:Nat},j<P.length->r[j]?=some (rk r j):=λh=>vV (by rw[a.lr];exact h);have hi:∀{i:Nat}{p:aN},P[i]?=some p->i<P.length:=λh=>(List.getElem?_eq_some_iff.1 h).1;refine⟨a.lr,λi x h=>by rw[<-qO h];exact a.neg i,λi p x h1 h2=>by rw[<-qO h2];exact a.lost i p h1,λi p l x h1 h2 h3 h4 h5 m j hm=>?_,λi p l x h1 h2 h3 h4 h5=>?_,λi p l h1 h2 h3 h4=>?_,λi p l h1 h2 h3 h4 m j hm=>?_⟩
 .have e:=qO h3
  obtain⟨g1,g2⟩:=a.own i p h1 h4 (by omega) m j (by rw[VP h2];exact hm);exact⟨_,sm (ht i l m j h2 hm),g1,by omega⟩
 .have e:=qO h3
  obtain⟨m,j,g0,g1,g2⟩:=a.jM i p h1 h4 (by omega);rw[VP h2]at g0;exact⟨m,j,_,g0,sm (ht i l m j h2 g0),g1,by omega⟩
 .have e:=qO h3
  have h5:=(a.cl i p h1 e).2 (hi h1) h4;rw[cnt i (hi h1),VP h2]at h5;by_cases hx:∀x∈l,Q.contains x.2=true
  .exact absurd (List.length_filter_eq_length_iff.2 hx) h5
  .obtain⟨⟨m,j⟩,hx2⟩:=Classical.not_forall.1 hx
   obtain⟨hx3,hx4⟩:=Classical.not_imp.1 hx2;refine⟨m,j,hx3,?_⟩;have hj:=ht i l m j h2 hx3;have nq:j∉Q:=by simpa using hx4
   rw[sm hj];congr 1;have:=a.neg j;by_cases e0:0<=rk r j
   .exact absurd ((a.qr j).2 ⟨hj,e0⟩) nq
   .omega
 .have e:=qO h3
  have h5:=(a.cl i p h1 e).1 h4;have hj:=ht i l m j h2 hm;rw[cnt i (hi h1),VP h2,List.length_eq_zero_iff,List.filter_eq_nil_iff]at h5;have h6:=h5 (m,j) hm;have nq:j∉Q:=by simpa using h6
  rw[sm hj];congr 1;have:=a.neg j;by_cases e0:0<=rk r j
  .exact absurd ((a.qr j).2 ⟨hj,e0⟩) nq
  .omega
end
end
end
noncomputable section
set_option maxRecDepth 1000000
set_option maxHeartbeats 4000000
def Qg:MC:=(.seq (.reg [nl (.je 1 (.s 132) (.s 134)),nl (.ld none (.v 0)),nk 21 (.mv (.v 0))]) (.reg [nl (.mv (.s 17)),nl (.mv (.s 21)),nl (.mv (.s 18)),nl (.call (.v 2) [(.v 1),(.v 0)])]))
def Ef:MC:=(.seq (.seq (.reg [nk 124 (.mv (.s 19))]) (.cond (.s 124) .skip (.exit 6))) (.seq (.blk 7 (.seq (.reg [nl (.mv (.s 8)),nl (.mv (.s 18)),nl (.je 1 (.v 1) (.v 0)),nk 132 (.ld none (.v 0)),nk 133 (.ig (.s 132)),nk 134 (.mv (.c (.i .i64 0)))]) (.blk 8 (zf 3 134 133 135 8 9 Qg)))) (.reg [nl (.call (.c (.f 160 [])) [(.s 9)]),nl (.mv (.v 0)),nl (.ext (.v 0) 0),nl (.ext (.v 1) 1),nk 18 (.mv (.v 1)),nk 19 (.mv (.v 0))])))
def IK:MC:=(.seq (.reg [nl (.mv (.s 94)),nl (.je 5 (.s 92) (.s 94)),nl (.ld (some 5) (.v 0)),nk 16 (.al 114 [(.i .i64 0),(.k 1),(.k 1),(.k 1),(.b false)]),nk 15 (.mv (.v 2)),⟨none,(.st 5 (.s 16) (.v 0)),.n⟩]) (.seq (.reg [nl (.fa 4 (.s 16)),nl (.ld none (.v 0)),nl (.mv (.v 0)),ng 0 true (.ld none (.s 7)),ng 1 true (.mv (.s 15)),ng 2 true (.je 1 (.v 1) (.v 0)),ng 3 true (.ld none (.v 0)),ng 4 true (.bin .eql 3 (.v 0) (.c (.i .i64 0))),nl (.pick (.v 5) (.v 0) (.c (.b false))),nl (.mv (.v 0)),ng 0 true (.ld none (.s 6)),ng 1 true (.mv (.s 15)),ng 2 true (.je 1 (.v 1) (.v 0)),ng 3 true (.ld none (.v 0)),ng 4 true (.bin .eql 3 (.v 0) (.c (.i .i64 (.negSucc 0)))),nk 114 (.pick (.v 5) (.v 0) (.c (.b false)))]) (.cond (.s 114) (.reg [nl (.ld none (.s 14)),nl (.mv (.s 15)),nl (.call (.v 1) [(.v 0),(.c (.i .i64 1))])]) .skip)))
def IL:MC:=(.seq (.reg [nl (.je 2 (.s 59) (.s 61)),nl (.ld (some 2) (.v 0)),nk 13 (.al 243 [(.i .i64 0),(.i .i64 0)]),⟨none,(.st 2 (.s 13) (.v 0)),.n⟩]) (.zW 2 [mq 0 [] (.mv (.s 8)),mq 0 [] (.fa 1 (.s 13)),mq 1 [1] (.ld none (.v 0)),mq 0 [] (.mv (.s 8)),mq 0 [] (.fa 1 (.s 13)),mq 1 [4] (.ld none (.v 0)),mq 0 [3,5] (.je 1 (.v 0) (.v 1)),mq 1 [6] (.ld none (.v 0)),mq 0 [] (.mv (.s 10)),mq 2 [8] (.Nn 3 1 [(.i .i64 0)] [(0,(1,(.v 0)))]),mq 3 [7,9] (.app 3 1 (.v 0) (.v 1)),mq 0 [0,2] (.je 1 (.v 0) (.v 1)),mq 3 [10,11] (.st 1 (.v 1) (.v 0))] [(2,11)] []))
def IQ:MC:=(.seq (.reg [nl (.mv (.s 38)),nl (.je 5 (.s 36) (.s 38)),nl (.ld (some 5) (.v 0)),nk 11 (.al 114 [(.i .i64 0),(.k 1),(.k 1),(.k 1),(.b false)]),nk 10 (.mv (.v 2)),⟨none,(.st 5 (.s 11) (.v 0)),.n⟩]) (.seq (.zW 0 [mq 1 [] (.ld none (.s 6)),mq 0 [] (.mv (.s 10)),mq 1 [] (.ld none (.s 7)),mq 0 [] (.mv (.s 10)),mq 0 [] (.fa 2 (.s 3)),mq 1 [4] (.ld none (.v 0)),mq 0 [] (.mv (.s 10)),mq 0 [5,6] (.je 1 (.v 0) (.v 1)),mq 1 [7] (.ld none (.v 0)),mq 1 [8] (.ig (.v 0)),mq 0 [0,1] (.je 1 (.v 0) (.v 1)),mq 3 [10] (.st 1 (.v 0) (.c (.i .i64 (.negSucc 0)))),mq 0 [2,3] (.je 1 (.v 0) (.v 1)),mq 3 [9,12] (.st 1 (.v 1) (.v 0))] [(2,12),(9,12)] []) (.seq (.seq (.reg [nl (.fa 2 (.s 3)),nl (.ld none (.v 0)),nl (.mv (.s 10)),nl (.je 1 (.v 1) (.v 0)),nk 59 (.ld none (.v 0)),nk 60 (.ig (.s 59)),nk 61 (.mv (.c (.i .i64 0)))]) (.blk 2 (zf 3 61 60 62 2 3 IL))) (.seq (.reg [nl (.ld (some 7) (.s 2)),nl (.fa 0 (.s 11)),nl (.ld (some 4) (.v 0)),nl (.fa 0 (.s 3)),nl (.ld none (.v 0)),nk 83 (.call (.c (.f 156 [])) [(.v 4),(.v 2),(.v 0)])]) (.cond (.s 83) (.seq (.reg [nl (.ld none (.s 6)),nl (.mv (.s 10)),nl (.je 1 (.v 1) (.v 0)),⟨none,(.st 1 (.v 0) (.c (.i .i64 0))),.n⟩]) (.reg [nl (.mv (.s 10)),nl (.call (.c (.f 157 [])) [(.s 9),(.v 0)])])) .skip)))))
def acK:MC:=(.seq (.reg [nk 2 (.box 27 7 (.s 0)),nk 3 (.box 147 3 (.s 1)),nk 4 (.mv (.c (.k 1)))]) (.seq (.seq (.reg [nl (.ld (some 7) (.s 2)),nl (.ld (some 3) (.s 3)),nl (.call (.c (.f 155 [])) [(.v 1),(.v 0)]),nk 25 (.not (.v 0))]) (.cond (.s 25) (.seq (.reg [nk 4 (.mv (.c (.k 1)))]) .ret) .skip)) (.seq (.reg [nl (.fa 1 (.s 3)),nl (.ld none (.v 0)),nl (.ig (.v 0)),nk 5 (.mv (.v 0))]) (.seq (.reg [nl (.mv (.s 5)),nl (.Lr 3 [(.i .i64 0)] (.v 0) (.v 0)),nk 6 (.al 22 [(.k 1)]),⟨none,(.st 1 (.s 6) (.v 0)),.n⟩]) (.seq (.reg [nl (.mv (.s 5)),nl (.Lr 3 [(.i .i64 0)] (.v 0) (.v 0)),nk 7 (.al 22 [(.k 1)]),⟨none,(.st 1 (.s 7) (.v 0)),.n⟩]) (.seq (.reg [nl (.mv (.s 5)),nl (.Lr 22 [(.k 1)] (.v 0) (.v 0)),nk 8 (.mv (.v 0))]) (.seq (.reg [nk 9 (.al 322 [(.k 1),(.i .i64 0)])]) (.seq (.seq (.reg [nl (.fa 1 (.s 3)),nk 36 (.ld none (.v 0)),nk 37 (.ig (.s 36)),nk 38 (.mv (.c (.i .i64 0)))]) (.blk 0 (zf 3 38 37 39 0 1 IQ))) (.seq (.reg [nl (.Hw 158 [(.s 6),(.s 9)]),nk 14 (.al 273 [(.k 3)]),⟨none,(.st 1 (.s 14) (.v 0)),.n⟩]) (.seq (.seq (.reg [nl (.fa 1 (.s 3)),nk 92 (.ld none (.v 0)),nk 93 (.ig (.s 92)),nk 94 (.mv (.c (.i .i64 0)))]) (.blk 4 (zf 3 94 93 95 4 5 IK))) (.seq (.reg [nl (.Hw 159 [(.s 7),(.s 6),(.s 3),(.s 14)]),nk 17 (.mv (.v 0))]) (.seq (.seq (.reg [nl (.call (.c (.f 160 [])) [(.s 9)]),nl (.mv (.v 0)),nl (.ext (.v 0) 0),nl (.ext (.v 1) 1),nk 18 (.mv (.v 1)),nk 19 (.mv (.v 0))]) (.blk 6 (.loop Ef))) (.seq (.reg [nl (.ld none (.s 6)),nk 4 (.mv (.v 0))]) .ret)))))))))))))
theorem c105:yc Tryz.prog sl0 92=some ([true,true],acK,[(.t 4)]):=by kernel_rfl
def Qh:MC:=(.seq (.seq (.reg [nl (.mv (.s 12)),nl (.ld none (.s 14)),nl (.je 1 (.v 1) (.v 0)),nl (.ld none (.v 0)),nl (.bin .neq 3 (.v 0) (.c (.i .i64 (.negSucc 1)))),nl (.mv (.v 0)),ng 0 true (.ld none (.s 13)),ng 1 true (.ig (.v 0)),ng 2 true (.bin .leq 3 (.v 0) (.c (.i .i64 4000))),nk 80 (.pick (.v 3) (.v 0) (.c (.b false)))]) (.cond (.s 80) .skip (.exit 4))) (.blk 5 (.reg [nl (.mv (.s 15)),nl (.mv (.s 12)),nl (.ld none (.s 14)),nl (.je 1 (.v 1) (.v 0)),nl (.ld none (.v 0)),nl (.call (.v 4) [(.v 0)])])))
def VQ:MC:=(.seq (.reg [nl (.je 1 (.s 55) (.s 57)),nl (.ld none (.v 0)),nk 17 (.mv (.v 0))]) (.seq (.seq (.zW 0 [mq 0 [] (.fa 1 (.s 8)),mq 1 [0] (.ld none (.v 0)),mq 1 [] (.ld none (.s 14)),mq 0 [1,2] (.je 5 (.v 0) (.v 1)),mq 0 [3] (.fa 0 (.v 0)),mq 0 [4] (.fa 0 (.v 0)),mq 1 [5] (.ld none (.v 0)),mq 0 [] (.fa 5 (.s 3)),mq 1 [7] (.ld none (.v 0)),mq 0 [6,8] (.bin .eql 3 (.v 0) (.v 1))] [] [(9,70)]) (.cond (.s 70) (.exit 2) .skip)) (.seq (.blk 4 (.loop Qh)) (.seq (.seq (.zW 0 [mq 1 [] (.ld (some 7) (.s 3)),mq 0 [] (.fa 1 (.s 8)),mq 1 [1] (.ld none (.v 0)),mq 1 [] (.ld none (.s 14)),mq 0 [2,3] (.je 5 (.v 0) (.v 1)),mq 0 [4] (.fa 0 (.v 0)),mq 1 [5] (.ld (some 4) (.v 0)),mq 0 [] (.mv (.s 17)),mq 3 [0,6,7] (.call (.c (.f 50 [])) [(.v 0),(.v 1),(.v 2)]),mq 1 [] (.ld none (.s 4)),mq 0 [8,9] (.bin .neq 3 (.v 0) (.v 1))] [(9,0)] [(10,97)]) (.cond (.s 97) (.reg [nl (.mv (.s 15)),nl (.mv (.s 17)),nl (.call (.v 1) [(.v 0)])]) .skip)) (.seq (.reg [nl (.ld none (.s 13)),nl (.ig (.v 0)),nk 103 (.bin .gtr 3 (.v 0) (.c (.i .i64 4000)))]) (.cond (.s 103) (.seq (.reg [nk 6 (.mv (.c (.k 1))),nk 7 (.mv (.c (.i .i64 3)))]) .ret) .skip))))))
def Qi:MC:=(.seq (.reg [nl (.je 1 (.s 26) (.s 28)),nl (.ld none (.v 0)),nk 11 (.mv (.v 0))]) (.seq (.reg [nl (.mv (.s 11)),nl (.bin .lss 3 (.v 0) (.c (.i .i64 (.negSucc 0)))),nl (.mv (.v 0)),ng 0 false (.mv (.s 11)),ng 1 false (.fa 3 (.s 3)),ng 2 false (.ld none (.v 0)),ng 3 false (.ig (.v 0)),ng 4 false (.bin .geq 3 (.v 3) (.v 0)),nk 40 (.pick (.v 5) (.c (.b true)) (.v 0))]) (.cond (.s 40) (.seq (.reg [nk 6 (.mv (.c (.k 1))),nk 7 (.mv (.c (.i .i64 1)))]) .ret) .skip)))
def m20:MC:=(.seq (.reg [nk 3 (.box 27 7 (.s 0)),nk 4 (.box 3 1 (.s 1)),nk 6 (.mv (.c (.k 1))),nk 7 (.mv (.c (.i .i64 0)))]) (.seq (.reg [nl (.ld (some 7) (.s 3)),nl (.ld none (.s 4)),nl (.call (.c (.f 48 [])) [(.v 1),(.v 0)]),nl (.mv (.v 0)),nl (.ext (.v 0) 0),nl (.ext (.v 1) 1),nk 8 (.al 147 [(.i .i64 0),(.k 1),(.k 1)]),⟨none,(.st 3 (.s 8) (.v 1)),.n⟩,nk 9 (.mv (.v 0))]) (.seq (.seq (.reg [nl (.mv (.s 9)),nk 25 (.bin .eql 41 (.v 0) (.c (.i .i64 1)))]) (.cond (.s 25) (.seq (.reg [nk 6 (.mv (.c (.k 1))),nk 7 (.mv (.c (.i .i64 1)))]) .ret) .skip)) (.seq (.seq (.reg [nk 26 (.mv (.s 2)),nk 27 (.ig (.s 26)),nk 28 (.mv (.c (.i .i64 0)))]) (.blk 0 (zf 3 28 27 29 0 1 Qi))) (.seq (.seq (.reg [nl (.mv (.s 9)),nl (.bin .neq 41 (.v 0) (.c (.i .i64 0))),nl (.mv (.v 0)),ng 0 false (.mv (.s 2)),ng 1 false (.ig (.v 0)),ng 2 false (.bin .gtr 3 (.v 0) (.c (.i .i64 4000))),nk 48 (.pick (.v 3) (.c (.b true)) (.v 0))]) (.cond (.s 48) (.seq (.reg [nk 6 (.mv (.c (.k 1))),nk 7 (.mv (.c (.i .i64 3)))]) .ret) .skip)) (.seq (.zW 0 [mq 1 [] (.ld (some 3) (.s 8)),mq 1 [] (.ld (some 7) (.s 3)),mq 1 [] (.ld (some 3) (.s 8)),mq 3 [1,2] (.call (.c (.f 45 [])) [(.v 0),(.v 1)]),mq 3 [0,3] (.call (.c (.f 46 [])) [(.v 0),(.v 1)]),mq 0 [4] (.mv (.v 0))] [(0,4)] [(5,12)]) (.seq (.reg [nk 13 (.al 22 [(.k 1)])]) (.seq (.reg [nk 14 (.al 3 [(.i .i64 0)]),⟨none,(.st 1 (.s 14) (.c (.i .i64 0))),.n⟩]) (.seq (.reg [nl (.Hw 49 [(.s 13),(.s 14),(.s 3),(.s 8),(.s 4)]),nk 15 (.mv (.v 0))]) (.seq (.seq (.reg [nk 55 (.mv (.s 2)),nk 56 (.ig (.s 55)),nk 57 (.mv (.c (.i .i64 0)))]) (.blk 2 (zf 3 57 56 58 2 3 VQ))) (.seq (.reg [nl (.ld none (.s 13)),nk 6 (.mv (.v 0)),nk 7 (.mv (.c (.i .i64 0)))]) .ret)))))))))))
theorem c20:yc Tryz.prog sl0 23=some ([true,true,true],m20,[(.t 6),(.t 7)]):=by kernel_rfl
def acL:MC:=vF 156
def c182:=vT 156 acL
def acM:MC:=vF 155
def ajr:=vT 155 acM
def acN:MC:=vF 157
def c183:=vT 157 acN
def YJ:MC:=vF 160
def ajs:=vT 160 YJ
def acO:MC:=vF 158
def ajt:=vT 158 acO
def acP:MC:=vF 159
def aju:=vT 159 acP
def m52:MC:=vF 45
def c52:=vT 45 m52
def m51:MC:=vF 46
def c51:=vT 46 m51
def m55:MC:=vF 51
def c55:=vT 51 m55
def m54:MC:=vF 50
def c54:=vT 50 m54
def m53:MC:=vF 49
def c53:=vT 49 m53
def acQ:MC:=vF 116
def c119:=vT 116 acQ
def YK:MC:=vF 184
def c194:=vT 184 YK
end
end Go.Proofs.YtfnnplicbjeifaaGreatDoor
