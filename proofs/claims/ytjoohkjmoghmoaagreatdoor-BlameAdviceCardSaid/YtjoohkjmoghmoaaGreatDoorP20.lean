/- part -/
import Derived.Test.YtjoohkjmoghmoaaGreatDoorP19
set_option linter.all false
namespace Go.Proofs.YtjoohkjmoghmoaaGreatDoor
section
noncomputable section
section
variable {h h':AH} {n n':Nat} {Q:AV->AH->Nat->Prop}
theorem H9(K b c:Nat)(fv:AV)(h:AH)(n:Nat):EF (K+3) 63 [.sl b 0 0 0 (some c),fv] h n= .ok (.bV []) h n:=by kernel_rfl
theorem Mh(K:Nat){b c:Nat}{fv:AV}(hQ:Q (.bV []) h n):CW (EF (K+3)) 63 [.sl b 0 0 0 (some c),fv] h n Q:=⟨_,_,_,H9 K b c fv h n,hQ⟩
theorem yX:Iu (some (AV.k 1))=some (.i .i64 ((0:Nat):Int)):=rfl
theorem QC{b:Nat}{c:Option Nat}:Iu (some (.sl b 0 0 0 c))=some (.i .i64 ((0:Nat):Int)):=rfl
theorem Mi(K:Nat)(hQ:∀b h' n',Up h n h' n'->b<n'->Q (.sl b 0 0 0 (some 0)) h' n'):CW (EF (K+4)) 35 [.k 1] h n Q:=by
 refine aJ c35 rfl ?_;repeat' (first|(simp (disch:=omega) only[go_sem,m35,yX])|(with_reducible first|apply aj|apply ah|apply ay|apply aB|apply aA|apply au)<;>intro hd<;>(rw[hd];try simp only[decide_eq_true_eq,decide_eq_false_iff_not,Bool.not_eq_true',Bool.not_eq_false']at hd)|(with_reducible refine aD ?_))
 refine dD 0 (λk hk nk G=>Up h n hk nk/\n<nk/\G=[(0,.k 1),(3,.sl n 0 0 0 (some 0))]) (by omega) (by omega) (by omega) (by omega) (λk h8 n8 G ⟨_,_,e⟩=>by subst e;exact⟨rfl,rfl⟩) ⟨rfl,rfl,_,⟨by exact aL,by omega,rfl⟩,by(repeat' (first|exact aZ|refine aW rfl ?_))⟩ (λk _ _ _ hk=>absurd hk (by omega)) ?_;rintro h1 n1 G ⟨u1,l1,rfl⟩;have e1:=u1.le;simp (disch:=omega) only[go_sem];rw[bA];refine Mh K ?_;repeat' (first|(simp (disch:=omega) only[go_sem,yX,QC])|(with_reducible first|apply aj|apply ah|apply ay|apply aB|apply aA|apply au)<;>intro hd<;>(rw[hd];try simp only[decide_eq_true_eq,decide_eq_false_iff_not,Bool.not_eq_true',Bool.not_eq_false']at hd)|(with_reducible refine aD ?_))
 refine dD 0 (λk hk nk G=>Up h n hk nk/\n1<nk/\G=[(6,.sl n1 0 0 0 (some 0))]) (by omega) (by omega) (by omega) (by omega) (λk h8 n8 G ⟨_,_,e⟩=>by subst e;exact⟨rfl,rfl⟩) ⟨rfl,rfl,_,⟨by exact aL,by omega,rfl⟩,by(repeat' (first|exact aZ|refine aW rfl ?_))⟩ (λk _ _ _ hk=>absurd hk (by omega)) ?_;rintro h2 n2 G ⟨u2,l2,rfl⟩;simp (disch:=omega) only[go_sem];exact hQ n1 _ _ u2 l2
end
end
end
section
noncomputable section
section
variable {h h':AH} {n n':Nat} {Q:AV->AH->Nat->Prop} {C:aH} {v:CS} {l:List Int}
theorem H_(K:Nat){tv:AV}(hQ:∀cb lb tb h' n',Up h n h' n'->h'.get cb=some (.row 27 (v.av C))->h'.get lb=some (.row 28 [.k 1])->h'.get tb=some (.row 22 [tv])->n<=cb->n<=lb->n<=tb->cb<n'->lb<n'->tb<n'->Q (.f 65 [.p cb 0,.p lb 0,.p tb 0]) h' n')(hc:pQ tv=some [tv]):CW (EF (K+1)) 36 [.agg (v.av C),.k 1,tv] h n Q:=by
 refine aJ c36 rfl ?_;repeat' (first|(simp (disch:=omega) only[go_sem,m36,CS.av,hc])|(with_reducible first|apply aj|apply ah|apply ay|apply aB|apply aA|apply au)<;>intro hd<;>(rw[hd];try simp only[decide_eq_true_eq,decide_eq_false_iff_not,Bool.not_eq_true',Bool.not_eq_false']at hd)|(with_reducible refine aD ?_))
 exact hQ n (n+1) (n+2) _ _ aL (by simp (disch:=omega) only[go_sem]) (by simp (disch:=omega) only[go_sem]) (by simp (disch:=omega) only[go_sem]) (by omega) (by omega) (by omega) (by omega) (by omega) (by omega)
structure TJ(h:AH)(n cb lb tb:Nat)(v:CS)(C:aH)(tv:AV)(l:List Int):Prop where
 c:h.get cb=some (.row 27 (v.av C))
 l0:h.get lb=some (.row 28 [.k 1])
 t:h.get tb=some (.row 22 [tv])
 cn:cb<n
 ln:lb<n
 tn:tb<n
 con:bG h n v C
 QB:SL h n 1 tv iJ l
def xE(C:aH)(l:List Int)(S:List aO):Prop:=S.length<=l.length+1/\(S≠[]->fF C C.first (l.take (S.length - 1)) S)
theorem xE.snoc{S:List aO}{k:Nat}{t:Int}{s:aO}(h:xE C l S)(hk:S.length=k+1)(ht:l[k]?=some t)(hs:S[k]?=some s)(h1: -1<=t)(h2:t<C.acts.length)(h3:s.day<C.days):xE C l (S++[C.bL s t]):=by
 have hkl:=(List.getElem?_eq_some_iff.1 ht).1;refine⟨by rw[List.length_append,List.length_singleton];omega,λ_=>?_⟩;have r:=h.2 (by rintro rfl;cases hk);rw[hk,Nat.add_sub_cancel]at r;have hlen:(l.take k).length=k:=by rw[List.length_take];omega
 have:=r.snoc (t:=t) (a:=s) (by rw[hlen];exact hs) h1 h2 h3;rw[List.length_append,List.length_singleton,hk,show k+1+1 - 1=k+1 by omega];have e:l.take (k+1)=l.take k++[t]:=by
  rw[List.take_succ,ht];rfl
 rw[e];exact this
theorem Kp.uL{X X' P:Nat->Prop}{A:HP}(k:Kp (λx=>X x\/P x) h n A)(le:n<=n')(s:∀x,x<n->¬X x->h'.get x=h.get x)(hx:∀x,X' x->X x\/n<=x):Kp (λx=>X' x\/P x) h' n' A:=λh2 n2 l2 s2=>k h2 n2 (Nat.le_trans le l2) λx hxn hX=>by
 rw[s2 x (by omega) (λe=>?_),s x hxn λe=>hX (.inl e)];rcases e with e|e
 .rcases hx x e with e|e
  .exact hX (.inl e)
  .omega
 .exact hX (.inr e)
theorem Kp.tr{Z Y:Nat->Prop}{A:HP}(k:Kp Z h n A)(le:n<=n')(s:∀x,x<n->¬Z x->h'.get x=h.get x)(y:∀x,x<n->Y x->Z x):Kp Y h' n' A:=
 λh2 n2 l2 s2=>k h2 n2 (Nat.le_trans le l2) λx hx hz=>(s2 x (by omega) λe=>hz (y x hx e)).trans (s x hx hz)
theorem fF.same{S S':List aO}{s:aO}{k:Nat}(a:fF C s l S')(b:fF C s (l.take k) S)(hk:k<=l.length):∀j,j<=k->S'[j]?=S[j]?:=by
 intro j;induction j with
 |zero=>intro _;rw[a.hd,b.hd]
 |succ j ih=>
  intro hj;have e:=ih (by omega);obtain⟨t,ht⟩:∃t,l[j]?=some t:=⟨l[j]'(by omega),List.getElem?_eq_some_iff.2 ⟨by omega,rfl⟩⟩;have ht':(l.take k)[j]?=some t:=by rw[List.getElem?_take,if_pos (by omega),ht]
  have hl:=b.len;rw[List.length_take]at hl;obtain⟨x,hx⟩:∃x,S[j]?=some x:=⟨S[j]'(by omega),List.getElem?_eq_some_iff.2 ⟨by omega,rfl⟩⟩;rw[(a.step j t x ht (e.trans hx)).2.2.2,(b.step j t x ht' hx).2.2.2]
theorem xE.at_{S S':List aO}{k:Nat}{t:Int}{s:aO}(h:xE C l S)(hk:S.length=k+1)(ht:l[k]?=some t)(hs:S[k]?=some s)(a:fF C C.first l S'): -1<=t/\t<C.acts.length/\s.day<C.days:=by
 have hkl:=(List.getElem?_eq_some_iff.1 ht).1;have r:=h.2 (by rintro rfl;cases hk);rw[hk,Nat.add_sub_cancel]at r;have e:=a.same r (by omega) k (Nat.le_refl _);obtain⟨h1,h2,h3,_⟩:=a.step k t s ht (e.trans hs);exact⟨h1,h2,h3⟩
structure SgJ(J:(Nat->Prop)->(Nat->Prop)->AH->Nat->List aO->Prop)(E:AH->Nat->Prop)(K cb lb tb yr:Nat)(v:CS)(C:aH)(tv:AV)(l:List Int)(h0:AH)(n0:Nat):Prop where
 up:∀P X h n h' n' S,J P X h n S->Up h n h' n'->J P X h' n' S
 pv:∀P X h n S b o,J P X h n S->P b->J P X (h.set b o) n S
 X:∀P X h n S,J P X h n S->∀x,X x->x<n/\¬P x
 i:∀P X h n S,J P X h n S->TJ h n cb lb tb v C tv l
 j0:∃X:Nat->Prop,(∀x,X x->x<n0)/\∀P h' n',Up h0 n0 h' n'->(∀x,P x->n0<=x/\x<n')->J P X h' n' []
 step:∀P X h1 n1 S s tq,J P X h1 n1 S->xE C l (S++[s])->aU C s->Kp (λx=>X x\/(P x\/x<n0)) h1 n1 (λh n=>dO h n tq s)->RW (Y0 yr [.agg (v.av C++tq.av s),.i .i64 0] (EF (K+9)) h1 n1) λw h2 n2=>∃X',w= .b true/\J P X' h2 n2 (S++[s])/\n1<=n2/\(∀x,x<n1->¬X x->h2.get x=h1.get x)/\∀x,X' x->X x\/n1<=x
 err:∀P X h1 n1 S e c0 c1 c2 c3,J P X h1 n1 S->e≠0->(¬∃S',fF C C.first l S')->RW (Y0 yr [.agg (v.av C++[c0,c1,c2,c3]),.i .i64 e] (EF (K+9)) h1 n1) λw h2 n2=>w= .b false/\E h2 n2
theorem Ez(K:Nat){yr cb lb tb:Nat}{tv:AV}{J:(Nat->Prop)->(Nat->Prop)->AH->Nat->List aO->Prop}{E:AH->Nat->Prop}(hv:C.valid=true)(ho:C.off.length<=1000000)(hl:l.length<=100000)(c:SgJ J E K cb lb tb yr v C tv l h n)
 (hQ:∀P X h' n' S,fF C C.first l S->J P X h' n' S->Q (.bV []) h' n')(hE:∀h' n',E h' n'->Q (.bV []) h' n'):CW (EF (K+10)) 65 [.y yr,.p cb 0,.p lb 0,.p tb 0] h n Q:=by
 obtain⟨X0,x0,j0⟩:=c.j0;have d0:=c.i _ _ _ _ _ (j0 (λ_=>False) h n (Up.refl _ _) (λ_ h=>h.elim));have q1:=d0.c;have q2:=d0.l0;have q3:=d0.t;have cn:=d0.cn;have ln:=d0.ln;have tn:=d0.tn;refine aJ c65 rfl ?_;repeat' (first|(simp (disch:=omega) only[go_sem,ub.old,m65,CS.av,q1,q2,q3,yX])|(simp (disch:=omega) only[go_sem,m65,CS.av,q1,q2,q3,yX])|(with_reducible first|apply aj|apply ah|apply ay|apply aB|apply aA|apply au)<;>intro hd<;>(rw[hd];try simp only[decide_eq_true_eq,decide_eq_false_iff_not,Bool.not_eq_true',Bool.not_eq_false']at hd)|(with_reducible refine aD ?_))
 generalize hh:Tr.set (Tr.set h n _) n _=h1;have u1:Up h n h1 (n+1):=by rw[<-hh];exact aL
 have g1:h1.get n=some (.row 27 (v.av C)):=by rw[<-hh];exact aM
 clear hh;refine dD 0 (λk hk nk G=>hk=h1/\nk=n+1/\G=[(0,.y yr),(1,.p cb 0),(2,.p lb 0),(3,.p tb 0),(5,.p n 0)]) (by omega) (by omega) (by omega) (by omega) (λk h8 n8 G ⟨_,_,e⟩=>by subst e;exact⟨rfl,rfl⟩) ⟨rfl,rfl,_,⟨rfl,rfl,rfl⟩,by(repeat' (first|exact aZ|refine aW rfl ?_))⟩ (λk _ _ _ hk=>absurd hk (by omega)) ?_;rintro _ _ G ⟨rfl,rfl,rfl⟩;simp (disch:=omega) only[go_sem,g1,CS.av];rw[bA];refine xu _ (d0.con.up u1) ho (λe=>by rw[hv]at e;cases e) λ_ MV h2 n2 u2 k2=>?_;have e2:=u2.le;have g2:=(u2.old n (by omega)).trans g1;simp (disch:=omega) only[go_sem,TS.av,g2,CS.av];generalize hh:Tr.set (Tr.set h2 n2 _) n2 _=h3;have u3:Up h2 n2 h3 (n2+1):=by rw[<-hh];exact aL
 have k3:Kp (λx=>x<n+1\/x=n2) h3 (n2+1) (λh n=>dO h n MV C.first):=by
  rw[<-hh];exact((k2.le (Y:=λx=>x<n+1\/x=n2) λx hx e=>by omega).set (.inl (.inr rfl)) (Nat.le_refl _)).set (.inl (.inr rfl)) (by omega)
 have g3:h3.get n2=some (.row 43 (MV.av C.first)):=by rw[<-hh];exact aM
 clear hh;have g23:=(u3.old n (by omega)).trans g2;have J3:=j0 (λx=>x=n\/x=n2) h3 (n2+1) ((u1.trans u2).trans u3) (λx hx=>by rcases hx with rfl|rfl<;>exact⟨by omega,by omega⟩);have nX0:∀x,n<=x->¬X0 x:=λx hx e=>by have:=x0 _ e;omega
 have k3':Kp (λx=>X0 x\/((x=n\/x=n2)\/x<n)) h3 (n2+1) (λh n=>dO h n MV C.first):=k3.le λx _ e=>by
  rcases e with e|e
  .have:=x0 x e;omega
  .omega
 rw[tO];refine RW.mono (c.step _ _ _ _ _ C.first MV J3 ⟨by simp,λ_=>fF.nil C C.first⟩ (nU hv) k3') ?_;rintro _ h4 n4 ⟨X4,rfl,J4,l4,s4,x4⟩;have g4:=(s4 n (by omega) (nX0 _ (by omega))).trans g23;have g44:=(s4 n2 (by omega) (nX0 _ (by omega))).trans g3;have d4:=c.i _ _ _ _ _ J4;have q34:=d4.t;simp (disch:=omega) only[go_sem,q34,d4.QB.len];refine dD l.length (λk hk nk G=>∃X S s tq,J (λx=>x=n\/x=n2) X hk nk S/\S.length=k+1/\S[k]?=some s/\xE C l S/\aU C s/\Kp (λx=>X x\/((x=n\/x=n2)\/x<n)) hk nk (λh n=>dO h n tq s)/\hk.get n=some (.row 27 (v.av C))/\hk.get n2=some (.row 43 (tq.av s))/\n2<nk/\G=[(0,.y yr),(2,.p lb 0),(5,.p n 0),(10,.p n2 0),(56,tv)]) (by omega) (by omega) (by omega) (by omega) (λk h8 n8 G ⟨_,_,_,_,_,_,_,_,_,_,_,_,_,e⟩=>by subst e;exact⟨rfl,rfl⟩) ⟨rfl,rfl,_,⟨X4,_,C.first,MV,J4,rfl,rfl,⟨by simp,λ_=>fF.nil C C.first⟩,nU hv,k3'.uL l4 s4 x4,g4,g44,by omega,rfl⟩,by(repeat' (first|exact aZ|refine aW rfl ?_))⟩ ?_ ?_
 .rintro k0 hk nk G hkl ⟨X,S,s,tq,Jk,hS,hs,rt,so,ks,gn,UA,ln2,rfl⟩
  have dk:=c.i _ _ _ _ _ Jk;have Xk:=c.X _ _ _ _ _ Jk;obtain⟨b1,o1,t,i1,ht,hb1,rd⟩:=dk.QB.fE (k:=(k0:Nat)) (by omega) (by omega) (by omega);rw[show((k0:Nat):Int).toNat=k0 by omega]at ht;repeat' (first|(simp (disch:=omega) only[go_sem,ub.old,LY,aR i1,rd.el,rd.hd,gn,UA,CS.av,TS.av])|(simp (disch:=omega) only[go_sem,LY,aR i1,rd.el,rd.hd,gn,UA,CS.av,TS.av])|(with_reducible first|apply aj|apply ah|apply ay|apply aB|apply aA|apply au)<;>intro hd<;>(rw[hd];try simp only[decide_eq_true_eq,decide_eq_false_iff_not,Bool.not_eq_true',Bool.not_eq_false']at hd)|(with_reducible refine aD ?_))
  rw[bA];have hst:=(eU C s).2 so;refine vJ (K+1) (s:=s) (tv:=tq) dk.con ho ks.use t (λe h5 n5 u5=>?_) (λ_ e1 e2 e3 h5 n5 u5=>?_) (λ_ e1 e2 e3 QD h5 n5 u5 k5=>?_)
  .have e5:=u5.le
   have Yk:=(u5.old n (by omega)).trans gn;have Mj:=(u5.old n2 (by omega)).trans UA;have J6:=c.pv _ _ _ _ _ n2 (.row 43 [.i .i64 0,.k 1,.k 1,.k 1]) (c.up _ _ _ _ _ _ _ Jk u5) (.inr rfl);simp (disch:=omega) only[go_sem,Qf,Mj,TS.av,Yk,CS.av,Int.reduceEq];rw[tO];refine RW.mono (c.err _ _ _ _ _ 1 (.i .i64 0) (.k 1) (.k 1) (.k 1) J6 (by omega) λ⟨S',a⟩=>by
    obtain⟨w1,w2,w3⟩:=rt.at_ hS ht hs a;rcases e with e|e|e
    .rw[hst]at e;cases e
    .omega
    .omega) ?_
   rintro _ h6 n6 ⟨rfl,e6⟩;simp (disch:=omega) only[go_sem];exact hE _ _ e6
  .have e5:=u5.le
   have Yk:=(u5.old n (by omega)).trans gn;have Mj:=(u5.old n2 (by omega)).trans UA;have J6:=c.pv _ _ _ _ _ n2 (.row 43 [.i .i64 0,.k 1,.k 1,.k 1]) (c.up _ _ _ _ _ _ _ Jk u5) (.inr rfl);simp (disch:=omega) only[go_sem,Qf,Mj,TS.av,Yk,CS.av,Int.reduceEq];rw[tO];refine RW.mono (c.err _ _ _ _ _ 13 (.i .i64 0) (.k 1) (.k 1) (.k 1) J6 (by omega) λ⟨S',a⟩=>by
    obtain⟨w1,w2,w3⟩:=rt.at_ hS ht hs a;omega) ?_
   rintro _ h6 n6 ⟨rfl,e6⟩;simp (disch:=omega) only[go_sem];exact hE _ _ e6
  .have e5:=u5.le
   have Yk:=(u5.old n (by omega)).trans gn;have Mj:=(u5.old n2 (by omega)).trans UA;have l05:=(u5.old lb dk.ln).trans dk.l0;have J6:=c.pv _ _ _ _ _ n2 (.row 43 (QD.av (C.bL s t))) (c.up _ _ _ _ _ _ _ Jk u5) (.inr rfl);have Z7:=jg so e1 e2 e3;have k6:Kp (λx=>X x\/((x=n\/x=n2)\/x<n)) (h5.set n2 (.row 43 (QD.av (C.bL s t)))) n5 (λh n=>dO h n QD (C.bL s t)):=(k5.le (Y:=λx=>X x\/((x=n\/x=n2)\/x<n)) λx _ e=>by
    rcases e with e|e
    .exact(Xk x e).1
    .omega).set (.inl (.inr (.inl (.inr rfl)))) (Nat.le_refl _)
   have Z8:=rt.snoc hS ht hs e1 e2 e3;have hS6:(S++[C.bL s t])[k0+1]?=some (C.bL s t):=by rw[<-hS,List.getElem?_append_right (Nat.le_refl _)];simp
   simp (disch:=omega) only[go_sem,Mj,TS.av];generalize hh:h5.set n2 _=h6 at*;have g6:h6.get n=some (.row 27 (v.av C)):=by rw[<-hh,aI (by omega)];exact Yk
   have Z9:h6.get n2=some (.row 43 (QD.av (C.bL s t))):=by rw[<-hh];exact aM
   have l06:h6.get lb=some (.row 28 [.k 1]):=by rw[<-hh,aI (by omega)];exact l05
   clear hh;refine ah (λhd=>?_) (λhd=>?_)<;>rw[hd]
   .simp (disch:=omega) only[go_sem,l06,yX]
    refine dD 0 (λk hk nk G=>hk=h6/\nk=n5/\G=[(0,.y yr),(2,.p lb 0),(5,.p n 0),(10,.p n2 0),(11,.i .i64 0),(56,tv),(57,.i .i64 (l.length:Nat)),(58,.i .i64 (k0:Nat))]) (by omega) (by omega) (by omega) (by omega) (λk h8 n8 G ⟨_,_,e⟩=>by subst e;exact⟨rfl,rfl⟩) ⟨rfl,rfl,_,⟨rfl,rfl,rfl⟩,by(repeat' (first|exact aZ|refine aW rfl ?_))⟩ (λk _ _ _ hk=>absurd hk (by omega)) ?_;rintro _ _ G ⟨rfl,rfl,rfl⟩;simp (disch:=omega) only[go_sem,g6,CS.av,Z9,TS.av];rw[tO];refine RW.mono (c.step _ _ _ _ _ (C.bL s t) QD J6 Z8 Z7 k6) ?_;rintro _ h7 n7 ⟨X7,rfl,J7,l7,s7,x7⟩;have nX:∀x,(x=n\/x=n2)->¬X x:=λx hx e=>(Xk x e).2 hx;simp (disch:=omega) only[go_sem];have wid:f_ .i64 ((k0:Int)+1)=((k0+1:Nat):Int):=by rw[dN (by omega) (by omega)];rfl
    exact⟨rfl,rfl,_,⟨X7,_,_,QD,J7,by rw[List.length_append,hS];rfl,hS6,Z8,Z7,k6.uL l7 s7 x7,(s7 n (by omega) (nX _ (.inl rfl))).trans g6,(s7 n2 (by omega) (nX _ (.inr rfl))).trans Z9,by omega,rfl⟩,by(repeat' (first|exact aZ|refine aW rfl ?_))⟩
   .simp (disch:=omega) only[go_sem,g6,CS.av,Z9,TS.av]
    rw[tO];refine RW.mono (c.step _ _ _ _ _ (C.bL s t) QD J6 Z8 Z7 k6) ?_;rintro _ h7 n7 ⟨X7,rfl,J7,l7,s7,x7⟩;have nX:∀x,(x=n\/x=n2)->¬X x:=λx hx e=>(Xk x e).2 hx;simp (disch:=omega) only[go_sem];have wid:f_ .i64 ((k0:Int)+1)=((k0+1:Nat):Int):=by rw[dN (by omega) (by omega)];rfl
    exact⟨rfl,rfl,_,⟨X7,_,_,QD,J7,by rw[List.length_append,hS];rfl,hS6,Z8,Z7,k6.uL l7 s7 x7,(s7 n (by omega) (nX _ (.inl rfl))).trans g6,(s7 n2 (by omega) (nX _ (.inr rfl))).trans Z9,by omega,rfl⟩,by(repeat' (first|exact aZ|refine aW rfl ?_))⟩
 .rintro hk nk G ⟨X,S,s,tq,Jk,hS,hs,rt,so,ks,gn,UA,ln2,rfl⟩
  simp (disch:=omega) only[go_sem];have r:=rt.2 (by rintro rfl;cases hS);rw[hS,Nat.add_sub_cancel,List.take_length]at r;exact hQ _ _ _ _ _ r Jk
end
end
end
section
noncomputable section
section
variable {h h':AH} {n n':Nat} {Q:AV->AH->Nat->Prop} {C:aH} {v:CS} {l:List Int}
@[reducible] def csC (C:aH) (w:CS):List AV:=w.av C
def uP(st:LoopState)(pd:Option Code)(t:Tr AV):AO:=.lp st pd 11 t [61,62] (je 11 0) (jf 11 0)
structure Ia(C:aH)(h0:AH)(n0 cb sb L:Nat)(A:HP)(P X:Nat->Prop)(h:AH)(m:Nat)(cv sv:AV)(vs:List CS)(eX:List (TS×aO)):Prop where
 c:h.get cb=some (.row 34 [cv])
 s:h.get sb=some (.row 35 [sv])
 gc:Gr h m 27 7 cv (csC C) vs
 gs:Gr h m 43 4 sv Uw eX
 ln:vs.length=eX.length
 bc:∀x,blk cv x->X x
 bs:∀x,blk sv x->X x
 kc:Kp (λx=>X x\/(P x\/x<n0)) h m (λh n=>∀w∈vs,bG h n w C)
 ks:Kp (λx=>X x\/(P x\/x<n0)) h m (λh n=>∀x∈eX,dO h n x.1 x.2)
 Xc:X cb
 Xs:X sb
 XL:X L
 Xr:∀x,n0<x->x<n0+4->X x
 Ln:n0+4<=L
 xs:∀x,X x->x<m/\¬P x/\n0<x
 r1:h.get (n0+1)=some (.row 34 [.k 1])
 r2:h.get (n0+1+1)=some (.row 35 [.k 1])
 r3:h.get (n0+1+1+1)=some (.row 31 [.i .i64 0])
 old:∀x,x<n0->h.get x=h0.get x
 le:n0+4<=m
 ps:∀x,P x->n0+4<=x/\x<m
 a:Kp (λx=>X x\/P x) h m A
def QE(C:aH)(h0:AH)(n0 cb sb L:Nat)(t:Tr AV)(A:HP)(P X:Nat->Prop)(h:AH)(m:Nat)(S:List aO):Prop:=
 ∃cv sv vs eX,Ia C h0 n0 cb sb L A P X h m cv sv vs eX/\eX.map (·.2)=S/\h.get L=some (uP .ready none t)
def RuE(C:aH)(l:List Int)(h0:AH)(n0 L:Nat)(t:Tr AV)(h:AH)(m:Nat):Prop:=∃e:Int,e≠0/\h.get L=some (uP .done (some .ret) t)/\h.get (n0+1)=some (.row 34 [.k 1])/\h.get (n0+1+1)=some (.row 35 [.k 1])/\h.get (n0+1+1+1)=some (.row 31 [.i .i64 e])/\(∀x,x<n0->h.get x=h0.get x)/\n0+4<=m/\n0+4<=L/\¬∃S',fF C C.first l S'
theorem uQ(hv:C.valid=true):C.units.length<=20:=by
 unfold aH.valid aH.over at hv;simp only[Bool.and_eq_true,Bool.not_eq_true',Bool.or_eq_false_iff,decide_eq_false_iff_not]at hv;omega
section
variable {h0:AH} {n0 cb sb L:Nat} {t:Tr AV} {A:HP} {P X:Nat->Prop} {S:List aO} {cv sv:AV} {vs:List CS} {eX:List (TS×aO)}
theorem Ia.up(a:Ia C h0 n0 cb sb L A P X h n cv sv vs eX)(u:Up h n h' n'):Ia C h0 n0 cb sb L A P X h' n' cv sv vs eX:=by
 have le:=a.le;have ul:=u.le;exact⟨(u.old _ (a.xs _ a.Xc).1).trans a.c,(u.old _ (a.xs _ a.Xs).1).trans a.s,a.gc.up u,a.gs.up u,a.ln,a.bc,a.bs,a.kc.up u,a.ks.up u,a.Xc,a.Xs,a.XL,a.Xr,a.Ln,λx hx=>⟨by have:=(a.xs x hx).1;omega,(a.xs x hx).2⟩,
  (u.old _ (by omega)).trans a.r1,(u.old _ (by omega)).trans a.r2,(u.old _ (by omega)).trans a.r3,λx hx=>(u.old x (by omega)).trans (a.old x hx),by omega,λx hx=>⟨(a.ps x hx).1,by have:=(a.ps x hx).2;omega⟩,a.a.up u⟩
theorem Ia.set(a:Ia C h0 n0 cb sb L A P X h n cv sv vs eX){b:Nat}(o:AO)(hb:X b\/P b)(h1:b≠cb)(h2:b≠sb)(h3:¬blk cv b)(h4:¬blk sv b)(nb:n0+4<=b):Ia C h0 n0 cb sb L A P X (h.set b o) n cv sv vs eX:=by
 exact⟨(aI (Ne.symm h1)).trans a.c,(aI (Ne.symm h2)).trans a.s,a.gc.on (Nat.le_refl _) λx _ hx=>aI λe=>h3 (by rw[<-e];exact hx),a.gs.on (Nat.le_refl _) λx _ hx=>aI λe=>h4 (by rw[<-e];exact hx),a.ln,a.bc,a.bs,a.kc.set (.inl (hb.imp id .inl)) (Nat.le_refl _),a.ks.set (.inl (hb.imp id .inl)) (Nat.le_refl _),a.Xc,a.Xs,a.XL,a.Xr,a.Ln,a.xs,
  (aI (by omega)).trans a.r1,(aI (by omega)).trans a.r2,(aI (by omega)).trans a.r3,λx hx=>(aI (by omega)).trans (a.old x hx),a.le,a.ps,a.a.set (.inl hb) (Nat.le_refl _)⟩
theorem Ia.pv(a:Ia C h0 n0 cb sb L A P X h n cv sv vs eX){b:Nat}(o:AO)(hb:P b):Ia C h0 n0 cb sb L A P X (h.set b o) n cv sv vs eX:=by
 have ne:∀x,X x->b≠x:=λx hx e=>(a.xs x hx).2.1 (by rw[<-e];exact hb);exact a.set o (.inr hb) (ne _ a.Xc) (ne _ a.Xs) (λe=>ne _ (a.bc _ e) rfl) (λe=>ne _ (a.bs _ e) rfl) (a.ps b hb).1
theorem Ia.Hl(a:Ia C h0 n0 cb sb L A P X h n cv sv vs eX){st:LoopState}{pd:Option Code}{t:Tr AV}(hL:h.get L=some (uP st pd t))(o:AO):Ia C h0 n0 cb sb L A P X (h.set L o) n cv sv vs eX:=by
 refine a.set o (.inl a.XL) (λe=>?_) (λe=>?_) (λe=>?_) (λe=>?_) a.Ln
 .have:=a.c;rw[<-e,hL]at this;cases this
 .have:=a.s;rw[<-e,hL]at this;cases this
 .obtain⟨_,e'⟩:=a.gc.ty e;rw[hL]at e';cases e'
 .obtain⟨_,e'⟩:=a.gs.ty e;rw[hL]at e';cases e'
theorem QE.up(a:QE C h0 n0 cb sb L t A P X h n S)(u:Up h n h' n'):QE C h0 n0 cb sb L t A P X h' n' S:=by
 obtain⟨cv,sv,vs,eX,a,e,l⟩:=a;exact⟨cv,sv,vs,eX,a.up u,e,(u.old _ (a.xs _ a.XL).1).trans l⟩
theorem QE.pv(a:QE C h0 n0 cb sb L t A P X h n S){b:Nat}(o:AO)(hb:P b):QE C h0 n0 cb sb L t A P X (h.set b o) n S:=by
 obtain⟨cv,sv,vs,eX,a,e,l⟩:=a;exact⟨cv,sv,vs,eX,a.pv o hb,e,(aI λe=>(a.xs _ a.XL).2.1 (by rw[e];exact hb)).trans l⟩
end
theorem TK(K:Nat){tv:AV}(hC:bG h n v C)(ho:C.off.length<=1000000)(hl:l.length<=100000)(hT:SL h n 1 tv iJ l)
 (xL:C.valid=false->∀h' n',Up h n h' n'->Q (.bV [.k 1,.k 1,.i .i64 1]) h' n')
 (AU:C.valid=true->4000<l.length->∀h' n',Up h n h' n'->Q (.bV [.k 1,.k 1,.i .i64 3]) h' n')
 (IE:C.valid=true->l.length<=4000->(¬∃S,fF C C.first l S)->∀e h' n',e≠0->Up h n h' n'->Q (.bV [.k 1,.k 1,.i .i64 e]) h' n')
 (XP:C.valid=true->l.length<=4000->∀cv sv vs eX h' n',fF C C.first l (eX.map (·.2))->vs.length=eX.length->Up h n h' n'->Kp (λx=>x<n) h' n' (λh n=>(SL h n 7 cv (csC C) vs/\SL h n 4 sv Uw eX)/\(∀w∈vs,bG h n w C)/\∀x∈eX,dO h n x.1 x.2)->Q (.bV [cv,sv,.i .i64 0]) h' n'):
 CW (EF (K+11)) 11 [.agg (v.av C),.k 1,.i .i64 2000,tv] h n Q:=by
 refine aJ c11 rfl ?_;repeat' (first|(simp (disch:=omega) only[go_sem,m11,CS.av])|(with_reducible first|apply aj|apply ah|apply ay|apply aB|apply aA|apply au)<;>intro hd<;>(rw[hd];try simp only[decide_eq_true_eq,decide_eq_false_iff_not,Bool.not_eq_true',Bool.not_eq_false']at hd)|(with_reducible refine aD ?_))
 generalize hh:Tr.set (Tr.set (Tr.set (Tr.set h n _) (n+1) _) (n+1+1) _) (n+1+1+1) _=h0;have u0:Up h n h0 (n+4):=by rw[<-hh];exact aL
 have g0:h0.get n=some (.row 27 (v.av C)):=by rw[<-hh];simp (disch:=omega) only[go_sem]
 have g1:h0.get (n+1)=some (.row 34 [.k 1]):=by rw[<-hh];simp (disch:=omega) only[go_sem]
 have g2:h0.get (n+1+1)=some (.row 35 [.k 1]):=by rw[<-hh];simp (disch:=omega) only[go_sem]
 have g3:h0.get (n+1+1+1)=some (.row 31 [.i .i64 0]):=by rw[<-hh];simp (disch:=omega) only[go_sem]
 clear hh;rw[bA];show CW _ 17 _ h0 (n+4) _;refine xu _ (hC.up u0) ho (λhv h1 n1 u1=>?_) λhv MV h1 n1 u1 _=>?_
 .have e1:=u1.le
  have g11:=(u1.old _ (show n+1<n+4 by omega)).trans g1;have g21:=(u1.old _ (show n+1+1<n+4 by omega)).trans g2;have Z_:=(u1.old _ (show n+1+1+1<n+4 by omega)).trans g3;simp (disch:=omega) only[go_sem,Qf,g11,g21,Z_,Int.reduceEq];have ux:=u0.trans u1;exact xL hv _ _ aL
 .have e1:=u1.le
  have g01:=(u1.old _ (show n<n+4 by omega)).trans g0;have g11:=(u1.old _ (show n+1<n+4 by omega)).trans g1;have g21:=(u1.old _ (show n+1+1<n+4 by omega)).trans g2;have Z_:=(u1.old _ (show n+1+1+1<n+4 by omega)).trans g3;have ux:=u0.trans u1;repeat' (first|(simp (disch:=omega) only[go_sem,TS.av,yX,hT.len])|(with_reducible first|apply aj|apply ah|apply ay|apply aB|apply aA|apply au)<;>intro hd<;>(rw[hd];try simp only[decide_eq_true_eq,decide_eq_false_iff_not,Bool.not_eq_true',Bool.not_eq_false']at hd)|(with_reducible refine aD ?_))
  .exfalso;omega
  .simp (disch:=omega) only[go_sem,g11,g21,Z_]
   exact AU hv (by omega) _ _ aL
  generalize hh:Tr.set (Tr.set h1 n1 _) n1 _=h2;have u2:Up h1 n1 h2 (n1+1):=by rw[<-hh];exact aL
  clear hh;rw[bA];refine Mi (K+6) λob h3 n3 u3 _=>?_;have e3:=u3.le;simp (disch:=omega) only[go_sem,QC];refine dD 0 (λk hk nk G=>h3=hk/\n3=nk/\G=[(3,tv),(4,.p n 0),(8,.p (n+1) 0),(9,.p (n+1+1) 0),(10,.p (n+1+1+1) 0),(13,.k 1)]) (by omega) (by omega) (by omega) (by omega) (λk h8 n8 G ⟨_,_,e⟩=>by subst e;exact⟨rfl,rfl⟩) ⟨rfl,rfl,_,⟨rfl,rfl,rfl⟩,by(repeat' (first|exact aZ|refine aW rfl ?_))⟩ (λk _ _ _ hk=>absurd hk (by omega)) ?_;rintro _ _ G ⟨rfl,rfl,rfl⟩;have FH:Up h1 n1 h3 n3:=u2.trans u3;have g03:=(FH.old _ (show n<n1 by omega)).trans g01;have g13:=(FH.old _ (show n+1<n1 by omega)).trans g11;have g23:=(FH.old _ (show n+1+1<n1 by omega)).trans g21;have g33:=(FH.old _ (show n+1+1+1<n1 by omega)).trans Z_;have FB:=ux.trans FH;simp (disch:=omega) only[go_sem,g03,CS.av];generalize hh:Tr.set (Tr.set h3 n3 _) (n3+1) _=h4;have u4:Up h3 n3 h4 (n3+2):=by rw[<-hh];exact aL
  have c4:h4.get n3=some (.row 34 [.k 1]):=by rw[<-hh];simp (disch:=omega) only[go_sem]
  have s4:h4.get (n3+1)=some (.row 35 [.k 1]):=by rw[<-hh];simp (disch:=omega) only[go_sem]
  clear hh;rw[bA];show CW _ 36 [.agg (v.av C),.k 1,tv] h4 (n3+2) _;refine H_ (K+9) (v:=v) (C:=C) (λcb lb tb h5 n5 u5 qc ql qt lc ll lt lc' ll' lt'=>?_) hT.cl;have e5:=u5.le;simp (disch:=omega) only[go_sem];refine vH rfl λt hF=>?_;show CW _ 65 [.y n5,.p cb 0,.p lb 0,.p tb 0] _ _ _;refine Ez (K:=K) (v:=v) (C:=C) (l:=l) (cb:=cb) (lb:=lb) (tb:=tb) (tv:=tv) (yr:=n5) (J:=QE C h n n3 (n3+1) n5 t (λh m=>TJ h m cb lb tb v C tv l)) (E:=RuE C l h n n5 t) hv ho hl ?_ ?_ ?_
  .have cL:∀y,y<n5->(Tr.set h5 n5 (AO.lp LoopState.ready none 11 t [61,62] (je 11 0) (jf 11 0))).get y=h5.get y:=λy hy=>aI (by omega)
   have c45:=(u5.old n3 (by omega)).trans c4;have WY:=(u5.old (n3+1) (by omega)).trans s4;have u35:=u4.trans u5;have WK:=FB.trans u35;have u5L:Up h5 n5 (Tr.set h5 n5 (AO.lp LoopState.ready none 11 t [61,62] (je 11 0) (jf 11 0))) (n5+1):=by exact aL
   have ok:=aH.ok hv;refine⟨λP X h n h' n' S a u=>a.up u,λP X h n S b o a hb=>a.pv o hb,λP X h n S a x hx=>let⟨_,_,_,_,a,_,_⟩:=a;⟨(a.xs x hx).1,(a.xs x hx).2.1⟩,λP X h n S a=>let⟨_,_,_,_,a,_,_⟩:=a;a.a.use,?_,?_,?_⟩
   .refine⟨λx=>x=n3\/x=n3+1\/x=n5\/n<x/\x<n+4,λx hx=>by omega,λP h6 n6 u6 hP=>?_⟩
    have e6:=u6.le;have EA:∀x,x<n5->h6.get x=h5.get x:=λx hx=>(u6.old x (by omega)).trans (cL x hx);refine⟨.k 1,.k 1,[],[],⟨(EA _ (by omega)).trans c45,(EA _ (by omega)).trans WY,Gr.nil λ_=>rfl,Gr.nil λ_=>rfl,rfl,λx hx=>absurd hx gM,λx hx=>absurd hx gM,λ_ _ _ _ w hw=>(by cases hw),λ_ _ _ _ x hx=>(by cases hx),.inl rfl,.inr (.inl rfl),.inr (.inr (.inl rfl)),λx h1 h2=>.inr (.inr (.inr ⟨h1,h2⟩)),by omega,
     λx hx=>⟨by omega,λhp=>by have:=(hP x hp).1;omega,by omega⟩,(EA _ (by omega)).trans ((u35.old _ (by omega)).trans g13),(EA _ (by omega)).trans ((u35.old _ (by omega)).trans g23),(EA _ (by omega)).trans ((u35.old _ (by omega)).trans g33),λx hx=>(EA _ (by omega)).trans (WK.old x hx),by omega,λx hx=>⟨by have:=(hP x hx).1;omega,(hP x hx).2⟩,?_⟩,rfl,(u6.old n5 (by omega)).trans aM⟩
    intro h7 n7 l7 s7;have nx:∀x,x<n5->x≠n3->x≠n3+1->¬(n<x/\x<n+4)->h7.get x=h5.get x:=λx hx h1 h2 h3=>(s7 x (by omega) λe=>by
     rcases e with e|e
     .omega
     .have:=(hP x e).1;omega).trans (EA x hx)
    have un:Up h n h7 n7:=⟨by omega,λx hx=>(nx x (by omega) (by omega) (by omega) (by omega)).trans (WK.old x hx)⟩;exact⟨(nx _ (by omega) (by omega) (by omega) (by omega)).trans qc,(nx _ (by omega) (by omega) (by omega) (by omega)).trans ql,(nx _ (by omega) (by omega) (by omega) (by omega)).trans qt,by omega,by omega,by omega,hC.up un,hT.up un⟩
   .rintro P X h6 n6 S s tq ⟨cv,sv,vs,eX,a,hSS,lp⟩ rt so kq
    have XL:=a.xs _ a.XL;have Xc:=a.xs _ a.Xc;have Xs:=a.xs _ a.Xs;have ale:=a.le;have hlen:eX.length<=100001:=by have:=rt.1;rw[<-hSS]at this;simp at this;omega
    refine RW.mono (rW (d:=19) (F:=_) (bs:=[true,true]) (R:=λb h2 n2=>∃X',b=true/\QE C h n n3 (n3+1) n5 t (λh m=>TJ h m cb lb tb v C tv l) P X' h2 n2 (S++[s])/\n6<=n2/\(∀x,x<n6->¬X x->h2.get x=h6.get x)/\∀x,X' x->X x\/n6<=x) lp hF (by kernel_rfl) rfl L6 L8 ?_) ?_
    .simp (disch:=omega) only[go_sem,Ep,Og,CS.av,TS.av,List.cons_append,List.nil_append]
     generalize hx:Tr.set (Tr.set h6 n6 _) n6 _=hA;have uA:Up h6 n6 hA (n6+1):=by rw[<-hx];exact aL
     have gA:hA.get n6=some (.row 121 [.i .i64 C.aK,v.h,v.u,v.a,v.k,.i .i64 C.days,v.o,.i .i64 s.day,tq.h,tq.u,tq.m]):=by rw[<-hx];exact aM
     clear hx;have lpA:=(uA.old n5 XL.1).trans lp;refine⟨_,_,_,_,_,_,lpA,?_⟩;have B7:=(a.up uA).Hl lpA (.lp .busy none 11 t [61,62] (je 11 0) (jf 11 0));have Yl:(hA.set n5 (.lp .busy none 11 t [61,62] (je 11 0) (jf 11 0))).get n5=some (.lp .busy none 11 t [61,62] (je 11 0) (jf 11 0)):=aM;have g7:(hA.set n5 (.lp .busy none 11 t [61,62] (je 11 0) (jf 11 0))).get n6=some (.row 121 [.i .i64 C.aK,v.h,v.u,v.a,v.k,.i .i64 C.days,v.o,.i .i64 s.day,tq.h,tq.u,tq.m]):=by rw[aI (by omega)];exact gA
     have s67:∀x,x<n6->x≠n5->(hA.set n5 (.lp .busy none 11 t [61,62] (je 11 0) (jf 11 0))).get x=h6.get x:=λx hx hne=>by rw[aI hne,uA.old x hx]
     generalize hA.set n5 _=h7 at*;have c7:=B7.c;have s7:=B7.s;repeat' (first|(simp (disch:=omega) only[go_sem,Er,g7,c7])|(with_reducible first|apply aj|apply ah|apply ay|apply aB|apply aA|apply au)<;>intro hd<;>(rw[hd];try simp only[decide_eq_true_eq,decide_eq_false_iff_not,Bool.not_eq_true',Bool.not_eq_false']at hd)|(with_reducible refine aD ?_))
     rw[bU];have A7:=(B7.up (Up.wide h7 (show n6+1<=n6+1+2 by omega))).a.use;refine Ar (K+7) (v:=v) (A7.con) ok ho (by have:=uQ hv;omega) λw h8 n8 u8 k8=>?_;have e8:=u8.le;have c8:=(u8.old _ (by omega)).trans c7;have g8:=(u8.old n6 (by omega)).trans g7;have lp8:=(u8.old n5 (by omega)).trans Yl;repeat' (first|(simp (disch:=omega) only[go_sem,c8,c7])|(with_reducible first|apply aj|apply ah|apply ay|apply aB|apply aA|apply au)<;>intro hd<;>(rw[hd];try simp only[decide_eq_true_eq,decide_eq_false_iff_not,Bool.not_eq_true',Bool.not_eq_false']at hd)|(with_reducible refine aD ?_))
     have u9:Up h7 (n6+1) (Tr.set h8 (n6+1) (.row 27 [.i .i64 C.aK,w.h,w.u,w.a,w.k,.i .i64 C.days,w.o])) n8:=⟨by omega,λx hx=>by rw[aI (by omega),u8.old x (by omega)]⟩;have B9:=B7.up u9;have k9:=k8.set (b:=n6+1) (o:=.row 27 [.i .i64 C.aK,w.h,w.u,w.a,w.k,.i .i64 C.days,w.o]) (.inl (by omega)) (Nat.le_refl _);have g9:(Tr.set h8 (n6+1) (.row 27 [.i .i64 C.aK,w.h,w.u,w.a,w.k,.i .i64 C.days,w.o])).get n6=some (.row 121 [.i .i64 C.aK,v.h,v.u,v.a,v.k,.i .i64 C.days,v.o,.i .i64 s.day,tq.h,tq.u,tq.m]):=by rw[aI (by omega)];exact g8
     have lp9:(Tr.set h8 (n6+1) (.row 27 [.i .i64 C.aK,w.h,w.u,w.a,w.k,.i .i64 C.days,w.o])).get n5=some (.lp .busy none 11 t [61,62] (je 11 0) (jf 11 0)):=by rw[aI (by omega)];exact lp8
     have q9:(Tr.set h8 (n6+1) (.row 27 [.i .i64 C.aK,w.h,w.u,w.a,w.k,.i .i64 C.days,w.o])).get (n6+1)=some (.row 27 [.i .i64 C.aK,w.h,w.u,w.a,w.k,.i .i64 C.days,w.o]):=aM;have s79:∀x,x<n6+1->(Tr.set h8 (n6+1) (.row 27 [.i .i64 C.aK,w.h,w.u,w.a,w.k,.i .i64 C.days,w.o])).get x=h7.get x:=u9.old;generalize Tr.set h8 (n6+1) _=h9 at*;obtain⟨cv',hB,nB,rB,gB,lB,sB,bB⟩:=B9.gc.app (l2:=[w]) (y:=.sl (n6+1) 0 0 1 (some 1)) rfl (by
      show bnd (iE (h9.get (n6+1)) 0 _) _=_;rw[q9];rfl) (by have:=B9.ln;simp;omega)
     have ncb:∀x,x<n6+1->(∀cells,h7.get x≠some (.row 27 cells))->¬blk cv x:=λx hx hne e=>by
      obtain⟨cells,hc⟩:=B7.gc.ty e;exact hne _ hc
     have nsb:∀x,(∀cells,h7.get x≠some (.row 43 cells))->¬blk sv x:=λx hne e=>by
      obtain⟨cells,hc⟩:=B7.gs.ty e;exact hne _ hc
     have c9:=(s79 n3 (by omega)).trans c7;have cB:=(sB n3 (by omega) (ncb n3 (by omega) λc e=>by rw[c7]at e;cases e)).trans c9;have tB:=(sB (n3+1) (by omega) (ncb _ (by omega) λc e=>by rw[s7]at e;cases e)).trans ((s79 (n3+1) (by omega)).trans s7);have gB6:=(sB n6 (by omega) (λe=>by have:=(a.xs _ (a.bc _ e)).1;omega)).trans g9;have lpB:=(sB n5 (by omega) (ncb _ (by omega) λc e=>by rw[Yl]at e;cases e)).trans lp9;have gsB:Gr hB nB 43 4 sv Uw eX:=B9.gs.on lB λx hx e=>sB x hx λe2=>by
      obtain⟨_,q1⟩:=B9.gc.ty e2;obtain⟨_,q2⟩:=B9.gs.ty e;rw[q1]at q2;cases q2
     repeat' (first|(simp (disch:=omega) only[go_sem,rB,gB.cl,cB,c8,tB,gB6])|(with_reducible first|apply aj|apply ah|apply ay|apply aB|apply aA|apply au)<;>intro hd<;>(rw[hd];try simp only[decide_eq_true_eq,decide_eq_false_iff_not,Bool.not_eq_true',Bool.not_eq_false']at hd)|(with_reducible refine aD ?_))
     generalize hx:(Tr.set hB n3 (.row 34 [cv'])).set nB _=hD;have sD:∀x,x<nB->x≠n3->hD.get x=hB.get x:=λx hx1 hx2=>by rw[<-hx,aI (by omega),aI hx2]
     have cD:hD.get n3=some (.row 34 [cv']):=by rw[<-hx,aI (by omega)];exact aM
     have qD:hD.get nB=some (.row 43 [.i .i64 s.day,tq.h,tq.u,tq.m]):=by rw[<-hx];exact aM
     clear hx;have gsD:Gr hD (nB+1) 43 4 sv Uw eX:=gsB.on (by omega) λx hx e=>sD x hx λe2=>by
      obtain⟨_,q2⟩:=gsB.ty e;rw[e2,cB]at q2;cases q2
     obtain⟨O_,hE,nE,rE,gE,lE,sE,bE⟩:=gsD.app (l2:=[(tq,s)]) (y:=.sl nB 0 0 1 (some 1)) rfl (by
      show bnd (iE (hD.get nB) 0 _) _=_;rw[qD];rfl) (by simp;omega)
     have nsD:∀x,x<n6+1->(∀cells,h7.get x≠some (.row 43 cells))->¬blk sv x:=λx _=>nsb x;have tE:=(sE (n3+1) (by omega) (nsb _ λc e=>by rw[s7]at e;cases e)).trans ((sD _ (by omega) (by omega)).trans tB);have cE:=(sE n3 (by omega) (nsb _ λc e=>by rw[c7]at e;cases e)).trans cD;have lpE:=(sE n5 (by omega) (nsb _ λc e=>by rw[Yl]at e;cases e)).trans ((sD _ (by omega) (by omega)).trans lpB);repeat' (first|(simp (disch:=omega) only[go_sem,rE,gE.cl,tE])|(with_reducible first|apply aj|apply ah|apply ay|apply aB|apply aA|apply au)<;>intro hd<;>(rw[hd];try simp only[decide_eq_true_eq,decide_eq_false_iff_not,Bool.not_eq_true',Bool.not_eq_false']at hd)|(with_reducible refine aD ?_))
     have ad6:(Tr.set hE (n3+1) (.row 35 [O_])).get n5=some (.lp .busy none 11 t [61,62] (je 11 0) (jf 11 0)):=by rw[aI (by omega)];exact lpE
     refine⟨_,_,_,_,_,_,_,ad6,λx=>X x\/blk cv' x\/blk O_ x,rfl,?_⟩;have UC:∀x,X x->x<n6:=λx hx=>(a.xs x hx).1;have same':∀x,x<n6->x≠n5->x≠n3+1->x≠n3->¬blk cv x->¬blk sv x->((Tr.set hE (n3+1) (.row 35 [O_])).set n5 (uP .ready none t)).get x=h6.get x:=λx hx d1 d2 d3 d4 d5=>by
      rw[aI d1,aI d2,sE x (by omega) d5,sD x (by omega) d3,sB x (by omega) d4,s79 x (by omega),s67 x hx d1]
     have same:∀x,x<n6->¬X x->((Tr.set hE (n3+1) (.row 35 [O_])).set n5 (uP .ready none t)).get x=h6.get x:=λx hx hX=>
      same' x hx (λe=>hX (by rw[e];exact a.XL)) (λe=>hX (by rw[e];exact a.Xs)) (λe=>hX (by rw[e];exact a.Xc)) (λe=>hX (a.bc x e)) (λe=>hX (a.bs x e))
     have boxes:∀(x e:Nat)(c:List AV),n<x->x<n+4->h6.get x=some (.row e c)->e≠27->e≠43->((Tr.set hE (n3+1) (.row 35 [O_])).set n5 (uP .ready none t)).get x=some (.row e c):=λx e c h1 h2 h3 h4 h5=>
      (same' x (by omega) (by omega) (by omega) (by omega) (λe=>by obtain⟨_,q⟩:=a.gc.ty e;rw[h3]at q;cases q;exact h4 rfl) (λe=>by obtain⟨_,q⟩:=a.gs.ty e;rw[h3]at q;cases q;exact h5 rfl)).trans h3
     have OZ:∀x,(X x\/blk cv' x\/blk O_ x)->X x\/n6<=x:=λx e=>by
      rcases e with e|e|e
      .exact .inl e
      .rcases bB x e with e|e
       .exact .inl (a.bc x e)
       .exact .inr (by omega)
      .rcases bE x e with e|e
       .exact .inl (a.bs x e)
       .exact .inr (by omega)
     refine⟨⟨cv',O_,vs++[w],eX++[(tq,s)],⟨?_,?_,?_,?_,by simp[a.ln],λx hx=>.inr (.inl hx),λx hx=>.inr (.inr hx),?_,?_,.inl a.Xc,.inl a.Xs,.inl a.XL,λx h1 h2=>.inl (a.Xr x h1 h2),a.Ln,λx hx=>?_,?_,?_,?_,λx hx=>?_,by omega,λx hx=>⟨(a.ps x hx).1,by have:=(a.ps x hx).2;omega⟩,a.a.uL (by omega) same OZ⟩,by simp[hSS],aM⟩,by omega,same,OZ⟩
     .rw[aI (by omega),aI (by omega)];exact cE
     .rw[aI (by omega)];exact aM
     .refine gB.on (by omega) λx hx e=>?_
      obtain⟨_,q⟩:=gB.ty e;have d1:x≠n5:=λe=>by rw[e,lpB]at q;cases q
      have d2:x≠n3+1:=λe=>by rw[e,tB]at q;cases q
      have d3:x≠n3:=λe=>by rw[e,cB]at q;cases q
      rw[aI d1,aI d2,sE x (by omega) (λe2=>by obtain⟨_,q2⟩:=gsB.ty e2;rw[q]at q2;cases q2),sD x hx d3]
     .refine gE.on (Nat.le_refl _) λx hx e=>?_
      obtain⟨_,q⟩:=gE.ty e;have d1:x≠n5:=λe=>by rw[e,lpE]at q;cases q
      have d2:x≠n3+1:=λe=>by rw[e,tE]at q;cases q
      rw[aI d1,aI d2]
     .have kw:Kp (λx=>(X x\/blk cv' x\/blk O_ x)\/(P x\/x<n)) ((Tr.set hE (n3+1) (.row 35 [O_])).set n5 (uP .ready none t)) nE (λh n=>bG h n w C):=by
       refine k9.tr (by omega) (λx hx hz=>?_) λx hx e=>?_
       .rw[aI (by omega),aI (by omega),sE x (by omega) (λe=>by have:=UC x (a.bs x e);omega),sD x (by omega) (by omega),sB x hx (λe=>by have:=UC x (a.bc x e);omega)]
       .rcases e with e|e
        .rcases e with e|e|e
         .have:=UC x e;omega
         .rcases bB x e with e|e
          .have:=UC x (a.bc x e);omega
          .omega
         .rcases bE x e with e|e
          .have:=UC x (a.bs x e);omega
          .omega
        .rcases e with e|e
         .have:=(a.ps x e).2;omega
         .omega
      exact((a.kc.uL (by omega) same OZ).and kw).wk λh n e w' hw'=>by
       rcases List.mem_append.1 hw' with hw'|hw'
       .exact e.1 w' hw'
       .rw[List.mem_singleton]at hw';subst hw';exact e.2
     .exact((a.ks.uL (by omega) same OZ).and ((kq.le (Y:=λx=>X x\/(P x\/x<n)) λx _ e=>e.imp id λe=>e.imp id λe=>by omega).uL (by omega) same OZ)).wk λh n e x hx=>by
       rcases List.mem_append.1 hx with hx|hx
       .exact e.1 x hx
       .rw[List.mem_singleton]at hx;subst hx;exact e.2
     .refine⟨?_,λhp=>?_,?_⟩
      .rcases hx with hx|hx|hx
       .have:=UC x hx;omega
       .have:=gB.gU hx;omega
       .exact gE.gU hx
      .rcases OZ x hx with e|e
       .exact(a.xs x e).2.1 hp
       .have:=(a.ps x hp).2;omega
      .rcases OZ x hx with e|e
       .exact(a.xs x e).2.2
       .omega
     .exact boxes _ _ _ (by omega) (by omega) a.r1 (by decide) (by decide)
     .exact boxes _ _ _ (by omega) (by omega) a.r2 (by decide) (by decide)
     .exact boxes _ _ _ (by omega) (by omega) a.r3 (by decide) (by decide)
     .exact(same _ (by omega) λe=>by have:=(a.xs _ e).2.2;omega).trans (a.old x hx)
    .rintro u h7 n7 ⟨b,rfl,X',hb,r⟩
     exact⟨X',by rw[hb],r⟩
   .rintro P X h6 n6 S e c0 c1 c2 c3 ⟨cv,sv,vs,eX,a,hSS,lp⟩ he hn
    have XL:=a.xs _ a.XL;have ale:=a.le;refine RW.mono (rW (d:=19) (F:=_) (bs:=[true,true]) (R:=λb h2 n2=>b=false/\RuE C l h n n5 t h2 n2) lp hF (by kernel_rfl) rfl L6 L8 ?_) ?_
    .simp (disch:=omega) only[go_sem,Ep,Og,CS.av,TS.av,List.cons_append,List.nil_append]
     generalize hx:Tr.set (Tr.set h6 n6 _) n6 _=hA;have uA:Up h6 n6 hA (n6+1):=by rw[<-hx];exact aL
     clear hx;have lpA:=(uA.old n5 XL.1).trans lp;refine⟨_,_,_,_,_,_,lpA,?_⟩;have r17:(hA.set n5 (.lp .busy none 11 t [61,62] (je 11 0) (jf 11 0))).get (n+1)=some (.row 34 [.k 1]):=by rw[aI (by omega),uA.old _ (by omega)];exact a.r1
     have r27:(hA.set n5 (.lp .busy none 11 t [61,62] (je 11 0) (jf 11 0))).get (n+1+1)=some (.row 35 [.k 1]):=by rw[aI (by omega),uA.old _ (by omega)];exact a.r2
     have r37:(hA.set n5 (.lp .busy none 11 t [61,62] (je 11 0) (jf 11 0))).get (n+1+1+1)=some (.row 31 [.i .i64 0]):=by rw[aI (by omega),uA.old _ (by omega)];exact a.r3
     have Yl:(hA.set n5 (.lp .busy none 11 t [61,62] (je 11 0) (jf 11 0))).get n5=some (.lp .busy none 11 t [61,62] (je 11 0) (jf 11 0)):=aM;have o7:∀x,x<n->(hA.set n5 (.lp .busy none 11 t [61,62] (je 11 0) (jf 11 0))).get x=h.get x:=λx hx=>by rw[aI (by omega),uA.old x (by omega)];exact a.old x hx
     generalize hA.set n5 _=h7 at*;have hd:(decide (e=0))=false:=decide_eq_false he;simp (disch:=omega) only[go_sem,Er,hd,r17,r27,r37];refine⟨_,_,_,_,_,_,_,by simp (disch:=omega) only[go_sem];exact Yl,rfl,e,he,aM,by simp (disch:=omega) only[go_sem],by simp (disch:=omega) only[go_sem],by simp (disch:=omega) only[go_sem],λx hx=>?_,by omega,by omega,hn⟩;simp (disch:=omega) only[go_sem];exact o7 x hx
    .rintro u h7 n7 ⟨b,rfl,hb,r⟩
     exact⟨by rw[hb],r⟩
  .rintro P X h6 n6 S run ⟨cv,sv,vs,eX,a,hSS,lp⟩
   refine⟨_,_,_,_,_,_,_,lp,.inl ⟨rfl,rfl,?_⟩⟩;have XL:=a.xs _ a.XL;have ale:=a.le;have B:=a.Hl lp (uP .exhausted none t);have n5n:=a.Ln;repeat' (first|(simp (disch:=omega) only[go_sem,a.c,a.s,a.r1,a.r2,a.r3,a.gc.cl,a.gs.cl])|(with_reducible first|apply aj|apply ah|apply ay|apply aB|apply aA|apply au)<;>intro hd<;>(rw[hd];try simp only[decide_eq_true_eq,decide_eq_false_iff_not,Bool.not_eq_true',Bool.not_eq_false']at hd)|(with_reducible refine aD ?_))
   have hsame:∀x,x<n6->¬(n<x/\x<n+4)->x≠n5->((((Tr.set h6 n5 (.lp .exhausted none 11 t [61,62] (je 11 0) (jf 11 0))).set (n+1) (.row 34 [cv])).set (n+1+1) (.row 35 [sv])).set (n+1+1+1) (.row 31 [.i .i64 0])).get x=h6.get x:=λx hx h1 h2=>by
    simp (disch:=omega) only[go_sem]
   have nb:∀e x,h6.get x=some (.row e [])\/(∃c,h6.get x=some (.row e c))->(e=27\/e=43)->¬(n<x/\x<n+4)/\x≠n5:=λe x hx he=>by
    have hx':∃c,h6.get x=some (.row e c):=by rcases hx with hx|hx;exact⟨_,hx⟩;exact hx
    obtain⟨c,hx⟩:=hx';refine⟨λ⟨h1,h2⟩=>?_,λe2=>?_⟩
    .have h3:x=n+1\/x=n+1+1\/x=n+1+1+1:=by omega
     rcases h3 with rfl|rfl|rfl
     .rw[a.r1]at hx;cases hx;rcases he with he|he<;>cases he
     .rw[a.r2]at hx;cases hx;rcases he with he|he<;>cases he
     .rw[a.r3]at hx;cases hx;rcases he with he|he<;>cases he
    .rw[e2,lp]at hx;cases hx
   have hX6:∀x,x<n6->¬(X x\/(P x\/x<n))->((((Tr.set h6 n5 (.lp .exhausted none 11 t [61,62] (je 11 0) (jf 11 0))).set (n+1) (.row 34 [cv])).set (n+1+1) (.row 35 [sv])).set (n+1+1+1) (.row 31 [.i .i64 0])).get x=h6.get x:=λx hx h1=>hsame x hx (λ⟨h2,h3⟩=>h1 (.inl (a.Xr x h2 h3))) λe=>h1 (.inl (by rw[e];exact a.XL));refine XP hv (by omega) cv sv vs eX _ _ (by rw[hSS];exact run) a.ln ⟨by omega,λx hx=>?_⟩ (Kp.and (Kp.and ?_ ?_) (Kp.and (a.kc.tr (Nat.le_refl _) hX6 λx _ hx=>.inr (.inr hx)) (a.ks.tr (Nat.le_refl _) hX6 λx _ hx=>.inr (.inr hx))))
   .rw[hsame x (by omega) (by omega) (by omega)];exact a.old x hx
   .refine(a.gc.on (Nat.le_refl _) λx hx e=>?_).sl.kp λx hx e=>by have:=(a.xs x (a.bc x hx)).2.2;omega
    obtain⟨q1,q2⟩:=nb 27 x (.inr (a.gc.ty e)) (.inl rfl);exact hsame x hx q1 q2
   .refine(a.gs.on (Nat.le_refl _) λx hx e=>?_).sl.kp λx hx e=>by have:=(a.xs x (a.bs x hx)).2.2;omega
    obtain⟨q1,q2⟩:=nb 43 x (.inr (a.gs.ty e)) (.inr rfl);exact hsame x hx q1 q2
  .rintro h6 n6 ⟨e,he,q1,q2,q3,q4,q5,q6,q7,q8⟩
   refine⟨_,_,_,_,_,_,_,q1,.inr (.inl ⟨rfl,rfl,?_⟩)⟩;simp (disch:=omega) only[go_sem,q2,q3,q4];refine IE hv (by omega) q8 e _ _ he ⟨by omega,λx hx=>?_⟩;simp (disch:=omega) only[go_sem];exact q5 x hx
end
end
end
section
noncomputable section
section
variable {h h':AH} {n n':Nat} {Q:AV->AH->Nat->Prop} {C:aH} {v:CS} {l:List Int}
def QF:AV:=.agg [.k 1,.k 1,.k 1,.k 1]
theorem Ib(K:Nat){tv:AV}(hC:bG h n v C)(ho:C.off.length<=1000000)(hl:l.length<=100000)(hT:SL h n 1 tv iJ l)
 (xL:C.valid=false->∀h' n',Up h n h' n'->Q (.bV [QF,.i .i64 1]) h' n')
 (AU:C.valid=true->4000<l.length->∀h' n',Up h n h' n'->Q (.bV [QF,.i .i64 3]) h' n')
 (IE:C.valid=true->l.length<=4000->(¬∃S,fF C C.first l S)->∀e h' n',e≠0->Up h n h' n'->Q (.bV [QF,.i .i64 e]) h' n')
 (XP:C.valid=true->l.length<=4000->∀cv sv dv vs eX h' n',fF C C.first l (eX.map (·.2))->Up h n h' n'->M0 h' n' C cv sv tv dv vs eX l 0->Q (.bV [.agg (rA cv sv tv dv),.i .i64 0]) h' n'):
 CW (EF (K+12)) 32 [.agg (v.av C),.k 1,tv] h n Q:=by
 refine aJ c32 rfl ?_;repeat' (first|(simp (disch:=omega) only[go_sem,m32,CS.av])|(with_reducible first|apply aj|apply ah|apply ay|apply aB|apply aA|apply au)<;>intro hd<;>(rw[hd];try simp only[decide_eq_true_eq,decide_eq_false_iff_not,Bool.not_eq_true',Bool.not_eq_false']at hd)|(with_reducible refine aD ?_))
 generalize hh:Tr.set (Tr.set h n _) (n+1) _=h0;have u0:Up h n h0 (n+2):=by rw[<-hh];exact aL
 have g0:h0.get n=some (.row 27 (v.av C)):=by rw[<-hh];simp (disch:=omega) only[go_sem]
 have g1:h0.get (n+1)=some (.row 100 [.k 1,.k 1,.k 1,.k 1]):=by rw[<-hh];simp (disch:=omega) only[go_sem]
 clear hh;rw[bA];show CW _ 11 _ h0 (n+2) _;have bad:∀(e:Int),e≠0->(∀h' n',Up h n h' n'->Q (.bV [QF,.i .i64 e]) h' n')->∀h1 n1,Up h0 (n+2) h1 n1->True:=λ_ _ _ _ _ _=>trivial;refine TK K (hC.up u0) ho hl (hT.up u0) (λhv h1 n1 u1=>?_) (λhv hln h1 n1 u1=>?_) (λhv hln hr e h1 n1 he u1=>?_) (λhv hln cv sv vs eX h1 n1 run ln u1 kR=>?_)
 .have e1:=u1.le
  have g11:=(u1.old _ (show n+1<n+2 by omega)).trans g1;have ux:=u0.trans u1;simp (disch:=omega) only[go_sem,g11,Int.reduceEq];exact xL hv _ _ aL
 .have e1:=u1.le
  have g11:=(u1.old _ (show n+1<n+2 by omega)).trans g1;have ux:=u0.trans u1;simp (disch:=omega) only[go_sem,g11,Int.reduceEq];exact AU hv hln _ _ aL
 .have e1:=u1.le
  have g11:=(u1.old _ (show n+1<n+2 by omega)).trans g1;have ux:=u0.trans u1;have hd:decide (e=0)=false:=decide_eq_false he;simp (disch:=omega) only[go_sem,g11,hd];exact IE hv hln hr e _ _ he aL
 .obtain⟨⟨s1,s2⟩,s3,s4⟩:=kR.use
  have e1:=u1.le;have g11:=(u1.old _ (show n+1<n+2 by omega)).trans g1;have ux:=u0.trans u1;have ok:=aH.ok hv;have hus:=uQ hv;have hSl:=run.len;rw[List.length_map]at hSl;simp (disch:=omega) only[go_sem,s1.cl,s2.cl,hT.cl,s2.len];generalize hh:Tr.set (Tr.set h1 n1 _) n1 _=h2;have u2:Up h1 n1 h2 (n1+1):=by rw[<-hh];exact aL
  have g2:h2.get n1=some (.row 100 [cv,sv,tv,.k 1]):=by rw[<-hh];exact aM
  clear hh;refine dD eX.length (λk hk nk G=>Up h1 n1 hk nk/\n1<nk/\(∃dv,hk.get n1=some (.row 100 [cv,sv,tv,dv])/\Gr hk nk 3 1 dv cn (List.replicate k 0)/\∀x,blk dv x->n1<x)/\G=[(6,.p (n+1) 0),(8,cv),(11,.p n1 0),(31,sv)]) (by omega) (by omega) (by omega) (by omega) (λk h8 n8 G ⟨_,_,_,e⟩=>by subst e;exact⟨rfl,rfl⟩) ⟨rfl,rfl,_,⟨u2,by omega,⟨.k 1,g2,Gr.nil λ_=>rfl,λx hx=>absurd hx gM⟩,rfl⟩,by(repeat' (first|exact aZ|refine aW rfl ?_))⟩ ?_ ?_
  .rintro k hk nk G hkl ⟨uk,lk,⟨dv,gd,gr,bd⟩,rfl⟩
   obtain⟨b1,o1,x,i1,hx,hb1,rd⟩:=(s2.up uk).fE (k:=(k:Nat)) (by omega) (by omega) (by omega);rw[show((k:Nat):Int).toNat=k by omega]at hx;repeat' (first|(simp (disch:=omega) only[go_sem,Qz,aR i1,rd.all,TS.av])|(with_reducible first|apply aj|apply ah|apply ay|apply aB|apply aA|apply au)<;>intro hd<;>(rw[hd];try simp only[decide_eq_true_eq,decide_eq_false_iff_not,Bool.not_eq_true',Bool.not_eq_false']at hd)|(with_reducible refine aD ?_))
   .have hkp:0<k:=by omega
    obtain⟨b2,o2,w2,i2,hw2,hb2,eT⟩:=(s1.up uk).fE (k:=(k:Nat)) (by omega) (by omega) (by omega);obtain⟨b3,o3,w3,i3,hw3,hb3,qH⟩:=(s1.up uk).fE (k:=((k - 1:Nat):Int)) (by omega) (by omega) (by omega);have wid:f_ .i64 ((k:Int) - 1)=((k - 1:Nat):Int):=by rw[dN (by omega) (by omega)];omega
    have a2:=eT.all;have a3:=qH.all;generalize hz:Tr.set (Tr.set hk nk _) nk _=h5;have u5:Up hk nk h5 (nk+1):=by rw[<-hz];exact aL
    clear hz;rw[<-u5.old b2 hb2]at a2;rw[<-u5.old b3 hb3]at a3;repeat' (first|(simp (disch:=omega) only[go_sem,wid,i2,i3,a2,a3])|(with_reducible first|apply aj|apply ah|apply ay|apply aB|apply aA|apply au)<;>intro hd<;>(rw[hd];try simp only[decide_eq_true_eq,decide_eq_false_iff_not,Bool.not_eq_true',Bool.not_eq_false']at hd)|(with_reducible refine aD ?_))
    rw[bU];have uk5:=uk.trans u5;refine vw (K+7) ((s3 w3 (List.mem_of_getElem? hw3)).up uk5) ((s3 w2 (List.mem_of_getElem? hw2)).up uk5) ok ho (by omega) λh4 n4 u4=>?_;have e4:=u4.le;have u54:=u5.trans u4;have gd4:=(u54.old n1 (by omega)).trans gd;obtain⟨b6,o6,y6,i6,hy6,hb6,Uj⟩:=((gr.up u54).sl).fE (k:=((k - 1:Nat):Int)) (by omega) (by simp;omega) (by omega);rw[show((k - 1:Nat):Int).toNat=k - 1 by omega,List.getElem?_replicate,if_pos (by omega)]at hy6;cases hy6
    have a6:=Uj.hd;repeat' (first|(simp (disch:=omega) only[go_sem,gd4,wid,i6,aR i6,a6])|(with_reducible first|apply aj|apply ah|apply ay|apply aB|apply aA|apply au)<;>intro hd<;>(rw[hd];try simp only[decide_eq_true_eq,decide_eq_false_iff_not,Bool.not_eq_true',Bool.not_eq_false']at hd)|(with_reducible refine aD ?_))
    generalize hz:Tr.set h4 n4 (.row 3 [.i .i64 0])=h6;have u6:Up hk nk h6 (n4+1):=by rw[<-hz];exact aL
    have q6:h6.get n4=some (.row 3 [.i .i64 0]):=by rw[<-hz];exact aM
    clear hz;obtain⟨dv',h7,n7,r7,g7,l7,s7,b7⟩:=(gr.up u6).app (l2:=[0]) (y:=.sl n4 0 0 1 (some 1)) rfl (by
     show bnd (iE (h6.get _) 0 _) _=_;rw[q6];rfl) (by simp<;>omega)
    have c7:=(s7 n1 (by have:=u6.le;omega) (λe=>by have:=bd n1 e;omega)).trans ((u6.old n1 (by omega)).trans gd);repeat' (first|(simp (disch:=omega) only[go_sem,r7,g7.cl,c7])|(with_reducible first|apply aj|apply ah|apply ay|apply aB|apply aA|apply au)<;>intro hd<;>(rw[hd];try simp only[decide_eq_true_eq,decide_eq_false_iff_not,Bool.not_eq_true',Bool.not_eq_false']at hd)|(with_reducible refine aD ?_))
    have SF:f_ .i64 ((k:Int)+1)=((k+1:Nat):Int):=by rw[dN (by omega) (by omega)];rfl
    have l6:=u6.le;refine⟨rfl,rfl,_,⟨⟨by have:=uk.le;omega,λy hy=>?_⟩,by omega,⟨dv',aM,g7.on (Nat.le_refl _) (λy hy e=>aI λe2=>?_)|>λg=>by rw[List.replicate_succ'];exact g,λy hy=>?_⟩,rfl⟩,by(repeat' (first|exact aZ|refine aW rfl ?_))⟩
    .rw[aI (by omega),s7 y (by have:=uk.le;omega) (λe=>by have:=bd y e;omega),u6.old y (by have:=uk.le;omega),uk.old y hy]
    .obtain⟨_,q⟩:=g7.ty e
     rw[e2,c7]at q;cases q
    .rcases b7 y hy with e|e
     .exact bd y e
     .omega
   .have hk0:k=0:=by omega
    subst hk0;have iZ:x.2.day=0:=by
     have e:=run.hd;rw[List.getElem?_map,hx]at e;simp only[Option.map_some,Option.some.injEq]at e;rw[e];rfl
    generalize hz:Tr.set (Tr.set hk nk _) nk _=h5;have u5:Up hk nk h5 (nk+1):=by rw[<-hz];exact aL
    clear hz;have gd5:=(u5.old n1 (by omega)).trans gd;repeat' (first|(simp (disch:=omega) only[go_sem,gd,gd5,iZ])|(with_reducible first|apply aj|apply ah|apply ay|apply aB|apply aA|apply au)<;>intro hd<;>(rw[hd];try simp only[decide_eq_true_eq,decide_eq_false_iff_not,Bool.not_eq_true',Bool.not_eq_false']at hd)|(with_reducible refine aD ?_))
    generalize hz:Tr.set h5 (nk+1) (.row 3 [.i .i64 0])=h6;have u6:Up hk nk h6 ((nk+1)+1):=by rw[<-hz];exact aL
    have q6:h6.get (nk+1)=some (.row 3 [.i .i64 0]):=by rw[<-hz];exact aM
    clear hz;obtain⟨dv',h7,n7,r7,g7,l7,s7,b7⟩:=(gr.up u6).app (l2:=[0]) (y:=.sl (nk+1) 0 0 1 (some 1)) rfl (by
     show bnd (iE (h6.get _) 0 _) _=_;rw[q6];rfl) (by simp<;>omega)
    have c7:=(s7 n1 (by have:=u6.le;omega) (λe=>by have:=bd n1 e;omega)).trans ((u6.old n1 (by omega)).trans gd);repeat' (first|(simp (disch:=omega) only[go_sem,r7,g7.cl,c7])|(with_reducible first|apply aj|apply ah|apply ay|apply aB|apply aA|apply au)<;>intro hd<;>(rw[hd];try simp only[decide_eq_true_eq,decide_eq_false_iff_not,Bool.not_eq_true',Bool.not_eq_false']at hd)|(with_reducible refine aD ?_))
    have SF:f_ .i64 (((0:Nat):Int)+1)=((0+1:Nat):Int):=by rfl
    have l6:=u6.le;refine⟨rfl,rfl,_,⟨⟨by have:=uk.le;omega,λy hy=>?_⟩,by omega,⟨dv',aM,g7.on (Nat.le_refl _) (λy hy e=>aI λe2=>?_)|>λg=>by rw[List.replicate_succ'];exact g,λy hy=>?_⟩,rfl⟩,by(repeat' (first|exact aZ|refine aW rfl ?_))⟩
    .rw[aI (by omega),s7 y (by have:=uk.le;omega) (λe=>by have:=bd y e;omega),u6.old y (by have:=uk.le;omega),uk.old y hy]
    .obtain⟨_,q⟩:=g7.ty e
     rw[e2,c7]at q;cases q
    .rcases b7 y hy with e|e
     .exact bd y e
     .omega
  .rintro hk nk G ⟨uk,lk,⟨dv,gd,gr,bd⟩,rfl⟩
   have g1k:=(uk.old _ (show n+1<n1 by omega)).trans g11;have uxk:=ux.trans uk;repeat' (first|(simp (disch:=omega) only[go_sem,gd,g1k,gr.cl,s1.cl,s2.cl,hT.cl])|(with_reducible first|apply aj|apply ah|apply ay|apply aB|apply aA|apply au)<;>intro hd<;>(rw[hd];try simp only[decide_eq_true_eq,decide_eq_false_iff_not,Bool.not_eq_true',Bool.not_eq_false']at hd)|(with_reducible refine aD ?_))
   have kd:Kp (λx=>x<n1) hk nk (λh n=>SL h n 1 dv cn (List.replicate eX.length 0)):=gr.sl.kp λx hx e=>by have:=bd x hx;omega
   have kf:=((kR.up uk).set (b:=n+1) (o:=.row 100 [cv,sv,tv,dv]) (.inl (by omega)) (Nat.le_refl _)).use;have kf2:=(kd.set (b:=n+1) (o:=.row 100 [cv,sv,tv,dv]) (.inl (by omega)) (Nat.le_refl _)).use;have uf:Up h n (Tr.set hk (n+1) (.row 100 [cv,sv,tv,dv])) nk:=Up.st uxk _ _ (by omega);exact XP hv hln cv sv dv vs eX _ _ run uf ⟨kf.1.1,kf.2.1,kf.1.2,kf.2.2,hT.up uf,kf2,ln⟩
end
end
end
section
noncomputable section
section
variable {h h':AH} {n n':Nat} {Q:AV->AH->Nat->Prop} {C:aH} {v:CS} {l:List Int} {party:Int}
theorem Mk{S:List aO}(hv:C.valid=true)(run:fF C C.first l S):∀(k:Nat)(s:aO),S[k]?=some s->aU C s
 |0,s,e=>by rw[run.hd]at e;cases e;exact nU hv
 |k+1,s,e=>by
  have hk:=(List.getElem?_eq_some_iff.1 e).1;have hl:=run.len;obtain⟨t,ht⟩:∃t,l[k]?=some t:=⟨l[k]'(by omega),List.getElem?_eq_some_iff.2 ⟨by omega,rfl⟩⟩;obtain⟨a,ha⟩:∃a,S[k]?=some a:=⟨S[k]'(by omega),List.getElem?_eq_some_iff.2 ⟨by omega,rfl⟩⟩;obtain⟨h1,h2,h3,h4⟩:=run.step k t a ht ha;rw[e]at h4;cases h4
  exact jg (Mk hv run k a ha) h1 h2 h3
theorem FW{S:List aO}(hp:0<=party)(run:fF C C.first l S):∀(k:Nat)(s:aO),S[k]?=some s->tY C party ⟨C.first,true⟩ ⟨s,true⟩
 |0,s,e=>by rw[run.hd]at e;cases e;exact .refl
 |k+1,s,e=>by
  have hk:=(List.getElem?_eq_some_iff.1 e).1;have hl:=run.len;obtain⟨t,ht⟩:∃t,l[k]?=some t:=⟨l[k]'(by omega),List.getElem?_eq_some_iff.2 ⟨by omega,rfl⟩⟩;obtain⟨a,ha⟩:∃a,S[k]?=some a:=⟨S[k]'(by omega),List.getElem?_eq_some_iff.2 ⟨by omega,rfl⟩⟩;obtain⟨h1,h2,h3,h4⟩:=run.step k t a ht ha;rw[e]at h4;cases h4
  have ih:=FW hp run k a ha;by_cases hst:C.bL a t=a
  .rw[hst];exact ih
  by_cases ho:0<=t/\C.doer a t=party
  .obtain⟨i,rfl⟩:=Int.eq_ofNat_of_zero_le ho.1
   exact ih.step (vL (q:=⟨a,true⟩) (by omega) h3 ⟨⟨λ_=>rfl,λ_=>ho.2⟩,hst⟩)
  .have ih2:=ih.step (xC (C:=C) (party:=party) (q:=⟨a,true⟩) rfl)
   by_cases ht0:t= -1
   .subst ht0
    exact ih2.step (Ch (q:=⟨a,false⟩) rfl h3)
   .obtain⟨i,rfl⟩:=Int.eq_ofNat_of_zero_le (show 0<=t by omega)
    refine ih2.step (vL (q:=⟨a,false⟩) (by omega) h3 ⟨⟨λe=>absurd ⟨Int.natCast_nonneg _,e⟩ ho,λe=>(by cases e)⟩,hst⟩)
theorem Ic{S:List aO}(hp:0<=party)(run:fF C C.first l S)(nb:¬gK C party ⟨C.first,true⟩){k:Nat}{s:aO}(hs:S[k]?=some s)(b:Bool):¬gK C party ⟨s,b⟩:=λe=>by
 have r:=FW hp run k s hs;refine nb (e.of ?_);cases b with
 |true=>exact r
 |false=>exact r.step (xC (C:=C) (party:=party) (q:=⟨s,true⟩) rfl)
theorem Ml(K:Nat){tv:AV}(hC:bG h n v C)(ho:C.off.length<=1000000)(hl:l.length<=100000)(hT:SL h n 1 tv iJ l)(nb:¬gK C party ⟨C.first,true⟩)
 (xL:∀e h' n',e≠0->(C.valid=true->0<=party->party<C.aK->l.length<=4000->¬∃S,fF C C.first l S)->Up h n h' n'->Q (.bV [.i .i64 0,.i .i64 e]) h' n')
 (AU:C.valid=true->0<=party->party<C.aK->∀S (r:Int) h' n',fF C C.first l S->(∀k:Nat,r=(k:Nat)->Ew C party l S k)->(r= -1->Ey C party l S)-> -1<=r->Up h n h' n'->Q (.bV [.i .i64 r,.i .i64 0]) h' n'):
 CW (EF (K+15)) 10 [.agg (v.av C),.k 1,.i .i64 party,tv] h n Q:=by
 refine aJ c10 rfl ?_;repeat' (first|(simp (disch:=omega) only[go_sem,ub.old,m10,CS.av])|(simp (disch:=omega) only[go_sem,m10,CS.av])|(with_reducible first|apply aj|apply ah|apply ay|apply aB|apply aA|apply au)<;>intro hd<;>(rw[hd];try simp only[decide_eq_true_eq,decide_eq_false_iff_not,Bool.not_eq_true',Bool.not_eq_false']at hd)|(with_reducible refine aD ?_))
 generalize hh:Tr.set h n _=h0;have u0:Up h n h0 (n+1):=by rw[<-hh];exact aL
 have g0:h0.get n=some (.row 27 (v.av C)):=by rw[<-hh];exact aM
 clear hh;rw[bA];refine Ma (K+7) (hC.up u0) ho λh1 n1 u1=>?_;have e1:=u1.le;have g1:=(u1.old n (by omega)).trans g0;cases hk:(C.valid&&(decide (0<=party)&&decide (party<C.aK)))with
 |false=>
  repeat' (first|(simp (disch:=omega) only[go_sem,ub.old,hk])|(simp (disch:=omega) only[go_sem,hk])|(with_reducible first|apply aj|apply ah|apply ay|apply aB|apply aA|apply au)<;>intro hd<;>(rw[hd];try simp only[decide_eq_true_eq,decide_eq_false_iff_not,Bool.not_eq_true',Bool.not_eq_false']at hd)|(with_reducible refine aD ?_))
  refine xL 1 _ _ (by omega) (λa b c=>?_) (u0.trans u1);rw[a,decide_eq_true b,decide_eq_true c]at hk;cases hk
 |true=>
  simp only[Bool.and_eq_true,decide_eq_true_eq]at hk;obtain⟨hv,hp0,hp1⟩:=hk;repeat' (first|(simp (disch:=omega) only[go_sem,ub.old,g1,CS.av])|(simp (disch:=omega) only[go_sem,g1,CS.av])|(with_reducible first|apply aj|apply ah|apply ay|apply aB|apply aA|apply au)<;>intro hd<;>(rw[hd];try simp only[decide_eq_true_eq,decide_eq_false_iff_not,Bool.not_eq_true',Bool.not_eq_false']at hd)|(with_reducible refine aD ?_))
  rw[bA];have MW:=u0.trans u1;refine Ib (K+2) (hC.up MW) ho hl (hT.up MW) (λe=>by rw[hv]at e;cases e) (λ_ hln h2 n2 u2=>?_) (λ_ hln hr e h2 n2 he u2=>?_) (λ_ hln cv sv dv vs eX h2 n2 run u2 rin=>?_)
  .have yY:=MW.trans u2
   have e2:=yY.le;repeat' (first|(simp (disch:=omega) only[go_sem,ub.old,QF,Int.reduceEq])|(simp (disch:=omega) only[go_sem,QF,Int.reduceEq])|(with_reducible first|apply aj|apply ah|apply ay|apply aB|apply aA|apply au)<;>intro hd<;>(rw[hd];try simp only[decide_eq_true_eq,decide_eq_false_iff_not,Bool.not_eq_true',Bool.not_eq_false']at hd)|(with_reducible refine aD ?_))
   exact xL 3 _ _ (by omega) (λ_ _ _ h=>by omega) aL
  .have yY:=MW.trans u2
   have e2:=yY.le;have hd:decide (e=0)=false:=decide_eq_false he;repeat' (first|(simp (disch:=omega) only[go_sem,ub.old,QF,hd])|(simp (disch:=omega) only[go_sem,QF,hd])|(with_reducible first|apply aj|apply ah|apply ay|apply aB|apply aA|apply au)<;>intro hd<;>(rw[hd];try simp only[decide_eq_true_eq,decide_eq_false_iff_not,Bool.not_eq_true',Bool.not_eq_false']at hd)|(with_reducible refine aD ?_))
   exact xL e _ _ he (λ_ _ _ _=>hr) aL
  .have yY:=MW.trans u2
   have e2:=u2.le;simp (disch:=omega) only[go_sem,rA];generalize hh:Tr.set (Tr.set h2 n2 _) n2 _=h3;have u3:Up h2 n2 h3 (n2+1):=by rw[<-hh];exact aL
   have g3:h3.get n2=some (.row 100 (rA cv sv tv dv)):=by rw[<-hh];exact aM
   clear hh;repeat' (first|(simp (disch:=omega) only[go_sem,ub.old])|(simp (disch:=omega) only[go_sem])|(with_reducible first|apply aj|apply ah|apply ay|apply aB|apply aA|apply au)<;>intro hd<;>(rw[hd];try simp only[decide_eq_true_eq,decide_eq_false_iff_not,Bool.not_eq_true',Bool.not_eq_false']at hd)|(with_reducible refine aD ?_))
   rw[bU];refine Ci (K+13) λj s lm sh dd h4 n4 u4 q1 q2 q3 q4 q5 q6=>?_;have e4:=u4.le;have g4:=(u4.old n2 (by omega)).trans g3;repeat' (first|(simp (disch:=omega) only[go_sem,ub.old,g3,g4,rA])|(simp (disch:=omega) only[go_sem,g3,g4,rA])|(with_reducible first|apply aj|apply ah|apply ay|apply aB|apply aA|apply au)<;>intro hd<;>(rw[hd];try simp only[decide_eq_true_eq,decide_eq_false_iff_not,Bool.not_eq_true',Bool.not_eq_false']at hd)|(with_reducible refine aD ?_))
   rw[bU];have uR:Up h2 n2 h4 n4:=u3.trans ((Up.wide h3 (by omega)).trans u4);have ad8:=rin.up uR;have oks:∀x∈eX,aU C x.2:=λx hx=>by
    obtain⟨k,hk⟩:=List.getElem?_of_mem hx;exact Mk hv run k x.2 (by rw[List.getElem?_map,hk];rfl)
   have nbs:∀x∈eX,∀b,¬gK C party ⟨x.2,b⟩:=λx hx b=>by
    obtain⟨k,hk⟩:=List.getElem?_of_mem hx;exact Ic hp0 run nb (k:=k) (by rw[List.getElem?_map,hk];rfl) b
   refine Mg K (h:=h4) (n:=n4) (l:=l) (u:=0) (j:=j) (s:=s) (lm:=lm) (ent:=[]) (vs:=vs) (eX:=eX) ad8 ⟨⟨_,rfl,q1⟩,q2,q3,λq _ x hx=>(by cases hx),q5.1,q5.2.1,q5.2.2,q6.1,q6.2.1,q6.2.2⟩ ho hl (by omega) hp0 hp1 run oks nbs λd b h5 n5 hb1 hb2 l5 x5=>?_;have g5:=(x5 n2 (by omega) (by omega)).trans g4;have l02:=yY.le;have uF:Up h n h5 n5:=⟨by omega,λx hx=>by rw[x5 x (by omega) (by omega)];exact(yY.trans uR).old x hx⟩;repeat' (first|(simp (disch:=omega) only[go_sem,ub.old,g5,DV.av])|(simp (disch:=omega) only[go_sem,g5,DV.av])|(with_reducible first|apply aj|apply ah|apply ay|apply aB|apply aA|apply au)<;>intro hd<;>(rw[hd];try simp only[decide_eq_true_eq,decide_eq_false_iff_not,Bool.not_eq_true',Bool.not_eq_false']at hd)|(with_reducible refine aD ?_))
   refine⟨by rw[g3];rfl,?_⟩;cases b with
   |false=>
    simp (disch:=omega) only[go_sem];exact AU hv hp0 hp1 _ (-1) _ _ run (λk e=>by omega) (λ_=>hb2 rfl) (by omega) (Up.st (Up.st uF _ _ (by omega)) _ _ (by omega))
   |true=>
    simp (disch:=omega) only[go_sem];exact AU hv hp0 hp1 _ (d.i:Nat) _ _ run (λk e=>by
     have:d.i=k:=by omega
     rw[<-this];exact hb1 rfl) (λe=>by omega) (by omega) (Up.st (Up.st uF _ _ (by omega)) _ _ (by omega))
end
end
end
noncomputable section
def m6:MC:=(.seq (.reg [⟨none,(.box 27 7 (.s 0)),(.k 3)⟩,⟨none,(.mv (.c (.b false))),(.k 6)⟩]) (.seq (.reg [⟨none,(.call (.c (.f 8 [])) []),.l⟩,⟨none,(.mv (.v 0)),(.k 7)⟩]) (.seq (.seq (.reg [⟨none,(.ld (some 7) (.s 3)),.l⟩,⟨none,(.mv (.s 2)),.l⟩,⟨none,(.call (.c (.f 9 [])) [(.v 1),(.c (.k 1)),(.c (.k 1)),(.v 0)]),.l⟩,⟨none,(.not (.v 0)),(.k 16)⟩]) (.cond (.s 16) (.seq (.reg [⟨none,(.mv (.s 7)),.l⟩,⟨none,(.mv (.v 0)),(.k 6)⟩]) .ret) .skip)) (.seq (.reg [⟨none,(.ld (some 7) (.s 3)),.l⟩,⟨none,(.mv (.s 1)),.l⟩,⟨none,(.mv (.s 2)),.l⟩,⟨none,(.call (.c (.f 20 [])) [(.v 2),(.v 1),(.v 0)]),.l⟩,⟨none,(.mv (.v 0)),.l⟩,⟨none,(.ext (.v 0) 0),.l⟩,⟨none,(.ext (.v 1) 1),.l⟩,⟨none,(.mv (.v 1)),(.k 8)⟩,⟨none,(.mv (.v 0)),(.k 9)⟩]) (.seq (.seq (.reg [⟨none,(.mv (.s 9)),.l⟩,⟨none,(.bin .neq 31 (.v 0) (.c (.i .i64 0))),(.k 26)⟩]) (.cond (.s 26) (.seq (.reg [⟨none,(.mv (.s 7)),.l⟩,⟨none,(.mv (.v 0)),(.k 6)⟩]) .ret) .skip)) (.seq (.reg [⟨none,(.ld (some 7) (.s 3)),.l⟩,⟨none,(.mv (.s 1)),.l⟩,⟨none,(.mv (.s 8)),.l⟩,⟨none,(.call (.c (.f 10 [])) [(.v 2),(.c (.k 1)),(.v 1),(.v 0)]),.l⟩,⟨none,(.mv (.v 0)),.l⟩,⟨none,(.ext (.v 0) 0),.l⟩,⟨none,(.ext (.v 1) 1),.l⟩,⟨none,(.mv (.v 1)),(.k 10)⟩,⟨none,(.mv (.v 0)),(.k 11)⟩]) (.seq (.reg [⟨none,(.mv (.s 7)),.l⟩,⟨none,(.mv (.v 0)),.l⟩,⟨(some ((.v 0),true)),(.mv (.s 11)),.l⟩,⟨(some ((.v 1),true)),(.bin .eql 31 (.v 0) (.c (.i .i64 0))),.l⟩,⟨(some ((.v 2),true)),(.mv (.v 0)),.l⟩,⟨(some ((.v 0),true)),(.mv (.s 10)),.l⟩,⟨(some ((.v 1),true)),(.bin .eql 3 (.v 0) (.c (.i .i64 (.negSucc 0)))),.l⟩,⟨(some ((.v 5),true)),(.pick (.v 2) (.v 0) (.c (.b false))),.l⟩,⟨(some ((.v 6),true)),(.mv (.v 0)),.l⟩,⟨(some ((.v 0),false)),(.mv (.s 11)),.l⟩,⟨(some ((.v 1),false)),(.bin .eql 31 (.v 0) (.c (.i .i64 3))),.l⟩,⟨(some ((.v 9),true)),(.pick (.v 2) (.c (.b true)) (.v 0)),.l⟩,⟨none,(.pick (.v 10) (.v 0) (.c (.b false))),.l⟩,⟨none,(.mv (.v 0)),(.k 6)⟩]) .ret)))))))
theorem c6:dM Tryz.prog sl0 6=some ([true,true,true],m6,[(.t 6)]):=by kernel_rfl
def m9:MC:=(.seq (.reg [⟨none,(.box 27 7 (.s 0)),(.k 4)⟩,⟨none,(.mv (.c (.b false))),(.k 8)⟩]) (.seq (.reg [⟨none,(.ld (some 7) (.s 4)),.l⟩,⟨none,(.call (.c (.f 28 [])) [(.v 0)]),.l⟩,⟨none,(.mv (.v 0)),.l⟩,⟨(some ((.v 0),true)),(.fa 4 (.s 4)),.l⟩,⟨(some ((.v 1),true)),(.ld none (.v 0)),.l⟩,⟨(some ((.v 2),true)),(.bf (.v 0)),.l⟩,⟨(some ((.v 3),true)),(.bin .leq 3 (.v 0) (.c (.i .i64 3))),.l⟩,⟨none,(.pick (.v 4) (.v 0) (.c (.b false))),.l⟩,⟨none,(.mv (.v 0)),.l⟩,⟨(some ((.v 0),true)),(.fa 5 (.s 4)),.l⟩,⟨(some ((.v 1),true)),(.ld none (.v 0)),.l⟩,⟨(some ((.v 2),true)),(.bin .leq 3 (.v 0) (.c (.i .i64 8))),.l⟩,⟨none,(.pick (.v 3) (.v 0) (.c (.b false))),.l⟩,⟨none,(.mv (.v 0)),.l⟩,⟨(some ((.v 0),true)),(.mv (.s 1)),.l⟩,⟨(some ((.v 1),true)),(.call (.c (.f 29 [])) [(.v 0),(.c (.i .i64 2))]),.l⟩,⟨none,(.pick (.v 2) (.v 0) (.c (.b false))),.l⟩,⟨none,(.mv (.v 0)),.l⟩,⟨(some ((.v 0),true)),(.mv (.s 2)),.l⟩,⟨(some ((.v 1),true)),(.call (.c (.f 30 [])) [(.v 0)]),.l⟩,⟨none,(.pick (.v 2) (.v 0) (.c (.b false))),.l⟩,⟨none,(.mv (.v 0)),.l⟩,⟨(some ((.v 0),true)),(.mv (.s 3)),.l⟩,⟨(some ((.v 1),true)),(.bf (.v 0)),.l⟩,⟨(some ((.v 2),true)),(.bin .leq 3 (.v 0) (.c (.i .i64 16))),.l⟩,⟨none,(.pick (.v 3) (.v 0) (.c (.b false))),.l⟩,⟨none,(.mv (.v 0)),(.k 8)⟩]) .ret))
theorem c9:dM Tryz.prog sl0 9=some ([true,true,true,true],m9,[(.t 8)]):=by kernel_rfl
def m28:MC:=(.seq (.reg [⟨none,(.box 27 7 (.s 0)),(.k 1)⟩,⟨none,(.mv (.c (.b false))),(.k 2)⟩]) (.seq (.reg [⟨none,(.ld (some 7) (.s 1)),.l⟩,⟨none,(.call (.c (.f 14 [])) [(.v 0),(.c (.i .i64 6))]),.l⟩,⟨none,(.mv (.v 0)),.l⟩,⟨(some ((.v 0),true)),(.fa 3 (.s 1)),.l⟩,⟨(some ((.v 1),true)),(.ld none (.v 0)),.l⟩,⟨(some ((.v 2),true)),(.bf (.v 0)),.l⟩,⟨(some ((.v 3),true)),(.bin .leq 3 (.v 0) (.c (.i .i64 8))),.l⟩,⟨none,(.pick (.v 4) (.v 0) (.c (.b false))),.l⟩,⟨none,(.mv (.v 0)),.l⟩,⟨(some ((.v 0),true)),(.fa 5 (.s 1)),.l⟩,⟨(some ((.v 1),true)),(.ld none (.v 0)),.l⟩,⟨(some ((.v 2),true)),(.bin .leq 3 (.v 0) (.c (.i .i64 20))),.l⟩,⟨none,(.pick (.v 3) (.v 0) (.c (.b false))),.l⟩,⟨none,(.mv (.v 0)),(.k 2)⟩]) .ret))
theorem c28:dM Tryz.prog sl0 28=some ([true],m28,[(.t 2)]):=by kernel_rfl
def QG:MC:=(.seq (.seq (.reg [⟨none,(.mv (.s 5)),.l⟩,⟨none,(.fa 4 (.s 2)),.l⟩,⟨none,(.ld none (.v 0)),.l⟩,⟨none,(.bf (.v 0)),.l⟩,⟨none,(.bin .lss 3 (.v 3) (.v 0)),(.k 39)⟩]) (.cond (.s 39) .skip (.exit 0))) (.seq (.blk 1 (.seq (.reg [⟨none,(.fa 4 (.s 2)),.l⟩,⟨none,(.ld none (.v 0)),.l⟩,⟨none,(.mv (.s 5)),.l⟩,⟨none,(.bM 16 (.v 1) (.v 0)),.l⟩,⟨none,(.fa 4 (.v 0)),.l⟩,⟨none,(.ld none (.v 0)),.l⟩,⟨none,(.bf (.v 0)),.l⟩,⟨none,(.bin .gtr 3 (.v 0) (.c (.i .i64 20))),(.k 49)⟩]) (.cond (.s 49) (.seq (.reg [⟨none,(.mv (.c (.b false))),(.k 4)⟩]) .ret) .skip))) (.reg [⟨none,(.mv (.s 5)),.l⟩,⟨none,(.bin .add 3 (.v 0) (.c (.i .i64 1))),.l⟩,⟨none,(.mv (.v 0)),(.k 5)⟩])))
def m14:MC:=(.seq (.reg [⟨none,(.box 27 7 (.s 0)),(.k 2)⟩,⟨none,(.mv (.c (.b false))),(.k 4)⟩]) (.seq (.seq (.reg [⟨none,(.fa 1 (.s 2)),.l⟩,⟨none,(.ld none (.v 0)),.l⟩,⟨none,(.bf (.v 0)),.l⟩,⟨none,(.bin .gtr 3 (.v 0) (.c (.i .i64 20))),.l⟩,⟨none,(.mv (.v 0)),.l⟩,⟨(some ((.v 0),false)),(.fa 2 (.s 2)),.l⟩,⟨(some ((.v 1),false)),(.ld none (.v 0)),.l⟩,⟨(some ((.v 2),false)),(.bf (.v 0)),.l⟩,⟨(some ((.v 3),false)),(.bin .gtr 3 (.v 0) (.c (.i .i64 30))),.l⟩,⟨none,(.pick (.v 4) (.c (.b true)) (.v 0)),.l⟩,⟨none,(.mv (.v 0)),.l⟩,⟨(some ((.v 0),false)),(.fa 3 (.s 2)),.l⟩,⟨(some ((.v 1),false)),(.ld none (.v 0)),.l⟩,⟨(some ((.v 2),false)),(.bf (.v 0)),.l⟩,⟨(some ((.v 3),false)),(.bin .gtr 3 (.v 0) (.c (.i .i64 70))),.l⟩,⟨none,(.pick (.v 4) (.c (.b true)) (.v 0)),.l⟩,⟨none,(.mv (.v 0)),.l⟩,⟨(some ((.v 0),false)),(.fa 4 (.s 2)),.l⟩,⟨(some ((.v 1),false)),(.ld none (.v 0)),.l⟩,⟨(some ((.v 2),false)),(.bf (.v 0)),.l⟩,⟨(some ((.v 3),false)),(.mv (.s 1)),.l⟩,⟨(some ((.v 4),false)),(.bin .gtr 3 (.v 1) (.v 0)),.l⟩,⟨none,(.pick (.v 5) (.c (.b true)) (.v 0)),.l⟩,⟨none,(.mv (.v 0)),.l⟩,⟨(some ((.v 0),false)),(.fa 6 (.s 2)),.l⟩,⟨(some ((.v 1),false)),(.ld none (.v 0)),.l⟩,⟨(some ((.v 2),false)),(.bf (.v 0)),.l⟩,⟨(some ((.v 3),false)),(.bin .gtr 3 (.v 0) (.c (.i .i64 100))),.l⟩,⟨none,(.pick (.v 4) (.c (.b true)) (.v 0)),(.k 34)⟩]) (.cond (.s 34) (.seq (.reg [⟨none,(.mv (.c (.b false))),(.k 4)⟩]) .ret) .skip)) (.seq (.seq (.reg [⟨none,(.mv (.c (.i .i64 0))),(.k 5)⟩]) (.blk 0 (.loop QG))) (.seq (.reg [⟨none,(.mv (.c (.b true))),(.k 4)⟩]) .ret))))
theorem c14:dM Tryz.prog sl0 14=some ([true,true],m14,[(.t 4)]):=by kernel_rfl
end
end Go.Proofs.YtjoohkjmoghmoaaGreatDoor
