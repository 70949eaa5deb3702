/- part -/
import Derived.Test.YtjoohkjmoghmoaaGreatDoorP18
set_option linter.all false
namespace Go.Proofs.YtjoohkjmoghmoaaGreatDoor
section
noncomputable section
def uN(b:Bool):List UInt8:=wr (if b then 1 else 0)
def mkK(m:aG):List UInt8:=wr m.status++wr m.left++wr m.got++wr m.aT++uN m.paused
def yg(p:aS):List UInt8:=uN p.own++wr p.st.day++p.st.aC.flatMap wr++p.st.used.flatMap uN++p.st.marks.flatMap mkK
theorem oZ(b:Bool):(uN b).length<=6:=dU _
theorem FU(m:aG):(mkK m).length<=30:=by
 unfold mkK;have h1:=dU m.status;have h2:=dU m.left;have h3:=dU m.got;have h4:=dU m.aT;have h5:=oZ m.paused;simp only[List.length_append];omega
theorem uh{x y:Bool}{r s:List UInt8}(h:uN x++r=uN y++s):x=y/\r=s:=by
 unfold uN at h;obtain⟨h1,h2⟩:=fT (by unfold NB;split<;>omega) (by unfold NB;split<;>omega) h;refine⟨?_,h2⟩;cases x<;>cases y<;>simp at h1⊢
theorem Hy{x y:aG}{r s:List UInt8}(hx:NB x.status/\NB x.left/\NB x.got/\NB x.aT)(hy:NB y.status/\NB y.left/\NB y.got/\NB y.aT)(h:mkK x++r=mkK y++s):x=y/\r=s:=by
 obtain⟨x1,x2,x3,x4,x5⟩:=x;obtain⟨y1,y2,y3,y4,y5⟩:=y;unfold mkK at h;simp only[List.append_assoc]at h;obtain⟨e1,h⟩:=fT hx.1 hy.1 h;obtain⟨e2,h⟩:=fT hx.2.1 hy.2.1 h;obtain⟨e3,h⟩:=fT hx.2.2.1 hy.2.2.1 h;obtain⟨e4,h⟩:=fT hx.2.2.2 hy.2.2.2 h;obtain⟨e5,h⟩:=uh h;dsimp only at e1 e2 e3 e4 e5;exact⟨by rw[e1,e2,e3,e4,e5],h⟩
theorem O6{C:aH}{p q:aS}(hp:aU C p.st)(hq:aU C q.st)(h:yg p=yg q):p=q:=by
 have bp:=hp.pb p.own;have bq:=hq.pb q.own;unfold yg at h;rw[<-List.append_nil (p.st.marks.flatMap mkK),<-List.append_nil (q.st.marks.flatMap mkK)]at h;simp only[List.append_assoc]at h;obtain⟨e1,h⟩:=uh h;obtain⟨e2,h⟩:=fT bp.day bq.day h;obtain⟨e3,h⟩:=jF (B:=NB) (λx y r s=>fT) (by rw[hp.lh,hq.lh]) bp.aC bq.aC h;obtain⟨e4,h⟩:=jF (f:=uN) (B:=λ_=>True) (λx y r s _ _=>uh) (by rw[hp.lu,hq.lu]) (λ_ _=>trivial) (λ_ _=>trivial) h;obtain⟨e5,h⟩:=jF (B:=λx=>NB x.status/\NB x.left/\NB x.got/\NB x.aT) (λx y r s=>Hy) (by rw[hp.lm,hq.lm]) bp.marks bq.marks h;obtain⟨⟨d,hs,us,ms⟩,o⟩:=p;obtain⟨⟨d',hs',us',ms'⟩,o'⟩:=q;cases e1;cases e2;cases e3;cases e4;cases e5
 rfl
section
variable {P P':Nat->Prop} {h h':AH} {n n' T tb:Nat} {l:List UInt8} {Q:AV->AH->Nat->Prop} {tv:TS} {p:aS}
theorem ou(K:Nat)(t:Tx h n P T tb l)(hl:l.length<=800000){x:Int}(hx:NB x)(hQ:∀h' n',Tx h' n' P T tb (l++wr x)->UP P h n h' n'->Q (.bV []) h' n'):CW (EF (K+5)) 192 [.i .i64 x,.p tb 0] h n Q:=by
 obtain⟨v,h1,h2,h3⟩:=t.ex;have hlt:=t.hi;have htn:(tn x).length<=5:=by have:=dU x;unfold wr at this;simp at this;omega
 refine aJ adI rfl ?_;simp (disch:=omega) only[go_sem,XU,h1];rw[bA];refine yO _ h2 (by omega) hx.1 hx.2 λv' h4 n4 g4 l4 s4 b4=>?_;simp (disch:=omega) only[go_sem];refine su (b:=32) (g4.up aL) (by simp;omega) rfl rfl aM λv5 h5 n5 g5 l5 s5 b5=>?_;have WY:∀y,y<n->¬blk v y->h5.get y=h.get y:=λy hy hb=>by
  rw[s5 y (by omega) (λe=>by rcases b4 y e with e|e;exact hb e;omega),aI (by omega),s4 y hy hb]
 obtain⟨q1,q2,q3⟩:=t.put h1 h3 (Up.refl _ _) g5 (by omega) WY λy hy=>by
  rcases b5 y hy with e|e
  .exact b4 y e
  .exact .inr (by omega)
 simp (disch:=omega) only[go_sem,q1,g5.cl];rw[List.append_assoc]at q2;exact hQ _ _ q2 q3
theorem xD(K:Nat){b4:Nat}(t:Tx h n P T tb l)(hl:l.length<=800000)(h4:h.get b4=some (.row 146 [.f 192 [.p tb 0]]))(b:Bool)(hQ:∀h' n',Tx h' n' P T tb (l++uN b)->UP P h n h' n'->Q (.bV []) h' n'):CW (EF (K+6)) 193 [.b b,.p b4 0] h n Q:=by
 refine aJ c193 rfl ?_;cases b with
 |true=>
  simp (disch:=omega) only[go_sem,Tp,h4];rw[lF];refine ou _ t hl (x:=1) (by unfold NB;omega) λh2 n2 t2 u2=>?_;simp (disch:=omega) only[go_sem];exact hQ _ _ t2 u2
 |false=>
  simp (disch:=omega) only[go_sem,Tp,h4];rw[lF];refine ou _ t hl (x:=0) (by unfold NB;omega) λh2 n2 t2 u2=>?_;simp (disch:=omega) only[go_sem];exact hQ _ _ t2 u2
theorem Tz(K:Nat)(hS:dO h n tv p.st)(pb:PB p)(hQ:∀h' n',Up h n h' n'->Q (.s (yg p)) h' n'):CW (EF (K+7)) 118 [.agg (tv.pv p)] h n Q:=by
 have lh:=pb.lh;have lu:=pb.lu;have lm:=pb.lm;refine aJ adH rfl ?_;repeat' (first|(simp (disch:=omega) only[go_sem,XT])|(with_reducible first|apply aj|apply ah|apply ay|apply aB|apply aA|apply au)<;>intro hd<;>(rw[hd];try simp only[decide_eq_true_eq,decide_eq_false_iff_not,Bool.not_eq_true',Bool.not_eq_false']at hd)|(with_reducible refine aD ?_))
 generalize hh:Tr.set (Tr.set (Tr.set (Tr.set h n _) (n+1) _) (n+1+1) _) (n+1+1) _=h1;have u1:Up h n h1 (n+1+1+1):=by rw[<-hh];exact aL
 have q1:h1.get n=some (.row 45 (tv.pv p)):=by rw[<-hh];simp (disch:=omega) only[go_sem]
 have q4:h1.get (n+1+1)=some (.row 146 [.f 192 [.p (n+1) 0]]):=by rw[<-hh];simp (disch:=omega) only[go_sem]
 have t1:Tx h1 (n+1+1+1) (λx=>x<n+3/\x≠n+1) 306 (n+1) []:=by
  refine⟨by omega,by omega,λx hx=>by omega,.k 1,by rw[<-hh];simp (disch:=omega) only[go_sem],Gr.nil λ_=>rfl,λx hx=>absurd hx gM⟩
 clear hh;have OL:∀{hk nk},UP (λx=>x<n+3/\x≠n+1) h1 (n+1+1+1) hk nk->Up h n hk nk:=λ{hk nk} u=>⟨by have:=u.le;omega,λx hx=>(u.at_ (show x<n+3/\x≠n+1 by omega) (by omega)).trans (u1.old x hx)⟩;have rn:∀{hk nk},UP (λx=>x<n+3/\x≠n+1) h1 (n+1+1+1) hk nk->hk.get n=some (.row 45 (tv.pv p))/\hk.get (n+1+1)=some (.row 146 [.f 192 [.p (n+1) 0]]):=λ{hk nk} u=>⟨(u.at_ (show n<n+3/\n≠n+1 by omega) (by omega)).trans q1,(u.at_ (show n+1+1<n+3/\n+1+1≠n+1 by omega) (by omega)).trans q4⟩;rw[lF];refine xD _ t1 (by simp) q4 p.own λh2 n2 t2 u2=>?_;obtain⟨q2,q42⟩:=rn u2;have e1:=oZ p.own;simp (disch:=omega) only[go_sem,q2,q42,TS.pv];rw[lF];refine ou _ t2 (by simp;omega) pb.day λh3 n3 t3 u3=>?_;have xA:UP (λx=>x<n+3/\x≠n+1) h1 (n+1+1+1) h3 n3:=u2.trans u3;obtain⟨q3,q43⟩:=rn xA;have e2:=dU p.st.day;simp (disch:=omega) only[go_sem,q3,TS.pv,hS.aC.len];refine dD p.st.aC.length (λk h8 n8 G=>Tx h8 n8 (λx=>x<n+3/\x≠n+1) 306 (n+1) (uN p.own++wr p.st.day++(p.st.aC.take k).flatMap wr)/\UP (λx=>x<n+3/\x≠n+1) h1 (n+1+1+1) h8 n8/\G=[(1,.p n 0),(3,.p (n+1) 0),(4,.p (n+1+1) 0),(5,.f 193 [.p (n+1+1) 0]),(25,tv.h)]) (by omega) (by omega) (by omega) (by omega) (λk h8 n8 G ⟨_,_,e⟩=>by subst e;exact⟨rfl,rfl⟩) ⟨rfl,rfl,_,⟨by simpa using t3,xA,rfl⟩,by(repeat' (first|exact aZ|refine aW rfl ?_))⟩ ?_ ?_
 .rintro k h8 n8 G hk ⟨t8,u8,rfl⟩
  obtain⟨r1,r4⟩:=rn u8;obtain⟨b1,o1,a,i1,ha,hb1,rd⟩:=(hS.aC.up (OL u8)).fE (k:=(k:Nat)) (by omega) (by omega) (by omega);rw[show((k:Nat):Int).toNat=k by omega]at ha;have hlen:=gQ (f:=wr) (k:=6) dU (p.st.aC.take k);have htk:=List.length_take_le k p.st.aC;have hpre:(uN p.own++wr p.st.day).length<=30000:=by simp only[List.length_append];omega
  simp (disch:=omega) only[go_sem,LM,aR i1,rd.el,rd.hd,r4];rw[lF];refine ou _ t8 (by simp only[List.length_append];simp only[List.length_append]at hpre;omega) (pb.aC a (List.mem_of_getElem? ha)) λh9 n9 t9 u9=>?_;simp (disch:=omega) only[go_sem];rw[List.append_assoc,<-lC ha]at t9;exact⟨rfl,rfl,_,⟨t9,u8.trans u9,rfl⟩,by(repeat' (first|exact aZ|refine aW rfl ?_))⟩
 rintro h3 n3 G ⟨t3,xA,rfl⟩;rw[List.take_length]at t3;obtain⟨q3,q43⟩:=rn xA;have hlh:=gQ (f:=wr) dU p.st.aC;simp (disch:=omega) only[go_sem,q3,TS.pv,hS.used.len];refine dD p.st.used.length (λk h8 n8 G=>Tx h8 n8 (λx=>x<n+3/\x≠n+1) 306 (n+1) (uN p.own++wr p.st.day++p.st.aC.flatMap wr++(p.st.used.take k).flatMap uN)/\UP (λx=>x<n+3/\x≠n+1) h1 (n+1+1+1) h8 n8/\G=[(1,.p n 0),(3,.p (n+1) 0),(4,.p (n+1+1) 0),(5,.f 193 [.p (n+1+1) 0]),(37,tv.u)]) (by omega) (by omega) (by omega) (by omega) (λk h8 n8 G ⟨_,_,e⟩=>by subst e;exact⟨rfl,rfl⟩) ⟨rfl,rfl,_,⟨by simpa using t3,xA,rfl⟩,by(repeat' (first|exact aZ|refine aW rfl ?_))⟩ ?_ ?_
 .rintro k h8 n8 G hk ⟨t8,u8,rfl⟩
  obtain⟨r1,r4⟩:=rn u8;obtain⟨b1,o1,a,i1,ha,hb1,rd⟩:=(hS.used.up (OL u8)).fE (k:=(k:Nat)) (by omega) (by omega) (by omega);rw[show((k:Nat):Int).toNat=k by omega]at ha;have hlen:=gQ (f:=uN) (k:=6) oZ (p.st.used.take k);have htk:=List.length_take_le k p.st.used;have hpre:(uN p.own++wr p.st.day++p.st.aC.flatMap wr).length<=30000:=by simp only[List.length_append];omega
  simp (disch:=omega) only[go_sem,LK,aR i1,rd.el,rd.hd];rw[lF];refine xD _ t8 (by simp only[List.length_append];simp only[List.length_append]at hpre;omega) r4 a λh9 n9 t9 u9=>?_;simp (disch:=omega) only[go_sem];rw[List.append_assoc,<-lC ha]at t9;exact⟨rfl,rfl,_,⟨t9,u8.trans u9,rfl⟩,by(repeat' (first|exact aZ|refine aW rfl ?_))⟩
 rintro h3 n3 G ⟨t3,xA,rfl⟩;rw[List.take_length]at t3;obtain⟨q3,q43⟩:=rn xA;have hlu:=gQ (f:=uN) oZ p.st.used;simp (disch:=omega) only[go_sem,q3,TS.pv,hS.marks.len];refine dD p.st.marks.length (λk h8 n8 G=>Tx h8 n8 (λx=>x<n+3/\x≠n+1) 306 (n+1) (uN p.own++wr p.st.day++p.st.aC.flatMap wr++p.st.used.flatMap uN++(p.st.marks.take k).flatMap mkK)/\UP (λx=>x<n+3/\x≠n+1) h1 (n+1+1+1) h8 n8/\G=[(1,.p n 0),(3,.p (n+1) 0),(4,.p (n+1+1) 0),(5,.f 193 [.p (n+1+1) 0]),(49,tv.m)]) (by omega) (by omega) (by omega) (by omega) (λk h8 n8 G ⟨_,_,e⟩=>by subst e;exact⟨rfl,rfl⟩) ⟨rfl,rfl,_,⟨by simpa using t3,xA,rfl⟩,by(repeat' (first|exact aZ|refine aW rfl ?_))⟩ ?_ ?_
 .rintro k h8 n8 G hk ⟨t8,u8,rfl⟩
  obtain⟨r1,r4⟩:=rn u8;obtain⟨b1,o1,a,i1,ha,hb1,rd⟩:=(hS.marks.up (OL u8)).fE (k:=(k:Nat)) (by omega) (by omega) (by omega);rw[show((k:Nat):Int).toNat=k by omega]at ha;have hlen:=gQ (f:=mkK) (k:=30) FU (p.st.marks.take k);have htk:=List.length_take_le k p.st.marks;have hpre:(uN p.own++wr p.st.day++p.st.aC.flatMap wr++p.st.used.flatMap uN).length<=30000:=by simp only[List.length_append];omega
  have hb:=pb.marks a (List.mem_of_getElem? ha);have v1:=dU a.status;have v2:=dU a.left;have v3:=dU a.got;have v4:=dU a.aT;have hlp:(uN p.own++wr p.st.day++p.st.aC.flatMap wr++p.st.used.flatMap uN++(p.st.marks.take k).flatMap mkK).length<=60000:=by
   simp only[List.length_append]at hpre⊢;omega
  generalize uN p.own++wr p.st.day++p.st.aC.flatMap wr++p.st.used.flatMap uN=pre at*;have n28:n+2<n8:=by have:=u8.le;omega
  simp (disch:=omega) only[go_sem,LJ,aR i1,rd.el,rd.hd,rd.all,r4];generalize hg:Tr.set (Tr.set h8 n8 _) n8 _=h10;have Qk:Up h8 n8 h10 (n8+1):=by rw[<-hg];exact aL
  have k0:h10.get n8=some (.row 144 a.av):=by rw[<-hg];simp (disch:=omega) only[go_sem]
  have c0:h10.get (n+1+1)=some (.row 146 [.f 192 [.p (n+1) 0]]):=(Qk.old _ (by omega)).trans r4;have t10:=t8.box Qk (Nat.lt_succ_self n8);clear hg;have pm:∀x,(x=n8\/x=n+1+1)->((x<n+3/\x≠n+1)\/x=n8):=λx e=>by omega
  rw[lF];refine ou _ t10 (by simp only[List.length_append]at hlp⊢;omega) hb.1 λh11 n11 t11 Ql=>?_;have k1:=(Ql.at_ (pm _ (.inl rfl)) (Nat.lt_succ_self n8)).trans k0;have c1:=(Ql.at_ (pm _ (.inr rfl)) (by omega)).trans c0;have l11:=Ql.le;simp (disch:=omega) only[go_sem,k1,c1];rw[lF];refine ou _ t11 (by simp only[List.length_append]at hlp⊢;omega) hb.2.1 λh12 n12 t12 yP=>?_;have k2:=(yP.at_ (pm _ (.inl rfl)) (by omega)).trans k1;have c2:=(yP.at_ (pm _ (.inr rfl)) (by omega)).trans c1;have l12:=yP.le;simp (disch:=omega) only[go_sem,k2,c2];rw[lF];refine ou _ t12 (by simp only[List.length_append]at hlp⊢;omega) hb.2.2.1 λUN n13 t13 FH=>?_;have k3:=(FH.at_ (pm _ (.inl rfl)) (by omega)).trans k2;have c3:=(FH.at_ (pm _ (.inr rfl)) (by omega)).trans c2;have l13:=FH.le;simp (disch:=omega) only[go_sem,k3,c3];rw[lF];refine ou _ t13 (by simp only[List.length_append]at hlp⊢;omega) hb.2.2.2 λh14 n14 t14 Qm=>?_;have k4:=(Qm.at_ (pm _ (.inl rfl)) (by omega)).trans k3;have c4:=(Qm.at_ (pm _ (.inr rfl)) (by omega)).trans c3;have Hf:=Qm.le;simp (disch:=omega) only[go_sem,k4];rw[lF];refine xD _ t14 (by simp only[List.length_append]at hlp⊢;omega) c4 a.paused λQn n15 t15 u15=>?_;simp (disch:=omega) only[go_sem];have t16:=t15.wk (P':=(λx=>x<n+3/\x≠n+1)) λx hx=>.inl hx;have e16:pre++(p.st.marks.take k).flatMap mkK++wr a.status++wr a.left++wr a.got++wr a.aT++uN a.paused=pre++(p.st.marks.take (k+1)).flatMap mkK:=by
   rw[lC ha,mkK];simp only[List.append_assoc]
  rw[e16]at t16;have uu2:UP (λx=>x<n+3/\x≠n+1) h10 (n8+1) Qn n15:=UP.wk (P:=λx=>(λx=>x<n+3/\x≠n+1) x\/x=n8) (UX.trans (UX.trans (UX.trans (UX.trans Ql yP) FH) Qm) u15) λx hx=>.inl hx;exact⟨rfl,rfl,_,⟨t16,(u8.trans (UX.up Qk)).trans uu2,rfl⟩,by(repeat' (first|exact aZ|refine aW rfl ?_))⟩
 rintro h3 n3 G ⟨t3,xA,rfl⟩;rw[List.take_length]at t3;obtain⟨v,r1,r2,r3⟩:=t3.ex;have hcb:Rc h3 (some v)=some (.s (yg p)):=Gr.Gw r2;simp (disch:=omega) only[go_sem,r1,hcb];exact hQ _ _ (OL xA)
end
end
end
section
noncomputable section
section
variable {h h':AH} {n n':Nat} {Q:AV->AH->Nat->Prop} {tv:TS} {p:aS}
theorem FV{P:Program}{ty:TypeId}{a b:List UInt8}(hl:a.length+b.length<=1048576):(dS P ty .add).run (.s a) (.s b)=some (.s (a++b)):=by
 show bc (Nat.ble (Nat.add (lI a) (lI b)) 1048576) (some (AV.s (AJ a b))) none=_;rw[eu,eu,Nat.ble_eq_true_of_le (by show a.length+b.length<=_;exact hl),bJ,iB]
theorem L_(pb:PB p):(yg p).length<=50000:=by
 have lh:=pb.lh;have lu:=pb.lu;have lm:=pb.lm;have h1:=gQ (f:=wr) dU p.st.aC;have h2:=gQ (f:=uN) oZ p.st.used;have h3:=gQ (f:=mkK) FU p.st.marks;have h4:=oZ p.own;have h5:=dU p.st.day;unfold yg;simp only[List.length_append];omega
theorem Hz(K:Nat){u:Nat}(hu:u<100)(hQ:∀h' n',Up h n h' n'->Q (.s (dec u)) h' n'):CW (EF (K+2)) 254 [.i .i64 (u:Nat),.i .i64 10] h n Q:=by
 refine aJ acQ rfl ?_;have hd0:decide ((0:Int)<=(u:Int))=true:=decide_eq_true (by omega);have hd:decide ((u:Int)<100)=true:=decide_eq_true (by omega);repeat' (first|(simp (disch:=omega) only[go_sem,ub.old,Sz,Int.reduceEq,hd0,hd,n_])|(simp (disch:=omega) only[go_sem,Sz,Int.reduceEq,hd0,hd,n_])|(with_reducible first|apply aj|apply ah|apply ay|apply aB|apply aA|apply au)<;>intro hd<;>(rw[hd];try simp only[decide_eq_true_eq,decide_eq_false_iff_not,Bool.not_eq_true',Bool.not_eq_false']at hd)|(with_reducible refine aD ?_))
 rw[bA];refine B_ _ hu λh2 n2 u2=>?_;repeat' (first|(simp (disch:=omega) only[go_sem,ub.old])|(simp (disch:=omega) only[go_sem])|(with_reducible first|apply aj|apply ah|apply ay|apply aB|apply aA|apply au)<;>intro hd<;>(rw[hd];try simp only[decide_eq_true_eq,decide_eq_false_iff_not,Bool.not_eq_true',Bool.not_eq_false']at hd)|(with_reducible refine aD ?_))
 exact hQ _ _ u2
theorem O7(K:Nat){u:Nat}(hu:u<100)(hQ:∀h' n',Up h n h' n'->Q (.s (dec u)) h' n'):CW (EF (K+4)) 117 [.i .i64 (u:Nat)] h n Q:=by
 refine aJ c117 rfl ?_;simp (disch:=omega) only[go_sem,WU];rw[bA];refine aJ acR rfl ?_;simp (disch:=omega) only[go_sem,WT];rw[bA];refine Hz _ hu λh2 n2 u2=>?_;simp (disch:=omega) only[go_sem];exact hQ _ _ u2
def jZ(u:Nat)(p:aS):List UInt8:=dec u++[58]++yg p
theorem HV{C:aH}{u:Nat}{p q:aS}(hp:aU C p.st)(hq:aU C q.st)(h:jZ u p=jZ u q):p=q:=
 O6 hp hq (List.append_cancel_left h)
theorem sI(K:Nat){u b11:Nat}(hu:u<100)(hb:h.get b11=some (.row 3 [.i .i64 (u:Nat)]))(hn:b11<n)(hS:dO h n tv p.st)(pb:PB p)(hQ:∀h' n',Up h n h' n'->Q (.s (jZ u p)) h' n'):CW (EF (K+8)) 116 [.agg (tv.pv p),.p b11 0] h n Q:=by
 refine aJ c116 rfl ?_;repeat' (first|(simp (disch:=omega) only[go_sem,ub.old,Tn,hb])|(simp (disch:=omega) only[go_sem,Tn,hb])|(with_reducible first|apply aj|apply ah|apply ay|apply aB|apply aA|apply au)<;>intro hd<;>(rw[hd];try simp only[decide_eq_true_eq,decide_eq_false_iff_not,Bool.not_eq_true',Bool.not_eq_false']at hd)|(with_reducible refine aD ?_))
 rw[bU];refine O7 _ hu λh2 n2 u2=>?_;have e2:=u2.le;have dl:=vK u;have kl:=L_ pb;have q2:h2.get n=some (.row 45 (tv.pv p)):=by rw[u2.old _ (by omega)];exact aM
 have e1:∀P ty,(dS P ty .add).run (.s (dec u)) (.s [58])=some (.s (dec u++[58])):=λP ty=>FV (by simp;omega);have e3:∀P ty,(dS P ty .add).run (.s (dec u++[58])) (.s (yg p))=some (.s (dec u++[58]++yg p)):=λP ty=>FV (by simp;omega);repeat' (first|(simp (disch:=omega) only[go_sem,ub.old,e1,q2])|(simp (disch:=omega) only[go_sem,e1,q2])|(with_reducible first|apply aj|apply ah|apply ay|apply aB|apply aA|apply au)<;>intro hd<;>(rw[hd];try simp only[decide_eq_true_eq,decide_eq_false_iff_not,Bool.not_eq_true',Bool.not_eq_false']at hd)|(with_reducible refine aD ?_))
 rw[bU];refine Tz _ (hS.up aL) pb λh3 n3 u3=>?_;repeat' (first|(simp (disch:=omega) only[go_sem,ub.old,e3,q2])|(simp (disch:=omega) only[go_sem,e3,q2])|(with_reducible first|apply aj|apply ah|apply ay|apply aB|apply aA|apply au)<;>intro hd<;>(rw[hd];try simp only[decide_eq_true_eq,decide_eq_false_iff_not,Bool.not_eq_true',Bool.not_eq_false']at hd)|(with_reducible refine aD ?_))
 exact hQ _ _ aL
end
end
end
section
noncomputable section
@[reducible] def Uw (x:TS×aO):List AV:=x.1.av x.2
@[reducible] def rA (cv sv tv dv:AV):List AV:=[cv,sv,tv,dv]
section
variable {h h':AH} {n n':Nat} {Q:AV->AH->Nat->Prop} {v:CS} {C:aH} {cv sv tv dv:AV} {eX:List (TS×aO)}
theorem oz(K:Nat)(hs:SL h n 4 sv Uw eX){k:Nat}{x:TS×aO}(hk:eX[k]?=some x)(hQ:∀h' n',Up h n h' n'->Q (.agg (x.1.pv ⟨x.2,true⟩)) h' n'):CW (EF (K+1)) 90 [.agg (rA cv sv tv dv),.i .i64 (k:Nat)] h n Q:=by
 have hkl:=(List.getElem?_eq_some_iff.1 hk).1;obtain⟨b1,o1,y,i1,hy,hb1,rd⟩:=hs.fE (k:=(k:Nat)) (by omega) (by omega) (by omega);rw[show((k:Nat):Int).toNat=k by omega,hk]at hy;cases hy
 refine aJ c90 rfl ?_;repeat' (first|(simp (disch:=omega) only[go_sem,m90,rA,aR i1,rd.all,TS.av])|(with_reducible first|apply aj|apply ah|apply ay|apply aB|apply aA|apply au)<;>intro hd<;>(rw[hd];try simp only[decide_eq_true_eq,decide_eq_false_iff_not,Bool.not_eq_true',Bool.not_eq_false']at hd)|(with_reducible refine aD ?_))
 exact hQ _ _ aL
theorem Ma(K:Nat)(hC:bG h n v C)(ho:C.off.length<=1000000){party:Int}(hQ:∀h' n',Up h n h' n'->Q (.b (C.valid&&(decide (0<=party)&&decide (party<C.aK)))) h' n'):CW (EF (K+7)) 31 [.agg (v.av C),.i .i64 party] h n Q:=by
 refine aJ c31 rfl ?_;repeat' (first|(simp (disch:=omega) only[go_sem,ub.old,m31,CS.av])|(simp (disch:=omega) only[go_sem,m31,CS.av])|((first|rw[bA]|rw[bU]);with_reducible refine w_ _ (hC.up aL) ho λ_ h2 n2 u2=>?_;(first|replace ub:=Up.trans ub (Up.trans aL u2)|have ub:=u2);have hle:=ub.le;clear u2)|(with_reducible first|apply aj|apply ah|apply ay|apply aB|apply aA|apply au)<;>intro hd<;>(rw[hd];try simp only[decide_eq_true_eq,decide_eq_false_iff_not,Bool.not_eq_true',Bool.not_eq_false']at hd)|(with_reducible refine aD ?_))
 .have hv:=(sj C).1 (by assumption)
  rw[hv,decide_eq_true hd,Bool.true_and,Bool.true_and]at hQ;exact hQ _ _ aL
 .rw[decide_eq_false hd,Bool.false_and,Bool.and_false]at hQ
  exact hQ _ _ aL
 .have hv:C.valid=false:=by
   cases hv:C.valid with
   |false=>rfl
   |true=>exact absurd ((sj C).2 hv) hd
  rw[hv,Bool.false_and]at hQ;exact hQ _ _ aL
@[reducible] def jA (party:Int) (s l sh d:Nat) (bg:Bool) (r:List AV):List AV:=[.i .i64 party,.m s,.m l,.m sh,.m d,.b bg]++r
theorem Ci(K:Nat){party:Int}(hQ:∀j s l sh d h' n',Up h n h' n'->h'.get j=some (.row 136 [.i .i64 party,.m s,.m l,.m sh,.m d,.b false,.i .i64 0,.i .i64 0,.i .i64 0])->vg h' s AV.s []->vg h' l (λi:Int=>AV.i .i64 i) []->n<=j/\n<=s/\n<=l->j<n'/\s<n'/\l<n'->j≠s/\j≠l/\s≠l->Q (.p j 0) h' n'):CW (EF (K+1)) 33 [.i .i64 party] h n Q:=by
 refine aJ c33 rfl ?_;repeat' (first|(simp (disch:=omega) only[go_sem,m33])|(with_reducible first|apply aj|apply ah|apply ay|apply aB|apply aA|apply au)<;>intro hd<;>(rw[hd];try simp only[decide_eq_true_eq,decide_eq_false_iff_not,Bool.not_eq_true',Bool.not_eq_false']at hd)|(with_reducible refine aD ?_))
 refine hQ (n+1+1+1+1) n (n+1) (n+1+1) (n+1+1+1) _ _ aL aM ?_ ?_ ⟨by omega,by omega,by omega⟩ ⟨by omega,by omega,by omega⟩ ⟨by omega,by omega,by omega⟩
 .exact⟨[],0,by simp (disch:=omega) only[go_sem],rfl⟩
 .exact⟨[],0,by simp (disch:=omega) only[go_sem],rfl⟩
end
end
end
section
noncomputable section
theorem adU:Kz Tryz.prog 3 (λi:Int=>AV.i .i64 i):=by
 refine⟨λa b=>⟨fC a b,by kernel_rfl,by rw[cO];simp⟩,λa=>by kernel_rfl,λa=>rfl⟩
structure Jd(C:aH)(u:Nat)(party:Int)(h:AH)(n j s l:Nat)(ent:List (List UInt8×AV)):Prop where
 row:∃r,r.length=6/\h.get j=some (.row 136 (.i .i64 party:: .m s:: .m l::r))
 ms:vg h s AV.s ent
 ml:vg h l (λi:Int=>AV.i .i64 i) []
 ok:∀q,aU C q.st->∀x,sO ent (jZ u q)=some x->∃b,x= .b b/\(b=true↔¬dI C party q)
 jn:j<n
 sn:s<n
 ln:l<n
 js:j≠s
 jl:j≠l
 sl:s≠l
section
variable {h h':AH} {n n':Nat} {Q:AV->AH->Nat->Prop} {C:aH} {cv sv tv dv:AV} {tq:TS} {p:aS} {party:Int} {u j s l:Nat} {ent:List (List UInt8×AV)} {vs:List CS} {N:Nat}
theorem Jd.up(a:Jd C u party h n j s l ent)(x:Up h n h' n'):Jd C u party h' n' j s l ent:=by
 obtain⟨r,h1,h2⟩:=a.row;exact⟨⟨r,h1,(x.old _ a.jn).trans h2⟩,a.ms.on (x.old _ a.sn),a.ml.on (x.old _ a.ln),a.ok,Nat.lt_of_lt_of_le a.jn x.le,Nat.lt_of_lt_of_le a.sn x.le,Nat.lt_of_lt_of_le a.ln x.le,a.js,a.jl,a.sl⟩
theorem Jd.put(a:Jd C u party h n j s l ent){q:aS}(hq:aU C q.st){b:Bool}(hb:b=true↔¬dI C party q):∃o yh,CJ (pR Tryz.prog 30 9) (xI Tryz.prog 30 9) h n (.m s) (.s (jZ u q)) (.b b)= .ok (.bV []) (h.set s o) n/\Jd C u party (h.set s o) n j s l yh:=by
 obtain⟨o,h1,h2⟩:=a.ms.put (k:=jZ u q) (n:=n) K8 (.b b);obtain⟨r,h3,h4⟩:=a.row;refine⟨o,_,h1,⟨⟨r,h3,by rw[aI a.js];exact h4⟩,h2,a.ml.on (aI (Ne.symm a.sl)),λq' hq' x hx=>?_,a.jn,a.sn,a.ln,a.js,a.jl,a.sl⟩⟩;rw[Oe]at hx;split at hx
 .rename_i e
  cases HV hq' hq e
  cases hx
  exact⟨b,rfl,hb⟩
 .exact a.ok q' hq' x hx
theorem SL.lH{h:AH}{n w:Nat}{v:AV}{α:Type}{c:α->List AV}{l:List α}{κ:Type}{ke:κ->AV}{m:List (κ×AV)}{s:Nat}(a:SL h n w v c l)(b:vg h s ke m):∀x,blk v x->x≠s:=by
 rintro x hx rfl;obtain⟨es,qo,h1,_⟩:=b;rcases a.2 with⟨rfl,_⟩|⟨y,lo,o,cp,rfl,_,h3,_⟩|⟨_,_,rfl,_⟩
 rotate_left 2
 .exact Ky hx
 .exact gM hx
 .rw[fH]at hx
  subst hx;rw[h1]at h3;rcases h3 with⟨_,_,h3,_⟩|⟨_,h3,_⟩<;>cases h3
theorem dO.Ux{h:AH}{n:Nat}{tv:TS}{st:aO}{κ:Type}{ke:κ->AV}{m:List (κ×AV)}{s:Nat}(a:dO h n tv st)(b:vg h s ke m):Kp (λx=>x=s) h n (λh n=>dO h n tv st):=
 (((a.aC.kp λx hx e=>a.aC.lH b x hx e).and (a.used.kp λx hx e=>a.used.lH b x hx e)).and (a.marks.kp λx hx e=>a.marks.lH b x hx e)).wk λh n e=>⟨e.1.1,e.1.2,e.2⟩
open Classical in
theorem yV(K:Nat){k:Nat}{v:CS}(hv:vs[k]?=some v)(hvs:SL h n 7 cv (λw:CS=>w.av C) vs)(hC:bG h n v C)(ho:C.off.length<=1000000)(hd:SL h n 1 dv cn (List.replicate N u))(hkN:k<N)(hu:u<100)(a:Jd C u party h n j s l ent)(hS:dO h n tq p.st)(so:aU C p.st)(hp0:0<=party)(hp1:party<C.aK)(nb:¬gK C party p)
 (hQ:∀b yh h' n',(b=true↔¬dI C party p)->Jd C u party h' n' j s l yh->n<=n'->(∀x,x<n->x≠s->h'.get x=h.get x)->Q (.bV [.b b,.i .i64 0]) h' n'):CW (EF (K+12)) 62 [.p j 0,.agg (rA cv sv tv dv),.i .i64 (k:Nat),.agg (tq.pv p)] h n Q:=by
 have hkl:=(List.getElem?_eq_some_iff.1 hv).1;obtain⟨b1,o1,v',i1,hv',hb1,ZV⟩:=hvs.fE (k:=(k:Nat)) (by omega) (by omega) (by omega);obtain⟨b2,o2,u',i2,hu',hb2,eT⟩:=hd.fE (k:=(k:Nat)) (by omega) (by simp;omega) (by omega);rw[show((k:Nat):Int).toNat=k by omega]at hv' hu';rw[hv]at hv';cases hv';rw[List.getElem?_replicate,if_pos hkN]at hu';cases hu';obtain⟨r,Uk,hrow⟩:=a.row;have hjn:=a.jn;have hpre:∀x,sO ent (jZ u p)=some x->sO ent (jZ u p)=some (.b (decide (¬dI C party p))):=λx hk=>by
  obtain⟨b,rfl,hb⟩:=a.ok p so x hk;rw[hk];congr 2;by_cases hd:dI C party p
  .cases b with
   |true=>exact absurd hd (hb.1 rfl)
   |false=>simp[hd]
  .cases b with
   |true=>simp[hd]
   |false=>have:=hb.2 hd;cases this
 refine aJ c62 rfl ?_;repeat' (first|(simp (disch:=omega) only[go_sem,ub.old,m62,rA,i1,i2,ZV.all,eT.el,eT.hd])|(simp (disch:=omega) only[go_sem,m62,rA,i1,i2,ZV.all,eT.el,eT.hd])|(with_reducible first|apply aj|apply ah|apply ay|apply aB|apply aA|apply au)<;>intro hd<;>(rw[hd];try simp only[decide_eq_true_eq,decide_eq_false_iff_not,Bool.not_eq_true',Bool.not_eq_false']at hd)|(with_reducible refine aD ?_))
 have pb:=so.pb p.own;generalize hh:Tr.set (Tr.set (Tr.set (Tr.set (Tr.set (Tr.set h n _) (n+1) _) (n+2) _) (n+1+1+1) _) (n+2) _) (n+1+1+1) _=h1;have u1:Up h n h1 (n+5):=by rw[<-hh];exact aL
 have r7:h1.get (n+1)=some (.row 45 (tq.pv p)):=by rw[<-hh];simp (disch:=omega) only[go_sem]
 have r10:h1.get (n+2)=some (.row 27 (v.av C)):=by rw[<-hh];simp (disch:=omega) only[go_sem]
 have r11:h1.get (n+1+1+1)=some (.row 3 [.i .i64 (u:Nat)]):=by rw[<-hh];simp (disch:=omega) only[go_sem]
 clear hh;have a1:=a.up u1;have Mc:h1.get j=some (.row 136 (.i .i64 party:: .m s:: .m l::r)):=(u1.old _ hjn).trans hrow;rw[<-u1.old j hjn];repeat' (first|(simp (disch:=omega) only[go_sem,ub.old,Mc,r7])|(simp (disch:=omega) only[go_sem,Mc,r7])|(with_reducible first|apply aj|apply ah|apply ay|apply aB|apply aA|apply au)<;>intro hd<;>(rw[hd];try simp only[decide_eq_true_eq,decide_eq_false_iff_not,Bool.not_eq_true',Bool.not_eq_false']at hd)|(with_reducible refine aD ?_))
 rw[GK];show CW _ 116 [.agg (tq.pv p),.p (n+1+1+1) 0] _ _ _;refine sI (K+3) (u:=u) (b11:=n+1+1+1) hu r11 (show n+1+1+1<n+5 by omega) (p:=p) (tv:=tq) (h:=h1) (n:=n+5) (hS.up u1) pb λh2 n2 u2=>?_;have e2:=u2.le;have a2:=a1.up u2;have HY:h2.get j=some (.row 136 (.i .i64 party:: .m s:: .m l::r)):=(u2.old _ (by omega)).trans Mc;have Ho:=a2.ms.look (k:=jZ u p) K8 (z:=some (.b false)) (ok:=true) rfl;cases hk:sO ent (jZ u p)with
 |some x=>
  rw[hpre x hk]at Ho;simp only[bJ]at Ho;simp (disch:=omega) only[go_sem,Ho,HY,Mc];exact hQ _ ent _ _ (by simp) a2 (by omega) λx hx _=>by rw[u2.old x (by omega),u1.old x hx]
 |none=>
  rw[hk]at Ho;simp only[bJ]at Ho;simp (disch:=omega) only[go_sem,Ho,HY,Mc];have ll2:=a2.ml.look (k:=(u:Int)) adU (z:=some (.b false)) (ok:=false) rfl;simp only[sO,fU]at ll2;have LC:h2.get (n+1+1+1)=some (.row 3 [.i .i64 (u:Nat)]):=(u2.old _ (by omega)).trans r11;have XQ:h2.get (n+2)=some (.row 27 (v.av C)):=(u2.old _ (by omega)).trans r10;have q7:h2.get (n+1)=some (.row 45 (tq.pv p)):=(u2.old _ (by omega)).trans r7;have aj1:j<n2:=by omega
  repeat' (first|(simp (disch:=omega) only[go_sem,ub.old,ll2,HY,LC,XQ,q7,CS.av])|(simp (disch:=omega) only[go_sem,ll2,HY,LC,XQ,q7,CS.av])|(with_reducible first|apply aj|apply ah|apply ay|apply aB|apply aA|apply au)<;>intro hd<;>(rw[hd];try simp only[decide_eq_true_eq,decide_eq_false_iff_not,Bool.not_eq_true',Bool.not_eq_false']at hd)|(with_reducible refine aD ?_))
  rw[bU];have yP:=u1.trans u2;refine Hw K (p:=p) (tv:=tq) ((hC.up yP).up aL) ho ((hS.up yP).up aL) (λhn=>absurd ⟨hp0,hp1,so⟩ hn) (λ_ _ _ e=>absurd e nb) (λ_ _ _ Yg h3 n3 u3=>?_) (λ_ _ _ hnd rows rv h3 n3 hrows u3 k3=>?_)
  .have e3:=u3.le
   have a3:=a2.up (Up.trans (show Up h2 n2 h2 (n2+2) by exact aL) u3);have adW:h3.get j=some (.row 136 (.i .i64 party:: .m s:: .m l::r)):=(u3.old _ (by omega)).trans HY;have q7':h3.get (n+1)=some (.row 45 (tq.pv p)):=(u3.old _ (by omega)).trans q7;have aj2:h3.get (n+1+1+1)=some (.row 3 [.i .i64 (u:Nat)]):=(u3.old _ (by omega)).trans LC;have ln0:Iu (some (AV.k 1))=some (.i .i64 ((0:Nat):Int)):=(SL.nil (h:=h) (n:=n) (c:=Tk) (w:=6) λ_=>rfl).len;repeat' (first|(simp (disch:=omega) only[go_sem,ub.old,XO,ln0])|(simp (disch:=omega) only[go_sem,XO,ln0])|(with_reducible first|apply aj|apply ah|apply ay|apply aB|apply aA|apply au)<;>intro hd<;>(rw[hd];try simp only[decide_eq_true_eq,decide_eq_false_iff_not,Bool.not_eq_true',Bool.not_eq_false']at hd)|(with_reducible refine aD ?_))
   have uz:Up h2 n2 ((Tr.set h3 n2 (.row 80 [.i .i64 0,.k 1])).set n2 (.row 80 [.i .i64 0,.k 1])) n3:=by exact aL
   have az:=a2.up uz;have q7z:=(uz.old _ (by omega)).trans q7;have TA:=(uz.old _ (by omega)).trans LC;have sz:∀x,x<n->x≠s->((Tr.set h3 n2 (.row 80 [.i .i64 0,.k 1])).set n2 (.row 80 [.i .i64 0,.k 1])).get x=h.get x:=λx hx _=>(uz.old x (by omega)).trans (yP.old x hx);generalize(Tr.set h3 n2 _).set n2 _=hz at*;have Uy:false=true↔¬dI C party p:=⟨(λe=>by cases e),λe=>absurd Yg e⟩;refine dD 0 (λk hk nk G=>(∃yh,Jd C u party hk nk j s l yh/\(∀x,x<n->x≠s->hk.get x=h.get x)/\hk.get (n+1)=some (.row 45 (tq.pv p))/\hk.get (n+1+1+1)=some (.row 3 [.i .i64 (u:Nat)])/\n+5<=nk)/\Up h2 n2 hk nk/\G=[(0,.p j 0),(7,.p (n+1) 0),(12,.f 116 [.p (n+1+1+1) 0]),(16,.i .i64 13)]) (by omega) (by omega) (by omega) (by omega) (λk h8 n8 G ⟨_,_,e⟩=>by subst e;exact⟨rfl,rfl⟩) ⟨rfl,rfl,_,⟨⟨ent,az,sz,q7z,TA,by omega⟩,uz,rfl⟩,by(repeat' (first|exact aZ|refine aW rfl ?_))⟩ (λk _ _ _ hk=>absurd hk (by omega)) ?_;rintro hk nk G ⟨⟨yh,aX,sX,TB,HZ,lX⟩,ux,rfl⟩;obtain⟨rX,hrX,sJ⟩:=aX.row;have sXu:s<nk:=aX.sn;repeat' (first|(simp (disch:=omega) only[go_sem,ub.old,Int.reduceEq,sJ,TB])|(simp (disch:=omega) only[go_sem,Int.reduceEq,sJ,TB])|(with_reducible first|apply aj|apply ah|apply ay|apply aB|apply aA|apply au)<;>intro hd<;>(rw[hd];try simp only[decide_eq_true_eq,decide_eq_false_iff_not,Bool.not_eq_true',Bool.not_eq_false']at hd)|(with_reducible refine aD ?_))
   rw[GK];show CW _ 116 [.agg (tq.pv p),.p (n+1+1+1) 0] _ _ _;refine sI (K+3) (u:=u) (b11:=n+1+1+1) hu HZ (show n+1+1+1<nk by omega) (p:=p) (tv:=tq) (h:=hk) (n:=nk) ((hS.up yP).up ux) pb λh9 n9 u9=>?_;have e9:=u9.le;have a9:=aX.up u9;have Md:h9.get j=some (.row 136 (.i .i64 party:: .m s:: .m l::rX)):=(u9.old _ aX.jn).trans sJ;obtain⟨o,Me,m1,O5⟩:=a9.put so (b:=false) Uy;simp (disch:=omega) only[go_sem,Md,sJ,Int.reduceEq,m1];refine hQ false Me _ _ Uy O5 (by omega) λx hx hne=>?_;rw[aI hne,u9.old x (by omega),sX x hx hne]
  .have e3:=u3.le
   have adW:h3.get j=some (.row 136 (.i .i64 party:: .m s:: .m l::r)):=(u3.old _ (by omega)).trans HY;repeat' (first|(simp (disch:=omega) only[go_sem,ub.old,k3.use.1.len])|(simp (disch:=omega) only[go_sem,k3.use.1.len])|(with_reducible first|apply aj|apply ah|apply ay|apply aB|apply aA|apply au)<;>intro hd<;>(rw[hd];try simp only[decide_eq_true_eq,decide_eq_false_iff_not,Bool.not_eq_true',Bool.not_eq_false']at hd)|(with_reducible refine aD ?_))
   have uz:Up h2 n2 ((Tr.set h3 n2 (.row 80 [.i .i64 0,.k 1])).set n2 (.row 80 [.i .i64 party,rv])) n3:=by exact aL
   have kz:=(k3.set (b:=n2) (o:=.row 80 [.i .i64 0,.k 1]) (.inl (by omega)) (Nat.le_refl _)).set (b:=n2) (o:=.row 80 [.i .i64 party,rv]) (.inl (by omega)) (Nat.le_refl _);have az:=a2.up uz;have q7z:=(uz.old _ (by omega)).trans q7;have TA:=(uz.old _ (by omega)).trans LC;have sz:∀x,x<n->x≠s->((Tr.set h3 n2 (.row 80 [.i .i64 0,.k 1])).set n2 (.row 80 [.i .i64 party,rv])).get x=h.get x:=λx hx _=>(uz.old x (by omega)).trans (yP.old x hx);generalize(Tr.set h3 n2 _).set n2 _=hz at*;have hsf:true=true↔¬dI C party p:=⟨λ_=>hnd,λ_=>rfl⟩;have Oy:Kp (λx=>x=s) hz n3 (λh n=>dO h n tq p.st):=((hS.up yP).up uz).Ux az.ms;obtain⟨⟨PP,MM,hia,hmap⟩,hkeep⟩:=hrows;have hrow:∀x∈rows,aU C x.1.2.st/\¬dI C party x.1.2:=λx hx=>by
    have hm:x.1.2∈PP.filter (λq=>decide (¬dI C party q)):=by rw[<-hmap];exact List.mem_map_of_mem (f:=λx:(TS×aS)×Int=>x.1.2) hx
    obtain⟨h4,h5⟩:=List.mem_filter.1 hm;exact⟨tY.ok so (hia.rch _ h4),by simpa using h5⟩
   have hrl:rows.length<=1500:=by
    have e:=congrArg List.length hmap;rw[List.length_map]at e;have:=List.length_filter_le (λq=>decide (¬dI C party q)) PP;have:=hia.small;omega
   refine dD rows.length (λk hk nk G=>(∃yh,Jd C u party hk nk j s l yh/\(∀x,x<n->x≠s->hk.get x=h.get x)/\hk.get (n+1)=some (.row 45 (tq.pv p))/\hk.get (n+1+1+1)=some (.row 3 [.i .i64 (u:Nat)])/\n+5<=nk)/\Kp (λx=>x=s) hk nk (λh n=>dO h n tq p.st)/\Kp (λx=>x<n2+2) hk nk (λh n=>SL h n 6 rv Tk rows/\∀x∈rows,dO h n x.1.1 x.1.2.st)/\G=[(0,.p j 0),(7,.p (n+1) 0),(12,.f 116 [.p (n+1+1+1) 0]),(16,.i .i64 0),(63,rv)]) (by omega) (by omega) (by omega) (by omega) (λk h8 n8 G ⟨_,_,_,e⟩=>by subst e;exact⟨rfl,rfl⟩) ⟨rfl,rfl,_,⟨⟨ent,az,sz,q7z,TA,by omega⟩,Oy,kz,rfl⟩,by(repeat' (first|exact aZ|refine aW rfl ?_))⟩ ?_ ?_
   .rintro i hk nk G hi ⟨⟨yh,aX,sX,TB,HZ,lX⟩,kX,kR,rfl⟩
    obtain⟨rX,hrX,sJ⟩:=aX.row;obtain⟨b3,o3,x,i3,hx,hb3,qH⟩:=kR.use.1.fE (k:=(i:Nat)) (by omega) (by omega) (by omega);rw[show((i:Nat):Int).toNat=i by omega]at hx;have hxm:=List.mem_of_getElem? hx;obtain⟨Ur,ndx⟩:=hrow x hxm;have hsx:true=true↔¬dI C party x.1.2:=⟨λ_=>ndx,λ_=>rfl⟩;have jnk:=aX.jn;have snk:=aX.sn;repeat' (first|(simp (disch:=omega) only[go_sem,ub.old,LH,aR i3,qH.all,sJ])|(simp (disch:=omega) only[go_sem,LH,aR i3,qH.all,sJ])|(with_reducible first|apply aj|apply ah|apply ay|apply aB|apply aA|apply au)<;>intro hd<;>(rw[hd];try simp only[decide_eq_true_eq,decide_eq_false_iff_not,Bool.not_eq_true',Bool.not_eq_false']at hd)|(with_reducible refine aD ?_))
    rw[GK];show CW _ 116 [.agg (x.1.1.pv x.1.2),.p (n+1+1+1) 0] _ _ _;have ub:Up hk nk ((Tr.set hk nk (.row 163 [.i .i64 0,.k 1,.k 1,.k 1,.b false,.i .i64 0])).set nk (.row 163 (Tk x))) (nk+1):=by exact aL
    refine sI (K+3) (u:=u) (b11:=n+1+1+1) hu ((ub.old _ (by omega)).trans HZ) (show n+1+1+1<nk+1 by omega) (p:=x.1.2) (tv:=x.1.1) ((kR.use.2 x hxm).up ub) (Ur.pb x.1.2.own) λh9 n9 u9=>?_;have e9:=u9.le;have TD:=ub.trans u9;have a9:=aX.up TD;have Md:h9.get j=some (.row 136 (.i .i64 party:: .m s:: .m l::rX)):=(TD.old _ aX.jn).trans sJ;obtain⟨o,Me,m1,O5⟩:=a9.put Ur (b:=true) hsx;simp (disch:=omega) only[go_sem,Md,sJ,m1];have n1s:n+1≠s:=λe=>by have:=a.sn;omega
    have n3s:n+1+1+1≠s:=λe=>by have:=a.sn;omega
    have sn:=a.sn;refine⟨rfl,rfl,_,⟨⟨Me,O5,λy hy hne=>?_,by rw[aI n1s,TD.old _ (by omega)];exact TB,by rw[aI n3s,TD.old _ (by omega)];exact HZ,by omega⟩,(kX.up TD).set (.inl rfl) (Nat.le_refl _),(kR.up TD).set (.inl (by omega)) (Nat.le_refl _),rfl⟩,by(repeat' (first|exact aZ|refine aW rfl ?_))⟩;rw[aI hne,TD.old y (by omega),sX y hy hne]
   .rintro hk nk G ⟨⟨yh,aX,sX,TB,HZ,lX⟩,kX,kR,rfl⟩
    obtain⟨rX,hrX,sJ⟩:=aX.row;repeat' (first|(simp (disch:=omega) only[go_sem,ub.old,Int.reduceEq,sJ,TB])|(simp (disch:=omega) only[go_sem,Int.reduceEq,sJ,TB])|(with_reducible first|apply aj|apply ah|apply ay|apply aB|apply aA|apply au)<;>intro hd<;>(rw[hd];try simp only[decide_eq_true_eq,decide_eq_false_iff_not,Bool.not_eq_true',Bool.not_eq_false']at hd)|(with_reducible refine aD ?_))
    rw[GK];show CW _ 116 [.agg (tq.pv p),.p (n+1+1+1) 0] _ _ _;refine sI (K+3) (u:=u) (b11:=n+1+1+1) hu HZ (show n+1+1+1<nk by omega) (p:=p) (tv:=tq) (h:=hk) (n:=nk) kX.use pb λh9 n9 u9=>?_;have e9:=u9.le;have a9:=aX.up u9;have Md:h9.get j=some (.row 136 (.i .i64 party:: .m s:: .m l::rX)):=(u9.old _ aX.jn).trans sJ;obtain⟨o,Me,m1,O5⟩:=a9.put so (b:=true) hsf;simp (disch:=omega) only[go_sem,Md,sJ,Int.reduceEq,m1];refine hQ true Me _ _ hsf O5 (by omega) λx hx hne=>?_;rw[aI hne,u9.old x (by omega),sX x hx hne]
end
end
end
section
noncomputable section
theorem H6(l:List UInt8):o_ l l=true:=by rw[iK];simp
theorem o8(a:Int):fC a a=true:=by rw[cO];simp
theorem TF(a b c d:Int):(dS Tryz.prog 191 .neq).run (.agg [.i .i64 a,.i .i64 b]) (.agg [.i .i64 c,.i .i64 d])=bnd (bc (fC a c) (bc (fC b d) (some true) (some false)) (some false)) λe=>some (.b (oC e)):=by kernel_rfl
theorem TG(a b c d e f g a' b' c' d' e' f' g':Int):(dS Tryz.prog 169 .neq).run (.agg [.i .i64 a,.i .i64 b,.i .i64 c,.i .i64 d,.i .i64 e,.i .i64 f,.i .i64 g]) (.agg [.i .i64 a',.i .i64 b',.i .i64 c',.i .i64 d',.i .i64 e',.i .i64 f',.i .i64 g'])=
 bnd (bc (fC a a') (bc (fC b b') (bc (fC c c') (bc (fC d d') (bc (fC e e') (bnd (bc (fC f f') (bc (fC g g') (some true) (some false)) (some false)) λx=>bc x (some true) (some false)) (some false)) (some false)) (some false)) (some false)) (some false)) λe=>some (.b (oC e)):=by kernel_rfl
theorem TH(a a':List UInt8)(b c f g b' c' f' g':Int):(dS Tryz.prog 167 .neq).run (.agg [.s a,.i .i64 b,.i .i64 c,.i .i64 f,.i .i64 g]) (.agg [.s a',.i .i64 b',.i .i64 c',.i .i64 f',.i .i64 g'])=
 bnd (bc (o_ a a') (bc (fC b b') (bc (fC c c') (bnd (bc (fC f f') (bc (fC g g') (some true) (some false)) (some false)) λx=>bc x (some true) (some false)) (some false)) (some false)) (some false)) λe=>some (.b (oC e)):=by kernel_rfl
theorem adY(a b:Bool):(dS Tryz.prog 4 .eql).run (.b a) (.b b)=bnd (some (bc a b (oC b))) λe=>some (.b e):=by kernel_rfl
theorem eqb(a:Bool):(dS Tryz.prog 4 .eql).run (.b a) (.b a)=some (.b true):=by rw[adY];cases a<;>rfl
theorem Yh(k:fO):(dS Tryz.prog 191 .neq).run (.agg k.av) (.agg k.av)=some (.b false):=by
 rw[TF,o8,o8];rfl
theorem Yi(k:eY):(dS Tryz.prog 169 .neq).run (.agg k.av) (.agg k.av)=some (.b false):=by
 rw[TG];simp only[o8];rfl
theorem Yj(k:dY):(dS Tryz.prog 167 .neq).run (.agg k.av) (.agg k.av)=some (.b false):=by
 rw[TH];simp only[o8,H6];rfl
section
variable {h h':AH} {n n':Nat} {Q:AV->AH->Nat->Prop}
theorem Et(K:Nat){x y:AV}{a:List fO}(hx:SL h n 2 x fO.av a)(hy:SL h n 2 y fO.av a)(hl:a.length<=1000000)(hQ:∀h' n',Up h n h' n'->Q (.b true) h' n'):CW (EF (K+1)) 190 [x,y] h n Q:=by
 refine aJ adP rfl ?_;have hd:decide ((a.length:Int)=(a.length:Int))=true:=decide_eq_true rfl;simp (disch:=omega) only[go_sem,XZ,hx.len,hy.len,hd];refine fZ a.length (λk=>True) h n (λk=>[(0,x),(1,y),(4,.b false)]) (by omega) (by omega) (by omega) (by omega) (λ_=>⟨rfl,rfl⟩) rfl rfl (by(repeat' (first|exact aZ|refine aW rfl ?_))) aL trivial (λk h4 n4 hk hr u4=>?_) (λh4 n4 hr u4=>?_)
 .obtain⟨b1,o1,w1,i1,hw1,hb1,r1⟩:=(hx.up u4).fE (k:=(k:Nat)) (by omega) (by omega) (by omega)
  obtain⟨b2,o2,w2,i2,hw2,hb2,r2⟩:=(hy.up u4).fE (k:=(k:Nat)) (by omega) (by omega) (by omega);rw[hw1]at hw2;cases hw2;repeat' (first|(simp (disch:=omega) only[go_sem,LW,i1,i2,r1.all,r2.all,Yh w1])|(with_reducible first|apply aj|apply ah|apply ay|apply aB|apply aA|apply au)<;>intro hd<;>(rw[hd];try simp only[decide_eq_true_eq,decide_eq_false_iff_not,Bool.not_eq_true',Bool.not_eq_false']at hd)|(with_reducible refine aD ?_))
  exact iw rfl rfl trivial aL (by(repeat' (first|exact aZ|refine aW rfl ?_)))
 .repeat' (first|(simp (disch:=omega) only[go_sem])|(with_reducible first|apply aj|apply ah|apply ay|apply aB|apply aA|apply au)<;>intro hd<;>(rw[hd];try simp only[decide_eq_true_eq,decide_eq_false_iff_not,Bool.not_eq_true',Bool.not_eq_false']at hd)|(with_reducible refine aD ?_))
  exact hQ _ _ u4
theorem H7(K:Nat){x y:AV}{a:List eY}(hx:SL h n 7 x eY.av a)(hy:SL h n 7 y eY.av a)(hl:a.length<=1000000)(hQ:∀h' n',Up h n h' n'->Q (.b true) h' n'):CW (EF (K+1)) 111 [x,y] h n Q:=by
 refine aJ adO rfl ?_;have hd:decide ((a.length:Int)=(a.length:Int))=true:=decide_eq_true rfl;simp (disch:=omega) only[go_sem,XW,hx.len,hy.len,hd];refine fZ a.length (λk=>True) h n (λk=>[(0,x),(1,y),(4,.b false)]) (by omega) (by omega) (by omega) (by omega) (λ_=>⟨rfl,rfl⟩) rfl rfl (by(repeat' (first|exact aZ|refine aW rfl ?_))) aL trivial (λk h4 n4 hk hr u4=>?_) (λh4 n4 hr u4=>?_)
 .obtain⟨b1,o1,w1,i1,hw1,hb1,r1⟩:=(hx.up u4).fE (k:=(k:Nat)) (by omega) (by omega) (by omega)
  obtain⟨b2,o2,w2,i2,hw2,hb2,r2⟩:=(hy.up u4).fE (k:=(k:Nat)) (by omega) (by omega) (by omega);rw[hw1]at hw2;cases hw2;repeat' (first|(simp (disch:=omega) only[go_sem,LV,i1,i2,r1.all,r2.all,Yi w1])|(with_reducible first|apply aj|apply ah|apply ay|apply aB|apply aA|apply au)<;>intro hd<;>(rw[hd];try simp only[decide_eq_true_eq,decide_eq_false_iff_not,Bool.not_eq_true',Bool.not_eq_false']at hd)|(with_reducible refine aD ?_))
  exact iw rfl rfl trivial aL (by(repeat' (first|exact aZ|refine aW rfl ?_)))
 .repeat' (first|(simp (disch:=omega) only[go_sem])|(with_reducible first|apply aj|apply ah|apply ay|apply aB|apply aA|apply au)<;>intro hd<;>(rw[hd];try simp only[decide_eq_true_eq,decide_eq_false_iff_not,Bool.not_eq_true',Bool.not_eq_false']at hd)|(with_reducible refine aD ?_))
  exact hQ _ _ u4
theorem Eu(K:Nat){x y:AV}{a:List dY}(hx:SL h n 5 x dY.av a)(hy:SL h n 5 y dY.av a)(hl:a.length<=1000000)(hQ:∀h' n',Up h n h' n'->Q (.b true) h' n'):CW (EF (K+1)) 110 [x,y] h n Q:=by
 refine aJ adN rfl ?_;have hd:decide ((a.length:Int)=(a.length:Int))=true:=decide_eq_true rfl;simp (disch:=omega) only[go_sem,XV,hx.len,hy.len,hd];refine fZ a.length (λk=>True) h n (λk=>[(0,x),(1,y),(4,.b false)]) (by omega) (by omega) (by omega) (by omega) (λ_=>⟨rfl,rfl⟩) rfl rfl (by(repeat' (first|exact aZ|refine aW rfl ?_))) aL trivial (λk h4 n4 hk hr u4=>?_) (λh4 n4 hr u4=>?_)
 .obtain⟨b1,o1,w1,i1,hw1,hb1,r1⟩:=(hx.up u4).fE (k:=(k:Nat)) (by omega) (by omega) (by omega)
  obtain⟨b2,o2,w2,i2,hw2,hb2,r2⟩:=(hy.up u4).fE (k:=(k:Nat)) (by omega) (by omega) (by omega);rw[hw1]at hw2;cases hw2;repeat' (first|(simp (disch:=omega) only[go_sem,LU,i1,i2,r1.all,r2.all,Yj w1])|(with_reducible first|apply aj|apply ah|apply ay|apply aB|apply aA|apply au)<;>intro hd<;>(rw[hd];try simp only[decide_eq_true_eq,decide_eq_false_iff_not,Bool.not_eq_true',Bool.not_eq_false']at hd)|(with_reducible refine aD ?_))
  exact iw rfl rfl trivial aL (by(repeat' (first|exact aZ|refine aW rfl ?_)))
 .repeat' (first|(simp (disch:=omega) only[go_sem])|(with_reducible first|apply aj|apply ah|apply ay|apply aB|apply aA|apply au)<;>intro hd<;>(rw[hd];try simp only[decide_eq_true_eq,decide_eq_false_iff_not,Bool.not_eq_true',Bool.not_eq_false']at hd)|(with_reducible refine aD ?_))
  exact hQ _ _ u4
theorem uO(K:Nat){x y:AV}{a:List Int}(hx:SL h n 1 x (λx:Int=>[AV.i .i64 x]) a)(hy:SL h n 1 y (λx:Int=>[AV.i .i64 x]) a)(hl:a.length<=1000000)(hQ:∀h' n',Up h n h' n'->Q (.b true) h' n'):CW (EF (K+1)) 109 [x,y] h n Q:=
 yN K hx hy hl λh' n' u=>by rw[yM rfl];exact hQ _ _ u
theorem yj(K:Nat){k:aN}{x y:AV}(hx:SL h n 2 x fO.av k.start)(hy:SL h n 2 y fO.av k.start)(hl:k.start.length<=1000000)(hQ:∀h' n',Up h n h' n'->Q (.b true) h' n'):CW (EF (K+2)) 113 [.agg (k.av x),.agg (k.av y)] h n Q:=by
 refine aJ adM rfl ?_;repeat' (first|(simp (disch:=omega) only[go_sem,ub.old,Tv,decide_true,eqb,Bool.and_true,Bool.true_and])|(simp (disch:=omega) only[go_sem,Tv,decide_true,eqb,Bool.and_true,Bool.true_and])|((first|rw[bA]|rw[bU]);with_reducible refine Et _ (hx.up aL) (hy.up aL) hl λh2 n2 u2=>?_;(first|replace ub:=Up.trans ub (Up.trans aL u2)|have ub:=u2);have hle:=ub.le;clear u2)|(with_reducible first|apply aj|apply ah|apply ay|apply aB|apply aA|apply au)<;>intro hd<;>(rw[hd];try simp only[decide_eq_true_eq,decide_eq_false_iff_not,Bool.not_eq_true',Bool.not_eq_false']at hd)|(with_reducible refine aD ?_))
 exact hQ _ _ aL
theorem Au(K:Nat){x y:AV}{l:List aN}{ss st:List AV}(hx:yL h n x l ss)(hy:yL h n y l st)(hl:l.length<=1000)(hst:∀k∈l,k.start.length<=1000)(hQ:∀h' n',Up h n h' n'->Q (.b true) h' n'):CW (EF (K+3)) 112 [x,y,.f 113 []] h n Q:=by
 obtain⟨x1,x2,x3⟩:=hx;obtain⟨y1,y2,y3⟩:=hy;have zx:(l.zip ss).length=l.length:=by simp[x1]
 have zy:(l.zip st).length=l.length:=by simp[y1]
 have hx':SL h n 16 x MX (l.zip ss):=⟨λ_=>rfl,by rw[zx];exact x2⟩;have hy':SL h n 16 y MX (l.zip st):=⟨λ_=>rfl,by rw[zy];exact y2⟩;refine aJ adQ rfl ?_;have hd:decide ((l.length:Int)=(l.length:Int))=true:=decide_eq_true rfl;simp (disch:=omega) only[go_sem,X3,hx'.len,hy'.len,zx,zy,hd];refine dD l.length (λk hk nk G=>Up h n hk nk/\G=[(1,y),(2,.f 113 []),(15,x)]) (by omega) (by omega) (by omega) (by omega) (λk h8 n8 G ⟨_,e⟩=>by subst e;exact⟨rfl,rfl⟩) ⟨rfl,rfl,_,⟨Up.refl _ _,rfl⟩,by(repeat' (first|exact aZ|refine aW rfl ?_))⟩ ?_ ?_
 .rintro k h4 n4 G hk ⟨u4,rfl⟩
  have e4:=u4.le;obtain⟨b1,o1,w1,i1,hw1,hb1,r1⟩:=(hx'.up u4).fE (k:=(k:Nat)) (by omega) (by omega) (by omega);obtain⟨b2,o2,w2,i2,hw2,hb2,r2⟩:=(hy'.up u4).fE (k:=(k:Nat)) (by omega) (by omega) (by omega);rw[show((k:Nat):Int).toNat=k by omega]at hw1 hw2;rw[List.getElem?_zip_eq_some]at hw1 hw2;obtain⟨kc,ka⟩:=w1;obtain⟨kc',kb⟩:=w2;obtain⟨f1,f2⟩:=hw1;obtain⟨f3,f4⟩:=hw2;dsimp only at f1 f2 f3 f4;rw[f1]at f3;cases f3
  repeat' (first|(simp (disch:=omega) only[go_sem,LX,aR i1,aR i2,r1.all,r2.all])|(with_reducible first|apply aj|apply ah|apply ay|apply aB|apply aA|apply au)<;>intro hd<;>(rw[hd];try simp only[decide_eq_true_eq,decide_eq_false_iff_not,Bool.not_eq_true',Bool.not_eq_false']at hd)|(with_reducible refine aD ?_))
  rw[bA];refine yj _ (k:=kc) ((x3 k kc ka f1 f2).up (u4.trans aL)) ((y3 k kc kb f1 f4).up (u4.trans aL)) (by have:=hst kc (List.mem_of_getElem? f1);omega) λh5 n5 u5=>?_;have e5:=u5.le;repeat' (first|(simp (disch:=omega) only[go_sem])|(with_reducible first|apply aj|apply ah|apply ay|apply aB|apply aA|apply au)<;>intro hd<;>(rw[hd];try simp only[decide_eq_true_eq,decide_eq_false_iff_not,Bool.not_eq_true',Bool.not_eq_false']at hd)|(with_reducible refine aD ?_))
  exact⟨rfl,rfl,_,⟨by exact aL,rfl⟩,by(repeat' (first|exact aZ|refine aW rfl ?_))⟩
 .rintro h4 n4 G ⟨u4,rfl⟩
  repeat' (first|(simp (disch:=omega) only[go_sem])|(with_reducible first|apply aj|apply ah|apply ay|apply aB|apply aA|apply au)<;>intro hd<;>(rw[hd];try simp only[decide_eq_true_eq,decide_eq_false_iff_not,Bool.not_eq_true',Bool.not_eq_false']at hd)|(with_reducible refine aD ?_))
  exact hQ _ _ u4
theorem vw(K:Nat){C:aH}{v v':CS}(hC:bG h n v C)(hC':bG h n v' C)(ok:C.Ok)(ho:C.off.length<=1000000)(hu:C.units.length<=1000000)(hQ:∀h' n',Up h n h' n'->Q (.b true) h' n'):CW (EF (K+4)) 60 [.agg (v.av C),.agg (v'.av C)] h n Q:=by
 have:=ok.fQ;have:=ok.mR;have:=ok.mq;obtain⟨ss,hs⟩:=hC.clauses;obtain⟨st,ht⟩:=hC'.clauses;have hst:∀k∈C.clauses,k.start.length<=1000:=λk hk=>by
  obtain⟨i,hi⟩:=List.getElem?_of_mem hk;have:=(ok.clause hi).wR;omega
 have cup:∀{h' n'},Up h n h' n'->yL h' n' v.k C.clauses ss:=λ{h' n'} u=>⟨hs.1,hs.2.1.up u,λi k t a b=>(hs.2.2 i k t a b).up u⟩;have adZ:∀{h' n'},Up h n h' n'->yL h' n' v'.k C.clauses st:=λ{h' n'} u=>⟨ht.1,ht.2.1.up u,λi k t a b=>(ht.2.2 i k t a b).up u⟩;refine aJ c60 rfl ?_;repeat' (first|(simp (disch:=omega) only[go_sem,ub.old,m60,CS.av,decide_true,Bool.and_true,Bool.true_and])|(simp (disch:=omega) only[go_sem,m60,CS.av,decide_true,Bool.and_true,Bool.true_and])|((first|rw[bA]|rw[bU]);with_reducible refine uO _ (hC.aC.up aL) (hC'.aC.up aL) (by omega) λh2 n2 u2=>?_;(first|replace ub:=Up.trans ub (Up.trans aL u2)|have ub:=u2);have hle:=ub.le;clear u2)|((first|rw[bA]|rw[bU]);with_reducible refine Eu _ (hC.units.up aL) (hC'.units.up aL) hu λh2 n2 u2=>?_;(first|replace ub:=Up.trans ub (Up.trans aL u2)|have ub:=u2);have hle:=ub.le;clear u2)|((first|rw[bA]|rw[bU]);with_reducible refine H7 _ (hC.acts.up aL) (hC'.acts.up aL) (by omega) λh2 n2 u2=>?_;(first|replace ub:=Up.trans ub (Up.trans aL u2)|have ub:=u2);have hle:=ub.le;clear u2)|((first|rw[bA]|rw[bU]);with_reducible refine uO _ (hC.off.up aL) (hC'.off.up aL) ho λh2 n2 u2=>?_;(first|replace ub:=Up.trans ub (Up.trans aL u2)|have ub:=u2);have hle:=ub.le;clear u2)|((first|rw[bA]|rw[bU]);with_reducible refine Au _ (cup aL) (adZ aL) (by omega) hst λh2 n2 u2=>?_;(first|replace ub:=Up.trans ub (Up.trans aL u2)|have ub:=u2);have hle:=ub.le;clear u2)|(with_reducible first|apply aj|apply ah|apply ay|apply aB|apply aA|apply au)<;>intro hd<;>(rw[hd];try simp only[decide_eq_true_eq,decide_eq_false_iff_not,Bool.not_eq_true',Bool.not_eq_false']at hd)|(with_reducible refine aD ?_))
 exact hQ _ _ aL
end
end
end
section
noncomputable section
structure DV where
 i:Nat
 tf:TS
 pf:aS
 tt:TS
 pt:aS
@[reducible] def DV.av (d:DV):List AV:=[.i .i64 (d.i:Nat),.i .i64 d.pf.st.day,d.tf.h,d.tf.u,d.tf.m,.b d.pf.own,.i .i64 d.pt.st.day,d.tt.h,d.tt.u,d.tt.m,.b d.pt.own]
structure M0(h:AH)(n:Nat)(C:aH)(cv sv tv dv:AV)(vs:List CS)(eX:List (TS×aO))(l:List Int)(u:Nat):Prop where
 con:SL h n 7 cv (λw:CS=>w.av C) vs
 cons:∀w∈vs,bG h n w C
 TI:SL h n 4 sv Uw eX
 H8:∀x∈eX,dO h n x.1 x.2
 QB:SL h n 1 tv iJ l
 day:SL h n 1 dv cn (List.replicate eX.length u)
 len:vs.length=eX.length
theorem M0.up{h h':AH}{n n':Nat}{C:aH}{cv sv tv dv:AV}{vs:List CS}{eX:List (TS×aO)}{l:List Int}{u:Nat}(a:M0 h n C cv sv tv dv vs eX l u)(x:Up h n h' n'):M0 h' n' C cv sv tv dv vs eX l u:=
 ⟨a.con.up x,λw hw=>(a.cons w hw).up x,a.TI.up x,λy hy=>(a.H8 y hy).up x,a.QB.up x,a.day.up x,a.len⟩
structure ad1(h:AH)(n rb pb:Nat)(C:aH)(cv sv tv dv:AV)(vs:List CS)(eX:List (TS×aO))(l:List Int)(u:Nat)(party:Int):Prop where
 r:h.get rb=some (.row 100 (rA cv sv tv dv))
 p:h.get pb=some (.row 3 [.i .i64 party])
 rn:rb<n
 pn:pb<n
 i:M0 h n C cv sv tv dv vs eX l u
section
variable {h h':AH} {n n':Nat} {Q:AV->AH->Nat->Prop}
theorem Av(K:Nat){cv sv tv dv:AV}{party:Int}(hQ:∀rb pb h' n',Up h n h' n'->h'.get rb=some (.row 100 (rA cv sv tv dv))->h'.get pb=some (.row 3 [.i .i64 party])->n<=rb->n<=pb->rb<n'->pb<n'->Q (.f 114 [.p rb 0,.p pb 0]) h' n'):CW (EF (K+1)) 61 [.agg (rA cv sv tv dv),.i .i64 party] h n Q:=by
 refine aJ c61 rfl ?_;repeat' (first|(simp (disch:=omega) only[go_sem,m61,rA])|(with_reducible first|apply aj|apply ah|apply ay|apply aB|apply aA|apply au)<;>intro hd<;>(rw[hd];try simp only[decide_eq_true_eq,decide_eq_false_iff_not,Bool.not_eq_true',Bool.not_eq_false']at hd)|(with_reducible refine aD ?_))
 exact hQ n (n+1) _ _ aL (by simp (disch:=omega) only[go_sem]) (by simp (disch:=omega) only[go_sem]) (by omega) (by omega) (by omega) (by omega)
theorem Ev(K:Nat){C:aH}{cv sv tv dv:AV}{vs:List CS}{eX:List (TS×aO)}{l:List Int}{u:Nat}{party:Int}{rb pb yr:Nat}(J:AH->Nat->Nat->Prop)(E:AH->Nat->Prop)(ho:C.off.length<=1000000)(hl:l.length<=100000)(hp:0<=party)(run:fF C C.first l (eX.map (·.2)))(oks:∀x∈eX,aU C x.2)
 (hJ:∀h n h' n' k,J h n k->Up h n h' n'->J h' n' k)(SH:∀h n k,J h n k->ad1 h n rb pb C cv sv tv dv vs eX l u party)(j0:J h n 0)
 (hstep:∀(k:Nat)(t:Int)(x y:TS×aO)(d:DV) h1 n1,l[k]?=some t->eX[k]?=some x->eX[k+1]?=some y->J h1 n1 k->d.i=k->d.tf=x.1->d.pf=⟨x.2,true⟩->d.pt=C.decide party x.2 y.2 t->(d.tt=x.1/\d.pt.st=x.2\/d.tt=y.1/\d.pt.st=y.2)->RW (Y0 yr [.agg d.av] (EF (K+8)) h1 n1) λw h2 n2=>∃b,w= .b b/\(b=true->J h2 n2 (k+1))/\(b=false->E h2 n2))
 (hQ:∀h' n',J h' n' l.length->Q (.bV []) h' n')(hE:∀h' n',E h' n'->Q (.bV []) h' n'):CW (EF (K+9)) 114 [.y yr,.p rb 0,.p pb 0] h n Q:=by
 have d0:=SH _ _ _ j0;have r0:=d0.r;refine aJ adF rfl ?_;repeat' (first|(simp (disch:=omega) only[go_sem,XR,r0,rA,d0.i.QB.len])|(with_reducible first|apply aj|apply ah|apply ay|apply aB|apply aA|apply au)<;>intro hd<;>(rw[hd];try simp only[decide_eq_true_eq,decide_eq_false_iff_not,Bool.not_eq_true',Bool.not_eq_false']at hd)|(with_reducible refine aD ?_))
 refine dD l.length (λk hk nk G=>J hk nk k/\G=[(0,.y yr),(1,.p rb 0),(2,.p pb 0),(8,tv)]) (by omega) (by omega) (by omega) (by omega) (λk h8 n8 G ⟨_,e⟩=>by subst e;exact⟨rfl,rfl⟩) ⟨rfl,rfl,_,⟨j0,rfl⟩,by(repeat' (first|exact aZ|refine aW rfl ?_))⟩ ?_ ?_
 .rintro k h3 n3 G hk ⟨j3,rfl⟩
  have d3:=SH _ _ _ j3;have r3:=d3.r;have p3:=d3.p;have rn:=d3.rn;have pn:=d3.pn;obtain⟨b1,o1,t,i1,ht,hb1,rd⟩:=d3.i.QB.fE (k:=(k:Nat)) (by omega) (by omega) (by omega);rw[show((k:Nat):Int).toNat=k by omega]at ht;repeat' (first|(simp (disch:=omega) only[go_sem,LG,aR i1,rd.el,rd.hd,r3])|(with_reducible first|apply aj|apply ah|apply ay|apply aB|apply aA|apply au)<;>intro hd<;>(rw[hd];try simp only[decide_eq_true_eq,decide_eq_false_iff_not,Bool.not_eq_true',Bool.not_eq_false']at hd)|(with_reducible refine aD ?_))
  have hS:=run.len;rw[List.length_map]at hS;obtain⟨x,hx⟩:∃x,eX[k]?=some x:=⟨eX[k]'(by omega),List.getElem?_eq_some_iff.2 ⟨by omega,rfl⟩⟩;obtain⟨y,hy⟩:∃y,eX[k+1]?=some y:=⟨eX[k+1]'(by omega),List.getElem?_eq_some_iff.2 ⟨by omega,rfl⟩⟩;have hSk:(eX.map (·.2))[k]?=some x.2:=by rw[List.getElem?_map,hx];rfl
  obtain⟨s1,s2,s3,s4⟩:=run.step k t x.2 ht hSk;have Ur:=oks x (List.mem_of_getElem? hx);rw[bU];refine oz _ (d3.i.TI.up (show Up h3 n3 h3 (n3+2) by exact aL)) hx λh4 n4 u4=>?_;have e4:=u4.le;have r4:=(u4.old rb (by omega)).trans r3;repeat' (first|(simp (disch:=omega) only[go_sem,r3,r4])|(with_reducible first|apply aj|apply ah|apply ay|apply aB|apply aA|apply au)<;>intro hd<;>(rw[hd];try simp only[decide_eq_true_eq,decide_eq_false_iff_not,Bool.not_eq_true',Bool.not_eq_false']at hd)|(with_reducible refine aD ?_))
  rw[bU];refine oz _ ((d3.i.TI.up (show Up h3 n3 h3 (n3+2) by exact aL)).up u4) hx λh5 n5 u5=>?_;have e5:=u5.le;have u35:Up h3 n3 h5 n5:=Up.trans (Up.trans (show Up h3 n3 h3 (n3+2) by exact aL) u4) u5;have d5:=d3.i.up u35;have r5:=(u35.old rb rn).trans r3;have p5:=(u35.old pb pn).trans p3;have j5:=hJ _ _ _ _ _ j3 u35;simp (disch:=omega) only[go_sem,r3,r4,r5];generalize hg:Tr.set (Tr.set (Tr.set h5 n3 _) n3 _) n3 _=h6;have u36:Up h3 n3 h6 n5:=by rw[<-hg];exact aL
  have g6:h6.get n3=some (.row 104 (DV.av ⟨k,x.1,⟨x.2,true⟩,x.1,⟨x.2,false⟩⟩)):=by rw[<-hg];exact aM
  clear hg r5 p5 j5 d5;have d6:=d3.i.up u36;have r6:=(u36.old rb rn).trans r3;have p6:=(u36.old pb pn).trans p3;have j6:=hJ _ _ _ _ _ j3 u36;by_cases ht0:0<=t
  .have hd0:decide (0<=t)=true:=decide_eq_true ht0
   have hlv:=d3.i.len;obtain⟨b6,o6,w,i6,hw,hb6,Uj⟩:=d6.con.fE (k:=(k:Nat)) (by omega) (by omega) (by omega);obtain⟨b7,o7,x',i7,hx',hb7,Ul⟩:=d6.TI.fE (k:=(k:Nat)) (by omega) (by omega) (by omega);rw[show((k:Nat):Int).toNat=k by omega]at hw hx';rw[hx]at hx';cases hx'
   obtain⟨a,ha⟩:∃a,C.acts[t.toNat]?=some a:=⟨C.acts[t.toNat]'(by omega),List.getElem?_eq_some_iff.2 ⟨by omega,rfl⟩⟩;have hdo:C.doer x.2 t=bO x.2.aC a:=by unfold aH.doer;rw[ha]
   repeat' (first|(simp (disch:=omega) only[go_sem,hd0,r6,i6,i7,Uj.all,Ul.all])|(with_reducible first|apply aj|apply ah|apply ay|apply aB|apply aA|apply au)<;>intro hd<;>(rw[hd];try simp only[decide_eq_true_eq,decide_eq_false_iff_not,Bool.not_eq_true',Bool.not_eq_false']at hd)|(with_reducible refine aD ?_))
   rw[bU];refine Oq _ (d6.cons w (List.mem_of_getElem? hw)) ho (d6.H8 x (List.mem_of_getElem? hx)) ((eU C x.2).2 Ur) ht0 ha λh7 n7 u7=>?_;have e7:=u7.le;have d7:=d6.up u7;have r7:=(u7.old rb (by omega)).trans r6;have p7:=(u7.old pb (by omega)).trans p6;have g7:=(u7.old n3 (by omega)).trans g6;have j7:=hJ _ _ _ _ _ j6 u7;rw[<-hdo];by_cases hdp:C.doer x.2 t=party
   .have hdd:decide (C.doer x.2 t=party)=true:=decide_eq_true hdp
    repeat' (first|(simp (disch:=omega) only[go_sem,p6,p7,hdd,r7])|(with_reducible first|apply aj|apply ah|apply ay|apply aB|apply aA|apply au)<;>intro hd<;>(rw[hd];try simp only[decide_eq_true_eq,decide_eq_false_iff_not,Bool.not_eq_true',Bool.not_eq_false']at hd)|(with_reducible refine aD ?_))
    have wid:f_ .i64 ((k:Int)+1)=((k+1:Nat):Int):=by rw[dN (by omega) (by omega)];rfl
    rw[wid,bA];refine oz _ d7.TI hy λh8 n8 u8=>?_;have e8:=u8.le;have g8:=(u8.old n3 (by omega)).trans g7;have u38:Up h3 n3 h8 n8:=(u36.trans u7).trans u8;simp (disch:=omega) only[go_sem,g8];rw[tO];refine RW.mono (hstep k t x y ⟨k,x.1,⟨x.2,true⟩,y.1,⟨y.2,true⟩⟩ _ _ ht hx hy (hJ _ _ _ _ _ j3 (Up.st u38 _ _ (Nat.le_refl _))) rfl rfl rfl (by unfold aH.decide;rw[if_pos ⟨ht0,hdp⟩]) (.inr ⟨rfl,rfl⟩)) ?_;rintro _ h9 n9 ⟨b,rfl,hb1,hb2⟩;cases b with
    |false=>
     simp (disch:=omega) only[go_sem];exact hE _ _ (hb2 rfl)
    |true=>
     simp (disch:=omega) only[go_sem];exact⟨rfl,rfl,_,⟨hb1 rfl,rfl⟩,by(repeat' (first|exact aZ|refine aW rfl ?_))⟩
   .have hdd:decide (C.doer x.2 t=party)=false:=decide_eq_false hdp
    repeat' (first|(simp (disch:=omega) only[go_sem,p6,p7,hdd,g7])|(with_reducible first|apply aj|apply ah|apply ay|apply aB|apply aA|apply au)<;>intro hd<;>(rw[hd];try simp only[decide_eq_true_eq,decide_eq_false_iff_not,Bool.not_eq_true',Bool.not_eq_false']at hd)|(with_reducible refine aD ?_))
    rw[tO];refine RW.mono (hstep k t x y ⟨k,x.1,⟨x.2,true⟩,x.1,⟨x.2,false⟩⟩ _ _ ht hx hy j7 rfl rfl rfl (by unfold aH.decide;rw[if_neg (λe=>hdp e.2)]) (.inl ⟨rfl,rfl⟩)) ?_;rintro _ h9 n9 ⟨b,rfl,hb1,hb2⟩;cases b with
    |false=>
     simp (disch:=omega) only[go_sem];exact hE _ _ (hb2 rfl)
    |true=>
     simp (disch:=omega) only[go_sem];exact⟨rfl,rfl,_,⟨hb1 rfl,rfl⟩,by(repeat' (first|exact aZ|refine aW rfl ?_))⟩
  .have hd0:decide (0<=t)=false:=decide_eq_false ht0
   repeat' (first|(simp (disch:=omega) only[go_sem,hd0,g6])|(with_reducible first|apply aj|apply ah|apply ay|apply aB|apply aA|apply au)<;>intro hd<;>(rw[hd];try simp only[decide_eq_true_eq,decide_eq_false_iff_not,Bool.not_eq_true',Bool.not_eq_false']at hd)|(with_reducible refine aD ?_))
   rw[tO];refine RW.mono (hstep k t x y ⟨k,x.1,⟨x.2,true⟩,x.1,⟨x.2,false⟩⟩ _ _ ht hx hy j6 rfl rfl rfl (by unfold aH.decide;rw[if_neg (λe=>ht0 e.1)]) (.inl ⟨rfl,rfl⟩)) ?_;rintro _ h9 n9 ⟨b,rfl,hb1,hb2⟩;cases b with
   |false=>
    simp (disch:=omega) only[go_sem];exact hE _ _ (hb2 rfl)
   |true=>
    simp (disch:=omega) only[go_sem];exact⟨rfl,rfl,_,⟨hb1 rfl,rfl⟩,by(repeat' (first|exact aZ|refine aW rfl ?_))⟩
 .rintro h3 n3 G ⟨j3,rfl⟩
  repeat' (first|(simp (disch:=omega) only[go_sem])|(with_reducible first|apply aj|apply ah|apply ay|apply aB|apply aA|apply au)<;>intro hd<;>(rw[hd];try simp only[decide_eq_true_eq,decide_eq_false_iff_not,Bool.not_eq_true',Bool.not_eq_false']at hd)|(with_reducible refine aD ?_))
  exact hQ _ _ j3
end
end
end
section
noncomputable section
def qN(C:aH)(party:Int)(l:List Int)(S:List aO)(k:Nat):Prop:=∀(i:Nat)(t:Int)(a b:aO),i<k->l[i]?=some t->S[i]?=some a->S[i+1]?=some b->¬dI C party ⟨a,true⟩/\¬dI C party (C.decide party a b t)
def Ew(C:aH)(party:Int)(l:List Int)(S:List aO)(k:Nat):Prop:=qN C party l S k/\∃t a b,l[k]?=some t/\S[k]?=some a/\S[k+1]?=some b/\¬dI C party ⟨a,true⟩/\dI C party (C.decide party a b t)
def Ey(C:aH)(party:Int)(l:List Int)(S:List aO):Prop:=∃k,k<=l.length/\qN C party l S k/\(k=l.length\/k<l.length/\∃a,S[k]?=some a/\dI C party ⟨a,true⟩)
section
variable {h h':AH} {n n':Nat} {Q:AV->AH->Nat->Prop} {C:aH} {v:CS} {cv sv tv dv:AV} {vs:List CS} {eX:List (TS×aO)} {l:List Int} {party:Int} {u j s lm rb pb:Nat} {ent:List (List UInt8×AV)}
theorem bG.Ux{κ:Type}{ke:κ->AV}{m:List (κ×AV)}(a:bG h n v C)(b:vg h s ke m):Kp (λx=>x=s) h n (λh n=>bG h n v C):=by
 obtain⟨ss,h1,h2,h3⟩:=a.clauses;have hz:(C.clauses.zip ss).length=C.clauses.length:=by simp[h1]
 have hk:SL h n 16 v.k MX (C.clauses.zip ss):=⟨λ_=>rfl,by rw[hz];exact h2⟩;have k1:=((a.aC.kp λx hx e=>a.aC.lH b x hx e).and (a.units.kp λx hx e=>a.units.lH b x hx e)).and (a.acts.kp λx hx e=>a.acts.lH b x hx e);have k2:=(a.off.kp λx hx e=>a.off.lH b x hx e).and (hk.kp λx hx e=>hk.lH b x hx e);have k3:Kp (λx=>x=s) h n (λh n=>∀(i:Nat)(k:aN)(t:AV),C.clauses[i]?=some k->ss[i]?=some t->SL h n 2 t fO.av k.start):=
  λh' n' a1 a2 i k t b1 b2=>((h3 i k t b1 b2).kp λx hx e=>(h3 i k t b1 b2).lH b x hx e) h' n' a1 a2
 exact((k1.and k2).and k3).wk λh n e=>⟨e.1.1.1.1,e.1.1.1.2,e.1.1.2,⟨ss,h1,by have:=e.1.2.2.2;rw[hz]at this;exact this,e.2⟩,e.1.2.1⟩
theorem M0.Ux{κ:Type}{ke:κ->AV}{m:List (κ×AV)}(a:M0 h n C cv sv tv dv vs eX l u)(b:vg h s ke m):Kp (λx=>x=s) h n (λh n=>M0 h n C cv sv tv dv vs eX l u):=by
 have k1:=((a.con.kp λx hx e=>a.con.lH b x hx e).and (a.TI.kp λx hx e=>a.TI.lH b x hx e)).and ((a.QB.kp λx hx e=>a.QB.lH b x hx e).and (a.day.kp λx hx e=>a.day.lH b x hx e));have k2:Kp (λx=>x=s) h n (λh n=>∀w∈vs,bG h n w C):=λh' n' a1 a2 w hw=>(a.cons w hw).Ux b h' n' a1 a2;have k3:Kp (λx=>x=s) h n (λh n=>∀x∈eX,dO h n x.1 x.2):=λh' n' a1 a2 x hx=>(a.H8 x hx).Ux b h' n' a1 a2;exact((k1.and k2).and k3).wk λh n e=>⟨e.1.1.1.1,e.1.2,e.1.1.1.2,e.2,e.1.1.2.1,e.1.1.2.2,a.len⟩
@[reducible] def dZ:List AV:=[.i .i64 0,.i .i64 0,.k 1,.k 1,.k 1,.b false,.i .i64 0,.k 1,.k 1,.k 1,.b false]
def Mf(st:LoopState)(pd:Option Code)(t:Tr AV):AO:=.lp st pd 34 t [16] (je 34 0) (jf 34 0)
structure O8(C:aH)(party:Int)(u j s lm:Nat)(cv sv tv dv:AV)(vs:List CS)(eX:List (TS×aO))(l:List Int)(h0:AH)(n:Nat)(h:AH):Prop where
 i:M0 h n C cv sv tv dv vs eX l u
 jd:∃ent,Jd C u party h n j s lm ent
 b0:h.get n=some (.row 106 [.p j 0])
 b1:h.get (n+1)=some (.row 100 (rA cv sv tv dv))
 b2:h.get (n+1+1)=some (.row 104 dZ)
 b3:h.get (n+1+1+1)=some (.row 4 [.b false])
 b4:h.get (n+1+1+1+1)=some (.row 31 [.i .i64 0])
 same:∀x,x<n->x≠s->h.get x=h0.get x
 sn:s<n
theorem Up.wide(h:AH){n n':Nat}(e:n<=n'):Up h n h n':=⟨e,λ_ _=>rfl⟩
theorem O8.mv{h0:AH}(a:O8 C party u j s lm cv sv tv dv vs eX l h0 n h)(x:∀y,y<n+5->h'.get y=h.get y):O8 C party u j s lm cv sv tv dv vs eX l h0 n h':=by
 obtain⟨ent,jd⟩:=a.jd;have up:Up h n h' n:=⟨Nat.le_refl _,λy hy=>x y (by omega)⟩;exact⟨a.i.up up,⟨ent,jd.up up⟩,(x _ (by omega)).trans a.b0,(x _ (by omega)).trans a.b1,(x _ (by omega)).trans a.b2,(x _ (by omega)).trans a.b3,(x _ (by omega)).trans a.b4,λy h1 h2=>(x y (by omega)).trans (a.same y h1 h2),a.sn⟩
theorem Jd.dn{n':Nat}(a:Jd C u party h n j s lm ent)(h1:j<n')(h2:s<n')(h3:lm<n'):Jd C u party h n' j s lm ent:=⟨a.row,a.ms,a.ml,a.ok,h1,h2,h3,a.js,a.jl,a.sl⟩
theorem O8.on{h0:AH}(a:O8 C party u j s lm cv sv tv dv vs eX l h0 n h){ent:List (List UInt8×AV)}{m:Nat}(jd:Jd C u party h' m j s lm ent)(x:∀y,y<n+5->y≠s->h'.get y=h.get y):O8 C party u j s lm cv sv tv dv vs eX l h0 n h':=by
 obtain⟨aj8,Z5⟩:=a.jd;have:=a.sn;exact⟨a.i.Ux Z5.ms h' n (Nat.le_refl _) λy h1 h2=>x y (by omega) h2,⟨ent,jd.dn Z5.jn Z5.sn Z5.ln⟩,(x _ (by omega) (by omega)).trans a.b0,(x _ (by omega) (by omega)).trans a.b1,(x _ (by omega) (by omega)).trans a.b2,(x _ (by omega) (by omega)).trans a.b3,(x _ (by omega) (by omega)).trans a.b4,λy h1 h2=>(x y (by omega) h2).trans (a.same y h1 h2),a.sn⟩
theorem qN.succ{S:List aO}{k:Nat}{t:Int}{a b:aO}(h:qN C party l S k)(h1:l[k]?=some t)(h2:S[k]?=some a)(h3:S[k+1]?=some b)(h4:¬dI C party ⟨a,true⟩)(h5:¬dI C party (C.decide party a b t)):qN C party l S (k+1):=λi t' a' b' hi e1 e2 e3=>by
 by_cases e:i<k
 .exact h i t' a' b' e e1 e2 e3
 .obtain rfl:i=k:=by omega
  rw[h1]at e1;rw[h2]at e2;rw[h3]at e3;cases e1;cases e2;cases e3
  exact⟨h4,h5⟩
def LsE(C:aH)(party:Int)(l:List Int)(S:List aO)(s:Nat)(h0:AH)(n L:Nat)(t:Tr AV)(h:AH)(m:Nat):Prop:=∃(d:DV)(b:Bool),h.get (n+1+1)=some (.row 104 d.av)/\h.get (n+1+1+1)=some (.row 4 [.b b])/\h.get (n+1+1+1+1)=some (.row 31 [.i .i64 0])/\
 h.get L=some (Mf .done (some .ret) t)/\(b=true->Ew C party l S d.i)/\(b=false->Ey C party l S)/\n<=m/\(∀x,x<n->x≠s->h.get x=h0.get x)/\n+5<=L
theorem Mg(K:Nat)(hR:M0 h n C cv sv tv dv vs eX l u)(a:Jd C u party h n j s lm ent)(ho:C.off.length<=1000000)(hl:l.length<=100000)(hu:u<100)(hp0:0<=party)(hp1:party<C.aK)(run:fF C C.first l (eX.map (·.2)))(oks:∀x∈eX,aU C x.2)(nb:∀x∈eX,∀b,¬gK C party ⟨x.2,b⟩)
 (hQ:∀(d:DV)(b:Bool) h' n',(b=true->Ew C party l (eX.map (·.2)) d.i)->(b=false->Ey C party l (eX.map (·.2)))->n<=n'->(∀x,x<n->x≠s->h'.get x=h.get x)->Q (.bV [.agg d.av,.b b,.i .i64 0]) h' n'):CW (EF (K+14)) 34 [.p j 0,.agg (rA cv sv tv dv)] h n Q:=by
 obtain⟨r,Uk,hrow⟩:=a.row;have hjn:=a.jn;have hsn:=a.sn;refine aJ c34 rfl ?_;repeat' (first|(simp (disch:=omega) only[go_sem,ub.old,m34,rA,hrow])|(simp (disch:=omega) only[go_sem,m34,rA,hrow])|(with_reducible first|apply aj|apply ah|apply ay|apply aB|apply aA|apply au)<;>intro hd<;>(rw[hd];try simp only[decide_eq_true_eq,decide_eq_false_iff_not,Bool.not_eq_true',Bool.not_eq_false']at hd)|(with_reducible refine aD ?_))
 generalize hh:Tr.set (Tr.set (Tr.set (Tr.set (Tr.set h n _) (n+1) _) (n+1+1) _) (n+1+1+1) _) (n+1+1+1+1) _=h1;have u1:Up h n h1 (n+5):=by rw[<-hh];exact aL
 have b0:h1.get n=some (.row 106 [.p j 0]):=by rw[<-hh];simp (disch:=omega) only[go_sem]
 have b1:h1.get (n+1)=some (.row 100 (rA cv sv tv dv)):=by rw[<-hh];simp (disch:=omega) only[go_sem]
 have b2:h1.get (n+1+1)=some (.row 104 dZ):=by rw[<-hh];simp (disch:=omega) only[go_sem]
 have b3:h1.get (n+1+1+1)=some (.row 4 [.b false]):=by rw[<-hh];simp (disch:=omega) only[go_sem]
 have b4:h1.get (n+1+1+1+1)=some (.row 31 [.i .i64 0]):=by rw[<-hh];simp (disch:=omega) only[go_sem]
 clear hh;have A1:O8 C party u j s lm cv sv tv dv vs eX l h n h1:=⟨hR.up ⟨Nat.le_refl _,u1.old⟩,⟨ent,a.up ⟨Nat.le_refl _,u1.old⟩⟩,b0,b1,b2,b3,b4,λx hx _=>u1.old x hx,hsn⟩;rw[bU];show CW _ 61 [.agg (rA cv sv tv dv),.i .i64 party] h1 (n+5) _;refine Av (K+12) λrb pb h2 n2 u2 r2 p2 g1 g2 g3 g4=>?_;have e2:=u2.le;have A2:=A1.mv u2.old;simp (disch:=omega) only[go_sem,b1,A2.b1];refine vH rfl λt hF=>?_;refine Ev (K+4) (C:=C) (vs:=vs) (eX:=eX) (l:=l) (u:=u) (party:=party) (cv:=cv) (sv:=sv) (tv:=tv) (dv:=dv) (rb:=rb) (pb:=pb) (λhk nk k=>O8 C party u j s lm cv sv tv dv vs eX l h n hk/\hk.get rb=some (.row 100 (rA cv sv tv dv))/\hk.get pb=some (.row 3 [.i .i64 party])/\hk.get n2=some (Mf .ready none t)/\n2<nk/\qN C party l (eX.map (·.2)) k) (LsE C party l (eX.map (·.2)) s h n n2 t) ho hl hp0 run oks ?_ ?_ ?_ ?_ ?_ ?_
 .rintro h' n' h'' n'' k ⟨c1,c2,c3,c6,c7,c8⟩ u
  have:=u.le;exact⟨c1.mv λy hy=>u.old y (by omega),(u.old _ (by omega)).trans c2,(u.old _ (by omega)).trans c3,(u.old _ c7).trans c6,by omega,c8⟩
 .rintro h' n' k ⟨c1,c2,c3,c6,c7,c8⟩
  exact⟨c2,c3,by omega,by omega,c1.i.up (Up.wide _ (by omega))⟩
 .exact⟨A2.mv λy hy=>aI (by omega),(aI (by omega)).trans r2,(aI (by omega)).trans p2,aM,by omega,λi _ _ _ hi=>absurd hi (by omega)⟩
 .rintro k tk x y d h3 n3 hlk hx hy ⟨c1,c2,c3,c6,c7,c8⟩ d1 d2 d3 d4 d5
  have hk1:k<l.length:=(List.getElem?_eq_some_iff.1 hlk).1;have hkS:k<eX.length:=(List.getElem?_eq_some_iff.1 hx).1;have hlv:=c1.i.len;obtain⟨w,hw⟩:∃w,vs[k]?=some w:=⟨vs[k]'(by omega),List.getElem?_eq_some_iff.2 ⟨by omega,rfl⟩⟩;have hxm:=List.mem_of_getElem? hx;have hym:=List.mem_of_getElem? hy;have hS1:(eX.map (·.2))[k]?=some x.2:=by rw[List.getElem?_map,hx];rfl
  have hS2:(eX.map (·.2))[k+1]?=some y.2:=by rw[List.getElem?_map,hy];rfl
  refine RW.mono (rW (d:=19) (F:=_) (bs:=[true]) (R:=λb h' n'=>(b=true->O8 C party u j s lm cv sv tv dv vs eX l h n h'/\h'.get rb=some (.row 100 (rA cv sv tv dv))/\h'.get pb=some (.row 3 [.i .i64 party])/\h'.get n2=some (Mf .ready none t)/\n2<n'/\qN C party l (eX.map (·.2)) (k+1))/\(b=false->LsE C party l (eX.map (·.2)) s h n n2 t h' n')) c6 hF (by kernel_rfl) rfl Tq Tt ?_) ?_
  .simp (disch:=omega) only[go_sem,LP,Og]
   generalize hx3:Tr.set (Tr.set h3 n3 _) n3 _=h4;have u34:Up h3 n3 h4 (n3+1):=by rw[<-hx3];exact aL
   have g7:h4.get n3=some (.row 104 d.av):=by rw[<-hx3];exact aM
   clear hx3;have r6:=(u34.old n2 c7).trans c6;refine⟨_,_,_,_,_,_,r6,?_⟩;have A4:=c1.mv (h':=h4.set n2 (.lp .busy none 34 t [16] (je 34 0) (jf 34 0))) λy hy=>by rw[aI (by omega),u34.old y (by omega)]
   have r2':(h4.set n2 (.lp .busy none 34 t [16] (je 34 0) (jf 34 0))).get rb=some (.row 100 (rA cv sv tv dv)):=by rw[aI (by omega),u34.old rb (by omega)];exact c2
   have p2':(h4.set n2 (.lp .busy none 34 t [16] (je 34 0) (jf 34 0))).get pb=some (.row 3 [.i .i64 party]):=by rw[aI (by omega),u34.old pb (by omega)];exact c3
   have r6':(h4.set n2 (.lp .busy none 34 t [16] (je 34 0) (jf 34 0))).get n2=some (.lp .busy none 34 t [16] (je 34 0) (jf 34 0)):=aM;have g7':(h4.set n2 (.lp .busy none 34 t [16] (je 34 0) (jf 34 0))).get n3=some (.row 104 d.av):=by rw[aI (by omega)];exact g7
   generalize h4.set n2 _=h5 at*;obtain⟨aj_,Z6⟩:=A4.jd;obtain⟨r5,Sb,agL⟩:=Z6.row;obtain⟨i0,tf,pf,tt,pt⟩:=d;dsimp only at d1 d2 d3 d4 d5;subst d1 d2 d3;simp (disch:=omega) only[go_sem,LQ,A4.b0,A4.b1,g7',DV.av];rw[bA];have R5:=A4.i.up (Up.wide h5 (show n<=n3+1 by omega));have sn:=A4.sn;refine yV K (k:=i0) (vs:=vs) (C:=C) (party:=party) (p:=⟨x.2,true⟩) (tq:=x.1) (N:=eX.length) (u:=u) hw R5.con (R5.cons w (List.mem_of_getElem? hw)) ho R5.day hkS hu (Z6.dn (by have:=Z6.jn;omega) (by omega) (by have:=Z6.ln;omega)) (R5.H8 x hxm) (oks x hxm) hp0 hp1 (nb x hxm true) λb1 akb h6 n6 hb1 jd6 l6 x6=>?_;have A6:=A4.on jd6 λy hy hne=>x6 y (by omega) hne;have r26:=(x6 rb (by omega) (by omega)).trans r2';have p26:=(x6 pb (by omega) (by omega)).trans p2';have r66:=(x6 n2 (by omega) (by omega)).trans r6';have g76:=(x6 n3 (by omega) (by omega)).trans g7';cases b1 with
   |false=>
    have Uy:dI C party ⟨x.2,true⟩:=Classical.byContradiction λe=>by cases hb1.2 e
    simp (disch:=omega) only[go_sem,A6.b2,A6.b3,A6.b4];refine⟨_,_,_,_,_,_,_,by simp (disch:=omega) only[go_sem];exact r66,(λe=>by cases e),λ_=>?_⟩;refine⟨⟨0,⟨.k 1,.k 1,.k 1⟩,⟨⟨0,[],[],[]⟩,false⟩,⟨.k 1,.k 1,.k 1⟩,⟨⟨0,[],[],[]⟩,false⟩⟩,false,by simp (disch:=omega) only[go_sem];rfl,by simp (disch:=omega) only[go_sem],by simp (disch:=omega) only[go_sem],aM,(λe=>by cases e),λ_=>⟨i0,by omega,c8,.inr ⟨hk1,_,hS1,Uy⟩⟩,by omega,λy hy hne=>?_,by omega⟩;simp (disch:=omega) only[go_sem];exact A6.same y hy hne
   |true=>
    have hsf:¬dI C party ⟨x.2,true⟩:=hb1.1 rfl;have R6:=A6.i.up (Up.wide h6 (show n<=n6 by omega));obtain⟨Uz,O9⟩:=pt;have hpt:dO h6 n6 tt Uz/\aU C Uz/\¬gK C party ⟨Uz,O9⟩:=by
     rcases d5 with⟨rfl,e⟩|⟨rfl,e⟩
     .dsimp only at e;subst e;exact⟨R6.H8 x hxm,oks x hxm,nb x hxm _⟩
     .dsimp only at e;subst e;exact⟨R6.H8 y hym,oks y hym,nb y hym _⟩
    simp (disch:=omega) only[go_sem,A6.b0,A6.b1,g76,DV.av];rw[bA];refine yV K (k:=i0) (vs:=vs) (C:=C) (party:=party) (p:=⟨Uz,O9⟩) (tq:=tt) (N:=eX.length) (u:=u) hw R6.con (R6.cons w (List.mem_of_getElem? hw)) ho R6.day hkS hu jd6 hpt.1 hpt.2.1 hp0 hp1 hpt.2.2 λb2 akd h7 n7 hb2 jd7 l7 x7=>?_;have A7:=A6.on jd7 λy hy hne=>x7 y (by omega) hne;have r27:=(x7 rb (by omega) (by omega)).trans r26;have p27:=(x7 pb (by omega) (by omega)).trans p26;have r67:=(x7 n2 (by omega) (by omega)).trans r66;have g77:=(x7 n3 (by omega) (by omega)).trans g76;cases b2 with
    |false=>
     have Uy:dI C party ⟨Uz,O9⟩:=Classical.byContradiction λe=>by cases hb2.2 e
     simp (disch:=omega) only[go_sem,g77,DV.av,A7.b2,A7.b3,A7.b4];refine⟨_,_,_,_,_,_,_,by simp (disch:=omega) only[go_sem];exact r67,(λe=>by cases e),λ_=>?_⟩;refine⟨⟨i0,x.1,⟨x.2,true⟩,tt,⟨Uz,O9⟩⟩,true,by simp (disch:=omega) only[go_sem],by simp (disch:=omega) only[go_sem],by simp (disch:=omega) only[go_sem],aM,λ_=>⟨c8,_,_,_,hlk,hS1,hS2,hsf,by rw[<-d4];exact Uy⟩,(λe=>by cases e),by omega,λy hy hne=>?_,by omega⟩;simp (disch:=omega) only[go_sem];exact A7.same y hy hne
    |true=>
     simp (disch:=omega) only[go_sem];refine⟨_,_,_,_,_,_,_,r67,λ_=>⟨A7.mv λy hy=>aI (by omega),(aI (by omega)).trans r27,(aI (by omega)).trans p27,aM,by omega,c8.succ hlk hS1 hS2 hsf (by rw[<-d4];exact hb2.1 rfl)⟩,(λe=>by cases e)⟩
  .rintro u h' n' ⟨b,rfl,hb⟩
   exact⟨b,rfl,hb⟩
 .rintro h3 n3 ⟨c1,c2,c3,c6,c7,c8⟩
  refine⟨_,_,_,_,_,_,_,c6,.inl ⟨rfl,rfl,?_⟩⟩;simp (disch:=omega) only[go_sem,c1.b2,c1.b3,c1.b4];refine hQ ⟨0,⟨.k 1,.k 1,.k 1⟩,⟨⟨0,[],[],[]⟩,false⟩,⟨.k 1,.k 1,.k 1⟩,⟨⟨0,[],[],[]⟩,false⟩⟩ false _ _ (λe=>by cases e) (λ_=>⟨l.length,Nat.le_refl _,c8,.inl rfl⟩) (by omega) λx hx hne=>?_;simp (disch:=omega) only[go_sem];exact c1.same x hx hne
 .rintro h3 n3 ⟨d,b,q2,q3,q4,q5,q6,q7,q8,q9,XQ⟩
  refine⟨_,_,_,_,_,_,_,q5,.inr (.inl ⟨rfl,rfl,?_⟩)⟩;simp (disch:=omega) only[go_sem,q2,q3,q4];exact hQ d b _ _ q6 q7 (by omega) λx hx hne=>by rw[aI (by omega)];exact q9 x hx hne
end
end
end
noncomputable section
end
end Go.Proofs.YtjoohkjmoghmoaaGreatDoor
