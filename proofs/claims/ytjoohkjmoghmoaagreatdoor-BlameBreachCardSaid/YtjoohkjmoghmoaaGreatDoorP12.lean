/- part -/
import Derived.Test.YtjoohkjmoghmoaaGreatDoorP11
set_option linter.all false
namespace Go.Proofs.YtjoohkjmoghmoaaGreatDoor
section
noncomputable section
section
variable {h h':AH} {n n':Nat} {v:CS} {C:aA} {tv:TS} {p:aP} {party:Int} {Q:AV->AH->Nat->Prop}
structure Nc(h:AH)(n pb cb tb:Nat)(v:CS)(C:aA)(tv:TS)(p:aP)(party:Int):Prop where
 rp:h.get pb=some (.row 45 (tv.pv p))
 rc:h.get cb=some (.row 27 (v.av C))
 rt:h.get tb=some (.row 3 [.i .i64 party])
 pn:pb<n
 cn:cb<n
 tn:tb<n
 con:aY h n v C
 st:bX h n tv p.st
theorem Nc.up{pb cb tb:Nat}(m:Nc h n pb cb tb v C tv p party)(u:Up h n h' n'):Nc h' n' pb cb tb v C tv p party:=
 have:=u.le
 ⟨(u.old _ m.pn).trans m.rp,(u.old _ m.cn).trans m.rc,(u.old _ m.tn).trans m.rt,Nat.lt_of_lt_of_le m.pn this,Nat.lt_of_lt_of_le m.cn this,Nat.lt_of_lt_of_le m.tn this,m.con.up u,m.st.up u⟩
theorem Nf(K:Nat)(hC:aY h n v C)(hS:bX h n tv p.st)(hQ:∀pb cb tb h' n',Up h n h' n'->Nc h' n' pb cb tb v C tv p party->n<=pb->n<=cb->n<=tb->Q (.f 233 [.p pb 0,.p cb 0,.p tb 0]) h' n'):CW (EF (K+1)) 136 [.agg (v.av C),.i .i64 party,.agg (tv.pv p)] h n Q:=by
 refine aD aeS rfl ?_;repeat' (first|(simp (disch:=omega) only[go_sem,simprocAttr,Y7,CS.av,TS.pv])|(refine aT ?_ ?_<;>(intro hb hd;rw[hb];clear hb))|(with_reducible refine aj ?_))
 have u:∀h',h'=((Tr.set h n (AO.row 27 (v.av C))).set (n+1) (.row 3 [.i .i64 party])).set (n+1+1) (.row 45 (tv.pv p))->Up h n h' (n+1+1+1):=λh' e=>by rw[e];exact aI
 refine hQ (n+2) n (n+1) _ _ (u _ rfl) ⟨?_,?_,?_,by omega,by omega,by omega,hC.up (u _ rfl),hS.up (u _ rfl)⟩ (by omega) (by omega) (by omega);all_goals simp (disch:=omega) only[go_sem]
theorem Ng(C:aA)(party:Int)(p:aP){k N:Nat}(h:k<=N):C.ou party p k<+:C.ou party p N:=by
 induction h with
 |refl=>exact⟨[],by simp⟩
 |step _ ih=>rw[vR];exact ih.trans ⟨_,rfl⟩
theorem Qy(K:Nat){pb cb tb yr:Nat}(J:AH->Nat->List (Int×aP)->Prop)(E:AH->Nat->Prop)(ho:C.off.length<=1000000)(ok:aM C p.st)(hJ:∀h n h' n' l,J h n l->Up h n h' n'->J h' n' l)
 (U5:∀h n l,J h n l->Nc h n pb cb tb v C tv p party)(j0:J h n [])
 (hstep:∀(l:List (Int×aP))(m:Int)(q:aP)(tvq:TS) h0 n0 h1 n1,(l++[(m,q)])<+:C.pO party p->J h0 n0 l->Up h0 n0 h1 n1->Kp (λx=>x<n0) h1 n1 (λh n=>bX h n tvq q.st)->
  RW (Y0 yr [.i .i64 m,.agg (tvq.pv q)] (EF (K+8)) h1 n1) λu h2 n2=>∃b,u= .b b/\(b=true->J h2 n2 (l++[(m,q)]))/\(b=false->E h2 n2))
 (hQ:∀h' n',J h' n' (C.pO party p)->Q (.bQ []) h' n')(hE:∀h' n',E h' n'->Q (.bQ []) h' n'):CW (EF (K+9)) 233 [.y yr,.p pb 0,.p cb 0,.p tb 0] h n Q:=by
 have hm0:=U5 _ _ _ j0;have rp:=hm0.rp;have rc:=hm0.rc;have rt:=hm0.rt;refine aD c233 rfl ?_;have ok1:=aA.ok ok.con;have:=ok.lh;have:=ok.lu;have:=ok.lm;have:=ok1.dL;have:=ok1.jY;have:=ok1.lG;have tail:∀h2 n2 (F:Fm),J h2 n2 (C.oq p)->p.st.day<C.days->lk F 49=some (.i .i64 0)->lk F 48=some (.i .i64 (C.acts.length:Nat))->lk F 0=some (.y yr)->lk F 1=some (.p pb 0)->lk F 2=some (.p cb 0)->lk F 3=some (.p tb 0)->lk F 47=some v.a->
  SM Tryz.prog Y0 233 (.c (zW 3 49 48 50 0 1 FX)::[It.b 0]) .bT (EF (K+8)) h2 n2 F (RS [] Q):=by
  intro h2 n2 F j2 w_ f1 f2 f3 f4 f5 f6 f7;refine b_ C.acts.length (λk h n G=>J h n (C.oq p++C.ou party p k)/\G=[(0,.y yr),(1,.p pb 0),(2,.p cb 0),(3,.p tb 0),(47,v.a)]) (by omega) (by omega) (by omega) (by omega) (λk h8 n8 G ⟨_,e⟩=>by subst e;exact⟨rfl,rfl⟩) ⟨f1,f2,_,⟨by simpa [aA.ou]using j2,rfl⟩,aN f3 (aN f4 (aN f5 (aN f6 (aN f7 aR))))⟩ ?_ ?_
  .rintro k h3 n3 G hk ⟨j3,rfl⟩
   have D8:=U5 _ _ _ j3;have rp:=D8.rp;have rc:=D8.rc;have rt:=D8.rt;obtain⟨b1,o1,a,i1,ha,hb1,rd⟩:=D8.con.acts.gD (k:=(k:Nat)) (by omega) (by omega) (by omega);rw[show((k:Nat):Int).toNat=k by omega]at ha;have pn:=D8.pn;have cn:=D8.cn;have tn:=D8.tn;have act:=ok1.act (List.mem_of_getElem? ha);have hdo:C.doer p.st (k:Nat)=bH p.st.ah a:=by unfold aA.doer;rw[show((k:Nat):Int).toNat=k by omega,ha]
   have rp:=D8.rp;have rc:=D8.rc;have rt:=D8.rt;have sk:¬C.JE party p k->∀h4 n4,Up h3 n3 h4 n4->J h4 n4 (C.oq p++C.ou party p (k+1)):=λh h4 n4 u=>by rw[vR,if_neg h,List.append_nil];exact hJ _ _ _ _ _ j3 u
   have ks:C.JE party p k->C.oq p++C.ou party p (k+1)=C.oq p++C.ou party p k++[((k:Int),⟨C.aZ p.st k,true⟩)]:=λh=>by rw[vR,if_pos h,List.append_assoc]
   have pre:C.oq p++C.ou party p (k+1)<+:C.pO party p:=by
    rw[aA.pO,if_pos w_,List.prefix_append_right_inj];exact Ng C party p hk
   repeat' (first|(simp (disch:=omega) only[go_sem,simprocAttr,FX,aK i1,rd.el,rd.hd,rd.all])|(refine aT ?_ ?_<;>(intro hb hd;rw[hb];clear hb))|(with_reducible refine aj ?_))
   .have hr:=act.role hd
    obtain⟨b2,o2,x,i2,hx,hb2,gu⟩:=D8.st.ah.gD (k:=a.role) (by omega) (by omega) (by omega);have hdx:bH p.st.ah a=x:=by unfold bH gW;rw[hx,show(a.role== -1)=false by simpa using hd];rfl
    simp (disch:=omega) only[go_sem,simprocAttr,rp,rc,rt,TS.pv,CS.av,aK i2,gu.el,gu.hd];rw[<-hdx];rw[<-hdo];refine xG (λhd2=>?_) (λhd2=>?_)<;>rw[hd2]
    .simp (disch:=omega) only[go_sem,simprocAttr]
     have hn:¬C.JE party p k:=λe=>by
      have e:=e.1;by_cases hx:C.doer p.st (k:Nat)=party
      .rw[hx,e.1 hx]at hd2;simp at hd2
      .have:p.own=false:=by cases ho:p.own with|true=>exact absurd (e.2 ho) hx|false=>rfl
       rw[this]at hd2;simp[hx]at hd2
     refine⟨rfl,rfl,_,⟨sk hn _ _ aI,rfl⟩,by(repeat' (first|exact aR|refine aN rfl ?_))⟩
    .have hde:C.doer p.st (k:Nat)=party↔p.own=true:=by
      by_cases hx:C.doer p.st (k:Nat)=party
      .cases ho:p.own with
       |true=>simp[hx]
       |false=>rw[ho]at hd2;simp[hx]at hd2
      .cases ho:p.own with
       |false=>simp[hx]
       |true=>rw[ho]at hd2;simp[hx]at hd2
     simp (disch:=omega) only[go_sem,simprocAttr,rp,rc,rt,TS.pv,CS.av];rw[aU];refine uD _ (D8.con.up aI) ho (D8.st.up aI) (k:Nat) (λe=>?_) (λ_ _ _ e=>?_) (λ_ _ _ _ Nh h4 n4 u4 k4=>?_)
     .exact absurd e (by rw[(dP C p.st).2 ok];simp;omega)
     .omega
     have Zg:=D8.up (show Up h3 n3 h4 n4 by exact aI);have rp:=Zg.rp;have e4:=u4.le;have pn4:pb<n4:=by omega
     have U6:=jI ok (t:=(k:Nat)) (by omega) (by omega) w_;have l1:=U6.lh;have l2:=U6.lu;have l3:=U6.lm;simp (disch:=omega) only[go_sem,simprocAttr,rp,TS.pv,TS.av];rw[aU];refine Ic _ ((k4.up aI).use) (Zg.st.up aI) (by omega) (by omega) (by omega) λh5 n5 u5=>?_;by_cases hsm:C.aZ p.st (k:Nat)=p.st
     .rw[Ap hsm]
      simp (disch:=omega) only[go_sem,simprocAttr];refine⟨rfl,rfl,_,⟨sk (λe=>e.2 hsm) _ _ aI,rfl⟩,by(repeat' (first|exact aR|refine aN rfl ?_))⟩
     .rw[wJ hsm]
      have hmv:C.JE party p k:=⟨hde,hsm⟩;simp (disch:=omega) only[go_sem,simprocAttr,u5.old,TS.av];rw[vH];refine RW.mono (hstep _ (k:Int) ⟨C.aZ p.st k,true⟩ Nh _ _ _ _ (by rw[<-ks hmv];exact pre) j3 aI ((k4.up aI).le λx hx h=>?_)) ?_
      .omega
      rintro _ h6 n6 ⟨b,rfl,hb1,hb2⟩;cases b with
      |false=>
       simp (disch:=omega) only[go_sem,simprocAttr];exact hE _ _ (hb2 rfl)
      |true=>
       have j6:=hb1 rfl;rw[<-ks hmv]at j6;simp (disch:=omega) only[go_sem,simprocAttr];exact⟨rfl,rfl,_,⟨j6,rfl⟩,by(repeat' (first|exact aR|refine aN rfl ?_))⟩
   .have hdx:bH p.st.ah a= -1:=by unfold bH;rw[hd];rfl
    simp (disch:=omega) only[go_sem,simprocAttr,rp,rc,rt,TS.pv,CS.av];rw[<-hdx];rw[<-hdo];refine xG (λhd2=>?_) (λhd2=>?_)<;>rw[hd2]
    .simp (disch:=omega) only[go_sem,simprocAttr]
     have hn:¬C.JE party p k:=λe=>by
      have e:=e.1;by_cases hx:C.doer p.st (k:Nat)=party
      .rw[hx,e.1 hx]at hd2;simp at hd2
      .have:p.own=false:=by cases ho:p.own with|true=>exact absurd (e.2 ho) hx|false=>rfl
       rw[this]at hd2;simp[hx]at hd2
     refine⟨rfl,rfl,_,⟨sk hn _ _ aI,rfl⟩,by(repeat' (first|exact aR|refine aN rfl ?_))⟩
    .have hde:C.doer p.st (k:Nat)=party↔p.own=true:=by
      by_cases hx:C.doer p.st (k:Nat)=party
      .cases ho:p.own with
       |true=>simp[hx]
       |false=>rw[ho]at hd2;simp[hx]at hd2
      .cases ho:p.own with
       |false=>simp[hx]
       |true=>rw[ho]at hd2;simp[hx]at hd2
     simp (disch:=omega) only[go_sem,simprocAttr,rp,rc,rt,TS.pv,CS.av];rw[aU];refine uD _ (D8.con.up aI) ho (D8.st.up aI) (k:Nat) (λe=>?_) (λ_ _ _ e=>?_) (λ_ _ _ _ Nh h4 n4 u4 k4=>?_)
     .exact absurd e (by rw[(dP C p.st).2 ok];simp;omega)
     .omega
     have Zg:=D8.up (show Up h3 n3 h4 n4 by exact aI);have rp:=Zg.rp;have e4:=u4.le;have pn4:pb<n4:=by omega
     have U6:=jI ok (t:=(k:Nat)) (by omega) (by omega) w_;have l1:=U6.lh;have l2:=U6.lu;have l3:=U6.lm;simp (disch:=omega) only[go_sem,simprocAttr,rp,TS.pv,TS.av];rw[aU];refine Ic _ ((k4.up aI).use) (Zg.st.up aI) (by omega) (by omega) (by omega) λh5 n5 u5=>?_;by_cases hsm:C.aZ p.st (k:Nat)=p.st
     .rw[Ap hsm]
      simp (disch:=omega) only[go_sem,simprocAttr];refine⟨rfl,rfl,_,⟨sk (λe=>e.2 hsm) _ _ aI,rfl⟩,by(repeat' (first|exact aR|refine aN rfl ?_))⟩
     .rw[wJ hsm]
      have hmv:C.JE party p k:=⟨hde,hsm⟩;simp (disch:=omega) only[go_sem,simprocAttr,u5.old,TS.av];rw[vH];refine RW.mono (hstep _ (k:Int) ⟨C.aZ p.st k,true⟩ Nh _ _ _ _ (by rw[<-ks hmv];exact pre) j3 aI ((k4.up aI).le λx hx h=>?_)) ?_
      .omega
      rintro _ h6 n6 ⟨b,rfl,hb1,hb2⟩;cases b with
      |false=>
       simp (disch:=omega) only[go_sem,simprocAttr];exact hE _ _ (hb2 rfl)
      |true=>
       have j6:=hb1 rfl;rw[<-ks hmv]at j6;simp (disch:=omega) only[go_sem,simprocAttr];exact⟨rfl,rfl,_,⟨j6,rfl⟩,by(repeat' (first|exact aR|refine aN rfl ?_))⟩
  .rintro h3 n3 G ⟨j3,rfl⟩
   simp (disch:=omega) only[go_sem,simprocAttr];refine hQ _ _ ?_;rw[aA.pO,if_pos w_];exact j3
 cases hown:p.own with
 |true=>
  have JI:C.oq p=[(-2,⟨p.st,false⟩)]:=by unfold aA.oq;rw[if_pos hown,if_neg (by rw[hown];simp)];rfl
  simp (disch:=omega) only[go_sem,simprocAttr,UL,rp,rc,rt,TS.pv,CS.av,hown];rw[aU];refine Au _ hm0.st (by omega) (by omega) (by omega) λSz h1 n1 u1 k1=>?_;simp (disch:=omega) only[go_sem,simprocAttr,TS.av];rw[vH];refine RW.mono (hstep [] (-2) ⟨p.st,false⟩ Sz _ _ _ _ (by rw[aA.pO,JI];exact⟨_,rfl⟩) j0 u1 k1) ?_;rintro _ h2 n2 ⟨b,rfl,hb1,hb2⟩;cases b with
  |false=>
   simp (disch:=omega) only[go_sem,simprocAttr];exact hE _ _ (hb2 rfl)
  |true=>
   have j2:=hb1 rfl;have hm2:=U5 _ _ _ j2;have rp:=hm2.rp;have rc:=hm2.rc;have rt:=hm2.rt;repeat' (first|(simp (disch:=omega) only[go_sem,simprocAttr,rp,rc,TS.pv,CS.av,hown,hm2.con.acts.len])|(refine aT ?_ ?_<;>(intro hb hd;rw[hb];clear hb))|(with_reducible refine aj ?_))
   .refine hQ _ _ ?_
    rw[aA.pO,JI,if_neg (by omega)];exact j2
   exact tail _ _ _ (by rw[JI];exact j2) (by omega) rfl rfl rfl rfl rfl rfl rfl
 |false=>
  have no:¬p.own=true:=by rw[hown];simp
  simp (disch:=omega) only[go_sem,simprocAttr,UL,rp,rc,rt,TS.pv,CS.av,hown];refine xG (λhd2=>?_) (λhd2=>?_)<;>(rw[hd2];simp only[decide_eq_true_eq,decide_eq_false_iff_not]at hd2)
  .simp (disch:=omega) only[go_sem,simprocAttr]
   refine hQ _ _ ?_;rw[aA.pO,aA.oq,if_neg no,if_neg (by omega),if_neg (by omega)];exact j0
  .have w_:p.st.day<C.days:=by omega
   have JI:C.oq p=[(-1,⟨C.aZ p.st (-1),true⟩)]:=by unfold aA.oq;rw[if_neg no,if_pos ⟨hown,w_⟩];rfl
   simp (disch:=omega) only[go_sem,simprocAttr,rp,rc,rt,TS.pv,CS.av,hown];rw[aU];refine uD _ hm0.con ho hm0.st (-1) (λe=>?_) (λ_ _ _ e=>?_) (λ_ _ _ _ Nh h4 n4 u4 k4=>?_)
   .exact absurd e (by rw[(dP C p.st).2 ok];simp;omega)
   .omega
   have e4:=u4.le;simp (disch:=omega) only[go_sem,simprocAttr,TS.av];rw[vH];refine RW.mono (hstep [] (-1) ⟨C.aZ p.st (-1),true⟩ Nh _ _ _ _ (by rw[aA.pO,JI];exact⟨_,rfl⟩) j0 aI (k4.up aI)) ?_;rintro _ h6 n6 ⟨b,rfl,hb1,hb2⟩;cases b with
   |false=>
    simp (disch:=omega) only[go_sem,simprocAttr];exact hE _ _ (hb2 rfl)
   |true=>
    have j2:=hb1 rfl;have hm2:=U5 _ _ _ j2;have rp:=hm2.rp;have rc:=hm2.rc;have rt:=hm2.rt;repeat' (first|(simp (disch:=omega) only[go_sem,simprocAttr,rp,rc,TS.pv,CS.av,hown,hm2.con.acts.len])|(refine aT ?_ ?_<;>(intro hb hd;rw[hb];clear hb))|(with_reducible refine aj ?_))
    exact tail _ _ _ (by rw[JI];exact j2) w_ rfl rfl rfl rfl rfl rfl rfl
end
end
end
section
noncomputable section
def sw:List aP->Nat->List (List UInt8×AV)
 |[],_=>[]
 |q::r,i=>(oz q,.i .i64 (i:Nat))::sw r (i+1)
section
variable {C:aA} {party:Int} {p q r:aP} {P:List aP} {M:List (List (Int×Nat))} {l:List (Int×Nat)} {ms:List (Int×aP)}
theorem Ni{v:AV}(hq:aM C q.st)(hP:∀x∈P,aM C x.st):∀{i:Nat},nI (sw P i) (oz q)=some v->∃j:Nat,P[j]?=some q/\v= .i .i64 ((i+j:Nat):Int):=by
 induction P with
 |nil=>intro i h;cases h
 |cons a P ih=>
  intro i h;rw[sw,nI]at h;split at h
  .rename_i e
   cases Qw hq (hP a (by simp)) e
   cases h
   exact⟨0,rfl,by simp⟩
  .obtain⟨j,h1,h2⟩:=ih (λx hx=>hP x (List.mem_cons_of_mem _ hx)) h
   exact⟨j+1,h1,by rw[h2];congr 2;omega⟩
theorem Nj:∀{i:Nat},nI (sw P i) (oz q)=none->q∉P:=by
 induction P with
 |nil=>intro i _ h;cases h
 |cons a P ih=>
  intro i h;rw[sw,nI]at h;split at h
  .cases h
  .rename_i e
   intro hm;rcases List.mem_cons.1 hm with rfl|hm
   .exact e rfl
   .exact ih h hm
theorem Nk{κ:Type}{m:List (κ×AV)}{k:κ}{v:AV}(h:nI m k=none):DN m k v=m++[(k,v)]:=by
 induction m with
 |nil=>rfl
 |cons a m ih=>
  rw[nI]at h;split at h
  .cases h
  .rename_i e
   rw[DN,if_neg e,ih h];rfl
theorem Nl:∀{i:Nat},sw (P++[q]) i=sw P i++[(oz q,.i .i64 ((i+P.length:Nat):Int))]:=by
 induction P with
 |nil=>intro i;rfl
 |cons a P ih=>
  intro i;rw[List.cons_append,sw,sw,ih,List.cons_append,List.length_cons];rw[show i+1+P.length=i+(P.length+1) by omega]
def Row(P:List aP)(l:List (Int×Nat))(ms:List (Int×aP)):Prop:=l.length=ms.length/\∀(k:Nat)(m:Int)(j:Nat),l[k]?=some (m,j)->∃r,P[j]?=some r/\ms[k]?=some (m,r)
theorem Row.nil(P:List aP):Row P [] []:=⟨rfl,λk m j h=>by cases h⟩
theorem Row.mono(h:Row P l ms)(x:List aP):Row (P++x) l ms:=⟨h.1,λk m j e=>by
 obtain⟨r,h1,h2⟩:=h.2 k m j e;exact⟨r,by rw[List.getElem?_append_left (List.getElem?_eq_some_iff.1 h1).1];exact h1,h2⟩⟩
theorem Row.snoc(h:Row P l ms){m:Int}{j:Nat}(hj:P[j]?=some r):Row P (l++[(m,j)]) (ms++[(m,r)]):=by
 refine⟨by simp[h.1],λk m' j' e=>?_⟩;have hl:=h.1;by_cases hk:k<l.length
 .rw[List.getElem?_append_left hk]at e
  obtain⟨r',h1,h2⟩:=h.2 k m' j' e;exact⟨r',h1,by rw[List.getElem?_append_left (by omega)];exact h2⟩
 .have hk2:k<(l++[(m,j)]).length:=(List.getElem?_eq_some_iff.1 e).1
  obtain rfl:k=l.length:=by simp at hk2;omega
  rw[List.getElem?_append_right (Nat.le_refl _)]at e;simp at e;obtain⟨rfl,rfl⟩:=e;exact⟨r,hj,by rw[List.getElem?_append_right (by omega),hl];simp⟩
structure Eu(C:aA)(party:Int)(p:aP)(P:List aP)(M:List (List (Int×Nat))):Prop where
 hd:P[0]?=some p
 nd:P.Nodup
 rch:∀q∈P,zo C party p q
 small:P.length<=1500
 le:M.length<=P.length
 mv:∀(i:Nat)(q:aP)(l:List (Int×Nat)),P[i]?=some q->M[i]?=some l->Row P l (C.pO party q)
theorem Eu.one(C:aA)(party:Int)(p:aP):Eu C party p [p] []:=⟨rfl,by simp,λq hq=>by simp at hq;subst hq;exact .refl,by simp,by simp,λi q l _ h=>by cases h⟩
theorem Eu.pos(a:Eu C party p P M)(hq:q∉P)(hr:zo C party p q)(h:P.length≠1500):Eu C party p (P++[q]) M:=by
 have hs:=a.small;have hl:=a.le;have h0:0<P.length:=(List.getElem?_eq_some_iff.1 a.hd).1;refine⟨by rw[List.getElem?_append_left h0];exact a.hd,?_,λx hx=>?_,by simp;omega,by simp;omega,λi x l hx hl=>?_⟩
 .rw[List.nodup_append]
  exact⟨a.nd,by simp,λx hx y hy e=>by simp at hy;subst hy;subst e;exact hq hx⟩
 .rcases List.mem_append.1 hx with h|h
  .exact a.rch x h
  .simp at h;subst h;exact hr
 .have hi:=(List.getElem?_eq_some_iff.1 hl).1
  rw[List.getElem?_append_left (by omega)]at hx;exact(a.mv i x l hx hl).mono _
theorem Eu.row(a:Eu C party p P M)(h:P[M.length]?=some q)(hr:Row P l (C.pO party q)):Eu C party p P (M++[l]):=by
 have hi:=(List.getElem?_eq_some_iff.1 h).1;refine⟨a.hd,a.nd,a.rch,a.small,by simp;omega,λi x l' hx hl=>?_⟩;by_cases hk:i<M.length
 .rw[List.getElem?_append_left hk]at hl
  exact a.mv i x l' hx hl
 .have hk2:i<(M++[l]).length:=(List.getElem?_eq_some_iff.1 hl).1
  obtain rfl:i=M.length:=by simp at hk2;omega
  rw[List.getElem?_append_right (Nat.le_refl _)]at hl;simp at hl;subst hl;rw[h]at hx;cases hx
  exact hr
theorem Eu.done(a:Eu C party p P M)(h:P.length<=M.length):dx C party p P M:=
 ⟨a.hd,a.nd,by have:=a.le;omega,λi q l h1 h2=>a.mv i q l h1 h2,a.rch,a.small⟩
theorem Eu.big(a:Eu C party p P M)(hq:q∉P)(hr:zo C party p q)(h:P.length=1500):iw C party p:=by
 refine⟨P++[q],?_,by simp;omega,λx hx=>?_⟩
 .rw[List.nodup_append]
  exact⟨a.nd,by simp,λx hx y hy e=>by simp at hy;subst hy;subst e;exact hq hx⟩
 .rcases List.mem_append.1 hx with h|h
  .exact a.rch x h
  .simp at h;subst h;exact hr
end
@[reducible] def Wm (x:Int×Nat):List AV:=[.i .i64 x.1,.i .i64 (x.2:Nat)]
@[reducible] def Ev (x:TS×aP):List AV:=x.1.pv x.2
abbrev one(y:AV):List AV:=[y]
structure vW(h:AH)(n:Nat)(v w:AV)(ps:List (TS×aP))(wv:List AV)(M:List (List (Int×Nat))):Prop where
 pos:SL h n 5 v Ev ps
 st:∀x∈ps,bX h n x.1 x.2.st
 row:SL h n 1 w one wv
 len:wv.length=M.length
 mv:∀(i:Nat)(y:AV)(l:List (Int×Nat)),wv[i]?=some y->M[i]?=some l->SL h n 2 y Wm l
theorem vW.up{h h':AH}{n n':Nat}{v w:AV}{ps:List (TS×aP)}{wv:List AV}{M:List (List (Int×Nat))}(a:vW h n v w ps wv M)(u:Up h n h' n'):vW h' n' v w ps wv M:=
 ⟨a.pos.up u,λx hx=>(a.st x hx).up u,a.row.up u,a.len,λi y l h1 h2=>(a.mv i y l h1 h2).up u⟩
structure Own where
 ab:Nat
 kb:Nat
 lb:Nat
 v:AV
 w:AV
 lv:AV
 X:Nat->Prop
def Own.own(o:Own)(x:Nat):Prop:=x=o.ab\/x=o.kb\/x=o.lb\/blk o.v x\/blk o.w x\/blk o.lv x
structure AI(B:Nat)(h:AH)(n:Nat)(o:Own)(party:Int)(A:HP)(ps:List (TS×aP))(wv:List AV)(M:List (List (Int×Nat)))(l:List (Int×Nat)):Prop where
 ra:h.get o.ab=some (.row 150 [.i .i64 party,o.v,o.w])
 rl:h.get o.lb=some (.row 221 [o.lv])
 gv:Gr h n 45 5 o.v Ev ps
 gw:Gr h n 221 1 o.w one wv
 gl:Gr h n 223 2 o.lv Wm l
 mp:uh h o.kb AV.s (sw (ps.map (·.2)) 0)
 Xa:o.X o.ab
 Xk:o.X o.kb
 Xl:o.X o.lb
 Xv:∀x,blk o.v x->o.X x
 Xw:∀x,blk o.w x->o.X x
 Xy:∀x,blk o.lv x->o.X x
 lt:∀x,o.X x->x<n
 ak:o.ab≠o.kb
 al:o.ab≠o.lb
 kl:o.kb≠o.lb
 dv:∀x,blk o.v x->x≠o.ab/\x≠o.kb/\x≠o.lb/\¬blk o.w x/\¬blk o.lv x
 dw:∀x,blk o.w x->x≠o.ab/\x≠o.kb/\x≠o.lb/\¬blk o.lv x
 dl:∀x,blk o.lv x->x≠o.ab/\x≠o.kb/\x≠o.lb
 st:∀x∈ps,Kp (λx=>o.X x\/x<B) h n (λh n=>bX h n x.1 x.2.st)
 len:wv.length=M.length
 mv:∀(i:Nat)(y:AV)(l:List (Int×Nat)),wv[i]?=some y->M[i]?=some l->Kp (λx=>o.X x\/x<B) h n (λh n=>SL h n 2 y Wm l)
 A:Kp o.X h n A
 nB:∀x,o.X x->B<=x
 Bn:B<=n
structure AP(B:Nat)(h:AH)(n:Nat)(ab kb:Nat)(v w:AV)(X:Nat->Prop)(party:Int)(A:HP)(ps:List (TS×aP))(wv:List AV)(M:List (List (Int×Nat))):Prop where
 ra:h.get ab=some (.row 150 [.i .i64 party,v,w])
 gv:Gr h n 45 5 v Ev ps
 gw:Gr h n 221 1 w one wv
 mp:uh h kb AV.s (sw (ps.map (·.2)) 0)
 Xa:X ab
 Xk:X kb
 Xv:∀x,blk v x->X x
 Xw:∀x,blk w x->X x
 lt:∀x,X x->x<n
 ak:ab≠kb
 dv:∀x,blk v x->x≠ab/\x≠kb/\¬blk w x
 dw:∀x,blk w x->x≠ab/\x≠kb
 st:∀x∈ps,Kp (λx=>X x\/x<B) h n (λh n=>bX h n x.1 x.2.st)
 len:wv.length=M.length
 mv:∀(i:Nat)(y:AV)(l:List (Int×Nat)),wv[i]?=some y->M[i]?=some l->Kp (λx=>X x\/x<B) h n (λh n=>SL h n 2 y Wm l)
 A:Kp X h n A
 nB:∀x,X x->B<=x
 Bn:B<=n
section
variable {B:Nat} {h h' h2 h3:AH} {n n' n2 n3:Nat} {o:Own} {party:Int} {A:HP} {ps:List (TS×aP)} {wv:List AV} {M:List (List (Int×Nat))} {l:List (Int×Nat)}
theorem AI.up(a:AI B h n o party A ps wv M l)(u:Up h n h' n'):AI B h' n' o party A ps wv M l:=
 ⟨(u.old _ (a.lt _ a.Xa)).trans a.ra,(u.old _ (a.lt _ a.Xl)).trans a.rl,a.gv.up u,a.gw.up u,a.gl.up u,a.mp.on (u.old _ (a.lt _ a.Xk)),a.Xa,a.Xk,a.Xl,a.Xv,a.Xw,a.Xy,λx hx=>Nat.lt_of_lt_of_le (a.lt x hx) u.le,a.ak,a.al,a.kl,a.dv,a.dw,a.dl,
  λx hx=>(a.st x hx).up u,a.len,λi y l h1 h2=>(a.mv i y l h1 h2).up u,a.A.up u,a.nB,Nat.le_trans a.Bn u.le⟩
theorem AI.Zh(a:AI B h n o party A ps wv M l){x:Nat}(hx:o.own x):o.X x:=by
 rcases hx with rfl|rfl|rfl|e|e|e
 .exact a.Xa
 .exact a.Xk
 .exact a.Xl
 .exact a.Xv x e
 .exact a.Xw x e
 .exact a.Xy x e
theorem AI.uX{A':HP}(a:AI B h n o party A ps wv M l)(k:Kp o.X h n A'):AI B h n o party A' ps wv M l:=
 ⟨a.ra,a.rl,a.gv,a.gw,a.gl,a.mp,a.Xa,a.Xk,a.Xl,a.Xv,a.Xw,a.Xy,a.lt,a.ak,a.al,a.kl,a.dv,a.dw,a.dl,a.st,a.len,a.mv,k,a.nB,a.Bn⟩
theorem AI.JJ(a:AI B h n o party A ps wv M l){L:Nat}(hX:o.X L)(hL:¬o.own L)(r:AO):AI B (h.set L r) n o party A ps wv M l:=by
 have ne:∀x,o.own x->(h.set L r).get x=h.get x:=λx hx=>ay λe=>hL (by rw[<-e];exact hx);have kp:∀{Y:Nat->Prop}{E:HP},Y L->Kp Y h n E->Kp Y (h.set L r) n E:=λy k=>k.set (.inl y) (Nat.le_refl _);exact⟨(ne _ (.inl rfl)).trans a.ra,(ne _ (.inr (.inr (.inl rfl)))).trans a.rl,a.gv.on (Nat.le_refl _) λx _ hx=>ne x (.inr (.inr (.inr (.inl hx)))),a.gw.on (Nat.le_refl _) λx _ hx=>ne x (.inr (.inr (.inr (.inr (.inl hx))))),a.gl.on (Nat.le_refl _) λx _ hx=>ne x (.inr (.inr (.inr (.inr (.inr hx))))),a.mp.on (ne _ (.inr (.inl rfl))),a.Xa,a.Xk,a.Xl,a.Xv,a.Xw,a.Xy,a.lt,a.ak,a.al,a.kl,a.dv,a.dw,a.dl,
  λx hx=>kp (.inl hX) (a.st x hx),a.len,λi y l h1 h2=>kp (.inl hX) (a.mv i y l h1 h2),kp hX a.A,a.nB,a.Bn⟩
theorem AI.afc(a:AI B h n o party A ps wv M l)(r:AO):AI B (h.set n r) (n+1) {o with X:=λx=>o.X x\/x=n} party A ps wv M l:=by
 have u:Up h n (h.set n r) (n+1):=by exact aI
 have b:=a.up u;have kp:∀{Y:Nat->Prop}{E:HP},Kp Y h n E->Kp (λx=>Y x\/x=n) (h.set n r) (n+1) E:=λ{Y E} k=>
  (k.le λx hx (e:Y x\/x=n)=>e.elim id (by omega)).up u
 have Zi:∀{E:HP},Kp (λx=>o.X x\/x<B) h n E->Kp (λx=>(o.X x\/x=n)\/x<B) (h.set n r) (n+1) E:=λk=>(kp k).le λx _ e=>by
  rcases e with(e|e)|e
  .exact .inl (.inl e)
  .exact .inr e
  .exact .inl (.inr e)
 refine⟨b.ra,b.rl,b.gv,b.gw,b.gl,b.mp,.inl a.Xa,.inl a.Xk,.inl a.Xl,λx hx=>.inl (a.Xv x hx),λx hx=>.inl (a.Xw x hx),λx hx=>.inl (a.Xy x hx),λx hx=>?_,a.ak,a.al,a.kl,a.dv,a.dw,a.dl,λx hx=>Zi (a.st x hx),a.len,λi y l h1 h2=>Zi (a.mv i y l h1 h2),kp a.A,λx hx=>?_,by have:=a.Bn;omega⟩
 .rcases hx with hx|hx
  .have:=a.lt x hx;omega
  .omega
 .have:=a.Bn
  rcases hx with hx|hx
  .exact a.nB x hx
  .omega
theorem AI.pos(a:AI B h n o party A ps wv M l){ob:AO}{tq:TS}{q:aP}{v':AV}(hm:uh (h.set o.kb ob) o.kb AV.s (sw ((ps++[(tq,q)]).map (·.2)) 0))(u:Up (h.set o.kb ob) n h2 n2)(k:Kp (λx=>o.X x\/x<B) h n (λh n=>bX h n tq q.st))
 (g:Gr h3 n3 45 5 v' Ev (ps++[(tq,q)]))(le:n2<=n3)(s:∀x,x<n2->¬blk o.v x->h3.get x=h2.get x)(b:∀x,blk v' x->blk o.v x\/n2<=x):
 h3.get o.ab=some (.row 150 [.i .i64 party,o.v,o.w])/\AI B (h3.set o.ab (.row 150 [.i .i64 party,v',o.w])) n3 {o with v:=v',X:=λx=>o.X x\/blk v' x} party A (ps++[(tq,q)]) wv M l:=by
 have hn:=u.le;have old:∀x,x<n->x≠o.kb->¬blk o.v x->h3.get x=h.get x:=λx hx h1 h2=>by rw[s x (by omega) h2,u.old x hx,ay h1]
 have new:∀x,blk v' x->x<n->blk o.v x:=λx hx hl=>(b x hx).elim id (by omega);have lt:=a.lt;have hA:=a.lt _ a.Xa;have hK:=a.lt _ a.Xk;have hL:=a.lt _ a.Xl;have SA:∀{Y:Nat->Prop}{E:HP},(∀x,o.X x->Y x)->Kp Y h n E->Kp (λx=>Y x\/blk v' x) (h3.set o.ab (.row 150 [.i .i64 party,v',o.w])) n3 E:=λ{Y E} XY kb=>
  (kb.le λx hx (e:Y x\/blk v' x)=>e.elim id λe=>XY x (a.Xv x (new x e hx))).on (by omega) λx hx e=>by
   have e1:¬o.X x:=λk=>e (.inl (XY x k));rw[ay (λk=>e1 (by rw[k];exact a.Xa)),old x hx (λk=>e1 (by rw[k];exact a.Xk)) λk=>e1 (a.Xv x k)]
 have kp:∀{E:HP},Kp (λx=>o.X x\/x<B) h n E->Kp (λx=>(o.X x\/blk v' x)\/x<B) (h3.set o.ab (.row 150 [.i .i64 party,v',o.w])) n3 E:=λk=>(SA (λ_ h=>.inl h) k).le λx _ e=>by
  rcases e with(e|e)|e
  .exact .inl (.inl e)
  .exact .inr e
  .exact .inl (.inr e)
 have nB':∀x,o.X x\/blk v' x->B<=x:=λx hx=>by
  have:=a.Bn;rcases hx with e|e
  .exact a.nB x e
  .rcases b x e with e|e
   .exact a.nB x (a.Xv x e)
   .omega
 have Bn':B<=n3:=by have:=a.Bn;omega
 have blw:∀x,blk o.w x->x<n:=λx hx=>a.lt x (a.Xw x hx);have bll:∀x,blk o.lv x->x<n:=λx hx=>a.lt x (a.Xy x hx);have ne:∀x,blk v' x->x≠o.ab/\x≠o.kb/\x≠o.lb/\¬blk o.w x/\¬blk o.lv x:=λx hx=>by
  rcases b x hx with e|e
  .exact a.dv x e
  .exact⟨by omega,by omega,by omega,λk=>by have:=blw x k;omega,λk=>by have:=bll x k;omega⟩
 have dva:∀x,x=o.ab\/x=o.kb\/x=o.lb->¬blk o.v x:=λx hx k=>by
  obtain⟨h1,h2,h3,_⟩:=a.dv x k;rcases hx with e|e|e<;>contradiction
 refine⟨(old _ hA a.ak (dva _ (.inl rfl))).trans a.ra,⟨aG,?_,?_,?_,?_,?_,.inl a.Xa,.inl a.Xk,.inl a.Xl,λx hx=>.inr hx,λx hx=>.inl (a.Xw x hx),λx hx=>.inl (a.Xy x hx),λx hx=>?_,a.ak,a.al,a.kl,ne,a.dw,a.dl,λx hx=>?_,a.len,λi y l h1 h2=>kp (a.mv i y l h1 h2),SA (λ_ h=>h) a.A,nB',Bn'⟩⟩
 .show Tr.get _ o.lb=_
  rw[ay (Ne.symm a.al),old _ hL (Ne.symm a.kl) (dva _ (.inr (.inr rfl)))];exact a.rl
 .exact g.on (Nat.le_refl _) λx _ hx=>ay (ne x hx).1
 .exact a.gw.on (by omega) λx hx hb=>by
   rw[ay (a.dw x hb).1,old x hx (a.dw x hb).2.1 λk=>(a.dv x k).2.2.2.1 hb]
 .exact a.gl.on (by omega) λx hx hb=>by
   rw[ay (a.dl x hb).1,old x hx (a.dl x hb).2.1 λk=>(a.dv x k).2.2.2.2 hb]
 .exact hm.on (by rw[ay (Ne.symm a.ak),s _ (by omega) (dva _ (.inr (.inl rfl))),u.old _ hK])
 .rcases hx with hx|hx
  .have:=a.lt x hx;omega
  .have:=g.fE hx;exact this
 .rcases List.mem_append.1 hx with hx|hx
  .exact kp (a.st x hx)
  .simp at hx;subst hx;exact kp k
theorem AI.move(a:AI B h n o party A ps wv M l){m:Int}{j:Nat}{v':AV}(u:Up h n h2 n2)(g:Gr h3 n3 223 2 v' Wm (l++[(m,j)]))(le:n2<=n3)(s:∀x,x<n2->¬blk o.lv x->h3.get x=h2.get x)(b:∀x,blk v' x->blk o.lv x\/n2<=x):
 h3.get o.lb=some (.row 221 [o.lv])/\AI B (h3.set o.lb (.row 221 [v'])) n3 {o with lv:=v',X:=λx=>o.X x\/blk v' x} party A ps wv M (l++[(m,j)]):=by
 have hn:=u.le;have old:∀x,x<n->¬blk o.lv x->h3.get x=h.get x:=λx hx h2=>by rw[s x (by omega) h2,u.old x hx]
 have new:∀x,blk v' x->x<n->blk o.lv x:=λx hx hl=>(b x hx).elim id (by omega);have hA:=a.lt _ a.Xa;have hK:=a.lt _ a.Xk;have hL:=a.lt _ a.Xl;have SA:∀{Y:Nat->Prop}{E:HP},(∀x,o.X x->Y x)->Kp Y h n E->Kp (λx=>Y x\/blk v' x) (h3.set o.lb (.row 221 [v'])) n3 E:=λ{Y E} XY kb=>
  (kb.le λx hx (e:Y x\/blk v' x)=>e.elim id λe=>XY x (a.Xy x (new x e hx))).on (by omega) λx hx e=>by
   have e1:¬o.X x:=λk=>e (.inl (XY x k));rw[ay (λk=>e1 (by rw[k];exact a.Xl)),old x hx λk=>e1 (a.Xy x k)]
 have kp:∀{E:HP},Kp (λx=>o.X x\/x<B) h n E->Kp (λx=>(o.X x\/blk v' x)\/x<B) (h3.set o.lb (.row 221 [v'])) n3 E:=λk=>(SA (λ_ h=>.inl h) k).le λx _ e=>by
  rcases e with(e|e)|e
  .exact .inl (.inl e)
  .exact .inr e
  .exact .inl (.inr e)
 have nB':∀x,o.X x\/blk v' x->B<=x:=λx hx=>by
  have:=a.Bn;rcases hx with e|e
  .exact a.nB x e
  .rcases b x e with e|e
   .exact a.nB x (a.Xy x e)
   .omega
 have Bn':B<=n3:=by have:=a.Bn;omega
 have blw:∀x,blk o.w x->x<n:=λx hx=>a.lt x (a.Xw x hx);have blv:∀x,blk o.v x->x<n:=λx hx=>a.lt x (a.Xv x hx);have ne:∀x,blk v' x->x≠o.ab/\x≠o.kb/\x≠o.lb:=λx hx=>by
  rcases b x hx with e|e
  .exact a.dl x e
  .exact⟨by omega,by omega,by omega⟩
 have nw:∀x,blk o.w x->¬blk v' x:=λx hx k=>by
  rcases b x k with e|e
  .exact(a.dw x hx).2.2.2 e
  .have:=blw x hx;omega
 have nv:∀x,blk o.v x->¬blk v' x:=λx hx k=>by
  rcases b x k with e|e
  .exact(a.dv x hx).2.2.2.2 e
  .have:=blv x hx;omega
 have dla:∀x,x=o.ab\/x=o.kb\/x=o.lb->¬blk o.lv x:=λx hx k=>by
  obtain⟨h1,h2,h3⟩:=a.dl x k;rcases hx with e|e|e<;>contradiction
 refine⟨(old _ hL (dla _ (.inr (.inr rfl)))).trans a.rl,⟨?_,aG,?_,?_,?_,?_,.inl a.Xa,.inl a.Xk,.inl a.Xl,λx hx=>.inl (a.Xv x hx),λx hx=>.inl (a.Xw x hx),λx hx=>.inr hx,λx hx=>?_,a.ak,a.al,a.kl,λx hx=>?_,λx hx=>?_,ne,λx hx=>kp (a.st x hx),a.len,λi y l h1 h2=>kp (a.mv i y l h1 h2),SA (λ_ h=>h) a.A,nB',Bn'⟩⟩
 .show Tr.get _ o.ab=_
  rw[ay a.al,old _ hA (dla _ (.inl rfl))];exact a.ra
 .exact a.gv.on (by omega) λx hx hb=>by
   rw[ay (a.dv x hb).2.2.1,old x hx (a.dv x hb).2.2.2.2]
 .exact a.gw.on (by omega) λx hx hb=>by
   rw[ay (a.dw x hb).2.2.1,old x hx (a.dw x hb).2.2.2]
 .exact g.on (Nat.le_refl _) λx _ hx=>ay (ne x hx).2.2
 .exact a.mp.on (by rw[ay a.kl,old _ hK (dla _ (.inr (.inl rfl)))])
 .rcases hx with hx|hx
  .have:=a.lt x hx;omega
  .exact g.fE hx
 .obtain⟨h1,h2,h3,h4,h5⟩:=a.dv x hx
  exact⟨h1,h2,h3,h4,nv x hx⟩
 .obtain⟨h1,h2,h3,h4⟩:=a.dw x hx
  exact⟨h1,h2,h3,nw x hx⟩
theorem AI.row(a:AI B h n o party A ps wv M l){v':AV}(u:Up h n h2 n2)(g:Gr h3 n3 221 1 v' one (wv++[o.lv]))(le:n2<=n3)(s:∀x,x<n2->¬blk o.w x->h3.get x=h2.get x)(b:∀x,blk v' x->blk o.w x\/n2<=x):
 h3.get o.ab=some (.row 150 [.i .i64 party,o.v,o.w])/\AP B (h3.set o.ab (.row 150 [.i .i64 party,o.v,v'])) n3 o.ab o.kb o.v v' (λx=>(o.X x/\¬blk o.lv x)\/blk v' x) party A ps (wv++[o.lv]) (M++[l]):=by
 have hn:=u.le;have old:∀x,x<n->¬blk o.w x->h3.get x=h.get x:=λx hx h2=>by rw[s x (by omega) h2,u.old x hx]
 have new:∀x,blk v' x->x<n->blk o.w x:=λx hx hl=>(b x hx).elim id (by omega);have hA:=a.lt _ a.Xa;have hK:=a.lt _ a.Xk;have blv:∀x,blk o.v x->x<n:=λx hx=>a.lt x (a.Xv x hx);have bll:∀x,blk o.lv x->x<n:=λx hx=>a.lt x (a.Xy x hx);have ne:∀x,blk v' x->x≠o.ab/\x≠o.kb/\¬blk o.v x/\¬blk o.lv x:=λx hx=>by
  rcases b x hx with e|e
  .obtain⟨h1,h2,h3,h4⟩:=a.dw x e
   exact⟨h1,h2,λk=>(a.dv x k).2.2.2.1 e,h4⟩
  .exact⟨by omega,by omega,λk=>by have:=blv x k;omega,λk=>by have:=bll x k;omega⟩
 have SA:∀{Y:Nat->Prop}{E:HP},(∀x,o.X x->Y x)->Kp Y h n E->Kp (λx=>(Y x/\¬blk o.lv x)\/blk v' x) (h3.set o.ab (.row 150 [.i .i64 party,o.v,v'])) n3 E:=λ{Y E} XY kb=>
  (kb.le λx hx (e:(Y x/\¬blk o.lv x)\/blk v' x)=>e.elim (·.1) λe=>XY x (a.Xw x (new x e hx))).on (by omega) λx hx e=>by
   have e2:x≠o.ab:=λk=>e (.inl ⟨XY x (by rw[k];exact a.Xa),λk2=>(a.dl x k2).1 k⟩);rw[ay e2,old x hx λk=>e (.inl ⟨XY x (a.Xw x k),(a.dw x k).2.2.2⟩)]
 have perm:∀{E:HP}{h n},Kp (λx=>((o.X x\/x<B)/\¬blk o.lv x)\/blk v' x) h n E->Kp (λx=>((o.X x/\¬blk o.lv x)\/blk v' x)\/x<B) h n E:=λk=>k.le λx _ e=>by
  rcases e with(⟨e,e2⟩|e)|e
  .exact .inl ⟨.inl e,e2⟩
  .exact .inr e
  .exact .inl ⟨.inr e,λk=>by have:=a.nB x (a.Xy x k);omega⟩
 have kp:∀{E:HP},Kp (λx=>o.X x\/x<B) h n E->Kp (λx=>((o.X x/\¬blk o.lv x)\/blk v' x)\/x<B) (h3.set o.ab (.row 150 [.i .i64 party,o.v,v'])) n3 E:=λk=>perm (SA (λ_ h=>.inl h) k);have dwa:∀x,x=o.ab\/x=o.kb->¬blk o.w x:=λx hx k=>by
  obtain⟨h1,h2,_⟩:=a.dw x k;rcases hx with e|e<;>contradiction
 refine⟨(old _ hA (dwa _ (.inl rfl))).trans a.ra,⟨aG,?_,?_,?_,.inl ⟨a.Xa,λk=>(a.dl _ k).1 rfl⟩,.inl ⟨a.Xk,λk=>(a.dl _ k).2.1 rfl⟩,λx hx=>.inl ⟨a.Xv x hx,(a.dv x hx).2.2.2.2⟩,λx hx=>.inr hx,λx hx=>?_,a.ak,λx hx=>?_,λx hx=>⟨(ne x hx).1,(ne x hx).2.1⟩,λx hx=>kp (a.st x hx),by simp[a.len],λi y l1 h1 h2=>?_,SA (λ_ h=>h) a.A,λx hx=>?_,by have:=a.Bn;omega⟩⟩
 .exact a.gv.on (by omega) λx hx hb=>by
   rw[ay (a.dv x hb).1,old x hx (a.dv x hb).2.2.2.1]
 .exact g.on (Nat.le_refl _) λx _ hx=>ay (ne x hx).1
 .exact a.mp.on (by rw[ay (Ne.symm a.ak),old _ hK (dwa _ (.inr rfl))])
 .rcases hx with hx|hx
  .have:=a.lt x hx.1;omega
  .exact g.fE hx
 .obtain⟨h1,h2,_,_,h5⟩:=a.dv x hx
  exact⟨h1,h2,λk=>(ne x k).2.2.1 hx⟩
 .have hlen:=a.len
  by_cases hi:i<wv.length
  .rw[List.getElem?_append_left hi]at h1
   rw[List.getElem?_append_left (by omega)]at h2;exact kp (a.mv i y l1 h1 h2)
  .have hi2:i<(wv++[o.lv]).length:=(List.getElem?_eq_some_iff.1 h1).1
   obtain rfl:i=wv.length:=by simp at hi2;omega
   rw[List.getElem?_append_right (Nat.le_refl _)]at h1;rw[List.getElem?_append_right (by omega),hlen]at h2;simp at h1 h2;subst h1;subst h2;have gl':Gr (h3.set o.ab (.row 150 [.i .i64 party,o.v,v'])) n3 223 2 o.lv Wm l:=a.gl.on (by omega) λx hx hb=>by
    rw[ay (a.dl x hb).1,old x hx λk=>(a.dw x k).2.2.2 hb]
   refine gl'.sl.kp λx hx e=>?_;rcases e with(⟨_,e⟩|e)|e
   .exact e hx
   .exact(ne x e).2.2.2 hx
   .have:=a.nB x (a.Xy x hx);omega
 .have:=a.Bn
  rcases hx with hx|hx
  .exact a.nB x hx.1
  .rcases b x hx with e|e
   .exact a.nB x (a.Xw x e)
   .omega
end
section
variable {B:Nat} {h h':AH} {n n' ab kb:Nat} {v w:AV} {X:Nat->Prop} {party:Int} {A:HP} {ps:List (TS×aP)} {wv:List AV} {M:List (List (Int×Nat))}
theorem AP.up(a:AP B h n ab kb v w X party A ps wv M)(u:Up h n h' n'):AP B h' n' ab kb v w X party A ps wv M:=
 ⟨(u.old _ (a.lt _ a.Xa)).trans a.ra,a.gv.up u,a.gw.up u,a.mp.on (u.old _ (a.lt _ a.Xk)),a.Xa,a.Xk,a.Xv,a.Xw,λx hx=>Nat.lt_of_lt_of_le (a.lt x hx) u.le,a.ak,a.dv,a.dw,
  λx hx=>(a.st x hx).up u,a.len,λi y l h1 h2=>(a.mv i y l h1 h2).up u,a.A.up u,a.nB,Nat.le_trans a.Bn u.le⟩
theorem AP.uX{A':HP}(a:AP B h n ab kb v w X party A ps wv M)(k:∀h n,A h n->A' h n):AP B h n ab kb v w X party A' ps wv M:=
 ⟨a.ra,a.gv,a.gw,a.mp,a.Xa,a.Xk,a.Xv,a.Xw,a.lt,a.ak,a.dv,a.dw,a.st,a.len,a.mv,a.A.wk k,a.nB,a.Bn⟩
theorem AP.start(a:AP B h n ab kb v w X party A ps wv M):AI B (h.set n (.row 221 [.k 1])) (n+1) ⟨ab,kb,n,v,w,.k 1,λx=>X x\/x=n⟩ party A ps wv M []:=by
 have u:Up h n (h.set n (.row 221 [.k 1])) (n+1):=by exact aI
 have hlt:=a.lt;have hA:=a.lt _ a.Xa;have hK:=a.lt _ a.Xk;have kp:∀{Y:Nat->Prop}{E:HP},Kp Y h n E->Kp (λx=>Y x\/x=n) (h.set n (.row 221 [.k 1])) (n+1) E:=λ{Y E} k=>
  (k.le λx hx (e:Y x\/x=n)=>e.elim id (by omega)).up u
 have Zi:∀{E:HP},Kp (λx=>X x\/x<B) h n E->Kp (λx=>(X x\/x=n)\/x<B) (h.set n (.row 221 [.k 1])) (n+1) E:=λk=>(kp k).le λx _ e=>by
  rcases e with(e|e)|e
  .exact .inl (.inl e)
  .exact .inr e
  .exact .inl (.inr e)
 have b:=a.up u;refine⟨b.ra,aG,b.gv,b.gw,Gr.nil λ_=>rfl,b.mp,.inl a.Xa,.inl a.Xk,.inr rfl,λx hx=>.inl (a.Xv x hx),λx hx=>.inl (a.Xw x hx),λx hx=>absurd hx fA,λx hx=>?_,a.ak,by show ab≠n;omega,by show kb≠n;omega,λx hx=>?_,λx hx=>?_,λx hx=>absurd hx fA,λx hx=>Zi (a.st x hx),a.len,λi y l h1 h2=>Zi (a.mv i y l h1 h2),kp a.A,λx hx=>?_,by have:=a.Bn;omega⟩
 .rcases hx with hx|hx
  .have:=a.lt x hx;omega
  .omega
 .obtain⟨h1,h2,h3⟩:=a.dv x hx
  have:=a.lt x (a.Xv x hx);exact⟨h1,h2,by show x≠n;omega,h3,fA⟩
 .obtain⟨h1,h2⟩:=a.dw x hx
  have:=a.lt x (a.Xw x hx);exact⟨h1,h2,by show x≠n;omega,fA⟩
 .have:=a.Bn
  rcases hx with hx|hx
  .exact a.nB x hx
  .omega
theorem AP.fin(a:AP B h n ab kb v w X party A ps wv M):Kp (λx=>x<B) h n (λh n=>vW h n v w ps wv M):=λh' n' h1 h2=>by
 have wk:∀{E:HP},Kp (λx=>X x\/x<B) h n E->E h' n':=λk=>(k.le λx _ e=>.inr e) h' n' h1 h2;have kv:Kp (λx=>x<B) h n (λh n=>SL h n 5 v Ev ps):=a.gv.sl.kp λx hx=>by have:=a.nB x (a.Xv x hx);omega
 have kw:Kp (λx=>x<B) h n (λh n=>SL h n 1 w one wv):=a.gw.sl.kp λx hx=>by have:=a.nB x (a.Xw x hx);omega
 exact⟨kv h' n' h1 h2,λx hx=>wk (a.st x hx),kw h' n' h1 h2,a.len,λi y l e1 e2=>wk (a.mv i y l e1 e2)⟩
end
end
end
section
noncomputable section
theorem Nn:Mx Tryz.prog 9 (AV.s):=by
 refine⟨λa b=>⟨qJ a b,by kernel_rfl,by rw[iV];simp⟩,λa=>by kernel_rfl,λa=>rfl⟩
section
variable {B:Nat} {h h':AH} {n n':Nat} {o:Own} {v:CS} {C:aA} {p:aP} {party:Int} {A:HP} {ps:List (TS×aP)} {wv:List AV} {M:List (List (Int×Nat))} {l:List (Int×Nat)} {Q:PQ}
theorem Np(K:Nat){mb rb eb:Nat}{tq:TS}{q:aP}{m:Int}{F:Fm}{g:FuncId}(a:AI B h n o party A ps wv M l)(hA:∀h n,A h n->h.get mb=some (.row 230 [.m o.kb])/\mb<n/\h.get rb=some (.row 150 [.i .i64 0,.k 1,.k 1])/\rb<n/\h.get eb=some (.row 31 [.i .i64 0])/\eb<n)
 (kq:Kp (λx=>o.X x\/x<B) h n (λh n=>bX h n tq q.st))(hq:aM C q.st)(hps:∀x∈ps,aM C x.2.st)(nps:ps.length<=1500)(nl:l.length<=100000)
 (f6:lk F 6=some (.p rb 0))(f7:lk F 7=some (.p eb 0))(f8:lk F 8=some (.p o.ab 0))(f9:lk F 9=some (.p mb 0))(f11:lk F 11=some (.p o.lb 0))(f12:lk F 12=some (.i .i64 m))(f13:∃b,lk F 13=some (.p b 0)/\h.get b=some (.row 45 (tq.pv q))/\b<n/\¬o.X b)
 (hR:∀o' ps' j h' n' F',AI B h' n' o' party A ps' wv M (l++[(m,j)])->o'.ab=o.ab->o'.kb=o.kb->o'.lb=o.lb->(ps'=ps\/(q∉ps.map (·.2)/\ps.length≠1500/\ps'=ps++[(tq,q)]))->(ps'.map (·.2))[j]?=some q->n<=n'->(∀x,x<n->¬o.own x->h'.get x=h.get x)->(∀x,o.X x->o'.X x)->(∀x,o'.own x->o.own x\/n<=x)->Q .bT h' n' F')
 (hE:q∉ps.map (·.2)->ps.length=1500->∀h' n' F',n<=n'->h'.get rb=some (.row 150 [.i .i64 0,.k 1,.k 1])->h'.get eb=some (.row 31 [.i .i64 3])->(∀x,x<n->x≠rb->x≠eb->h'.get x=h.get x)->Q .ret h' n' F')(heb:¬o.X eb)(hrb:¬o.X rb)(afk:rb≠eb):sK Tryz.prog (yl Tryz.prog sl0 19) g 100000 [.c FZ] .bT (EF (K+6)) h n F Q:=by
 obtain⟨b13,f13,OH,n13,x13⟩:=f13;simp (disch:=omega) only[go_sem,simprocAttr,FZ,f13,OH];rw[aU];refine Ij K kq.use (hq.pb q.own) λh2 n2 u2=>?_;have a2:=a.up u2;have kq2:=kq.up u2;have e2:=u2.le;have OH:=(u2.old b13 n13).trans OH;obtain⟨c1,c2,c3,c4,c5,c6⟩:=hA _ _ a2.A.use;have ra:=a2.ra;have rl:=a2.rl;have JK:=a2.mp.look (k:=oz q) Nn (z:=some (.i .i64 0)) (ok:=true) rfl;have U7:∀x∈ps.map (·.2),aM C x.st:=λx hx=>by
  obtain⟨y,hy,rfl⟩:=List.mem_map.1 hx;exact hps y hy
 cases hk:nI (sw (ps.map (·.2)) 0) (oz q)with
 |some w=>
  obtain⟨j,hj,rfl⟩:=Ni hq U7 hk;rw[hk]at JK;simp only[bD,Nat.zero_add]at JK;simp (disch:=omega) only[go_sem,simprocAttr,jR,f9,f11,f12,c1,JK,rl];refine jZ (l2:=[(m,j)]) (a2.gl.up aI) ⟨rfl,?_⟩ (by simp;omega) λv' h4 n4 g4 l4 s4 b4=>?_
  .show bnd (iD (Tr.get _ _) 0 _) (λr=>mO (Nat.mul 1 2) r)=_
   rw[aG];rfl
  obtain⟨q1,q2⟩:=a2.move (show Up _ _ _ _ by exact aI) g4 l4 s4 b4;simp (disch:=omega) only[go_sem,simprocAttr,jR,f11,q1,g4.cl];refine hR _ ps j _ _ _ q2 rfl rfl rfl (.inl rfl) hj (by omega) (λx hx hX=>?_) (λx hx=>.inl hx) λx hx=>?_
  .rw[ay (λe=>hX (.inr (.inr (.inl e)))),s4 x (by omega) (λe=>hX (.inr (.inr (.inr (.inr (.inr e)))))),ay (by omega),u2.old x hx]
  .rcases hx with e|e|e|e|e|e
   .exact .inl (.inl e)
   .exact .inl (.inr (.inl e))
   .exact .inl (.inr (.inr (.inl e)))
   .exact .inl (.inr (.inr (.inr (.inl e))))
   .exact .inl (.inr (.inr (.inr (.inr (.inl e)))))
   .rcases b4 x e with e|e
    .exact .inl (.inr (.inr (.inr (.inr (.inr e)))))
    .exact .inr (by omega)
 |none=>
  have hnew:=Nj hk;rw[hk]at JK;simp only[bD,Nat.zero_add]at JK;simp (disch:=omega) only[go_sem,simprocAttr,jR,f9,c1,JK,f8,ra,a2.gv.len];by_cases Sy:ps.length=1500
  .rw[decide_eq_true (by omega)]
   simp (disch:=omega) only[go_sem,simprocAttr,jR,f6,f7,c3,c5];refine hE hnew Sy _ _ _ e2 ?_ ?_ λx hx h1 h2=>?_
   .rw[ay afk,aG]
   .rw[aG]
   .rw[ay h2,ay h1,u2.old x hx]
  .rw[decide_eq_false (by omega)]
   obtain⟨ob,m1,m2⟩:=a2.mp.put (k:=oz q) (n:=n2) Nn (.i .i64 (ps.length:Nat));rw[Nk hk]at m2;have hmap:sw (ps.map (·.2)) 0++[(oz q,AV.i .i64 (ps.length:Nat))]=sw ((ps++[(tq,q)]).map (·.2)) 0:=by rw[List.map_append,List.map_cons,List.map_nil,Nl];simp
   rw[hmap]at m2;have hXa:=a2.ak;have alm:b13≠o.kb:=λe=>x13 (by rw[e];exact a.Xk);simp (disch:=omega) only[go_sem,simprocAttr,jR,f9,c1,m1,f8,f13,ra,OH];have gk:=a2.gv.on (h':=h2.set o.kb ob) (Nat.le_refl _) λx _ hx=>ay (a2.dv x hx).2.1;refine jZ (l2:=[(tq,q)]) (gk.up aI) ⟨rfl,?_⟩ (by simp;omega) λv5 h5 n5 g5 l5 s5 b5=>?_
   .show bnd (iD (Tr.get _ _) 0 _) (λr=>mO (Nat.mul 1 5) r)=_
    rw[aG];rfl
   obtain⟨q3,a5⟩:=a2.pos m2 (show Up (h2.set o.kb ob) n2 _ (n2+1) by exact aI) kq2 g5 l5 s5 b5;have rl5:=a5.rl;simp (disch:=omega) only[go_sem,simprocAttr,jR,f8,q3,g5.cl,f11,f12,rl5];refine jZ (l2:=[(m,ps.length)]) (a5.gl.up aI) ⟨rfl,?_⟩ (by simp;omega) λv' h4 n4 g4 l4 s4 b4=>?_
   .show bnd (iD (Tr.get _ _) 0 _) (λr=>mO (Nat.mul 1 2) r)=_
    rw[aG];rfl
   obtain⟨q1,q2⟩:=a5.move (show Up _ _ _ _ by exact aI) g4 l4 s4 b4;simp (disch:=omega) only[go_sem,simprocAttr,jR,f11,q1,g4.cl];refine hR _ (ps++[(tq,q)]) ps.length _ _ _ q2 rfl rfl rfl (.inr ⟨hnew,Sy,rfl⟩) ?_ (by omega) (λx hx hX=>?_) (λx hx=>.inl (.inl hx)) λx hx=>?_
   .rw[List.map_append,List.getElem?_append_right (by simp)];simp
   .rw[ay (λe=>hX (.inr (.inr (.inl e)))),s4 x (by omega) (λe=>hX (.inr (.inr (.inr (.inr (.inr e)))))),ay (by omega),ay (λe=>hX (.inl e)),s5 x (by omega) (λe=>hX (.inr (.inr (.inr (.inl e))))),ay (by omega),ay (λe=>hX (.inr (.inl e))),u2.old x hx]
   .rcases hx with e|e|e|e|e|e
    .exact .inl (.inl e)
    .exact .inl (.inr (.inl e))
    .exact .inl (.inr (.inr (.inl e)))
    .rcases b5 x e with e|e
     .exact .inl (.inr (.inr (.inr (.inl e))))
     .exact .inr (by omega)
    .exact .inl (.inr (.inr (.inr (.inr (.inl e)))))
    .rcases b4 x e with e|e
     .exact .inl (.inr (.inr (.inr (.inr (.inr e)))))
     .exact .inr (by omega)
end
end
end
section
noncomputable section
section
variable {B:Nat} {h h':AH} {n n':Nat} {o:Own} {v:CS} {C:aA} {tv:TS} {p:aP} {party:Int} {A:HP} {ps:List (TS×aP)} {wv:List AV} {M:List (List (Int×Nat))} {l:List (Int×Nat)} {Q:AV->AH->Nat->Prop}
theorem uG(C:aA)(party:Int)(q:aP):(C.pO party q).length<=C.acts.length+2:=by
 have h1:∀n,(C.ou party q n).length<=n:=λn=>by
  unfold aA.ou;rw[List.length_map];exact Nat.le_trans (List.length_filter_le _ _) (by simp)
 have h2:(C.oq q).length<=2:=by
  unfold aA.oq;rw[List.length_append];split<;>split<;>simp
 unfold aA.pO;rw[List.length_append];split
 .have:=h1 C.acts.length;omega
 .simp;omega
def SB:AV:=.agg [.i .i64 0,.k 1,.k 1]
def Zj(C:aA)(party:Int)(p:aP)(h:AH)(n:Nat)(Q:AV->AH->Nat->Prop):Prop:=
 (¬(0<=party/\party<C.aC/\aM C p.st)->∀h' n',Up h n h' n'->Q (.bQ [SB,.i .i64 1]) h' n')/\
 (0<=party->party<C.aC->aM C p.st->iw C party p->∀h' n',Up h n h' n'->Q (.bQ [SB,.i .i64 3]) h' n')/\
 (0<=party->party<C.aC->aM C p.st->∀ps wv M v w h' n',dx C party p (ps.map (·.2)) M->Up h n h' n'->Kp (λx=>x<n) h' n' (λh n=>vW h n v w ps wv M)->Q (.bQ [.agg [.i .i64 party,v,w],.i .i64 0]) h' n')
structure FA(n0:Nat)(kb mb:Nat)(v:CS)(C:aA)(h:AH)(n:Nat):Prop where
 rmb:h.get mb=some (.row 230 [.m kb])
 KO:mb<n
 Zk:h.get (n0+1+1)=some (.row 150 [.i .i64 0,.k 1,.k 1])
 JL:n0+1+1<n
 Zl:h.get (n0+1+1+1)=some (.row 31 [.i .i64 0])
 ebn:n0+1+1+1<n
 rcb:h.get n0=some (.row 27 (v.av C))
 con:aY h n v C
def FI(h:AH)(v:CS)(C:aA)(party:Int)(p:aP)(n n1 kb mb:Nat)(m:Nat)(h8:AH)(n8:Nat)(F:Fm):Prop:=∃(ps:List (TS×aP))(wv:List AV)(M:List (List (Int×Nat)))(vv ww:AV)(X:Nat->Prop),AP (n+4) h8 n8 (n1+1) kb vv ww X party (λh m=>FA n kb mb v C h m) ps wv M/\Eu C party p (ps.map (·.2)) M/\M.length+m=1500/\Up h n h8 n8/\F=[(1,.i .i64 party),(3,.p n 0),(6,.p (n+1+1) 0),(7,.p (n+1+1+1) 0),(8,.p (n1+1) 0),(9,.p mb 0),(10,.i .i64 (M.length:Nat))]
structure IB(pb cb tb:Nat)(v:CS)(C:aA)(party:Int)(q:TS×aP)(h:AH)(n:Nat):Prop where
 p:h.get pb=some (.row 45 (q.1.pv q.2))
 c:h.get cb=some (.row 27 (v.av C))
 t:h.get tb=some (.row 3 [.i .i64 party])
 pn:pb<n
 cn:cb<n
 tn:tb<n
def Wn(st:LoopState)(pd:Option Code)(t:Tr AV):AO:=.lp st pd 74 t [51,52] (jE 74 0) (jF 74 0)
def FJ(h:AH)(v:CS)(C:aA)(party:Int)(p:aP)(n n1 kb mb lb L pb cb tb i:Nat)(q:TS×aP)(t:Tr AV)(M:List (List (Int×Nat)))(hJ:AH)(nJ:Nat)(done:List (Int×aP)):Prop:=
 ∃(o:Own)(ps:List (TS×aP))(wv:List AV)(l:List (Int×Nat)),AI (n+4) hJ nJ o party (λh m=>FA n kb mb v C h m/\IB pb cb tb v C party q h m) ps wv M l/\o.ab=n1+1/\o.kb=kb/\o.lb=lb/\o.X L/\¬o.own L/\hJ.get L=some (Wn .ready none t)/\
  Eu C party p (ps.map (·.2)) M/\Row (ps.map (·.2)) l done/\ps[i]?=some q/\Up h n hJ nJ
def FE(h:AH)(C:aA)(party:Int)(p:aP)(n L:Nat)(t:Tr AV)(hJ:AH)(nJ:Nat):Prop:=iw C party p/\hJ.get (n+1+1)=some (.row 150 [.i .i64 0,.k 1,.k 1])/\hJ.get (n+1+1+1)=some (.row 31 [.i .i64 3])/\hJ.get L=some (Wn .done (some .ret) t)/\n+4<=L/\Up h n hJ nJ
theorem Il(K:Nat)(hC:aY h n v C)(ho:C.off.length<=1000000)(hS:bX h n tv p.st)(hQ:Zj C party p h n Q):CW (EF (K+10)) 74 [.agg (v.av C),.i .i64 party,.agg (tv.pv p)] h n Q:=by
 obtain⟨lK,uS,KN⟩:=hQ;refine aD c74 rfl ?_;repeat' (first|(simp (disch:=omega) only[go_sem,simprocAttr,ub.old,m74,CS.av,TS.pv])|(simp (disch:=omega) only[go_sem,simprocAttr,m74,CS.av,TS.pv])|(refine aT ?_ ?_<;>(intro hb hd;rw[hb];clear hb))|(with_reducible refine aj ?_))
 rw[aU];refine D7 _ (hC.up aI) ho (hS.up aI) λh1 n1 u1=>?_;have e1:=u1.le;cases hp:(decide (0<=party)&&decide (party<C.aC)&&C.dQ p.st)with
 |false=>
  have hn:¬(0<=party/\party<C.aC/\aM C p.st):=λ⟨a,b,c⟩=>by
   rw[decide_eq_true a,decide_eq_true b,(dP C p.st).2 c]at hp;cases hp
  repeat' (first|(simp (disch:=omega) only[go_sem,simprocAttr,ub.old,hp,u1.old])|(simp (disch:=omega) only[go_sem,simprocAttr,hp,u1.old])|(refine aT ?_ ?_<;>(intro hb hd;rw[hb];clear hb))|(with_reducible refine aj ?_))
  exact lK hn _ _ aI
 |true=>
  simp only[Bool.and_eq_true,decide_eq_true_eq]at hp;obtain⟨⟨hp0,hp1⟩,hp2⟩:=hp;have ok:=(dP C p.st).1 hp2;have ok1:=aA.ok ok.con;have:=ok.lh;have:=ok.lu;have:=ok.lm;have:=ok1.dL;have:=ok1.jY;have:=ok1.lG;have r0:h1.get n=some (.row 27 (v.av C)):=by rw[u1.old n (by omega)];simp (disch:=omega) only[go_sem]
  have r1:h1.get (n+1)=some (.row 45 (tv.pv p)):=by rw[u1.old _ (by omega)];simp (disch:=omega) only[go_sem]
  have r2:h1.get (n+1+1)=some (.row 150 [.i .i64 0,.k 1,.k 1]):=by rw[u1.old _ (by omega)];simp (disch:=omega) only[go_sem]
  have r3:h1.get (n+1+1+1)=some (.row 31 [.i .i64 0]):=by rw[u1.old _ (by omega)];simp (disch:=omega) only[go_sem]
  have ux:Up h n h1 n1:=by exact aI
  have kC:Kp (λx=>n+4<=x) h1 n1 (λh n=>aY h n v C):=Kp.up (n:=n+1+1+1+1) (Kp.Jv (λh' n' u=>hC.up (Up.trans aI u)) λx hx=>hx) u1;have kS:Kp (λx=>n+4<=x) h1 n1 (λh n=>bX h n tv p.st):=Kp.up (n:=n+1+1+1+1) (Kp.Jv (λh' n' u=>hS.up (Up.trans aI u)) λx hx=>hx) u1;clear u1;repeat' (first|(simp (disch:=omega) only[go_sem,simprocAttr,ub.old,r1,CS.av,TS.pv])|(simp (disch:=omega) only[go_sem,simprocAttr,r1,CS.av,TS.pv])|(refine aT ?_ ?_<;>(intro hb hd;rw[hb];clear hb))|(with_reducible refine aj ?_))
  rw[bR];refine Au _ (kS.up (show Up h1 n1 h1 (n1+3) by exact aI)).use (by omega) (by omega) (by omega) λZm h2 n2 u2 k2=>?_;have e2:=u2.le;have q1:=(u2.old (n+1) (by omega)).trans r1;simp (disch:=omega) only[go_sem,simprocAttr,q1,r1,TS.pv,TS.av];generalize hh:Tr.set (Tr.set (Tr.set (Tr.set h2 n1 _) (n1+1) _) (n1+1) _) n2 _=h3;have u3:Up h1 n1 h3 (n2+1):=by rw[<-hh];exact aI
  have g1:h3.get n1=some (.row 45 (Zm.pv p)):=by rw[<-hh];simp (disch:=omega) only[go_sem]
  have g2:h3.get (n1+1)=some (.row 150 [.i .i64 party,.sl n1 0 0 1 (some 1),.k 1]):=by rw[<-hh];simp (disch:=omega) only[go_sem]
  have g3:uh h3 n2 AV.s []:=by rw[<-hh];exact uh.new _
  have k3:Kp (λx=>x<n1+3\/x=n2) h3 (n2+1) (λh n=>bX h n Zm p.st):=by
   rw[<-hh];have k2':=k2.le (Y:=λx=>x<n1+3\/x=n2) λx hx e=>by rcases e with e|e<;>omega
   exact((((k2'.set (.inl (.inl (by omega))) (Nat.le_refl _)).set (.inl (.inl (by omega))) (Nat.le_refl _)).set (.inl (.inl (by omega))) (Nat.le_refl _)).set (.inl (.inr rfl)) (Nat.le_succ _))
  clear hh;rw[aU];refine Ij _ (kS.up u3).use (ok.pb p.own) λh4 n4 u4=>?_;have e4:=u4.le;obtain⟨ob,m1,m2⟩:=(g3.on (u4.old n2 (by omega))).put (k:=oz p) (n:=n4) Nn (.i .i64 0);simp (disch:=omega) only[go_sem,simprocAttr,m1];generalize hh:Tr.set (Tr.set (Tr.set h4 n2 ob) n4 _) n4 _=h5;have s5:∀x,x<n4->x≠n2->h5.get x=h4.get x:=λx hx hne=>by rw[<-hh];simp (disch:=omega) only[go_sem]
  have r5:h5.get n4=some (.row 230 [.m n2]):=by rw[<-hh];exact aG
  have o5:∀x,x<n1->h5.get x=h1.get x:=λx hx=>by rw[s5 x (by omega) (by omega),u4.old x (by omega),u3.old x hx]
  have ap:AP (n+4) h5 (n4+1) (n1+1) n2 (.sl n1 0 0 1 (some 1)) (.k 1) (λx=>x=n1\/x=n1+1\/x=n2) party (λh m=>FA n n2 n4 v C h m) [(Zm,p)] [] []:=by
   refine⟨?_,?_,Gr.nil λ_=>rfl,?_,.inr (.inl rfl),.inr (.inr rfl),λx hx=>.inl (d_.1 hx),λx hx=>absurd hx fA,λx hx=>by omega,by omega,λx hx=>?_,λx hx=>absurd hx fA,λx hx=>?_,rfl,(λi y l h=>by cases h),?_,(λx hx=>by omega),by omega⟩
   .rw[s5 _ (by omega) (by omega),u4.old _ (by omega)];exact g2
   .refine Gr.all (l:=[(Zm,p)]) (λ_=>rfl) (by omega) ?_ rfl
    rw[s5 _ (by omega) (by omega),u4.old _ (by omega)];exact g1
   .have m3:uh h5 n2 AV.s (DN [] (oz p) (.i .i64 0)):=m2.on (by rw[<-hh];simp (disch:=omega) only[go_sem])
    exact m3
   .rw[d_]at hx
    exact⟨by omega,by omega,fA⟩
   .simp at hx;subst hx
    rw[<-hh];have k4:=(k3.up u4).le (Y:=λx=>(x=n1\/x=n1+1\/x=n2)\/x<n+4) λx hx e=>by omega
    exact((k4.set (.inl (.inl (.inr (.inr rfl)))) (Nat.le_refl _)).set (.inr (Nat.le_refl _)) (Nat.le_refl _)).set (m:=n4+1) (.inr (Nat.le_refl _)) (Nat.le_succ _)
   .intro h' n' hn he
    have cn:aY h' n' v C:=by
     have k5:Kp (λx=>n+4<=x) h5 (n4+1) (λh n=>aY h n v C):=(kC.on (h':=h5) (n':=n4+1) (by omega) λx hx _=>o5 x hx);exact(k5.le (Y:=λx=>x=n1\/x=n1+1\/x=n2) λx _ e=>by omega) h' n' hn he
    exact⟨(he n4 (by omega) (by omega)).trans r5,by omega,(he _ (by omega) (by omega)).trans ((o5 _ (by omega)).trans r2),by omega,(he _ (by omega) (by omega)).trans ((o5 _ (by omega)).trans r3),by omega,(he _ (by omega) (by omega)).trans ((o5 _ (by omega)).trans r0),cn⟩
  have Wo:Up h n h5 (n4+1):=⟨by omega,λx hx=>(o5 x (by omega)).trans (ux.old x hx)⟩;clear hh;refine jw (FI h v C party p n n1 n2 n4) 1500 (by omega) ⟨_,⟨[(Zm,p)],[],[],_,_,_,ap,Eu.one C party p,rfl,Wo,rfl⟩,by(repeat' (first|exact aR|refine aN rfl ?_))⟩ ?_;rintro m h8 n8 F ⟨ps,wv,M,vv,ww,X,a8,an,hm,u8,rfl⟩;have ra:=a8.ra;have:=an.le;have:=an.small;have fa:=a8.A.use;have rcb:=fa.rcb;have Zk:=fa.Zk;have Zl:=fa.Zl;have c1:=fa.KO;have c2:=fa.JL;have c3:=fa.ebn;have lta:=a8.lt _ a8.Xa;rw[List.length_map]at*;repeat' (first|(simp (disch:=omega) only[go_sem,simprocAttr,ub.old,ra,a8.gv.len,Zk,Zl])|(simp (disch:=omega) only[go_sem,simprocAttr,ra,a8.gv.len,Zk,Zl])|(refine aT ?_ ?_<;>(intro hb hd;rw[hb];clear hb))|(with_reducible refine aj ?_))
  .rename_i hlt
   obtain⟨b1,o1,xq,i1,hx,hb1,rd⟩:=a8.gv.sl.gD (k:=(M.length:Nat)) (by omega) (by omega) (by omega);rw[show((M.length:Nat):Int).toNat=M.length by omega]at hx;repeat' (first|(simp (disch:=omega) only[go_sem,simprocAttr,ub.old,rcb,CS.av,ra,i1,rd.all])|(simp (disch:=omega) only[go_sem,simprocAttr,rcb,CS.av,ra,i1,rd.all])|(refine aT ?_ ?_<;>(intro hb hd;rw[hb];clear hb))|(with_reducible refine aj ?_))
   have hxm:=List.mem_of_getElem? hx;have MP:=a8.st xq hxm;have ai:=a8.start;have hq:aM C xq.2.st:=zo.ok ok (an.rch _ (List.mem_map_of_mem hxm));have uA:Up h8 n8 (Tr.set h8 n8 (.row 221 [.k 1])) (n8+1):=by exact aI
   generalize Tr.set h8 n8 (.row 221 [.k 1])=hA at*;rw[bR];refine Nf _ (fa.con.up uA) (MP.use.up uA) λpb cb tb h9 n9 u9 Wp e7 e8 e9=>?_;simp (disch:=omega) only[go_sem,simprocAttr];refine xH rfl λt hF=>?_;refine Qy K (v:=v) (tv:=xq.1) (party:=party) (FJ h v C party p n n1 n2 n4 n8 n9 pb cb tb M.length xq t M) (FE h C party p n n9 t) ho hq ?_ ?_ ?_ ?_ ?_ ?_
   .rintro h' n' h'' n'' l ⟨o,ps,wv,l',b1,b2,b3,b4,b5,b6,b7,b8,b9,b10,b11⟩ u
    exact⟨o,ps,wv,l',b1.up u,b2,b3,b4,b5,b6,(u.old _ (b1.lt _ b5)).trans b7,b8,b9,b10,b11.trans u⟩
   .rintro h' n' l ⟨o,ps,wv,l',b1,b2,b3,b4,b5,b6,b7,b8,b9,b10,b11⟩
    obtain⟨fa',ib⟩:=b1.A.use;exact⟨ib.p,ib.c,ib.t,ib.pn,ib.cn,ib.tn,fa'.con,(b1.st xq (List.mem_of_getElem? b10)).use⟩
   .have b:=(ai.up u9).uX (A':=λh m=>FA n n2 n4 v C h m/\IB pb cb tb v C party xq h m) ((ai.A.up u9).and λh' n' hn he=>?_)
    .have b2:=b.afc (Wn .ready none t)
     refine⟨_,ps,wv,[],b2,rfl,rfl,rfl,.inr rfl,λe=>?_,aG,an,Row.nil _,hx,?_⟩
     .have:=(b.Zh e);have:=b.lt _ this;omega
     .have:=u9.le;have:=uA.le
      exact((u8.trans uA).trans u9).trans (Up.st (Up.refl _ _) _ _ (Nat.le_refl _) |>.wk (Nat.le_succ _))
    .have:=Wp.pn;have:=Wp.cn;have:=Wp.tn
     have nx:∀x,n8+1<=x->¬(X x\/x=n8):=λx hx e=>by have:=ai.lt x e;omega
     exact⟨(he _ (by omega) (nx _ e7)).trans Wp.rp,(he _ (by omega) (nx _ e8)).trans Wp.rc,(he _ (by omega) (nx _ e9)).trans Wp.rt,by omega,by omega,by omega⟩
   .rintro done m' q tq h0 n0 h1' n1' hpre ⟨o,ps',wv',l,b1,b2,b3,b4,b5,b6,b7,b8,b9,b10,b11⟩ OI kq
    have bn:n8+1<=n9:=u9.le;have hmem:(m',q)∈C.pO party xq.2:=hpre.subset (by simp);have hqs:aM C q.st:=Nb hq hmem;have Zn:zo C party p q:=(an.rch _ (List.mem_map_of_mem hxm)).step hmem;have hL0:=b1.lt _ b5;have e01:=OI.le;have r1':=(OI.old n9 hL0).trans b7;have a1:=b1.up OI;refine RW.mono (uj (d:=19) (F:=_) (bs:=[true,true]) (R:=λb h' n'=>(b=true->FJ h v C party p n n1 n2 n4 n8 n9 pb cb tb M.length xq t M h' n' (done++[(m',q)]))/\(b=false->FE h C party p n n9 t h' n')) r1' hF (by kernel_rfl) rfl UR UU ?_) ?_
    .simp (disch:=omega) only[go_sem,simprocAttr,MX,PX]
     generalize hx:Tr.set (Tr.set h1' n1' _) n1' _=h2';have wK:Up h1' n1' h2' (n1'+1):=by rw[<-hx];exact aI
     have OH:h2'.get n1'=some (.row 45 (tq.pv q)):=by rw[<-hx];exact aG
     clear hx;have r2':=(wK.old n9 (by omega)).trans r1';refine⟨_,_,_,_,_,_,r2',?_⟩;have a2:AI (n+4) (h2'.set n9 (.lp .busy none 74 t [51,52] (jE 74 0) (jF 74 0))) (n1'+1) o party _ ps' wv' M l:=(a1.up wK).JJ b5 b6 _;have kq2:Kp (λx=>o.X x\/x<n+4) (h2'.set n9 (.lp .busy none 74 t [51,52] (jE 74 0) (jF 74 0))) (n1'+1) (λh n=>bX h n tq q.st):=
      ((kq.le (Y:=λx=>o.X x\/x<n+4) λx _ e=>by
       have:=b1.Bn;rcases e with e|e
       .exact b1.lt x e
       .omega).up wK).set (.inl (.inl b5)) (Nat.le_refl _)
     have afm:∀x∈ps',aM C x.2.st:=λx hx=>zo.ok ok (b8.rch _ (List.mem_map_of_mem hx));have hsm:=b8.small;rw[List.length_map]at hsm;have hll:l.length<=100000:=by
      have e1:=b9.1;have e2:done.length<=(C.pO party xq.2).length:=by
       have:=hpre.length_le;simp at this;omega
      have e3:=uG C party xq.2;omega
     have r3':(h2'.set n9 (.lp .busy none 74 t [51,52] (jE 74 0) (jF 74 0))).get n9=some (.lp .busy none 74 t [51,52] (jE 74 0) (jF 74 0)):=aG;have u8':Up h n (h2'.set n9 (.lp .busy none 74 t [51,52] (jE 74 0) (jF 74 0))) (n1'+1):=by
      have:=u8.le;have:=uA.le;exact Up.st ((b11.trans OI).trans wK) _ _ (by omega)
     have afn:(h2'.set n9 (.lp .busy none 74 t [51,52] (jE 74 0) (jF 74 0))).get n1'=some (.row 45 (tq.pv q)):=by rw[ay (by omega)];exact OH
     generalize h2'.set n9 _=h3' at*;have nX:∀x,x<n+4->¬o.X x:=λx hx e=>by have:=b1.nB x e;omega
     have hfa:∀h' n',(FA n n2 n4 v C h' n'/\IB pb cb tb v C party xq h' n')->h'.get n4=some (.row 230 [.m o.kb])/\n4<n'/\h'.get (n+1+1)=some (.row 150 [.i .i64 0,.k 1,.k 1])/\n+1+1<n'/\h'.get (n+1+1+1)=some (.row 31 [.i .i64 0])/\n+1+1+1<n':=λh' n' e=>by
      rw[b3];exact⟨e.1.rmb,e.1.KO,e.1.Zk,e.1.JL,e.1.Zl,e.1.ebn⟩
     refine Np (C:=C) (K+2) a2 hfa kq2 hqs afm hsm hll rfl rfl (by rw[b2];rfl) rfl (by rw[b4];rfl) rfl ⟨n1',rfl,afn,Nat.lt_succ_self _,λe=>by have:=b1.lt _ e;omega⟩ ?_ ?_ (nX _ (by omega)) (nX _ (by omega)) (by omega)
     .intro o' Qz j h' n' F' a3 eab ekb elb U7 hj hn hsame Zo hown
      have Zp:¬o'.own n9:=λe=>by
       rcases hown _ e with e|e
       .exact b6 e
       .omega
      have g9:=(hsame n9 (by omega) b6).trans r3';refine⟨_,_,_,_,_,_,_,g9,⟨λ_=>?_,λe=>(by cases e)⟩⟩;have a4:=a3.JJ (Zo _ b5) Zp (Wn .ready none t);have hrow:Row (Qz.map (·.2)) l done/\Eu C party p (Qz.map (·.2)) M/\Qz[M.length]?=some xq:=by
       rcases U7 with rfl|⟨e1,e2,rfl⟩
       .exact⟨b9,b8,b10⟩
       .rw[List.map_append]
        exact⟨b9.mono _,b8.pos e1 Zn (by rw[List.length_map];exact e2),by rw[List.getElem?_append_left (List.getElem?_eq_some_iff.1 b10).1];exact b10⟩
      refine⟨o',Qz,wv',_,a4,eab.trans b2,ekb.trans b3,elb.trans b4,Zo _ b5,Zp,aG,hrow.2.1,hrow.1.snoc hj,hrow.2.2,⟨by have:=u8'.le;omega,λx hx=>?_⟩⟩;have:=u8.le;have:=uA.le;have:=u8'.le;rw[ay (by omega),hsame x (by omega) (λe=>nX x (by omega) (a2.Zh e)),u8'.old x hx]
     .intro hnew Sy h' n' F' hn q1 q2 hsame
      have:=u8.le;have:=uA.le;have:=u8'.le;have g9:=(hsame n9 (by omega) (by omega) (by omega)).trans r3';refine⟨_,_,_,_,_,_,_,g9,⟨λe=>(by cases e),λ_=>?_⟩⟩;refine⟨b8.big hnew Zn (by rw[List.length_map];exact Sy),?_,?_,aG,by omega,⟨by omega,λx hx=>?_⟩⟩
      .rw[ay (by omega)];exact q1
      .rw[ay (by omega)];exact q2
      .rw[ay (by omega),hsame x (by omega) (by omega) (by omega),u8'.old x hx]
    .rintro u h' n' ⟨b,rfl,hb⟩
     exact⟨b,rfl,hb⟩
   .rintro h' n' ⟨o,ps',wv',l,b1,b2,b3,b4,b5,b6,b7,b8,b9,b10,b11⟩
    refine⟨_,_,_,_,_,_,_,b7,.inl ⟨rfl,rfl,?_⟩⟩;have hlen:=b1.len;have bn:n8+1<=n9:=u9.le;have:=uA.le;have b1':AI (n+4) (Tr.set h' n9 (.lp .exhausted none 74 t [51,52] (jE 74 0) (jF 74 0))) n' o party _ ps' wv' M l:=b1.JJ b5 b6 _;have ux9:Up h n (Tr.set h' n9 (.lp .exhausted none 74 t [51,52] (jE 74 0) (jF 74 0))) n':=Up.st b11 _ _ (by have:=u8.le;omega);generalize Tr.set h' n9 _=hx9 at*;obtain⟨ab,kb,lb,vo,wo,lo,Xo⟩:=o;dsimp only at b2 b3 b4;subst b2;subst b3;subst b4;have ra:=b1'.ra;have rl:=b1'.rl;have lta:=b1'.lt _ b1'.Xa;have lle:=b8.le;have lsm:=b8.small;rw[List.length_map]at lle lsm;simp (disch:=omega) only[go_sem,simprocAttr,ra,rl,b1'.gl.cl];refine jZ (l2:=[lo]) (b1'.gw.up aI) ⟨rfl,?_⟩ (by simp;omega) λv' h4 n4' g4 l4 s4 b4=>?_
    .show bnd (iD (Tr.get _ _) 0 _) (λr=>mO (Nat.mul 1 1) r)=_
     rw[aG];rfl
    obtain⟨q1,q2⟩:=b1'.row (show Up hx9 n' _ (n'+1) by exact aI) g4 l4 s4 b4;simp (disch:=omega) only[go_sem,simprocAttr,q1,g4.cl];have hxq:(ps'.map (·.2))[M.length]?=some xq.2:=by rw[List.getElem?_map,b10];rfl
    have wid:gK .i64 ((M.length:Int)+1)=(((M++[l]).length:Nat):Int):=by rw[dJ (by omega) (by omega)];simp
    rw[wid];have blo:∀x,blk wo x->n+4<=x:=λx hx=>b1'.nB x (b1'.Xw x hx);have nab:n+4<=n1+1:=by omega
    refine⟨m - 1,_,by omega,⟨ps',wv'++[lo],M++[l],vo,v',_,q2.uX λh n e=>e.1,b8.row hxq b9,by simp;omega,⟨by have:=ux9.le;omega,λx hx=>?_⟩,rfl⟩,by(repeat' (first|exact aR|refine aN rfl ?_))⟩;have:=ux9.le;rw[ay (by omega),s4 x (by omega) (λe=>by have:=blo x e;omega),ay (by omega)];exact ux9.old x hx
   .rintro h' n' ⟨b1,b2,b3,b4,b5,b6⟩
    refine⟨_,_,_,_,_,_,_,b4,.inr (.inl ⟨rfl,rfl,?_⟩)⟩;simp (disch:=omega) only[go_sem,simprocAttr,b2,b3];exact uS (by omega) (by omega) ok b1 _ _ (Up.st b6 _ _ (by omega))
  .refine KN (by omega) (by omega) ok ps wv M vv ww _ _ (an.done (by rw[List.length_map];omega)) aI ?_
   have k9:=a8.fin;exact(((k9.set (.inl (by omega)) (Nat.le_refl _)).set (.inl (by omega)) (Nat.le_refl _))).le λx _ hx=>by omega
end
end
end
noncomputable section
def rk(r:List Int)(i:Nat):Int:=r.getD i (-1)
theorem sF{r:List Int}{i j:Nat}{x:Int}(hi:i<r.length):rk (r.set i x) j=if i=j then x else rk r j:=by
 unfold rk;rw[List.getD_eq_getElem?_getD,List.getD_eq_getElem?_getD,List.getElem?_set];by_cases h:i=j
 .rw[if_pos h,if_pos h,if_pos (by omega)];rfl
 .rw[if_neg h,if_neg h]
theorem pR{r:List Int}{i:Nat}{x:Int}(h:r[i]?=some x):rk r i=x:=by unfold rk;rw[List.getD_eq_getElem?_getD,h];rfl
theorem uH{r:List Int}{i:Nat}(h:i<r.length):r[i]?=some (rk r i):=by
 unfold rk;rw[List.getD_eq_getElem?_getD,List.getElem?_eq_getElem h];rfl
def mr(M:List (List (Int×Nat)))(i:Nat):List (Int×Nat):=M.getD i []
def oC(M:List (List (Int×Nat)))(j:Nat):List Nat:=(List.range M.length).flatMap λi=>((mr M i).filter λx=>x.2==j).map λ_=>i
def hits(M:List (List (Int×Nat)))(i j:Nat):Nat:=((mr M i).filter λx=>x.2==j).length
theorem JM{l:List (Int×Nat)}{i k:Nat}:(l.map λ_=>i).count k=if k=i then l.length else 0:=by
 induction l with
 |nil=>simp
 |cons a l ih=>
  rw[List.map_cons,List.count_cons,ih];by_cases h:k=i
  .simp[h]
  .have:¬i=k:=λe=>h e.symm
   simp[h,this]
theorem JN{M:List (List (Int×Nat))}{i j:Nat}(hi:i<M.length):(oC M j).count i=hits M i j:=by
 unfold oC hits;have key:∀n,((List.range n).flatMap λi=>((mr M i).filter λx=>x.2==j).map λ_=>i).count i=if i<n then((mr M i).filter λx=>x.2==j).length else 0:=by
  intro n;induction n with
  |zero=>simp
  |succ n ih=>
   rw[List.range_succ,List.flatMap_append,List.count_append,ih,List.flatMap_cons,List.flatMap_nil,List.append_nil,JM];by_cases h:i=n
   .subst h;simp
   .have h2:i<n+1↔i<n:=by omega
    simp[h,h2]
 rw[key,if_pos hi]
theorem Io{M:List (List (Int×Nat))}{i j:Nat}:i∈oC M j↔i<M.length/\∃m,(m,j)∈mr M i:=by
 unfold oC;rw[List.mem_flatMap];constructor
 .rintro⟨k,hk,hm⟩
  obtain⟨x,hx,rfl⟩:=List.mem_map.1 hm;have:=List.mem_filter.1 hx;refine⟨List.mem_range.1 hk,x.1,?_⟩;have e:x.2=j:=by simpa using this.2
  rw[<-e];exact this.1
 .rintro⟨hi,m,hm⟩
  exact⟨i,List.mem_range.2 hi,List.mem_map.2 ⟨(m,j),List.mem_filter.2 ⟨hm,by simp⟩,rfl⟩⟩
theorem Ip{M:List (List (Int×Nat))}{i:Nat}:∀{L:List Nat},L.Nodup->(L.map (hits M i)).sum=((mr M i).filter λx=>L.contains x.2).length
 |[],_=>by rw[List.map_nil,List.sum_nil,List.filter_eq_nil_iff.2 (by simp)];rfl
 |j::L,h=>by
  rw[List.nodup_cons]at h;rw[List.map_cons,List.sum_cons,Ip h.2];unfold hits;generalize mr M i=l;induction l with
  |nil=>rfl
  |cons a l ih=>
   simp only[List.filter_cons];by_cases h1:a.2=j
   .subst h1
    have h2:L.contains a.2=false:=by simpa using h.1
    have h3:(a.2::L).contains a.2=true:=by simp
    simp only[h2,h3,beq_self_eq_true,if_true,Bool.false_eq_true,if_false,List.length_cons];omega
   .have h1b:(a.2==j)=false:=by simpa using h1
    cases h2:L.contains a.2 with
    |true=>
     have h3:(j::L).contains a.2=true:=by simp at h2⊢;exact .inr h2
     simp only[h1b,h3,if_true,Bool.false_eq_true,if_false,List.length_cons];omega
    |false=>
     have h3:(j::L).contains a.2=false:=by simp at h2⊢;exact⟨h1,h2⟩
     simp only[h1b,h3,Bool.false_eq_true,if_false];exact ih
theorem sH{M:List (List (Int×Nat))}{i:Nat}(hi:i<M.length){L:List Nat}(h:L.Nodup):(L.flatMap (oC M)).count i=((mr M i).filter λx=>L.contains x.2).length:=by
 rw[<-Ip h];induction L with
 |nil=>simp
 |cons a L ih=>
  rw[List.nodup_cons]at h;rw[List.flatMap_cons,List.count_append,ih h.2,List.map_cons,List.sum_cons,JN hi]
structure RI(C:aA)(party:Int)(P:List aP)(M:List (List (Int×Nat)))(r op:List Int)(Q E:List Nat)(n0:Nat):Prop where
 lr:r.length=P.length
 lo:op.length=P.length
 lm:M.length=P.length
 q:Q.Nodup
 qr:∀i,i∈Q↔i<P.length/\0<=rk r i
 neg:∀i, -1<=rk r i
 op:∀i,i<P.length->op.getD i 0=(mr M i).length - (E.count i:Int)
 lost:∀(i:Nat)(p:aP),P[i]?=some p->(rk r i=0↔anyFailed C p.st party=true)
 own:∀(i:Nat)(p:aP),P[i]?=some p->p.own=true->0<rk r i->∀m j,(m,j)∈mr M i->0<=rk r j/\rk r j<rk r i
 vS:∀(i:Nat)(p:aP),P[i]?=some p->p.own=false->0<rk r i->∃m j,(m,j)∈mr M i/\0<=rk r j/\rk r j<rk r i
 mono:Q.Pairwise λa b=>rk r a<=rk r b
 cl:∀(i:Nat)(p:aP),P[i]?=some p->rk r i= -1->(p.own=false->E.count i=0)/\(i<n0->p.own=true->E.count i≠(mr M i).length)
section
variable {C:aA} {party:Int} {P:List aP} {M:List (List (Int×Nat))} {r op:List Int} {Q E D:List Nat} {n0:Nat}
theorem RI.settle(a:RI C party P M r op Q E n0){f:Nat}{p:aP}{x:Int}(hf:P[f]?=some p)(hr:rk r f= -1)(hx:0<x)(hb:∀i∈Q,rk r i<=x)
 (h1:p.own=true->∀m j,(m,j)∈mr M f->0<=rk r j/\rk r j<x)(h2:p.own=false->∃m j,(m,j)∈mr M f/\0<=rk r j/\rk r j<x):RI C party P M (r.set f x) op (Q++[f]) E n0:=by
 have hl:=(List.getElem?_eq_some_iff.1 hf).1;have hl2:f<r.length:=by rw[a.lr];exact hl
 have nQ:f∉Q:=λh=>by have:=((a.qr f).1 h).2;omega
 have ne:∀{j:Nat},0<=rk r j->rk (r.set f x) j=rk r j:=λ{j} h=>by
  rw[sF hl2,if_neg (λe=>by subst e;omega)]
 have le:∀i,rk (r.set f x) i=if f=i then x else rk r i:=λi=>sF hl2
 refine⟨by simp[a.lr],a.lo,a.lm,?_,λi=>?_,λi=>?_,a.op,λi p' hi=>?_,λi p' hi ho hp m j hm=>?_,λi p' hi ho hp=>?_,?_,λi p' hi hp=>?_⟩
 .rw[List.nodup_append]
  exact⟨a.q,by simp,λy hy z hz e=>by simp at hz;subst hz;subst e;exact nQ hy⟩
 .rw[List.mem_append,List.mem_singleton,a.qr,le]
  by_cases h:f=i
  .rw[if_pos h]
   constructor
   .rintro _;exact⟨by omega,by omega⟩
   .intro _;exact .inr h.symm
  .rw[if_neg h]
   constructor
   .rintro(e|e)
    .exact e
    .exact absurd e.symm h
   .exactλe=>.inl e
 .rw[le];split
  .omega
  .exact a.neg i
 .rw[le]
  by_cases h:f=i
  .rw[if_pos h]
   subst h;have:=a.lost f p' hi;constructor
   .intro e;omega
   .intro e;have:=this.2 e;omega
  .rw[if_neg h];exact a.lost i p' hi
 .rw[le i]at hp⊢
  by_cases h:f=i
  .subst h
   rw[if_pos rfl];rw[hf]at hi;cases hi;obtain⟨g1,g2⟩:=h1 ho m j hm;rw[ne g1];exact⟨g1,g2⟩
  .rw[if_neg h]at hp⊢
   obtain⟨g1,g2⟩:=a.own i p' hi ho hp m j hm;rw[ne g1];exact⟨g1,g2⟩
 .rw[le]at hp
  by_cases h:f=i
  .subst h
   rw[hf]at hi;cases hi;obtain⟨m,j,g0,g1,g2⟩:=h2 ho;refine⟨m,j,g0,?_⟩;rw[ne g1,le,if_pos rfl];exact⟨g1,g2⟩
  .rw[if_neg h]at hp
   obtain⟨m,j,g0,g1,g2⟩:=a.vS i p' hi ho hp;refine⟨m,j,g0,?_⟩;rw[ne g1,le,if_neg h];exact⟨g1,g2⟩
 .rw[List.pairwise_append]
  refine⟨?_,by simp,λy hy z hz=>?_⟩
  .refine List.Pairwise.imp_of_mem (λ{y z} hy hz e=>?_) a.mono
   rw[ne ((a.qr y).1 hy).2,ne ((a.qr z).1 hz).2];exact e
  .simp at hz;subst hz
   rw[ne ((a.qr y).1 hy).2,le,if_pos rfl];exact hb y hy
 .rw[le]at hp
  by_cases h:f=i
  .rw[if_pos h]at hp;omega
  .rw[if_neg h]at hp;exact a.cl i p' hi hp
theorem RI.Nq(a:RI C party P M r op Q E n0):Q.length<=P.length:=by
 have key:∀(n:Nat)(l:List Nat),l.Nodup->(∀x∈l,x<n)->l.length<=n:=by
  intro n;induction n with
  |zero=>intro l _ h;cases l with
   |nil=>simp
   |cons a l=>exact absurd (h a (by simp)) (by omega)
  |succ n ih=>
   intro l hl h;have h1:=ih (l.erase n) (hl.erase n) λx hx=>by
    have h2:=h x (List.mem_of_mem_erase hx);have h3:=(List.Nodup.mem_erase_iff hl).1 hx;have:=h3.1;omega
   by_cases hm:n∈l
   .rw[List.length_erase_of_mem hm]at h1
    omega
   .rw[List.erase_of_not_mem hm]at h1;omega
 exact key _ _ a.q λx hx=>((a.qr x).1 hx).1
theorem RI.skip(a:RI C party P M r op Q [] n0){p:aP}(hp:P[n0]?=some p)(h:¬(p.own=true/\op.getD n0 0=0/\rk r n0= -1)):RI C party P M r op Q [] (n0+1):=by
 refine⟨a.lr,a.lo,a.lm,a.q,a.qr,a.neg,a.op,a.lost,a.own,a.vS,a.mono,λi p' hi hr=>⟨(a.cl i p' hi hr).1,λh1 h2=>?_⟩⟩;by_cases e:i<n0
 .exact(a.cl i p' hi hr).2 e h2
 .obtain rfl:i=n0:=by omega
  rw[hp]at hi;cases hi;intro e2;have hl:=(List.getElem?_eq_some_iff.1 hp).1;have:=a.op i hl;refine h ⟨h2,?_,hr⟩;rw[this,<-e2];simp
theorem RI.afp(a:RI C party P M r op Q [] n0){p:aP}(hp:P[n0]?=some p)(ho:p.own=true)(h0:op.getD n0 0=0)(hr:rk r n0= -1)(hb:∀i∈Q,rk r i<=1):RI C party P M (r.set n0 1) op (Q++[n0]) [] (n0+1):=by
 have hl:=(List.getElem?_eq_some_iff.1 hp).1;have h1:=a.op n0 hl;have h2:(mr M n0).length=0:=by rw[h0]at h1;simp at h1;omega
 have b:=a.settle hp hr (by omega) hb (λ_ m j hm=>by rw[List.length_eq_zero_iff.1 h2]at hm;cases hm) (λe=>by rw[ho]at e;cases e);refine RI.skip (n0:=n0) b hp λe=>?_;have:=e.2.2;rw[sF (by rw[a.lr];exact hl),if_pos rfl]at this;omega
theorem uI{E:List Nat}{f i:Nat}:(E++[f]).count i=E.count i+if f=i then 1 else 0:=by
 rw[List.count_append,List.count_singleton];by_cases h:f=i<;>simp[h]
theorem RI.edge(a:RI C party P M r op Q E n0){f:Nat}{p:aP}(hf:P[f]?=some p)(h:rk r f≠ -1\/(p.own=true/\op.getD f 0 - 1≠0)):RI C party P M r (op.set f (op.getD f 0 - 1)) Q (E++[f]) n0:=by
 have hl:=(List.getElem?_eq_some_iff.1 hf).1;have hop:∀i,i<P.length->(op.set f (op.getD f 0 - 1)).getD i 0=(mr M i).length - ((E++[f]).count i:Int):=λi hi=>by
  have h1:=a.op i hi;rw[uI,List.getD_eq_getElem?_getD,List.getElem?_set];rw[List.getD_eq_getElem?_getD]at h1;by_cases e:f=i
  .subst e
   rw[if_pos rfl,if_pos rfl,if_pos (by rw[a.lo];exact hl),List.getD_eq_getElem?_getD];simp only[Option.getD_some];rw[h1];omega
  .rw[if_neg e,if_neg e,h1];rfl
 refine⟨a.lr,by simp[a.lo],a.lm,a.q,a.qr,a.neg,hop,a.lost,a.own,a.vS,a.mono,λi p' hi hr=>?_⟩;by_cases e:f=i
 .subst e
  rw[hf]at hi;cases hi;rcases h with h|⟨h1,h2⟩
  .exact absurd hr h
  .refine⟨(λk=>by rw[h1]at k;cases k),λ_ _ k=>h2 ?_⟩
   have h3:=a.op f hl;rw[uI,if_pos rfl]at k;omega
 .obtain⟨g1,g2⟩:=a.cl i p' hi hr
  rw[uI,if_neg e];exact⟨g1,g2⟩
theorem RI.Zq(a:RI C party P M r op Q E n0)(ht:∀(i:Nat) l m j,M[i]?=some l->(m,j)∈l->j<P.length){f to t:Nat}{p:aP}{rest:List Nat}(hQ:Q=D++to::rest)(hE:E=D.flatMap (oC M)++(oC M to).take t)(hb:∀i∈Q,rk r i<=rk r to+1)(hf:P[f]?=some p)(hft:(oC M to)[t]?=some f)
 (hr:rk r f= -1)(h:p.own=false\/op.getD f 0 - 1=0):RI C party P M (r.set f (rk r to+1)) (op.set f (op.getD f 0 - 1)) (Q++[f]) (E++[f]) n0:=by
 have hl:=(List.getElem?_eq_some_iff.1 hf).1;have hto:=((a.qr to).1 (by rw[hQ];simp)).2;have hmem:f∈oC M to:=List.mem_of_getElem? hft;obtain⟨_,mm,hmm⟩:=Io.1 hmem;have hQn:=a.q;rw[hQ]at hQn;have hDn:(D++[to]).Nodup:=by
  rw[show D++to::rest=(D++[to])++rest by simp]at hQn;exact(List.nodup_append.1 hQn).1
 have afq:∀j∈D++[to],0<=rk r j/\rk r j<=rk r to:=by
  intro j hj;have hm:=a.mono;rw[hQ,List.pairwise_append]at hm;rcases List.mem_append.1 hj with hj|hj
  .exact⟨((a.qr j).1 (by rw[hQ];simp[hj])).2,hm.2.2 j hj to (by simp)⟩
  .simp at hj;subst hj;exact⟨hto,by omega⟩
 have all:op.getD f 0 - 1=0->∀m j,(m,j)∈mr M f->0<=rk r j/\rk r j<rk r to+1:=by
  intro h0 m j hm;have h1:=a.op f hl;have h2:(E++[f]).count f=(mr M f).length:=by rw[uI,if_pos rfl];omega
  have h3:E++[f]=D.flatMap (oC M)++(oC M to).take (t+1):=by
   rw[hE,List.append_assoc,List.take_add_one,hft];rfl
  have h4:(E++[f]).count f<=((D++[to]).flatMap (oC M)).count f:=by
   rw[h3,List.flatMap_append,List.count_append,List.count_append,List.flatMap_cons,List.flatMap_nil,List.append_nil];exact Nat.add_le_add_left ((List.take_sublist _ _).count_le _) _
  rw[sH (by rw[a.lm];exact hl) hDn,h2]at h4;have h5:=List.length_filter_le (λx=>(D++[to]).contains x.2) (mr M f);have h6:=List.length_filter_eq_length_iff.1 (Nat.le_antisymm h5 h4) (m,j) hm;have h7:=afq j (by simpa using h6);omega
 have b:=a.settle hf hr (x:=rk r to+1) (by omega) hb (λho=>all (by
  rcases h with h|h
  .rw[ho]at h;cases h
  .exact h)) (λ_=>⟨mm,to,hmm,hto,by omega⟩)
 have hl2:f<r.length:=by rw[a.lr];exact hl
 refine RI.edge b hf (.inl ?_);rw[sF hl2,if_pos rfl];omega
theorem RI.U8(a:RI C party P M r op Q E n0){f to t:Nat}{rest:List Nat}(hQ:Q=D++to::rest)(hE:E=D.flatMap (oC M)++(oC M to).take t)(hf:f<P.length):E.count f<=(mr M f).length:=by
 have hQn:=a.q;rw[hQ]at hQn;have hDn:(D++[to]).Nodup:=by
  rw[show D++to::rest=(D++[to])++rest by simp]at hQn;exact(List.nodup_append.1 hQn).1
 have h4:E.count f<=((D++[to]).flatMap (oC M)).count f:=by
  rw[hE,List.flatMap_append,List.count_append,List.count_append,List.flatMap_cons,List.flatMap_nil,List.append_nil];exact Nat.add_le_add_left ((List.take_sublist _ _).count_le _) _
 rw[sH (by rw[a.lm];exact hf) hDn]at h4;exact Nat.le_trans h4 (List.length_filter_le _ _)
theorem RI.done(a:RI C party P M r op Q E P.length)(hE:E=Q.flatMap (oC M))(ht:∀(i:Nat) l m j,M[i]?=some l->(m,j)∈l->j<P.length):lI C party P M r:=by
 have SC:∀{i:Nat}{l:List (Int×Nat)},M[i]?=some l->mr M i=l:=λ{i l} h=>by unfold mr;rw[List.getD_eq_getElem?_getD,h];rfl
 have cnt:∀i,i<P.length->E.count i=((mr M i).filter λx=>Q.contains x.2).length:=λi hi=>by rw[hE,sH (by rw[a.lm];exact hi) a.q]
 have sm:∀{j:Nat},j<P.length->r[j]?=some (rk r j):=λh=>uH (by rw[a.lr];exact h);have hi:∀{i:Nat}{p:aP},P[i]?=some p->i<P.length:=λh=>(List.getElem?_eq_some_iff.1 h).1;refine⟨a.lr,λi x h=>by rw[<-pR h];exact a.neg i,λi p x h1 h2=>by rw[<-pR h2];exact a.lost i p h1,λi p l x h1 h2 h3 h4 h5 m j hm=>?_,λi p l x h1 h2 h3 h4 h5=>?_,λi p l h1 h2 h3 h4=>?_,λi p l h1 h2 h3 h4 m j hm=>?_⟩
 .have e:=pR h3
  obtain⟨g1,g2⟩:=a.own i p h1 h4 (by omega) m j (by rw[SC h2];exact hm);exact⟨_,sm (ht i l m j h2 hm),g1,by omega⟩
 .have e:=pR h3
  obtain⟨m,j,g0,g1,g2⟩:=a.vS i p h1 h4 (by omega);rw[SC h2]at g0;exact⟨m,j,_,g0,sm (ht i l m j h2 g0),g1,by omega⟩
 .have e:=pR h3
  have h5:=(a.cl i p h1 e).2 (hi h1) h4;rw[cnt i (hi h1),SC h2]at h5;by_cases hx:∀x∈l,Q.contains x.2=true
  .exact absurd (List.length_filter_eq_length_iff.2 hx) h5
  .obtain⟨⟨m,j⟩,hx2⟩:=Classical.not_forall.1 hx
   obtain⟨hx3,hx4⟩:=Classical.not_imp.1 hx2;refine⟨m,j,hx3,?_⟩;have hj:=ht i l m j h2 hx3;have nq:j∉Q:=by simpa using hx4
   rw[sm hj];congr 1;have:=a.neg j;by_cases e0:0<=rk r j
   .exact absurd ((a.qr j).2 ⟨hj,e0⟩) nq
   .omega
 .have e:=pR h3
  have h5:=(a.cl i p h1 e).1 h4;have hj:=ht i l m j h2 hm;rw[cnt i (hi h1),SC h2,List.length_eq_zero_iff,List.filter_eq_nil_iff]at h5;have h6:=h5 (m,j) hm;have nq:j∉Q:=by simpa using h6
  rw[sm hj];congr 1;have:=a.neg j;by_cases e0:0<=rk r j
  .exact absurd ((a.qr j).2 ⟨hj,e0⟩) nq
  .omega
end
end
end Go.Proofs.YtjoohkjmoghmoaaGreatDoor
