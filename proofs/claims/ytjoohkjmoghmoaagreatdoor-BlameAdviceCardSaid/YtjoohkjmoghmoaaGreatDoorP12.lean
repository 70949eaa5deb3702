/- part -/
import Derived.Test.YtjoohkjmoghmoaaGreatDoorP11
set_option linter.all false
namespace Go.Proofs.YtjoohkjmoghmoaaGreatDoor
section
noncomputable section
section
variable {h h':AH} {n n':Nat} {v:CS} {C:aA} {tv:TS} {p:aP} {party:Int} {Q:AV->AH->Nat->Prop}
structure Np(h:AH)(n pb cb tb:Nat)(v:CS)(C:aA)(tv:TS)(p:aP)(party:Int):Prop where
 rp:h.get pb=some (.row 45 (tv.pv p))
 rc:h.get cb=some (.row 27 (v.av C))
 rt:h.get tb=some (.row 3 [.i .i64 party])
 pn:pb<n
 cn:cb<n
 tn:tb<n
 con:aZ h n v C
 st:cZ h n tv p.st
theorem Np.up{pb cb tb:Nat}(m:Np h n pb cb tb v C tv p party)(u:Up h n h' n'):Np h' n' pb cb tb v C tv p party:=
 have:=u.le
 ⟨(u.old _ m.pn).trans m.rp,(u.old _ m.cn).trans m.rc,(u.old _ m.tn).trans m.rt,Nat.lt_of_lt_of_le m.pn this,Nat.lt_of_lt_of_le m.cn this,Nat.lt_of_lt_of_le m.tn this,m.con.up u,m.st.up u⟩
theorem Nq(K:Nat)(hC:aZ h n v C)(hS:cZ h n tv p.st)(hQ:∀pb cb tb h' n',Up h n h' n'->Np h' n' pb cb tb v C tv p party->n<=pb->n<=cb->n<=tb->Q (.f 233 [.p pb 0,.p cb 0,.p tb 0]) h' n'):CW (EF (K+1)) 136 [.agg (v.av C),.i .i64 party,.agg (tv.pv p)] h n Q:=by
 refine aD ae_ rfl ?_;repeat' (first|(simp (disch:=omega) only[go_sem,simprocAttr,Zo,CS.av,TS.pv])|(refine aR ?_ ?_<;>(intro hb hd;rw[hb];clear hb))|(with_reducible refine aj ?_))
 have u:∀h',h'=((Tr.set h n (AO.row 27 (v.av C))).set (n+1) (.row 3 [.i .i64 party])).set (n+1+1) (.row 45 (tv.pv p))->Up h n h' (n+1+1+1):=λh' e=>by rw[e];exact aH
 refine hQ (n+2) n (n+1) _ _ (u _ rfl) ⟨?_,?_,?_,by omega,by omega,by omega,hC.up (u _ rfl),hS.up (u _ rfl)⟩ (by omega) (by omega) (by omega);all_goals simp (disch:=omega) only[go_sem]
theorem Nr(C:aA)(party:Int)(p:aP){k N:Nat}(h:k<=N):C.mJ party p k<+:C.mJ party p N:=by
 induction h with
 |refl=>exact⟨[],by simp⟩
 |step _ ih=>rw[wh];exact ih.trans ⟨_,rfl⟩
theorem QM(K:Nat){pb cb tb yr:Nat}(J:AH->Nat->List (Int×aP)->Prop)(E:AH->Nat->Prop)(ho:C.off.length<=1000000)(ok:aK C p.st)(hJ:∀h n h' n' l,J h n l->Up h n h' n'->J h' n' l)
 (Vj:∀h n l,J h n l->Np h n pb cb tb v C tv p party)(j0:J h n [])
 (hstep:∀(l:List (Int×aP))(m:Int)(q:aP)(tvq:TS) h0 n0 h1 n1,(l++[(m,q)])<+:C.kJ party p->J h0 n0 l->Up h0 n0 h1 n1->Kp (λx=>x<n0) h1 n1 (λh n=>cZ h n tvq q.st)->
  RW (Y0 yr [.i .i64 m,.agg (tvq.pv q)] (EF (K+8)) h1 n1) λu h2 n2=>∃b,u= .b b/\(b=true->J h2 n2 (l++[(m,q)]))/\(b=false->E h2 n2))
 (hQ:∀h' n',J h' n' (C.kJ party p)->Q (.bN []) h' n')(hE:∀h' n',E h' n'->Q (.bN []) h' n'):CW (EF (K+9)) 233 [.y yr,.p pb 0,.p cb 0,.p tb 0] h n Q:=by
 have hm0:=Vj _ _ _ j0;have rp:=hm0.rp;have rc:=hm0.rc;have rt:=hm0.rt;refine aD c233 rfl ?_;have ok1:=aA.ok ok.con;have:=ok.lh;have:=ok.lu;have:=ok.lm;have:=ok1.dQ;have:=ok1.kg;have:=ok1.j_;have tail:∀h2 n2 (F:Fm),J h2 n2 (C.mI p)->p.st.day<C.days->lk F 49=some (.i .i64 0)->lk F 48=some (.i .i64 (C.acts.length:Nat))->lk F 0=some (.y yr)->lk F 1=some (.p pb 0)->lk F 2=some (.p cb 0)->lk F 3=some (.p tb 0)->lk F 47=some v.a->
  SM Tryz.prog Y0 233 (.c (xP 3 49 48 50 0 1 Gc)::[It.b 0]) .bW (EF (K+8)) h2 n2 F (KR [] Q):=by
  intro h2 n2 F j2 jC f1 f2 f3 f4 f5 f6 f7;refine bX C.acts.length (λk h n G=>J h n (C.mI p++C.mJ party p k)/\G=[(0,.y yr),(1,.p pb 0),(2,.p cb 0),(3,.p tb 0),(47,v.a)]) (by omega) (by omega) (by omega) (by omega) (λk h8 n8 G ⟨_,e⟩=>by subst e;exact⟨rfl,rfl⟩) ⟨f1,f2,_,⟨by simpa [aA.mJ]using j2,rfl⟩,aN f3 (aN f4 (aN f5 (aN f6 (aN f7 aO))))⟩ ?_ ?_
  .rintro k h3 n3 G hk ⟨j3,rfl⟩
   have Em:=Vj _ _ _ j3;have rp:=Em.rp;have rc:=Em.rc;have rt:=Em.rt;obtain⟨b1,o1,a,i1,ha,hb1,rd⟩:=Em.con.acts.fu (k:=(k:Nat)) (by omega) (by omega) (by omega);rw[show((k:Nat):Int).toNat=k by omega]at ha;have pn:=Em.pn;have cn:=Em.cn;have tn:=Em.tn;have act:=ok1.act (List.mem_of_getElem? ha);have hdo:C.doer p.st (k:Nat)=bC p.st.ah a:=by unfold aA.doer;rw[show((k:Nat):Int).toNat=k by omega,ha]
   have rp:=Em.rp;have rc:=Em.rc;have rt:=Em.rt;have sk:¬C.Iy party p k->∀h4 n4,Up h3 n3 h4 n4->J h4 n4 (C.mI p++C.mJ party p (k+1)):=λh h4 n4 u=>by rw[wh,if_neg h,List.append_nil];exact hJ _ _ _ _ _ j3 u
   have ks:C.Iy party p k->C.mI p++C.mJ party p (k+1)=C.mI p++C.mJ party p k++[((k:Int),⟨C.aW p.st k,true⟩)]:=λh=>by rw[wh,if_pos h,List.append_assoc]
   have pre:C.mI p++C.mJ party p (k+1)<+:C.kJ party p:=by
    rw[aA.kJ,if_pos jC,List.prefix_append_right_inj];exact Nr C party p hk
   repeat' (first|(simp (disch:=omega) only[go_sem,simprocAttr,Gc,aJ i1,rd.el,rd.hd,rd.all])|(refine aR ?_ ?_<;>(intro hb hd;rw[hb];clear hb))|(with_reducible refine aj ?_))
   .have hr:=act.role hd
    obtain⟨b2,o2,x,i2,hx,hb2,eY⟩:=Em.st.ah.fu (k:=a.role) (by omega) (by omega) (by omega);have Zz:bC p.st.ah a=x:=by unfold bC gQ;rw[hx,show(a.role== -1)=false by simpa using hd];rfl
    simp (disch:=omega) only[go_sem,simprocAttr,rp,rc,rt,TS.pv,CS.av,aJ i2,eY.el,eY.hd];rw[<-Zz];rw[<-hdo];refine xQ (λhd2=>?_) (λhd2=>?_)<;>rw[hd2]
    .simp (disch:=omega) only[go_sem,simprocAttr]
     have hn:¬C.Iy party p k:=λe=>by
      have e:=e.1;by_cases hx:C.doer p.st (k:Nat)=party
      .rw[hx,e.1 hx]at hd2;simp at hd2
      .have:p.own=false:=by cases ho:p.own with|true=>exact absurd (e.2 ho) hx|false=>rfl
       rw[this]at hd2;simp[hx]at hd2
     refine⟨rfl,rfl,_,⟨sk hn _ _ aH,rfl⟩,by(repeat' (first|exact aO|refine aN rfl ?_))⟩
    .have hde:C.doer p.st (k:Nat)=party↔p.own=true:=by
      by_cases hx:C.doer p.st (k:Nat)=party
      .cases ho:p.own with
       |true=>simp[hx]
       |false=>rw[ho]at hd2;simp[hx]at hd2
      .cases ho:p.own with
       |false=>simp[hx]
       |true=>rw[ho]at hd2;simp[hx]at hd2
     simp (disch:=omega) only[go_sem,simprocAttr,rp,rc,rt,TS.pv,CS.av];rw[aU];refine xV _ (Em.con.up aH) ho (Em.st.up aH) (k:Nat) (λe=>?_) (λ_ _ _ e=>?_) (λ_ _ _ _ ZA h4 n4 u4 k4=>?_)
     .exact absurd e (by rw[(eF C p.st).2 ok];simp;omega)
     .omega
     have ZB:=Em.up (show Up h3 n3 h4 n4 by exact aH);have rp:=ZB.rp;have e4:=u4.le;have pn4:pb<n4:=by omega
     have Vk:=jK ok (t:=(k:Nat)) (by omega) (by omega) jC;have l1:=Vk.lh;have l2:=Vk.lu;have l3:=Vk.lm;simp (disch:=omega) only[go_sem,simprocAttr,rp,TS.pv,TS.av];rw[aU];refine Iq _ ((k4.up aH).use) (ZB.st.up aH) (by omega) (by omega) (by omega) λh5 n5 u5=>?_;by_cases hsm:C.aW p.st (k:Nat)=p.st
     .rw[Ay hsm]
      simp (disch:=omega) only[go_sem,simprocAttr];refine⟨rfl,rfl,_,⟨sk (λe=>e.2 hsm) _ _ aH,rfl⟩,by(repeat' (first|exact aO|refine aN rfl ?_))⟩
     .rw[wQ hsm]
      have hmv:C.Iy party p k:=⟨hde,hsm⟩;simp (disch:=omega) only[go_sem,simprocAttr,u5.old,TS.av];rw[vO];refine RW.mono (hstep _ (k:Int) ⟨C.aW p.st k,true⟩ ZA _ _ _ _ (by rw[<-ks hmv];exact pre) j3 aH ((k4.up aH).le λx hx h=>?_)) ?_
      .omega
      rintro _ h6 n6 ⟨b,rfl,hb1,hb2⟩;cases b with
      |false=>
       simp (disch:=omega) only[go_sem,simprocAttr];exact hE _ _ (hb2 rfl)
      |true=>
       have j6:=hb1 rfl;rw[<-ks hmv]at j6;simp (disch:=omega) only[go_sem,simprocAttr];exact⟨rfl,rfl,_,⟨j6,rfl⟩,by(repeat' (first|exact aO|refine aN rfl ?_))⟩
   .have Zz:bC p.st.ah a= -1:=by unfold bC;rw[hd];rfl
    simp (disch:=omega) only[go_sem,simprocAttr,rp,rc,rt,TS.pv,CS.av];rw[<-Zz];rw[<-hdo];refine xQ (λhd2=>?_) (λhd2=>?_)<;>rw[hd2]
    .simp (disch:=omega) only[go_sem,simprocAttr]
     have hn:¬C.Iy party p k:=λe=>by
      have e:=e.1;by_cases hx:C.doer p.st (k:Nat)=party
      .rw[hx,e.1 hx]at hd2;simp at hd2
      .have:p.own=false:=by cases ho:p.own with|true=>exact absurd (e.2 ho) hx|false=>rfl
       rw[this]at hd2;simp[hx]at hd2
     refine⟨rfl,rfl,_,⟨sk hn _ _ aH,rfl⟩,by(repeat' (first|exact aO|refine aN rfl ?_))⟩
    .have hde:C.doer p.st (k:Nat)=party↔p.own=true:=by
      by_cases hx:C.doer p.st (k:Nat)=party
      .cases ho:p.own with
       |true=>simp[hx]
       |false=>rw[ho]at hd2;simp[hx]at hd2
      .cases ho:p.own with
       |false=>simp[hx]
       |true=>rw[ho]at hd2;simp[hx]at hd2
     simp (disch:=omega) only[go_sem,simprocAttr,rp,rc,rt,TS.pv,CS.av];rw[aU];refine xV _ (Em.con.up aH) ho (Em.st.up aH) (k:Nat) (λe=>?_) (λ_ _ _ e=>?_) (λ_ _ _ _ ZA h4 n4 u4 k4=>?_)
     .exact absurd e (by rw[(eF C p.st).2 ok];simp;omega)
     .omega
     have ZB:=Em.up (show Up h3 n3 h4 n4 by exact aH);have rp:=ZB.rp;have e4:=u4.le;have pn4:pb<n4:=by omega
     have Vk:=jK ok (t:=(k:Nat)) (by omega) (by omega) jC;have l1:=Vk.lh;have l2:=Vk.lu;have l3:=Vk.lm;simp (disch:=omega) only[go_sem,simprocAttr,rp,TS.pv,TS.av];rw[aU];refine Iq _ ((k4.up aH).use) (ZB.st.up aH) (by omega) (by omega) (by omega) λh5 n5 u5=>?_;by_cases hsm:C.aW p.st (k:Nat)=p.st
     .rw[Ay hsm]
      simp (disch:=omega) only[go_sem,simprocAttr];refine⟨rfl,rfl,_,⟨sk (λe=>e.2 hsm) _ _ aH,rfl⟩,by(repeat' (first|exact aO|refine aN rfl ?_))⟩
     .rw[wQ hsm]
      have hmv:C.Iy party p k:=⟨hde,hsm⟩;simp (disch:=omega) only[go_sem,simprocAttr,u5.old,TS.av];rw[vO];refine RW.mono (hstep _ (k:Int) ⟨C.aW p.st k,true⟩ ZA _ _ _ _ (by rw[<-ks hmv];exact pre) j3 aH ((k4.up aH).le λx hx h=>?_)) ?_
      .omega
      rintro _ h6 n6 ⟨b,rfl,hb1,hb2⟩;cases b with
      |false=>
       simp (disch:=omega) only[go_sem,simprocAttr];exact hE _ _ (hb2 rfl)
      |true=>
       have j6:=hb1 rfl;rw[<-ks hmv]at j6;simp (disch:=omega) only[go_sem,simprocAttr];exact⟨rfl,rfl,_,⟨j6,rfl⟩,by(repeat' (first|exact aO|refine aN rfl ?_))⟩
  .rintro h3 n3 G ⟨j3,rfl⟩
   simp (disch:=omega) only[go_sem,simprocAttr];refine hQ _ _ ?_;rw[aA.kJ,if_pos jC];exact j3
 cases hown:p.own with
 |true=>
  have JR:C.mI p=[(-2,⟨p.st,false⟩)]:=by unfold aA.mI;rw[if_pos hown,if_neg (by rw[hown];simp)];rfl
  simp (disch:=omega) only[go_sem,simprocAttr,U4,rp,rc,rt,TS.pv,CS.av,hown];rw[aU];refine AB _ hm0.st (by omega) (by omega) (by omega) λO1 h1 n1 u1 k1=>?_;simp (disch:=omega) only[go_sem,simprocAttr,TS.av];rw[vO];refine RW.mono (hstep [] (-2) ⟨p.st,false⟩ O1 _ _ _ _ (by rw[aA.kJ,JR];exact⟨_,rfl⟩) j0 u1 k1) ?_;rintro _ h2 n2 ⟨b,rfl,hb1,hb2⟩;cases b with
  |false=>
   simp (disch:=omega) only[go_sem,simprocAttr];exact hE _ _ (hb2 rfl)
  |true=>
   have j2:=hb1 rfl;have hm2:=Vj _ _ _ j2;have rp:=hm2.rp;have rc:=hm2.rc;have rt:=hm2.rt;repeat' (first|(simp (disch:=omega) only[go_sem,simprocAttr,rp,rc,TS.pv,CS.av,hown,hm2.con.acts.len])|(refine aR ?_ ?_<;>(intro hb hd;rw[hb];clear hb))|(with_reducible refine aj ?_))
   .refine hQ _ _ ?_
    rw[aA.kJ,JR,if_neg (by omega)];exact j2
   exact tail _ _ _ (by rw[JR];exact j2) (by omega) rfl rfl rfl rfl rfl rfl rfl
 |false=>
  have no:¬p.own=true:=by rw[hown];simp
  simp (disch:=omega) only[go_sem,simprocAttr,U4,rp,rc,rt,TS.pv,CS.av,hown];refine xQ (λhd2=>?_) (λhd2=>?_)<;>(rw[hd2];simp only[decide_eq_true_eq,decide_eq_false_iff_not]at hd2)
  .simp (disch:=omega) only[go_sem,simprocAttr]
   refine hQ _ _ ?_;rw[aA.kJ,aA.mI,if_neg no,if_neg (by omega),if_neg (by omega)];exact j0
  .have jC:p.st.day<C.days:=by omega
   have JR:C.mI p=[(-1,⟨C.aW p.st (-1),true⟩)]:=by unfold aA.mI;rw[if_neg no,if_pos ⟨hown,jC⟩];rfl
   simp (disch:=omega) only[go_sem,simprocAttr,rp,rc,rt,TS.pv,CS.av,hown];rw[aU];refine xV _ hm0.con ho hm0.st (-1) (λe=>?_) (λ_ _ _ e=>?_) (λ_ _ _ _ ZA h4 n4 u4 k4=>?_)
   .exact absurd e (by rw[(eF C p.st).2 ok];simp;omega)
   .omega
   have e4:=u4.le;simp (disch:=omega) only[go_sem,simprocAttr,TS.av];rw[vO];refine RW.mono (hstep [] (-1) ⟨C.aW p.st (-1),true⟩ ZA _ _ _ _ (by rw[aA.kJ,JR];exact⟨_,rfl⟩) j0 aH (k4.up aH)) ?_;rintro _ h6 n6 ⟨b,rfl,hb1,hb2⟩;cases b with
   |false=>
    simp (disch:=omega) only[go_sem,simprocAttr];exact hE _ _ (hb2 rfl)
   |true=>
    have j2:=hb1 rfl;have hm2:=Vj _ _ _ j2;have rp:=hm2.rp;have rc:=hm2.rc;have rt:=hm2.rt;repeat' (first|(simp (disch:=omega) only[go_sem,simprocAttr,rp,rc,TS.pv,CS.av,hown,hm2.con.acts.len])|(refine aR ?_ ?_<;>(intro hb hd;rw[hb];clear hb))|(with_reducible refine aj ?_))
    exact tail _ _ _ (by rw[JR];exact j2) jC rfl rfl rfl rfl rfl rfl rfl
end
end
end
section
noncomputable section
def sO:List aP->Nat->List (List UInt8×AV)
 |[],_=>[]
 |q::r,i=>(oC q,.i .i64 (i:Nat))::sO r (i+1)
section
variable {C:aA} {party:Int} {p q r:aP} {P:List aP} {M:List (List (Int×Nat))} {l:List (Int×Nat)} {ms:List (Int×aP)}
theorem Ns{v:AV}(hq:aK C q.st)(hP:∀x∈P,aK C x.st):∀{i:Nat},nM (sO P i) (oC q)=some v->∃j:Nat,P[j]?=some q/\v= .i .i64 ((i+j:Nat):Int):=by
 induction P with
 |nil=>intro i h;cases h
 |cons a P ih=>
  intro i h;rw[sO,nM]at h;split at h
  .rename_i e
   cases QL hq (hP a (by simp)) e
   cases h
   exact⟨0,rfl,by simp⟩
  .obtain⟨j,h1,h2⟩:=ih (λx hx=>hP x (List.mem_cons_of_mem _ hx)) h
   exact⟨j+1,h1,by rw[h2];congr 2;omega⟩
theorem Nt:∀{i:Nat},nM (sO P i) (oC q)=none->q∉P:=by
 induction P with
 |nil=>intro i _ h;cases h
 |cons a P ih=>
  intro i h;rw[sO,nM]at h;split at h
  .cases h
  .rename_i e
   intro hm;rcases List.mem_cons.1 hm with rfl|hm
   .exact e rfl
   .exact ih h hm
theorem Nu{κ:Type}{m:List (κ×AV)}{k:κ}{v:AV}(h:nM m k=none):D_ m k v=m++[(k,v)]:=by
 induction m with
 |nil=>rfl
 |cons a m ih=>
  rw[nM]at h;split at h
  .cases h
  .rename_i e
   rw[D_,if_neg e,ih h];rfl
theorem Nv:∀{i:Nat},sO (P++[q]) i=sO P i++[(oC q,.i .i64 ((i+P.length:Nat):Int))]:=by
 induction P with
 |nil=>intro i;rfl
 |cons a P ih=>
  intro i;rw[List.cons_append,sO,sO,ih,List.cons_append,List.length_cons];rw[show i+1+P.length=i+(P.length+1) by omega]
def Row(P:List aP)(l:List (Int×Nat))(ms:List (Int×aP)):Prop:=l.length=ms.length/\∀(k:Nat)(m:Int)(j:Nat),l[k]?=some (m,j)->∃r,P[j]?=some r/\ms[k]?=some (m,r)
theorem Row.nil(P:List aP):Row P [] []:=⟨rfl,λk m j h=>by cases h⟩
theorem Row.mono(h:Row P l ms)(x:List aP):Row (P++x) l ms:=⟨h.1,λk m j e=>by
 obtain⟨r,h1,h2⟩:=h.2 k m j e;exact⟨r,by rw[List.getElem?_append_left (List.getElem?_eq_some_iff.1 h1).1];exact h1,h2⟩⟩
theorem Row.snoc(h:Row P l ms){m:Int}{j:Nat}(hj:P[j]?=some r):Row P (l++[(m,j)]) (ms++[(m,r)]):=by
 refine⟨by simp[h.1],λk m' j' e=>?_⟩;have hl:=h.1;by_cases hk:k<l.length
 .rw[List.getElem?_append_left hk]at e
  obtain⟨r',h1,h2⟩:=h.2 k m' j' e;exact⟨r',h1,by rw[List.getElem?_append_left (by omega)];exact h2⟩
 .have hk2:k<(l++[(m,j)]).length:=(List.getElem?_eq_some_iff.1 e).1
  obtain rfl:k=l.length:=by simp at hk2;omega
  rw[List.getElem?_append_right (Nat.le_refl _)]at e;simp at e;obtain⟨rfl,rfl⟩:=e;exact⟨r,hj,by rw[List.getElem?_append_right (by omega),hl];simp⟩
structure EH(C:aA)(party:Int)(p:aP)(P:List aP)(M:List (List (Int×Nat))):Prop where
 hd:P[0]?=some p
 nd:P.Nodup
 rch:∀q∈P,wm C party p q
 small:P.length<=1500
 le:M.length<=P.length
 mv:∀(i:Nat)(q:aP)(l:List (Int×Nat)),P[i]?=some q->M[i]?=some l->Row P l (C.kJ party q)
theorem EH.one(C:aA)(party:Int)(p:aP):EH C party p [p] []:=⟨rfl,by simp,λq hq=>by simp at hq;subst hq;exact .refl,by simp,by simp,λi q l _ h=>by cases h⟩
theorem EH.pos(a:EH C party p P M)(hq:q∉P)(hr:wm C party p q)(h:P.length≠1500):EH C party p (P++[q]) M:=by
 have hs:=a.small;have hl:=a.le;have h0:0<P.length:=(List.getElem?_eq_some_iff.1 a.hd).1;refine⟨by rw[List.getElem?_append_left h0];exact a.hd,?_,λx hx=>?_,by simp;omega,by simp;omega,λi x l hx hl=>?_⟩
 .rw[List.nodup_append]
  exact⟨a.nd,by simp,λx hx y hy e=>by simp at hy;subst hy;subst e;exact hq hx⟩
 .rcases List.mem_append.1 hx with h|h
  .exact a.rch x h
  .simp at h;subst h;exact hr
 .have hi:=(List.getElem?_eq_some_iff.1 hl).1
  rw[List.getElem?_append_left (by omega)]at hx;exact(a.mv i x l hx hl).mono _
theorem EH.row(a:EH C party p P M)(h:P[M.length]?=some q)(hr:Row P l (C.kJ party q)):EH C party p P (M++[l]):=by
 have hi:=(List.getElem?_eq_some_iff.1 h).1;refine⟨a.hd,a.nd,a.rch,a.small,by simp;omega,λi x l' hx hl=>?_⟩;by_cases hk:i<M.length
 .rw[List.getElem?_append_left hk]at hl
  exact a.mv i x l' hx hl
 .have hk2:i<(M++[l]).length:=(List.getElem?_eq_some_iff.1 hl).1
  obtain rfl:i=M.length:=by simp at hk2;omega
  rw[List.getElem?_append_right (Nat.le_refl _)]at hl;simp at hl;subst hl;rw[h]at hx;cases hx
  exact hr
theorem EH.done(a:EH C party p P M)(h:P.length<=M.length):bV C party p P M:=
 ⟨a.hd,a.nd,by have:=a.le;omega,λi q l h1 h2=>a.mv i q l h1 h2,a.rch,a.small⟩
theorem EH.big(a:EH C party p P M)(hq:q∉P)(hr:wm C party p q)(h:P.length=1500):gL C party p:=by
 refine⟨P++[q],?_,by simp;omega,λx hx=>?_⟩
 .rw[List.nodup_append]
  exact⟨a.nd,by simp,λx hx y hy e=>by simp at hy;subst hy;subst e;exact hq hx⟩
 .rcases List.mem_append.1 hx with h|h
  .exact a.rch x h
  .simp at h;subst h;exact hr
end
@[reducible] def WJ (x:Int×Nat):List AV:=[.i .i64 x.1,.i .i64 (x.2:Nat)]
@[reducible] def xC (x:TS×aP):List AV:=x.1.pv x.2
abbrev one(y:AV):List AV:=[y]
structure qW(h:AH)(n:Nat)(v w:AV)(ps:List (TS×aP))(wv:List AV)(M:List (List (Int×Nat))):Prop where
 pos:SL h n 5 v xC ps
 st:∀x∈ps,cZ h n x.1 x.2.st
 row:SL h n 1 w one wv
 len:wv.length=M.length
 mv:∀(i:Nat)(y:AV)(l:List (Int×Nat)),wv[i]?=some y->M[i]?=some l->SL h n 2 y WJ l
theorem qW.up{h h':AH}{n n':Nat}{v w:AV}{ps:List (TS×aP)}{wv:List AV}{M:List (List (Int×Nat))}(a:qW h n v w ps wv M)(u:Up h n h' n'):qW h' n' v w ps wv M:=
 ⟨a.pos.up u,λx hx=>(a.st x hx).up u,a.row.up u,a.len,λi y l h1 h2=>(a.mv i y l h1 h2).up u⟩
structure Own where
 ab:Nat
 kb:Nat
 lb:Nat
 v:AV
 w:AV
 lv:AV
 X:Nat->Prop
def Own.own(o:Own)(x:Nat):Prop:=x=o.ab\/x=o.kb\/x=o.lb\/blk o.v x\/blk o.w x\/blk o.lv x
structure AI(B:Nat)(h:AH)(n:Nat)(o:Own)(party:Int)(A:HP)(ps:List (TS×aP))(wv:List AV)(M:List (List (Int×Nat)))(l:List (Int×Nat)):Prop where
 ra:h.get o.ab=some (.row 150 [.i .i64 party,o.v,o.w])
 rl:h.get o.lb=some (.row 221 [o.lv])
 gv:Gr h n 45 5 o.v xC ps
 gw:Gr h n 221 1 o.w one wv
 gl:Gr h n 223 2 o.lv WJ l
 mp:uG h o.kb AV.s (sO (ps.map (·.2)) 0)
 Xa:o.X o.ab
 Xk:o.X o.kb
 Xl:o.X o.lb
 Xv:∀x,blk o.v x->o.X x
 Xw:∀x,blk o.w x->o.X x
 Xy:∀x,blk o.lv x->o.X x
 lt:∀x,o.X x->x<n
 ak:o.ab≠o.kb
 al:o.ab≠o.lb
 kl:o.kb≠o.lb
 dv:∀x,blk o.v x->x≠o.ab/\x≠o.kb/\x≠o.lb/\¬blk o.w x/\¬blk o.lv x
 dw:∀x,blk o.w x->x≠o.ab/\x≠o.kb/\x≠o.lb/\¬blk o.lv x
 dl:∀x,blk o.lv x->x≠o.ab/\x≠o.kb/\x≠o.lb
 st:∀x∈ps,Kp (λx=>o.X x\/x<B) h n (λh n=>cZ h n x.1 x.2.st)
 len:wv.length=M.length
 mv:∀(i:Nat)(y:AV)(l:List (Int×Nat)),wv[i]?=some y->M[i]?=some l->Kp (λx=>o.X x\/x<B) h n (λh n=>SL h n 2 y WJ l)
 A:Kp o.X h n A
 nB:∀x,o.X x->B<=x
 Bn:B<=n
structure AP(B:Nat)(h:AH)(n:Nat)(ab kb:Nat)(v w:AV)(X:Nat->Prop)(party:Int)(A:HP)(ps:List (TS×aP))(wv:List AV)(M:List (List (Int×Nat))):Prop where
 ra:h.get ab=some (.row 150 [.i .i64 party,v,w])
 gv:Gr h n 45 5 v xC ps
 gw:Gr h n 221 1 w one wv
 mp:uG h kb AV.s (sO (ps.map (·.2)) 0)
 Xa:X ab
 Xk:X kb
 Xv:∀x,blk v x->X x
 Xw:∀x,blk w x->X x
 lt:∀x,X x->x<n
 ak:ab≠kb
 dv:∀x,blk v x->x≠ab/\x≠kb/\¬blk w x
 dw:∀x,blk w x->x≠ab/\x≠kb
 st:∀x∈ps,Kp (λx=>X x\/x<B) h n (λh n=>cZ h n x.1 x.2.st)
 len:wv.length=M.length
 mv:∀(i:Nat)(y:AV)(l:List (Int×Nat)),wv[i]?=some y->M[i]?=some l->Kp (λx=>X x\/x<B) h n (λh n=>SL h n 2 y WJ l)
 A:Kp X h n A
 nB:∀x,X x->B<=x
 Bn:B<=n
section
variable {B:Nat} {h h' h2 h3:AH} {n n' n2 n3:Nat} {o:Own} {party:Int} {A:HP} {ps:List (TS×aP)} {wv:List AV} {M:List (List (Int×Nat))} {l:List (Int×Nat)}
theorem AI.up(a:AI B h n o party A ps wv M l)(u:Up h n h' n'):AI B h' n' o party A ps wv M l:=
 ⟨(u.old _ (a.lt _ a.Xa)).trans a.ra,(u.old _ (a.lt _ a.Xl)).trans a.rl,a.gv.up u,a.gw.up u,a.gl.up u,a.mp.on (u.old _ (a.lt _ a.Xk)),a.Xa,a.Xk,a.Xl,a.Xv,a.Xw,a.Xy,λx hx=>Nat.lt_of_lt_of_le (a.lt x hx) u.le,a.ak,a.al,a.kl,a.dv,a.dw,a.dl,
  λx hx=>(a.st x hx).up u,a.len,λi y l h1 h2=>(a.mv i y l h1 h2).up u,a.A.up u,a.nB,Nat.le_trans a.Bn u.le⟩
theorem AI.ZC(a:AI B h n o party A ps wv M l){x:Nat}(hx:o.own x):o.X x:=by
 rcases hx with rfl|rfl|rfl|e|e|e
 .exact a.Xa
 .exact a.Xk
 .exact a.Xl
 .exact a.Xv x e
 .exact a.Xw x e
 .exact a.Xy x e
theorem AI.vC{A':HP}(a:AI B h n o party A ps wv M l)(k:Kp o.X h n A'):AI B h n o party A' ps wv M l:=
 ⟨a.ra,a.rl,a.gv,a.gw,a.gl,a.mp,a.Xa,a.Xk,a.Xl,a.Xv,a.Xw,a.Xy,a.lt,a.ak,a.al,a.kl,a.dv,a.dw,a.dl,a.st,a.len,a.mv,k,a.nB,a.Bn⟩
theorem AI.JU(a:AI B h n o party A ps wv M l){L:Nat}(hX:o.X L)(hL:¬o.own L)(r:AO):AI B (h.set L r) n o party A ps wv M l:=by
 have ne:∀x,o.own x->(h.set L r).get x=h.get x:=λx hx=>ay λe=>hL (by rw[<-e];exact hx);have kp:∀{Y:Nat->Prop}{E:HP},Y L->Kp Y h n E->Kp Y (h.set L r) n E:=λy k=>k.set (.inl y) (Nat.le_refl _);exact⟨(ne _ (.inl rfl)).trans a.ra,(ne _ (.inr (.inr (.inl rfl)))).trans a.rl,a.gv.on (Nat.le_refl _) λx _ hx=>ne x (.inr (.inr (.inr (.inl hx)))),a.gw.on (Nat.le_refl _) λx _ hx=>ne x (.inr (.inr (.inr (.inr (.inl hx))))),a.gl.on (Nat.le_refl _) λx _ hx=>ne x (.inr (.inr (.inr (.inr (.inr hx))))),a.mp.on (ne _ (.inr (.inl rfl))),a.Xa,a.Xk,a.Xl,a.Xv,a.Xw,a.Xy,a.lt,a.ak,a.al,a.kl,a.dv,a.dw,a.dl,
  λx hx=>kp (.inl hX) (a.st x hx),a.len,λi y l h1 h2=>kp (.inl hX) (a.mv i y l h1 h2),kp hX a.A,a.nB,a.Bn⟩
theorem AI.afu(a:AI B h n o party A ps wv M l)(r:AO):AI B (h.set n r) (n+1) {o with X:=λx=>o.X x\/x=n} party A ps wv M l:=by
 have u:Up h n (h.set n r) (n+1):=by exact aH
 have b:=a.up u;have kp:∀{Y:Nat->Prop}{E:HP},Kp Y h n E->Kp (λx=>Y x\/x=n) (h.set n r) (n+1) E:=λ{Y E} k=>
  (k.le λx hx (e:Y x\/x=n)=>e.elim id (by omega)).up u
 have ZE:∀{E:HP},Kp (λx=>o.X x\/x<B) h n E->Kp (λx=>(o.X x\/x=n)\/x<B) (h.set n r) (n+1) E:=λk=>(kp k).le λx _ e=>by
  rcases e with(e|e)|e
  .exact .inl (.inl e)
  .exact .inr e
  .exact .inl (.inr e)
 refine⟨b.ra,b.rl,b.gv,b.gw,b.gl,b.mp,.inl a.Xa,.inl a.Xk,.inl a.Xl,λx hx=>.inl (a.Xv x hx),λx hx=>.inl (a.Xw x hx),λx hx=>.inl (a.Xy x hx),λx hx=>?_,a.ak,a.al,a.kl,a.dv,a.dw,a.dl,λx hx=>ZE (a.st x hx),a.len,λi y l h1 h2=>ZE (a.mv i y l h1 h2),kp a.A,λx hx=>?_,by have:=a.Bn;omega⟩
 .rcases hx with hx|hx
  .have:=a.lt x hx;omega
  .omega
 .have:=a.Bn
  rcases hx with hx|hx
  .exact a.nB x hx
  .omega
theorem AI.pos(a:AI B h n o party A ps wv M l){ob:AO}{tq:TS}{q:aP}{v':AV}(hm:uG (h.set o.kb ob) o.kb AV.s (sO ((ps++[(tq,q)]).map (·.2)) 0))(u:Up (h.set o.kb ob) n h2 n2)(k:Kp (λx=>o.X x\/x<B) h n (λh n=>cZ h n tq q.st))
 (g:Gr h3 n3 45 5 v' xC (ps++[(tq,q)]))(le:n2<=n3)(s:∀x,x<n2->¬blk o.v x->h3.get x=h2.get x)(b:∀x,blk v' x->blk o.v x\/n2<=x):
 h3.get o.ab=some (.row 150 [.i .i64 party,o.v,o.w])/\AI B (h3.set o.ab (.row 150 [.i .i64 party,v',o.w])) n3 {o with v:=v',X:=λx=>o.X x\/blk v' x} party A (ps++[(tq,q)]) wv M l:=by
 have hn:=u.le;have old:∀x,x<n->x≠o.kb->¬blk o.v x->h3.get x=h.get x:=λx hx h1 h2=>by rw[s x (by omega) h2,u.old x hx,ay h1]
 have new:∀x,blk v' x->x<n->blk o.v x:=λx hx hl=>(b x hx).elim id (by omega);have lt:=a.lt;have hA:=a.lt _ a.Xa;have hK:=a.lt _ a.Xk;have hL:=a.lt _ a.Xl;have SQ:∀{Y:Nat->Prop}{E:HP},(∀x,o.X x->Y x)->Kp Y h n E->Kp (λx=>Y x\/blk v' x) (h3.set o.ab (.row 150 [.i .i64 party,v',o.w])) n3 E:=λ{Y E} XY kb=>
  (kb.le λx hx (e:Y x\/blk v' x)=>e.elim id λe=>XY x (a.Xv x (new x e hx))).on (by omega) λx hx e=>by
   have e1:¬o.X x:=λk=>e (.inl (XY x k));rw[ay (λk=>e1 (by rw[k];exact a.Xa)),old x hx (λk=>e1 (by rw[k];exact a.Xk)) λk=>e1 (a.Xv x k)]
 have kp:∀{E:HP},Kp (λx=>o.X x\/x<B) h n E->Kp (λx=>(o.X x\/blk v' x)\/x<B) (h3.set o.ab (.row 150 [.i .i64 party,v',o.w])) n3 E:=λk=>(SQ (λ_ h=>.inl h) k).le λx _ e=>by
  rcases e with(e|e)|e
  .exact .inl (.inl e)
  .exact .inr e
  .exact .inl (.inr e)
 have nB':∀x,o.X x\/blk v' x->B<=x:=λx hx=>by
  have:=a.Bn;rcases hx with e|e
  .exact a.nB x e
  .rcases b x e with e|e
   .exact a.nB x (a.Xv x e)
   .omega
 have Bn':B<=n3:=by have:=a.Bn;omega
 have blw:∀x,blk o.w x->x<n:=λx hx=>a.lt x (a.Xw x hx);have bll:∀x,blk o.lv x->x<n:=λx hx=>a.lt x (a.Xy x hx);have ne:∀x,blk v' x->x≠o.ab/\x≠o.kb/\x≠o.lb/\¬blk o.w x/\¬blk o.lv x:=λx hx=>by
  rcases b x hx with e|e
  .exact a.dv x e
  .exact⟨by omega,by omega,by omega,λk=>by have:=blw x k;omega,λk=>by have:=bll x k;omega⟩
 have dva:∀x,x=o.ab\/x=o.kb\/x=o.lb->¬blk o.v x:=λx hx k=>by
  obtain⟨h1,h2,h3,_⟩:=a.dv x k;rcases hx with e|e|e<;>contradiction
 refine⟨(old _ hA a.ak (dva _ (.inl rfl))).trans a.ra,⟨aG,?_,?_,?_,?_,?_,.inl a.Xa,.inl a.Xk,.inl a.Xl,λx hx=>.inr hx,λx hx=>.inl (a.Xw x hx),λx hx=>.inl (a.Xy x hx),λx hx=>?_,a.ak,a.al,a.kl,ne,a.dw,a.dl,λx hx=>?_,a.len,λi y l h1 h2=>kp (a.mv i y l h1 h2),SQ (λ_ h=>h) a.A,nB',Bn'⟩⟩
 .show Tr.get _ o.lb=_
  rw[ay (Ne.symm a.al),old _ hL (Ne.symm a.kl) (dva _ (.inr (.inr rfl)))];exact a.rl
 .exact g.on (Nat.le_refl _) λx _ hx=>ay (ne x hx).1
 .exact a.gw.on (by omega) λx hx hb=>by
   rw[ay (a.dw x hb).1,old x hx (a.dw x hb).2.1 λk=>(a.dv x k).2.2.2.1 hb]
 .exact a.gl.on (by omega) λx hx hb=>by
   rw[ay (a.dl x hb).1,old x hx (a.dl x hb).2.1 λk=>(a.dv x k).2.2.2.2 hb]
 .exact hm.on (by rw[ay (Ne.symm a.ak),s _ (by omega) (dva _ (.inr (.inl rfl))),u.old _ hK])
 .rcases hx with hx|hx
  .have:=a.lt x hx;omega
  .have:=g.fF hx;exact this
 .rcases List.mem_append.1 hx with hx|hx
  .exact kp (a.st x hx)
  .simp at hx;subst hx;exact kp k
theorem AI.move(a:AI B h n o party A ps wv M l){m:Int}{j:Nat}{v':AV}(u:Up h n h2 n2)(g:Gr h3 n3 223 2 v' WJ (l++[(m,j)]))(le:n2<=n3)(s:∀x,x<n2->¬blk o.lv x->h3.get x=h2.get x)(b:∀x,blk v' x->blk o.lv x\/n2<=x):
 h3.get o.lb=some (.row 221 [o.lv])/\AI B (h3.set o.lb (.row 221 [v'])) n3 {o with lv:=v',X:=λx=>o.X x\/blk v' x} party A ps wv M (l++[(m,j)]):=by
 have hn:=u.le;have old:∀x,x<n->¬blk o.lv x->h3.get x=h.get x:=λx hx h2=>by rw[s x (by omega) h2,u.old x hx]
 have new:∀x,blk v' x->x<n->blk o.lv x:=λx hx hl=>(b x hx).elim id (by omega);have hA:=a.lt _ a.Xa;have hK:=a.lt _ a.Xk;have hL:=a.lt _ a.Xl;have SQ:∀{Y:Nat->Prop}{E:HP},(∀x,o.X x->Y x)->Kp Y h n E->Kp (λx=>Y x\/blk v' x) (h3.set o.lb (.row 221 [v'])) n3 E:=λ{Y E} XY kb=>
  (kb.le λx hx (e:Y x\/blk v' x)=>e.elim id λe=>XY x (a.Xy x (new x e hx))).on (by omega) λx hx e=>by
   have e1:¬o.X x:=λk=>e (.inl (XY x k));rw[ay (λk=>e1 (by rw[k];exact a.Xl)),old x hx λk=>e1 (a.Xy x k)]
 have kp:∀{E:HP},Kp (λx=>o.X x\/x<B) h n E->Kp (λx=>(o.X x\/blk v' x)\/x<B) (h3.set o.lb (.row 221 [v'])) n3 E:=λk=>(SQ (λ_ h=>.inl h) k).le λx _ e=>by
  rcases e with(e|e)|e
  .exact .inl (.inl e)
  .exact .inr e
  .exact .inl (.inr e)
 have nB':∀x,o.X x\/blk v' x->B<=x:=λx hx=>by
  have:=a.Bn;rcases hx with e|e
  .exact a.nB x e
  .rcases b x e with e|e
   .exact a.nB x (a.Xy x e)
   .omega
 have Bn':B<=n3:=by have:=a.Bn;omega
 have blw:∀x,blk o.w x->x<n:=λx hx=>a.lt x (a.Xw x hx);have blv:∀x,blk o.v x->x<n:=λx hx=>a.lt x (a.Xv x hx);have ne:∀x,blk v' x->x≠o.ab/\x≠o.kb/\x≠o.lb:=λx hx=>by
  rcases b x hx with e|e
  .exact a.dl x e
  .exact⟨by omega,by omega,by omega⟩
 have nw:∀x,blk o.w x->¬blk v' x:=λx hx k=>by
  rcases b x k with e|e
  .exact(a.dw x hx).2.2.2 e
  .have:=blw x hx;omega
 have nv:∀x,blk o.v x->¬blk v' x:=λx hx k=>by
  rcases b x k with e|e
  .exact(a.dv x hx).2.2.2.2 e
  .have:=blv x hx;omega
 have dla:∀x,x=o.ab\/x=o.kb\/x=o.lb->¬blk o.lv x:=λx hx k=>by
  obtain⟨h1,h2,h3⟩:=a.dl x k;rcases hx with e|e|e<;>contradiction
 refine⟨(old _ hL (dla _ (.inr (.inr rfl)))).trans a.rl,⟨?_,aG,?_,?_,?_,?_,.inl a.Xa,.inl a.Xk,.inl a.Xl,λx hx=>.inl (a.Xv x hx),λx hx=>.inl (a.Xw x hx),λx hx=>.inr hx,λx hx=>?_,a.ak,a.al,a.kl,λx hx=>?_,λx hx=>?_,ne,λx hx=>kp (a.st x hx),a.len,λi y l h1 h2=>kp (a.mv i y l h1 h2),SQ (λ_ h=>h) a.A,nB',Bn'⟩⟩
 .show Tr.get _ o.ab=_
  rw[ay a.al,old _ hA (dla _ (.inl rfl))];exact a.ra
 .exact a.gv.on (by omega) λx hx hb=>by
   rw[ay (a.dv x hb).2.2.1,old x hx (a.dv x hb).2.2.2.2]
 .exact a.gw.on (by omega) λx hx hb=>by
   rw[ay (a.dw x hb).2.2.1,old x hx (a.dw x hb).2.2.2]
 .exact g.on (Nat.le_refl _) λx _ hx=>ay (ne x hx).2.2
 .exact a.mp.on (by rw[ay a.kl,old _ hK (dla _ (.inr (.inl rfl)))])
 .rcases hx with hx|hx
  .have:=a.lt x hx;omega
  .exact g.fF hx
 .obtain⟨h1,h2,h3,h4,h5⟩:=a.dv x hx
  exact⟨h1,h2,h3,h4,nv x hx⟩
 .obtain⟨h1,h2,h3,h4⟩:=a.dw x hx
  exact⟨h1,h2,h3,nw x hx⟩
theorem AI.row(a:AI B h n o party A ps wv M l){v':AV}(u:Up h n h2 n2)(g:Gr h3 n3 221 1 v' one (wv++[o.lv]))(le:n2<=n3)(s:∀x,x<n2->¬blk o.w x->h3.get x=h2.get x)(b:∀x,blk v' x->blk o.w x\/n2<=x):
 h3.get o.ab=some (.row 150 [.i .i64 party,o.v,o.w])/\AP B (h3.set o.ab (.row 150 [.i .i64 party,o.v,v'])) n3 o.ab o.kb o.v v' (λx=>(o.X x/\¬blk o.lv x)\/blk v' x) party A ps (wv++[o.lv]) (M++[l]):=by
 have hn:=u.le;have old:∀x,x<n->¬blk o.w x->h3.get x=h.get x:=λx hx h2=>by rw[s x (by omega) h2,u.old x hx]
 have new:∀x,blk v' x->x<n->blk o.w x:=λx hx hl=>(b x hx).elim id (by omega);have hA:=a.lt _ a.Xa;have hK:=a.lt _ a.Xk;have blv:∀x,blk o.v x->x<n:=λx hx=>a.lt x (a.Xv x hx);have bll:∀x,blk o.lv x->x<n:=λx hx=>a.lt x (a.Xy x hx);have ne:∀x,blk v' x->x≠o.ab/\x≠o.kb/\¬blk o.v x/\¬blk o.lv x:=λx hx=>by
  rcases b x hx with e|e
  .obtain⟨h1,h2,h3,h4⟩:=a.dw x e
   exact⟨h1,h2,λk=>(a.dv x k).2.2.2.1 e,h4⟩
  .exact⟨by omega,by omega,λk=>by have:=blv x k;omega,λk=>by have:=bll x k;omega⟩
 have SQ:∀{Y:Nat->Prop}{E:HP},(∀x,o.X x->Y x)->Kp Y h n E->Kp (λx=>(Y x/\¬blk o.lv x)\/blk v' x) (h3.set o.ab (.row 150 [.i .i64 party,o.v,v'])) n3 E:=λ{Y E} XY kb=>
  (kb.le λx hx (e:(Y x/\¬blk o.lv x)\/blk v' x)=>e.elim (·.1) λe=>XY x (a.Xw x (new x e hx))).on (by omega) λx hx e=>by
   have e2:x≠o.ab:=λk=>e (.inl ⟨XY x (by rw[k];exact a.Xa),λk2=>(a.dl x k2).1 k⟩);rw[ay e2,old x hx λk=>e (.inl ⟨XY x (a.Xw x k),(a.dw x k).2.2.2⟩)]
 have perm:∀{E:HP}{h n},Kp (λx=>((o.X x\/x<B)/\¬blk o.lv x)\/blk v' x) h n E->Kp (λx=>((o.X x/\¬blk o.lv x)\/blk v' x)\/x<B) h n E:=λk=>k.le λx _ e=>by
  rcases e with(⟨e,e2⟩|e)|e
  .exact .inl ⟨.inl e,e2⟩
  .exact .inr e
  .exact .inl ⟨.inr e,λk=>by have:=a.nB x (a.Xy x k);omega⟩
 have kp:∀{E:HP},Kp (λx=>o.X x\/x<B) h n E->Kp (λx=>((o.X x/\¬blk o.lv x)\/blk v' x)\/x<B) (h3.set o.ab (.row 150 [.i .i64 party,o.v,v'])) n3 E:=λk=>perm (SQ (λ_ h=>.inl h) k);have dwa:∀x,x=o.ab\/x=o.kb->¬blk o.w x:=λx hx k=>by
  obtain⟨h1,h2,_⟩:=a.dw x k;rcases hx with e|e<;>contradiction
 refine⟨(old _ hA (dwa _ (.inl rfl))).trans a.ra,⟨aG,?_,?_,?_,.inl ⟨a.Xa,λk=>(a.dl _ k).1 rfl⟩,.inl ⟨a.Xk,λk=>(a.dl _ k).2.1 rfl⟩,λx hx=>.inl ⟨a.Xv x hx,(a.dv x hx).2.2.2.2⟩,λx hx=>.inr hx,λx hx=>?_,a.ak,λx hx=>?_,λx hx=>⟨(ne x hx).1,(ne x hx).2.1⟩,λx hx=>kp (a.st x hx),by simp[a.len],λi y l1 h1 h2=>?_,SQ (λ_ h=>h) a.A,λx hx=>?_,by have:=a.Bn;omega⟩⟩
 .exact a.gv.on (by omega) λx hx hb=>by
   rw[ay (a.dv x hb).1,old x hx (a.dv x hb).2.2.2.1]
 .exact g.on (Nat.le_refl _) λx _ hx=>ay (ne x hx).1
 .exact a.mp.on (by rw[ay (Ne.symm a.ak),old _ hK (dwa _ (.inr rfl))])
 .rcases hx with hx|hx
  .have:=a.lt x hx.1;omega
  .exact g.fF hx
 .obtain⟨h1,h2,_,_,h5⟩:=a.dv x hx
  exact⟨h1,h2,λk=>(ne x k).2.2.1 hx⟩
 .have hlen:=a.len
  by_cases hi:i<wv.length
  .rw[List.getElem?_append_left hi]at h1
   rw[List.getElem?_append_left (by omega)]at h2;exact kp (a.mv i y l1 h1 h2)
  .have hi2:i<(wv++[o.lv]).length:=(List.getElem?_eq_some_iff.1 h1).1
   obtain rfl:i=wv.length:=by simp at hi2;omega
   rw[List.getElem?_append_right (Nat.le_refl _)]at h1;rw[List.getElem?_append_right (by omega),hlen]at h2;simp at h1 h2;subst h1;subst h2;have gl':Gr (h3.set o.ab (.row 150 [.i .i64 party,o.v,v'])) n3 223 2 o.lv WJ l:=a.gl.on (by omega) λx hx hb=>by
    rw[ay (a.dl x hb).1,old x hx λk=>(a.dw x k).2.2.2 hb]
   refine gl'.sl.kp λx hx e=>?_;rcases e with(⟨_,e⟩|e)|e
   .exact e hx
   .exact(ne x e).2.2.2 hx
   .have:=a.nB x (a.Xy x hx);omega
 .have:=a.Bn
  rcases hx with hx|hx
  .exact a.nB x hx.1
  .rcases b x hx with e|e
   .exact a.nB x (a.Xw x e)
   .omega
end
section
variable {B:Nat} {h h':AH} {n n' ab kb:Nat} {v w:AV} {X:Nat->Prop} {party:Int} {A:HP} {ps:List (TS×aP)} {wv:List AV} {M:List (List (Int×Nat))}
theorem AP.up(a:AP B h n ab kb v w X party A ps wv M)(u:Up h n h' n'):AP B h' n' ab kb v w X party A ps wv M:=
 ⟨(u.old _ (a.lt _ a.Xa)).trans a.ra,a.gv.up u,a.gw.up u,a.mp.on (u.old _ (a.lt _ a.Xk)),a.Xa,a.Xk,a.Xv,a.Xw,λx hx=>Nat.lt_of_lt_of_le (a.lt x hx) u.le,a.ak,a.dv,a.dw,
  λx hx=>(a.st x hx).up u,a.len,λi y l h1 h2=>(a.mv i y l h1 h2).up u,a.A.up u,a.nB,Nat.le_trans a.Bn u.le⟩
theorem AP.vC{A':HP}(a:AP B h n ab kb v w X party A ps wv M)(k:∀h n,A h n->A' h n):AP B h n ab kb v w X party A' ps wv M:=
 ⟨a.ra,a.gv,a.gw,a.mp,a.Xa,a.Xk,a.Xv,a.Xw,a.lt,a.ak,a.dv,a.dw,a.st,a.len,a.mv,a.A.wk k,a.nB,a.Bn⟩
theorem AP.start(a:AP B h n ab kb v w X party A ps wv M):AI B (h.set n (.row 221 [.k 1])) (n+1) ⟨ab,kb,n,v,w,.k 1,λx=>X x\/x=n⟩ party A ps wv M []:=by
 have u:Up h n (h.set n (.row 221 [.k 1])) (n+1):=by exact aH
 have hlt:=a.lt;have hA:=a.lt _ a.Xa;have hK:=a.lt _ a.Xk;have kp:∀{Y:Nat->Prop}{E:HP},Kp Y h n E->Kp (λx=>Y x\/x=n) (h.set n (.row 221 [.k 1])) (n+1) E:=λ{Y E} k=>
  (k.le λx hx (e:Y x\/x=n)=>e.elim id (by omega)).up u
 have ZE:∀{E:HP},Kp (λx=>X x\/x<B) h n E->Kp (λx=>(X x\/x=n)\/x<B) (h.set n (.row 221 [.k 1])) (n+1) E:=λk=>(kp k).le λx _ e=>by
  rcases e with(e|e)|e
  .exact .inl (.inl e)
  .exact .inr e
  .exact .inl (.inr e)
 have b:=a.up u;refine⟨b.ra,aG,b.gv,b.gw,Gr.nil λ_=>rfl,b.mp,.inl a.Xa,.inl a.Xk,.inr rfl,λx hx=>.inl (a.Xv x hx),λx hx=>.inl (a.Xw x hx),λx hx=>absurd hx eX,λx hx=>?_,a.ak,by show ab≠n;omega,by show kb≠n;omega,λx hx=>?_,λx hx=>?_,λx hx=>absurd hx eX,λx hx=>ZE (a.st x hx),a.len,λi y l h1 h2=>ZE (a.mv i y l h1 h2),kp a.A,λx hx=>?_,by have:=a.Bn;omega⟩
 .rcases hx with hx|hx
  .have:=a.lt x hx;omega
  .omega
 .obtain⟨h1,h2,h3⟩:=a.dv x hx
  have:=a.lt x (a.Xv x hx);exact⟨h1,h2,by show x≠n;omega,h3,eX⟩
 .obtain⟨h1,h2⟩:=a.dw x hx
  have:=a.lt x (a.Xw x hx);exact⟨h1,h2,by show x≠n;omega,eX⟩
 .have:=a.Bn
  rcases hx with hx|hx
  .exact a.nB x hx
  .omega
theorem AP.fin(a:AP B h n ab kb v w X party A ps wv M):Kp (λx=>x<B) h n (λh n=>qW h n v w ps wv M):=λh' n' h1 h2=>by
 have wk:∀{E:HP},Kp (λx=>X x\/x<B) h n E->E h' n':=λk=>(k.le λx _ e=>.inr e) h' n' h1 h2;have kv:Kp (λx=>x<B) h n (λh n=>SL h n 5 v xC ps):=a.gv.sl.kp λx hx=>by have:=a.nB x (a.Xv x hx);omega
 have kw:Kp (λx=>x<B) h n (λh n=>SL h n 1 w one wv):=a.gw.sl.kp λx hx=>by have:=a.nB x (a.Xw x hx);omega
 exact⟨kv h' n' h1 h2,λx hx=>wk (a.st x hx),kw h' n' h1 h2,a.len,λi y l e1 e2=>wk (a.mv i y l e1 e2)⟩
end
end
end
section
noncomputable section
theorem Nw:MN Tryz.prog 9 (AV.s):=by
 refine⟨λa b=>⟨qN a b,by kernel_rfl,by rw[iX];simp⟩,λa=>by kernel_rfl,λa=>rfl⟩
section
variable {B:Nat} {h h':AH} {n n':Nat} {o:Own} {v:CS} {C:aA} {p:aP} {party:Int} {A:HP} {ps:List (TS×aP)} {wv:List AV} {M:List (List (Int×Nat))} {l:List (Int×Nat)} {Q:PQ}
theorem Ny(K:Nat){mb rb eb:Nat}{tq:TS}{q:aP}{m:Int}{F:Fm}{g:FuncId}(a:AI B h n o party A ps wv M l)(hA:∀h n,A h n->h.get mb=some (.row 230 [.m o.kb])/\mb<n/\h.get rb=some (.row 150 [.i .i64 0,.k 1,.k 1])/\rb<n/\h.get eb=some (.row 31 [.i .i64 0])/\eb<n)
 (kq:Kp (λx=>o.X x\/x<B) h n (λh n=>cZ h n tq q.st))(hq:aK C q.st)(hps:∀x∈ps,aK C x.2.st)(nps:ps.length<=1500)(nl:l.length<=100000)
 (f6:lk F 6=some (.p rb 0))(f7:lk F 7=some (.p eb 0))(f8:lk F 8=some (.p o.ab 0))(f9:lk F 9=some (.p mb 0))(f11:lk F 11=some (.p o.lb 0))(f12:lk F 12=some (.i .i64 m))(f13:∃b,lk F 13=some (.p b 0)/\h.get b=some (.row 45 (tq.pv q))/\b<n/\¬o.X b)
 (hR:∀o' ps' j h' n' F',AI B h' n' o' party A ps' wv M (l++[(m,j)])->o'.ab=o.ab->o'.kb=o.kb->o'.lb=o.lb->(ps'=ps\/(q∉ps.map (·.2)/\ps.length≠1500/\ps'=ps++[(tq,q)]))->(ps'.map (·.2))[j]?=some q->n<=n'->(∀x,x<n->¬o.own x->h'.get x=h.get x)->(∀x,o.X x->o'.X x)->(∀x,o'.own x->o.own x\/n<=x)->Q .bW h' n' F')
 (hE:q∉ps.map (·.2)->ps.length=1500->∀h' n' F',n<=n'->h'.get rb=some (.row 150 [.i .i64 0,.k 1,.k 1])->h'.get eb=some (.row 31 [.i .i64 3])->(∀x,x<n->x≠rb->x≠eb->h'.get x=h.get x)->Q .ret h' n' F')(heb:¬o.X eb)(hrb:¬o.X rb)(afC:rb≠eb):sK Tryz.prog (yl Tryz.prog sl0 19) g 100000 [.c Gf] .bW (EF (K+6)) h n F Q:=by
 obtain⟨b13,f13,wS,n13,x13⟩:=f13;simp (disch:=omega) only[go_sem,simprocAttr,Gf,f13,wS];rw[aU];refine IG K kq.use (hq.pb q.own) λh2 n2 u2=>?_;have a2:=a.up u2;have kq2:=kq.up u2;have e2:=u2.le;have wS:=(u2.old b13 n13).trans wS;obtain⟨c1,c2,c3,c4,c5,c6⟩:=hA _ _ a2.A.use;have ra:=a2.ra;have rl:=a2.rl;have JV:=a2.mp.look (k:=oC q) Nw (z:=some (.i .i64 0)) (ok:=true) rfl;have Vl:∀x∈ps.map (·.2),aK C x.st:=λx hx=>by
  obtain⟨y,hy,rfl⟩:=List.mem_map.1 hx;exact hps y hy
 cases hk:nM (sO (ps.map (·.2)) 0) (oC q)with
 |some w=>
  obtain⟨j,hj,rfl⟩:=Ns hq Vl hk;rw[hk]at JV;simp only[bF,Nat.zero_add]at JV;simp (disch:=omega) only[go_sem,simprocAttr,fQ,f9,f11,f12,c1,JV,rl];refine jm (l2:=[(m,j)]) (a2.gl.up aH) ⟨rfl,?_⟩ (by simp;omega) λv' h4 n4 g4 l4 s4 b4=>?_
  .show bnd (iA (Tr.get _ _) 0 _) (λr=>lQ (Nat.mul 1 2) r)=_
   rw[aG];rfl
  obtain⟨q1,q2⟩:=a2.move (show Up _ _ _ _ by exact aH) g4 l4 s4 b4;simp (disch:=omega) only[go_sem,simprocAttr,fQ,f11,q1,g4.cl];refine hR _ ps j _ _ _ q2 rfl rfl rfl (.inl rfl) hj (by omega) (λx hx hX=>?_) (λx hx=>.inl hx) λx hx=>?_
  .rw[ay (λe=>hX (.inr (.inr (.inl e)))),s4 x (by omega) (λe=>hX (.inr (.inr (.inr (.inr (.inr e)))))),ay (by omega),u2.old x hx]
  .rcases hx with e|e|e|e|e|e
   .exact .inl (.inl e)
   .exact .inl (.inr (.inl e))
   .exact .inl (.inr (.inr (.inl e)))
   .exact .inl (.inr (.inr (.inr (.inl e))))
   .exact .inl (.inr (.inr (.inr (.inr (.inl e)))))
   .rcases b4 x e with e|e
    .exact .inl (.inr (.inr (.inr (.inr (.inr e)))))
    .exact .inr (by omega)
 |none=>
  have hnew:=Nt hk;rw[hk]at JV;simp only[bF,Nat.zero_add]at JV;simp (disch:=omega) only[go_sem,simprocAttr,fQ,f9,c1,JV,f8,ra,a2.gv.len];by_cases SN:ps.length=1500
  .rw[decide_eq_true (by omega)]
   simp (disch:=omega) only[go_sem,simprocAttr,fQ,f6,f7,c3,c5];refine hE hnew SN _ _ _ e2 ?_ ?_ λx hx h1 h2=>?_
   .rw[ay afC,aG]
   .rw[aG]
   .rw[ay h2,ay h1,u2.old x hx]
  .rw[decide_eq_false (by omega)]
   obtain⟨ob,m1,m2⟩:=a2.mp.put (k:=oC q) (n:=n2) Nw (.i .i64 (ps.length:Nat));rw[Nu hk]at m2;have hmap:sO (ps.map (·.2)) 0++[(oC q,AV.i .i64 (ps.length:Nat))]=sO ((ps++[(tq,q)]).map (·.2)) 0:=by rw[List.map_append,List.map_cons,List.map_nil,Nv];simp
   rw[hmap]at m2;have hXa:=a2.ak;have al1:b13≠o.kb:=λe=>x13 (by rw[e];exact a.Xk);simp (disch:=omega) only[go_sem,simprocAttr,fQ,f9,c1,m1,f8,f13,ra,wS];have gk:=a2.gv.on (h':=h2.set o.kb ob) (Nat.le_refl _) λx _ hx=>ay (a2.dv x hx).2.1;refine jm (l2:=[(tq,q)]) (gk.up aH) ⟨rfl,?_⟩ (by simp;omega) λv5 h5 n5 g5 l5 s5 b5=>?_
   .show bnd (iA (Tr.get _ _) 0 _) (λr=>lQ (Nat.mul 1 5) r)=_
    rw[aG];rfl
   obtain⟨q3,a5⟩:=a2.pos m2 (show Up (h2.set o.kb ob) n2 _ (n2+1) by exact aH) kq2 g5 l5 s5 b5;have rl5:=a5.rl;simp (disch:=omega) only[go_sem,simprocAttr,fQ,f8,q3,g5.cl,f11,f12,rl5];refine jm (l2:=[(m,ps.length)]) (a5.gl.up aH) ⟨rfl,?_⟩ (by simp;omega) λv' h4 n4 g4 l4 s4 b4=>?_
   .show bnd (iA (Tr.get _ _) 0 _) (λr=>lQ (Nat.mul 1 2) r)=_
    rw[aG];rfl
   obtain⟨q1,q2⟩:=a5.move (show Up _ _ _ _ by exact aH) g4 l4 s4 b4;simp (disch:=omega) only[go_sem,simprocAttr,fQ,f11,q1,g4.cl];refine hR _ (ps++[(tq,q)]) ps.length _ _ _ q2 rfl rfl rfl (.inr ⟨hnew,SN,rfl⟩) ?_ (by omega) (λx hx hX=>?_) (λx hx=>.inl (.inl hx)) λx hx=>?_
   .rw[List.map_append,List.getElem?_append_right (by simp)];simp
   .rw[ay (λe=>hX (.inr (.inr (.inl e)))),s4 x (by omega) (λe=>hX (.inr (.inr (.inr (.inr (.inr e)))))),ay (by omega),ay (λe=>hX (.inl e)),s5 x (by omega) (λe=>hX (.inr (.inr (.inr (.inl e))))),ay (by omega),ay (λe=>hX (.inr (.inl e))),u2.old x hx]
   .rcases hx with e|e|e|e|e|e
    .exact .inl (.inl e)
    .exact .inl (.inr (.inl e))
    .exact .inl (.inr (.inr (.inl e)))
    .rcases b5 x e with e|e
     .exact .inl (.inr (.inr (.inr (.inl e))))
     .exact .inr (by omega)
    .exact .inl (.inr (.inr (.inr (.inr (.inl e)))))
    .rcases b4 x e with e|e
     .exact .inl (.inr (.inr (.inr (.inr (.inr e)))))
     .exact .inr (by omega)
end
end
end
noncomputable section
section
variable {B:Nat} {h h':AH} {n n':Nat} {o:Own} {v:CS} {C:aA} {tv:TS} {p:aP} {party:Int} {A:HP} {ps:List (TS×aP)} {wv:List AV} {M:List (List (Int×Nat))} {l:List (Int×Nat)} {Q:AV->AH->Nat->Prop}
theorem uN(C:aA)(party:Int)(q:aP):(C.kJ party q).length<=C.acts.length+2:=by
 have h1:∀n,(C.mJ party q n).length<=n:=λn=>by
  unfold aA.mJ;rw[List.length_map];exact Nat.le_trans (List.length_filter_le _ _) (by simp)
 have h2:(C.mI q).length<=2:=by
  unfold aA.mI;rw[List.length_append];split<;>split<;>simp
 unfold aA.kJ;rw[List.length_append];split
 .have:=h1 C.acts.length;omega
 .simp;omega
def EI:AV:=.agg [.i .i64 0,.k 1,.k 1]
def ZF(C:aA)(party:Int)(p:aP)(h:AH)(n:Nat)(Q:AV->AH->Nat->Prop):Prop:=
 (¬(0<=party/\party<C.aC/\aK C p.st)->∀h' n',Up h n h' n'->Q (.bN [EI,.i .i64 1]) h' n')/\
 (0<=party->party<C.aC->aK C p.st->gL C party p->∀h' n',Up h n h' n'->Q (.bN [EI,.i .i64 3]) h' n')/\
 (0<=party->party<C.aC->aK C p.st->∀ps wv M v w h' n',bV C party p (ps.map (·.2)) M->Up h n h' n'->Kp (λx=>x<n) h' n' (λh n=>qW h n v w ps wv M)->Q (.bN [.agg [.i .i64 party,v,w],.i .i64 0]) h' n')
structure FA(n0:Nat)(kb mb:Nat)(v:CS)(C:aA)(h:AH)(n:Nat):Prop where
 rmb:h.get mb=some (.row 230 [.m kb])
 KU:mb<n
 ZG:h.get (n0+1+1)=some (.row 150 [.i .i64 0,.k 1,.k 1])
 JW:n0+1+1<n
 ZH:h.get (n0+1+1+1)=some (.row 31 [.i .i64 0])
 ebn:n0+1+1+1<n
 rcb:h.get n0=some (.row 27 (v.av C))
 con:aZ h n v C
def FI(h:AH)(v:CS)(C:aA)(party:Int)(p:aP)(n n1 kb mb:Nat)(m:Nat)(h8:AH)(n8:Nat)(F:Fm):Prop:=∃(ps:List (TS×aP))(wv:List AV)(M:List (List (Int×Nat)))(vv ww:AV)(X:Nat->Prop),AP (n+4) h8 n8 (n1+1) kb vv ww X party (λh m=>FA n kb mb v C h m) ps wv M/\EH C party p (ps.map (·.2)) M/\M.length+m=1500/\Up h n h8 n8/\F=[(1,.i .i64 party),(3,.p n 0),(6,.p (n+1+1) 0),(7,.p (n+1+1+1) 0),(8,.p (n1+1) 0),(9,.p mb 0),(10,.i .i64 (M.length:Nat))]
structure IB(pb cb tb:Nat)(v:CS)(C:aA)(party:Int)(q:TS×aP)(h:AH)(n:Nat):Prop where
 p:h.get pb=some (.row 45 (q.1.pv q.2))
 c:h.get cb=some (.row 27 (v.av C))
 t:h.get tb=some (.row 3 [.i .i64 party])
 pn:pb<n
 cn:cb<n
 tn:tb<n
def WK(st:LoopState)(pd:Option Code)(t:Tr AV):AO:=.lp st pd 74 t [51,52] (jF 74 0) (jG 74 0)
def FJ(h:AH)(v:CS)(C:aA)(party:Int)(p:aP)(n n1 kb mb lb L pb cb tb i:Nat)(q:TS×aP)(t:Tr AV)(M:List (List (Int×Nat)))(hJ:AH)(nJ:Nat)(done:List (Int×aP)):Prop:=
 ∃(o:Own)(ps:List (TS×aP))(wv:List AV)(l:List (Int×Nat)),AI (n+4) hJ nJ o party (λh m=>FA n kb mb v C h m/\IB pb cb tb v C party q h m) ps wv M l/\o.ab=n1+1/\o.kb=kb/\o.lb=lb/\o.X L/\¬o.own L/\hJ.get L=some (WK .ready none t)/\
  EH C party p (ps.map (·.2)) M/\Row (ps.map (·.2)) l done/\ps[i]?=some q/\Up h n hJ nJ
def FE(h:AH)(C:aA)(party:Int)(p:aP)(n L:Nat)(t:Tr AV)(hJ:AH)(nJ:Nat):Prop:=gL C party p/\hJ.get (n+1+1)=some (.row 150 [.i .i64 0,.k 1,.k 1])/\hJ.get (n+1+1+1)=some (.row 31 [.i .i64 3])/\hJ.get L=some (WK .done (some .ret) t)/\n+4<=L/\Up h n hJ nJ
theorem Cy(K:Nat)(hC:aZ h n v C)(ho:C.off.length<=1000000)(hS:cZ h n tv p.st)(hQ:ZF C party p h n Q):CW (EF (K+10)) 74 [.agg (v.av C),.i .i64 party,.agg (tv.pv p)] h n Q:=by
 obtain⟨kD,rQ,Iz⟩:=hQ;refine aD c74 rfl ?_;repeat' (first|(simp (disch:=omega) only[go_sem,simprocAttr,ub.old,m74,CS.av,TS.pv])|(simp (disch:=omega) only[go_sem,simprocAttr,m74,CS.av,TS.pv])|(refine aR ?_ ?_<;>(intro hb hd;rw[hb];clear hb))|(with_reducible refine aj ?_))
 rw[aU];refine El _ (hC.up aH) ho (hS.up aH) λh1 n1 u1=>?_;have e1:=u1.le;cases hp:(decide (0<=party)&&decide (party<C.aC)&&C.dP p.st)with
 |false=>
  have hn:¬(0<=party/\party<C.aC/\aK C p.st):=λ⟨a,b,c⟩=>by
   rw[decide_eq_true a,decide_eq_true b,(eF C p.st).2 c]at hp;cases hp
  repeat' (first|(simp (disch:=omega) only[go_sem,simprocAttr,ub.old,hp,u1.old])|(simp (disch:=omega) only[go_sem,simprocAttr,hp,u1.old])|(refine aR ?_ ?_<;>(intro hb hd;rw[hb];clear hb))|(with_reducible refine aj ?_))
  exact kD hn _ _ aH
 |true=>
  simp only[Bool.and_eq_true,decide_eq_true_eq]at hp;obtain⟨⟨hp0,hp1⟩,hp2⟩:=hp;have ok:=(eF C p.st).1 hp2;have ok1:=aA.ok ok.con;have:=ok.lh;have:=ok.lu;have:=ok.lm;have:=ok1.dQ;have:=ok1.kg;have:=ok1.j_;have r0:h1.get n=some (.row 27 (v.av C)):=by rw[u1.old n (by omega)];simp (disch:=omega) only[go_sem]
  have r1:h1.get (n+1)=some (.row 45 (tv.pv p)):=by rw[u1.old _ (by omega)];simp (disch:=omega) only[go_sem]
  have r2:h1.get (n+1+1)=some (.row 150 [.i .i64 0,.k 1,.k 1]):=by rw[u1.old _ (by omega)];simp (disch:=omega) only[go_sem]
  have r3:h1.get (n+1+1+1)=some (.row 31 [.i .i64 0]):=by rw[u1.old _ (by omega)];simp (disch:=omega) only[go_sem]
  have ux:Up h n h1 n1:=by exact aH
  have kC:Kp (λx=>n+4<=x) h1 n1 (λh n=>aZ h n v C):=Kp.up (n:=n+1+1+1+1) (Kp.MK (λh' n' u=>hC.up (Up.trans aH u)) λx hx=>hx) u1;have kS:Kp (λx=>n+4<=x) h1 n1 (λh n=>cZ h n tv p.st):=Kp.up (n:=n+1+1+1+1) (Kp.MK (λh' n' u=>hS.up (Up.trans aH u)) λx hx=>hx) u1;clear u1;repeat' (first|(simp (disch:=omega) only[go_sem,simprocAttr,ub.old,r1,CS.av,TS.pv])|(simp (disch:=omega) only[go_sem,simprocAttr,r1,CS.av,TS.pv])|(refine aR ?_ ?_<;>(intro hb hd;rw[hb];clear hb))|(with_reducible refine aj ?_))
  rw[bQ];refine AB _ (kS.up (show Up h1 n1 h1 (n1+3) by exact aH)).use (by omega) (by omega) (by omega) λZI h2 n2 u2 k2=>?_;have e2:=u2.le;have q1:=(u2.old (n+1) (by omega)).trans r1;simp (disch:=omega) only[go_sem,simprocAttr,q1,r1,TS.pv,TS.av];generalize hh:Tr.set (Tr.set (Tr.set (Tr.set h2 n1 _) (n1+1) _) (n1+1) _) n2 _=h3;have u3:Up h1 n1 h3 (n2+1):=by rw[<-hh];exact aH
  have g1:h3.get n1=some (.row 45 (ZI.pv p)):=by rw[<-hh];simp (disch:=omega) only[go_sem]
  have g2:h3.get (n1+1)=some (.row 150 [.i .i64 party,.sl n1 0 0 1 (some 1),.k 1]):=by rw[<-hh];simp (disch:=omega) only[go_sem]
  have g3:uG h3 n2 AV.s []:=by rw[<-hh];exact uG.new _
  have k3:Kp (λx=>x<n1+3\/x=n2) h3 (n2+1) (λh n=>cZ h n ZI p.st):=by
   rw[<-hh];have k2':=k2.le (Y:=λx=>x<n1+3\/x=n2) λx hx e=>by rcases e with e|e<;>omega
   exact((((k2'.set (.inl (.inl (by omega))) (Nat.le_refl _)).set (.inl (.inl (by omega))) (Nat.le_refl _)).set (.inl (.inl (by omega))) (Nat.le_refl _)).set (.inl (.inr rfl)) (Nat.le_succ _))
  clear hh;rw[aU];refine IG _ (kS.up u3).use (ok.pb p.own) λh4 n4 u4=>?_;have e4:=u4.le;obtain⟨ob,m1,m2⟩:=(g3.on (u4.old n2 (by omega))).put (k:=oC p) (n:=n4) Nw (.i .i64 0);simp (disch:=omega) only[go_sem,simprocAttr,m1];generalize hh:Tr.set (Tr.set (Tr.set h4 n2 ob) n4 _) n4 _=h5;have s5:∀x,x<n4->x≠n2->h5.get x=h4.get x:=λx hx hne=>by rw[<-hh];simp (disch:=omega) only[go_sem]
  have r5:h5.get n4=some (.row 230 [.m n2]):=by rw[<-hh];exact aG
  have o5:∀x,x<n1->h5.get x=h1.get x:=λx hx=>by rw[s5 x (by omega) (by omega),u4.old x (by omega),u3.old x hx]
  have ap:AP (n+4) h5 (n4+1) (n1+1) n2 (.sl n1 0 0 1 (some 1)) (.k 1) (λx=>x=n1\/x=n1+1\/x=n2) party (λh m=>FA n n2 n4 v C h m) [(ZI,p)] [] []:=by
   refine⟨?_,?_,Gr.nil λ_=>rfl,?_,.inr (.inl rfl),.inr (.inr rfl),λx hx=>.inl (dO.1 hx),λx hx=>absurd hx eX,λx hx=>by omega,by omega,λx hx=>?_,λx hx=>absurd hx eX,λx hx=>?_,rfl,(λi y l h=>by cases h),?_,(λx hx=>by omega),by omega⟩
   .rw[s5 _ (by omega) (by omega),u4.old _ (by omega)];exact g2
   .refine Gr.all (l:=[(ZI,p)]) (λ_=>rfl) (by omega) ?_ rfl
    rw[s5 _ (by omega) (by omega),u4.old _ (by omega)];exact g1
   .have m3:uG h5 n2 AV.s (D_ [] (oC p) (.i .i64 0)):=m2.on (by rw[<-hh];simp (disch:=omega) only[go_sem])
    exact m3
   .rw[dO]at hx
    exact⟨by omega,by omega,eX⟩
   .simp at hx;subst hx
    rw[<-hh];have k4:=(k3.up u4).le (Y:=λx=>(x=n1\/x=n1+1\/x=n2)\/x<n+4) λx hx e=>by omega
    exact((k4.set (.inl (.inl (.inr (.inr rfl)))) (Nat.le_refl _)).set (.inr (Nat.le_refl _)) (Nat.le_refl _)).set (m:=n4+1) (.inr (Nat.le_refl _)) (Nat.le_succ _)
   .intro h' n' hn he
    have cn:aZ h' n' v C:=by
     have k5:Kp (λx=>n+4<=x) h5 (n4+1) (λh n=>aZ h n v C):=(kC.on (h':=h5) (n':=n4+1) (by omega) λx hx _=>o5 x hx);exact(k5.le (Y:=λx=>x=n1\/x=n1+1\/x=n2) λx _ e=>by omega) h' n' hn he
    exact⟨(he n4 (by omega) (by omega)).trans r5,by omega,(he _ (by omega) (by omega)).trans ((o5 _ (by omega)).trans r2),by omega,(he _ (by omega) (by omega)).trans ((o5 _ (by omega)).trans r3),by omega,(he _ (by omega) (by omega)).trans ((o5 _ (by omega)).trans r0),cn⟩
  have JX:Up h n h5 (n4+1):=⟨by omega,λx hx=>(o5 x (by omega)).trans (ux.old x hx)⟩;clear hh;refine jy (FI h v C party p n n1 n2 n4) 1500 (by omega) ⟨_,⟨[(ZI,p)],[],[],_,_,_,ap,EH.one C party p,rfl,JX,rfl⟩,by(repeat' (first|exact aO|refine aN rfl ?_))⟩ ?_;rintro m h8 n8 F ⟨ps,wv,M,vv,ww,X,a8,an,hm,u8,rfl⟩;have ra:=a8.ra;have:=an.le;have:=an.small;have fa:=a8.A.use;have rcb:=fa.rcb;have ZG:=fa.ZG;have ZH:=fa.ZH;have c1:=fa.KU;have c2:=fa.JW;have c3:=fa.ebn;have lta:=a8.lt _ a8.Xa;rw[List.length_map]at*;repeat' (first|(simp (disch:=omega) only[go_sem,simprocAttr,ub.old,ra,a8.gv.len,ZG,ZH])|(simp (disch:=omega) only[go_sem,simprocAttr,ra,a8.gv.len,ZG,ZH])|(refine aR ?_ ?_<;>(intro hb hd;rw[hb];clear hb))|(with_reducible refine aj ?_))
  .rename_i hlt
   obtain⟨b1,o1,xq,i1,hx,hb1,rd⟩:=a8.gv.sl.fu (k:=(M.length:Nat)) (by omega) (by omega) (by omega);rw[show((M.length:Nat):Int).toNat=M.length by omega]at hx;repeat' (first|(simp (disch:=omega) only[go_sem,simprocAttr,ub.old,rcb,CS.av,ra,i1,rd.all])|(simp (disch:=omega) only[go_sem,simprocAttr,rcb,CS.av,ra,i1,rd.all])|(refine aR ?_ ?_<;>(intro hb hd;rw[hb];clear hb))|(with_reducible refine aj ?_))
   have hxm:=List.mem_of_getElem? hx;have M5:=a8.st xq hxm;have ai:=a8.start;have hq:aK C xq.2.st:=wm.ok ok (an.rch _ (List.mem_map_of_mem hxm));have uA:Up h8 n8 (Tr.set h8 n8 (.row 221 [.k 1])) (n8+1):=by exact aH
   generalize Tr.set h8 n8 (.row 221 [.k 1])=hA at*;rw[bQ];refine Nq _ (fa.con.up uA) (M5.use.up uA) λpb cb tb h9 n9 u9 WL e7 e8 e9=>?_;simp (disch:=omega) only[go_sem,simprocAttr];refine xR rfl λt hF=>?_;refine QM K (v:=v) (tv:=xq.1) (party:=party) (FJ h v C party p n n1 n2 n4 n8 n9 pb cb tb M.length xq t M) (FE h C party p n n9 t) ho hq ?_ ?_ ?_ ?_ ?_ ?_
   .rintro h' n' h'' n'' l ⟨o,ps,wv,l',b1,b2,b3,b4,b5,b6,b7,b8,b9,b10,b11⟩ u
    exact⟨o,ps,wv,l',b1.up u,b2,b3,b4,b5,b6,(u.old _ (b1.lt _ b5)).trans b7,b8,b9,b10,b11.trans u⟩
   .rintro h' n' l ⟨o,ps,wv,l',b1,b2,b3,b4,b5,b6,b7,b8,b9,b10,b11⟩
    obtain⟨fa',ib⟩:=b1.A.use;exact⟨ib.p,ib.c,ib.t,ib.pn,ib.cn,ib.tn,fa'.con,(b1.st xq (List.mem_of_getElem? b10)).use⟩
   .have b:=(ai.up u9).vC (A':=λh m=>FA n n2 n4 v C h m/\IB pb cb tb v C party xq h m) ((ai.A.up u9).and λh' n' hn he=>?_)
    .have b2:=b.afu (WK .ready none t)
     refine⟨_,ps,wv,[],b2,rfl,rfl,rfl,.inr rfl,λe=>?_,aG,an,Row.nil _,hx,?_⟩
     .have:=(b.ZC e);have:=b.lt _ this;omega
     .have:=u9.le;have:=uA.le
      exact((u8.trans uA).trans u9).trans (Up.st (Up.refl _ _) _ _ (Nat.le_refl _) |>.wk (Nat.le_succ _))
    .have:=WL.pn;have:=WL.cn;have:=WL.tn
     have nx:∀x,n8+1<=x->¬(X x\/x=n8):=λx hx e=>by have:=ai.lt x e;omega
     exact⟨(he _ (by omega) (nx _ e7)).trans WL.rp,(he _ (by omega) (nx _ e8)).trans WL.rc,(he _ (by omega) (nx _ e9)).trans WL.rt,by omega,by omega,by omega⟩
   .rintro done m' q tq h0 n0 h1' n1' hpre ⟨o,ps',wv',l,b1,b2,b3,b4,b5,b6,b7,b8,b9,b10,b11⟩ O4 kq
    have bn:n8+1<=n9:=u9.le;have hmem:(m',q)∈C.kJ party xq.2:=hpre.subset (by simp);have hqs:aK C q.st:=Nn hq hmem;have ZJ:wm C party p q:=(an.rch _ (List.mem_map_of_mem hxm)).step hmem;have hL0:=b1.lt _ b5;have e01:=O4.le;have r1':=(O4.old n9 hL0).trans b7;have a1:=b1.up O4;refine RW.mono (uH (d:=19) (F:=_) (bs:=[true,true]) (R:=λb h' n'=>(b=true->FJ h v C party p n n1 n2 n4 n8 n9 pb cb tb M.length xq t M h' n' (done++[(m',q)]))/\(b=false->FE h C party p n n9 t h' n')) r1' hF (by kernel_rfl) rfl U9 U_ ?_) ?_
    .simp (disch:=omega) only[go_sem,simprocAttr,M_,Qg]
     generalize hx:Tr.set (Tr.set h1' n1' _) n1' _=h2';have wR:Up h1' n1' h2' (n1'+1):=by rw[<-hx];exact aH
     have wS:h2'.get n1'=some (.row 45 (tq.pv q)):=by rw[<-hx];exact aG
     clear hx;have r2':=(wR.old n9 (by omega)).trans r1';refine⟨_,_,_,_,_,_,r2',?_⟩;have a2:AI (n+4) (h2'.set n9 (.lp .busy none 74 t [51,52] (jF 74 0) (jG 74 0))) (n1'+1) o party _ ps' wv' M l:=(a1.up wR).JU b5 b6 _;have kq2:Kp (λx=>o.X x\/x<n+4) (h2'.set n9 (.lp .busy none 74 t [51,52] (jF 74 0) (jG 74 0))) (n1'+1) (λh n=>cZ h n tq q.st):=
      ((kq.le (Y:=λx=>o.X x\/x<n+4) λx _ e=>by
       have:=b1.Bn;rcases e with e|e
       .exact b1.lt x e
       .omega).up wR).set (.inl (.inl b5)) (Nat.le_refl _)
     have afE:∀x∈ps',aK C x.2.st:=λx hx=>wm.ok ok (b8.rch _ (List.mem_map_of_mem hx));have hsm:=b8.small;rw[List.length_map]at hsm;have hll:l.length<=100000:=by
      have e1:=b9.1;have e2:done.length<=(C.kJ party xq.2).length:=by
       have:=hpre.length_le;simp at this;omega
      have e3:=uN C party xq.2;omega
     have r3':(h2'.set n9 (.lp .busy none 74 t [51,52] (jF 74 0) (jG 74 0))).get n9=some (.lp .busy none 74 t [51,52] (jF 74 0) (jG 74 0)):=aG;have u8':Up h n (h2'.set n9 (.lp .busy none 74 t [51,52] (jF 74 0) (jG 74 0))) (n1'+1):=by
      have:=u8.le;have:=uA.le;exact Up.st ((b11.trans O4).trans wR) _ _ (by omega)
     have Nz:(h2'.set n9 (.lp .busy none 74 t [51,52] (jF 74 0) (jG 74 0))).get n1'=some (.row 45 (tq.pv q)):=by rw[ay (by omega)];exact wS
     generalize h2'.set n9 _=h3' at*;have nX:∀x,x<n+4->¬o.X x:=λx hx e=>by have:=b1.nB x e;omega
     have hfa:∀h' n',(FA n n2 n4 v C h' n'/\IB pb cb tb v C party xq h' n')->h'.get n4=some (.row 230 [.m o.kb])/\n4<n'/\h'.get (n+1+1)=some (.row 150 [.i .i64 0,.k 1,.k 1])/\n+1+1<n'/\h'.get (n+1+1+1)=some (.row 31 [.i .i64 0])/\n+1+1+1<n':=λh' n' e=>by
      rw[b3];exact⟨e.1.rmb,e.1.KU,e.1.ZG,e.1.JW,e.1.ZH,e.1.ebn⟩
     refine Ny (C:=C) (K+2) a2 hfa kq2 hqs afE hsm hll rfl rfl (by rw[b2];rfl) rfl (by rw[b4];rfl) rfl ⟨n1',rfl,Nz,Nat.lt_succ_self _,λe=>by have:=b1.lt _ e;omega⟩ ?_ ?_ (nX _ (by omega)) (nX _ (by omega)) (by omega)
     .intro o' QN j h' n' F' a3 eab ekb elb Vl hj hn hsame Vm hown
      have ZK:¬o'.own n9:=λe=>by
       rcases hown _ e with e|e
       .exact b6 e
       .omega
      have g9:=(hsame n9 (by omega) b6).trans r3';refine⟨_,_,_,_,_,_,_,g9,⟨λ_=>?_,λe=>(by cases e)⟩⟩;have a4:=a3.JU (Vm _ b5) ZK (WK .ready none t);have hrow:Row (QN.map (·.2)) l done/\EH C party p (QN.map (·.2)) M/\QN[M.length]?=some xq:=by
       rcases Vl with rfl|⟨e1,e2,rfl⟩
       .exact⟨b9,b8,b10⟩
       .rw[List.map_append]
        exact⟨b9.mono _,b8.pos e1 ZJ (by rw[List.length_map];exact e2),by rw[List.getElem?_append_left (List.getElem?_eq_some_iff.1 b10).1];exact b10⟩
      refine⟨o',QN,wv',_,a4,eab.trans b2,ekb.trans b3,elb.trans b4,Vm _ b5,ZK,aG,hrow.2.1,hrow.1.snoc hj,hrow.2.2,⟨by have:=u8'.le;omega,λx hx=>?_⟩⟩;have:=u8.le;have:=uA.le;have:=u8'.le;rw[ay (by omega),hsame x (by omega) (λe=>nX x (by omega) (a2.ZC e)),u8'.old x hx]
     .intro hnew SN h' n' F' hn q1 q2 hsame
      have:=u8.le;have:=uA.le;have:=u8'.le;have g9:=(hsame n9 (by omega) (by omega) (by omega)).trans r3';refine⟨_,_,_,_,_,_,_,g9,⟨λe=>(by cases e),λ_=>?_⟩⟩;refine⟨b8.big hnew ZJ (by rw[List.length_map];exact SN),?_,?_,aG,by omega,⟨by omega,λx hx=>?_⟩⟩
      .rw[ay (by omega)];exact q1
      .rw[ay (by omega)];exact q2
      .rw[ay (by omega),hsame x (by omega) (by omega) (by omega),u8'.old x hx]
    .rintro u h' n' ⟨b,rfl,hb⟩
     exact⟨b,rfl,hb⟩
   .rintro h' n' ⟨o,ps',wv',l,b1,b2,b3,b4,b5,b6,b7,b8,b9,b10,b11⟩
    refine⟨_,_,_,_,_,_,_,b7,.inl ⟨rfl,rfl,?_⟩⟩;have hlen:=b1.len;have bn:n8+1<=n9:=u9.le;have:=uA.le;have b1':AI (n+4) (Tr.set h' n9 (.lp .exhausted none 74 t [51,52] (jF 74 0) (jG 74 0))) n' o party _ ps' wv' M l:=b1.JU b5 b6 _;have ux9:Up h n (Tr.set h' n9 (.lp .exhausted none 74 t [51,52] (jF 74 0) (jG 74 0))) n':=Up.st b11 _ _ (by have:=u8.le;omega);generalize Tr.set h' n9 _=hx9 at*;obtain⟨ab,kb,lb,vo,wo,lo,Xo⟩:=o;dsimp only at b2 b3 b4;subst b2;subst b3;subst b4;have ra:=b1'.ra;have rl:=b1'.rl;have lta:=b1'.lt _ b1'.Xa;have lle:=b8.le;have lsm:=b8.small;rw[List.length_map]at lle lsm;simp (disch:=omega) only[go_sem,simprocAttr,ra,rl,b1'.gl.cl];refine jm (l2:=[lo]) (b1'.gw.up aH) ⟨rfl,?_⟩ (by simp;omega) λv' h4 n4' g4 l4 s4 b4=>?_
    .show bnd (iA (Tr.get _ _) 0 _) (λr=>lQ (Nat.mul 1 1) r)=_
     rw[aG];rfl
    obtain⟨q1,q2⟩:=b1'.row (show Up hx9 n' _ (n'+1) by exact aH) g4 l4 s4 b4;simp (disch:=omega) only[go_sem,simprocAttr,q1,g4.cl];have hxq:(ps'.map (·.2))[M.length]?=some xq.2:=by rw[List.getElem?_map,b10];rfl
    have wid:gM .i64 ((M.length:Int)+1)=(((M++[l]).length:Nat):Int):=by rw[dN (by omega) (by omega)];simp
    rw[wid];have blo:∀x,blk wo x->n+4<=x:=λx hx=>b1'.nB x (b1'.Xw x hx);have nab:n+4<=n1+1:=by omega
    refine⟨m - 1,_,by omega,⟨ps',wv'++[lo],M++[l],vo,v',_,q2.vC λh n e=>e.1,b8.row hxq b9,by simp;omega,⟨by have:=ux9.le;omega,λx hx=>?_⟩,rfl⟩,by(repeat' (first|exact aO|refine aN rfl ?_))⟩;have:=ux9.le;rw[ay (by omega),s4 x (by omega) (λe=>by have:=blo x e;omega),ay (by omega)];exact ux9.old x hx
   .rintro h' n' ⟨b1,b2,b3,b4,b5,b6⟩
    refine⟨_,_,_,_,_,_,_,b4,.inr (.inl ⟨rfl,rfl,?_⟩)⟩;simp (disch:=omega) only[go_sem,simprocAttr,b2,b3];exact rQ (by omega) (by omega) ok b1 _ _ (Up.st b6 _ _ (by omega))
  .refine Iz (by omega) (by omega) ok ps wv M vv ww _ _ (an.done (by rw[List.length_map];omega)) aH ?_
   have k9:=a8.fin;exact(((k9.set (.inl (by omega)) (Nat.le_refl _)).set (.inl (by omega)) (Nat.le_refl _))).le λx _ hx=>by omega
theorem NA(K:Nat)(hC:aZ h n v C)(ho:C.off.length<=1000000)(kD:¬(C.valid=true/\0<=party/\party<C.aC)->∀h' n',Up h n h' n'->Q (.bN [EI,.i .i64 1]) h' n')
 (rQ:C.valid=true->0<=party->party<C.aC->gL C party ⟨C.first,true⟩->∀h' n',Up h n h' n'->Q (.bN [EI,.i .i64 3]) h' n')
 (Iz:C.valid=true->0<=party->party<C.aC->∀ps wv M v w h' n',bV C party ⟨C.first,true⟩ (ps.map (·.2)) M->Up h n h' n'->Kp (λx=>x<n) h' n' (λh n=>qW h n v w ps wv M)->Q (.bN [.agg [.i .i64 party,v,w],.i .i64 0]) h' n'):CW (EF (K+11)) 50 [.agg (v.av C),.i .i64 party] h n Q:=by
 refine aD c50 rfl ?_;repeat' (first|(simp (disch:=omega) only[go_sem,simprocAttr,ub.old,m50,CS.av])|(simp (disch:=omega) only[go_sem,simprocAttr,m50,CS.av])|(refine aR ?_ ?_<;>(intro hb hd;rw[hb];clear hb))|(with_reducible refine aj ?_))
 rw[aU];refine zG _ (hC.up aH) ho (λhv h1 n1 u1=>?_) (λhv O1 h1 n1 u1 k1=>?_)
 .have e1:=u1.le
  have r1:h1.get (n+1)=some (.row 150 [.i .i64 0,.k 1,.k 1]):=by rw[u1.old _ (by omega)];simp (disch:=omega) only[go_sem]
  repeat' (first|(simp (disch:=omega) only[go_sem,simprocAttr,ub.old,SA,r1,Int.reduceEq])|(simp (disch:=omega) only[go_sem,simprocAttr,SA,r1,Int.reduceEq])|(refine aR ?_ ?_<;>(intro hb hd;rw[hb];clear hb))|(with_reducible refine aj ?_))
  exact kD (λe=>by rw[hv]at e;cases e.1) _ _ aH
 .have e1:=u1.le
  have r0:h1.get n=some (.row 27 (v.av C)):=by rw[u1.old _ (by omega)];simp (disch:=omega) only[go_sem]
  have r1:h1.get (n+1)=some (.row 150 [.i .i64 0,.k 1,.k 1]):=by rw[u1.old _ (by omega)];simp (disch:=omega) only[go_sem]
  have ux:Up h n h1 n1:=by exact aH
  clear u1;repeat' (first|(simp (disch:=omega) only[go_sem,simprocAttr,ub.old,r0,CS.av,TS.av,Int.reduceEq])|(simp (disch:=omega) only[go_sem,simprocAttr,r0,CS.av,TS.av,Int.reduceEq])|(refine aR ?_ ?_<;>(intro hb hd;rw[hb];clear hb))|(with_reducible refine aj ?_))
  rw[aU];have so:=pQ hv;refine Cy K (p:=⟨C.first,true⟩) (tv:=O1) (hC.up aH) ho ((k1.up aH).use) ⟨λhn h2 n2 u2=>?_,λa b c d h2 n2 u2=>?_,λa b c ps wv M v' w' h2 n2 ia u2 k2=>?_⟩
  .have e2:=u2.le
   have r2:h2.get (n+1)=some (.row 150 [.i .i64 0,.k 1,.k 1]):=by rw[u2.old _ (by omega),ay (by omega),ay (by omega)];exact r1
   repeat' (first|(simp (disch:=omega) only[go_sem,simprocAttr,ub.old,EI,r2,Int.reduceEq])|(simp (disch:=omega) only[go_sem,simprocAttr,EI,r2,Int.reduceEq])|(refine aR ?_ ?_<;>(intro hb hd;rw[hb];clear hb))|(with_reducible refine aj ?_))
   exact kD (λe=>hn ⟨e.2.1,e.2.2,so⟩) _ _ aH
  .have e2:=u2.le
   have r2:h2.get (n+1)=some (.row 150 [.i .i64 0,.k 1,.k 1]):=by rw[u2.old _ (by omega),ay (by omega),ay (by omega)];exact r1
   repeat' (first|(simp (disch:=omega) only[go_sem,simprocAttr,ub.old,EI,r2,Int.reduceEq])|(simp (disch:=omega) only[go_sem,simprocAttr,EI,r2,Int.reduceEq])|(refine aR ?_ ?_<;>(intro hb hd;rw[hb];clear hb))|(with_reducible refine aj ?_))
   exact rQ hv a b d _ _ aH
  .have e2:=u2.le
   have r2:h2.get (n+1)=some (.row 150 [.i .i64 0,.k 1,.k 1]):=by rw[u2.old _ (by omega),ay (by omega),ay (by omega)];exact r1
   repeat' (first|(simp (disch:=omega) only[go_sem,simprocAttr,ub.old,r2,Int.reduceEq])|(simp (disch:=omega) only[go_sem,simprocAttr,r2,Int.reduceEq])|(refine aR ?_ ?_<;>(intro hb hd;rw[hb];clear hb))|(with_reducible refine aj ?_))
   exact Iz hv a b ps wv M v' w' _ _ ia aH ((k2.set (.inl (by omega)) (Nat.le_refl _)).le λx _ hx=>by omega)
end
end
end Go.Proofs.YtjoohkjmoghmoaaGreatDoor
