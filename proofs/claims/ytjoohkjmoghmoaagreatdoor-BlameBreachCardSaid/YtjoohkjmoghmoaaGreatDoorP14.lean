/- part -/
import Derived.Test.YtjoohkjmoghmoaaGreatDoorP13
set_option linter.all false
namespace Go.Proofs.YtjoohkjmoghmoaaGreatDoor
section
noncomputable section
section
variable {h h':AH} {n n':Nat} {v:CS} {C:aA} {tv:TS} {p:aR} {party:Int} {Q:AV->AH->Nat->Prop}
structure Np(h:AH)(n pb cb tb:Nat)(v:CS)(C:aA)(tv:TS)(p:aR)(party:Int):Prop where
 rp:h.get pb=some (.row 45 (tv.pv p))
 rc:h.get cb=some (.row 27 (v.av C))
 rt:h.get tb=some (.row 3 [.i .i64 party])
 pn:pb<n
 cn:cb<n
 tn:tb<n
 con:aZ h n v C
 st:bZ h n tv p.st
theorem Np.up{pb cb tb:Nat}(m:Np h n pb cb tb v C tv p party)(u:Up h n h' n'):Np h' n' pb cb tb v C tv p party:=
 have:=u.le
 ⟨(u.old _ m.pn).trans m.rp,(u.old _ m.cn).trans m.rc,(u.old _ m.tn).trans m.rt,Nat.lt_of_lt_of_le m.pn this,Nat.lt_of_lt_of_le m.cn this,Nat.lt_of_lt_of_le m.tn this,m.con.up u,m.st.up u⟩
theorem Nq(K:Nat)(hC:aZ h n v C)(hS:bZ h n tv p.st)(hQ:∀pb cb tb h' n',Up h n h' n'->Np h' n' pb cb tb v C tv p party->n<=pb->n<=cb->n<=tb->Q (.f 233 [.p pb 0,.p cb 0,.p tb 0]) h' n'):CW (EF (K+1)) 136 [.agg (v.av C),.i .i64 party,.agg (tv.pv p)] h n Q:=by
 refine aD afh rfl ?_;repeat' (first|(simp (disch:=omega) only[go_sem,Zw,CS.av,TS.pv])|(refine aS ?_ ?_<;>(intro hb hd;rw[hb];clear hb))|(with_reducible refine aj ?_))
 have u:∀h',h'=((Tr.set h n (AO.row 27 (v.av C))).set (n+1) (.row 3 [.i .i64 party])).set (n+1+1) (.row 45 (tv.pv p))->Up h n h' (n+1+1+1):=λh' e=>by rw[e];exact aH
 refine hQ (n+2) n (n+1) _ _ (u _ rfl) ⟨?_,?_,?_,by omega,by omega,by omega,hC.up (u _ rfl),hS.up (u _ rfl)⟩ (by omega) (by omega) (by omega);all_goals simp (disch:=omega) only[go_sem]
theorem Nr(C:aA)(party:Int)(p:aR){k N:Nat}(h:k<=N):C.nY party p k<+:C.nY party p N:=by
 induction h with
 |refl=>exact⟨[],by simp⟩
 |step _ ih=>rw[vL];exact ih.trans ⟨_,rfl⟩
theorem QY(K:Nat){pb cb tb yr:Nat}(J:AH->Nat->List (Int×aR)->Prop)(E:AH->Nat->Prop)(ho:C.off.length<=1000000)(ok:aM C p.st)(hJ:∀h n h' n' l,J h n l->Up h n h' n'->J h' n' l)
 (Vr:∀h n l,J h n l->Np h n pb cb tb v C tv p party)(j0:J h n [])
 (hstep:∀(l:List (Int×aR))(m:Int)(q:aR)(tvq:TS) h0 n0 h1 n1,(l++[(m,q)])<+:C.oZ party p->J h0 n0 l->Up h0 n0 h1 n1->Kp (λx=>x<n0) h1 n1 (λh n=>bZ h n tvq q.st)->
  RW (Y0 yr [.i .i64 m,.agg (tvq.pv q)] (EF (K+8)) h1 n1) λu h2 n2=>∃b,u= .b b/\(b=true->J h2 n2 (l++[(m,q)]))/\(b=false->E h2 n2))
 (hQ:∀h' n',J h' n' (C.oZ party p)->Q (.bS []) h' n')(hE:∀h' n',E h' n'->Q (.bS []) h' n'):CW (EF (K+9)) 233 [.y yr,.p pb 0,.p cb 0,.p tb 0] h n Q:=by
 have hm0:=Vr _ _ _ j0;have rp:=hm0.rp;have rc:=hm0.rc;have rt:=hm0.rt;refine aD c233 rfl ?_;have ok1:=aA.ok ok.con;have:=ok.lh;have:=ok.lu;have:=ok.lm;have:=ok1.dN;have:=ok1.jU;have:=ok1.kY;have tail:∀h2 n2 (F:Fm),J h2 n2 (C.nW p)->p.st.day<C.days->lk F 49=some (.i .i64 0)->lk F 48=some (.i .i64 (C.acts.length:Nat))->lk F 0=some (.y yr)->lk F 1=some (.p pb 0)->lk F 2=some (.p cb 0)->lk F 3=some (.p tb 0)->lk F 47=some v.a->
  SM Tryz.prog Y0 233 (.c (g_ 3 49 48 50 0 1 FY)::[It.b 0]) .bV (EF (K+8)) h2 n2 F (R9 [] Q):=by
  intro h2 n2 F j2 wT f1 f2 f3 f4 f5 f6 f7;refine cK C.acts.length (λk h n G=>J h n (C.nW p++C.nY party p k)/\G=[(0,.y yr),(1,.p pb 0),(2,.p cb 0),(3,.p tb 0),(47,v.a)]) (by omega) (by omega) (by omega) (by omega) (λk h8 n8 G ⟨_,e⟩=>by subst e;exact⟨rfl,rfl⟩) ⟨f1,f2,_,⟨by simpa [aA.nY]using j2,rfl⟩,aN f3 (aN f4 (aN f5 (aN f6 (aN f7 aP))))⟩ ?_ ?_
  .rintro k h3 n3 G hk ⟨j3,rfl⟩
   have DU:=Vr _ _ _ j3;have rp:=DU.rp;have rc:=DU.rc;have rt:=DU.rt;obtain⟨b1,o1,a,i1,ha,hb1,rd⟩:=DU.con.acts.fQ (k:=(k:Nat)) (by omega) (by omega) (by omega);rw[show((k:Nat):Int).toNat=k by omega]at ha;have pn:=DU.pn;have cn:=DU.cn;have tn:=DU.tn;have act:=ok1.act (List.mem_of_getElem? ha);have hdo:C.doer p.st (k:Nat)=bI p.st.ah a:=by unfold aA.doer;rw[show((k:Nat):Int).toNat=k by omega,ha]
   have rp:=DU.rp;have rc:=DU.rc;have rt:=DU.rt;have sk:¬C.Jr party p k->∀h4 n4,Up h3 n3 h4 n4->J h4 n4 (C.nW p++C.nY party p (k+1)):=λh h4 n4 u=>by rw[vL,if_neg h,List.append_nil];exact hJ _ _ _ _ _ j3 u
   have ks:C.Jr party p k->C.nW p++C.nY party p (k+1)=C.nW p++C.nY party p k++[((k:Int),⟨C.bA p.st k,true⟩)]:=λh=>by rw[vL,if_pos h,List.append_assoc]
   have pre:C.nW p++C.nY party p (k+1)<+:C.oZ party p:=by
    rw[aA.oZ,if_pos wT,List.prefix_append_right_inj];exact Nr C party p hk
   repeat' (first|(simp (disch:=omega) only[go_sem,FY,aK i1,rd.el,rd.hd,rd.all])|(refine aS ?_ ?_<;>(intro hb hd;rw[hb];clear hb))|(with_reducible refine aj ?_))
   .have hr:=act.role hd
    obtain⟨b2,o2,x,i2,hx,hb2,fP⟩:=DU.st.ah.fQ (k:=a.role) (by omega) (by omega) (by omega);have hdx:bI p.st.ah a=x:=by unfold bI gQ;rw[hx,show(a.role== -1)=false by simpa using hd];rfl
    simp (disch:=omega) only[go_sem,rp,rc,rt,TS.pv,CS.av,aK i2,fP.el,fP.hd];rw[<-hdx];rw[<-hdo];refine xk (λhd2=>?_) (λhd2=>?_)<;>rw[hd2]
    .simp (disch:=omega) only[go_sem]
     have hn:¬C.Jr party p k:=λe=>by
      have e:=e.1;by_cases hx:C.doer p.st (k:Nat)=party
      .rw[hx,e.1 hx]at hd2;simp at hd2
      .have:p.own=false:=by cases ho:p.own with|true=>exact absurd (e.2 ho) hx|false=>rfl
       rw[this]at hd2;simp[hx]at hd2
     refine⟨rfl,rfl,_,⟨sk hn _ _ aH,rfl⟩,by(repeat' (first|exact aP|refine aN rfl ?_))⟩
    .have hde:C.doer p.st (k:Nat)=party↔p.own=true:=by
      by_cases hx:C.doer p.st (k:Nat)=party
      .cases ho:p.own with
       |true=>simp[hx]
       |false=>rw[ho]at hd2;simp[hx]at hd2
      .cases ho:p.own with
       |false=>simp[hx]
       |true=>rw[ho]at hd2;simp[hx]at hd2
     simp (disch:=omega) only[go_sem,rp,rc,rt,TS.pv,CS.av];rw[aU];refine uI _ (DU.con.up aH) ho (DU.st.up aH) (k:Nat) (λe=>?_) (λ_ _ _ e=>?_) (λ_ _ _ _ Ns h4 n4 u4 k4=>?_)
     .exact absurd e (by rw[(dS C p.st).2 ok];simp;omega)
     .omega
     have ZK:=DU.up (show Up h3 n3 h4 n4 by exact aH);have rp:=ZK.rp;have e4:=u4.le;have pn4:pb<n4:=by omega
     have Vs:=jE ok (t:=(k:Nat)) (by omega) (by omega) wT;have l1:=Vs.lh;have l2:=Vs.lu;have l3:=Vs.lm;simp (disch:=omega) only[go_sem,rp,TS.pv,TS.av];rw[aU];refine Ia _ ((k4.up aH).use) (ZK.st.up aH) (by omega) (by omega) (by omega) λh5 n5 u5=>?_;by_cases hsm:C.bA p.st (k:Nat)=p.st
     .rw[Af hsm]
      simp (disch:=omega) only[go_sem];refine⟨rfl,rfl,_,⟨sk (λe=>e.2 hsm) _ _ aH,rfl⟩,by(repeat' (first|exact aP|refine aN rfl ?_))⟩
     .rw[wz hsm]
      have hmv:C.Jr party p k:=⟨hde,hsm⟩;simp (disch:=omega) only[go_sem,u5.old,TS.av];rw[vC];refine RW.mono (hstep _ (k:Int) ⟨C.bA p.st k,true⟩ Ns _ _ _ _ (by rw[<-ks hmv];exact pre) j3 aH ((k4.up aH).le λx hx h=>?_)) ?_
      .omega
      rintro _ h6 n6 ⟨b,rfl,hb1,hb2⟩;cases b with
      |false=>
       simp (disch:=omega) only[go_sem];exact hE _ _ (hb2 rfl)
      |true=>
       have j6:=hb1 rfl;rw[<-ks hmv]at j6;simp (disch:=omega) only[go_sem];exact⟨rfl,rfl,_,⟨j6,rfl⟩,by(repeat' (first|exact aP|refine aN rfl ?_))⟩
   .have hdx:bI p.st.ah a= -1:=by unfold bI;rw[hd];rfl
    simp (disch:=omega) only[go_sem,rp,rc,rt,TS.pv,CS.av];rw[<-hdx];rw[<-hdo];refine xk (λhd2=>?_) (λhd2=>?_)<;>rw[hd2]
    .simp (disch:=omega) only[go_sem]
     have hn:¬C.Jr party p k:=λe=>by
      have e:=e.1;by_cases hx:C.doer p.st (k:Nat)=party
      .rw[hx,e.1 hx]at hd2;simp at hd2
      .have:p.own=false:=by cases ho:p.own with|true=>exact absurd (e.2 ho) hx|false=>rfl
       rw[this]at hd2;simp[hx]at hd2
     refine⟨rfl,rfl,_,⟨sk hn _ _ aH,rfl⟩,by(repeat' (first|exact aP|refine aN rfl ?_))⟩
    .have hde:C.doer p.st (k:Nat)=party↔p.own=true:=by
      by_cases hx:C.doer p.st (k:Nat)=party
      .cases ho:p.own with
       |true=>simp[hx]
       |false=>rw[ho]at hd2;simp[hx]at hd2
      .cases ho:p.own with
       |false=>simp[hx]
       |true=>rw[ho]at hd2;simp[hx]at hd2
     simp (disch:=omega) only[go_sem,rp,rc,rt,TS.pv,CS.av];rw[aU];refine uI _ (DU.con.up aH) ho (DU.st.up aH) (k:Nat) (λe=>?_) (λ_ _ _ e=>?_) (λ_ _ _ _ Ns h4 n4 u4 k4=>?_)
     .exact absurd e (by rw[(dS C p.st).2 ok];simp;omega)
     .omega
     have ZK:=DU.up (show Up h3 n3 h4 n4 by exact aH);have rp:=ZK.rp;have e4:=u4.le;have pn4:pb<n4:=by omega
     have Vs:=jE ok (t:=(k:Nat)) (by omega) (by omega) wT;have l1:=Vs.lh;have l2:=Vs.lu;have l3:=Vs.lm;simp (disch:=omega) only[go_sem,rp,TS.pv,TS.av];rw[aU];refine Ia _ ((k4.up aH).use) (ZK.st.up aH) (by omega) (by omega) (by omega) λh5 n5 u5=>?_;by_cases hsm:C.bA p.st (k:Nat)=p.st
     .rw[Af hsm]
      simp (disch:=omega) only[go_sem];refine⟨rfl,rfl,_,⟨sk (λe=>e.2 hsm) _ _ aH,rfl⟩,by(repeat' (first|exact aP|refine aN rfl ?_))⟩
     .rw[wz hsm]
      have hmv:C.Jr party p k:=⟨hde,hsm⟩;simp (disch:=omega) only[go_sem,u5.old,TS.av];rw[vC];refine RW.mono (hstep _ (k:Int) ⟨C.bA p.st k,true⟩ Ns _ _ _ _ (by rw[<-ks hmv];exact pre) j3 aH ((k4.up aH).le λx hx h=>?_)) ?_
      .omega
      rintro _ h6 n6 ⟨b,rfl,hb1,hb2⟩;cases b with
      |false=>
       simp (disch:=omega) only[go_sem];exact hE _ _ (hb2 rfl)
      |true=>
       have j6:=hb1 rfl;rw[<-ks hmv]at j6;simp (disch:=omega) only[go_sem];exact⟨rfl,rfl,_,⟨j6,rfl⟩,by(repeat' (first|exact aP|refine aN rfl ?_))⟩
  .rintro h3 n3 G ⟨j3,rfl⟩
   simp (disch:=omega) only[go_sem];refine hQ _ _ ?_;rw[aA.oZ,if_pos wT];exact j3
 cases hown:p.own with
 |true=>
  have JM:C.nW p=[(-2,⟨p.st,false⟩)]:=by unfold aA.nW;rw[if_pos hown,if_neg (by rw[hown];simp)];rfl
  simp (disch:=omega) only[go_sem,Va,rp,rc,rt,TS.pv,CS.av,hown];rw[aU];refine Ai _ hm0.st (by omega) (by omega) (by omega) λSX h1 n1 u1 k1=>?_;simp (disch:=omega) only[go_sem,TS.av];rw[vC];refine RW.mono (hstep [] (-2) ⟨p.st,false⟩ SX _ _ _ _ (by rw[aA.oZ,JM];exact⟨_,rfl⟩) j0 u1 k1) ?_;rintro _ h2 n2 ⟨b,rfl,hb1,hb2⟩;cases b with
  |false=>
   simp (disch:=omega) only[go_sem];exact hE _ _ (hb2 rfl)
  |true=>
   have j2:=hb1 rfl;have hm2:=Vr _ _ _ j2;have rp:=hm2.rp;have rc:=hm2.rc;have rt:=hm2.rt;repeat' (first|(simp (disch:=omega) only[go_sem,rp,rc,TS.pv,CS.av,hown,hm2.con.acts.len])|(refine aS ?_ ?_<;>(intro hb hd;rw[hb];clear hb))|(with_reducible refine aj ?_))
   .refine hQ _ _ ?_
    rw[aA.oZ,JM,if_neg (by omega)];exact j2
   exact tail _ _ _ (by rw[JM];exact j2) (by omega) rfl rfl rfl rfl rfl rfl rfl
 |false=>
  have no:¬p.own=true:=by rw[hown];simp
  simp (disch:=omega) only[go_sem,Va,rp,rc,rt,TS.pv,CS.av,hown];refine xk (λhd2=>?_) (λhd2=>?_)<;>(rw[hd2];simp only[decide_eq_true_eq,decide_eq_false_iff_not]at hd2)
  .simp (disch:=omega) only[go_sem]
   refine hQ _ _ ?_;rw[aA.oZ,aA.nW,if_neg no,if_neg (by omega),if_neg (by omega)];exact j0
  .have wT:p.st.day<C.days:=by omega
   have JM:C.nW p=[(-1,⟨C.bA p.st (-1),true⟩)]:=by unfold aA.nW;rw[if_neg no,if_pos ⟨hown,wT⟩];rfl
   simp (disch:=omega) only[go_sem,rp,rc,rt,TS.pv,CS.av,hown];rw[aU];refine uI _ hm0.con ho hm0.st (-1) (λe=>?_) (λ_ _ _ e=>?_) (λ_ _ _ _ Ns h4 n4 u4 k4=>?_)
   .exact absurd e (by rw[(dS C p.st).2 ok];simp;omega)
   .omega
   have e4:=u4.le;simp (disch:=omega) only[go_sem,TS.av];rw[vC];refine RW.mono (hstep [] (-1) ⟨C.bA p.st (-1),true⟩ Ns _ _ _ _ (by rw[aA.oZ,JM];exact⟨_,rfl⟩) j0 aH (k4.up aH)) ?_;rintro _ h6 n6 ⟨b,rfl,hb1,hb2⟩;cases b with
   |false=>
    simp (disch:=omega) only[go_sem];exact hE _ _ (hb2 rfl)
   |true=>
    have j2:=hb1 rfl;have hm2:=Vr _ _ _ j2;have rp:=hm2.rp;have rc:=hm2.rc;have rt:=hm2.rt;repeat' (first|(simp (disch:=omega) only[go_sem,rp,rc,TS.pv,CS.av,hown,hm2.con.acts.len])|(refine aS ?_ ?_<;>(intro hb hd;rw[hb];clear hb))|(with_reducible refine aj ?_))
    exact tail _ _ _ (by rw[JM];exact j2) wT rfl rfl rfl rfl rfl rfl rfl
end
end
end
section
noncomputable section
def sJ:List aR->Nat->List (List UInt8×AV)
 |[],_=>[]
 |q::r,i=>(pJ q,.i .i64 (i:Nat))::sJ r (i+1)
section
variable {C:aA} {party:Int} {p q r:aR} {P:List aR} {M:List (List (Int×Nat))} {l:List (Int×Nat)} {ms:List (Int×aR)}
theorem Nt{v:AV}(hq:aM C q.st)(hP:∀x∈P,aM C x.st):∀{i:Nat},nu (sJ P i) (pJ q)=some v->∃j:Nat,P[j]?=some q/\v= .i .i64 ((i+j:Nat):Int):=by
 induction P with
 |nil=>intro i h;cases h
 |cons a P ih=>
  intro i h;rw[sJ,nu]at h;split at h
  .rename_i e
   cases QX hq (hP a (by simp)) e
   cases h
   exact⟨0,rfl,by simp⟩
  .obtain⟨j,h1,h2⟩:=ih (λx hx=>hP x (List.mem_cons_of_mem _ hx)) h
   exact⟨j+1,h1,by rw[h2];congr 2;omega⟩
theorem Nu:∀{i:Nat},nu (sJ P i) (pJ q)=none->q∉P:=by
 induction P with
 |nil=>intro i _ h;cases h
 |cons a P ih=>
  intro i h;rw[sJ,nu]at h;split at h
  .cases h
  .rename_i e
   intro hm;rcases List.mem_cons.1 hm with rfl|hm
   .exact e rfl
   .exact ih h hm
theorem Nv{κ:Type}{m:List (κ×AV)}{k:κ}{v:AV}(h:nu m k=none):Dx m k v=m++[(k,v)]:=by
 induction m with
 |nil=>rfl
 |cons a m ih=>
  rw[nu]at h;split at h
  .cases h
  .rename_i e
   rw[Dx,if_neg e,ih h];rfl
theorem Nw:∀{i:Nat},sJ (P++[q]) i=sJ P i++[(pJ q,.i .i64 ((i+P.length:Nat):Int))]:=by
 induction P with
 |nil=>intro i;rfl
 |cons a P ih=>
  intro i;rw[List.cons_append,sJ,sJ,ih,List.cons_append,List.length_cons];rw[show i+1+P.length=i+(P.length+1) by omega]
def Row(P:List aR)(l:List (Int×Nat))(ms:List (Int×aR)):Prop:=l.length=ms.length/\∀(k:Nat)(m:Int)(j:Nat),l[k]?=some (m,j)->∃r,P[j]?=some r/\ms[k]?=some (m,r)
theorem Row.nil(P:List aR):Row P [] []:=⟨rfl,λk m j h=>by cases h⟩
theorem Row.mono(h:Row P l ms)(x:List aR):Row (P++x) l ms:=⟨h.1,λk m j e=>by
 obtain⟨r,h1,h2⟩:=h.2 k m j e;exact⟨r,by rw[List.getElem?_append_left (List.getElem?_eq_some_iff.1 h1).1];exact h1,h2⟩⟩
theorem Row.snoc(h:Row P l ms){m:Int}{j:Nat}(hj:P[j]?=some r):Row P (l++[(m,j)]) (ms++[(m,r)]):=by
 refine⟨by simp[h.1],λk m' j' e=>?_⟩;have hl:=h.1;by_cases hk:k<l.length
 .rw[List.getElem?_append_left hk]at e
  obtain⟨r',h1,h2⟩:=h.2 k m' j' e;exact⟨r',h1,by rw[List.getElem?_append_left (by omega)];exact h2⟩
 .have hk2:k<(l++[(m,j)]).length:=(List.getElem?_eq_some_iff.1 e).1
  obtain rfl:k=l.length:=by simp at hk2;omega
  rw[List.getElem?_append_right (Nat.le_refl _)]at e;simp at e;obtain⟨rfl,rfl⟩:=e;exact⟨r,hj,by rw[List.getElem?_append_right (by omega),hl];simp⟩
structure Eh(C:aA)(party:Int)(p:aR)(P:List aR)(M:List (List (Int×Nat))):Prop where
 hd:P[0]?=some p
 nd:P.Nodup
 rch:∀q∈P,zq C party p q
 small:P.length<=1500
 le:M.length<=P.length
 mv:∀(i:Nat)(q:aR)(l:List (Int×Nat)),P[i]?=some q->M[i]?=some l->Row P l (C.oZ party q)
theorem Eh.one(C:aA)(party:Int)(p:aR):Eh C party p [p] []:=⟨rfl,by simp,λq hq=>by simp at hq;subst hq;exact .refl,by simp,by simp,λi q l _ h=>by cases h⟩
theorem Eh.pos(a:Eh C party p P M)(hq:q∉P)(hr:zq C party p q)(h:P.length≠1500):Eh C party p (P++[q]) M:=by
 have hs:=a.small;have hl:=a.le;have h0:0<P.length:=(List.getElem?_eq_some_iff.1 a.hd).1;refine⟨by rw[List.getElem?_append_left h0];exact a.hd,?_,λx hx=>?_,by simp;omega,by simp;omega,λi x l hx hl=>?_⟩
 .rw[List.nodup_append]
  exact⟨a.nd,by simp,λx hx y hy e=>by simp at hy;subst hy;subst e;exact hq hx⟩
 .rcases List.mem_append.1 hx with h|h
  .exact a.rch x h
  .simp at h;subst h;exact hr
 .have hi:=(List.getElem?_eq_some_iff.1 hl).1
  rw[List.getElem?_append_left (by omega)]at hx;exact(a.mv i x l hx hl).mono _
theorem Eh.row(a:Eh C party p P M)(h:P[M.length]?=some q)(hr:Row P l (C.oZ party q)):Eh C party p P (M++[l]):=by
 have hi:=(List.getElem?_eq_some_iff.1 h).1;refine⟨a.hd,a.nd,a.rch,a.small,by simp;omega,λi x l' hx hl=>?_⟩;by_cases hk:i<M.length
 .rw[List.getElem?_append_left hk]at hl
  exact a.mv i x l' hx hl
 .have hk2:i<(M++[l]).length:=(List.getElem?_eq_some_iff.1 hl).1
  obtain rfl:i=M.length:=by simp at hk2;omega
  rw[List.getElem?_append_right (Nat.le_refl _)]at hl;simp at hl;subst hl;rw[h]at hx;cases hx
  exact hr
theorem Eh.done(a:Eh C party p P M)(h:P.length<=M.length):eH C party p P M:=
 ⟨a.hd,a.nd,by have:=a.le;omega,λi q l h1 h2=>a.mv i q l h1 h2,a.rch,a.small⟩
theorem Eh.big(a:Eh C party p P M)(hq:q∉P)(hr:zq C party p q)(h:P.length=1500):h_ C party p:=by
 refine⟨P++[q],?_,by simp;omega,λx hx=>?_⟩
 .rw[List.nodup_append]
  exact⟨a.nd,by simp,λx hx y hy e=>by simp at hy;subst hy;subst e;exact hq hx⟩
 .rcases List.mem_append.1 hx with h|h
  .exact a.rch x h
  .simp at h;subst h;exact hr
end
@[reducible] def WQ (x:Int×Nat):List AV:=[.i .i64 x.1,.i .i64 (x.2:Nat)]
@[reducible] def Ei (x:TS×aR):List AV:=x.1.pv x.2
abbrev one(y:AV):List AV:=[y]
structure zM(h:AH)(n:Nat)(v w:AV)(ps:List (TS×aR))(wv:List AV)(M:List (List (Int×Nat))):Prop where
 pos:SL h n 5 v Ei ps
 st:∀x∈ps,bZ h n x.1 x.2.st
 row:SL h n 1 w one wv
 len:wv.length=M.length
 mv:∀(i:Nat)(y:AV)(l:List (Int×Nat)),wv[i]?=some y->M[i]?=some l->SL h n 2 y WQ l
theorem zM.up{h h':AH}{n n':Nat}{v w:AV}{ps:List (TS×aR)}{wv:List AV}{M:List (List (Int×Nat))}(a:zM h n v w ps wv M)(u:Up h n h' n'):zM h' n' v w ps wv M:=
 ⟨a.pos.up u,λx hx=>(a.st x hx).up u,a.row.up u,a.len,λi y l h1 h2=>(a.mv i y l h1 h2).up u⟩
structure Own where
 ab:Nat
 kb:Nat
 lb:Nat
 v:AV
 w:AV
 lv:AV
 X:Nat->Prop
def Own.own(o:Own)(x:Nat):Prop:=x=o.ab\/x=o.kb\/x=o.lb\/blk o.v x\/blk o.w x\/blk o.lv x
structure AI(B:Nat)(h:AH)(n:Nat)(o:Own)(party:Int)(A:HP)(ps:List (TS×aR))(wv:List AV)(M:List (List (Int×Nat)))(l:List (Int×Nat)):Prop where
 ra:h.get o.ab=some (.row 150 [.i .i64 party,o.v,o.w])
 rl:h.get o.lb=some (.row 221 [o.lv])
 gv:Gr h n 45 5 o.v Ei ps
 gw:Gr h n 221 1 o.w one wv
 gl:Gr h n 223 2 o.lv WQ l
 mp:uw h o.kb AV.s (sJ (ps.map (·.2)) 0)
 Xa:o.X o.ab
 Xk:o.X o.kb
 Xl:o.X o.lb
 Xv:∀x,blk o.v x->o.X x
 Xw:∀x,blk o.w x->o.X x
 Xy:∀x,blk o.lv x->o.X x
 lt:∀x,o.X x->x<n
 ak:o.ab≠o.kb
 al:o.ab≠o.lb
 kl:o.kb≠o.lb
 dv:∀x,blk o.v x->x≠o.ab/\x≠o.kb/\x≠o.lb/\¬blk o.w x/\¬blk o.lv x
 dw:∀x,blk o.w x->x≠o.ab/\x≠o.kb/\x≠o.lb/\¬blk o.lv x
 dl:∀x,blk o.lv x->x≠o.ab/\x≠o.kb/\x≠o.lb
 st:∀x∈ps,Kp (λx=>o.X x\/x<B) h n (λh n=>bZ h n x.1 x.2.st)
 len:wv.length=M.length
 mv:∀(i:Nat)(y:AV)(l:List (Int×Nat)),wv[i]?=some y->M[i]?=some l->Kp (λx=>o.X x\/x<B) h n (λh n=>SL h n 2 y WQ l)
 A:Kp o.X h n A
 nB:∀x,o.X x->B<=x
 Bn:B<=n
structure AP(B:Nat)(h:AH)(n:Nat)(ab kb:Nat)(v w:AV)(X:Nat->Prop)(party:Int)(A:HP)(ps:List (TS×aR))(wv:List AV)(M:List (List (Int×Nat))):Prop where
 ra:h.get ab=some (.row 150 [.i .i64 party,v,w])
 gv:Gr h n 45 5 v Ei ps
 gw:Gr h n 221 1 w one wv
 mp:uw h kb AV.s (sJ (ps.map (·.2)) 0)
 Xa:X ab
 Xk:X kb
 Xv:∀x,blk v x->X x
 Xw:∀x,blk w x->X x
 lt:∀x,X x->x<n
 ak:ab≠kb
 dv:∀x,blk v x->x≠ab/\x≠kb/\¬blk w x
 dw:∀x,blk w x->x≠ab/\x≠kb
 st:∀x∈ps,Kp (λx=>X x\/x<B) h n (λh n=>bZ h n x.1 x.2.st)
 len:wv.length=M.length
 mv:∀(i:Nat)(y:AV)(l:List (Int×Nat)),wv[i]?=some y->M[i]?=some l->Kp (λx=>X x\/x<B) h n (λh n=>SL h n 2 y WQ l)
 A:Kp X h n A
 nB:∀x,X x->B<=x
 Bn:B<=n
section
variable {B:Nat} {h h' h2 h3:AH} {n n' n2 n3:Nat} {o:Own} {party:Int} {A:HP} {ps:List (TS×aR)} {wv:List AV} {M:List (List (Int×Nat))} {l:List (Int×Nat)}
theorem AI.up(a:AI B h n o party A ps wv M l)(u:Up h n h' n'):AI B h' n' o party A ps wv M l:=
 ⟨(u.old _ (a.lt _ a.Xa)).trans a.ra,(u.old _ (a.lt _ a.Xl)).trans a.rl,a.gv.up u,a.gw.up u,a.gl.up u,a.mp.on (u.old _ (a.lt _ a.Xk)),a.Xa,a.Xk,a.Xl,a.Xv,a.Xw,a.Xy,λx hx=>Nat.lt_of_lt_of_le (a.lt x hx) u.le,a.ak,a.al,a.kl,a.dv,a.dw,a.dl,
  λx hx=>(a.st x hx).up u,a.len,λi y l h1 h2=>(a.mv i y l h1 h2).up u,a.A.up u,a.nB,Nat.le_trans a.Bn u.le⟩
theorem AI.ZL(a:AI B h n o party A ps wv M l){x:Nat}(hx:o.own x):o.X x:=by
 rcases hx with rfl|rfl|rfl|e|e|e
 .exact a.Xa
 .exact a.Xk
 .exact a.Xl
 .exact a.Xv x e
 .exact a.Xw x e
 .exact a.Xy x e
theorem AI.uU{A':HP}(a:AI B h n o party A ps wv M l)(k:Kp o.X h n A'):AI B h n o party A' ps wv M l:=
 ⟨a.ra,a.rl,a.gv,a.gw,a.gl,a.mp,a.Xa,a.Xk,a.Xl,a.Xv,a.Xw,a.Xy,a.lt,a.ak,a.al,a.kl,a.dv,a.dw,a.dl,a.st,a.len,a.mv,k,a.nB,a.Bn⟩
theorem AI.JN(a:AI B h n o party A ps wv M l){L:Nat}(hX:o.X L)(hL:¬o.own L)(r:AO):AI B (h.set L r) n o party A ps wv M l:=by
 have ne:∀x,o.own x->(h.set L r).get x=h.get x:=λx hx=>ay λe=>hL (by rw[<-e];exact hx);have kp:∀{Y:Nat->Prop}{E:HP},Y L->Kp Y h n E->Kp Y (h.set L r) n E:=λy k=>k.set (.inl y) (Nat.le_refl _);exact⟨(ne _ (.inl rfl)).trans a.ra,(ne _ (.inr (.inr (.inl rfl)))).trans a.rl,a.gv.on (Nat.le_refl _) λx _ hx=>ne x (.inr (.inr (.inr (.inl hx)))),a.gw.on (Nat.le_refl _) λx _ hx=>ne x (.inr (.inr (.inr (.inr (.inl hx))))),a.gl.on (Nat.le_refl _) λx _ hx=>ne x (.inr (.inr (.inr (.inr (.inr hx))))),a.mp.on (ne _ (.inr (.inl rfl))),a.Xa,a.Xk,a.Xl,a.Xv,a.Xw,a.Xy,a.lt,a.ak,a.al,a.kl,a.dv,a.dw,a.dl,
  λx hx=>kp (.inl hX) (a.st x hx),a.len,λi y l h1 h2=>kp (.inl hX) (a.mv i y l h1 h2),kp hX a.A,a.nB,a.Bn⟩
theorem AI.afD(a:AI B h n o party A ps wv M l)(r:AO):AI B (h.set n r) (n+1) {o with X:=λx=>o.X x\/x=n} party A ps wv M l:=by
 have u:Up h n (h.set n r) (n+1):=by exact aH
 have b:=a.up u;have kp:∀{Y:Nat->Prop}{E:HP},Kp Y h n E->Kp (λx=>Y x\/x=n) (h.set n r) (n+1) E:=λ{Y E} k=>
  (k.le λx hx (e:Y x\/x=n)=>e.elim id (by omega)).up u
 have ZM:∀{E:HP},Kp (λx=>o.X x\/x<B) h n E->Kp (λx=>(o.X x\/x=n)\/x<B) (h.set n r) (n+1) E:=λk=>(kp k).le λx _ e=>by
  rcases e with(e|e)|e
  .exact .inl (.inl e)
  .exact .inr e
  .exact .inl (.inr e)
 refine⟨b.ra,b.rl,b.gv,b.gw,b.gl,b.mp,.inl a.Xa,.inl a.Xk,.inl a.Xl,λx hx=>.inl (a.Xv x hx),λx hx=>.inl (a.Xw x hx),λx hx=>.inl (a.Xy x hx),λx hx=>?_,a.ak,a.al,a.kl,a.dv,a.dw,a.dl,λx hx=>ZM (a.st x hx),a.len,λi y l h1 h2=>ZM (a.mv i y l h1 h2),kp a.A,λx hx=>?_,by have:=a.Bn;omega⟩
 .rcases hx with hx|hx
  .have:=a.lt x hx;omega
  .omega
 .have:=a.Bn
  rcases hx with hx|hx
  .exact a.nB x hx
  .omega
theorem AI.pos(a:AI B h n o party A ps wv M l){ob:AO}{tq:TS}{q:aR}{v':AV}(hm:uw (h.set o.kb ob) o.kb AV.s (sJ ((ps++[(tq,q)]).map (·.2)) 0))(u:Up (h.set o.kb ob) n h2 n2)(k:Kp (λx=>o.X x\/x<B) h n (λh n=>bZ h n tq q.st))
 (g:Gr h3 n3 45 5 v' Ei (ps++[(tq,q)]))(le:n2<=n3)(s:∀x,x<n2->¬blk o.v x->h3.get x=h2.get x)(b:∀x,blk v' x->blk o.v x\/n2<=x):
 h3.get o.ab=some (.row 150 [.i .i64 party,o.v,o.w])/\AI B (h3.set o.ab (.row 150 [.i .i64 party,v',o.w])) n3 {o with v:=v',X:=λx=>o.X x\/blk v' x} party A (ps++[(tq,q)]) wv M l:=by
 have hn:=u.le;have old:∀x,x<n->x≠o.kb->¬blk o.v x->h3.get x=h.get x:=λx hx h1 h2=>by rw[s x (by omega) h2,u.old x hx,ay h1]
 have new:∀x,blk v' x->x<n->blk o.v x:=λx hx hl=>(b x hx).elim id (by omega);have lt:=a.lt;have hA:=a.lt _ a.Xa;have hK:=a.lt _ a.Xk;have hL:=a.lt _ a.Xl;have SY:∀{Y:Nat->Prop}{E:HP},(∀x,o.X x->Y x)->Kp Y h n E->Kp (λx=>Y x\/blk v' x) (h3.set o.ab (.row 150 [.i .i64 party,v',o.w])) n3 E:=λ{Y E} XY kb=>
  (kb.le λx hx (e:Y x\/blk v' x)=>e.elim id λe=>XY x (a.Xv x (new x e hx))).on (by omega) λx hx e=>by
   have e1:¬o.X x:=λk=>e (.inl (XY x k));rw[ay (λk=>e1 (by rw[k];exact a.Xa)),old x hx (λk=>e1 (by rw[k];exact a.Xk)) λk=>e1 (a.Xv x k)]
 have kp:∀{E:HP},Kp (λx=>o.X x\/x<B) h n E->Kp (λx=>(o.X x\/blk v' x)\/x<B) (h3.set o.ab (.row 150 [.i .i64 party,v',o.w])) n3 E:=λk=>(SY (λ_ h=>.inl h) k).le λx _ e=>by
  rcases e with(e|e)|e
  .exact .inl (.inl e)
  .exact .inr e
  .exact .inl (.inr e)
 have nB':∀x,o.X x\/blk v' x->B<=x:=λx hx=>by
  have:=a.Bn;rcases hx with e|e
  .exact a.nB x e
  .rcases b x e with e|e
   .exact a.nB x (a.Xv x e)
   .omega
 have Bn':B<=n3:=by have:=a.Bn;omega
 have blw:∀x,blk o.w x->x<n:=λx hx=>a.lt x (a.Xw x hx);have bll:∀x,blk o.lv x->x<n:=λx hx=>a.lt x (a.Xy x hx);have ne:∀x,blk v' x->x≠o.ab/\x≠o.kb/\x≠o.lb/\¬blk o.w x/\¬blk o.lv x:=λx hx=>by
  rcases b x hx with e|e
  .exact a.dv x e
  .exact⟨by omega,by omega,by omega,λk=>by have:=blw x k;omega,λk=>by have:=bll x k;omega⟩
 have dva:∀x,x=o.ab\/x=o.kb\/x=o.lb->¬blk o.v x:=λx hx k=>by
  obtain⟨h1,h2,h3,_⟩:=a.dv x k;rcases hx with e|e|e<;>contradiction
 refine⟨(old _ hA a.ak (dva _ (.inl rfl))).trans a.ra,⟨aG,?_,?_,?_,?_,?_,.inl a.Xa,.inl a.Xk,.inl a.Xl,λx hx=>.inr hx,λx hx=>.inl (a.Xw x hx),λx hx=>.inl (a.Xy x hx),λx hx=>?_,a.ak,a.al,a.kl,ne,a.dw,a.dl,λx hx=>?_,a.len,λi y l h1 h2=>kp (a.mv i y l h1 h2),SY (λ_ h=>h) a.A,nB',Bn'⟩⟩
 .show Tr.get _ o.lb=_
  rw[ay (Ne.symm a.al),old _ hL (Ne.symm a.kl) (dva _ (.inr (.inr rfl)))];exact a.rl
 .exact g.on (Nat.le_refl _) λx _ hx=>ay (ne x hx).1
 .exact a.gw.on (by omega) λx hx hb=>by
   rw[ay (a.dw x hb).1,old x hx (a.dw x hb).2.1 λk=>(a.dv x k).2.2.2.1 hb]
 .exact a.gl.on (by omega) λx hx hb=>by
   rw[ay (a.dl x hb).1,old x hx (a.dl x hb).2.1 λk=>(a.dv x k).2.2.2.2 hb]
 .exact hm.on (by rw[ay (Ne.symm a.ak),s _ (by omega) (dva _ (.inr (.inl rfl))),u.old _ hK])
 .rcases hx with hx|hx
  .have:=a.lt x hx;omega
  .have:=g.fH hx;exact this
 .rcases List.mem_append.1 hx with hx|hx
  .exact kp (a.st x hx)
  .simp at hx;subst hx;exact kp k
theorem AI.move(a:AI B h n o party A ps wv M l){m:Int}{j:Nat}{v':AV}(u:Up h n h2 n2)(g:Gr h3 n3 223 2 v' WQ (l++[(m,j)]))(le:n2<=n3)(s:∀x,x<n2->¬blk o.lv x->h3.get x=h2.get x)(b:∀x,blk v' x->blk o.lv x\/n2<=x):
 h3.get o.lb=some (.row 221 [o.lv])/\AI B (h3.set o.lb (.row 221 [v'])) n3 {o with lv:=v',X:=λx=>o.X x\/blk v' x} party A ps wv M (l++[(m,j)]):=by
 have hn:=u.le;have old:∀x,x<n->¬blk o.lv x->h3.get x=h.get x:=λx hx h2=>by rw[s x (by omega) h2,u.old x hx]
 have new:∀x,blk v' x->x<n->blk o.lv x:=λx hx hl=>(b x hx).elim id (by omega);have hA:=a.lt _ a.Xa;have hK:=a.lt _ a.Xk;have hL:=a.lt _ a.Xl;have SY:∀{Y:Nat->Prop}{E:HP},(∀x,o.X x->Y x)->Kp Y h n E->Kp (λx=>Y x\/blk v' x) (h3.set o.lb (.row 221 [v'])) n3 E:=λ{Y E} XY kb=>
  (kb.le λx hx (e:Y x\/blk v' x)=>e.elim id λe=>XY x (a.Xy x (new x e hx))).on (by omega) λx hx e=>by
   have e1:¬o.X x:=λk=>e (.inl (XY x k));rw[ay (λk=>e1 (by rw[k];exact a.Xl)),old x hx λk=>e1 (a.Xy x k)]
 have kp:∀{E:HP},Kp (λx=>o.X x\/x<B) h n E->Kp (λx=>(o.X x\/blk v' x)\/x<B) (h3.set o.lb (.row 221 [v'])) n3 E:=λk=>(SY (λ_ h=>.inl h) k).le λx _ e=>by
  rcases e with(e|e)|e
  .exact .inl (.inl e)
  .exact .inr e
  .exact .inl (.inr e)
 have nB':∀x,o.X x\/blk v' x->B<=x:=λx hx=>by
  have:=a.Bn;rcases hx with e|e
  .exact a.nB x e
  .rcases b x e with e|e
   .exact a.nB x (a.Xy x e)
   .omega
 have Bn':B<=n3:=by have:=a.Bn;omega
 have blw:∀x,blk o.w x->x<n:=λx hx=>a.lt x (a.Xw x hx);have blv:∀x,blk o.v x->x<n:=λx hx=>a.lt x (a.Xv x hx);have ne:∀x,blk v' x->x≠o.ab/\x≠o.kb/\x≠o.lb:=λx hx=>by
  rcases b x hx with e|e
  .exact a.dl x e
  .exact⟨by omega,by omega,by omega⟩
 have nw:∀x,blk o.w x->¬blk v' x:=λx hx k=>by
  rcases b x k with e|e
  .exact(a.dw x hx).2.2.2 e
  .have:=blw x hx;omega
 have nv:∀x,blk o.v x->¬blk v' x:=λx hx k=>by
  rcases b x k with e|e
  .exact(a.dv x hx).2.2.2.2 e
  .have:=blv x hx;omega
 have dla:∀x,x=o.ab\/x=o.kb\/x=o.lb->¬blk o.lv x:=λx hx k=>by
  obtain⟨h1,h2,h3⟩:=a.dl x k;rcases hx with e|e|e<;>contradiction
 refine⟨(old _ hL (dla _ (.inr (.inr rfl)))).trans a.rl,⟨?_,aG,?_,?_,?_,?_,.inl a.Xa,.inl a.Xk,.inl a.Xl,λx hx=>.inl (a.Xv x hx),λx hx=>.inl (a.Xw x hx),λx hx=>.inr hx,λx hx=>?_,a.ak,a.al,a.kl,λx hx=>?_,λx hx=>?_,ne,λx hx=>kp (a.st x hx),a.len,λi y l h1 h2=>kp (a.mv i y l h1 h2),SY (λ_ h=>h) a.A,nB',Bn'⟩⟩
 .show Tr.get _ o.ab=_
  rw[ay a.al,old _ hA (dla _ (.inl rfl))];exact a.ra
 .exact a.gv.on (by omega) λx hx hb=>by
   rw[ay (a.dv x hb).2.2.1,old x hx (a.dv x hb).2.2.2.2]
 .exact a.gw.on (by omega) λx hx hb=>by
   rw[ay (a.dw x hb).2.2.1,old x hx (a.dw x hb).2.2.2]
 .exact g.on (Nat.le_refl _) λx _ hx=>ay (ne x hx).2.2
 .exact a.mp.on (by rw[ay a.kl,old _ hK (dla _ (.inr (.inl rfl)))])
 .rcases hx with hx|hx
  .have:=a.lt x hx;omega
  .exact g.fH hx
 .obtain⟨h1,h2,h3,h4,h5⟩:=a.dv x hx
  exact⟨h1,h2,h3,h4,nv x hx⟩
 .obtain⟨h1,h2,h3,h4⟩:=a.dw x hx
  exact⟨h1,h2,h3,nw x hx⟩
theorem AI.row(a:AI B h n o party A ps wv M l){v':AV}(u:Up h n h2 n2)(g:Gr h3 n3 221 1 v' one (wv++[o.lv]))(le:n2<=n3)(s:∀x,x<n2->¬blk o.w x->h3.get x=h2.get x)(b:∀x,blk v' x->blk o.w x\/n2<=x):
 h3.get o.ab=some (.row 150 [.i .i64 party,o.v,o.w])/\AP B (h3.set o.ab (.row 150 [.i .i64 party,o.v,v'])) n3 o.ab o.kb o.v v' (λx=>(o.X x/\¬blk o.lv x)\/blk v' x) party A ps (wv++[o.lv]) (M++[l]):=by
 have hn:=u.le;have old:∀x,x<n->¬blk o.w x->h3.get x=h.get x:=λx hx h2=>by rw[s x (by omega) h2,u.old x hx]
 have new:∀x,blk v' x->x<n->blk o.w x:=λx hx hl=>(b x hx).elim id (by omega);have hA:=a.lt _ a.Xa;have hK:=a.lt _ a.Xk;have blv:∀x,blk o.v x->x<n:=λx hx=>a.lt x (a.Xv x hx);have bll:∀x,blk o.lv x->x<n:=λx hx=>a.lt x (a.Xy x hx);have ne:∀x,blk v' x->x≠o.ab/\x≠o.kb/\¬blk o.v x/\¬blk o.lv x:=λx hx=>by
  rcases b x hx with e|e
  .obtain⟨h1,h2,h3,h4⟩:=a.dw x e
   exact⟨h1,h2,λk=>(a.dv x k).2.2.2.1 e,h4⟩
  .exact⟨by omega,by omega,λk=>by have:=blv x k;omega,λk=>by have:=bll x k;omega⟩
 have SY:∀{Y:Nat->Prop}{E:HP},(∀x,o.X x->Y x)->Kp Y h n E->Kp (λx=>(Y x/\¬blk o.lv x)\/blk v' x) (h3.set o.ab (.row 150 [.i .i64 party,o.v,v'])) n3 E:=λ{Y E} XY kb=>
  (kb.le λx hx (e:(Y x/\¬blk o.lv x)\/blk v' x)=>e.elim (·.1) λe=>XY x (a.Xw x (new x e hx))).on (by omega) λx hx e=>by
   have e2:x≠o.ab:=λk=>e (.inl ⟨XY x (by rw[k];exact a.Xa),λk2=>(a.dl x k2).1 k⟩);rw[ay e2,old x hx λk=>e (.inl ⟨XY x (a.Xw x k),(a.dw x k).2.2.2⟩)]
 have perm:∀{E:HP}{h n},Kp (λx=>((o.X x\/x<B)/\¬blk o.lv x)\/blk v' x) h n E->Kp (λx=>((o.X x/\¬blk o.lv x)\/blk v' x)\/x<B) h n E:=λk=>k.le λx _ e=>by
  rcases e with(⟨e,e2⟩|e)|e
  .exact .inl ⟨.inl e,e2⟩
  .exact .inr e
  .exact .inl ⟨.inr e,λk=>by have:=a.nB x (a.Xy x k);omega⟩
 have kp:∀{E:HP},Kp (λx=>o.X x\/x<B) h n E->Kp (λx=>((o.X x/\¬blk o.lv x)\/blk v' x)\/x<B) (h3.set o.ab (.row 150 [.i .i64 party,o.v,v'])) n3 E:=λk=>perm (SY (λ_ h=>.inl h) k);have dwa:∀x,x=o.ab\/x=o.kb->¬blk o.w x:=λx hx k=>by
  obtain⟨h1,h2,_⟩:=a.dw x k;rcases hx with e|e<;>contradiction
 refine⟨(old _ hA (dwa _ (.inl rfl))).trans a.ra,⟨aG,?_,?_,?_,.inl ⟨a.Xa,λk=>(a.dl _ k).1 rfl⟩,.inl ⟨a.Xk,λk=>(a.dl _ k).2.1 rfl⟩,λx hx=>.inl ⟨a.Xv x hx,(a.dv x hx).2.2.2.2⟩,λx hx=>.inr hx,λx hx=>?_,a.ak,λx hx=>?_,λx hx=>⟨(ne x hx).1,(ne x hx).2.1⟩,λx hx=>kp (a.st x hx),by simp[a.len],λi y l1 h1 h2=>?_,SY (λ_ h=>h) a.A,λx hx=>?_,by have:=a.Bn;omega⟩⟩
 .exact a.gv.on (by omega) λx hx hb=>by
   rw[ay (a.dv x hb).1,old x hx (a.dv x hb).2.2.2.1]
 .exact g.on (Nat.le_refl _) λx _ hx=>ay (ne x hx).1
 .exact a.mp.on (by rw[ay (Ne.symm a.ak),old _ hK (dwa _ (.inr rfl))])
 .rcases hx with hx|hx
  .have:=a.lt x hx.1;omega
  .exact g.fH hx
 .obtain⟨h1,h2,_,_,h5⟩:=a.dv x hx
  exact⟨h1,h2,λk=>(ne x k).2.2.1 hx⟩
 .have hlen:=a.len
  by_cases hi:i<wv.length
  .rw[List.getElem?_append_left hi]at h1
   rw[List.getElem?_append_left (by omega)]at h2;exact kp (a.mv i y l1 h1 h2)
  .have hi2:i<(wv++[o.lv]).length:=(List.getElem?_eq_some_iff.1 h1).1
   obtain rfl:i=wv.length:=by simp at hi2;omega
   rw[List.getElem?_append_right (Nat.le_refl _)]at h1;rw[List.getElem?_append_right (by omega),hlen]at h2;simp at h1 h2;subst h1;subst h2;have gl':Gr (h3.set o.ab (.row 150 [.i .i64 party,o.v,v'])) n3 223 2 o.lv WQ l:=a.gl.on (by omega) λx hx hb=>by
    rw[ay (a.dl x hb).1,old x hx λk=>(a.dw x k).2.2.2 hb]
   refine gl'.sl.kp λx hx e=>?_;rcases e with(⟨_,e⟩|e)|e
   .exact e hx
   .exact(ne x e).2.2.2 hx
   .have:=a.nB x (a.Xy x hx);omega
 .have:=a.Bn
  rcases hx with hx|hx
  .exact a.nB x hx.1
  .rcases b x hx with e|e
   .exact a.nB x (a.Xw x e)
   .omega
end
section
variable {B:Nat} {h h':AH} {n n' ab kb:Nat} {v w:AV} {X:Nat->Prop} {party:Int} {A:HP} {ps:List (TS×aR)} {wv:List AV} {M:List (List (Int×Nat))}
theorem AP.up(a:AP B h n ab kb v w X party A ps wv M)(u:Up h n h' n'):AP B h' n' ab kb v w X party A ps wv M:=
 ⟨(u.old _ (a.lt _ a.Xa)).trans a.ra,a.gv.up u,a.gw.up u,a.mp.on (u.old _ (a.lt _ a.Xk)),a.Xa,a.Xk,a.Xv,a.Xw,λx hx=>Nat.lt_of_lt_of_le (a.lt x hx) u.le,a.ak,a.dv,a.dw,
  λx hx=>(a.st x hx).up u,a.len,λi y l h1 h2=>(a.mv i y l h1 h2).up u,a.A.up u,a.nB,Nat.le_trans a.Bn u.le⟩
theorem AP.uU{A':HP}(a:AP B h n ab kb v w X party A ps wv M)(k:∀h n,A h n->A' h n):AP B h n ab kb v w X party A' ps wv M:=
 ⟨a.ra,a.gv,a.gw,a.mp,a.Xa,a.Xk,a.Xv,a.Xw,a.lt,a.ak,a.dv,a.dw,a.st,a.len,a.mv,a.A.wk k,a.nB,a.Bn⟩
theorem AP.start(a:AP B h n ab kb v w X party A ps wv M):AI B (h.set n (.row 221 [.k 1])) (n+1) ⟨ab,kb,n,v,w,.k 1,λx=>X x\/x=n⟩ party A ps wv M []:=by
 have u:Up h n (h.set n (.row 221 [.k 1])) (n+1):=by exact aH
 have hlt:=a.lt;have hA:=a.lt _ a.Xa;have hK:=a.lt _ a.Xk;have kp:∀{Y:Nat->Prop}{E:HP},Kp Y h n E->Kp (λx=>Y x\/x=n) (h.set n (.row 221 [.k 1])) (n+1) E:=λ{Y E} k=>
  (k.le λx hx (e:Y x\/x=n)=>e.elim id (by omega)).up u
 have ZM:∀{E:HP},Kp (λx=>X x\/x<B) h n E->Kp (λx=>(X x\/x=n)\/x<B) (h.set n (.row 221 [.k 1])) (n+1) E:=λk=>(kp k).le λx _ e=>by
  rcases e with(e|e)|e
  .exact .inl (.inl e)
  .exact .inr e
  .exact .inl (.inr e)
 have b:=a.up u;refine⟨b.ra,aG,b.gv,b.gw,Gr.nil λ_=>rfl,b.mp,.inl a.Xa,.inl a.Xk,.inr rfl,λx hx=>.inl (a.Xv x hx),λx hx=>.inl (a.Xw x hx),λx hx=>absurd hx fE,λx hx=>?_,a.ak,by show ab≠n;omega,by show kb≠n;omega,λx hx=>?_,λx hx=>?_,λx hx=>absurd hx fE,λx hx=>ZM (a.st x hx),a.len,λi y l h1 h2=>ZM (a.mv i y l h1 h2),kp a.A,λx hx=>?_,by have:=a.Bn;omega⟩
 .rcases hx with hx|hx
  .have:=a.lt x hx;omega
  .omega
 .obtain⟨h1,h2,h3⟩:=a.dv x hx
  have:=a.lt x (a.Xv x hx);exact⟨h1,h2,by show x≠n;omega,h3,fE⟩
 .obtain⟨h1,h2⟩:=a.dw x hx
  have:=a.lt x (a.Xw x hx);exact⟨h1,h2,by show x≠n;omega,fE⟩
 .have:=a.Bn
  rcases hx with hx|hx
  .exact a.nB x hx
  .omega
theorem AP.fin(a:AP B h n ab kb v w X party A ps wv M):Kp (λx=>x<B) h n (λh n=>zM h n v w ps wv M):=λh' n' h1 h2=>by
 have wk:∀{E:HP},Kp (λx=>X x\/x<B) h n E->E h' n':=λk=>(k.le λx _ e=>.inr e) h' n' h1 h2;have kv:Kp (λx=>x<B) h n (λh n=>SL h n 5 v Ei ps):=a.gv.sl.kp λx hx=>by have:=a.nB x (a.Xv x hx);omega
 have kw:Kp (λx=>x<B) h n (λh n=>SL h n 1 w one wv):=a.gw.sl.kp λx hx=>by have:=a.nB x (a.Xw x hx);omega
 exact⟨kv h' n' h1 h2,λx hx=>wk (a.st x hx),kw h' n' h1 h2,a.len,λi y l e1 e2=>wk (a.mv i y l e1 e2)⟩
end
end
end
section
noncomputable section
theorem Ny:MU Tryz.prog 9 (AV.s):=by
 refine⟨λa b=>⟨qF a b,by kernel_rfl,by rw[iQ];simp⟩,λa=>by kernel_rfl,λa=>rfl⟩
section
variable {B:Nat} {h h':AH} {n n':Nat} {o:Own} {v:CS} {C:aA} {p:aR} {party:Int} {A:HP} {ps:List (TS×aR)} {wv:List AV} {M:List (List (Int×Nat))} {l:List (Int×Nat)} {Q:PQ}
theorem Nz(K:Nat){mb rb eb:Nat}{tq:TS}{q:aR}{m:Int}{F:Fm}{g:FuncId}(a:AI B h n o party A ps wv M l)(hA:∀h n,A h n->h.get mb=some (.row 230 [.m o.kb])/\mb<n/\h.get rb=some (.row 150 [.i .i64 0,.k 1,.k 1])/\rb<n/\h.get eb=some (.row 31 [.i .i64 0])/\eb<n)
 (kq:Kp (λx=>o.X x\/x<B) h n (λh n=>bZ h n tq q.st))(hq:aM C q.st)(hps:∀x∈ps,aM C x.2.st)(nps:ps.length<=1500)(nl:l.length<=100000)
 (f6:lk F 6=some (.p rb 0))(f7:lk F 7=some (.p eb 0))(f8:lk F 8=some (.p o.ab 0))(f9:lk F 9=some (.p mb 0))(f11:lk F 11=some (.p o.lb 0))(f12:lk F 12=some (.i .i64 m))(f13:∃b,lk F 13=some (.p b 0)/\h.get b=some (.row 45 (tq.pv q))/\b<n/\¬o.X b)
 (hR:∀o' ps' j h' n' F',AI B h' n' o' party A ps' wv M (l++[(m,j)])->o'.ab=o.ab->o'.kb=o.kb->o'.lb=o.lb->(ps'=ps\/(q∉ps.map (·.2)/\ps.length≠1500/\ps'=ps++[(tq,q)]))->(ps'.map (·.2))[j]?=some q->n<=n'->(∀x,x<n->¬o.own x->h'.get x=h.get x)->(∀x,o.X x->o'.X x)->(∀x,o'.own x->o.own x\/n<=x)->Q .bV h' n' F')
 (hE:q∉ps.map (·.2)->ps.length=1500->∀h' n' F',n<=n'->h'.get rb=some (.row 150 [.i .i64 0,.k 1,.k 1])->h'.get eb=some (.row 31 [.i .i64 3])->(∀x,x<n->x≠rb->x≠eb->h'.get x=h.get x)->Q .ret h' n' F')(heb:¬o.X eb)(hrb:¬o.X rb)(afL:rb≠eb):sK Tryz.prog (yl Tryz.prog sl0 19) g 100000 [.c FZ] .bV (EF (K+6)) h n F Q:=by
 obtain⟨b13,f13,WR,n13,x13⟩:=f13;simp (disch:=omega) only[go_sem,FZ,f13,WR];rw[aU];refine Ie K kq.use (hq.pb q.own) λh2 n2 u2=>?_;have a2:=a.up u2;have kq2:=kq.up u2;have e2:=u2.le;have WR:=(u2.old b13 n13).trans WR;obtain⟨c1,c2,c3,c4,c5,c6⟩:=hA _ _ a2.A.use;have ra:=a2.ra;have rl:=a2.rl;have JO:=a2.mp.look (k:=pJ q) Ny (z:=some (.i .i64 0)) (ok:=true) rfl;have Vt:∀x∈ps.map (·.2),aM C x.st:=λx hx=>by
  obtain⟨y,hy,rfl⟩:=List.mem_map.1 hx;exact hps y hy
 cases hk:nu (sJ (ps.map (·.2)) 0) (pJ q)with
 |some w=>
  obtain⟨j,hj,rfl⟩:=Nt hq Vt hk;rw[hk]at JO;simp only[bF,Nat.zero_add]at JO;simp (disch:=omega) only[go_sem,jN,f9,f11,f12,c1,JO,rl];refine jW (l2:=[(m,j)]) (a2.gl.up aH) ⟨rfl,?_⟩ (by simp;omega) λv' h4 n4 g4 l4 s4 b4=>?_
  .show bnd (iA (Tr.get _ _) 0 _) (λr=>mH (Nat.mul 1 2) r)=_
   rw[aG];rfl
  obtain⟨q1,q2⟩:=a2.move (show Up _ _ _ _ by exact aH) g4 l4 s4 b4;simp (disch:=omega) only[go_sem,jN,f11,q1,g4.cl];refine hR _ ps j _ _ _ q2 rfl rfl rfl (.inl rfl) hj (by omega) (λx hx hX=>?_) (λx hx=>.inl hx) λx hx=>?_
  .rw[ay (λe=>hX (.inr (.inr (.inl e)))),s4 x (by omega) (λe=>hX (.inr (.inr (.inr (.inr (.inr e)))))),ay (by omega),u2.old x hx]
  .rcases hx with e|e|e|e|e|e
   .exact .inl (.inl e)
   .exact .inl (.inr (.inl e))
   .exact .inl (.inr (.inr (.inl e)))
   .exact .inl (.inr (.inr (.inr (.inl e))))
   .exact .inl (.inr (.inr (.inr (.inr (.inl e)))))
   .rcases b4 x e with e|e
    .exact .inl (.inr (.inr (.inr (.inr (.inr e)))))
    .exact .inr (by omega)
 |none=>
  have hnew:=Nu hk;rw[hk]at JO;simp only[bF,Nat.zero_add]at JO;simp (disch:=omega) only[go_sem,jN,f9,c1,JO,f8,ra,a2.gv.len];by_cases SV:ps.length=1500
  .rw[decide_eq_true (by omega)]
   simp (disch:=omega) only[go_sem,jN,f6,f7,c3,c5];refine hE hnew SV _ _ _ e2 ?_ ?_ λx hx h1 h2=>?_
   .rw[ay afL,aG]
   .rw[aG]
   .rw[ay h2,ay h1,u2.old x hx]
  .rw[decide_eq_false (by omega)]
   obtain⟨ob,m1,m2⟩:=a2.mp.put (k:=pJ q) (n:=n2) Ny (.i .i64 (ps.length:Nat));rw[Nv hk]at m2;have hmap:sJ (ps.map (·.2)) 0++[(pJ q,AV.i .i64 (ps.length:Nat))]=sJ ((ps++[(tq,q)]).map (·.2)) 0:=by rw[List.map_append,List.map_cons,List.map_nil,Nw];simp
   rw[hmap]at m2;have hXa:=a2.ak;have alJ:b13≠o.kb:=λe=>x13 (by rw[e];exact a.Xk);simp (disch:=omega) only[go_sem,jN,f9,c1,m1,f8,f13,ra,WR];have gk:=a2.gv.on (h':=h2.set o.kb ob) (Nat.le_refl _) λx _ hx=>ay (a2.dv x hx).2.1;refine jW (l2:=[(tq,q)]) (gk.up aH) ⟨rfl,?_⟩ (by simp;omega) λv5 h5 n5 g5 l5 s5 b5=>?_
   .show bnd (iA (Tr.get _ _) 0 _) (λr=>mH (Nat.mul 1 5) r)=_
    rw[aG];rfl
   obtain⟨q3,a5⟩:=a2.pos m2 (show Up (h2.set o.kb ob) n2 _ (n2+1) by exact aH) kq2 g5 l5 s5 b5;have rl5:=a5.rl;simp (disch:=omega) only[go_sem,jN,f8,q3,g5.cl,f11,f12,rl5];refine jW (l2:=[(m,ps.length)]) (a5.gl.up aH) ⟨rfl,?_⟩ (by simp;omega) λv' h4 n4 g4 l4 s4 b4=>?_
   .show bnd (iA (Tr.get _ _) 0 _) (λr=>mH (Nat.mul 1 2) r)=_
    rw[aG];rfl
   obtain⟨q1,q2⟩:=a5.move (show Up _ _ _ _ by exact aH) g4 l4 s4 b4;simp (disch:=omega) only[go_sem,jN,f11,q1,g4.cl];refine hR _ (ps++[(tq,q)]) ps.length _ _ _ q2 rfl rfl rfl (.inr ⟨hnew,SV,rfl⟩) ?_ (by omega) (λx hx hX=>?_) (λx hx=>.inl (.inl hx)) λx hx=>?_
   .rw[List.map_append,List.getElem?_append_right (by simp)];simp
   .rw[ay (λe=>hX (.inr (.inr (.inl e)))),s4 x (by omega) (λe=>hX (.inr (.inr (.inr (.inr (.inr e)))))),ay (by omega),ay (λe=>hX (.inl e)),s5 x (by omega) (λe=>hX (.inr (.inr (.inr (.inl e))))),ay (by omega),ay (λe=>hX (.inr (.inl e))),u2.old x hx]
   .rcases hx with e|e|e|e|e|e
    .exact .inl (.inl e)
    .exact .inl (.inr (.inl e))
    .exact .inl (.inr (.inr (.inl e)))
    .rcases b5 x e with e|e
     .exact .inl (.inr (.inr (.inr (.inl e))))
     .exact .inr (by omega)
    .exact .inl (.inr (.inr (.inr (.inr (.inl e)))))
    .rcases b4 x e with e|e
     .exact .inl (.inr (.inr (.inr (.inr (.inr e)))))
     .exact .inr (by omega)
end
end
end
section
noncomputable section
section
variable {B:Nat} {h h':AH} {n n':Nat} {o:Own} {v:CS} {C:aA} {tv:TS} {p:aR} {party:Int} {A:HP} {ps:List (TS×aR)} {wv:List AV} {M:List (List (Int×Nat))} {l:List (Int×Nat)} {Q:AV->AH->Nat->Prop}
theorem uK(C:aA)(party:Int)(q:aR):(C.oZ party q).length<=C.acts.length+2:=by
 have h1:∀n,(C.nY party q n).length<=n:=λn=>by
  unfold aA.nY;rw[List.length_map];exact Nat.le_trans (List.length_filter_le _ _) (by simp)
 have h2:(C.nW q).length<=2:=by
  unfold aA.nW;rw[List.length_append];split<;>split<;>simp
 unfold aA.oZ;rw[List.length_append];split
 .have:=h1 C.acts.length;omega
 .simp;omega
def S9:AV:=.agg [.i .i64 0,.k 1,.k 1]
def ZN(C:aA)(party:Int)(p:aR)(h:AH)(n:Nat)(Q:AV->AH->Nat->Prop):Prop:=
 (¬(0<=party/\party<C.aC/\aM C p.st)->∀h' n',Up h n h' n'->Q (.bS [S9,.i .i64 1]) h' n')/\
 (0<=party->party<C.aC->aM C p.st->h_ C party p->∀h' n',Up h n h' n'->Q (.bS [S9,.i .i64 3]) h' n')/\
 (0<=party->party<C.aC->aM C p.st->∀ps wv M v w h' n',eH C party p (ps.map (·.2)) M->Up h n h' n'->Kp (λx=>x<n) h' n' (λh n=>zM h n v w ps wv M)->Q (.bS [.agg [.i .i64 party,v,w],.i .i64 0]) h' n')
structure FA(n0:Nat)(kb mb:Nat)(v:CS)(C:aA)(h:AH)(n:Nat):Prop where
 rmb:h.get mb=some (.row 230 [.m kb])
 KG:mb<n
 ZO:h.get (n0+1+1)=some (.row 150 [.i .i64 0,.k 1,.k 1])
 JQ:n0+1+1<n
 ZP:h.get (n0+1+1+1)=some (.row 31 [.i .i64 0])
 ebn:n0+1+1+1<n
 rcb:h.get n0=some (.row 27 (v.av C))
 con:aZ h n v C
def FI(h:AH)(v:CS)(C:aA)(party:Int)(p:aR)(n n1 kb mb:Nat)(m:Nat)(h8:AH)(n8:Nat)(F:Fm):Prop:=∃(ps:List (TS×aR))(wv:List AV)(M:List (List (Int×Nat)))(vv ww:AV)(X:Nat->Prop),AP (n+4) h8 n8 (n1+1) kb vv ww X party (λh m=>FA n kb mb v C h m) ps wv M/\Eh C party p (ps.map (·.2)) M/\M.length+m=1500/\Up h n h8 n8/\F=[(1,.i .i64 party),(3,.p n 0),(6,.p (n+1+1) 0),(7,.p (n+1+1+1) 0),(8,.p (n1+1) 0),(9,.p mb 0),(10,.i .i64 (M.length:Nat))]
structure IB(pb cb tb:Nat)(v:CS)(C:aA)(party:Int)(q:TS×aR)(h:AH)(n:Nat):Prop where
 p:h.get pb=some (.row 45 (q.1.pv q.2))
 c:h.get cb=some (.row 27 (v.av C))
 t:h.get tb=some (.row 3 [.i .i64 party])
 pn:pb<n
 cn:cb<n
 tn:tb<n
def WS(st:LoopState)(pd:Option Code)(t:Tr AV):AO:=.lp st pd 74 t [51,52] (jy 74 0) (jB 74 0)
def FJ(h:AH)(v:CS)(C:aA)(party:Int)(p:aR)(n n1 kb mb lb L pb cb tb i:Nat)(q:TS×aR)(t:Tr AV)(M:List (List (Int×Nat)))(hJ:AH)(nJ:Nat)(done:List (Int×aR)):Prop:=
 ∃(o:Own)(ps:List (TS×aR))(wv:List AV)(l:List (Int×Nat)),AI (n+4) hJ nJ o party (λh m=>FA n kb mb v C h m/\IB pb cb tb v C party q h m) ps wv M l/\o.ab=n1+1/\o.kb=kb/\o.lb=lb/\o.X L/\¬o.own L/\hJ.get L=some (WS .ready none t)/\
  Eh C party p (ps.map (·.2)) M/\Row (ps.map (·.2)) l done/\ps[i]?=some q/\Up h n hJ nJ
def FE(h:AH)(C:aA)(party:Int)(p:aR)(n L:Nat)(t:Tr AV)(hJ:AH)(nJ:Nat):Prop:=h_ C party p/\hJ.get (n+1+1)=some (.row 150 [.i .i64 0,.k 1,.k 1])/\hJ.get (n+1+1+1)=some (.row 31 [.i .i64 3])/\hJ.get L=some (WS .done (some .ret) t)/\n+4<=L/\Up h n hJ nJ
theorem Ii(K:Nat)(hC:aZ h n v C)(ho:C.off.length<=1000000)(hS:bZ h n tv p.st)(hQ:ZN C party p h n Q):CW (EF (K+10)) 74 [.agg (v.av C),.i .i64 party,.agg (tv.pv p)] h n Q:=by
 obtain⟨lD,uO,KF⟩:=hQ;refine aD c74 rfl ?_;repeat' (first|(simp (disch:=omega) only[go_sem,ub.old,m74,CS.av,TS.pv])|(simp (disch:=omega) only[go_sem,m74,CS.av,TS.pv])|(refine aS ?_ ?_<;>(intro hb hd;rw[hb];clear hb))|(with_reducible refine aj ?_))
 rw[aU];refine DT _ (hC.up aH) ho (hS.up aH) λh1 n1 u1=>?_;have e1:=u1.le;cases hp:(decide (0<=party)&&decide (party<C.aC)&&C.dU p.st)with
 |false=>
  have hn:¬(0<=party/\party<C.aC/\aM C p.st):=λ⟨a,b,c⟩=>by
   rw[decide_eq_true a,decide_eq_true b,(dS C p.st).2 c]at hp;cases hp
  repeat' (first|(simp (disch:=omega) only[go_sem,ub.old,hp,u1.old])|(simp (disch:=omega) only[go_sem,hp,u1.old])|(refine aS ?_ ?_<;>(intro hb hd;rw[hb];clear hb))|(with_reducible refine aj ?_))
  exact lD hn _ _ aH
 |true=>
  simp only[Bool.and_eq_true,decide_eq_true_eq]at hp;obtain⟨⟨hp0,hp1⟩,hp2⟩:=hp;have ok:=(dS C p.st).1 hp2;have ok1:=aA.ok ok.con;have:=ok.lh;have:=ok.lu;have:=ok.lm;have:=ok1.dN;have:=ok1.jU;have:=ok1.kY;have r0:h1.get n=some (.row 27 (v.av C)):=by rw[u1.old n (by omega)];simp (disch:=omega) only[go_sem]
  have r1:h1.get (n+1)=some (.row 45 (tv.pv p)):=by rw[u1.old _ (by omega)];simp (disch:=omega) only[go_sem]
  have r2:h1.get (n+1+1)=some (.row 150 [.i .i64 0,.k 1,.k 1]):=by rw[u1.old _ (by omega)];simp (disch:=omega) only[go_sem]
  have r3:h1.get (n+1+1+1)=some (.row 31 [.i .i64 0]):=by rw[u1.old _ (by omega)];simp (disch:=omega) only[go_sem]
  have ux:Up h n h1 n1:=by exact aH
  have kC:Kp (λx=>n+4<=x) h1 n1 (λh n=>aZ h n v C):=Kp.up (n:=n+1+1+1+1) (Kp.JB (λh' n' u=>hC.up (Up.trans aH u)) λx hx=>hx) u1;have kS:Kp (λx=>n+4<=x) h1 n1 (λh n=>bZ h n tv p.st):=Kp.up (n:=n+1+1+1+1) (Kp.JB (λh' n' u=>hS.up (Up.trans aH u)) λx hx=>hx) u1;clear u1;repeat' (first|(simp (disch:=omega) only[go_sem,ub.old,r1,CS.av,TS.pv])|(simp (disch:=omega) only[go_sem,r1,CS.av,TS.pv])|(refine aS ?_ ?_<;>(intro hb hd;rw[hb];clear hb))|(with_reducible refine aj ?_))
  rw[bT];refine Ai _ (kS.up (show Up h1 n1 h1 (n1+3) by exact aH)).use (by omega) (by omega) (by omega) λZQ h2 n2 u2 k2=>?_;have e2:=u2.le;have q1:=(u2.old (n+1) (by omega)).trans r1;simp (disch:=omega) only[go_sem,q1,r1,TS.pv,TS.av];generalize hh:Tr.set (Tr.set (Tr.set (Tr.set h2 n1 _) (n1+1) _) (n1+1) _) n2 _=h3;have u3:Up h1 n1 h3 (n2+1):=by rw[<-hh];exact aH
  have g1:h3.get n1=some (.row 45 (ZQ.pv p)):=by rw[<-hh];simp (disch:=omega) only[go_sem]
  have g2:h3.get (n1+1)=some (.row 150 [.i .i64 party,.sl n1 0 0 1 (some 1),.k 1]):=by rw[<-hh];simp (disch:=omega) only[go_sem]
  have g3:uw h3 n2 AV.s []:=by rw[<-hh];exact uw.new _
  have k3:Kp (λx=>x<n1+3\/x=n2) h3 (n2+1) (λh n=>bZ h n ZQ p.st):=by
   rw[<-hh];have k2':=k2.le (Y:=λx=>x<n1+3\/x=n2) λx hx e=>by rcases e with e|e<;>omega
   exact((((k2'.set (.inl (.inl (by omega))) (Nat.le_refl _)).set (.inl (.inl (by omega))) (Nat.le_refl _)).set (.inl (.inl (by omega))) (Nat.le_refl _)).set (.inl (.inr rfl)) (Nat.le_succ _))
  clear hh;rw[aU];refine Ie _ (kS.up u3).use (ok.pb p.own) λh4 n4 u4=>?_;have e4:=u4.le;obtain⟨ob,m1,m2⟩:=(g3.on (u4.old n2 (by omega))).put (k:=pJ p) (n:=n4) Ny (.i .i64 0);simp (disch:=omega) only[go_sem,m1];generalize hh:Tr.set (Tr.set (Tr.set h4 n2 ob) n4 _) n4 _=h5;have s5:∀x,x<n4->x≠n2->h5.get x=h4.get x:=λx hx hne=>by rw[<-hh];simp (disch:=omega) only[go_sem]
  have r5:h5.get n4=some (.row 230 [.m n2]):=by rw[<-hh];exact aG
  have o5:∀x,x<n1->h5.get x=h1.get x:=λx hx=>by rw[s5 x (by omega) (by omega),u4.old x (by omega),u3.old x hx]
  have ap:AP (n+4) h5 (n4+1) (n1+1) n2 (.sl n1 0 0 1 (some 1)) (.k 1) (λx=>x=n1\/x=n1+1\/x=n2) party (λh m=>FA n n2 n4 v C h m) [(ZQ,p)] [] []:=by
   refine⟨?_,?_,Gr.nil λ_=>rfl,?_,.inr (.inl rfl),.inr (.inr rfl),λx hx=>.inl (eB.1 hx),λx hx=>absurd hx fE,λx hx=>by omega,by omega,λx hx=>?_,λx hx=>absurd hx fE,λx hx=>?_,rfl,(λi y l h=>by cases h),?_,(λx hx=>by omega),by omega⟩
   .rw[s5 _ (by omega) (by omega),u4.old _ (by omega)];exact g2
   .refine Gr.all (l:=[(ZQ,p)]) (λ_=>rfl) (by omega) ?_ rfl
    rw[s5 _ (by omega) (by omega),u4.old _ (by omega)];exact g1
   .have m3:uw h5 n2 AV.s (Dx [] (pJ p) (.i .i64 0)):=m2.on (by rw[<-hh];simp (disch:=omega) only[go_sem])
    exact m3
   .rw[eB]at hx
    exact⟨by omega,by omega,fE⟩
   .simp at hx;subst hx
    rw[<-hh];have k4:=(k3.up u4).le (Y:=λx=>(x=n1\/x=n1+1\/x=n2)\/x<n+4) λx hx e=>by omega
    exact((k4.set (.inl (.inl (.inr (.inr rfl)))) (Nat.le_refl _)).set (.inr (Nat.le_refl _)) (Nat.le_refl _)).set (m:=n4+1) (.inr (Nat.le_refl _)) (Nat.le_succ _)
   .intro h' n' hn he
    have cn:aZ h' n' v C:=by
     have k5:Kp (λx=>n+4<=x) h5 (n4+1) (λh n=>aZ h n v C):=(kC.on (h':=h5) (n':=n4+1) (by omega) λx hx _=>o5 x hx);exact(k5.le (Y:=λx=>x=n1\/x=n1+1\/x=n2) λx _ e=>by omega) h' n' hn he
    exact⟨(he n4 (by omega) (by omega)).trans r5,by omega,(he _ (by omega) (by omega)).trans ((o5 _ (by omega)).trans r2),by omega,(he _ (by omega) (by omega)).trans ((o5 _ (by omega)).trans r3),by omega,(he _ (by omega) (by omega)).trans ((o5 _ (by omega)).trans r0),cn⟩
  have WT:Up h n h5 (n4+1):=⟨by omega,λx hx=>(o5 x (by omega)).trans (ux.old x hx)⟩;clear hh;refine jo (FI h v C party p n n1 n2 n4) 1500 (by omega) ⟨_,⟨[(ZQ,p)],[],[],_,_,_,ap,Eh.one C party p,rfl,WT,rfl⟩,by(repeat' (first|exact aP|refine aN rfl ?_))⟩ ?_;rintro m h8 n8 F ⟨ps,wv,M,vv,ww,X,a8,an,hm,u8,rfl⟩;have ra:=a8.ra;have:=an.le;have:=an.small;have fa:=a8.A.use;have rcb:=fa.rcb;have ZO:=fa.ZO;have ZP:=fa.ZP;have c1:=fa.KG;have c2:=fa.JQ;have c3:=fa.ebn;have lta:=a8.lt _ a8.Xa;rw[List.length_map]at*;repeat' (first|(simp (disch:=omega) only[go_sem,ub.old,M8,ra,a8.gv.len,ZO,ZP])|(simp (disch:=omega) only[go_sem,M8,ra,a8.gv.len,ZO,ZP])|(refine aS ?_ ?_<;>(intro hb hd;rw[hb];clear hb))|(with_reducible refine aj ?_))
  .rename_i hlt
   obtain⟨b1,o1,xq,i1,hx,hb1,rd⟩:=a8.gv.sl.fQ (k:=(M.length:Nat)) (by omega) (by omega) (by omega);rw[show((M.length:Nat):Int).toNat=M.length by omega]at hx;repeat' (first|(simp (disch:=omega) only[go_sem,ub.old,rcb,CS.av,ra,i1,rd.all])|(simp (disch:=omega) only[go_sem,rcb,CS.av,ra,i1,rd.all])|(refine aS ?_ ?_<;>(intro hb hd;rw[hb];clear hb))|(with_reducible refine aj ?_))
   have hxm:=List.mem_of_getElem? hx;have M7:=a8.st xq hxm;have ai:=a8.start;have hq:aM C xq.2.st:=zq.ok ok (an.rch _ (List.mem_map_of_mem hxm));have uA:Up h8 n8 (Tr.set h8 n8 (.row 221 [.k 1])) (n8+1):=by exact aH
   generalize Tr.set h8 n8 (.row 221 [.k 1])=hA at*;rw[bT];refine Nq _ (fa.con.up uA) (M7.use.up uA) λpb cb tb h9 n9 u9 WU e7 e8 e9=>?_;simp (disch:=omega) only[go_sem];refine xu rfl λt hF=>?_;refine QY K (v:=v) (tv:=xq.1) (party:=party) (FJ h v C party p n n1 n2 n4 n8 n9 pb cb tb M.length xq t M) (FE h C party p n n9 t) ho hq ?_ ?_ ?_ ?_ ?_ ?_
   .rintro h' n' h'' n'' l ⟨o,ps,wv,l',b1,b2,b3,b4,b5,b6,b7,b8,b9,b10,b11⟩ u
    exact⟨o,ps,wv,l',b1.up u,b2,b3,b4,b5,b6,(u.old _ (b1.lt _ b5)).trans b7,b8,b9,b10,b11.trans u⟩
   .rintro h' n' l ⟨o,ps,wv,l',b1,b2,b3,b4,b5,b6,b7,b8,b9,b10,b11⟩
    obtain⟨fa',ib⟩:=b1.A.use;exact⟨ib.p,ib.c,ib.t,ib.pn,ib.cn,ib.tn,fa'.con,(b1.st xq (List.mem_of_getElem? b10)).use⟩
   .have b:=(ai.up u9).uU (A':=λh m=>FA n n2 n4 v C h m/\IB pb cb tb v C party xq h m) ((ai.A.up u9).and λh' n' hn he=>?_)
    .have b2:=b.afD (WS .ready none t)
     refine⟨_,ps,wv,[],b2,rfl,rfl,rfl,.inr rfl,λe=>?_,aG,an,Row.nil _,hx,?_⟩
     .have:=(b.ZL e);have:=b.lt _ this;omega
     .have:=u9.le;have:=uA.le
      exact((u8.trans uA).trans u9).trans (Up.st (Up.refl _ _) _ _ (Nat.le_refl _) |>.wk (Nat.le_succ _))
    .have:=WU.pn;have:=WU.cn;have:=WU.tn
     have nx:∀x,n8+1<=x->¬(X x\/x=n8):=λx hx e=>by have:=ai.lt x e;omega
     exact⟨(he _ (by omega) (nx _ e7)).trans WU.rp,(he _ (by omega) (nx _ e8)).trans WU.rc,(he _ (by omega) (nx _ e9)).trans WU.rt,by omega,by omega,by omega⟩
   .rintro done m' q tq h0 n0 h1' n1' hpre ⟨o,ps',wv',l,b1,b2,b3,b4,b5,b6,b7,b8,b9,b10,b11⟩ O_ kq
    have bn:n8+1<=n9:=u9.le;have hmem:(m',q)∈C.oZ party xq.2:=hpre.subset (by simp);have hqs:aM C q.st:=Nn hq hmem;have ZR:zq C party p q:=(an.rch _ (List.mem_map_of_mem hxm)).step hmem;have hL0:=b1.lt _ b5;have e01:=O_.le;have r1':=(O_.old n9 hL0).trans b7;have a1:=b1.up O_;refine RW.mono (uy (d:=19) (F:=_) (bs:=[true,true]) (R:=λb h' n'=>(b=true->FJ h v C party p n n1 n2 n4 n8 n9 pb cb tb M.length xq t M h' n' (done++[(m',q)]))/\(b=false->FE h C party p n n9 t h' n')) r1' hF (by kernel_rfl) rfl Ve Vf ?_) ?_
    .simp (disch:=omega) only[go_sem,M9,Qy]
     generalize hx:Tr.set (Tr.set h1' n1' _) n1' _=h2';have wB:Up h1' n1' h2' (n1'+1):=by rw[<-hx];exact aH
     have WR:h2'.get n1'=some (.row 45 (tq.pv q)):=by rw[<-hx];exact aG
     clear hx;have r2':=(wB.old n9 (by omega)).trans r1';refine⟨_,_,_,_,_,_,r2',?_⟩;have a2:AI (n+4) (h2'.set n9 (.lp .busy none 74 t [51,52] (jy 74 0) (jB 74 0))) (n1'+1) o party _ ps' wv' M l:=(a1.up wB).JN b5 b6 _;have kq2:Kp (λx=>o.X x\/x<n+4) (h2'.set n9 (.lp .busy none 74 t [51,52] (jy 74 0) (jB 74 0))) (n1'+1) (λh n=>bZ h n tq q.st):=
      ((kq.le (Y:=λx=>o.X x\/x<n+4) λx _ e=>by
       have:=b1.Bn;rcases e with e|e
       .exact b1.lt x e
       .omega).up wB).set (.inl (.inl b5)) (Nat.le_refl _)
     have afN:∀x∈ps',aM C x.2.st:=λx hx=>zq.ok ok (b8.rch _ (List.mem_map_of_mem hx));have hsm:=b8.small;rw[List.length_map]at hsm;have hll:l.length<=100000:=by
      have e1:=b9.1;have e2:done.length<=(C.oZ party xq.2).length:=by
       have:=hpre.length_le;simp at this;omega
      have e3:=uK C party xq.2;omega
     have r3':(h2'.set n9 (.lp .busy none 74 t [51,52] (jy 74 0) (jB 74 0))).get n9=some (.lp .busy none 74 t [51,52] (jy 74 0) (jB 74 0)):=aG;have u8':Up h n (h2'.set n9 (.lp .busy none 74 t [51,52] (jy 74 0) (jB 74 0))) (n1'+1):=by
      have:=u8.le;have:=uA.le;exact Up.st ((b11.trans O_).trans wB) _ _ (by omega)
     have afO:(h2'.set n9 (.lp .busy none 74 t [51,52] (jy 74 0) (jB 74 0))).get n1'=some (.row 45 (tq.pv q)):=by rw[ay (by omega)];exact WR
     generalize h2'.set n9 _=h3' at*;have nX:∀x,x<n+4->¬o.X x:=λx hx e=>by have:=b1.nB x e;omega
     have hfa:∀h' n',(FA n n2 n4 v C h' n'/\IB pb cb tb v C party xq h' n')->h'.get n4=some (.row 230 [.m o.kb])/\n4<n'/\h'.get (n+1+1)=some (.row 150 [.i .i64 0,.k 1,.k 1])/\n+1+1<n'/\h'.get (n+1+1+1)=some (.row 31 [.i .i64 0])/\n+1+1+1<n':=λh' n' e=>by
      rw[b3];exact⟨e.1.rmb,e.1.KG,e.1.ZO,e.1.JQ,e.1.ZP,e.1.ebn⟩
     refine Nz (C:=C) (K+2) a2 hfa kq2 hqs afN hsm hll rfl rfl (by rw[b2];rfl) rfl (by rw[b4];rfl) rfl ⟨n1',rfl,afO,Nat.lt_succ_self _,λe=>by have:=b1.lt _ e;omega⟩ ?_ ?_ (nX _ (by omega)) (nX _ (by omega)) (by omega)
     .intro o' QZ j h' n' F' a3 eab ekb elb Vt hj hn hsame ZT hown
      have ZU:¬o'.own n9:=λe=>by
       rcases hown _ e with e|e
       .exact b6 e
       .omega
      have g9:=(hsame n9 (by omega) b6).trans r3';refine⟨_,_,_,_,_,_,_,g9,⟨λ_=>?_,λe=>(by cases e)⟩⟩;have a4:=a3.JN (ZT _ b5) ZU (WS .ready none t);have hrow:Row (QZ.map (·.2)) l done/\Eh C party p (QZ.map (·.2)) M/\QZ[M.length]?=some xq:=by
       rcases Vt with rfl|⟨e1,e2,rfl⟩
       .exact⟨b9,b8,b10⟩
       .rw[List.map_append]
        exact⟨b9.mono _,b8.pos e1 ZR (by rw[List.length_map];exact e2),by rw[List.getElem?_append_left (List.getElem?_eq_some_iff.1 b10).1];exact b10⟩
      refine⟨o',QZ,wv',_,a4,eab.trans b2,ekb.trans b3,elb.trans b4,ZT _ b5,ZU,aG,hrow.2.1,hrow.1.snoc hj,hrow.2.2,⟨by have:=u8'.le;omega,λx hx=>?_⟩⟩;have:=u8.le;have:=uA.le;have:=u8'.le;rw[ay (by omega),hsame x (by omega) (λe=>nX x (by omega) (a2.ZL e)),u8'.old x hx]
     .intro hnew SV h' n' F' hn q1 q2 hsame
      have:=u8.le;have:=uA.le;have:=u8'.le;have g9:=(hsame n9 (by omega) (by omega) (by omega)).trans r3';refine⟨_,_,_,_,_,_,_,g9,⟨λe=>(by cases e),λ_=>?_⟩⟩;refine⟨b8.big hnew ZR (by rw[List.length_map];exact SV),?_,?_,aG,by omega,⟨by omega,λx hx=>?_⟩⟩
      .rw[ay (by omega)];exact q1
      .rw[ay (by omega)];exact q2
      .rw[ay (by omega),hsame x (by omega) (by omega) (by omega),u8'.old x hx]
    .rintro u h' n' ⟨b,rfl,hb⟩
     exact⟨b,rfl,hb⟩
   .rintro h' n' ⟨o,ps',wv',l,b1,b2,b3,b4,b5,b6,b7,b8,b9,b10,b11⟩
    refine⟨_,_,_,_,_,_,_,b7,.inl ⟨rfl,rfl,?_⟩⟩;have hlen:=b1.len;have bn:n8+1<=n9:=u9.le;have:=uA.le;have b1':AI (n+4) (Tr.set h' n9 (.lp .exhausted none 74 t [51,52] (jy 74 0) (jB 74 0))) n' o party _ ps' wv' M l:=b1.JN b5 b6 _;have ux9:Up h n (Tr.set h' n9 (.lp .exhausted none 74 t [51,52] (jy 74 0) (jB 74 0))) n':=Up.st b11 _ _ (by have:=u8.le;omega);generalize Tr.set h' n9 _=hx9 at*;obtain⟨ab,kb,lb,vo,wo,lo,Xo⟩:=o;dsimp only at b2 b3 b4;subst b2;subst b3;subst b4;have ra:=b1'.ra;have rl:=b1'.rl;have lta:=b1'.lt _ b1'.Xa;have lle:=b8.le;have lsm:=b8.small;rw[List.length_map]at lle lsm;simp (disch:=omega) only[go_sem,ra,rl,b1'.gl.cl];refine jW (l2:=[lo]) (b1'.gw.up aH) ⟨rfl,?_⟩ (by simp;omega) λv' h4 n4' g4 l4 s4 b4=>?_
    .show bnd (iA (Tr.get _ _) 0 _) (λr=>mH (Nat.mul 1 1) r)=_
     rw[aG];rfl
    obtain⟨q1,q2⟩:=b1'.row (show Up hx9 n' _ (n'+1) by exact aH) g4 l4 s4 b4;simp (disch:=omega) only[go_sem,q1,g4.cl];have hxq:(ps'.map (·.2))[M.length]?=some xq.2:=by rw[List.getElem?_map,b10];rfl
    have wid:gF .i64 ((M.length:Int)+1)=(((M++[l]).length:Nat):Int):=by rw[dM (by omega) (by omega)];simp
    rw[wid];have blo:∀x,blk wo x->n+4<=x:=λx hx=>b1'.nB x (b1'.Xw x hx);have nab:n+4<=n1+1:=by omega
    refine⟨m - 1,_,by omega,⟨ps',wv'++[lo],M++[l],vo,v',_,q2.uU λh n e=>e.1,b8.row hxq b9,by simp;omega,⟨by have:=ux9.le;omega,λx hx=>?_⟩,rfl⟩,by(repeat' (first|exact aP|refine aN rfl ?_))⟩;have:=ux9.le;rw[ay (by omega),s4 x (by omega) (λe=>by have:=blo x e;omega),ay (by omega)];exact ux9.old x hx
   .rintro h' n' ⟨b1,b2,b3,b4,b5,b6⟩
    refine⟨_,_,_,_,_,_,_,b4,.inr (.inl ⟨rfl,rfl,?_⟩)⟩;simp (disch:=omega) only[go_sem,b2,b3];exact uO (by omega) (by omega) ok b1 _ _ (Up.st b6 _ _ (by omega))
  .refine KF (by omega) (by omega) ok ps wv M vv ww _ _ (an.done (by rw[List.length_map];omega)) aH ?_
   have k9:=a8.fin;exact(((k9.set (.inl (by omega)) (Nat.le_refl _)).set (.inl (by omega)) (Nat.le_refl _))).le λx _ hx=>by omega
end
end
end
noncomputable section
def NA:MC:=(.seq (.reg [nl (.mv (.s 12)),nl (.bJ 5 (.s 10) (.s 12)),nl (.ld (some 5) (.v 0)),nk 8 (.al 144 [(.i .i64 0),(.i .i64 0),(.i .i64 0),(.i .i64 0),(.b false)]),nk 7 (.mv (.v 2)),⟨none,(.st 5 (.s 8) (.v 0)),.n⟩]) (.seq (.reg [nl (.fa 4 (.s 3)),nl (.ld none (.v 0)),nl (.mv (.s 7)),nl (.bJ 16 (.v 1) (.v 0)),nl (.fa 8 (.v 0)),nl (.ld none (.v 0)),nl (.mv (.v 0)),ng 0 true (.fa 0 (.s 8)),ng 1 true (.ld none (.v 0)),ng 2 true (.bin .eql 3 (.v 0) (.c (.i .i64 4))),nl (.pick (.v 3) (.v 0) (.c (.b false))),nl (.mv (.v 0)),ng 0 true (.fa 3 (.s 8)),ng 1 true (.ld none (.v 0)),ng 2 true (.mv (.s 2)),ng 3 true (.bin .eql 3 (.v 1) (.v 0)),nk 33 (.pick (.v 4) (.v 0) (.c (.b false)))]) (.cond (.s 33) (.seq (.reg [nk 6 (.mv (.c (.b true)))]) .ret) .skip)))
def ZV:MC:=(.seq (.reg [nk 3 (.box 27 7 (.s 0)),nk 4 (.box 43 4 (.s 1)),nk 6 (.mv (.c (.b false)))]) (.seq (.seq (.reg [nl (.fa 3 (.s 4)),nk 10 (.ld none (.v 0)),nk 11 (.aW (.s 10)),nk 12 (.mv (.c (.i .i64 0)))]) (.blk 0 (g_ 3 12 11 13 0 1 NA))) (.seq (.reg [nk 6 (.mv (.c (.b false)))]) .ret)))
theorem c182:dx Tryz.prog sl0 182=some ([true,true,true],ZV,[(.t 6)]):=by kernel_rfl
def NC:MC:=(.seq (.reg [nl (.bJ 2 (.s 40) (.s 42)),nl (.ld (some 2) (.v 0)),nk 8 (.al 223 [(.i .i64 0),(.i .i64 0)]),⟨none,(.st 2 (.s 8) (.v 0)),.n⟩]) (.seq (.reg [nl (.fa 1 (.s 8)),nl (.ld none (.v 0)),nl (.bin .lss 3 (.v 0) (.c (.i .i64 0))),nl (.mv (.v 0)),ng 0 false (.fa 1 (.s 8)),ng 1 false (.ld none (.v 0)),ng 2 false (.fa 1 (.s 3)),ng 3 false (.ld none (.v 0)),ng 4 false (.aW (.v 0)),ng 5 false (.bin .geq 3 (.v 3) (.v 0)),nk 56 (.pick (.v 6) (.c (.b true)) (.v 0))]) (.cond (.s 56) (.seq (.reg [nk 4 (.mv (.c (.b false)))]) .ret) .skip)))
def ND:MC:=(.seq (.reg [nl (.mv (.s 31)),nl (.bJ 5 (.s 29) (.s 31)),nl (.ld (some 5) (.v 0)),nk 6 (.al 45 [(.i .i64 0),(.k 1),(.k 1),(.k 1),(.b false)]),nk 5 (.mv (.v 2)),⟨none,(.st 5 (.s 6) (.v 0)),.n⟩]) (.seq (.seq (.reg [nl (.fa 2 (.s 3)),nl (.ld none (.v 0)),nl (.mv (.s 5)),nl (.bJ 1 (.v 1) (.v 0)),nk 40 (.ld none (.v 0)),nk 41 (.aW (.s 40)),nk 42 (.mv (.c (.i .i64 0)))]) (.blk 2 (g_ 3 42 41 43 2 3 NC))) (.seq (.reg [nl (.ld (some 7) (.s 2)),nl (.fa 0 (.s 6)),nl (.ld (some 4) (.v 0)),nl (.call (.c (.f 47 [])) [(.v 2),(.v 0)]),nk 62 (.not (.v 0))]) (.cond (.s 62) (.seq (.reg [nk 4 (.mv (.c (.b false)))]) .ret) .skip))))
def ZW:MC:=(.seq (.reg [nk 2 (.box 27 7 (.s 0)),nk 3 (.box 150 3 (.s 1)),nk 4 (.mv (.c (.b false)))]) (.seq (.seq (.reg [nl (.fa 0 (.s 3)),nl (.ld none (.v 0)),nl (.bin .lss 3 (.v 0) (.c (.i .i64 0))),nl (.mv (.v 0)),ng 0 false (.fa 0 (.s 3)),ng 1 false (.ld none (.v 0)),ng 2 false (.fa 0 (.s 2)),ng 3 false (.ld none (.v 0)),ng 4 false (.bin .geq 3 (.v 2) (.v 0)),nl (.pick (.v 5) (.c (.b true)) (.v 0)),nl (.mv (.v 0)),ng 0 false (.fa 2 (.s 3)),ng 1 false (.ld none (.v 0)),ng 2 false (.aW (.v 0)),ng 3 false (.fa 1 (.s 3)),ng 4 false (.ld none (.v 0)),ng 5 false (.aW (.v 0)),ng 6 false (.bin .neq 3 (.v 3) (.v 0)),nk 27 (.pick (.v 7) (.c (.b true)) (.v 0))]) (.cond (.s 27) (.seq (.reg [nk 4 (.mv (.c (.b false)))]) .ret) .skip)) (.seq (.seq (.reg [nl (.fa 1 (.s 3)),nk 29 (.ld none (.v 0)),nk 30 (.aW (.s 29)),nk 31 (.mv (.c (.i .i64 0)))]) (.blk 0 (g_ 3 31 30 32 0 1 ND))) (.seq (.reg [nk 4 (.mv (.c (.b true)))]) .ret))))
theorem afQ:dx Tryz.prog sl0 181=some ([true,true],ZW,[(.t 4)]):=by kernel_rfl
def ZX:MC:=(.reg [nl (.mv (.s 0)),nl (.mv (.s 0)),nl (.gN (.v 0)),nl (.fa 0 (.v 0)),nl (.ld none (.v 0)),nl (.mv (.s 1)),nl (.rP 3 1 [(.i .i64 0)] [(0,(1,(.v 0)))]),nl (.app 3 1 (.v 2) (.v 0)),nl (.gN (.v 7)),nl (.fa 0 (.v 0)),⟨none,(.st 1 (.v 0) (.v 2)),.n⟩])
theorem c183:dx Tryz.prog sl0 183=some ([true,true],ZX,[]):=by kernel_rfl
def Vu:MC:=(.seq (.reg [nk 2 (.mv (.c (.i .i64 0))),nk 3 (.mv (.c (.b false)))]) (.seq (.seq (.fV 0 [mq 0 [] (.mv (.s 0)),mq 0 [0] (.gN (.v 0)),mq 0 [1] (.fa 1 (.v 0)),mq 1 [2] (.ld none (.v 0)),mq 0 [] (.mv (.s 0)),mq 0 [4] (.gN (.v 0)),mq 0 [5] (.fa 0 (.v 0)),mq 1 [6] (.ld none (.v 0)),mq 1 [7] (.aW (.v 0)),mq 0 [3,8] (.bin .eql 3 (.v 0) (.v 1))] [] [(9,14)]) (.cond (.s 14) (.seq (.reg [nk 4 (.mv (.c (.i .i64 0)))]) (.seq (.reg [nl (.mv (.s 4)),nk 2 (.mv (.v 0)),nk 3 (.mv (.c (.b false)))]) .ret)) .skip)) (.seq (.reg [nl (.mv (.s 0)),nl (.gN (.v 0)),nl (.fa 1 (.v 0)),nl (.ld none (.v 0)),nl (.bin .add 3 (.v 0) (.c (.i .i64 1))),nl (.gN (.v 4)),nl (.fa 1 (.v 0)),⟨none,(.st 1 (.v 0) (.v 2)),.n⟩]) (.seq (.fV 0 [mq 0 [] (.mv (.s 0)),mq 0 [0] (.gN (.v 0)),mq 0 [1] (.fa 0 (.v 0)),mq 1 [2] (.ld none (.v 0)),mq 0 [] (.mv (.s 0)),mq 0 [4] (.gN (.v 0)),mq 0 [5] (.fa 1 (.v 0)),mq 1 [6] (.ld none (.v 0)),mq 0 [7] (.bin .sub 3 (.v 0) (.c (.i .i64 1))),mq 0 [3,8] (.bJ 1 (.v 0) (.v 1)),mq 1 [9] (.ld none (.v 0)),mq 0 [10] (.mv (.v 0)),mq 0 [] (.mv (.c (.b true)))] [] [(11,2),(12,3)]) .ret))))
theorem afR:dx Tryz.prog sl0 186=some ([true],Vu,[(.t 2),(.t 3)]):=by kernel_rfl
def ZY:MC:=(.seq (.reg [nl (.ld none (.s 2)),nl (.mv (.s 0)),nl (.mv (.s 1)),nl (.bJ 1 (.v 2) (.v 1)),⟨none,(.st 1 (.v 0) (.v 1)),.n⟩]) (.reg [nl (.mv (.s 0)),nl (.call (.c (.f 183 [])) [(.s 3),(.v 0)])]))
theorem afS:dx Tryz.prog sl0 184=some ([true,true,true,true],ZY,[]):=by kernel_rfl
def Z0:MC:=(.seq (.reg [nl (.ld none (.s 2)),nl (.mv (.s 0)),nl (.bJ 1 (.v 1) (.v 0)),nl (.ld none (.v 0)),nl (.bin .sub 3 (.v 0) (.c (.i .i64 1))),nl (.bJ 1 (.v 4) (.v 3)),⟨none,(.st 1 (.v 0) (.v 1)),.n⟩]) (.seq (.reg [nl (.ld none (.s 3)),nl (.mv (.s 0)),nl (.bJ 1 (.v 1) (.v 0)),nl (.ld none (.v 0)),nl (.bin .eql 3 (.v 0) (.c (.i .i64 (.negSucc 0)))),nl (.mv (.v 0)),ng 0 true (.fa 1 (.s 4)),ng 1 true (.ld none (.v 0)),ng 2 true (.mv (.s 0)),ng 3 true (.bJ 5 (.v 1) (.v 0)),ng 4 true (.fa 4 (.v 0)),ng 5 true (.ld none (.v 0)),ng 6 true (.not (.v 0)),ng 7 true (.mv (.v 0)),ng 0 false (.ld none (.s 2)),ng 1 false (.mv (.s 0)),ng 2 false (.bJ 1 (.v 1) (.v 0)),ng 3 false (.ld none (.v 0)),ng 4 false (.bin .eql 3 (.v 0) (.c (.i .i64 0))),ng 13 true (.pick (.v 5) (.c (.b true)) (.v 0)),nk 34 (.pick (.v 14) (.v 0) (.c (.b false)))]) (.cond (.s 34) (.fV 0 [mq 1 [] (.ld none (.s 5)),mq 0 [] (.mv (.s 0)),mq 1 [] (.ld none (.s 3)),mq 0 [] (.mv (.s 1)),mq 0 [2,3] (.bJ 1 (.v 0) (.v 1)),mq 1 [4] (.ld none (.v 0)),mq 0 [5] (.bin .add 3 (.v 0) (.c (.i .i64 1))),mq 3 [0,1,6] (.call (.v 0) [(.v 1),(.v 2)])] [] []) .skip)))
theorem afT:dx Tryz.prog sl0 185=some ([true,true,true,true,true,true],Z0,[]):=by kernel_rfl
def NG:MC:=(.seq (.reg [nl (.bJ 1 (.s 132) (.s 134)),nl (.ld none (.v 0)),nk 21 (.mv (.v 0))]) (.reg [nl (.mv (.s 17)),nl (.mv (.s 21)),nl (.mv (.s 18)),nl (.call (.v 2) [(.v 1),(.v 0)])]))
def Ca:MC:=(.seq (.seq (.reg [nk 124 (.mv (.s 19))]) (.cond (.s 124) .skip (.exit 6))) (.seq (.blk 7 (.seq (.reg [nl (.mv (.s 8)),nl (.mv (.s 18)),nl (.bJ 1 (.v 1) (.v 0)),nk 132 (.ld none (.v 0)),nk 133 (.aW (.s 132)),nk 134 (.mv (.c (.i .i64 0)))]) (.blk 8 (g_ 3 134 133 135 8 9 NG)))) (.reg [nl (.call (.c (.f 186 [])) [(.s 9)]),nl (.mv (.v 0)),nl (.ext (.v 0) 0),nl (.ext (.v 1) 1),nk 18 (.mv (.v 1)),nk 19 (.mv (.v 0))])))
def Ga:MC:=(.seq (.reg [nl (.mv (.s 94)),nl (.bJ 5 (.s 92) (.s 94)),nl (.ld (some 5) (.v 0)),nk 16 (.al 45 [(.i .i64 0),(.k 1),(.k 1),(.k 1),(.b false)]),nk 15 (.mv (.v 2)),⟨none,(.st 5 (.s 16) (.v 0)),.n⟩]) (.seq (.reg [nl (.fa 4 (.s 16)),nl (.ld none (.v 0)),nl (.mv (.v 0)),ng 0 true (.ld none (.s 7)),ng 1 true (.mv (.s 15)),ng 2 true (.bJ 1 (.v 1) (.v 0)),ng 3 true (.ld none (.v 0)),ng 4 true (.bin .eql 3 (.v 0) (.c (.i .i64 0))),nl (.pick (.v 5) (.v 0) (.c (.b false))),nl (.mv (.v 0)),ng 0 true (.ld none (.s 6)),ng 1 true (.mv (.s 15)),ng 2 true (.bJ 1 (.v 1) (.v 0)),ng 3 true (.ld none (.v 0)),ng 4 true (.bin .eql 3 (.v 0) (.c (.i .i64 (.negSucc 0)))),nk 114 (.pick (.v 5) (.v 0) (.c (.b false)))]) (.cond (.s 114) (.reg [nl (.ld none (.s 14)),nl (.mv (.s 15)),nl (.call (.v 1) [(.v 0),(.c (.i .i64 1))])]) .skip)))
def Gb:MC:=(.seq (.reg [nl (.bJ 2 (.s 59) (.s 61)),nl (.ld (some 2) (.v 0)),nk 13 (.al 223 [(.i .i64 0),(.i .i64 0)]),⟨none,(.st 2 (.s 13) (.v 0)),.n⟩]) (.fV 2 [mq 0 [] (.mv (.s 8)),mq 0 [] (.fa 1 (.s 13)),mq 1 [1] (.ld none (.v 0)),mq 0 [] (.mv (.s 8)),mq 0 [] (.fa 1 (.s 13)),mq 1 [4] (.ld none (.v 0)),mq 0 [3,5] (.bJ 1 (.v 0) (.v 1)),mq 1 [6] (.ld none (.v 0)),mq 0 [] (.mv (.s 10)),mq 2 [8] (.rP 3 1 [(.i .i64 0)] [(0,(1,(.v 0)))]),mq 3 [7,9] (.app 3 1 (.v 0) (.v 1)),mq 0 [0,2] (.bJ 1 (.v 0) (.v 1)),mq 3 [10,11] (.st 1 (.v 1) (.v 0))] [(2,11)] []))
def Gc:MC:=(.seq (.reg [nl (.mv (.s 38)),nl (.bJ 5 (.s 36) (.s 38)),nl (.ld (some 5) (.v 0)),nk 11 (.al 45 [(.i .i64 0),(.k 1),(.k 1),(.k 1),(.b false)]),nk 10 (.mv (.v 2)),⟨none,(.st 5 (.s 11) (.v 0)),.n⟩]) (.seq (.fV 0 [mq 1 [] (.ld none (.s 6)),mq 0 [] (.mv (.s 10)),mq 1 [] (.ld none (.s 7)),mq 0 [] (.mv (.s 10)),mq 0 [] (.fa 2 (.s 3)),mq 1 [4] (.ld none (.v 0)),mq 0 [] (.mv (.s 10)),mq 0 [5,6] (.bJ 1 (.v 0) (.v 1)),mq 1 [7] (.ld none (.v 0)),mq 1 [8] (.aW (.v 0)),mq 0 [0,1] (.bJ 1 (.v 0) (.v 1)),mq 3 [10] (.st 1 (.v 0) (.c (.i .i64 (.negSucc 0)))),mq 0 [2,3] (.bJ 1 (.v 0) (.v 1)),mq 3 [9,12] (.st 1 (.v 1) (.v 0))] [(2,12),(9,12)] []) (.seq (.seq (.reg [nl (.fa 2 (.s 3)),nl (.ld none (.v 0)),nl (.mv (.s 10)),nl (.bJ 1 (.v 1) (.v 0)),nk 59 (.ld none (.v 0)),nk 60 (.aW (.s 59)),nk 61 (.mv (.c (.i .i64 0)))]) (.blk 2 (g_ 3 61 60 62 2 3 Gb))) (.seq (.reg [nl (.ld (some 7) (.s 2)),nl (.fa 0 (.s 11)),nl (.ld (some 4) (.v 0)),nl (.fa 0 (.s 3)),nl (.ld none (.v 0)),nk 83 (.call (.c (.f 182 [])) [(.v 4),(.v 2),(.v 0)])]) (.cond (.s 83) (.seq (.reg [nl (.ld none (.s 6)),nl (.mv (.s 10)),nl (.bJ 1 (.v 1) (.v 0)),⟨none,(.st 1 (.v 0) (.c (.i .i64 0))),.n⟩]) (.reg [nl (.mv (.s 10)),nl (.call (.c (.f 183 [])) [(.s 9),(.v 0)])])) .skip)))))
def Z4:MC:=(.seq (.reg [nk 2 (.box 27 7 (.s 0)),nk 3 (.box 150 3 (.s 1)),nk 4 (.mv (.c (.k 1)))]) (.seq (.seq (.reg [nl (.ld (some 7) (.s 2)),nl (.ld (some 3) (.s 3)),nl (.call (.c (.f 181 [])) [(.v 1),(.v 0)]),nk 25 (.not (.v 0))]) (.cond (.s 25) (.seq (.reg [nk 4 (.mv (.c (.k 1)))]) .ret) .skip)) (.seq (.reg [nl (.fa 1 (.s 3)),nl (.ld none (.v 0)),nl (.aW (.v 0)),nk 5 (.mv (.v 0))]) (.seq (.reg [nl (.mv (.s 5)),nl (.Bu 3 [(.i .i64 0)] (.v 0) (.v 0)),nk 6 (.al 22 [(.k 1)]),⟨none,(.st 1 (.s 6) (.v 0)),.n⟩]) (.seq (.reg [nl (.mv (.s 5)),nl (.Bu 3 [(.i .i64 0)] (.v 0) (.v 0)),nk 7 (.al 22 [(.k 1)]),⟨none,(.st 1 (.s 7) (.v 0)),.n⟩]) (.seq (.reg [nl (.mv (.s 5)),nl (.Bu 22 [(.k 1)] (.v 0) (.v 0)),nk 8 (.mv (.v 0))]) (.seq (.reg [nk 9 (.al 323 [(.k 1),(.i .i64 0)])]) (.seq (.seq (.reg [nl (.fa 1 (.s 3)),nk 36 (.ld none (.v 0)),nk 37 (.aW (.s 36)),nk 38 (.mv (.c (.i .i64 0)))]) (.blk 0 (g_ 3 38 37 39 0 1 Gc))) (.seq (.reg [nl (.z8 184 [(.s 6),(.s 9)]),nk 14 (.al 303 [(.k 3)]),⟨none,(.st 1 (.s 14) (.v 0)),.n⟩]) (.seq (.seq (.reg [nl (.fa 1 (.s 3)),nk 92 (.ld none (.v 0)),nk 93 (.aW (.s 92)),nk 94 (.mv (.c (.i .i64 0)))]) (.blk 4 (g_ 3 94 93 95 4 5 Ga))) (.seq (.reg [nl (.z8 185 [(.s 7),(.s 6),(.s 3),(.s 14)]),nk 17 (.mv (.v 0))]) (.seq (.seq (.reg [nl (.call (.c (.f 186 [])) [(.s 9)]),nl (.mv (.v 0)),nl (.ext (.v 0) 0),nl (.ext (.v 1) 1),nk 18 (.mv (.v 1)),nk 19 (.mv (.v 0))]) (.blk 6 (.loop Ca))) (.seq (.reg [nl (.ld none (.s 6)),nk 4 (.mv (.v 0))]) .ret)))))))))))))
theorem c105:dx Tryz.prog sl0 105=some ([true,true],Z4,[(.t 4)]):=by kernel_rfl
def S_:MC:=(.seq (.reg [nl (.mv (.s 17)),nl (.bJ 1 (.s 15) (.s 17)),nl (.ld none (.v 0)),nk 7 (.mv (.v 2)),nk 8 (.mv (.v 0))]) (.reg [nl (.mv (.s 6)),nl (.mv (.s 7)),nl (.mv (.s 8)),nl (.bin .eql 3 (.v 0) (.c (.i .i64 (.negSucc 0)))),nl (.bJ 1 (.v 3) (.v 2)),⟨none,(.st 1 (.v 0) (.v 1)),.n⟩]))
def m52:MC:=(.seq (.reg [nk 2 (.box 27 7 (.s 0)),nk 3 (.box 150 3 (.s 1)),nk 4 (.mv (.c (.k 1)))]) (.seq (.reg [nl (.ld (some 7) (.s 2)),nl (.ld (some 3) (.s 3)),nl (.call (.c (.f 105 [])) [(.v 1),(.v 0)]),nk 5 (.mv (.v 0))]) (.seq (.reg [nl (.mv (.s 5)),nl (.aW (.v 0)),nl (.Bu 4 [(.b false)] (.v 0) (.v 0)),nk 6 (.mv (.v 0))]) (.seq (.seq (.reg [nk 15 (.mv (.s 5)),nk 16 (.aW (.s 15)),nk 17 (.mv (.c (.i .i64 0)))]) (.blk 0 (g_ 3 17 16 18 0 1 S_))) (.seq (.reg [nl (.mv (.s 6)),nk 4 (.mv (.v 0))]) .ret)))))
theorem c52:dx Tryz.prog sl0 52=some ([true,true],m52,[(.t 4)]):=by kernel_rfl
def NH:MC:=(.seq (.reg [nl (.mv (.s 38)),nl (.bJ 5 (.s 36) (.s 38)),nl (.ld (some 5) (.v 0)),nk 13 (.al 45 [(.i .i64 0),(.k 1),(.k 1),(.k 1),(.b false)]),nk 12 (.mv (.v 2)),⟨none,(.st 5 (.s 13) (.v 0)),.n⟩]) (.seq (.reg [nl (.mv (.s 10)),nl (.mv (.s 12)),nl (.bJ 1 (.v 1) (.v 0)),nk 46 (.ld none (.v 0))]) (.cond (.s 46) (.fV 2 [mq 0 [] (.fa 1 (.s 11)),mq 1 [0] (.ld none (.v 0)),mq 1 [] (.ld (some 5) (.s 13)),mq 1 [] (.ld (some 3) (.s 8)),mq 0 [] (.mv (.s 10)),mq 0 [] (.mv (.s 12)),mq 3 [3,4,5] (.call (.c (.f 194 [])) [(.v 0),(.v 1),(.v 2)]),mq 0 [2,6] (.jk [(.i .i64 0),(.k 1),(.k 1),(.k 1),(.b false),(.i .i64 0)] [(0,(5,(.v 0))),(5,(1,(.v 1)))]),mq 2 [7] (.rP 163 1 [(.i .i64 0),(.k 1),(.k 1),(.k 1),(.b false),(.i .i64 0)] [(0,(6,(.v 0)))]),mq 3 [1,8] (.app 163 6 (.v 0) (.v 1)),mq 0 [] (.fa 1 (.s 11)),mq 3 [9,10] (.st 1 (.v 1) (.v 0))] [(1,7),(2,7)] []) .skip)))
def Z5:MC:=(.seq (.reg [nk 3 (.box 27 7 (.s 0)),nk 5 (.box 45 5 (.s 2)),nk 6 (.al 80 [(.i .i64 0),(.k 1)]),nk 7 (.mv (.c (.i .i64 0)))]) (.seq (.reg [nl (.ld (some 7) (.s 3)),nl (.mv (.s 1)),nl (.ld (some 5) (.s 5)),nl (.call (.c (.f 74 [])) [(.v 2),(.v 1),(.v 0)]),nl (.mv (.v 0)),nl (.ext (.v 0) 0),nl (.ext (.v 1) 1),nk 8 (.al 150 [(.i .i64 0),(.k 1),(.k 1)]),⟨none,(.st 3 (.s 8) (.v 1)),.n⟩,nk 9 (.mv (.v 0))]) (.seq (.seq (.reg [nl (.mv (.s 9)),nk 22 (.bin .neq 31 (.v 0) (.c (.i .i64 0)))]) (.cond (.s 22) (.seq (.reg [nl (.jk [(.i .i64 0),(.k 1)] []),nl (.mv (.s 9)),⟨none,(.st 2 (.s 6) (.v 1)),.n⟩,nk 7 (.mv (.v 0))]) .ret) .skip)) (.seq (.reg [nl (.ld (some 7) (.s 3)),nl (.ld (some 3) (.s 8)),nl (.call (.c (.f 52 [])) [(.v 1),(.v 0)]),nk 10 (.mv (.v 0))]) (.seq (.seq (.reg [nl (.mv (.s 10)),nl (.bJ 1 (.v 0) (.c (.i .i64 0))),nl (.ld none (.v 0)),nk 31 (.not (.v 0))]) (.cond (.s 31) (.seq (.reg [nl (.jk [(.i .i64 0),(.k 1)] []),⟨none,(.st 2 (.s 6) (.v 0)),.n⟩,nk 7 (.mv (.c (.i .i64 13)))]) .ret) .skip)) (.seq (.reg [nl (.mv (.s 1)),nl (.jk [(.i .i64 0),(.k 1)] [(0,(1,(.v 0)))]),nk 11 (.al 80 [(.i .i64 0),(.k 1)]),⟨none,(.st 2 (.s 11) (.v 0)),.n⟩]) (.seq (.seq (.reg [nl (.fa 1 (.s 8)),nk 36 (.ld none (.v 0)),nk 37 (.aW (.s 36)),nk 38 (.mv (.c (.i .i64 0)))]) (.blk 0 (g_ 3 38 37 39 0 1 NH))) (.seq (.reg [nl (.ld (some 2) (.s 11)),⟨none,(.st 2 (.s 6) (.v 0)),.n⟩,nk 7 (.mv (.c (.i .i64 0)))]) .ret))))))))
theorem c119:dx Tryz.prog sl0 119=some ([true,true,true],Z5,[(.c 6 (some 2)),(.t 7)]):=by kernel_rfl
def NI:MC:=(.seq (.reg [nl (.bJ 2 (.s 20) (.s 22)),nl (.ld (some 2) (.v 0)),nk 8 (.al 223 [(.i .i64 0),(.i .i64 0)]),⟨none,(.st 2 (.s 8) (.v 0)),.n⟩]) (.seq (.reg [nl (.mv (.s 1)),nl (.fa 1 (.s 8)),nl (.ld none (.v 0)),nl (.bJ 1 (.v 2) (.v 0)),nk 30 (.ld none (.v 0))]) (.cond (.s 30) (.seq (.reg [nl (.fa 0 (.s 8)),nl (.ld none (.v 0)),nk 6 (.mv (.v 0))]) .ret) .skip)))
def Vv:MC:=(.seq (.reg [nk 3 (.box 150 3 (.s 0)),nk 6 (.mv (.c (.i .i64 0)))]) (.seq (.seq (.reg [nl (.fa 1 (.s 3)),nl (.ld none (.v 0)),nl (.mv (.s 2)),nl (.bJ 5 (.v 1) (.v 0)),nl (.fa 4 (.v 0)),nl (.ld none (.v 0)),nk 15 (.not (.v 0))]) (.cond (.s 15) (.seq (.reg [nk 6 (.mv (.c (.i .i64 0)))]) .ret) .skip)) (.seq (.seq (.reg [nl (.fa 2 (.s 3)),nl (.ld none (.v 0)),nl (.mv (.s 2)),nl (.bJ 1 (.v 1) (.v 0)),nk 20 (.ld none (.v 0)),nk 21 (.aW (.s 20)),nk 22 (.mv (.c (.i .i64 0)))]) (.blk 0 (g_ 3 22 21 23 0 1 NI))) (.seq (.reg [nk 6 (.mv (.c (.i .i64 0)))]) .ret))))
theorem c194:dx Tryz.prog sl0 194=some ([true,true,true],Vv,[(.t 6)]):=by kernel_rfl
end
end Go.Proofs.YtjoohkjmoghmoaaGreatDoor
