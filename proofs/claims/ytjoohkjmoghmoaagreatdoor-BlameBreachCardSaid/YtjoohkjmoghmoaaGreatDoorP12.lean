/- part -/
import Derived.Test.YtjoohkjmoghmoaaGreatDoorP11
set_option linter.all false
namespace Go.Proofs.YtjoohkjmoghmoaaGreatDoor
section
noncomputable section
section
variable {h h':AH} {n n':Nat} {b:WB} {v:CS} {C:aA} {s:aI} {Q:AV->AH->Nat->Prop}
theorem rdh{e:Nat}{hs:List Int}{j:Nat}(h:j<hs.length):rR (some (.row e (hs.flatMap ci))) (j*1) none=some (.i .i64 (gQ hs (j:Nat))):=by
 have h1:hs[j]?=some hs[j]:=List.getElem?_eq_some_iff.2 ⟨h,rfl⟩;have h2:=uD (c:=ci) (w:=1) (e:=e) (λ_=>rfl) h1 (j:=0) (by omega);unfold gQ;rw[show((j:Nat):Int).toNat=j by omega,h1];exact h2
theorem QH(ms:List au):idle ms<=ms.length:=List.length_filter_le _ _
theorem uG(K:Nat)(w:Wk h n b v C s)(ok:C.Ok)(hl:s.marks.length=C.clauses.length)(hh:s.ah.length=C.ah.length)(hQ:∀h' n',Wk h' n' b v C (s.eU (C.begin s.ah s.marks))->UX b.X h n h' n'->Q (.bS []) h' n'):CW (EF (K+2)) 46 [.p b.g 0] h n Q:=by
 have DL:=ok.dN;refine aD c46 rfl ?_;repeat' (first|(simp (disch:=omega) only[go_sem,ub.old,m46])|(simp (disch:=omega) only[go_sem,m46])|(refine aS ?_ ?_<;>(intro hb hd;rw[hb];clear hb))|(with_reducible refine aj ?_))
 refine jo (λm h2 n2 F=>∃ms x,Wk h2 n2 b v C (s.eU ms)/\UX b.X h n h2 n2/\F=[(0,.p b.g 0),(2,.b x)]/\ms.length=s.marks.length/\(x=true->C.begin s.ah ms=C.begin s.ah s.marks/\m=idle ms+1)/\(x=false->m=0/\ms=C.begin s.ah s.marks)) (idle s.marks+1) (by have:=QH s.marks;omega) ⟨_,⟨s.marks,true,w,UX.refl,rfl,rfl,λ_=>⟨rfl,rfl⟩,λe=>by cases e⟩,by(repeat' (first|exact aP|refine aN rfl ?_))⟩ ?_;rintro m h2 n2 F ⟨ms,x,w2,u2,rfl,hml,hx1,hx2⟩;cases x with
 |false=>
  repeat' (first|(simp (disch:=omega) only[go_sem,ub.old,Dv])|(simp (disch:=omega) only[go_sem,Dv])|(refine aS ?_ ?_<;>(intro hb hd;rw[hb];clear hb))|(with_reducible refine aj ?_))
  obtain⟨_,rfl⟩:=hx2 rfl;exact hQ _ _ w2 u2
 |true=>
  obtain⟨hb,rfl⟩:=hx1 rfl;repeat' (first|(simp (disch:=omega) only[go_sem,ub.old,Dv,w2.row,WB.cells,w2.jg.lk])|(simp (disch:=omega) only[go_sem,Dv,w2.row,WB.cells,w2.jg.lk])|(refine aS ?_ ?_<;>(intro hb hd;rw[hb];clear hb))|(with_reducible refine aj ?_))
  refine cK C.clauses.length (λk h3 n3 G=>Wk h3 n3 b v C (s.eU (bN C s.ah ms k))/\UX b.X h n h3 n3/\G=[(0,.p b.g 0),(2,.b (bX C s.ah ms k)),(11,v.k)]) (by omega) (by omega) (by omega) (by omega) (λk h3 n3 G ⟨_,_,e⟩=>by subst e;exact⟨rfl,rfl⟩) ⟨rfl,rfl,_,⟨w2,u2,rfl⟩,by(repeat' (first|exact aP|refine aN rfl ?_))⟩ ?_ ?_
  .rintro k h3 n3 G hk ⟨w3,u3,rfl⟩
   have g1:=w3.lg;have g2:=w3.lh;have g3:=w3.lu;have g4:=w3.lm;obtain⟨cb,co,kc,t,i1,i2,i3,i4,rd⟩:=w3.jg.SC hk;have xw:=ok.clause i2;have hlen:(bN C s.ah ms k).length=ms.length:=oO C s.ah ms k;have hkm:k<(bN C s.ah ms k).length:=by omega
   have hm:=fZ hkm;have hf:eF C (bN C s.ah ms k) k=dD (bN C s.ah ms k) kc (bM (bN C s.ah ms k) k):=by unfold eF;rw[i2,hm]
   have next:∀h4 n4 (F:Fm),Wk h4 n4 b v C (s.eU (bN C s.ah ms (k+1)))->UX b.X h3 n3 h4 n4->lk F 13=some (.i .i64 (k:Nat))->lk F 12=some (.i .i64 (C.clauses.length:Nat))->lk F 0=some (.p b.g 0)->lk F 2=some (.b (bX C s.ah ms (k+1)))->lk F 11=some v.k->
    (lk F 13=some (.i .i64 (k:Nat))/\lk F 12=some (.i .i64 (C.clauses.length:Nat))/\∃G,(Wk h4 n4 b v C (s.eU (bN C s.ah ms (k+1)))/\UX b.X h n h4 n4/\G=[(0,.p b.g 0),(2,.b (bX C s.ah ms (k+1))),(11,v.k)])/\∀m v,lk G m=some v->lk F m=some v):=
    λh4 n4 F a1 a2 a3 a4 a5 a6 a7=>⟨a3,a4,_,⟨a1,u3.trans a2,rfl⟩,aN a5 (aN a6 (aN a7 aP))⟩
   have ends:∀h4 n4 (F:Fm),dD (bN C s.ah ms k) kc (bM (bN C s.ah ms k) k)=true->Wk h4 n4 b v C (s.eU ((bN C s.ah ms k).set k (lU s.ah kc)))->UX b.X h3 n3 h4 n4->lk F 13=some (.i .i64 (k:Nat))->lk F 12=some (.i .i64 (C.clauses.length:Nat))->lk F 0=some (.p b.g 0)->lk F 2=some (.b true)->lk F 11=some v.k->_:=
    λh4 n4 F hd a1 a2 a3 a4 a5 a6 a7=>next h4 n4 F (by unfold bN gM;rw[i2,hf,hd];exact a1) a2 a3 a4 a5 (by rw[a6];unfold bX;rw[hf,hd,Bool.or_true]) a7
   by_cases hk4:kc.kind=4
   .have hb4:jS s.ah kc= -1:=by unfold jS;simp[hk4]
    have e4:lU s.ah kc=⟨1,kc.after,0, -1,false⟩:=by unfold lU;rw[hb4]
    have Zr:=stm (e:=144) hkm ⟨1,kc.after,0, -1,false⟩;repeat' (first|(simp (disch:=omega) only[go_sem,ub.old,Du,aK i1,rd.el,rd.hd,rd.all,aF.av,w3.row,w3.ms,WB.cells,hk4,bU hkm,Zr,BEq.rfl,cond_true])|(simp (disch:=omega) only[go_sem,Du,aK i1,rd.el,rd.hd,rd.all,aF.av,w3.row,w3.ms,WB.cells,hk4,bU hkm,Zr,BEq.rfl,cond_true])|((first|rw[aU]|rw[bT]);with_reducible refine yV _ (w3.jg.up aH) (w3.st.up aH) i2 hm (by have:=xw.rW;omega) (λc hc=>by have:=xw.start c hc;show 0<=c.clause/\c.clause<((bN C s.ah ms k).length:Nat);omega) λh2 n2 u2=>?_;(first|replace ub:=Up.trans ub (Up.trans aH u2)|have ub:=u2);have hle:=ub.le;clear u2)|(refine aS ?_ ?_<;>(intro hb hd;rw[hb];clear hb))|(with_reducible refine aj ?_))
    .refine next _ _ _ ?_ (UX.up aH) rfl rfl rfl ?_ rfl
     .unfold bN gM
      rw[i2,hf,hd];exact w3.up aH
     .rw[show bX C s.ah ms (k+1)=bX C s.ah ms k by show(bX C s.ah ms k||eF C (bN C s.ah ms k) k)=_;rw[hf,hd,Bool.or_false]];rfl
    .exact ends _ _ _ hd (by rw[e4];exact(w3.up aH).qJ (ms:=(bN C s.ah ms k).set k _) (by simp)) ((UX.up aH).set (.inl b.xm) (Nat.le_refl _)) rfl rfl rfl rfl rfl
   .obtain⟨j,hj,hj2⟩:∃j:Nat,kc.role=j/\j<s.ah.length:=by
     have:=xw.role hk4;exact⟨kc.role.toNat,by omega,by omega⟩
    have hb4:jS s.ah kc=gQ s.ah j:=by
     unfold jS;rw[show(kc.kind==4)=false by simpa using hk4,hj];rfl
    have e4:lU s.ah kc=⟨1,kc.after,0,gQ s.ah j,false⟩:=by unfold lU;rw[hb4]
    have Zr:=stm (e:=144) hkm ⟨1,kc.after,0,gQ s.ah j,false⟩;repeat' (first|(simp (disch:=omega) only[go_sem,ub.old,Du,aK i1,rd.el,rd.hd,rd.all,aF.av,w3.row,w3.ms,w3.hs,WB.cells,hk4,hj,bU hkm,bU hj2,rdh hj2,Zr])|(simp (disch:=omega) only[go_sem,Du,aK i1,rd.el,rd.hd,rd.all,aF.av,w3.row,w3.ms,w3.hs,WB.cells,hk4,hj,bU hkm,bU hj2,rdh hj2,Zr])|((first|rw[aU]|rw[bT]);with_reducible refine yV _ (w3.jg.up aH) (w3.st.up aH) i2 hm (by have:=xw.rW;omega) (λc hc=>by have:=xw.start c hc;show 0<=c.clause/\c.clause<((bN C s.ah ms k).length:Nat);omega) λh2 n2 u2=>?_;(first|replace ub:=Up.trans ub (Up.trans aH u2)|have ub:=u2);have hle:=ub.le;clear u2)|(refine aS ?_ ?_<;>(intro hb hd;rw[hb];clear hb))|(with_reducible refine aj ?_))
    .refine next _ _ _ ?_ (UX.up aH) rfl rfl rfl ?_ rfl
     .unfold bN gM
      rw[i2,hf,hd];exact w3.up aH
     .rw[show bX C s.ah ms (k+1)=bX C s.ah ms k by show(bX C s.ah ms k||eF C (bN C s.ah ms k) k)=_;rw[hf,hd,Bool.or_false]];rfl
    .exact ends _ _ _ hd (by rw[e4];exact(w3.up aH).qJ (ms:=(bN C s.ah ms k).set k _) (by simp)) ((UX.up aH).set (.inl b.xm) (Nat.le_refl _)) rfl rfl rfl rfl rfl
  .rintro h3 n3 G ⟨w3,u3,rfl⟩
   repeat' (first|(simp (disch:=omega) only[go_sem,ub.old])|(simp (disch:=omega) only[go_sem])|(refine aS ?_ ?_<;>(intro hb hd;rw[hb];clear hb))|(with_reducible refine aj ?_))
   rw[Aa];have hlen:=oO C s.ah ms C.clauses.length;cases hfd:bX C s.ah ms C.clauses.length with
   |true=>
    have:=(fK C s.ah ms C.clauses.length).1 hfd;exact⟨idle (bN C s.ah ms C.clauses.length)+1,_,by omega,⟨_,true,w3,u3,rfl,by omega,λ_=>⟨by rw[<-Dq hfd];exact hb,rfl⟩,λe=>by cases e⟩,by(repeat' (first|exact aP|refine aN rfl ?_))⟩
   |false=>
    refine⟨0,_,by omega,⟨_,false,w3,u3,rfl,by omega,λe=>(by cases e),λ_=>⟨rfl,?_⟩⟩,by(repeat' (first|exact aP|refine aN rfl ?_))⟩;rw[(fK C s.ah ms C.clauses.length).2 hfd,<-hb,wh hfd]
end
end
end
section
noncomputable section
section
variable {h h':AH} {n n':Nat} {Q:AV->AH->Nat->Prop}
theorem M0(K:Nat)(x:Int)(hQ:∀h' n',Up h n h' n'->Q (.b false) h' n'):CW (EF (K+1)) 205 [.i .i64 x] h n Q:=by
 refine aD aeY rfl ?_;repeat' (first|(simp (disch:=omega) only[go_sem,Y6])|(refine aS ?_ ?_<;>(intro hb hd;rw[hb];clear hb))|(with_reducible refine aj ?_))
 exact hQ _ _ aH
theorem JH(K:Nat)(x:Int)(hQ:∀h' n',Up h n h' n'->Q (.b false) h' n'):CW (EF (K+1)) 178 [.i .i64 x] h n Q:=by
 refine aD aeW rfl ?_;repeat' (first|(simp (disch:=omega) only[go_sem,Y5])|(refine aS ?_ ?_<;>(intro hb hd;rw[hb];clear hb))|(with_reducible refine aj ?_))
 exact hQ _ _ aH
theorem QI(K:Nat)(x y:Int)(hQ:∀h' n',Up h n h' n'->Q (.b (decide (x<y))) h' n'):CW (EF (K+2)) 177 [.i .i64 x,.i .i64 y] h n Q:=by
 refine aD aeX rfl ?_;repeat' (first|(simp (disch:=omega) only[go_sem,ub.old,UZ])|(simp (disch:=omega) only[go_sem,UZ])|((first|rw[aU]|rw[bT]);with_reducible refine M0 _ _ λh2 n2 u2=>?_;(first|replace ub:=Up.trans ub (Up.trans aH u2)|have ub:=u2);have hle:=ub.le;clear u2)|(refine aS ?_ ?_<;>(intro hb hd;rw[hb];clear hb))|(with_reducible refine aj ?_))
 exact hQ _ _ aH
@[go_sem] theorem Zt {P:Program} {ty:TypeId} {k:IntKind} {a:Int}:(d_ P ty .shr).run (.i k a) (.i k 1)=some (.i k (a/2)):=by
 cases k<;>rfl
theorem yZ{l:List Int}(hs:l.Pairwise (· < ·)){x:Int}{i:Nat}(h1:∀j y,j<i->l[j]?=some y->y<x)(h2:∀j y,i<=j->l[j]?=some y->x<=y):l.contains x=decide (l[i]?=some x):=by
 rw[Bool.eq_iff_iff,List.contains_iff_mem,decide_eq_true_eq];constructor
 .intro hm
  obtain⟨j,hj⟩:=List.getElem?_of_mem hm;by_cases c1:j<i
  .have:=h1 j x c1 hj;omega
  by_cases c2:j=i
  .subst c2;exact hj
  .have hlt:=(List.getElem?_eq_some_iff.1 hj).1
   have h3:=h2 i l[i] (Nat.le_refl _) (List.getElem?_eq_some_iff.2 ⟨by omega,rfl⟩);have h4:=List.pairwise_iff_getElem.1 hs i j (by omega) hlt (by omega);have h5:=(List.getElem?_eq_some_iff.1 hj).2;omega
 .exact List.mem_of_getElem?
theorem y7(K:Nat){v:AV}{l:List Int}(x:Int)(hv:SL h n 1 v ci l)(hs:l.Pairwise (· < ·))(hl:l.length<=1000000)(hQ:∀(i:Nat) h' n',(l.contains x=true->l[i]?=some x)->Up h n h' n'->Q (.bS [.i .i64 (i:Nat),.b (l.contains x)]) h' n'):CW (EF (K+3)) 99 [v,.i .i64 x] h n Q:=by
 refine aD c99 rfl ?_;repeat' (first|(simp (disch:=omega) only[go_sem,ub.old,m99,hv.len])|(simp (disch:=omega) only[go_sem,m99,hv.len])|(refine aS ?_ ?_<;>(intro hb hd;rw[hb];clear hb))|(with_reducible refine aj ?_))
 refine jo (λm h2 n2 F=>∃i j:Nat,m=j - i/\i<=j/\j<=l.length/\Up h n h2 n2/\(∀k y,k<i->l[k]?=some y->y<x)/\(∀k y,j<=k->l[k]?=some y->x<=y)/\F=[(0,v),(1,.i .i64 x),(6,.i .i64 (l.length:Nat)),(7,.i .i64 (i:Nat)),(8,.i .i64 (j:Nat))]) l.length (by omega) ⟨_,⟨0,l.length,rfl,Nat.zero_le _,Nat.le_refl _,Up.refl _ _,by omega,λk y hk e=>(by rw[List.getElem?_eq_none (by omega)]at e;cases e),rfl⟩,by(repeat' (first|exact aP|refine aN rfl ?_))⟩ ?_;rintro m h2 n2 F ⟨i,j,rfl,hij,hj,u,h1,h3,rfl⟩;by_cases hlt:i<j
 .have hdec:decide ((i:Int)<(j:Int))=true:=decide_eq_true (by omega)
  obtain⟨q,hq,hq1,hq2⟩:∃q:Nat,gF .i64 (gF .u64 (gF .i64 ((i:Int)+j))/2)=(q:Int)/\i<=q/\q<j:=by
   rw[show gF .i64 ((i:Int)+j)=(i:Int)+j from dM (by omega) (by omega),show gF .u64 ((i:Int)+j)=(i:Int)+j from um (by omega) (by omega),dM (by omega) (by omega)];exact⟨((i+j)/2:Nat),by omega,by omega,by omega⟩
  obtain⟨b1,o1,y,i1,hy,hb1,rd⟩:=hv.fQ (k:=(q:Nat)) (by omega) (by omega) (by omega);rw[show((q:Nat):Int).toNat=q by omega]at hy;have uo:=u.old b1 hb1;repeat' (first|(simp (disch:=omega) only[go_sem,ub.old,yN,hdec,hq,aK i1,uo,rd.el,rd.hd])|(simp (disch:=omega) only[go_sem,yN,hdec,hq,aK i1,uo,rd.el,rd.hd])|((first|rw[aU]|rw[bT]);with_reducible refine QI _ _ _ λh2 n2 u2=>?_;(first|replace ub:=Up.trans ub (Up.trans aH u2)|have ub:=u2);have hle:=ub.le;clear u2)|(refine aS ?_ ?_<;>(intro hb hd;rw[hb];clear hb))|(with_reducible refine aj ?_))
  .have hw:gF .i64 ((q:Int)+1)=((q+1:Nat):Int):=by rw[dM (by omega) (by omega)];rfl
   repeat' (first|(simp (disch:=omega) only[go_sem,ub.old,hw])|(simp (disch:=omega) only[go_sem,hw])|(refine aS ?_ ?_<;>(intro hb hd;rw[hb];clear hb))|(with_reducible refine aj ?_))
   rw[Aa];refine⟨j - (q+1),_,by omega,⟨q+1,j,rfl,by omega,hj,by exact aH,λk z hk hz=>?_,h3,rfl⟩,by(repeat' (first|exact aP|refine aN rfl ?_))⟩;by_cases e:k=q
   .subst e;rw[hy]at hz;cases hz;exact hd
   .have:=(List.pairwise_iff_getElem.1 hs) k q (List.getElem?_eq_some_iff.1 hz).1 (List.getElem?_eq_some_iff.1 hy).1 (by omega)
    have:=(List.getElem?_eq_some_iff.1 hz).2;have:=(List.getElem?_eq_some_iff.1 hy).2;omega
  .rw[Aa]
   refine⟨q - i,_,by omega,⟨i,q,rfl,hq1,by omega,by exact aH,h1,λk z hk hz=>?_,rfl⟩,by(repeat' (first|exact aP|refine aN rfl ?_))⟩;by_cases e:k=q
   .subst e;rw[hy]at hz;cases hz;omega
   .have:=(List.pairwise_iff_getElem.1 hs) q k (List.getElem?_eq_some_iff.1 hy).1 (List.getElem?_eq_some_iff.1 hz).1 (by omega)
    have:=(List.getElem?_eq_some_iff.1 hz).2;have:=(List.getElem?_eq_some_iff.1 hy).2;omega
 .obtain rfl:i=j:=by omega
  have hdec:decide ((i:Int)<(i:Int))=false:=by simp
  replace hQ:=λh' n'=>hQ i h' n' (by rw[yZ hs h1 h3];exact of_decide_eq_true);rw[yZ hs h1 h3]at hQ;by_cases hi:i<l.length
  .obtain⟨b1,o1,y,i1,hy,hb1,rd⟩:=hv.fQ (k:=(i:Nat)) (by omega) (by omega) (by omega)
   rw[show((i:Nat):Int).toNat=i by omega]at hy;have uo:=u.old b1 hb1;rw[hy]at hQ;have hil:decide ((i:Int)<(l.length:Int))=true:=decide_eq_true (by omega);repeat' (first|(simp (disch:=omega) only[go_sem,ub.old,yN,hdec,hil,aK i1,uo,rd.el,rd.hd])|(simp (disch:=omega) only[go_sem,yN,hdec,hil,aK i1,uo,rd.el,rd.hd])|((first|rw[aU]|rw[bT]);with_reducible refine JH _ _ λh2 n2 u2=>?_;(first|replace ub:=Up.trans ub (Up.trans aH u2)|have ub:=u2);have hle:=ub.le;clear u2)|(refine aS ?_ ?_<;>(intro hb hd;rw[hb];clear hb))|(with_reducible refine aj ?_))
   all_goals
    have e:decide (some y=some x)=decide (y=x):=by simp
    rw[e]at hQ
   .rw[decide_eq_true hd]at hQ
    exact hQ _ _ aH
   all_goals
    rw[decide_eq_false hd]at hQ;exact hQ _ _ aH
  .rw[List.getElem?_eq_none (by omega)]at hQ
   have hil:decide ((i:Int)<(l.length:Int))=false:=decide_eq_false (by omega);repeat' (first|(simp (disch:=omega) only[go_sem,ub.old,yN,hdec,hil])|(simp (disch:=omega) only[go_sem,yN,hdec,hil])|(refine aS ?_ ?_<;>(intro hb hd;rw[hb];clear hb))|(with_reducible refine aj ?_))
   exact hQ _ _ aH
theorem JI(K:Nat){v:AV}{l:List Int}(x:Int)(hv:SL h n 1 v ci l)(hs:l.Pairwise (· < ·))(hl:l.length<=1000000)(hQ:∀i h' n',Up h n h' n'->Q (.bS [.i .i64 i,.b (l.contains x)]) h' n'):CW (EF (K+3)) 99 [v,.i .i64 x] h n Q:=y7 K x hv hs hl λ_ _ _ _ u=>hQ _ _ _ u
end
end
end
section
noncomputable section
section
variable {h h':AH} {n n':Nat} {b:WB} {v:CS} {C:aA} {s:aI} {Q:AV->AH->Nat->Prop}
theorem uH(K:Nat){g:Nat}(hQ:∀bx h' n',Up h n h' n'->h'.get bx=some (.row 139 [.p g 0])->n<=bx->bx<n'->Q (.f 179 [.p bx 0]) h' n'):CW (EF (K+1)) 100 [.p g 0] h n Q:=by
 refine aD aeP rfl ?_;repeat' (first|(simp (disch:=omega) only[go_sem,Y3])|(refine aS ?_ ?_<;>(intro hb hd;rw[hb];clear hb))|(with_reducible refine aj ?_))
 exact hQ _ _ _ aH aG (by omega) (by omega)
def iy(upd:Nat->List au->List au)(ms:List au)(k:Nat):List au:=(gT ms k).foldl (λms j=>upd j ms) ms
theorem lW(upd:Nat->List au->List au){ms:List au}{k:Nat}(hk:k<ms.length):iy upd ms (k+1)=cond (bM ms k).runs (upd k (iy upd ms k)) (iy upd ms k):=by
 unfold iy;rw[gT,fZ hk];dsimp only;cases (bM ms k).runs with
 |true=>rw[cond_true,cond_true,List.foldl_append];rfl
 |false=>rfl
theorem jX{upd:Nat->List au->List au}(AY:∀i ms,(upd i ms).length=ms.length){ms:List au}:∀k,k<=ms.length->(iy upd ms k).length=ms.length
 |0,_=>rfl
 |k+1,hk=>by
  rw[lW upd (by omega)];cases (bM ms k).runs with
  |true=>rw[cond_true,AY,jX AY k (by omega)]
  |false=>exact jX AY k (by omega)
theorem BS{upd:Nat->List au->List au}(AY:∀i ms,(upd i ms).length=ms.length)(hu:∀i ms (j:Nat),j≠i->(upd i ms)[j]?=ms[j]?){ms:List au}{j:Nat}:∀k,k<=ms.length->k<=j->(iy upd ms k)[j]?=ms[j]?
 |0,_,_=>rfl
 |k+1,hk,hj=>by
  rw[lW upd (by omega)];cases (bM ms k).runs with
  |true=>rw[cond_true,hu _ _ _ (by omega),BS AY hu k (by omega) (by omega)]
  |false=>exact BS AY hu k (by omega) (by omega)
theorem QJ(K:Nat){bx yr:Nat}(upd:Nat->List au->List au)(AY:∀i ms,(upd i ms).length=ms.length)(hu:∀i ms (j:Nat),j≠i->(upd i ms)[j]?=ms[j]?)(J:AH->Nat->Prop)(hJ:∀h n h' n',J h n->Up h n h' n'->J h' n')
 (w:Wk h n b v C s)(j0:J h n)(hbx:∀h n,J h n->h.get bx=some (.row 139 [.p b.g 0]))(hl:s.marks.length<=1000000)
 (hstep:∀i ms h1 n1,i<s.marks.length->ms.length=s.marks.length->bM ms i=bM s.marks i->(bM ms i).runs=true->Wk h1 n1 b v C (s.eU ms)->J h1 n1->RW (Y0 yr [.i .i64 (i:Nat)] (EF (K+1)) h1 n1) λu h2 n2=>u= .b true/\Wk h2 n2 b v C (s.eU (upd i ms))/\J h2 n2)
 (hQ:∀h' n',Wk h' n' b v C (s.eU (iy upd s.marks s.marks.length))->J h' n'->Q (.bS []) h' n'):CW (EF (K+2)) 179 [.y yr,.p bx 0] h n Q:=by
 have hb0:=hbx h n j0;refine aD aeQ rfl ?_;repeat' (first|(simp (disch:=omega) only[go_sem,ub.old,UK,hb0,w.row,WB.cells,Ab (v:=.sl b.bm 0 0 s.marks.length b.cm) (m:=s.marks.length) rfl])|(simp (disch:=omega) only[go_sem,UK,hb0,w.row,WB.cells,Ab (v:=.sl b.bm 0 0 s.marks.length b.cm) (m:=s.marks.length) rfl])|(refine aS ?_ ?_<;>(intro hb hd;rw[hb];clear hb))|(with_reducible refine aj ?_))
 refine cK s.marks.length (λk h3 n3 G=>Wk h3 n3 b v C (s.eU (iy upd s.marks k))/\J h3 n3/\G=[(0,.y yr),(1,.p bx 0)]) (by omega) (by omega) (by omega) (by omega) (λk h3 n3 G ⟨_,_,e⟩=>by subst e;exact⟨rfl,rfl⟩) ⟨rfl,rfl,_,⟨w,j0,rfl⟩,by(repeat' (first|exact aP|refine aN rfl ?_))⟩ ?_ ?_
 .rintro k h3 n3 G hk ⟨w3,j3,rfl⟩
  have hb3:=hbx h3 n3 j3;have hlen:=jX AY (ms:=s.marks) k (by omega);have hkm:k<(iy upd s.marks k).length:=by omega
  have hat:bM (iy upd s.marks k) k=bM s.marks k:=by
   have:=BS AY hu (ms:=s.marks) (j:=k) k (by omega) (Nat.le_refl _);unfold bM;rw[List.getD_eq_getElem?_getD,List.getD_eq_getElem?_getD,this]
  have next:∀h4 n4 (F:Fm),Wk h4 n4 b v C (s.eU (iy upd s.marks (k+1)))->J h4 n4->lk F 10=some (.i .i64 (k:Nat))->lk F 9=some (.i .i64 (s.marks.length:Nat))->lk F 0=some (.y yr)->lk F 1=some (.p bx 0)->
   (lk F 10=some (.i .i64 (k:Nat))/\lk F 9=some (.i .i64 (s.marks.length:Nat))/\∃G,(Wk h4 n4 b v C (s.eU (iy upd s.marks (k+1)))/\J h4 n4/\G=[(0,.y yr),(1,.p bx 0)])/\∀m v,lk G m=some v->lk F m=some v):=
   λh4 n4 F a1 a2 a3 a4 a5 a6=>⟨a3,a4,_,⟨a1,a2,rfl⟩,aN a5 (aN a6 aP)⟩
  have hrm:=rdm (e:=144) hkm;repeat' (first|(simp (disch:=omega) only[go_sem,ub.old,FD,hb3,w3.row,w3.ms,WB.cells,b_ hkm,hrm,hat])|(simp (disch:=omega) only[go_sem,FD,hb3,w3.row,w3.ms,WB.cells,b_ hkm,hrm,hat])|((first|rw[aU]|rw[bT]);with_reducible refine FP _ _ λh2 n2 u2=>?_;(first|replace ub:=Up.trans ub (Up.trans aH u2)|have ub:=u2);have hle:=ub.le;clear u2)|(refine aS ?_ ?_<;>(intro hb hd;rw[hb];clear hb))|(with_reducible refine aj ?_))
  .rw[vC]
   refine RW.mono (hstep k _ _ _ hk hlen hat (by rw[hat];exact hd) (w3.up aH) (hJ _ _ _ _ j3 aH)) ?_;rintro u h4 n4 ⟨rfl,w4,j4⟩;repeat' (first|(simp (disch:=omega) only[go_sem,ub.old])|(simp (disch:=omega) only[go_sem])|(refine aS ?_ ?_<;>(intro hb hd;rw[hb];clear hb))|(with_reducible refine aj ?_))
   exact next _ _ _ (by rw[lW upd (by omega),hd];exact w4) j4 rfl rfl rfl rfl
  .exact next _ _ _ (by rw[lW upd (by omega),hd];exact w3.up aH) (hJ _ _ _ _ j3 aH) rfl rfl rfl rfl
 .rintro h3 n3 G ⟨w3,j3,rfl⟩
  repeat' (first|(simp (disch:=omega) only[go_sem,ub.old])|(simp (disch:=omega) only[go_sem])|(refine aS ?_ ?_<;>(intro hb hd;rw[hb];clear hb))|(with_reducible refine aj ?_))
  exact hQ _ _ w3 j3
theorem xA(K:Nat){g:FuncId}{r:MO}{p q:Tmp}{fF body:Code}{st:List It}{F:Fm}{R:PQ}{bx:Nat}{mb:MC}(upd:Nat->List au->List au)(AY:∀i ms,(upd i ms).length=ms.length)(hu:∀i ms (j:Nat),j≠i->(upd i ms)[j]?=ms[j]?)
 (hr:ev r F []=some (.f 179 [.p bx 0]))(hb:h.get bx=some (.row 139 [.p b.g 0]))(hbn:bx<n)(hbX:¬b.X bx)(w:Wk h n b v C s)(hl:s.marks.length<=1000000)
 (hp:Zc (sl0 g) [p]=some [true])(ha:qg Tryz.prog (sl0 g) fF=some (.reg [⟨none,.mv (.s p),.k q⟩]))(hm:qg Tryz.prog (sl0 g) body=some mb)
 (hstep:∀(i:Nat)(ms:List au) h1 n1 (Qb:PQ),i<s.marks.length->ms.length=s.marks.length->bM ms i=bM s.marks i->(bM s.marks i).runs=true->Wk h1 n1 b v C (s.eU ms)->UX b.X h n h1 n1->
  (∀h2 n2 F2,Wk h2 n2 b v C (s.eU (upd i ms))->UX b.X h1 n1 h2 n2->Qb .bV h2 n2 F2)->sK Tryz.prog (yl Tryz.prog sl0 19) g 100000 [.c mb] .bV (EF (K+1)) h1 n1 (pt (pt F p (.i .i64 (i:Nat))) q (.i .i64 (i:Nat))) Qb)
 (fin:∀h2 n2,Wk h2 n2 b v C (s.eU (iy upd s.marks s.marks.length))->UX b.X h n h2 n2->sK Tryz.prog Y0 g 100000 st .bV (EF (K+2)) h2 n2 F R):SM Tryz.prog Y0 g (.c (.rng r [p] fF body)::st) .bV (EF (K+2)) h n F R:=by
 have Zu:¬b.X n:=λe=>by have:=w.lt e;omega
 have hBn:b.B<=n:=by have:=w.ge.1;have:=w.lg;omega
 refine xu hr λt hF=>?_;refine QJ K upd AY hu (λh1 n1=>UX b.X h n h1 n1/\n<n1/\h1.get n=some (.lp .ready none g t [p] fF body)) (λh1 n1 h2 n2 ⟨j1,j2,j3⟩ u=>⟨j1.trans (UX.up u),Nat.lt_of_lt_of_le j2 u.le,(u.old n j2).trans j3⟩)
  ((w.FV Zu hBn).on (Nat.le_succ n) λ_ _=>rfl) ⟨UX.refl.set (.inr (Nat.le_refl _)) (Nat.le_succ _),Nat.lt_succ_self _,aG⟩ (λh1 n1 j=>(j.1.old bx hbn hbX).trans hb) hl ?_ ?_
 .rintro i ms h1 n1 hi hlen hat hrun w1 ⟨j1,j2,j3⟩
  refine(uy (d:=19) (F:=F) (R:=λbb h3 n3=>bb=true/\Wk h3 n3 b v C (s.eU (upd i ms))/\UX b.X h n h3 n3/\n<n3/\h3.get n=some (.lp .ready none g t [p] fF body)) j3 hF hp rfl ha hm ?_).mono ?_
  .have hrun':(bM s.marks i).runs=true:=by rw[<-hat];exact hrun
   have step:=λQb=>hstep i ms (h1.set n (.lp .busy none g t [p] fF body)) n1 Qb hi hlen hat hrun' (w1.FV Zu hBn) (j1.set (.inr (Nat.le_refl _)) (Nat.le_refl _));have e:Qy [p] [true] [AV.i .i64 (i:Nat)] F=pt F p (.i .i64 (i:Nat)):=rfl;rw[e];have lkp:lk (pt F p (.i .i64 (i:Nat))) p=some (.i .i64 (i:Nat)):=by rw[jN,if_pos rfl]
   simp only[go_sem,lkp];refine⟨_,_,_,_,_,_,j3,step _ λh2 n2 F2 w2 u2=>?_⟩;have hl2:h2.get n=some (.lp .busy none g t [p] fF body):=(u2.old n j2 Zu).trans aG;refine⟨_,_,_,_,_,_,_,hl2,rfl,w2.FV Zu hBn,?_,Nat.lt_of_lt_of_le j2 u2.le,aG⟩;have j1':UX b.X h n (h1.set n (.lp .busy none g t [p] fF body)) n1:=j1.set (.inr (Nat.le_refl _)) (Nat.le_refl _);exact(j1'.trans u2).set (.inr (Nat.le_refl _)) (Nat.le_refl _)
  .rintro u h2 n2 ⟨bb,rfl,rfl,h3⟩
   exact⟨rfl,h3⟩
 .rintro h2 n2 w2 ⟨j1,j2,j3⟩
  refine⟨_,_,_,_,_,_,_,j3,.inl ⟨rfl,rfl,fin _ _ (w2.FV Zu hBn) (j1.set (.inr (Nat.le_refl _)) (Nat.le_refl _))⟩⟩
end
end
end
section
noncomputable section
theorem DN:∀{days last:Int}{l:List Int},nM days last l=true->l.Pairwise (· < ·)/\∀x∈l,last<x
 |_,_,[],_=>⟨List.Pairwise.nil,λ_ h=>by cases h⟩
 |days,last,d::l,h=>by
  simp only[nM,Bool.and_eq_true,Bool.not_eq_true',decide_eq_false_iff_not]at h;obtain⟨h1,h2⟩:=DN h.2.2;refine⟨List.pairwise_cons.2 ⟨h2,h1⟩,λx hx=>?_⟩;rcases List.mem_cons.1 hx with rfl|hx
  .omega
  .have:=h2 x hx;omega
theorem bo1{p b f:Bool}(h:p=true):(p||(b&&f))=true:=by simp[h]
theorem bo2{p b f:Bool}(h:b=true)(k:f=true):(p||(b&&f))=true:=by simp[h,k]
theorem bn1{p b f:Bool}(h:p=false)(h2:f=false):(p||(b&&f))=false:=by simp[h,h2]
theorem bn2{p b f:Bool}(h:p=false)(h2:b=false):(p||(b&&f))=false:=by simp[h,h2]
section
variable {h h':AH} {n n':Nat} {b:WB} {v:CS} {C:aA} {s:aI} {Q:AV->AH->Nat->Prop}
def MB(ms:List au):Prop:=∀m∈ms, -1000<=m.left/\m.left<=1000/\ -1000<=m.got/\m.got<=1000
theorem MB.at_{ms:List au}(k:MB ms){i:Nat}(h:i<ms.length): -1000<=(bM ms i).left/\(bM ms i).left<=1000/\ -1000<=(bM ms i).got/\(bM ms i).got<=1000:=k _ (List.mem_of_getElem? (fZ h))
theorem QK(K:Nat)(w:Wk h n b v C s)(ok:C.Ok)(ho:C.off.length<=1000000)(hl:s.marks.length=C.clauses.length)(hh:s.ah.length=C.ah.length)(hm:MB s.marks)(hd: -1000000<=s.day/\s.day<=1000000)(hQ:∀h' n',Wk h' n' b v C (C.tick s)->UX b.X h n h' n'->Q (.bS []) h' n'):CW (EF (K+5)) 48 [.p b.g 0] h n Q:=by
 have DL:=ok.dN;have g1:=w.lg;have g2:=w.lh;have g3:=w.lu;have g4:=w.lm;obtain⟨e1,e2,e3,e4,e5,e6⟩:=w.ne;have hoff:=(DN ok.off).1;refine aD c48 rfl ?_;repeat' (first|(simp (disch:=omega) only[go_sem,ub.old,m48,w.row,WB.cells])|(simp (disch:=omega) only[go_sem,m48,w.row,WB.cells])|((first|rw[aU]|rw[bT]);with_reducible refine JI _ _ (w.jg.off.up aH) hoff ho λ_ h2 n2 u2=>?_;(first|replace ub:=Up.trans ub (Up.trans aH u2)|have ub:=u2);have hle:=ub.le;clear u2)|(refine aS ?_ ?_<;>(intro hb hd;rw[hb];clear hb))|(with_reducible refine aj ?_))
 rw[aU];refine uH _ λbx h3 n3 u3 hbx hb1 hb2=>?_;have w3:Wk h3 n3 b v C s:=w.up aH;have f1:h3.get n=some (.row 139 [.p b.g 0]):=by rw[u3.old n (by omega)];simp (disch:=omega) only[go_sem,ub.old]
 have f2:h3.get (n+1)=some (.row 218 [.k 3,.f 96 [],.f 97 [],.f 98 [],.f 98 []]):=by rw[u3.old _ (by omega)];simp (disch:=omega) only[go_sem,ub.old]
 have f3:h3.get (n+1+1)=some (.row 4 [.b (C.off.contains s.day)]):=by rw[u3.old _ (by omega)];simp (disch:=omega) only[go_sem,ub.old]
 have KE:UX b.X h n h3 n3:=UX.up aH;have hle3:=u3.le;have hn3:n+1+1<n3:=by omega
 have alp:n<=bx:=by omega
 clear u3 ub hle hle3 hb1;repeat' (first|(simp (disch:=omega) only[go_sem,ub.old])|(simp (disch:=omega) only[go_sem])|(refine aS ?_ ?_<;>(intro hb hd;rw[hb];clear hb))|(with_reducible refine aj ?_))
 refine xA _ (gU C (C.off.contains s.day)) (tO C _) (oP C _) rfl hbx hb2 (λe=>by have:=w.lt e;omega) w3 (by omega) (by kernel_rfl) UM UN ?_ ?_
 .intro i ms h4 n4 Qb hi hlen hat hrun w4 u4 hQb
  have m1:=(u4.old n (by omega) (λe=>by have:=w.lt e;omega)).trans f1;have m2:=(u4.old (n+1) (by omega) (λe=>by have:=w.lt e;omega)).trans f2;have m3:=(u4.old (n+1+1) (by omega) (λe=>by have:=w.lt e;omega)).trans f3;have hi2:i<ms.length:=by omega
  obtain⟨cb,co,k,t,i1,i2,i3,i4,rd⟩:=w4.jg.SC (i:=i) (by omega);have xw:=ok.clause i2;have hmb:=hm.at_ hi;rw[<-hat]at hmb;have l1:=w4.lg;have l2:=w4.lh;have l3:=w4.lu;have l4:=w4.lm;have l5:=u4.le;have wid:gF .i64 ((bM ms i).left - 1)=(bM ms i).left - 1:=dM (by omega) (by omega);have tk:gU C (C.off.contains s.day) i ms=cond ((bM ms i).paused||(k.gP&&C.off.contains s.day)) ms (ms.set i ((bM ms i).wR k)):=by
   unfold gU;rw[i2,fZ hi2]
  rw[tk]at hQb;have blk:((bM ms i).paused||(k.gP&&C.off.contains s.day))=true->∀h2 n2 F2,Wk h2 n2 b v C (s.eU ms)->UX b.X h4 n4 h2 n2->Qb .bV h2 n2 F2:=λe=>by rw[e]at hQb;exact hQb
  have nob:((bM ms i).paused||(k.gP&&C.off.contains s.day))=false->∀h2 n2 F2,Wk h2 n2 b v C (s.eU (ms.set i ((bM ms i).wR k)))->UX b.X h4 n4 h2 n2->Qb .bV h2 n2 F2:=λe=>by rw[e]at hQb;exact hQb
  clear hQb tk;have ag:¬(bM ms i).left - 1=0->(bM ms i).wR k=⟨(bM ms i).status,(bM ms i).left - 1,(bM ms i).got,(bM ms i).aO,(bM ms i).paused⟩:=λe=>by
   unfold au.wR;rw[show((bM ms i).left - 1==0)=false by simpa using e];rfl
  have ag0:(bM ms i).left - 1=0->(bM ms i).wR k=au.due ⟨(bM ms i).status,(bM ms i).left - 1,(bM ms i).got,(bM ms i).aO,(bM ms i).paused⟩ k:=λe=>by
   unfold au.wR;rw[show((bM ms i).left - 1==0)=true by simpa using e];rfl
  repeat' (first|(simp (disch:=omega) only[go_sem,ub.old,FH,m1,m2,m3,w4.row,w4.ms,WB.cells,aK i1,b_ hi2,bU hi2,rd.el,rd.hd,rd.all,aF.av,U8 hi2,Zi hi2,Zl hi2,Sz hi2,wid])|(simp (disch:=omega) only[go_sem,FH,m1,m2,m3,w4.row,w4.ms,WB.cells,aK i1,b_ hi2,bU hi2,rd.el,rd.hd,rd.all,aF.av,U8 hi2,Zi hi2,Zl hi2,Sz hi2,wid])|(refine aS ?_ ?_<;>(intro hb hd;rw[hb];clear hb))|(with_reducible refine aj ?_))
  all_goals first
   |(refine blk (bo1 ?_) _ _ _ (w4.up ?_) (UX.up ?_)<;>first|assumption|(exact aH;done))
   |(refine blk (bo2 ?_ ?_) _ _ _ (w4.up ?_) (UX.up ?_)<;>first|assumption|(exact aH;done))
   |(have nb:=nob (bn1 ‹_› ‹_›))
   |(have nb:=nob (bn2 ‹_› ‹_›))
  all_goals clear blk nob
  all_goals try
   rw[ag hd]at nb;refine nb _ _ _ ((w4.up ?_).qJ (ms:=ms.set i _) ?_) ((UX.up ?_).set (.inl b.xm) (Nat.le_refl _))<;>first|(exact aH;done)|(simp;done)
  all_goals
   rw[ag0 hd]at nb;clear ag ag0;have hk4:k.kind=1\/k.kind=2\/k.kind=3\/k.kind=4:=by have:=xw.Si;have:=xw.Sj;omega
   have hi5:i<(ms.set i ⟨(bM ms i).status,(bM ms i).left - 1,(bM ms i).got,(bM ms i).aO,(bM ms i).paused⟩:List au).length:=by simpa using hi2
   generalize M4:Tr.set (Tr.set (Tr.set h4 n4 _) n4 _) b.bm _=h6;have w6:Wk h6 (n4+1) b v C (s.eU (ms.set i ⟨(bM ms i).status,(bM ms i).left - 1,(bM ms i).got,(bM ms i).aO,(bM ms i).paused⟩)):=by
    rw[<-M4];refine(w4.up ?_).qJ (ms:=ms.set i _) ?_<;>first|(exact aH;done)|(simp;done)
   have u6:UX b.X h4 n4 h6 (n4+1):=by rw[<-M4];exact(UX.up aH).set (.inl b.xm) (Nat.le_refl _)
   have p2:h6.get (n+1)=some (.row 218 [.k 3,.f 96 [],.f 97 [],.f 98 [],.f 98 []]):=by rw[<-M4];simp (disch:=omega) only[go_sem,m2]
   have p1:h6.get n=some (.row 139 [.p b.g 0]):=by rw[<-M4];simp (disch:=omega) only[go_sem,m1]
   clear M4;rcases hk4 with e|e|e|e
   .simp (disch:=omega) only[go_sem,e,p1,p2]
    rw[bT];refine JG _ w6 hi5 i2 λh7 n7 w7 u7=>?_;repeat' (first|(simp (disch:=omega) only[go_sem,ub.old])|(simp (disch:=omega) only[go_sem])|(refine aS ?_ ?_<;>(intro hb hd;rw[hb];clear hb))|(with_reducible refine aj ?_))
    refine nb _ _ _ ?_ (u6.trans u7);rw[uE hi2]at w7;simpa [au.due,e]using w7
   .simp (disch:=omega) only[go_sem,e,p1,p2]
    rw[bT];refine BR _ w6 hi5 λh7 n7 w7 u7=>?_;repeat' (first|(simp (disch:=omega) only[go_sem,ub.old])|(simp (disch:=omega) only[go_sem])|(refine aS ?_ ?_<;>(intro hb hd;rw[hb];clear hb))|(with_reducible refine aj ?_))
    refine nb _ _ _ ?_ (u6.trans u7);rw[uE hi2]at w7;simpa [au.due,e]using w7
   .simp (disch:=omega) only[go_sem,e,p1,p2]
    rw[bT];refine DJ _ w6 hi5 λh7 n7 w7 u7=>?_;repeat' (first|(simp (disch:=omega) only[go_sem,ub.old])|(simp (disch:=omega) only[go_sem])|(refine aS ?_ ?_<;>(intro hb hd;rw[hb];clear hb))|(with_reducible refine aj ?_))
    refine nb _ _ _ ?_ (u6.trans u7);rw[uE hi2]at w7;simpa [au.due,e]using w7
   .simp (disch:=omega) only[go_sem,e,p1,p2]
    rw[bT];refine DJ _ w6 hi5 λh7 n7 w7 u7=>?_;repeat' (first|(simp (disch:=omega) only[go_sem,ub.old])|(simp (disch:=omega) only[go_sem])|(refine aS ?_ ?_<;>(intro hb hd;rw[hb];clear hb))|(with_reducible refine aj ?_))
    refine nb _ _ _ ?_ (u6.trans u7);rw[uE hi2]at w7;simpa [au.due,e]using w7
 .intro h4 n4 w4 u4
  have m1:=(u4.old n (by omega) (λe=>by have:=w.lt e;omega)).trans f1;have wd:gF .i64 (s.day+1)=s.day+1:=dM (by omega) (by omega);repeat' (first|(simp (disch:=omega) only[go_sem,ub.old,m1,w4.row,WB.cells,wd])|(simp (disch:=omega) only[go_sem,m1,w4.row,WB.cells,wd])|(refine aS ?_ ?_<;>(intro hb hd;rw[hb];clear hb))|(with_reducible refine aj ?_))
  rw[aU];refine uG _ (w4.afa (d:=s.day+1)) ok ?_ hh λh5 n5 w5 u5=>?_
  .show(iy (gU C (C.off.contains s.day)) s.marks s.marks.length).length=_
   rw[jX (tO C _) _ (Nat.le_refl _),hl]
  repeat' (first|(simp (disch:=omega) only[go_sem,ub.old])|(simp (disch:=omega) only[go_sem])|(refine aS ?_ ?_<;>(intro hb hd;rw[hb];clear hb))|(with_reducible refine aj ?_))
  exact hQ _ _ w5 (KE.trans ((u4.set (.inl (.inl rfl)) (Nat.le_refl _)).trans u5))
end
end
end
section
noncomputable section
section
variable {h h':AH} {n n':Nat} {b:WB} {v:CS} {C:aA} {s:aI} {Q:AV->AH->Nat->Prop}
theorem sth{e:Nat}{hs:List Int}{j:Nat}(h:j<hs.length)(x:Int):fC (some (.row e (hs.flatMap ci))) (j*1) (some [.i .i64 x])=some (.row e ((hs.set j x).flatMap ci)):=qy (c:=ci) (w:=1) (λ_=>rfl) h
theorem stb{e:Nat}{hs:List Bool}{j:Nat}(h:j<hs.length)(x:Bool):fC (some (.row e (hs.flatMap cb))) (j*1) (some [.b x])=some (.row e ((hs.set j x).flatMap cb)):=qy (c:=cb) (w:=1) (λ_=>rfl) h
theorem rdb{e:Nat}{hs:List Bool}{j:Nat}(h:j<hs.length):rR (some (.row e (hs.flatMap cb))) (j*1) none=some (.b (hs.getD j false)):=by
 have h1:hs[j]?=some (hs.getD j false):=by rw[List.getD_eq_getElem?_getD,List.getElem?_eq_getElem h];rfl
 exact uD (c:=cb) (w:=1) (e:=e) (λ_=>rfl) h1 (j:=0) (by omega)
theorem M5(K:Nat)(w:Wk h n b v C s)(ok:C.Ok)(hl:s.marks.length=C.clauses.length)(hh:s.ah.length=C.ah.length)(hu:s.used.length=C.acts.length){i:Nat}{a:dB}(ha:C.acts[i]?=some a)(hk:a.kind≠1)
 (hQ:∀h' n',Wk h' n' b v C (C.shift i a s)->UX b.X h n h' n'->Q (.bS []) h' n'):CW (EF (K+3)) 104 [.p b.g 0,.i .i64 (i:Nat)] h n Q:=by
 have DL:=ok.dN;have aok:=ok.act (List.mem_of_getElem? ha);have hil:=(List.getElem?_eq_some_iff.1 ha).1;obtain⟨e1,e2,e3,e4,e5,e6⟩:=w.ne;have g1:=w.lg;have g2:=w.lh;have g3:=w.lu;have g4:=w.lm;obtain⟨j,hj,hj2⟩:∃j:Nat,a.give=j/\j<s.ah.length:=by
  have:=aok.give hk;exact⟨a.give.toNat,by omega,by omega⟩
 have hiu:i<s.used.length:=by omega
 obtain⟨b0,o0,a',i0,ha',hb0,rd⟩:=w.jg.acts.fQ (k:=(i:Nat)) (by omega) (by omega) (by omega);rw[show((i:Nat):Int).toNat=i by omega,ha]at ha';cases ha'
 have fin:∀(ms:List au) h4 n4,(cond (a.kind !=3) s.marks (iy (dO C a.give a.tgt) s.marks s.marks.length))=ms->Wk h4 n4 b v C ⟨s.day,s.ah.set j a.tgt,s.used.set i true,ms⟩->UX b.X h n h4 n4->Q (.bS []) h4 n4:=λms h4 n4 e w4 u4=>by
  refine hQ _ _ ?_ u4;have:C.shift i a s=⟨s.day,s.ah.set j a.tgt,s.used.set i true,ms⟩:=by
   unfold aA.shift;rw[hj,show((j:Nat):Int).toNat=j by omega,<-hj];congr 1
  rw[this];exact w4
 refine aD aeU rfl ?_;repeat' (first|(simp (disch:=omega) only[go_sem,Y4,w.row,w.hs,w.us,WB.cells,aK i0,bU hj2,b_ hiu,sth hj2,stb hiu,rd.el,rd.hd,rd.all,dB.av,hj])|(refine aS ?_ ?_<;>(intro hb hd;rw[hb];clear hb))|(with_reducible refine aj ?_))
 .refine fin s.marks _ _ (by rw[show(a.kind !=3)=true by simpa using hd];rfl) (((w.up ?_).setH (hs:=s.ah.set j a.tgt) ?_).Zp (us:=s.used.set i true) ?_) (((UX.up ?_).set (.inl (.inr (.inl rfl))) (Nat.le_refl _)).set (.inl (.inr (.inr (.inl rfl)))) (Nat.le_refl _))<;>first|(exact aH;done)|(simp;done)
 .generalize M4:Tr.set (Tr.set (Tr.set (Tr.set (Tr.set h n _) (n+1) _) (n+1) _) b.bh _) b.bu _=h6
  have w6:Wk h6 (n+2) b v C ⟨s.day,s.ah.set j a.tgt,s.used.set i true,s.marks⟩:=by
   rw[<-M4];refine((w.up ?_).setH (hs:=s.ah.set j a.tgt) ?_).Zp (us:=s.used.set i true) ?_<;>first|(exact aH;done)|(simp;done)
  have u6:UX b.X h n h6 (n+2):=by rw[<-M4];exact((UX.up aH).set (.inl (.inr (.inl rfl))) (Nat.le_refl _)).set (.inl (.inr (.inr (.inl rfl)))) (Nat.le_refl _)
  have p1:h6.get n=some (.row 139 [.p b.g 0]):=by rw[<-M4];simp (disch:=omega) only[go_sem]
  have p2:h6.get (n+1)=some (.row 169 [.i .i64 a.kind,.i .i64 a.role,.i .i64 (j:Nat),.i .i64 a.tgt,.i .i64 a.unit,.i .i64 a.lot.num,.i .i64 a.lot.den]):=by rw[<-M4];simp (disch:=omega) only[go_sem]
  clear M4;rw[aU];refine uH _ λbx h3 n3 u3 hbx hb1 hb2=>?_;have w3:=w6.up u3;have f1:=(u3.old n (by omega)).trans p1;have f2:=(u3.old (n+1) (by omega)).trans p2;have KE:UX b.X h n h3 n3:=u6.trans (UX.up u3);have hn3:n+1+1<n3:=by omega
  clear u3 u6 p1 p2;repeat' (first|(simp (disch:=omega) only[go_sem])|(refine aS ?_ ?_<;>(intro hb hd;rw[hb];clear hb))|(with_reducible refine aj ?_))
  refine xA _ (dO C a.give a.tgt) (iR C _ _) (nN C _ _) rfl hbx hb2 (λe=>by have:=w.lt e;omega) w3 (by show s.marks.length<=_;omega) (by kernel_rfl) Qu Qv ?_ ?_
  .intro q ms h4 n4 Qb hi hlen hat hrun w4 u4 hQb
   have hi:q<s.marks.length:=hi;have hlen:ms.length=s.marks.length:=hlen;have m1:=(u4.old n (by omega) (λe=>by have:=w.lt e;omega)).trans f1;have m2:=(u4.old (n+1) (by omega) (λe=>by have:=w.lt e;omega)).trans f2;have hi2:q<ms.length:=by omega
   obtain⟨cb,co,k,t,i1,i2,i3,i4,fP⟩:=w4.jg.SC (i:=q) (by omega);have l1:=w4.lg;have l2:=w4.lh;have l3:=w4.lu;have l4:=w4.lm;have l5:=u4.le;have tk:dO C a.give a.tgt q ms=cond ((k.kind !=4)&&(k.role==a.give)) (ms.set q ⟨(bM ms q).status,(bM ms q).left,(bM ms q).got,a.tgt,(bM ms q).paused⟩) ms:=by
    unfold dO;rw[i2,fZ hi2]
   rw[tk]at hQb;repeat' (first|(simp (disch:=omega) only[go_sem,H8,m1,m2,w4.row,w4.ms,WB.cells,aK i1,bU hi2,fP.el,fP.hd,fP.all,aF.av,ae9 hi2])|(refine aS ?_ ?_<;>(intro hb hd;rw[hb];clear hb))|(with_reducible refine aj ?_))
   .rename_i h1
    rw[show((k.kind !=4)&&(k.role==a.give))=true by simp;omega]at hQb;refine hQb _ _ _ ((w4.up ?_).qJ (ms:=ms.set q _) ?_) ((UX.up ?_).set (.inl b.xm) (Nat.le_refl _))<;>first|(exact aH;done)|(simp;done)
   all_goals
    rw[show((k.kind !=4)&&(k.role==a.give))=false by simp;omega]at hQb;exact hQb _ _ _ (w4.up aH) (UX.up aH)
  .intro h4 n4 w4 u4
   repeat' (first|(simp (disch:=omega) only[go_sem])|(refine aS ?_ ?_<;>(intro hb hd;rw[hb];clear hb))|(with_reducible refine aj ?_))
   exact fin _ _ _ (by rw[show(a.kind !=3)=false by simpa using hd];rfl) w4 (KE.trans u4)
end
end
end
section
noncomputable section
section
variable {h h':AH} {n n':Nat} {b:WB} {v:CS} {C:aA} {s:aI} {Q:AV->AH->Nat->Prop}
theorem BU{upd:Nat->List au->List au}(hu:∀i ms,MB ms->MB (upd i ms)){ms:List au}(hm:MB ms):∀k,k<=ms.length->MB (iy upd ms k)
 |0,_=>hm
 |k+1,hk=>by
  rw[lW upd (by omega)];cases (bM ms k).runs with
  |true=>exact hu _ _ (BU hu hm k (by omega))
  |false=>exact BU hu hm k (by omega)
theorem MB.set{ms:List au}(hm:MB ms){i:Nat}{m:au}(h: -1000<=m.left/\m.left<=1000/\ -1000<=m.got/\m.got<=1000):MB (ms.set i m):=λx hx=>by
 rcases List.mem_or_eq_of_mem_set hx with hx|rfl
 .exact hm x hx
 .exact h
theorem BX(C:aA)(act:Int)(i:Nat)(ms:List au)(hm:MB ms):MB (dP C act i ms):=by
 unfold dP;split
 .rename_i k m h1 h2
  have:=hm m (List.mem_of_getElem? h2);cases (act==k.pause)with
  |true=>exact hm.set this
  |false=>
   cases (act==k.resume)with
   |true=>exact hm.set this
   |false=>exact hm
 .exact hm
theorem M6(K:Nat)(w:Wk h n b v C s)(ok:C.Ok)(hl:s.marks.length=C.clauses.length)(hh:s.ah.length=C.ah.length)(hu:s.used.length=C.acts.length)(hm:MB s.marks){i:Nat}{a:dB}(ha:C.acts[i]?=some a)
 (hQ:∀h' n',Wk h' n' b v C (C.act i a s)->UX b.X h n h' n'->Q (.bS []) h' n'):CW (EF (K+4)) 49 [.p b.g 0,.i .i64 (i:Nat)] h n Q:=by
 have DL:=ok.dN;have aok:=ok.act (List.mem_of_getElem? ha);have hil:=(List.getElem?_eq_some_iff.1 ha).1;have hiu:i<s.used.length:=by omega
 obtain⟨e1,e2,e3,e4,e5,e6⟩:=w.ne;have g1:=w.lg;have g2:=w.lh;have g3:=w.lu;have g4:=w.lm;obtain⟨b0,o0,a',i0,ha',hb0,rd⟩:=w.jg.acts.fQ (k:=(i:Nat)) (by omega) (by omega) (by omega);rw[show((i:Nat):Int).toNat=i by omega,ha]at ha';cases ha'
 refine aD c49 rfl ?_;have early:((a.kind !=1)&&s.used.getD i false)=true->C.act i a s=s:=λe=>by unfold aA.act;rw[e];rfl
 repeat' (first|(simp (disch:=omega) only[go_sem,ub.old,m49,w.row,w.us,WB.cells,i0,bU hiu,rdb hiu,rd.el,rd.hd,rd.all,dB.av])|(simp (disch:=omega) only[go_sem,m49,w.row,w.us,WB.cells,i0,bU hiu,rdb hiu,rd.el,rd.hd,rd.all,dB.av])|(refine aS ?_ ?_<;>(intro hb hd;rw[hb];clear hb))|(with_reducible refine aj ?_))
 .refine hQ _ _ ?_ (UX.up aH)
  rw[early (by rename_i q;simp only[Bool.and_eq_true];exact⟨by simpa using q,hd⟩)];exact w.up aH
 all_goals
  have hne:((a.kind !=1)&&s.used.getD i false)=false:=by
   first
    |(rw[hd,Bool.and_false];done)
    |(rw[show(a.kind !=1)=false by simpa using hd,Bool.false_and];done)
  clear early;rw[aU];refine uH _ λbx h3 n3 u3 hbx hb1 hb2=>?_;have w3:=w.up (n':=n3) (h':=h3) aH;have f1:h3.get n=some (.row 139 [.p b.g 0]):=by rw[u3.old n (by omega)];simp (disch:=omega) only[go_sem]
  have f2:h3.get (n+1)=some (.row 3 [.i .i64 (i:Nat)]):=by rw[u3.old _ (by omega)];simp (disch:=omega) only[go_sem]
  have f3:h3.get (n+1+1)=some (.row 169 a.av):=by rw[u3.old _ (by omega)];simp (disch:=omega) only[go_sem]
  have KE:UX b.X h n h3 n3:=UX.up aH;have hn3:n+1+1<n3:=by omega
  clear u3 hd;repeat' (first|(simp (disch:=omega) only[go_sem,ub.old])|(simp (disch:=omega) only[go_sem])|(refine aS ?_ ?_<;>(intro hb hd;rw[hb];clear hb))|(with_reducible refine aj ?_))
  refine xA _ (dP C (i:Nat)) (qX C _) (nO C _) rfl hbx hb2 (λe=>by have:=w.lt e;omega) w3 (by omega) (by kernel_rfl) UQ UR ?_ ?_
  .intro q ms h4 n4 Qb hi hlen hat hrun w4 u4 hQb
   have m1:=(u4.old n (by omega) (λe=>by have:=w.lt e;omega)).trans f1;have m2:=(u4.old (n+1) (by omega) (λe=>by have:=w.lt e;omega)).trans f2;have hi2:q<ms.length:=by omega
   obtain⟨cb,co,k,t,i1,i2,i3,i4,fP⟩:=w4.jg.SC (i:=q) (by omega);have l1:=w4.lg;have l2:=w4.lh;have l3:=w4.lu;have l4:=w4.lm;have l5:=u4.le;have tk:dP C (i:Nat) q ms=cond ((i:Int)==k.pause) (ms.set q ⟨(bM ms q).status,(bM ms q).left,(bM ms q).got,(bM ms q).aO,true⟩) (cond ((i:Int)==k.resume) (ms.set q ⟨(bM ms q).status,(bM ms q).left,(bM ms q).got,(bM ms q).aO,false⟩) ms):=by
    unfold dP;rw[i2,fZ hi2]
   rw[tk]at hQb;repeat' (first|(simp (disch:=omega) only[go_sem,ub.old,FK,m1,m2,w4.row,w4.ms,WB.cells,aK i1,b_ hi2,fP.el,fP.hd,fP.all,aF.av,Zm hi2])|(simp (disch:=omega) only[go_sem,FK,m1,m2,w4.row,w4.ms,WB.cells,aK i1,b_ hi2,fP.el,fP.hd,fP.all,aF.av,Zm hi2])|(refine aS ?_ ?_<;>(intro hb hd;rw[hb];clear hb))|(with_reducible refine aj ?_))
   .rw[show((i:Int)==k.pause)=true by simpa using hd]at hQb
    refine hQb _ _ _ (w4.qJ (ms:=ms.set q _) ?_) (UX.refl.set (.inl b.xm) (Nat.le_refl _));simp
   .rename_i h1
    rw[show((i:Int)==k.pause)=false by simpa using h1,show((i:Int)==k.resume)=true by simpa using hd]at hQb;refine hQb _ _ _ (w4.qJ (ms:=ms.set q _) ?_) (UX.refl.set (.inl b.xm) (Nat.le_refl _));simp
   .rename_i h1
    rw[show((i:Int)==k.pause)=false by simpa using h1,show((i:Int)==k.resume)=false by simpa using hd]at hQb;exact hQb _ _ _ w4 UX.refl
  .intro h4 n4 w4 u4
   have m1:=(u4.old n (by omega) (λe=>by have:=w.lt e;omega)).trans f1;have m2:=(u4.old (n+1) (by omega) (λe=>by have:=w.lt e;omega)).trans f2;have m3:=(u4.old (n+1+1) (by omega) (λe=>by have:=w.lt e;omega)).trans f3;have l1:=w4.lg;have l2:=w4.lh;have l3:=w4.lu;have l4:=w4.lm;have l5:=u4.le;have len1:(iy (dP C (i:Nat)) s.marks s.marks.length).length=s.marks.length:=jX (qX C _) _ (Nat.le_refl _);have mb1:MB (iy (dP C (i:Nat)) s.marks s.marks.length):=BU (BX C _) hm _ (Nat.le_refl _);have SE:=KE.trans u4;have hpm:C.paused (i:Nat) s.marks=iy (dP C (i:Nat)) s.marks s.marks.length:=rfl;generalize hpa:iy (dP C (i:Nat)) s.marks s.marks.length=pm at*;clear KE f1 f2 f3 u4;repeat' (first|(simp (disch:=omega) only[go_sem,ub.old,m1,m2,m3,w4.row,WB.cells,dB.av])|(simp (disch:=omega) only[go_sem,m1,m2,m3,w4.row,WB.cells,dB.av])|((first|rw[aU]|rw[bT]);with_reducible refine Ib _ (w4.jg.up aH) (w4.st.up aH) (i:=(i:Nat)) (by omega) (by rw[show((i:Nat):Int).toNat=i by omega];exact ha) (λe=>by rw[show(s.eU pm).ah=s.ah from rfl,hh];exact aok.role e) λh2 n2 u2=>?_;(first|replace ub:=Up.trans ub (Up.trans aH u2)|have ub:=u2);have hle:=ub.le;clear u2)|(refine aS ?_ ?_<;>(intro hb hd;rw[hb];clear hb))|(with_reducible refine aj ?_))
   rw[aU];refine uH _ λby' h5 n5 u5 hby hb3 hb4=>?_;have w5:=w4.up (n':=n5) (h':=h5) aH;have f1:h5.get n=some (.row 139 [.p b.g 0]):=by rw[u5.old n (by omega)];simp (disch:=omega) only[go_sem,ub.old,m1]
   have f2:h5.get (n+1)=some (.row 3 [.i .i64 (i:Nat)]):=by rw[u5.old _ (by omega)];simp (disch:=omega) only[go_sem,ub.old,m2]
   have f3:h5.get (n+1+1)=some (.row 169 a.av):=by rw[u5.old _ (by omega)];simp (disch:=omega) only[go_sem,ub.old,m3]
   have f4:h5.get n4=some (.row 218 [.k 3,.f 101 [],.f 102 [],.f 97 [],.f 97 []]):=by rw[u5.old _ (by omega)];simp (disch:=omega) only[go_sem,ub.old]
   have f5:h5.get (n4+1)=some (.row 3 [.i .i64 (bI s.ah a)]):=by rw[u5.old _ (by omega)];simp (disch:=omega) only[go_sem,ub.old]
   have O9:UX b.X h n h5 n5:=SE.trans (UX.up aH);have hn5:n4+1<n5:=by omega
   have alu:n<=by':=by omega
   clear u5 SE ub hle m1 m2 m3;repeat' (first|(simp (disch:=omega) only[go_sem,ub.old])|(simp (disch:=omega) only[go_sem])|(refine aS ?_ ?_<;>(intro hb hd;rw[hb];clear hb))|(with_reducible refine aj ?_))
   refine xA _ (eG C (i:Nat) (bI s.ah a)) (wm C _ _) (qY C _ _) rfl hby hb4 (λe=>by have:=w.lt e;omega) w5 (by show pm.length<=_;omega) (by kernel_rfl) UW UY ?_ ?_
   .intro q ms h6 n6 Qb hi hlen hat hrun w6 u6 hQb
    have hi:q<pm.length:=hi;have hlen:ms.length=pm.length:=hlen;have m1:=(u6.old n (by omega) (λe=>by have:=w.lt e;omega)).trans f1;have m2:=(u6.old (n+1) (by omega) (λe=>by have:=w.lt e;omega)).trans f2;have m4:=(u6.old n4 (by omega) (λe=>by have:=w4.lt e;omega)).trans f4;have m5:=(u6.old (n4+1) (by omega) (λe=>by have:=w4.lt e;omega)).trans f5;have hi2:q<ms.length:=by omega
    obtain⟨cb,co,k,t,i1,i2,i3,i4,fP⟩:=w6.jg.SC (i:=q) (by omega);have xw:=ok.clause i2;have hmb:=mb1.at_ hi;rw[show bM pm q=bM ms q from hat.symm]at hmb;have l1:=w6.lg;have l2:=w6.lh;have l3:=w6.lu;have l4:=w6.lm;have l5:=u6.le;have tk:eG C (i:Nat) (bI s.ah a) q ms=cond ((k.act==(i:Int))&&((k.kind==4)||((bM ms q).aO==bI s.ah a))) (ms.set q ((bM ms q).hit k)) ms:=by
     unfold eG;rw[i2,fZ hi2]
    rw[tk]at hQb;have hk4:k.kind=1\/k.kind=2\/k.kind=3\/k.kind=4:=by have:=xw.Si;have:=xw.Sj;omega
    have no:((k.act==(i:Int))&&((k.kind==4)||((bM ms q).aO==bI s.ah a)))=false->∀h2 n2 F2,Wk h2 n2 b v C ((s.eU pm).eU ms)->UX b.X h6 n6 h2 n2->Qb .bV h2 n2 F2:=λe=>by rw[e]at hQb;exact hQb
    have ye:((k.act==(i:Int))&&((k.kind==4)||((bM ms q).aO==bI s.ah a)))=true->∀h2 n2 F2,Wk h2 n2 b v C ((s.eU pm).eU (ms.set q ((bM ms q).hit k)))->UX b.X h6 n6 h2 n2->Qb .bV h2 n2 F2:=λe=>by rw[e]at hQb;exact hQb
    clear hQb tk;have yt:k.act=(i:Int)->(k.kind=4\/(bM ms q).aO=bI s.ah a)->((k.act==(i:Int))&&((k.kind==4)||((bM ms q).aO==bI s.ah a)))=true:=λh1 h2=>by simp[h1,h2]
    have nt1:¬k.act=(i:Int)->((k.act==(i:Int))&&((k.kind==4)||((bM ms q).aO==bI s.ah a)))=false:=λh1=>by simp[h1]
    have nt2:¬k.kind=4->¬(bM ms q).aO=bI s.ah a->((k.act==(i:Int))&&((k.kind==4)||((bM ms q).aO==bI s.ah a)))=false:=λh1 h2=>by simp[h1,h2]
    rcases hk4 with e|e|e|e
    all_goals
     repeat' (first|(simp (disch:=omega) only[go_sem,ub.old,FL,m1,m2,m4,m5,w6.row,w6.ms,WB.cells,aK i1,bU hi2,b_ hi2,fP.el,fP.hd,fP.all,aF.av,Zj hi2,e,Int.reduceEq])|(simp (disch:=omega) only[go_sem,FL,m1,m2,m4,m5,w6.row,w6.ms,WB.cells,aK i1,bU hi2,b_ hi2,fP.el,fP.hd,fP.all,aF.av,Zj hi2,e,Int.reduceEq])|(refine aS ?_ ?_<;>(intro hb hd;rw[hb];clear hb))|(with_reducible refine aj ?_))
    all_goals first
     |(refine no (nt1 hd) _ _ _ (w6.up ?_) (UX.up ?_)<;>(exact aH;done))
     |(refine no (nt2 (by omega) hd) _ _ _ (w6.up ?_) (UX.up ?_)<;>(exact aH;done))
     |skip
    all_goals rw[bT]
    .refine FX _ (w6.up aH) hi2 (show(bM ms q).got<=1000000 by omega) (show -1000000<=(bM ms q).got by omega) i2 λh7 n7 w7 u7=>?_
     repeat' (first|(simp (disch:=omega) only[go_sem,ub.old])|(simp (disch:=omega) only[go_sem])|(refine aS ?_ ?_<;>(intro hb hd;rw[hb];clear hb))|(with_reducible refine aj ?_))
     refine ye (yt ‹_› (.inr hd)) _ _ _ ?_ ((UX.up aH).trans u7);simpa [au.hit,e]using w7
    .refine FW _ (w6.up aH) hi2 λh7 n7 w7 u7=>?_
     repeat' (first|(simp (disch:=omega) only[go_sem,ub.old])|(simp (disch:=omega) only[go_sem])|(refine aS ?_ ?_<;>(intro hb hd;rw[hb];clear hb))|(with_reducible refine aj ?_))
     refine ye (yt ‹_› (.inr hd)) _ _ _ ?_ ((UX.up aH).trans u7);simpa [au.hit,e]using w7
    .refine BR _ (w6.up aH) hi2 λh7 n7 w7 u7=>?_
     repeat' (first|(simp (disch:=omega) only[go_sem,ub.old])|(simp (disch:=omega) only[go_sem])|(refine aS ?_ ?_<;>(intro hb hd;rw[hb];clear hb))|(with_reducible refine aj ?_))
     refine ye (yt ‹_› (.inr hd)) _ _ _ ?_ ((UX.up aH).trans u7);simpa [au.hit,e]using w7
    .refine BR _ (w6.up aH) hi2 λh7 n7 w7 u7=>?_
     repeat' (first|(simp (disch:=omega) only[go_sem,ub.old])|(simp (disch:=omega) only[go_sem])|(refine aS ?_ ?_<;>(intro hb hd;rw[hb];clear hb))|(with_reducible refine aj ?_))
     refine ye (yt hd (.inl e)) _ _ _ ?_ ((UX.up aH).trans u7);simpa [au.hit,e]using w7
   .intro h6 n6 w6 u6
    have m1:=(u6.old n (by omega) (λe=>by have:=w.lt e;omega)).trans f1;have m2:=(u6.old (n+1) (by omega) (λe=>by have:=w.lt e;omega)).trans f2;have m3:=(u6.old (n+1+1) (by omega) (λe=>by have:=w.lt e;omega)).trans f3;have l1:=w6.lg;have l2:=w6.lh;have l3:=w6.lu;have l4:=w6.lm;have l5:=u6.le;have len2:(iy (eG C (i:Nat) (bI s.ah a)) pm pm.length).length=pm.length:=jX (wm C _ _) _ (Nat.le_refl _);have hac:C.nP (i:Nat) (bI s.ah a) pm=iy (eG C (i:Nat) (bI s.ah a)) pm pm.length:=rfl;have fin:∀s2:aI,cond (a.kind !=1) (C.shift i a ((s.eU pm).eU (iy (eG C (i:Nat) (bI s.ah a)) pm pm.length))) ((s.eU pm).eU (iy (eG C (i:Nat) (bI s.ah a)) pm pm.length))=s2->C.act i a s=s2.eU (C.begin s2.ah s2.marks):=λs2 e=>by
     unfold aA.act;rw[hne,hpm,hac,<-e];rfl
    clear f1 f2 f3 f4 f5 hac;repeat' (first|(simp (disch:=omega) only[go_sem,ub.old,m1,m2,m3,dB.av])|(simp (disch:=omega) only[go_sem,m1,m2,m3,dB.av])|(refine aS ?_ ?_<;>(intro hb hd;rw[hb];clear hb))|(with_reducible refine aj ?_))
    all_goals first
     |exact absurd hd ‹¬a.kind=1›
     |skip
    all_goals rw[aU]
    all_goals first
     |(
      have hk1:¬a.kind=1:=hd;refine M5 _ w6 ok ?_ hh hu ha hd λh7 n7 w7 u7=>?_
      .show(iy (eG C (i:Nat) (bI s.ah a)) pm pm.length).length=_;omega
      have m1':=(u7.old n (by omega) (λe=>by have:=w.lt e;omega)).trans m1;have l6:=u7.le;repeat' (first|(simp (disch:=omega) only[go_sem,ub.old,m1'])|(simp (disch:=omega) only[go_sem,m1'])|(refine aS ?_ ?_<;>(intro hb hd;rw[hb];clear hb))|(with_reducible refine aj ?_))
      rw[aU];have hsl:(C.shift i a ((s.eU pm).eU (iy (eG C (i:Nat) (bI s.ah a)) pm pm.length))).marks.length=C.clauses.length:=by
       unfold aA.shift;dsimp only;cases (a.kind !=3)with
       |true=>show(iy (eG C (i:Nat) (bI s.ah a)) pm pm.length).length=_;omega
       |false=>
        show(iy (dO C a.give a.tgt) (iy (eG C (i:Nat) (bI s.ah a)) pm pm.length) (iy (eG C (i:Nat) (bI s.ah a)) pm pm.length).length).length=_;rw[jX (iR C _ _) _ (Nat.le_refl _)];omega
      have hsh:(C.shift i a ((s.eU pm).eU (iy (eG C (i:Nat) (bI s.ah a)) pm pm.length))).ah.length=C.ah.length:=by
       unfold aA.shift;simp[hh]
      refine uG _ w7 ok hsl hsh λh8 n8 w8 u8=>?_;repeat' (first|(simp (disch:=omega) only[go_sem,ub.old])|(simp (disch:=omega) only[go_sem])|(refine aS ?_ ?_<;>(intro hb hd;rw[hb];clear hb))|(with_reducible refine aj ?_))
      refine hQ _ _ ?_ (O9.trans (u6.trans (u7.trans u8)));rw[fin _ (by rw[show(a.kind !=1)=true by simpa using hd,cond_true])];exact w8)
     |(
      have hk1:a.kind=1:=hd;refine uG _ w6 ok ?_ hh λh8 n8 w8 u8=>?_
      .show(iy (eG C (i:Nat) (bI s.ah a)) pm pm.length).length=_;omega
      repeat' (first|(simp (disch:=omega) only[go_sem,ub.old])|(simp (disch:=omega) only[go_sem])|(refine aS ?_ ?_<;>(intro hb hd;rw[hb];clear hb))|(with_reducible refine aj ?_))
      refine hQ _ _ ?_ (O9.trans (u6.trans u8));rw[fin _ (by rw[show(a.kind !=1)=false by simpa using hd,cond_false])];exact w8)
end
end
end
section
noncomputable section
section
variable {h h':AH} {n n':Nat} {b:WB} {v:CS} {C:aA} {s:aI} {tv:TS} {Q:AV->AH->Nat->Prop}
abbrev SF:AV:=.agg [.i .i64 0,.k 1,.k 1,.k 1]
theorem lY(C:aA):C.errno=0↔C.valid=true:=by
 unfold aA.errno aA.valid;cases C.over<;>cases (C.framed&&C.iD)<;>simp
theorem Wk.M7(w:Wk h n b v C s):Kp (λx=>x<b.B) h n λh n=>bZ h n (b.tv s) s:=λh2 n2 h3 h4=>by
 have hs:=(h4 b.bh w.lh (by have:=w.ge.2.1;omega)).trans w.hs;have us:=(h4 b.bu w.lu (by have:=w.ge.2.2.1;omega)).trans w.us;have ms:=(h4 b.bm w.lm (by have:=w.ge.2.2.2;omega)).trans w.ms;exact⟨SL.of (λ_=>rfl) (Nat.lt_of_lt_of_le w.lh h3) hs rfl rfl w.kh,SL.of (λ_=>rfl) (Nat.lt_of_lt_of_le w.lu h3) us rfl rfl w.ku,SL.of (λ_=>rfl) (Nat.lt_of_lt_of_le w.lm h3) ms rfl rfl w.km⟩
theorem y8(K:Nat)(hC:aZ h n v C)(ho:C.off.length<=1000000)(lD:C.valid=false->∀h' n',Up h n h' n'->Q (.bS [SF,.i .i64 1]) h' n')
 (uO:C.valid=true->∀tv h' n',Up h n h' n'->Kp (λx=>x<n) h' n' (λh n=>bZ h n tv C.first)->Q (.bS [.agg (tv.av C.first),.i .i64 0]) h' n'):CW (EF (K+7)) 17 [.agg (v.av C)] h n Q:=by
 refine aD c17 rfl ?_;repeat' (first|(simp (disch:=omega) only[go_sem,ub.old,m17,CS.av])|(simp (disch:=omega) only[go_sem,m17,CS.av])|((first|rw[aU]|rw[bT]);with_reducible refine pG _ (hC.up aH) ho λ_ h2 n2 u2=>?_;(first|replace ub:=Up.trans ub (Up.trans aH u2)|have ub:=u2);have hle:=ub.le;clear u2)|(refine aS ?_ ?_<;>(intro hb hd;rw[hb];clear hb))|(with_reducible refine aj ?_))
 .refine lD ?_ _ _ aH
  cases hv:C.valid with
  |false=>rfl
  |true=>exact absurd ((lY C).2 hv) hd
 .have hv:=(lY C).1 hd
  have ok:=aA.ok hv;have DL:=ok.dN;have afd:=ok.jU;rw[bT];refine eT U7 yX _ (hC.ah.up aH) (by have:=ok.kY;omega) λv' h3 n3 u3 g3 hb3 hex=>?_;obtain⟨bh,rfl,hrow,afe,Zv⟩:=hex (λe=>ok.roles (by rw[e];rfl));clear g3 hb3 hex;have ub0:=ub;replace ub:=Up.trans ub (Up.trans aH u3);have hle:=ub.le;clear u3;repeat' (first|(simp (disch:=omega) only[go_sem,ub.old,hC.acts.len,hC.lk,ub0.old])|(simp (disch:=omega) only[go_sem,hC.acts.len,hC.lk,ub0.old])|(refine aS ?_ ?_<;>(intro hb hd;rw[hb];clear hb))|(with_reducible refine aj ?_))
  generalize hh:Tr.set (Tr.set (Tr.set h3 n2 _) (n2+1) _) (n2+2) _=h4;have ux:Up h n h4 n3:=by rw[<-hh];exact aH
  have hf1:h4.get n=some (.row 27 (v.av C)):=by rw[<-hh];simp (disch:=omega) only[go_sem,ub.old]
  have hf2:h4.get (n+1)=some (.row 43 [.i .i64 0,.k 1,.k 1,.k 1]):=by rw[<-hh];simp (disch:=omega) only[go_sem,ub.old]
  obtain⟨b,U_,hbg,w4⟩:∃b:WB,b.B=n+1+1/\b.g=n2+2/\Wk h4 n3 b v C ⟨0,C.ah,List.replicate C.acts.length false,List.replicate C.clauses.length ⟨0,0,0,0,false⟩⟩:=by
   rw[<-hh];refine⟨⟨n+1+1,n2+2,bh,n2,n2+1,none,some C.acts.length,some C.clauses.length⟩,rfl,rfl,?_⟩;refine⟨?_,?_,?_,?_,by show n2+2<n3;omega,Zv,by show n2<n3;omega,by show n2+1<n3;omega,λk hk=>(by cases hk),λk hk=>(by cases hk;simp),λk hk=>(by cases hk;simp),⟨by show n+1+1<=n2+2;omega,by show n+1+1<=bh;omega,by show n+1+1<=n2;omega,by show n+1+1<=n2+1;omega⟩,?_⟩
   .simp (disch:=omega) only[go_sem,WB.cells,List.length_replicate]
   .simp (disch:=omega) only[go_sem,hrow]
   .simp (disch:=omega) only[go_sem]
    exact congrArg some (congrArg (AO.row 4) (je cb false C.acts.length))
   .simp (disch:=omega) only[go_sem]
    exact congrArg some (congrArg (AO.row 144) (je au.av ⟨0,0,0,0,false⟩ C.clauses.length))
   .refine((Kp.JB (n:=n+1+1) (λh' n' u=>hC.up (Up.trans ?_ u)) (λx hx=>hx)).up ub).set (.inl ?_) (Nat.le_refl _) |>.set (.inl ?_) (Nat.le_refl _) |>.set (.inl ?_) (Nat.le_refl _)
    .exact aH
    all_goals(show n+1+1<=_;omega)
  have hn3:n+1+1<=n3:=by omega
  clear hh ub ub0 hrow afe Zv hle;rw[<-hbg];refine cK C.clauses.length (λk h5 n5 G=>∃ms,Wk h5 n5 b v C ⟨0,C.ah,List.replicate C.acts.length false,ms⟩/\UX b.X h4 n3 h5 n5/\ms.length=C.clauses.length/\(∀j k',j<k->C.clauses[j]?=some k'->ms[j]?=some (eY k'))/\G=[(1,.p n 0),(2,.p (n+1) 0),(6,.p b.g 0),(33,v.k)]) (by omega) (by omega) (by omega) (by omega) (λk h3 n3 G ⟨_,_,_,_,_,e⟩=>by subst e;exact⟨rfl,rfl⟩) ⟨rfl,rfl,_,⟨_,w4,UX.refl,by simp,λ_ _ h=>by omega,rfl⟩,by(repeat' (first|exact aP|refine aN rfl ?_))⟩ ?_ ?_
  .rintro k h5 n5 G hk ⟨ms,w5,u5,hl,hms,rfl⟩
   obtain⟨cb,co,kc,t,i1,i2,i3,i4,rd⟩:=w5.jg.SC hk;have l1:=w5.lg;have l2:=w5.lh;have l3:=w5.lu;have l4:=w5.lm;have hkm:k<ms.length:=by omega
   obtain⟨e1,e2,e3,e4,e5,e6⟩:=w5.ne;have st0:=stm (e:=144) hkm ⟨0,0,0, -1,false⟩;repeat' (first|(simp (disch:=omega) only[go_sem,ub.old,MN,aK i1,rd.el,rd.hd,rd.all,aF.av,w5.row,w5.ms,WB.cells,b_ hkm,st0,SA hkm])|(simp (disch:=omega) only[go_sem,MN,aK i1,rd.el,rd.hd,rd.all,aF.av,w5.row,w5.ms,WB.cells,b_ hkm,st0,SA hkm])|(refine aS ?_ ?_<;>(intro hb hd;rw[hb];clear hb))|(with_reducible refine aj ?_))
   all_goals
    have key:∀(m:au) j k',m=eY kc->j<k+1->C.clauses[j]?=some k'->(ms.set k m)[j]?=some (eY k'):=λm j k' em hj hk'=>by
     by_cases e:k=j
     .subst e
      rw[i2]at hk';cases hk';rw[List.getElem?_set_self hkm,em]
     .rw[List.getElem?_set_ne e];exact hms j k' (by omega) hk'
   .exact⟨rfl,rfl,_,⟨_,((w5.up aH).qJ (ms:=ms.set k ⟨0,0,0, -1,false⟩) (by simp)).qJ (ms:=ms.set k ⟨5,0,0, -1,false⟩) (by simp),((u5.trans (UX.up aH)).set (.inl b.xm) (Nat.le_refl _)).set (.inl b.xm) (Nat.le_refl _),by simp[hl],λj k'=>key _ j k' (by unfold eY;rw[hd];rfl),rfl⟩,by(repeat' (first|exact aP|refine aN rfl ?_))⟩
   .exact⟨rfl,rfl,_,⟨_,(w5.up aH).qJ (ms:=ms.set k ⟨0,0,0, -1,false⟩) (by simp),(u5.trans (UX.up aH)).set (.inl b.xm) (Nat.le_refl _),by simp[hl],λj k'=>key _ j k' (by unfold eY;rw[hd];rfl),rfl⟩,by(repeat' (first|exact aP|refine aN rfl ?_))⟩
  .rintro h5 n5 G ⟨ms,w5,u5,hl,hms,rfl⟩
   have afg:ms=C.clauses.map eY:=List.ext_getElem? λj=>by
    rw[List.getElem?_map];cases hc:C.clauses[j]? with
    |none=>rw[List.getElem?_eq_none_iff]at hc;rw[List.getElem?_eq_none (by omega)];rfl
    |some k'=>exact hms j k' (List.getElem?_eq_some_iff.1 hc).1 hc
   subst afg;have hX:∀x,b.X x->n+1+1<=x:=λx hx=>by
    have:=w4.ge;rcases hx with rfl|rfl|rfl|rfl<;>omega
   repeat' (first|(simp (disch:=omega) only[go_sem,ub.old])|(simp (disch:=omega) only[go_sem])|(refine aS ?_ ?_<;>(intro hb hd;rw[hb];clear hb))|(with_reducible refine aj ?_))
   rw[aU];refine uG _ w5 ok hl (by rfl) λh6 n6 w6 u6=>?_;have u46:=u5.trans u6;have q1:=(u46.old n (by omega) (λe=>by have:=hX _ e;omega)).trans hf1;have q2:=(u46.old (n+1) (by omega) (λe=>by have:=hX _ e;omega)).trans hf2;repeat' (first|(simp (disch:=omega) only[go_sem,ub.old,q2,w6.row,WB.cells])|(simp (disch:=omega) only[go_sem,q2,w6.row,WB.cells])|(refine aS ?_ ?_<;>(intro hb hd;rw[hb];clear hb))|(with_reducible refine aj ?_))
   refine uO hv (b.tv C.first) _ _ ?_ ?_
   .have:=((UX.up ux).trans u46).U9 λx hx=>by have:=hX x hx;omega
    exact aH
   .exact(w6.M7.set (.inl (by rw[U_];omega)) (Nat.le_refl _)).le λx _ hx=>by rw[U_];omega
end
end
end
noncomputable section
section
variable {h h':AH} {n n':Nat} {b:WB} {v:CS} {C:aA} {s:aI} {tv:TS} {Q:AV->AH->Nat->Prop}
theorem y9{w e b:Nat}{cells:List AV}{x:AV}{α:Type}{c:α->List AV}{l:List α}{cap:Option Nat}(hb:h.get b=some (.row e cells))(hl:cells.length=l.length*w)(hx:SL h n w x c l):qO w h n (.sl b 0 0 l.length cap) x= .ok (.i .i64 (l.length:Nat)) (h.set b (.row e (l.flatMap c))) n:=by
 have hw:=hx.1;have e1:lG (.sl b 0 0 l.length cap)=some l.length:=rfl;have e2:Nat.min l.length l.length=l.length:=Nat.min_self _;have e3:uP (l.flatMap c) 0 cells=some (l.flatMap c):=xY (Yx (by rw[hl,bL hw]));simp only[qO,e1,e2,hx.ap.1,hx.ap.2,aJ,hb,e3];rfl
theorem aM.mb(so:aM C s):MB s.marks:=λm hm=>by
 have ok:=aA.ok so.con;obtain⟨i,hi⟩:=List.getElem?_of_mem hm;have hil:=(List.getElem?_eq_some_iff.1 hi).1;have hic:i<C.clauses.length:=by have:=so.lm;omega
 have hk:C.clauses[i]?=some C.clauses[i]:=List.getElem?_eq_some_iff.2 ⟨hic,rfl⟩;have xw:=ok.clause hk;have h1:=so.marks i m _ hi hk;have h2:=bO.got xw h1;have h3: -1000<=m.left/\m.left<=1000:=by
  have:=xw.Md;have:=xw.Me;rcases h1 with e|e|e
  .omega
  .rcases e with⟨e1|e1,e2,e3,_⟩<;>omega
  .omega
 omega
theorem uI(K:Nat)(hC:aZ h n v C)(ho:C.off.length<=1000000)(hS:bZ h n tv s)(t:Int)
 (lD:(C.dU s=false\/t< -1\/C.acts.length<=t)->∀h' n',Up h n h' n'->Q (.bS [SF,.i .i64 1]) h' n')
 (uO:C.dU s=true-> -1<=t->t<C.acts.length->s.day=C.days->∀h' n',Up h n h' n'->Q (.bS [SF,.i .i64 13]) h' n')
 (KF:C.dU s=true-> -1<=t->t<C.acts.length->s.day<C.days->∀tv h' n',Up h n h' n'->Kp (λx=>x<n) h' n' (λh n=>bZ h n tv (C.bA s t))->Q (.bS [.agg (tv.av (C.bA s t)),.i .i64 0]) h' n'):CW (EF (K+8)) 18 [.agg (v.av C),.agg (tv.av s),.i .i64 t] h n Q:=by
 refine aD c18 rfl ?_;repeat' (first|(simp (disch:=omega) only[go_sem,ub.old,m18,CS.av,TS.av,hC.acts.len,hS.ah.len,hS.used.len,hS.marks.len])|(simp (disch:=omega) only[go_sem,m18,CS.av,TS.av,hC.acts.len,hS.ah.len,hS.used.len,hS.marks.len])|((first|rw[aU]|rw[bT]);with_reducible refine gK _ (hC.up aH) ho (hS.up aH) λh2 n2 u2=>?_;(first|replace ub:=Up.trans ub (Up.trans aH u2)|have ub:=u2);have hle:=ub.le;clear u2)|(refine aS ?_ ?_<;>(intro hb hd;rw[hb];clear hb))|(with_reducible refine aj ?_))
 .exact lD (.inl hd) _ _ aH
 .exact lD (.inr (.inl hd)) _ _ aH
 .exact lD (.inr (.inr hd)) _ _ aH
 .exact uO ‹_› (by omega) (by omega) hd _ _ aH
 .rename_i hst h1 h2
  have so:=(dS C s).1 hst;have ok:=aA.ok so.con;have DL:=ok.dN;have afd:=ok.jU;have alz:=ok.kY;have lh:=so.lh;have lu:=so.lu;have lm:=so.lm;have wT:s.day<C.days:=by have:=so.Fg;omega
  repeat' (first|(simp (disch:=omega) only[go_sem,ub.old,hS.ah.len,hS.used.len,hS.marks.len])|(simp (disch:=omega) only[go_sem,hS.ah.len,hS.used.len,hS.marks.len])|(refine aS ?_ ?_<;>(intro hb hd;rw[hb];clear hb))|(with_reducible refine aj ?_))
  generalize hh:Tr.set (Tr.set (Tr.set (Tr.set _ n2 _) (n2+1) _) (n2+2) _) (n2+3) _=h4;have ux:Up h n h4 (n2+5):=by rw[<-hh];exact aH
  have hf1:h4.get n=some (.row 27 (v.av C)):=by rw[<-hh];simp (disch:=omega) only[go_sem,ub.old]
  have hf2:h4.get (n+1)=some (.row 43 (tv.av s)):=by rw[<-hh];simp (disch:=omega) only[go_sem,ub.old]
  have hf3:h4.get (n+1+1)=some (.row 43 [.i .i64 0,.k 1,.k 1,.k 1]):=by rw[<-hh];simp (disch:=omega) only[go_sem,ub.old]
  have r0:h4.get (n2+3)=some (.row 142 [.i .i64 C.aC,v.h,v.u,v.a,v.k,.i .i64 C.days,v.o,.i .i64 s.day,.sl n2 0 0 s.ah.length (some s.ah.length),.sl (n2+1) 0 0 s.used.length (some s.used.length),.sl (n2+2) 0 0 s.marks.length (some s.marks.length)]):=by rw[<-hh];simp (disch:=omega) only[go_sem]
  have r1:h4.get n2=some (.row 3 (rep s.ah.length (ci 0))):=by rw[<-hh];simp (disch:=omega) only[go_sem]
  have r2:h4.get (n2+1)=some (.row 4 (rep s.used.length (cb false))):=by rw[<-hh];simp (disch:=omega) only[go_sem]
  have r3:h4.get (n2+2)=some (.row 144 (rep s.marks.length (au.av ⟨0,0,0,0,false⟩))):=by rw[<-hh];simp (disch:=omega) only[go_sem]
  have kc:Kp (λx=>n+1+1+1<=x) h4 (n2+5) λh n=>aZ h n v C:=by
   rw[<-hh];refine(((((Kp.JB (n:=n+1+1+1) (λh' n' u=>hC.up (Up.trans ?_ u)) (λx hx=>hx)).up ub).set (.inl ?_) (Nat.le_refl _)).set (.inl ?_) (Nat.le_refl _)).set (.inl ?_) (Nat.le_refl _)).set (.inl ?_) ?_
   .exact aH
   all_goals first|omega|(show n+1+1+1<=_;omega)
  have c1:qO 1 h4 (n2+5) (.sl n2 0 0 s.ah.length (some s.ah.length)) tv.h= .ok (.i .i64 (s.ah.length:Nat)) (h4.set n2 (.row 3 (s.ah.flatMap ci))) (n2+5):=y9 r1 (by rw[je ci];rw[bL (c:=ci) (w:=1) (λ_=>rfl)];simp) (hS.ah.up ux);have u5:Up h n (h4.set n2 (.row 3 (s.ah.flatMap ci))) (n2+5):=by exact aH
  have c2:qO 1 (h4.set n2 (.row 3 (s.ah.flatMap ci))) (n2+5) (.sl (n2+1) 0 0 s.used.length (some s.used.length)) tv.u= .ok (.i .i64 (s.used.length:Nat)) ((h4.set n2 (.row 3 (s.ah.flatMap ci))).set (n2+1) (.row 4 (s.used.flatMap cb))) (n2+5):=y9 (by rw[ay (by omega)];exact r2) (by rw[je cb];rw[bL (c:=cb) (w:=1) (λ_=>rfl)];simp) (hS.used.up u5);have u6:Up h n ((h4.set n2 (.row 3 (s.ah.flatMap ci))).set (n2+1) (.row 4 (s.used.flatMap cb))) (n2+5):=by exact aH
  have c3:qO 5 ((h4.set n2 (.row 3 (s.ah.flatMap ci))).set (n2+1) (.row 4 (s.used.flatMap cb))) (n2+5) (.sl (n2+2) 0 0 s.marks.length (some s.marks.length)) tv.m= .ok (.i .i64 (s.marks.length:Nat)) (((h4.set n2 (.row 3 (s.ah.flatMap ci))).set (n2+1) (.row 4 (s.used.flatMap cb))).set (n2+2) (.row 144 (s.marks.flatMap au.av))) (n2+5):=y9 (by rw[ay (by omega),ay (by omega)];exact r3) (by rw[je au.av];rw[bL (c:=au.av) (w:=5) (λ_=>rfl)];simp) (hS.marks.up u6);have hle:n+1+1+1<=n2:=by omega
  clear hh ub;repeat' (first|(simp (disch:=omega) only[go_sem,ub.old,c1,c2,c3,r0,hf1,hf2,hf3,TS.av])|(simp (disch:=omega) only[go_sem,c1,c2,c3,r0,hf1,hf2,hf3,TS.av])|(refine aS ?_ ?_<;>(intro hb hd;rw[hb];clear hb))|(with_reducible refine aj ?_))
  all_goals
   generalize hh7:Tr.set (Tr.set (Tr.set h4 n2 _) (n2+1) _) (n2+2) _=h7;have u7:Up h n h7 (n2+5):=by rw[<-hh7];exact aH
   have q3:h7.get (n+1+1)=some (.row 43 [.i .i64 0,.k 1,.k 1,.k 1]):=by rw[<-hh7];simp (disch:=omega) only[go_sem,hf3]
   obtain⟨b,U_,hbg,hbX,w7⟩:∃b:WB,b.B=n+1+1+1/\b.g=n2+3/\(∀x,b.X x->n+1+1+1<=x)/\Wk h7 (n2+5) b v C s:=by
    rw[<-hh7];refine⟨⟨n+1+1+1,n2+3,n2,n2+1,n2+2,some s.ah.length,some s.used.length,some s.marks.length⟩,rfl,rfl,?_,?_,?_,?_,?_,by show n2+3<n2+5;omega,by show n2<n2+5;omega,by show n2+1<n2+5;omega,by show n2+2<n2+5;omega,λk hk=>(by cases hk;exact Nat.le_refl _),λk hk=>(by cases hk;exact Nat.le_refl _),λk hk=>(by cases hk;exact Nat.le_refl _),⟨by show n+1+1+1<=n2+3;omega,by show n+1+1+1<=n2;omega,by show n+1+1+1<=n2+1;omega,by show n+1+1+1<=n2+2;omega⟩,?_⟩
    .rintro x (e|e|e|e)
     .have:x=n2+3:=e;omega
     .have:x=n2:=e;omega
     .have:x=n2+1:=e;omega
     .have:x=n2+2:=e;omega
    .simp (disch:=omega) only[go_sem,r0]
    .simp (disch:=omega) only[go_sem]
    .simp (disch:=omega) only[go_sem]
    .simp (disch:=omega) only[go_sem]
    .exact((kc.set (.inl (by show n+1+1+1<=_;omega)) (Nat.le_refl _)).set (.inl (by show n+1+1+1<=_;omega)) (Nat.le_refl _)).set (.inl (by show n+1+1+1<=_;omega)) (Nat.le_refl _)
   clear hh7 c1 c2 c3 r0 r1 r2 r3 kc hf1 hf2 hf3 u5 u6;rw[<-hbg]
  .rw[aU]
   refine QK _ w7 ok ho lm lh so.mb (by have:=so.Fe;have:=so.Fg;have:=ok.Sg;omega) λh8 n8 w8 u8=>?_;have p3:=(u8.old (n+1+1) (by omega) (λe=>by have:=hbX _ e;omega)).trans q3;repeat' (first|(simp (disch:=omega) only[go_sem,ub.old,p3,w8.row,WB.cells])|(simp (disch:=omega) only[go_sem,p3,w8.row,WB.cells])|(refine aS ?_ ?_<;>(intro hb hd;rw[hb];clear hb))|(with_reducible refine aj ?_))
   have hst':C.bA s t=C.tick s:=by unfold aA.bA;rw[if_pos hd]
   have res:=KF hst (by omega) (by omega) wT (b.tv (C.tick s));rw[hst']at res;refine res _ _ ?_ ?_
   .have:=((UX.up u7).trans u8).U9 λx hx=>by have:=hbX x hx;omega
    exact aH
   .exact(w8.M7.set (.inl (by rw[U_];omega)) (Nat.le_refl _)).le λx _ hx=>by rw[U_];omega
  .rw[aU]
   obtain⟨i,rfl⟩:=Int.eq_ofNat_of_zero_le (show 0<=t by omega);obtain⟨a,ha⟩:∃a,C.acts[i]?=some a:=⟨C.acts[i]'(by omega),List.getElem?_eq_some_iff.2 ⟨by omega,rfl⟩⟩;refine M6 _ w7 ok lm lh lu so.mb ha λh8 n8 w8 u8=>?_;have p3:=(u8.old (n+1+1) (by omega) (λe=>by have:=hbX _ e;omega)).trans q3;repeat' (first|(simp (disch:=omega) only[go_sem,ub.old,p3,w8.row,WB.cells])|(simp (disch:=omega) only[go_sem,p3,w8.row,WB.cells])|(refine aS ?_ ?_<;>(intro hb hd;rw[hb];clear hb))|(with_reducible refine aj ?_))
   have hst':C.bA s (i:Nat)=C.act i a s:=by unfold aA.bA;rw[if_neg hd,show((i:Nat):Int).toNat=i by omega,ha]
   have res:=KF hst (by omega) (by omega) wT (b.tv (C.act i a s));rw[hst']at res;refine res _ _ ?_ ?_
   .have:=((UX.up u7).trans u8).U9 λx hx=>by have:=hbX x hx;omega
    exact aH
   .exact(w8.M7.set (.inl (by rw[U_];omega)) (Nat.le_refl _)).le λx _ hx=>by rw[U_];omega
end
end
end Go.Proofs.YtjoohkjmoghmoaaGreatDoor
