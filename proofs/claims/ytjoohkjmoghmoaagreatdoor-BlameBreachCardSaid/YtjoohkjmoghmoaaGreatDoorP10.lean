/- part -/
import Derived.Test.YtjoohkjmoghmoaaGreatDoorP09
set_option linter.all false
namespace Go.Proofs.YtjoohkjmoghmoaaGreatDoor
section
noncomputable section
section
variable {h h':AH} {n n':Nat} {b:WB} {v:CS} {C:aA} {s:aH} {Q:AV->AH->Nat->Prop}
theorem rdh{e:Nat}{hs:List Int}{j:Nat}(h:j<hs.length):qX (some (.row e (hs.flatMap ci))) (j*1) none=some (.i .i64 (gW hs (j:Nat))):=by
 have h1:hs[j]?=some hs[j]:=List.getElem?_eq_some_iff.2 ⟨h,rfl⟩;have h2:=um (c:=ci) (w:=1) (e:=e) (λ_=>rfl) h1 (j:=0) (by omega);unfold gW;rw[show((j:Nat):Int).toNat=j by omega,h1];exact h2
theorem Qe(ms:List au):idle ms<=ms.length:=List.length_filter_le _ _
theorem uw(K:Nat)(w:Wk h n b v C s)(ok:C.Ok)(hl:s.marks.length=C.clauses.length)(hh:s.ah.length=C.ah.length)(hQ:∀h' n',Wk h' n' b v C (s.eH (C.begin s.ah s.marks))->UX b.X h n h' n'->Q (.bQ []) h' n'):CW (EF (K+2)) 46 [.p b.g 0] h n Q:=by
 have DZ:=ok.dL;refine aD c46 rfl ?_;repeat' (first|(simp (disch:=omega) only[go_sem,simprocAttr,ub.old,m46])|(simp (disch:=omega) only[go_sem,simprocAttr,m46])|(refine aT ?_ ?_<;>(intro hb hd;rw[hb];clear hb))|(with_reducible refine aj ?_))
 refine jw (λm h2 n2 F=>∃ms x,Wk h2 n2 b v C (s.eH ms)/\UX b.X h n h2 n2/\F=[(0,.p b.g 0),(2,.b x)]/\ms.length=s.marks.length/\(x=true->C.begin s.ah ms=C.begin s.ah s.marks/\m=idle ms+1)/\(x=false->m=0/\ms=C.begin s.ah s.marks)) (idle s.marks+1) (by have:=Qe s.marks;omega) ⟨_,⟨s.marks,true,w,UX.refl,rfl,rfl,λ_=>⟨rfl,rfl⟩,λe=>by cases e⟩,by(repeat' (first|exact aR|refine aN rfl ?_))⟩ ?_;rintro m h2 n2 F ⟨ms,x,w2,u2,rfl,hml,hx1,hx2⟩;cases x with
 |false=>
  repeat' (first|(simp (disch:=omega) only[go_sem,simprocAttr,ub.old])|(simp (disch:=omega) only[go_sem,simprocAttr])|(refine aT ?_ ?_<;>(intro hb hd;rw[hb];clear hb))|(with_reducible refine aj ?_))
  obtain⟨_,rfl⟩:=hx2 rfl;exact hQ _ _ w2 u2
 |true=>
  obtain⟨hb,rfl⟩:=hx1 rfl;repeat' (first|(simp (disch:=omega) only[go_sem,simprocAttr,ub.old,w2.row,WB.cells,w2.jm.lk])|(simp (disch:=omega) only[go_sem,simprocAttr,w2.row,WB.cells,w2.jm.lk])|(refine aT ?_ ?_<;>(intro hb hd;rw[hb];clear hb))|(with_reducible refine aj ?_))
  refine b_ C.clauses.length (λk h3 n3 G=>Wk h3 n3 b v C (s.eH (bL C s.ah ms k))/\UX b.X h n h3 n3/\G=[(0,.p b.g 0),(2,.b (bV C s.ah ms k)),(11,v.k)]) (by omega) (by omega) (by omega) (by omega) (λk h3 n3 G ⟨_,_,e⟩=>by subst e;exact⟨rfl,rfl⟩) ⟨rfl,rfl,_,⟨w2,u2,rfl⟩,by(repeat' (first|exact aR|refine aN rfl ?_))⟩ ?_ ?_
  .rintro k h3 n3 G hk ⟨w3,u3,rfl⟩
   have g1:=w3.lg;have g2:=w3.lh;have g3:=w3.lu;have g4:=w3.lm;obtain⟨cb,co,kc,t,i1,i2,i3,i4,rd⟩:=w3.jm.Sg hk;have xI:=ok.clause i2;have hlen:(bL C s.ah ms k).length=ms.length:=o_ C s.ah ms k;have hkm:k<(bL C s.ah ms k).length:=by omega
   have hm:=gG hkm;have hf:eB C (bL C s.ah ms k) k=dz (bL C s.ah ms k) kc (bK (bL C s.ah ms k) k):=by unfold eB;rw[i2,hm]
   have next:∀h4 n4 (F:Fm),Wk h4 n4 b v C (s.eH (bL C s.ah ms (k+1)))->UX b.X h3 n3 h4 n4->lk F 13=some (.i .i64 (k:Nat))->lk F 12=some (.i .i64 (C.clauses.length:Nat))->lk F 0=some (.p b.g 0)->lk F 2=some (.b (bV C s.ah ms (k+1)))->lk F 11=some v.k->
    (lk F 13=some (.i .i64 (k:Nat))/\lk F 12=some (.i .i64 (C.clauses.length:Nat))/\∃G,(Wk h4 n4 b v C (s.eH (bL C s.ah ms (k+1)))/\UX b.X h n h4 n4/\G=[(0,.p b.g 0),(2,.b (bV C s.ah ms (k+1))),(11,v.k)])/\∀m v,lk G m=some v->lk F m=some v):=
    λh4 n4 F a1 a2 a3 a4 a5 a6 a7=>⟨a3,a4,_,⟨a1,u3.trans a2,rfl⟩,aN a5 (aN a6 (aN a7 aR))⟩
   have ends:∀h4 n4 (F:Fm),dz (bL C s.ah ms k) kc (bK (bL C s.ah ms k) k)=true->Wk h4 n4 b v C (s.eH ((bL C s.ah ms k).set k (mh s.ah kc)))->UX b.X h3 n3 h4 n4->lk F 13=some (.i .i64 (k:Nat))->lk F 12=some (.i .i64 (C.clauses.length:Nat))->lk F 0=some (.p b.g 0)->lk F 2=some (.b true)->lk F 11=some v.k->_:=
    λh4 n4 F hd a1 a2 a3 a4 a5 a6 a7=>next h4 n4 F (by unfold bL gU;rw[i2,hf,hd];exact a1) a2 a3 a4 a5 (by rw[a6];unfold bV;rw[hf,hd,Bool.or_true]) a7
   by_cases hk4:kc.kind=4
   .have hb4:jW s.ah kc= -1:=by unfold jW;simp[hk4]
    have e4:mh s.ah kc=⟨1,kc.after,0, -1,false⟩:=by unfold mh;rw[hb4]
    have Y1:=stm (e:=144) hkm ⟨1,kc.after,0, -1,false⟩;repeat' (first|(simp (disch:=omega) only[go_sem,simprocAttr,ub.old,aK i1,rd.el,rd.hd,rd.all,aF.av,w3.row,w3.ms,WB.cells,hk4,bS hkm,Y1,BEq.rfl,cond_true])|(simp (disch:=omega) only[go_sem,simprocAttr,aK i1,rd.el,rd.hd,rd.all,aF.av,w3.row,w3.ms,WB.cells,hk4,bS hkm,Y1,BEq.rfl,cond_true])|((first|rw[aU]|rw[bR]);with_reducible refine zf _ (w3.jm.up aI) (w3.st.up aI) i2 hm (by have:=xI.r9;omega) (λc hc=>by have:=xI.start c hc;show 0<=c.clause/\c.clause<((bL C s.ah ms k).length:Nat);omega) λh2 n2 u2=>?_;(first|replace ub:=Up.trans ub (Up.trans aI u2)|have ub:=u2);have hle:=ub.le;clear u2)|(refine aT ?_ ?_<;>(intro hb hd;rw[hb];clear hb))|(with_reducible refine aj ?_))
    .refine next _ _ _ ?_ (UX.up aI) rfl rfl rfl ?_ rfl
     .unfold bL gU
      rw[i2,hf,hd];exact w3.up aI
     .rw[show bV C s.ah ms (k+1)=bV C s.ah ms k by show(bV C s.ah ms k||eB C (bL C s.ah ms k) k)=_;rw[hf,hd,Bool.or_false]];rfl
    .exact ends _ _ _ hd (by rw[e4];exact(w3.up aI).qN (ms:=(bL C s.ah ms k).set k _) (by simp)) ((UX.up aI).set (.inl b.xm) (Nat.le_refl _)) rfl rfl rfl rfl rfl
   .obtain⟨j,hj,hj2⟩:∃j:Nat,kc.role=j/\j<s.ah.length:=by
     have:=xI.role hk4;exact⟨kc.role.toNat,by omega,by omega⟩
    have hb4:jW s.ah kc=gW s.ah j:=by
     unfold jW;rw[show(kc.kind==4)=false by simpa using hk4,hj];rfl
    have e4:mh s.ah kc=⟨1,kc.after,0,gW s.ah j,false⟩:=by unfold mh;rw[hb4]
    have Y1:=stm (e:=144) hkm ⟨1,kc.after,0,gW s.ah j,false⟩;repeat' (first|(simp (disch:=omega) only[go_sem,simprocAttr,ub.old,aK i1,rd.el,rd.hd,rd.all,aF.av,w3.row,w3.ms,w3.hs,WB.cells,hk4,hj,bS hkm,bS hj2,rdh hj2,Y1])|(simp (disch:=omega) only[go_sem,simprocAttr,aK i1,rd.el,rd.hd,rd.all,aF.av,w3.row,w3.ms,w3.hs,WB.cells,hk4,hj,bS hkm,bS hj2,rdh hj2,Y1])|((first|rw[aU]|rw[bR]);with_reducible refine zf _ (w3.jm.up aI) (w3.st.up aI) i2 hm (by have:=xI.r9;omega) (λc hc=>by have:=xI.start c hc;show 0<=c.clause/\c.clause<((bL C s.ah ms k).length:Nat);omega) λh2 n2 u2=>?_;(first|replace ub:=Up.trans ub (Up.trans aI u2)|have ub:=u2);have hle:=ub.le;clear u2)|(refine aT ?_ ?_<;>(intro hb hd;rw[hb];clear hb))|(with_reducible refine aj ?_))
    .refine next _ _ _ ?_ (UX.up aI) rfl rfl rfl ?_ rfl
     .unfold bL gU
      rw[i2,hf,hd];exact w3.up aI
     .rw[show bV C s.ah ms (k+1)=bV C s.ah ms k by show(bV C s.ah ms k||eB C (bL C s.ah ms k) k)=_;rw[hf,hd,Bool.or_false]];rfl
    .exact ends _ _ _ hd (by rw[e4];exact(w3.up aI).qN (ms:=(bL C s.ah ms k).set k _) (by simp)) ((UX.up aI).set (.inl b.xm) (Nat.le_refl _)) rfl rfl rfl rfl rfl
  .rintro h3 n3 G ⟨w3,u3,rfl⟩
   repeat' (first|(simp (disch:=omega) only[go_sem,simprocAttr,ub.old])|(simp (disch:=omega) only[go_sem,simprocAttr])|(refine aT ?_ ?_<;>(intro hb hd;rw[hb];clear hb))|(with_reducible refine aj ?_))
   rw[Ak];have hlen:=o_ C s.ah ms C.clauses.length;cases hfd:bV C s.ah ms C.clauses.length with
   |true=>
    have:=(fQ C s.ah ms C.clauses.length).1 hfd;exact⟨idle (bL C s.ah ms C.clauses.length)+1,_,by omega,⟨_,true,w3,u3,rfl,by omega,λ_=>⟨by rw[<-DI hfd];exact hb,rfl⟩,λe=>by cases e⟩,by(repeat' (first|exact aR|refine aN rfl ?_))⟩
   |false=>
    refine⟨0,_,by omega,⟨_,false,w3,u3,rfl,by omega,λe=>(by cases e),λ_=>⟨rfl,?_⟩⟩,by(repeat' (first|exact aR|refine aN rfl ?_))⟩;rw[(fQ C s.ah ms C.clauses.length).2 hfd,<-hb,wG hfd]
end
end
end
section
noncomputable section
set_option maxRecDepth 1000000
set_option maxHeartbeats 4000000
def UJ:MC:=vF 177
def aeG:=vT 177 UJ
def Y2:MC:=vF 205
def aeH:=vT 205 Y2
end
end
section
noncomputable section
section
variable {h h':AH} {n n':Nat} {Q:AV->AH->Nat->Prop}
theorem MJ(K:Nat)(x:Int)(hQ:∀h' n',Up h n h' n'->Q (.b false) h' n'):CW (EF (K+1)) 205 [.i .i64 x] h n Q:=by
 refine aD aeH rfl ?_;repeat' (first|(simp (disch:=omega) only[go_sem,simprocAttr,Y2])|(refine aT ?_ ?_<;>(intro hb hd;rw[hb];clear hb))|(with_reducible refine aj ?_))
 exact hQ _ _ aI
theorem JC(K:Nat)(x:Int)(hQ:∀h' n',Up h n h' n'->Q (.b false) h' n'):CW (EF (K+1)) 178 [.i .i64 x] h n Q:=by
 refine aD aey rfl ?_;repeat' (first|(simp (disch:=omega) only[go_sem,simprocAttr,YM])|(refine aT ?_ ?_<;>(intro hb hd;rw[hb];clear hb))|(with_reducible refine aj ?_))
 exact hQ _ _ aI
theorem Qf(K:Nat)(x y:Int)(hQ:∀h' n',Up h n h' n'->Q (.b (decide (x<y))) h' n'):CW (EF (K+2)) 177 [.i .i64 x,.i .i64 y] h n Q:=by
 refine aD aeG rfl ?_;repeat' (first|(simp (disch:=omega) only[go_sem,simprocAttr,ub.old,UJ])|(simp (disch:=omega) only[go_sem,simprocAttr,UJ])|((first|rw[aU]|rw[bR]);with_reducible refine MJ _ _ λh2 n2 u2=>?_;(first|replace ub:=Up.trans ub (Up.trans aI u2)|have ub:=u2);have hle:=ub.le;clear u2)|(refine aT ?_ ?_<;>(intro hb hd;rw[hb];clear hb))|(with_reducible refine aj ?_))
 exact hQ _ _ aI
@[go_sem] theorem Y3 {P:Program} {ty:TypeId} {k:IntKind} {a:Int}:(dY P ty .shr).run (.i k a) (.i k 1)=some (.i k (a/2)):=by
 cases k<;>rfl
theorem zl{l:List Int}(hs:l.Pairwise (· < ·)){x:Int}{i:Nat}(h1:∀j y,j<i->l[j]?=some y->y<x)(h2:∀j y,i<=j->l[j]?=some y->x<=y):l.contains x=decide (l[i]?=some x):=by
 rw[Bool.eq_iff_iff,List.contains_iff_mem,decide_eq_true_eq];constructor
 .intro hm
  obtain⟨j,hj⟩:=List.getElem?_of_mem hm;by_cases c1:j<i
  .have:=h1 j x c1 hj;omega
  by_cases c2:j=i
  .subst c2;exact hj
  .have hlt:=(List.getElem?_eq_some_iff.1 hj).1
   have h3:=h2 i l[i] (Nat.le_refl _) (List.getElem?_eq_some_iff.2 ⟨by omega,rfl⟩);have h4:=List.pairwise_iff_getElem.1 hs i j (by omega) hlt (by omega);have h5:=(List.getElem?_eq_some_iff.1 hj).2;omega
 .exact List.mem_of_getElem?
theorem zm(K:Nat){v:AV}{l:List Int}(x:Int)(hv:SL h n 1 v ci l)(hs:l.Pairwise (· < ·))(hl:l.length<=1000000)(hQ:∀(i:Nat) h' n',(l.contains x=true->l[i]?=some x)->Up h n h' n'->Q (.bQ [.i .i64 (i:Nat),.b (l.contains x)]) h' n'):CW (EF (K+3)) 99 [v,.i .i64 x] h n Q:=by
 refine aD c99 rfl ?_;repeat' (first|(simp (disch:=omega) only[go_sem,simprocAttr,ub.old,m99,hv.len])|(simp (disch:=omega) only[go_sem,simprocAttr,m99,hv.len])|(refine aT ?_ ?_<;>(intro hb hd;rw[hb];clear hb))|(with_reducible refine aj ?_))
 refine jw (λm h2 n2 F=>∃i j:Nat,m=j - i/\i<=j/\j<=l.length/\Up h n h2 n2/\(∀k y,k<i->l[k]?=some y->y<x)/\(∀k y,j<=k->l[k]?=some y->x<=y)/\F=[(0,v),(1,.i .i64 x),(6,.i .i64 (l.length:Nat)),(7,.i .i64 (i:Nat)),(8,.i .i64 (j:Nat))]) l.length (by omega) ⟨_,⟨0,l.length,rfl,Nat.zero_le _,Nat.le_refl _,Up.refl _ _,by omega,λk y hk e=>(by rw[List.getElem?_eq_none (by omega)]at e;cases e),rfl⟩,by(repeat' (first|exact aR|refine aN rfl ?_))⟩ ?_;rintro m h2 n2 F ⟨i,j,rfl,hij,hj,u,h1,h3,rfl⟩;by_cases hlt:i<j
 .have hdec:decide ((i:Int)<(j:Int))=true:=decide_eq_true (by omega)
  obtain⟨q,hq,hq1,hq2⟩:∃q:Nat,gK .i64 (gK .u64 (gK .i64 ((i:Int)+j))/2)=(q:Int)/\i<=q/\q<j:=by
   rw[show gK .i64 ((i:Int)+j)=(i:Int)+j from dJ (by omega) (by omega),show gK .u64 ((i:Int)+j)=(i:Int)+j from t_ (by omega) (by omega),dJ (by omega) (by omega)];exact⟨((i+j)/2:Nat),by omega,by omega,by omega⟩
  obtain⟨b1,o1,y,i1,hy,hb1,rd⟩:=hv.gD (k:=(q:Nat)) (by omega) (by omega) (by omega);rw[show((q:Nat):Int).toNat=q by omega]at hy;have uo:=u.old b1 hb1;repeat' (first|(simp (disch:=omega) only[go_sem,simprocAttr,ub.old,hdec,hq,aK i1,uo,rd.el,rd.hd])|(simp (disch:=omega) only[go_sem,simprocAttr,hdec,hq,aK i1,uo,rd.el,rd.hd])|((first|rw[aU]|rw[bR]);with_reducible refine Qf _ _ _ λh2 n2 u2=>?_;(first|replace ub:=Up.trans ub (Up.trans aI u2)|have ub:=u2);have hle:=ub.le;clear u2)|(refine aT ?_ ?_<;>(intro hb hd;rw[hb];clear hb))|(with_reducible refine aj ?_))
  .have hw:gK .i64 ((q:Int)+1)=((q+1:Nat):Int):=by rw[dJ (by omega) (by omega)];rfl
   repeat' (first|(simp (disch:=omega) only[go_sem,simprocAttr,ub.old,hw])|(simp (disch:=omega) only[go_sem,simprocAttr,hw])|(refine aT ?_ ?_<;>(intro hb hd;rw[hb];clear hb))|(with_reducible refine aj ?_))
   rw[Ak];refine⟨j - (q+1),_,by omega,⟨q+1,j,rfl,by omega,hj,by exact aI,λk z hk hz=>?_,h3,rfl⟩,by(repeat' (first|exact aR|refine aN rfl ?_))⟩;by_cases e:k=q
   .subst e;rw[hy]at hz;cases hz;exact hd
   .have:=(List.pairwise_iff_getElem.1 hs) k q (List.getElem?_eq_some_iff.1 hz).1 (List.getElem?_eq_some_iff.1 hy).1 (by omega)
    have:=(List.getElem?_eq_some_iff.1 hz).2;have:=(List.getElem?_eq_some_iff.1 hy).2;omega
  .rw[Ak]
   refine⟨q - i,_,by omega,⟨i,q,rfl,hq1,by omega,by exact aI,h1,λk z hk hz=>?_,rfl⟩,by(repeat' (first|exact aR|refine aN rfl ?_))⟩;by_cases e:k=q
   .subst e;rw[hy]at hz;cases hz;omega
   .have:=(List.pairwise_iff_getElem.1 hs) q k (List.getElem?_eq_some_iff.1 hy).1 (List.getElem?_eq_some_iff.1 hz).1 (by omega)
    have:=(List.getElem?_eq_some_iff.1 hz).2;have:=(List.getElem?_eq_some_iff.1 hy).2;omega
 .obtain rfl:i=j:=by omega
  have hdec:decide ((i:Int)<(i:Int))=false:=by simp
  replace hQ:=λh' n'=>hQ i h' n' (by rw[zl hs h1 h3];exact of_decide_eq_true);rw[zl hs h1 h3]at hQ;by_cases hi:i<l.length
  .obtain⟨b1,o1,y,i1,hy,hb1,rd⟩:=hv.gD (k:=(i:Nat)) (by omega) (by omega) (by omega)
   rw[show((i:Nat):Int).toNat=i by omega]at hy;have uo:=u.old b1 hb1;rw[hy]at hQ;have hil:decide ((i:Int)<(l.length:Int))=true:=decide_eq_true (by omega);repeat' (first|(simp (disch:=omega) only[go_sem,simprocAttr,ub.old,hdec,hil,aK i1,uo,rd.el,rd.hd])|(simp (disch:=omega) only[go_sem,simprocAttr,hdec,hil,aK i1,uo,rd.el,rd.hd])|((first|rw[aU]|rw[bR]);with_reducible refine JC _ _ λh2 n2 u2=>?_;(first|replace ub:=Up.trans ub (Up.trans aI u2)|have ub:=u2);have hle:=ub.le;clear u2)|(refine aT ?_ ?_<;>(intro hb hd;rw[hb];clear hb))|(with_reducible refine aj ?_))
   all_goals
    have e:decide (some y=some x)=decide (y=x):=by simp
    rw[e]at hQ
   .rw[decide_eq_true hd]at hQ
    exact hQ _ _ aI
   all_goals
    rw[decide_eq_false hd]at hQ;exact hQ _ _ aI
  .rw[List.getElem?_eq_none (by omega)]at hQ
   have hil:decide ((i:Int)<(l.length:Int))=false:=decide_eq_false (by omega);repeat' (first|(simp (disch:=omega) only[go_sem,simprocAttr,ub.old,hdec,hil])|(simp (disch:=omega) only[go_sem,simprocAttr,hdec,hil])|(refine aT ?_ ?_<;>(intro hb hd;rw[hb];clear hb))|(with_reducible refine aj ?_))
   exact hQ _ _ aI
theorem JD(K:Nat){v:AV}{l:List Int}(x:Int)(hv:SL h n 1 v ci l)(hs:l.Pairwise (· < ·))(hl:l.length<=1000000)(hQ:∀i h' n',Up h n h' n'->Q (.bQ [.i .i64 i,.b (l.contains x)]) h' n'):CW (EF (K+3)) 99 [v,.i .i64 x] h n Q:=zm K x hv hs hl λ_ _ _ _ u=>hQ _ _ _ u
end
end
end
section
noncomputable section
section
variable {h h':AH} {n n':Nat} {b:WB} {v:CS} {C:aA} {s:aH} {Q:AV->AH->Nat->Prop}
theorem uy(K:Nat){g:Nat}(hQ:∀bx h' n',Up h n h' n'->h'.get bx=some (.row 139 [.p g 0])->n<=bx->bx<n'->Q (.f 179 [.p bx 0]) h' n'):CW (EF (K+1)) 100 [.p g 0] h n Q:=by
 refine aD aep rfl ?_;repeat' (first|(simp (disch:=omega) only[go_sem,simprocAttr,YK])|(refine aT ?_ ?_<;>(intro hb hd;rw[hb];clear hb))|(with_reducible refine aj ?_))
 exact hQ _ _ _ aI aG (by omega) (by omega)
def iC(upd:Nat->List au->List au)(ms:List au)(k:Nat):List au:=(gX ms k).foldl (λms j=>upd j ms) ms
theorem mD(upd:Nat->List au->List au){ms:List au}{k:Nat}(hk:k<ms.length):iC upd ms (k+1)=cond (bK ms k).runs (upd k (iC upd ms k)) (iC upd ms k):=by
 unfold iC;rw[gX,gG hk];dsimp only;cases (bK ms k).runs with
 |true=>rw[cond_true,cond_true,List.foldl_append];rfl
 |false=>rfl
theorem j_{upd:Nat->List au->List au}(Bh:∀i ms,(upd i ms).length=ms.length){ms:List au}:∀k,k<=ms.length->(iC upd ms k).length=ms.length
 |0,_=>rfl
 |k+1,hk=>by
  rw[mD upd (by omega)];cases (bK ms k).runs with
  |true=>rw[cond_true,Bh,j_ Bh k (by omega)]
  |false=>exact j_ Bh k (by omega)
theorem Ch{upd:Nat->List au->List au}(Bh:∀i ms,(upd i ms).length=ms.length)(hu:∀i ms (j:Nat),j≠i->(upd i ms)[j]?=ms[j]?){ms:List au}{j:Nat}:∀k,k<=ms.length->k<=j->(iC upd ms k)[j]?=ms[j]?
 |0,_,_=>rfl
 |k+1,hk,hj=>by
  rw[mD upd (by omega)];cases (bK ms k).runs with
  |true=>rw[cond_true,hu _ _ _ (by omega),Ch Bh hu k (by omega) (by omega)]
  |false=>exact Ch Bh hu k (by omega) (by omega)
theorem Qg(K:Nat){bx yr:Nat}(upd:Nat->List au->List au)(Bh:∀i ms,(upd i ms).length=ms.length)(hu:∀i ms (j:Nat),j≠i->(upd i ms)[j]?=ms[j]?)(J:AH->Nat->Prop)(hJ:∀h n h' n',J h n->Up h n h' n'->J h' n')
 (w:Wk h n b v C s)(j0:J h n)(hbx:∀h n,J h n->h.get bx=some (.row 139 [.p b.g 0]))(hl:s.marks.length<=1000000)
 (hstep:∀i ms h1 n1,i<s.marks.length->ms.length=s.marks.length->bK ms i=bK s.marks i->(bK ms i).runs=true->Wk h1 n1 b v C (s.eH ms)->J h1 n1->RW (Y0 yr [.i .i64 (i:Nat)] (EF (K+1)) h1 n1) λu h2 n2=>u= .b true/\Wk h2 n2 b v C (s.eH (upd i ms))/\J h2 n2)
 (hQ:∀h' n',Wk h' n' b v C (s.eH (iC upd s.marks s.marks.length))->J h' n'->Q (.bQ []) h' n'):CW (EF (K+2)) 179 [.y yr,.p bx 0] h n Q:=by
 have hb0:=hbx h n j0;refine aD aer rfl ?_;repeat' (first|(simp (disch:=omega) only[go_sem,simprocAttr,ub.old,Ut,hb0,w.row,WB.cells,Al (v:=.sl b.bm 0 0 s.marks.length b.cm) (m:=s.marks.length) rfl])|(simp (disch:=omega) only[go_sem,simprocAttr,Ut,hb0,w.row,WB.cells,Al (v:=.sl b.bm 0 0 s.marks.length b.cm) (m:=s.marks.length) rfl])|(refine aT ?_ ?_<;>(intro hb hd;rw[hb];clear hb))|(with_reducible refine aj ?_))
 refine b_ s.marks.length (λk h3 n3 G=>Wk h3 n3 b v C (s.eH (iC upd s.marks k))/\J h3 n3/\G=[(0,.y yr),(1,.p bx 0)]) (by omega) (by omega) (by omega) (by omega) (λk h3 n3 G ⟨_,_,e⟩=>by subst e;exact⟨rfl,rfl⟩) ⟨rfl,rfl,_,⟨w,j0,rfl⟩,by(repeat' (first|exact aR|refine aN rfl ?_))⟩ ?_ ?_
 .rintro k h3 n3 G hk ⟨w3,j3,rfl⟩
  have hb3:=hbx h3 n3 j3;have hlen:=j_ Bh (ms:=s.marks) k (by omega);have hkm:k<(iC upd s.marks k).length:=by omega
  have hat:bK (iC upd s.marks k) k=bK s.marks k:=by
   have:=Ch Bh hu (ms:=s.marks) (j:=k) k (by omega) (Nat.le_refl _);unfold bK;rw[List.getD_eq_getElem?_getD,List.getD_eq_getElem?_getD,this]
  have next:∀h4 n4 (F:Fm),Wk h4 n4 b v C (s.eH (iC upd s.marks (k+1)))->J h4 n4->lk F 10=some (.i .i64 (k:Nat))->lk F 9=some (.i .i64 (s.marks.length:Nat))->lk F 0=some (.y yr)->lk F 1=some (.p bx 0)->
   (lk F 10=some (.i .i64 (k:Nat))/\lk F 9=some (.i .i64 (s.marks.length:Nat))/\∃G,(Wk h4 n4 b v C (s.eH (iC upd s.marks (k+1)))/\J h4 n4/\G=[(0,.y yr),(1,.p bx 0)])/\∀m v,lk G m=some v->lk F m=some v):=
   λh4 n4 F a1 a2 a3 a4 a5 a6=>⟨a3,a4,_,⟨a1,a2,rfl⟩,aN a5 (aN a6 aR)⟩
  have hrm:=rdm (e:=144) hkm;repeat' (first|(simp (disch:=omega) only[go_sem,simprocAttr,ub.old,hb3,w3.row,w3.ms,WB.cells,bZ hkm,hrm,hat])|(simp (disch:=omega) only[go_sem,simprocAttr,hb3,w3.row,w3.ms,WB.cells,bZ hkm,hrm,hat])|((first|rw[aU]|rw[bR]);with_reducible refine FK _ _ λh2 n2 u2=>?_;(first|replace ub:=Up.trans ub (Up.trans aI u2)|have ub:=u2);have hle:=ub.le;clear u2)|(refine aT ?_ ?_<;>(intro hb hd;rw[hb];clear hb))|(with_reducible refine aj ?_))
  .rw[vH]
   refine RW.mono (hstep k _ _ _ hk hlen hat (by rw[hat];exact hd) (w3.up aI) (hJ _ _ _ _ j3 aI)) ?_;rintro u h4 n4 ⟨rfl,w4,j4⟩;repeat' (first|(simp (disch:=omega) only[go_sem,simprocAttr,ub.old])|(simp (disch:=omega) only[go_sem,simprocAttr])|(refine aT ?_ ?_<;>(intro hb hd;rw[hb];clear hb))|(with_reducible refine aj ?_))
   exact next _ _ _ (by rw[mD upd (by omega),hd];exact w4) j4 rfl rfl rfl rfl
  .exact next _ _ _ (by rw[mD upd (by omega),hd];exact w3.up aI) (hJ _ _ _ _ j3 aI) rfl rfl rfl rfl
 .rintro h3 n3 G ⟨w3,j3,rfl⟩
  repeat' (first|(simp (disch:=omega) only[go_sem,simprocAttr,ub.old])|(simp (disch:=omega) only[go_sem,simprocAttr])|(refine aT ?_ ?_<;>(intro hb hd;rw[hb];clear hb))|(with_reducible refine aj ?_))
  exact hQ _ _ w3 j3
theorem xJ(K:Nat){g:FuncId}{r:MO}{p q:Tmp}{fH body:Code}{st:List It}{F:Fm}{R:PQ}{bx:Nat}{mb:MC}(upd:Nat->List au->List au)(Bh:∀i ms,(upd i ms).length=ms.length)(hu:∀i ms (j:Nat),j≠i->(upd i ms)[j]?=ms[j]?)
 (hr:ev r F []=some (.f 179 [.p bx 0]))(hb:h.get bx=some (.row 139 [.p b.g 0]))(hbn:bx<n)(hbX:¬b.X bx)(w:Wk h n b v C s)(hl:s.marks.length<=1000000)
 (hp:Yp (sl0 g) [p]=some [true])(ha:yA Tryz.prog (sl0 g) fH=some (.reg [⟨none,.mv (.s p),.k q⟩]))(hm:yA Tryz.prog (sl0 g) body=some mb)
 (hstep:∀(i:Nat)(ms:List au) h1 n1 (Qb:PQ),i<s.marks.length->ms.length=s.marks.length->bK ms i=bK s.marks i->(bK s.marks i).runs=true->Wk h1 n1 b v C (s.eH ms)->UX b.X h n h1 n1->
  (∀h2 n2 F2,Wk h2 n2 b v C (s.eH (upd i ms))->UX b.X h1 n1 h2 n2->Qb .bT h2 n2 F2)->sK Tryz.prog (yl Tryz.prog sl0 19) g 100000 [.c mb] .bT (EF (K+1)) h1 n1 (pt (pt F p (.i .i64 (i:Nat))) q (.i .i64 (i:Nat))) Qb)
 (fin:∀h2 n2,Wk h2 n2 b v C (s.eH (iC upd s.marks s.marks.length))->UX b.X h n h2 n2->sK Tryz.prog Y0 g 100000 st .bT (EF (K+2)) h2 n2 F R):SM Tryz.prog Y0 g (.c (.rng r [p] fH body)::st) .bT (EF (K+2)) h n F R:=by
 have Y4:¬b.X n:=λe=>by have:=w.lt e;omega
 have hBn:b.B<=n:=by have:=w.ge.1;have:=w.lg;omega
 refine xH hr λt hF=>?_;refine Qg K upd Bh hu (λh1 n1=>UX b.X h n h1 n1/\n<n1/\h1.get n=some (.lp .ready none g t [p] fH body)) (λh1 n1 h2 n2 ⟨j1,j2,j3⟩ u=>⟨j1.trans (UX.up u),Nat.lt_of_lt_of_le j2 u.le,(u.old n j2).trans j3⟩)
  ((w.FU Y4 hBn).on (Nat.le_succ n) λ_ _=>rfl) ⟨UX.refl.set (.inr (Nat.le_refl _)) (Nat.le_succ _),Nat.lt_succ_self _,aG⟩ (λh1 n1 j=>(j.1.old bx hbn hbX).trans hb) hl ?_ ?_
 .rintro i ms h1 n1 hi hlen hat hrun w1 ⟨j1,j2,j3⟩
  refine(uj (d:=19) (F:=F) (R:=λbb h3 n3=>bb=true/\Wk h3 n3 b v C (s.eH (upd i ms))/\UX b.X h n h3 n3/\n<n3/\h3.get n=some (.lp .ready none g t [p] fH body)) j3 hF hp rfl ha hm ?_).mono ?_
  .have hrun':(bK s.marks i).runs=true:=by rw[<-hat];exact hrun
   have step:=λQb=>hstep i ms (h1.set n (.lp .busy none g t [p] fH body)) n1 Qb hi hlen hat hrun' (w1.FU Y4 hBn) (j1.set (.inr (Nat.le_refl _)) (Nat.le_refl _));have e:PX [p] [true] [AV.i .i64 (i:Nat)] F=pt F p (.i .i64 (i:Nat)):=rfl;rw[e];have lkp:lk (pt F p (.i .i64 (i:Nat))) p=some (.i .i64 (i:Nat)):=by rw[jR,if_pos rfl]
   simp only[go_sem,lkp];refine⟨_,_,_,_,_,_,j3,step _ λh2 n2 F2 w2 u2=>?_⟩;have hl2:h2.get n=some (.lp .busy none g t [p] fH body):=(u2.old n j2 Y4).trans aG;refine⟨_,_,_,_,_,_,_,hl2,rfl,w2.FU Y4 hBn,?_,Nat.lt_of_lt_of_le j2 u2.le,aG⟩;have j1':UX b.X h n (h1.set n (.lp .busy none g t [p] fH body)) n1:=j1.set (.inr (Nat.le_refl _)) (Nat.le_refl _);exact(j1'.trans u2).set (.inr (Nat.le_refl _)) (Nat.le_refl _)
  .rintro u h2 n2 ⟨bb,rfl,rfl,h3⟩
   exact⟨rfl,h3⟩
 .rintro h2 n2 w2 ⟨j1,j2,j3⟩
  refine⟨_,_,_,_,_,_,_,j3,.inl ⟨rfl,rfl,fin _ _ (w2.FU Y4 hBn) (j1.set (.inr (Nat.le_refl _)) (Nat.le_refl _))⟩⟩
end
end
end
section
noncomputable section
theorem D5:∀{days last:Int}{l:List Int},nT days last l=true->l.Pairwise (· < ·)/\∀x∈l,last<x
 |_,_,[],_=>⟨List.Pairwise.nil,λ_ h=>by cases h⟩
 |days,last,d::l,h=>by
  simp only[nT,Bool.and_eq_true,Bool.not_eq_true',decide_eq_false_iff_not]at h;obtain⟨h1,h2⟩:=D5 h.2.2;refine⟨List.pairwise_cons.2 ⟨h2,h1⟩,λx hx=>?_⟩;rcases List.mem_cons.1 hx with rfl|hx
  .omega
  .have:=h2 x hx;omega
theorem bo1{p b f:Bool}(h:p=true):(p||(b&&f))=true:=by simp[h]
theorem bo2{p b f:Bool}(h:b=true)(k:f=true):(p||(b&&f))=true:=by simp[h,k]
theorem bn1{p b f:Bool}(h:p=false)(h2:f=false):(p||(b&&f))=false:=by simp[h,h2]
theorem bn2{p b f:Bool}(h:p=false)(h2:b=false):(p||(b&&f))=false:=by simp[h,h2]
section
variable {h h':AH} {n n':Nat} {b:WB} {v:CS} {C:aA} {s:aH} {Q:AV->AH->Nat->Prop}
def MB(ms:List au):Prop:=∀m∈ms, -1000<=m.left/\m.left<=1000/\ -1000<=m.got/\m.got<=1000
theorem MB.at_{ms:List au}(k:MB ms){i:Nat}(h:i<ms.length): -1000<=(bK ms i).left/\(bK ms i).left<=1000/\ -1000<=(bK ms i).got/\(bK ms i).got<=1000:=k _ (List.mem_of_getElem? (gG h))
theorem Qh(K:Nat)(w:Wk h n b v C s)(ok:C.Ok)(ho:C.off.length<=1000000)(hl:s.marks.length=C.clauses.length)(hh:s.ah.length=C.ah.length)(hm:MB s.marks)(hd: -1000000<=s.day/\s.day<=1000000)(hQ:∀h' n',Wk h' n' b v C (C.tick s)->UX b.X h n h' n'->Q (.bQ []) h' n'):CW (EF (K+5)) 48 [.p b.g 0] h n Q:=by
 have DZ:=ok.dL;have g1:=w.lg;have g2:=w.lh;have g3:=w.lu;have g4:=w.lm;obtain⟨e1,e2,e3,e4,e5,e6⟩:=w.ne;have hoff:=(D5 ok.off).1;refine aD c48 rfl ?_;repeat' (first|(simp (disch:=omega) only[go_sem,simprocAttr,ub.old,m48,w.row,WB.cells])|(simp (disch:=omega) only[go_sem,simprocAttr,m48,w.row,WB.cells])|((first|rw[aU]|rw[bR]);with_reducible refine JD _ _ (w.jm.off.up aI) hoff ho λ_ h2 n2 u2=>?_;(first|replace ub:=Up.trans ub (Up.trans aI u2)|have ub:=u2);have hle:=ub.le;clear u2)|(refine aT ?_ ?_<;>(intro hb hd;rw[hb];clear hb))|(with_reducible refine aj ?_))
 rw[aU];refine uy _ λbx h3 n3 u3 hbx hb1 hb2=>?_;have w3:Wk h3 n3 b v C s:=w.up aI;have f1:h3.get n=some (.row 139 [.p b.g 0]):=by rw[u3.old n (by omega)];simp (disch:=omega) only[go_sem,ub.old]
 have f2:h3.get (n+1)=some (.row 218 [.k 3,.f 96 [],.f 97 [],.f 98 [],.f 98 []]):=by rw[u3.old _ (by omega)];simp (disch:=omega) only[go_sem,ub.old]
 have f3:h3.get (n+1+1)=some (.row 4 [.b (C.off.contains s.day)]):=by rw[u3.old _ (by omega)];simp (disch:=omega) only[go_sem,ub.old]
 have KM:UX b.X h n h3 n3:=UX.up aI;have hle3:=u3.le;have hn3:n+1+1<n3:=by omega
 have ak4:n<=bx:=by omega
 clear u3 ub hle hle3 hb1;repeat' (first|(simp (disch:=omega) only[go_sem,simprocAttr,ub.old])|(simp (disch:=omega) only[go_sem,simprocAttr])|(refine aT ?_ ?_<;>(intro hb hd;rw[hb];clear hb))|(with_reducible refine aj ?_))
 refine xJ _ (gY C (C.off.contains s.day)) (tV C _) (pq C _) rfl hbx hb2 (λe=>by have:=w.lt e;omega) w3 (by omega) (by kernel_rfl) Uv Uw ?_ ?_
 .intro i ms h4 n4 Qb hi hlen hat hrun w4 u4 hQb
  have m1:=(u4.old n (by omega) (λe=>by have:=w.lt e;omega)).trans f1;have m2:=(u4.old (n+1) (by omega) (λe=>by have:=w.lt e;omega)).trans f2;have m3:=(u4.old (n+1+1) (by omega) (λe=>by have:=w.lt e;omega)).trans f3;have hi2:i<ms.length:=by omega
  obtain⟨cb,co,k,t,i1,i2,i3,i4,rd⟩:=w4.jm.Sg (i:=i) (by omega);have xI:=ok.clause i2;have hmb:=hm.at_ hi;rw[<-hat]at hmb;have l1:=w4.lg;have l2:=w4.lh;have l3:=w4.lu;have l4:=w4.lm;have l5:=u4.le;have wid:gK .i64 ((bK ms i).left - 1)=(bK ms i).left - 1:=dJ (by omega) (by omega);have tk:gY C (C.off.contains s.day) i ms=cond ((bK ms i).paused||(k.gV&&C.off.contains s.day)) ms (ms.set i ((bK ms i).w9 k)):=by
   unfold gY;rw[i2,gG hi2]
  rw[tk]at hQb;have blk:((bK ms i).paused||(k.gV&&C.off.contains s.day))=true->∀h2 n2 F2,Wk h2 n2 b v C (s.eH ms)->UX b.X h4 n4 h2 n2->Qb .bT h2 n2 F2:=λe=>by rw[e]at hQb;exact hQb
  have nob:((bK ms i).paused||(k.gV&&C.off.contains s.day))=false->∀h2 n2 F2,Wk h2 n2 b v C (s.eH (ms.set i ((bK ms i).w9 k)))->UX b.X h4 n4 h2 n2->Qb .bT h2 n2 F2:=λe=>by rw[e]at hQb;exact hQb
  clear hQb tk;have ag:¬(bK ms i).left - 1=0->(bK ms i).w9 k=⟨(bK ms i).status,(bK ms i).left - 1,(bK ms i).got,(bK ms i).aO,(bK ms i).paused⟩:=λe=>by
   unfold au.w9;rw[show((bK ms i).left - 1==0)=false by simpa using e];rfl
  have ag0:(bK ms i).left - 1=0->(bK ms i).w9 k=au.due ⟨(bK ms i).status,(bK ms i).left - 1,(bK ms i).got,(bK ms i).aO,(bK ms i).paused⟩ k:=λe=>by
   unfold au.w9;rw[show((bK ms i).left - 1==0)=true by simpa using e];rfl
  repeat' (first|(simp (disch:=omega) only[go_sem,simprocAttr,ub.old,FN,m1,m2,m3,w4.row,w4.ms,WB.cells,aK i1,bZ hi2,bS hi2,rd.el,rd.hd,rd.all,aF.av,UG hi2,YP hi2,YS hi2,Sb hi2,wid])|(simp (disch:=omega) only[go_sem,simprocAttr,FN,m1,m2,m3,w4.row,w4.ms,WB.cells,aK i1,bZ hi2,bS hi2,rd.el,rd.hd,rd.all,aF.av,UG hi2,YP hi2,YS hi2,Sb hi2,wid])|(refine aT ?_ ?_<;>(intro hb hd;rw[hb];clear hb))|(with_reducible refine aj ?_))
  all_goals first
   |(refine blk (bo1 ?_) _ _ _ (w4.up ?_) (UX.up ?_)<;>first|assumption|(exact aI;done))
   |(refine blk (bo2 ?_ ?_) _ _ _ (w4.up ?_) (UX.up ?_)<;>first|assumption|(exact aI;done))
   |(have nb:=nob (bn1 ‹_› ‹_›))
   |(have nb:=nob (bn2 ‹_› ‹_›))
  all_goals clear blk nob
  all_goals try
   rw[ag hd]at nb;refine nb _ _ _ ((w4.up ?_).qN (ms:=ms.set i _) ?_) ((UX.up ?_).set (.inl b.xm) (Nat.le_refl _))<;>first|(exact aI;done)|(simp;done)
  all_goals
   rw[ag0 hd]at nb;clear ag ag0;have hk4:k.kind=1\/k.kind=2\/k.kind=3\/k.kind=4:=by have:=xI.R3;have:=xI.R4;omega
   have hi5:i<(ms.set i ⟨(bK ms i).status,(bK ms i).left - 1,(bK ms i).got,(bK ms i).aO,(bK ms i).paused⟩:List au).length:=by simpa using hi2
   generalize MK:Tr.set (Tr.set (Tr.set h4 n4 _) n4 _) b.bm _=h6;have w6:Wk h6 (n4+1) b v C (s.eH (ms.set i ⟨(bK ms i).status,(bK ms i).left - 1,(bK ms i).got,(bK ms i).aO,(bK ms i).paused⟩)):=by
    rw[<-MK];refine(w4.up ?_).qN (ms:=ms.set i _) ?_<;>first|(exact aI;done)|(simp;done)
   have u6:UX b.X h4 n4 h6 (n4+1):=by rw[<-MK];exact(UX.up aI).set (.inl b.xm) (Nat.le_refl _)
   have p2:h6.get (n+1)=some (.row 218 [.k 3,.f 96 [],.f 97 [],.f 98 [],.f 98 []]):=by rw[<-MK];simp (disch:=omega) only[go_sem,m2]
   have p1:h6.get n=some (.row 139 [.p b.g 0]):=by rw[<-MK];simp (disch:=omega) only[go_sem,m1]
   clear MK;rcases hk4 with e|e|e|e
   .simp (disch:=omega) only[go_sem,simprocAttr,e,p1,p2]
    rw[bR];refine JB _ w6 hi5 i2 λh7 n7 w7 u7=>?_;repeat' (first|(simp (disch:=omega) only[go_sem,simprocAttr,ub.old])|(simp (disch:=omega) only[go_sem,simprocAttr])|(refine aT ?_ ?_<;>(intro hb hd;rw[hb];clear hb))|(with_reducible refine aj ?_))
    refine nb _ _ _ ?_ (u6.trans u7);rw[uq hi2]at w7;simpa [au.due,e]using w7
   .simp (disch:=omega) only[go_sem,simprocAttr,e,p1,p2]
    rw[bR];refine Ce _ w6 hi5 λh7 n7 w7 u7=>?_;repeat' (first|(simp (disch:=omega) only[go_sem,simprocAttr,ub.old])|(simp (disch:=omega) only[go_sem,simprocAttr])|(refine aT ?_ ?_<;>(intro hb hd;rw[hb];clear hb))|(with_reducible refine aj ?_))
    refine nb _ _ _ ?_ (u6.trans u7);rw[uq hi2]at w7;simpa [au.due,e]using w7
   .simp (disch:=omega) only[go_sem,simprocAttr,e,p1,p2]
    rw[bR];refine DY _ w6 hi5 λh7 n7 w7 u7=>?_;repeat' (first|(simp (disch:=omega) only[go_sem,simprocAttr,ub.old])|(simp (disch:=omega) only[go_sem,simprocAttr])|(refine aT ?_ ?_<;>(intro hb hd;rw[hb];clear hb))|(with_reducible refine aj ?_))
    refine nb _ _ _ ?_ (u6.trans u7);rw[uq hi2]at w7;simpa [au.due,e]using w7
   .simp (disch:=omega) only[go_sem,simprocAttr,e,p1,p2]
    rw[bR];refine DY _ w6 hi5 λh7 n7 w7 u7=>?_;repeat' (first|(simp (disch:=omega) only[go_sem,simprocAttr,ub.old])|(simp (disch:=omega) only[go_sem,simprocAttr])|(refine aT ?_ ?_<;>(intro hb hd;rw[hb];clear hb))|(with_reducible refine aj ?_))
    refine nb _ _ _ ?_ (u6.trans u7);rw[uq hi2]at w7;simpa [au.due,e]using w7
 .intro h4 n4 w4 u4
  have m1:=(u4.old n (by omega) (λe=>by have:=w.lt e;omega)).trans f1;have wd:gK .i64 (s.day+1)=s.day+1:=dJ (by omega) (by omega);repeat' (first|(simp (disch:=omega) only[go_sem,simprocAttr,ub.old,m1,w4.row,WB.cells,wd])|(simp (disch:=omega) only[go_sem,simprocAttr,m1,w4.row,WB.cells,wd])|(refine aT ?_ ?_<;>(intro hb hd;rw[hb];clear hb))|(with_reducible refine aj ?_))
  rw[aU];refine uw _ (w4.aeF (d:=s.day+1)) ok ?_ hh λh5 n5 w5 u5=>?_
  .show(iC (gY C (C.off.contains s.day)) s.marks s.marks.length).length=_
   rw[j_ (tV C _) _ (Nat.le_refl _),hl]
  repeat' (first|(simp (disch:=omega) only[go_sem,simprocAttr,ub.old])|(simp (disch:=omega) only[go_sem,simprocAttr])|(refine aT ?_ ?_<;>(intro hb hd;rw[hb];clear hb))|(with_reducible refine aj ?_))
  exact hQ _ _ w5 (KM.trans ((u4.set (.inl (.inl rfl)) (Nat.le_refl _)).trans u5))
end
end
end
section
noncomputable section
section
variable {h h':AH} {n n':Nat} {b:WB} {v:CS} {C:aA} {s:aH} {Q:AV->AH->Nat->Prop}
theorem sth{e:Nat}{hs:List Int}{j:Nat}(h:j<hs.length)(x:Int):fu (some (.row e (hs.flatMap ci))) (j*1) (some [.i .i64 x])=some (.row e ((hs.set j x).flatMap ci)):=qC (c:=ci) (w:=1) (λ_=>rfl) h
theorem stb{e:Nat}{hs:List Bool}{j:Nat}(h:j<hs.length)(x:Bool):fu (some (.row e (hs.flatMap cb))) (j*1) (some [.b x])=some (.row e ((hs.set j x).flatMap cb)):=qC (c:=cb) (w:=1) (λ_=>rfl) h
theorem rdb{e:Nat}{hs:List Bool}{j:Nat}(h:j<hs.length):qX (some (.row e (hs.flatMap cb))) (j*1) none=some (.b (hs.getD j false)):=by
 have h1:hs[j]?=some (hs.getD j false):=by rw[List.getD_eq_getElem?_getD,List.getElem?_eq_getElem h];rfl
 exact um (c:=cb) (w:=1) (e:=e) (λ_=>rfl) h1 (j:=0) (by omega)
theorem ML(K:Nat)(w:Wk h n b v C s)(ok:C.Ok)(hl:s.marks.length=C.clauses.length)(hh:s.ah.length=C.ah.length)(hu:s.used.length=C.acts.length){i:Nat}{a:dh}(ha:C.acts[i]?=some a)(hk:a.kind≠1)
 (hQ:∀h' n',Wk h' n' b v C (C.shift i a s)->UX b.X h n h' n'->Q (.bQ []) h' n'):CW (EF (K+3)) 104 [.p b.g 0,.i .i64 (i:Nat)] h n Q:=by
 have DZ:=ok.dL;have aok:=ok.act (List.mem_of_getElem? ha);have hil:=(List.getElem?_eq_some_iff.1 ha).1;obtain⟨e1,e2,e3,e4,e5,e6⟩:=w.ne;have g1:=w.lg;have g2:=w.lh;have g3:=w.lu;have g4:=w.lm;obtain⟨j,hj,hj2⟩:∃j:Nat,a.give=j/\j<s.ah.length:=by
  have:=aok.give hk;exact⟨a.give.toNat,by omega,by omega⟩
 have hiu:i<s.used.length:=by omega
 obtain⟨b0,o0,a',i0,ha',hb0,rd⟩:=w.jm.acts.gD (k:=(i:Nat)) (by omega) (by omega) (by omega);rw[show((i:Nat):Int).toNat=i by omega,ha]at ha';cases ha'
 have fin:∀(ms:List au) h4 n4,(cond (a.kind !=3) s.marks (iC (dM C a.give a.tgt) s.marks s.marks.length))=ms->Wk h4 n4 b v C ⟨s.day,s.ah.set j a.tgt,s.used.set i true,ms⟩->UX b.X h n h4 n4->Q (.bQ []) h4 n4:=λms h4 n4 e w4 u4=>by
  refine hQ _ _ ?_ u4;have:C.shift i a s=⟨s.day,s.ah.set j a.tgt,s.used.set i true,ms⟩:=by
   unfold aA.shift;rw[hj,show((j:Nat):Int).toNat=j by omega,<-hj];congr 1
  rw[this];exact w4
 refine aD aew rfl ?_;repeat' (first|(simp (disch:=omega) only[go_sem,simprocAttr,YL,w.row,w.hs,w.us,WB.cells,aK i0,bS hj2,bZ hiu,sth hj2,stb hiu,rd.el,rd.hd,rd.all,dh.av,hj])|(refine aT ?_ ?_<;>(intro hb hd;rw[hb];clear hb))|(with_reducible refine aj ?_))
 .refine fin s.marks _ _ (by rw[show(a.kind !=3)=true by simpa using hd];rfl) (((w.up ?_).setH (hs:=s.ah.set j a.tgt) ?_).YX (us:=s.used.set i true) ?_) (((UX.up ?_).set (.inl (.inr (.inl rfl))) (Nat.le_refl _)).set (.inl (.inr (.inr (.inl rfl)))) (Nat.le_refl _))<;>first|(exact aI;done)|(simp;done)
 .generalize MK:Tr.set (Tr.set (Tr.set (Tr.set (Tr.set h n _) (n+1) _) (n+1) _) b.bh _) b.bu _=h6
  have w6:Wk h6 (n+2) b v C ⟨s.day,s.ah.set j a.tgt,s.used.set i true,s.marks⟩:=by
   rw[<-MK];refine((w.up ?_).setH (hs:=s.ah.set j a.tgt) ?_).YX (us:=s.used.set i true) ?_<;>first|(exact aI;done)|(simp;done)
  have u6:UX b.X h n h6 (n+2):=by rw[<-MK];exact((UX.up aI).set (.inl (.inr (.inl rfl))) (Nat.le_refl _)).set (.inl (.inr (.inr (.inl rfl)))) (Nat.le_refl _)
  have p1:h6.get n=some (.row 139 [.p b.g 0]):=by rw[<-MK];simp (disch:=omega) only[go_sem]
  have p2:h6.get (n+1)=some (.row 169 [.i .i64 a.kind,.i .i64 a.role,.i .i64 (j:Nat),.i .i64 a.tgt,.i .i64 a.unit,.i .i64 a.lot.num,.i .i64 a.lot.den]):=by rw[<-MK];simp (disch:=omega) only[go_sem]
  clear MK;rw[aU];refine uy _ λbx h3 n3 u3 hbx hb1 hb2=>?_;have w3:=w6.up u3;have f1:=(u3.old n (by omega)).trans p1;have f2:=(u3.old (n+1) (by omega)).trans p2;have KM:UX b.X h n h3 n3:=u6.trans (UX.up u3);have hn3:n+1+1<n3:=by omega
  clear u3 u6 p1 p2;repeat' (first|(simp (disch:=omega) only[go_sem,simprocAttr])|(refine aT ?_ ?_<;>(intro hb hd;rw[hb];clear hb))|(with_reducible refine aj ?_))
  refine xJ _ (dM C a.give a.tgt) (iW C _ _) (nU C _ _) rfl hbx hb2 (λe=>by have:=w.lt e;omega) w3 (by show s.marks.length<=_;omega) (by kernel_rfl) Qa Qc ?_ ?_
  .intro q ms h4 n4 Qb hi hlen hat hrun w4 u4 hQb
   have hi:q<s.marks.length:=hi;have hlen:ms.length=s.marks.length:=hlen;have m1:=(u4.old n (by omega) (λe=>by have:=w.lt e;omega)).trans f1;have m2:=(u4.old (n+1) (by omega) (λe=>by have:=w.lt e;omega)).trans f2;have hi2:q<ms.length:=by omega
   obtain⟨cb,co,k,t,i1,i2,i3,i4,gu⟩:=w4.jm.Sg (i:=q) (by omega);have l1:=w4.lg;have l2:=w4.lh;have l3:=w4.lu;have l4:=w4.lm;have l5:=u4.le;have tk:dM C a.give a.tgt q ms=cond ((k.kind !=4)&&(k.role==a.give)) (ms.set q ⟨(bK ms q).status,(bK ms q).left,(bK ms q).got,a.tgt,(bK ms q).paused⟩) ms:=by
    unfold dM;rw[i2,gG hi2]
   rw[tk]at hQb;repeat' (first|(simp (disch:=omega) only[go_sem,simprocAttr,Ig,m1,m2,w4.row,w4.ms,WB.cells,aK i1,bS hi2,gu.el,gu.hd,gu.all,aF.av,aeD hi2])|(refine aT ?_ ?_<;>(intro hb hd;rw[hb];clear hb))|(with_reducible refine aj ?_))
   .rename_i h1
    rw[show((k.kind !=4)&&(k.role==a.give))=true by simp;omega]at hQb;refine hQb _ _ _ ((w4.up ?_).qN (ms:=ms.set q _) ?_) ((UX.up ?_).set (.inl b.xm) (Nat.le_refl _))<;>first|(exact aI;done)|(simp;done)
   all_goals
    rw[show((k.kind !=4)&&(k.role==a.give))=false by simp;omega]at hQb;exact hQb _ _ _ (w4.up aI) (UX.up aI)
  .intro h4 n4 w4 u4
   repeat' (first|(simp (disch:=omega) only[go_sem,simprocAttr])|(refine aT ?_ ?_<;>(intro hb hd;rw[hb];clear hb))|(with_reducible refine aj ?_))
   exact fin _ _ _ (by rw[show(a.kind !=3)=false by simpa using hd];rfl) w4 (KM.trans u4)
end
end
end
section
noncomputable section
section
variable {h h':AH} {n n':Nat} {b:WB} {v:CS} {C:aA} {s:aH} {Q:AV->AH->Nat->Prop}
theorem Ci{upd:Nat->List au->List au}(hu:∀i ms,MB ms->MB (upd i ms)){ms:List au}(hm:MB ms):∀k,k<=ms.length->MB (iC upd ms k)
 |0,_=>hm
 |k+1,hk=>by
  rw[mD upd (by omega)];cases (bK ms k).runs with
  |true=>exact hu _ _ (Ci hu hm k (by omega))
  |false=>exact Ci hu hm k (by omega)
theorem MB.set{ms:List au}(hm:MB ms){i:Nat}{m:au}(h: -1000<=m.left/\m.left<=1000/\ -1000<=m.got/\m.got<=1000):MB (ms.set i m):=λx hx=>by
 rcases List.mem_or_eq_of_mem_set hx with hx|rfl
 .exact hm x hx
 .exact h
theorem Cj(C:aA)(act:Int)(i:Nat)(ms:List au)(hm:MB ms):MB (dN C act i ms):=by
 unfold dN;split
 .rename_i k m h1 h2
  have:=hm m (List.mem_of_getElem? h2);cases (act==k.pause)with
  |true=>exact hm.set this
  |false=>
   cases (act==k.resume)with
   |true=>exact hm.set this
   |false=>exact hm
 .exact hm
theorem MN(K:Nat)(w:Wk h n b v C s)(ok:C.Ok)(hl:s.marks.length=C.clauses.length)(hh:s.ah.length=C.ah.length)(hu:s.used.length=C.acts.length)(hm:MB s.marks){i:Nat}{a:dh}(ha:C.acts[i]?=some a)
 (hQ:∀h' n',Wk h' n' b v C (C.act i a s)->UX b.X h n h' n'->Q (.bQ []) h' n'):CW (EF (K+4)) 49 [.p b.g 0,.i .i64 (i:Nat)] h n Q:=by
 have DZ:=ok.dL;have aok:=ok.act (List.mem_of_getElem? ha);have hil:=(List.getElem?_eq_some_iff.1 ha).1;have hiu:i<s.used.length:=by omega
 obtain⟨e1,e2,e3,e4,e5,e6⟩:=w.ne;have g1:=w.lg;have g2:=w.lh;have g3:=w.lu;have g4:=w.lm;obtain⟨b0,o0,a',i0,ha',hb0,rd⟩:=w.jm.acts.gD (k:=(i:Nat)) (by omega) (by omega) (by omega);rw[show((i:Nat):Int).toNat=i by omega,ha]at ha';cases ha'
 refine aD c49 rfl ?_;have early:((a.kind !=1)&&s.used.getD i false)=true->C.act i a s=s:=λe=>by unfold aA.act;rw[e];rfl
 repeat' (first|(simp (disch:=omega) only[go_sem,simprocAttr,ub.old,m49,w.row,w.us,WB.cells,i0,bS hiu,rdb hiu,rd.el,rd.hd,rd.all,dh.av])|(simp (disch:=omega) only[go_sem,simprocAttr,m49,w.row,w.us,WB.cells,i0,bS hiu,rdb hiu,rd.el,rd.hd,rd.all,dh.av])|(refine aT ?_ ?_<;>(intro hb hd;rw[hb];clear hb))|(with_reducible refine aj ?_))
 .refine hQ _ _ ?_ (UX.up aI)
  rw[early (by rename_i q;simp only[Bool.and_eq_true];exact⟨by simpa using q,hd⟩)];exact w.up aI
 all_goals
  have hne:((a.kind !=1)&&s.used.getD i false)=false:=by
   first
    |(rw[hd,Bool.and_false];done)
    |(rw[show(a.kind !=1)=false by simpa using hd,Bool.false_and];done)
  clear early;rw[aU];refine uy _ λbx h3 n3 u3 hbx hb1 hb2=>?_;have w3:=w.up (n':=n3) (h':=h3) aI;have f1:h3.get n=some (.row 139 [.p b.g 0]):=by rw[u3.old n (by omega)];simp (disch:=omega) only[go_sem]
  have f2:h3.get (n+1)=some (.row 3 [.i .i64 (i:Nat)]):=by rw[u3.old _ (by omega)];simp (disch:=omega) only[go_sem]
  have f3:h3.get (n+1+1)=some (.row 169 a.av):=by rw[u3.old _ (by omega)];simp (disch:=omega) only[go_sem]
  have KM:UX b.X h n h3 n3:=UX.up aI;have hn3:n+1+1<n3:=by omega
  clear u3 hd;repeat' (first|(simp (disch:=omega) only[go_sem,simprocAttr,ub.old])|(simp (disch:=omega) only[go_sem,simprocAttr])|(refine aT ?_ ?_<;>(intro hb hd;rw[hb];clear hb))|(with_reducible refine aj ?_))
  refine xJ _ (dN C (i:Nat)) (rC C _) (nV C _) rfl hbx hb2 (λe=>by have:=w.lt e;omega) w3 (by omega) (by kernel_rfl) Uy Uz ?_ ?_
  .intro q ms h4 n4 Qb hi hlen hat hrun w4 u4 hQb
   have m1:=(u4.old n (by omega) (λe=>by have:=w.lt e;omega)).trans f1;have m2:=(u4.old (n+1) (by omega) (λe=>by have:=w.lt e;omega)).trans f2;have hi2:q<ms.length:=by omega
   obtain⟨cb,co,k,t,i1,i2,i3,i4,gu⟩:=w4.jm.Sg (i:=q) (by omega);have l1:=w4.lg;have l2:=w4.lh;have l3:=w4.lu;have l4:=w4.lm;have l5:=u4.le;have tk:dN C (i:Nat) q ms=cond ((i:Int)==k.pause) (ms.set q ⟨(bK ms q).status,(bK ms q).left,(bK ms q).got,(bK ms q).aO,true⟩) (cond ((i:Int)==k.resume) (ms.set q ⟨(bK ms q).status,(bK ms q).left,(bK ms q).got,(bK ms q).aO,false⟩) ms):=by
    unfold dN;rw[i2,gG hi2]
   rw[tk]at hQb;repeat' (first|(simp (disch:=omega) only[go_sem,simprocAttr,ub.old,FP,m1,m2,w4.row,w4.ms,WB.cells,aK i1,bZ hi2,gu.el,gu.hd,gu.all,aF.av,YU hi2])|(simp (disch:=omega) only[go_sem,simprocAttr,FP,m1,m2,w4.row,w4.ms,WB.cells,aK i1,bZ hi2,gu.el,gu.hd,gu.all,aF.av,YU hi2])|(refine aT ?_ ?_<;>(intro hb hd;rw[hb];clear hb))|(with_reducible refine aj ?_))
   .rw[show((i:Int)==k.pause)=true by simpa using hd]at hQb
    refine hQb _ _ _ (w4.qN (ms:=ms.set q _) ?_) (UX.refl.set (.inl b.xm) (Nat.le_refl _));simp
   .rename_i h1
    rw[show((i:Int)==k.pause)=false by simpa using h1,show((i:Int)==k.resume)=true by simpa using hd]at hQb;refine hQb _ _ _ (w4.qN (ms:=ms.set q _) ?_) (UX.refl.set (.inl b.xm) (Nat.le_refl _));simp
   .rename_i h1
    rw[show((i:Int)==k.pause)=false by simpa using h1,show((i:Int)==k.resume)=false by simpa using hd]at hQb;exact hQb _ _ _ w4 UX.refl
  .intro h4 n4 w4 u4
   have m1:=(u4.old n (by omega) (λe=>by have:=w.lt e;omega)).trans f1;have m2:=(u4.old (n+1) (by omega) (λe=>by have:=w.lt e;omega)).trans f2;have m3:=(u4.old (n+1+1) (by omega) (λe=>by have:=w.lt e;omega)).trans f3;have l1:=w4.lg;have l2:=w4.lh;have l3:=w4.lu;have l4:=w4.lm;have l5:=u4.le;have len1:(iC (dN C (i:Nat)) s.marks s.marks.length).length=s.marks.length:=j_ (rC C _) _ (Nat.le_refl _);have mb1:MB (iC (dN C (i:Nat)) s.marks s.marks.length):=Ci (Cj C _) hm _ (Nat.le_refl _);have Si:=KM.trans u4;have hpm:C.paused (i:Nat) s.marks=iC (dN C (i:Nat)) s.marks s.marks.length:=rfl;generalize hpa:iC (dN C (i:Nat)) s.marks s.marks.length=pm at*;clear KM f1 f2 f3 u4;repeat' (first|(simp (disch:=omega) only[go_sem,simprocAttr,ub.old,m1,m2,m3,w4.row,WB.cells,dh.av])|(simp (disch:=omega) only[go_sem,simprocAttr,m1,m2,m3,w4.row,WB.cells,dh.av])|((first|rw[aU]|rw[bR]);with_reducible refine Ie _ (w4.jm.up aI) (w4.st.up aI) (i:=(i:Nat)) (by omega) (by rw[show((i:Nat):Int).toNat=i by omega];exact ha) (λe=>by rw[show(s.eH pm).ah=s.ah from rfl,hh];exact aok.role e) λh2 n2 u2=>?_;(first|replace ub:=Up.trans ub (Up.trans aI u2)|have ub:=u2);have hle:=ub.le;clear u2)|(refine aT ?_ ?_<;>(intro hb hd;rw[hb];clear hb))|(with_reducible refine aj ?_))
   rw[aU];refine uy _ λby' h5 n5 u5 hby hb3 hb4=>?_;have w5:=w4.up (n':=n5) (h':=h5) aI;have f1:h5.get n=some (.row 139 [.p b.g 0]):=by rw[u5.old n (by omega)];simp (disch:=omega) only[go_sem,ub.old,m1]
   have f2:h5.get (n+1)=some (.row 3 [.i .i64 (i:Nat)]):=by rw[u5.old _ (by omega)];simp (disch:=omega) only[go_sem,ub.old,m2]
   have f3:h5.get (n+1+1)=some (.row 169 a.av):=by rw[u5.old _ (by omega)];simp (disch:=omega) only[go_sem,ub.old,m3]
   have f4:h5.get n4=some (.row 218 [.k 3,.f 101 [],.f 102 [],.f 97 [],.f 97 []]):=by rw[u5.old _ (by omega)];simp (disch:=omega) only[go_sem,ub.old]
   have f5:h5.get (n4+1)=some (.row 3 [.i .i64 (bH s.ah a)]):=by rw[u5.old _ (by omega)];simp (disch:=omega) only[go_sem,ub.old]
   have OG:UX b.X h n h5 n5:=Si.trans (UX.up aI);have hn5:n4+1<n5:=by omega
   have ak8:n<=by':=by omega
   clear u5 Si ub hle m1 m2 m3;repeat' (first|(simp (disch:=omega) only[go_sem,simprocAttr,ub.old])|(simp (disch:=omega) only[go_sem,simprocAttr])|(refine aT ?_ ?_<;>(intro hb hd;rw[hb];clear hb))|(with_reducible refine aj ?_))
   refine xJ _ (eD C (i:Nat) (bH s.ah a)) (wH C _ _) (rD C _ _) rfl hby hb4 (λe=>by have:=w.lt e;omega) w5 (by show pm.length<=_;omega) (by kernel_rfl) UC UD ?_ ?_
   .intro q ms h6 n6 Qb hi hlen hat hrun w6 u6 hQb
    have hi:q<pm.length:=hi;have hlen:ms.length=pm.length:=hlen;have m1:=(u6.old n (by omega) (λe=>by have:=w.lt e;omega)).trans f1;have m2:=(u6.old (n+1) (by omega) (λe=>by have:=w.lt e;omega)).trans f2;have m4:=(u6.old n4 (by omega) (λe=>by have:=w4.lt e;omega)).trans f4;have m5:=(u6.old (n4+1) (by omega) (λe=>by have:=w4.lt e;omega)).trans f5;have hi2:q<ms.length:=by omega
    obtain⟨cb,co,k,t,i1,i2,i3,i4,gu⟩:=w6.jm.Sg (i:=q) (by omega);have xI:=ok.clause i2;have hmb:=mb1.at_ hi;rw[show bK pm q=bK ms q from hat.symm]at hmb;have l1:=w6.lg;have l2:=w6.lh;have l3:=w6.lu;have l4:=w6.lm;have l5:=u6.le;have tk:eD C (i:Nat) (bH s.ah a) q ms=cond ((k.act==(i:Int))&&((k.kind==4)||((bK ms q).aO==bH s.ah a))) (ms.set q ((bK ms q).hit k)) ms:=by
     unfold eD;rw[i2,gG hi2]
    rw[tk]at hQb;have hk4:k.kind=1\/k.kind=2\/k.kind=3\/k.kind=4:=by have:=xI.R3;have:=xI.R4;omega
    have no:((k.act==(i:Int))&&((k.kind==4)||((bK ms q).aO==bH s.ah a)))=false->∀h2 n2 F2,Wk h2 n2 b v C ((s.eH pm).eH ms)->UX b.X h6 n6 h2 n2->Qb .bT h2 n2 F2:=λe=>by rw[e]at hQb;exact hQb
    have ye:((k.act==(i:Int))&&((k.kind==4)||((bK ms q).aO==bH s.ah a)))=true->∀h2 n2 F2,Wk h2 n2 b v C ((s.eH pm).eH (ms.set q ((bK ms q).hit k)))->UX b.X h6 n6 h2 n2->Qb .bT h2 n2 F2:=λe=>by rw[e]at hQb;exact hQb
    clear hQb tk;have yt:k.act=(i:Int)->(k.kind=4\/(bK ms q).aO=bH s.ah a)->((k.act==(i:Int))&&((k.kind==4)||((bK ms q).aO==bH s.ah a)))=true:=λh1 h2=>by simp[h1,h2]
    have nt1:¬k.act=(i:Int)->((k.act==(i:Int))&&((k.kind==4)||((bK ms q).aO==bH s.ah a)))=false:=λh1=>by simp[h1]
    have nt2:¬k.kind=4->¬(bK ms q).aO=bH s.ah a->((k.act==(i:Int))&&((k.kind==4)||((bK ms q).aO==bH s.ah a)))=false:=λh1 h2=>by simp[h1,h2]
    rcases hk4 with e|e|e|e
    all_goals
     repeat' (first|(simp (disch:=omega) only[go_sem,simprocAttr,ub.old,FQ,m1,m2,m4,m5,w6.row,w6.ms,WB.cells,aK i1,bS hi2,bZ hi2,gu.el,gu.hd,gu.all,aF.av,YQ hi2,e,Int.reduceEq])|(simp (disch:=omega) only[go_sem,simprocAttr,FQ,m1,m2,m4,m5,w6.row,w6.ms,WB.cells,aK i1,bS hi2,bZ hi2,gu.el,gu.hd,gu.all,aF.av,YQ hi2,e,Int.reduceEq])|(refine aT ?_ ?_<;>(intro hb hd;rw[hb];clear hb))|(with_reducible refine aj ?_))
    all_goals first
     |(refine no (nt1 hd) _ _ _ (w6.up ?_) (UX.up ?_)<;>(exact aI;done))
     |(refine no (nt2 (by omega) hd) _ _ _ (w6.up ?_) (UX.up ?_)<;>(exact aI;done))
     |skip
    all_goals rw[bR]
    .refine FW _ (w6.up aI) hi2 (show(bK ms q).got<=1000000 by omega) (show -1000000<=(bK ms q).got by omega) i2 λh7 n7 w7 u7=>?_
     repeat' (first|(simp (disch:=omega) only[go_sem,simprocAttr,ub.old])|(simp (disch:=omega) only[go_sem,simprocAttr])|(refine aT ?_ ?_<;>(intro hb hd;rw[hb];clear hb))|(with_reducible refine aj ?_))
     refine ye (yt ‹_› (.inr hd)) _ _ _ ?_ ((UX.up aI).trans u7);simpa [au.hit,e]using w7
    .refine FV _ (w6.up aI) hi2 λh7 n7 w7 u7=>?_
     repeat' (first|(simp (disch:=omega) only[go_sem,simprocAttr,ub.old])|(simp (disch:=omega) only[go_sem,simprocAttr])|(refine aT ?_ ?_<;>(intro hb hd;rw[hb];clear hb))|(with_reducible refine aj ?_))
     refine ye (yt ‹_› (.inr hd)) _ _ _ ?_ ((UX.up aI).trans u7);simpa [au.hit,e]using w7
    .refine Ce _ (w6.up aI) hi2 λh7 n7 w7 u7=>?_
     repeat' (first|(simp (disch:=omega) only[go_sem,simprocAttr,ub.old])|(simp (disch:=omega) only[go_sem,simprocAttr])|(refine aT ?_ ?_<;>(intro hb hd;rw[hb];clear hb))|(with_reducible refine aj ?_))
     refine ye (yt ‹_› (.inr hd)) _ _ _ ?_ ((UX.up aI).trans u7);simpa [au.hit,e]using w7
    .refine Ce _ (w6.up aI) hi2 λh7 n7 w7 u7=>?_
     repeat' (first|(simp (disch:=omega) only[go_sem,simprocAttr,ub.old])|(simp (disch:=omega) only[go_sem,simprocAttr])|(refine aT ?_ ?_<;>(intro hb hd;rw[hb];clear hb))|(with_reducible refine aj ?_))
     refine ye (yt hd (.inl e)) _ _ _ ?_ ((UX.up aI).trans u7);simpa [au.hit,e]using w7
   .intro h6 n6 w6 u6
    have m1:=(u6.old n (by omega) (λe=>by have:=w.lt e;omega)).trans f1;have m2:=(u6.old (n+1) (by omega) (λe=>by have:=w.lt e;omega)).trans f2;have m3:=(u6.old (n+1+1) (by omega) (λe=>by have:=w.lt e;omega)).trans f3;have l1:=w6.lg;have l2:=w6.lh;have l3:=w6.lu;have l4:=w6.lm;have l5:=u6.le;have len2:(iC (eD C (i:Nat) (bH s.ah a)) pm pm.length).length=pm.length:=j_ (wH C _ _) _ (Nat.le_refl _);have hac:C.nW (i:Nat) (bH s.ah a) pm=iC (eD C (i:Nat) (bH s.ah a)) pm pm.length:=rfl;have fin:∀s2:aH,cond (a.kind !=1) (C.shift i a ((s.eH pm).eH (iC (eD C (i:Nat) (bH s.ah a)) pm pm.length))) ((s.eH pm).eH (iC (eD C (i:Nat) (bH s.ah a)) pm pm.length))=s2->C.act i a s=s2.eH (C.begin s2.ah s2.marks):=λs2 e=>by
     unfold aA.act;rw[hne,hpm,hac,<-e];rfl
    clear f1 f2 f3 f4 f5 hac;repeat' (first|(simp (disch:=omega) only[go_sem,simprocAttr,ub.old,m1,m2,m3,dh.av])|(simp (disch:=omega) only[go_sem,simprocAttr,m1,m2,m3,dh.av])|(refine aT ?_ ?_<;>(intro hb hd;rw[hb];clear hb))|(with_reducible refine aj ?_))
    all_goals first
     |exact absurd hd ‹¬a.kind=1›
     |skip
    all_goals rw[aU]
    all_goals first
     |(
      have hk1:¬a.kind=1:=hd;refine ML _ w6 ok ?_ hh hu ha hd λh7 n7 w7 u7=>?_
      .show(iC (eD C (i:Nat) (bH s.ah a)) pm pm.length).length=_;omega
      have m1':=(u7.old n (by omega) (λe=>by have:=w.lt e;omega)).trans m1;have l6:=u7.le;repeat' (first|(simp (disch:=omega) only[go_sem,simprocAttr,ub.old,m1'])|(simp (disch:=omega) only[go_sem,simprocAttr,m1'])|(refine aT ?_ ?_<;>(intro hb hd;rw[hb];clear hb))|(with_reducible refine aj ?_))
      rw[aU];have hsl:(C.shift i a ((s.eH pm).eH (iC (eD C (i:Nat) (bH s.ah a)) pm pm.length))).marks.length=C.clauses.length:=by
       unfold aA.shift;dsimp only;cases (a.kind !=3)with
       |true=>show(iC (eD C (i:Nat) (bH s.ah a)) pm pm.length).length=_;omega
       |false=>
        show(iC (dM C a.give a.tgt) (iC (eD C (i:Nat) (bH s.ah a)) pm pm.length) (iC (eD C (i:Nat) (bH s.ah a)) pm pm.length).length).length=_;rw[j_ (iW C _ _) _ (Nat.le_refl _)];omega
      have hsh:(C.shift i a ((s.eH pm).eH (iC (eD C (i:Nat) (bH s.ah a)) pm pm.length))).ah.length=C.ah.length:=by
       unfold aA.shift;simp[hh]
      refine uw _ w7 ok hsl hsh λh8 n8 w8 u8=>?_;repeat' (first|(simp (disch:=omega) only[go_sem,simprocAttr,ub.old])|(simp (disch:=omega) only[go_sem,simprocAttr])|(refine aT ?_ ?_<;>(intro hb hd;rw[hb];clear hb))|(with_reducible refine aj ?_))
      refine hQ _ _ ?_ (OG.trans (u6.trans (u7.trans u8)));rw[fin _ (by rw[show(a.kind !=1)=true by simpa using hd,cond_true])];exact w8)
     |(
      have hk1:a.kind=1:=hd;refine uw _ w6 ok ?_ hh λh8 n8 w8 u8=>?_
      .show(iC (eD C (i:Nat) (bH s.ah a)) pm pm.length).length=_;omega
      repeat' (first|(simp (disch:=omega) only[go_sem,simprocAttr,ub.old])|(simp (disch:=omega) only[go_sem,simprocAttr])|(refine aT ?_ ?_<;>(intro hb hd;rw[hb];clear hb))|(with_reducible refine aj ?_))
      refine hQ _ _ ?_ (OG.trans (u6.trans u8));rw[fin _ (by rw[show(a.kind !=1)=false by simpa using hd,cond_false])];exact w8)
end
end
end
section
noncomputable section
section
variable {h h':AH} {n n':Nat} {b:WB} {v:CS} {C:aA} {s:aH} {tv:TS} {Q:AV->AH->Nat->Prop}
abbrev Sj:AV:=.agg [.i .i64 0,.k 1,.k 1,.k 1]
theorem mE(C:aA):C.errno=0↔C.valid=true:=by
 unfold aA.errno aA.valid;cases C.over<;>cases (C.framed&&C.iH)<;>simp
theorem Wk.MP(w:Wk h n b v C s):Kp (λx=>x<b.B) h n λh n=>bX h n (b.tv s) s:=λh2 n2 h3 h4=>by
 have hs:=(h4 b.bh w.lh (by have:=w.ge.2.1;omega)).trans w.hs;have us:=(h4 b.bu w.lu (by have:=w.ge.2.2.1;omega)).trans w.us;have ms:=(h4 b.bm w.lm (by have:=w.ge.2.2.2;omega)).trans w.ms;exact⟨SL.of (λ_=>rfl) (Nat.lt_of_lt_of_le w.lh h3) hs rfl rfl w.kh,SL.of (λ_=>rfl) (Nat.lt_of_lt_of_le w.lu h3) us rfl rfl w.ku,SL.of (λ_=>rfl) (Nat.lt_of_lt_of_le w.lm h3) ms rfl rfl w.km⟩
theorem zn(K:Nat)(hC:aY h n v C)(ho:C.off.length<=1000000)(lK:C.valid=false->∀h' n',Up h n h' n'->Q (.bQ [Sj,.i .i64 1]) h' n')
 (uS:C.valid=true->∀tv h' n',Up h n h' n'->Kp (λx=>x<n) h' n' (λh n=>bX h n tv C.first)->Q (.bQ [.agg (tv.av C.first),.i .i64 0]) h' n'):CW (EF (K+7)) 17 [.agg (v.av C)] h n Q:=by
 refine aD c17 rfl ?_;repeat' (first|(simp (disch:=omega) only[go_sem,simprocAttr,ub.old,m17,CS.av])|(simp (disch:=omega) only[go_sem,simprocAttr,m17,CS.av])|((first|rw[aU]|rw[bR]);with_reducible refine pK _ (hC.up aI) ho λ_ h2 n2 u2=>?_;(first|replace ub:=Up.trans ub (Up.trans aI u2)|have ub:=u2);have hle:=ub.le;clear u2)|(refine aT ?_ ?_<;>(intro hb hd;rw[hb];clear hb))|(with_reducible refine aj ?_))
 .refine lK ?_ _ _ aI
  cases hv:C.valid with
  |false=>rfl
  |true=>exact absurd ((mE C).2 hv) hd
 .have hv:=(mE C).1 hd
  have ok:=aA.ok hv;have DZ:=ok.dL;have aeK:=ok.jY;rw[bR];refine eG UE zh _ (hC.ah.up aI) (by have:=ok.lG;omega) λv' h3 n3 u3 g3 hb3 hex=>?_;obtain⟨bh,rfl,hrow,aeL,Y5⟩:=hex (λe=>ok.roles (by rw[e];rfl));clear g3 hb3 hex;have ub0:=ub;replace ub:=Up.trans ub (Up.trans aI u3);have hle:=ub.le;clear u3;repeat' (first|(simp (disch:=omega) only[go_sem,simprocAttr,ub.old,hC.acts.len,hC.lk,ub0.old])|(simp (disch:=omega) only[go_sem,simprocAttr,hC.acts.len,hC.lk,ub0.old])|(refine aT ?_ ?_<;>(intro hb hd;rw[hb];clear hb))|(with_reducible refine aj ?_))
  generalize hh:Tr.set (Tr.set (Tr.set h3 n2 _) (n2+1) _) (n2+2) _=h4;have ux:Up h n h4 n3:=by rw[<-hh];exact aI
  have hf1:h4.get n=some (.row 27 (v.av C)):=by rw[<-hh];simp (disch:=omega) only[go_sem,ub.old]
  have hf2:h4.get (n+1)=some (.row 43 [.i .i64 0,.k 1,.k 1,.k 1]):=by rw[<-hh];simp (disch:=omega) only[go_sem,ub.old]
  obtain⟨b,UK,hbg,w4⟩:∃b:WB,b.B=n+1+1/\b.g=n2+2/\Wk h4 n3 b v C ⟨0,C.ah,List.replicate C.acts.length false,List.replicate C.clauses.length ⟨0,0,0,0,false⟩⟩:=by
   rw[<-hh];refine⟨⟨n+1+1,n2+2,bh,n2,n2+1,none,some C.acts.length,some C.clauses.length⟩,rfl,rfl,?_⟩;refine⟨?_,?_,?_,?_,by show n2+2<n3;omega,Y5,by show n2<n3;omega,by show n2+1<n3;omega,λk hk=>(by cases hk),λk hk=>(by cases hk;simp),λk hk=>(by cases hk;simp),⟨by show n+1+1<=n2+2;omega,by show n+1+1<=bh;omega,by show n+1+1<=n2;omega,by show n+1+1<=n2+1;omega⟩,?_⟩
   .simp (disch:=omega) only[go_sem,WB.cells,List.length_replicate]
   .simp (disch:=omega) only[go_sem,hrow]
   .simp (disch:=omega) only[go_sem]
    exact congrArg some (congrArg (AO.row 4) (jk cb false C.acts.length))
   .simp (disch:=omega) only[go_sem]
    exact congrArg some (congrArg (AO.row 144) (jk au.av ⟨0,0,0,0,false⟩ C.clauses.length))
   .refine((Kp.Jv (n:=n+1+1) (λh' n' u=>hC.up (Up.trans ?_ u)) (λx hx=>hx)).up ub).set (.inl ?_) (Nat.le_refl _) |>.set (.inl ?_) (Nat.le_refl _) |>.set (.inl ?_) (Nat.le_refl _)
    .exact aI
    all_goals(show n+1+1<=_;omega)
  have hn3:n+1+1<=n3:=by omega
  clear hh ub ub0 hrow aeL Y5 hle;rw[<-hbg];refine b_ C.clauses.length (λk h5 n5 G=>∃ms,Wk h5 n5 b v C ⟨0,C.ah,List.replicate C.acts.length false,ms⟩/\UX b.X h4 n3 h5 n5/\ms.length=C.clauses.length/\(∀j k',j<k->C.clauses[j]?=some k'->ms[j]?=some (eT k'))/\G=[(1,.p n 0),(2,.p (n+1) 0),(6,.p b.g 0),(33,v.k)]) (by omega) (by omega) (by omega) (by omega) (λk h3 n3 G ⟨_,_,_,_,_,e⟩=>by subst e;exact⟨rfl,rfl⟩) ⟨rfl,rfl,_,⟨_,w4,UX.refl,by simp,λ_ _ h=>by omega,rfl⟩,by(repeat' (first|exact aR|refine aN rfl ?_))⟩ ?_ ?_
  .rintro k h5 n5 G hk ⟨ms,w5,u5,hl,hms,rfl⟩
   obtain⟨cb,co,kc,t,i1,i2,i3,i4,rd⟩:=w5.jm.Sg hk;have l1:=w5.lg;have l2:=w5.lh;have l3:=w5.lu;have l4:=w5.lm;have hkm:k<ms.length:=by omega
   obtain⟨e1,e2,e3,e4,e5,e6⟩:=w5.ne;have st0:=stm (e:=144) hkm ⟨0,0,0, -1,false⟩;repeat' (first|(simp (disch:=omega) only[go_sem,simprocAttr,ub.old,aK i1,rd.el,rd.hd,rd.all,aF.av,w5.row,w5.ms,WB.cells,bZ hkm,st0,Sc hkm])|(simp (disch:=omega) only[go_sem,simprocAttr,aK i1,rd.el,rd.hd,rd.all,aF.av,w5.row,w5.ms,WB.cells,bZ hkm,st0,Sc hkm])|(refine aT ?_ ?_<;>(intro hb hd;rw[hb];clear hb))|(with_reducible refine aj ?_))
   all_goals
    have key:∀(m:au) j k',m=eT kc->j<k+1->C.clauses[j]?=some k'->(ms.set k m)[j]?=some (eT k'):=λm j k' em hj hk'=>by
     by_cases e:k=j
     .subst e
      rw[i2]at hk';cases hk';rw[List.getElem?_set_self hkm,em]
     .rw[List.getElem?_set_ne e];exact hms j k' (by omega) hk'
   .exact⟨rfl,rfl,_,⟨_,((w5.up aI).qN (ms:=ms.set k ⟨0,0,0, -1,false⟩) (by simp)).qN (ms:=ms.set k ⟨5,0,0, -1,false⟩) (by simp),((u5.trans (UX.up aI)).set (.inl b.xm) (Nat.le_refl _)).set (.inl b.xm) (Nat.le_refl _),by simp[hl],λj k'=>key _ j k' (by unfold eT;rw[hd];rfl),rfl⟩,by(repeat' (first|exact aR|refine aN rfl ?_))⟩
   .exact⟨rfl,rfl,_,⟨_,(w5.up aI).qN (ms:=ms.set k ⟨0,0,0, -1,false⟩) (by simp),(u5.trans (UX.up aI)).set (.inl b.xm) (Nat.le_refl _),by simp[hl],λj k'=>key _ j k' (by unfold eT;rw[hd];rfl),rfl⟩,by(repeat' (first|exact aR|refine aN rfl ?_))⟩
  .rintro h5 n5 G ⟨ms,w5,u5,hl,hms,rfl⟩
   have aeN:ms=C.clauses.map eT:=List.ext_getElem? λj=>by
    rw[List.getElem?_map];cases hc:C.clauses[j]? with
    |none=>rw[List.getElem?_eq_none_iff]at hc;rw[List.getElem?_eq_none (by omega)];rfl
    |some k'=>exact hms j k' (List.getElem?_eq_some_iff.1 hc).1 hc
   subst aeN;have hX:∀x,b.X x->n+1+1<=x:=λx hx=>by
    have:=w4.ge;rcases hx with rfl|rfl|rfl|rfl<;>omega
   repeat' (first|(simp (disch:=omega) only[go_sem,simprocAttr,ub.old])|(simp (disch:=omega) only[go_sem,simprocAttr])|(refine aT ?_ ?_<;>(intro hb hd;rw[hb];clear hb))|(with_reducible refine aj ?_))
   rw[aU];refine uw _ w5 ok hl (by rfl) λh6 n6 w6 u6=>?_;have u46:=u5.trans u6;have q1:=(u46.old n (by omega) (λe=>by have:=hX _ e;omega)).trans hf1;have q2:=(u46.old (n+1) (by omega) (λe=>by have:=hX _ e;omega)).trans hf2;repeat' (first|(simp (disch:=omega) only[go_sem,simprocAttr,ub.old,q2,w6.row,WB.cells])|(simp (disch:=omega) only[go_sem,simprocAttr,q2,w6.row,WB.cells])|(refine aT ?_ ?_<;>(intro hb hd;rw[hb];clear hb))|(with_reducible refine aj ?_))
   refine uS hv (b.tv C.first) _ _ ?_ ?_
   .have:=((UX.up ux).trans u46).UH λx hx=>by have:=hX x hx;omega
    exact aI
   .exact(w6.MP.set (.inl (by rw[UK];omega)) (Nat.le_refl _)).le λx _ hx=>by rw[UK];omega
end
end
end
noncomputable section
open Classical
structure aP where
 st:aH
 own:Bool
def aA.aZ(C:aA)(s:aH)(t:Int):aH:=if t= -1 then C.tick s else match C.acts[t.toNat]? with|some a=>C.act t.toNat a s|none=>s
def aA.doer(C:aA)(s:aH)(t:Int):Int:=match C.acts[t.toNat]? with|some a=>bH s.ah a|none=> -2
def aA.JE(C:aA)(party:Int)(p:aP)(i:Nat):Prop:=(C.doer p.st i=party↔p.own=true)/\C.aZ p.st i≠p.st
def aA.oq(C:aA)(p:aP):List (Int×aP):=(if p.own=true then[(-2,⟨p.st,false⟩)]else[])++(if p.own=false/\p.st.day<C.days then[(-1,⟨C.aZ p.st (-1),true⟩)]else[])
def aA.ou(C:aA)(party:Int)(p:aP)(n:Nat):List (Int×aP):=((List.range n).filter λi=>decide (C.JE party p i)).map λ(i:Nat)=>((i:Int),(⟨C.aZ p.st i,true⟩:aP))
def aA.pO(C:aA)(party:Int)(p:aP):List (Int×aP):=C.oq p++(if p.st.day<C.days then C.ou party p C.acts.length else[])
theorem vR{C:aA}{party:Int}{p:aP}{n:Nat}:C.ou party p (n+1)=C.ou party p n++if C.JE party p n then[((n:Int),⟨C.aZ p.st n,true⟩)]else[]:=by
 unfold aA.ou;rw[List.range_succ,List.filter_append,List.map_append];congr 1;by_cases h:C.JE party p n<;>simp[h]
inductive bY (C:aA) (party:Int):aP->Prop
 |lost {p:aP}:anyFailed C p.st party=true->bY C party p
 |own {p:aP}:p.own=true->(∀m q,(m,q)∈C.pO party p->bY C party q)->bY C party p
 |vS {p:aP} {m:Int} {q:aP}:p.own=false->(m,q)∈C.pO party p->bY C party q->bY C party p
inductive zo (C:aA) (party:Int) (p:aP):aP->Prop
 |refl:zo C party p p
 |step {q r:aP} {m:Int}:zo C party p q->(m,r)∈C.pO party q->zo C party p r
theorem zo.trans{C:aA}{party:Int}{p q r:aP}(a:zo C party p q)(b:zo C party q r):zo C party p r:=by
 induction b with
 |refl=>exact a
 |step _ h ih=>exact ih.step h
def iw(C:aA)(party:Int)(p:aP):Prop:=∃l:List aP,l.Nodup/\1500<l.length/\∀q∈l,zo C party p q
theorem iw.of{C:aA}{party:Int}{p q:aP}(h:iw C party q)(k:zo C party p q):iw C party p:=
 let⟨l,h1,h2,h3⟩:=h
 ⟨l,h1,h2,λr hr=>k.trans (h3 r hr)⟩
structure dx(C:aA)(party:Int)(p:aP)(P:List aP)(M:List (List (Int×Nat))):Prop where
 hd:P[0]?=some p
 nd:P.Nodup
 len:M.length=P.length
 mv:∀(i:Nat)(q:aP)(l:List (Int×Nat)),P[i]?=some q->M[i]?=some l->l.length=(C.pO party q).length/\∀(k:Nat)(m:Int)(j:Nat),l[k]?=some (m,j)->∃r,P[j]?=some r/\(C.pO party q)[k]?=some (m,r)
 rch:∀q∈P,zo C party p q
 small:P.length<=1500
section
variable {C:aA} {party:Int} {p q:aP} {P:List aP} {M:List (List (Int×Nat))}
theorem dx.row(a:dx C party p P M){i:Nat}(h:P[i]?=some q):∃l,M[i]?=some l:=
 ⟨M[i]'(by rw[a.len];exact(List.getElem?_eq_some_iff.1 h).1),List.getElem?_eq_some_iff.2 ⟨_,rfl⟩⟩
theorem dx.at_(a:dx C party p P M){i:Nat}{l:List (Int×Nat)}(h:P[i]?=some q)(hl:M[i]?=some l){k:Nat}{m:Int}{r:aP}(hk:(C.pO party q)[k]?=some (m,r)):∃j,l[k]?=some (m,j)/\P[j]?=some r:=by
 obtain⟨h1,h2⟩:=a.mv i q l h hl;have hlt:k<l.length:=by rw[h1];exact(List.getElem?_eq_some_iff.1 hk).1
 obtain⟨r',h3,h4⟩:=h2 k l[k].1 l[k].2 (List.getElem?_eq_some_iff.2 ⟨hlt,rfl⟩);rw[hk]at h4;cases h4
 exact⟨_,List.getElem?_eq_some_iff.2 ⟨hlt,rfl⟩,h3⟩
theorem dx.move(a:dx C party p P M){i:Nat}{l:List (Int×Nat)}(h:P[i]?=some q)(hl:M[i]?=some l){m:Int}{r:aP}(hk:(m,r)∈C.pO party q):∃j,(m,j)∈l/\P[j]?=some r:=by
 obtain⟨k,hk⟩:=List.getElem?_of_mem hk;obtain⟨j,h1,h2⟩:=a.at_ h hl hk;exact⟨j,List.mem_of_getElem? h1,h2⟩
theorem dx.back(a:dx C party p P M){i:Nat}{l:List (Int×Nat)}(h:P[i]?=some q)(hl:M[i]?=some l){m:Int}{j:Nat}(hk:(m,j)∈l):∃r,P[j]?=some r/\(m,r)∈C.pO party q:=by
 obtain⟨k,hk⟩:=List.getElem?_of_mem hk;obtain⟨r,h1,h2⟩:=(a.mv i q l h hl).2 k m j hk;exact⟨r,h1,List.mem_of_getElem? h2⟩
theorem dx.closed(a:dx C party p P M)(h:zo C party p q):q∈P:=by
 induction h with
 |refl=>exact List.mem_of_getElem? a.hd
 |step _ hm ih=>
  obtain⟨i,hi⟩:=List.getElem?_of_mem ih;obtain⟨l,hl⟩:=a.row hi;obtain⟨j,_,h2⟩:=a.move hi hl hm;exact List.mem_of_getElem? h2
end
structure lI(C:aA)(party:Int)(P:List aP)(M:List (List (Int×Nat)))(r:List Int):Prop where
 len:r.length=P.length
 neg:∀(i:Nat)(x:Int),r[i]?=some x-> -1<=x
 lost:∀(i:Nat)(p:aP)(x:Int),P[i]?=some p->r[i]?=some x->(x=0↔anyFailed C p.st party=true)
 own:∀(i:Nat)(p:aP)(l:List (Int×Nat))(x:Int),P[i]?=some p->M[i]?=some l->r[i]?=some x->p.own=true->0<x->∀m j,(m,j)∈l->∃y,r[j]?=some y/\0<=y/\y<x
 vS:∀(i:Nat)(p:aP)(l:List (Int×Nat))(x:Int),P[i]?=some p->M[i]?=some l->r[i]?=some x->p.own=false->0<x->∃m j y,(m,j)∈l/\r[j]?=some y/\0<=y/\y<x
 Qi:∀(i:Nat)(p:aP)(l:List (Int×Nat)),P[i]?=some p->M[i]?=some l->r[i]?=some (-1)->p.own=true->∃m j,(m,j)∈l/\r[j]?=some (-1)
 Qj:∀(i:Nat)(p:aP)(l:List (Int×Nat)),P[i]?=some p->M[i]?=some l->r[i]?=some (-1)->p.own=false->∀m j,(m,j)∈l->r[j]?=some (-1)
section
variable {C:aA} {party:Int} {p q:aP} {P:List aP} {M:List (List (Int×Nat))} {r:List Int}
theorem lI.at_(k:lI C party P M r){i:Nat}(h:P[i]?=some q):∃x,r[i]?=some x:=
 ⟨r[i]'(by rw[k.len];exact(List.getElem?_eq_some_iff.1 h).1),List.getElem?_eq_some_iff.2 ⟨_,rfl⟩⟩
theorem lI.aeO(a:dx C party p P M)(k:lI C party P M r):∀(x:Nat)(i:Nat)(q:aP),P[i]?=some q->r[i]?=some (x:Int)->bY C party q:=by
 intro x;induction x using Nat.strongRecOn with
 |_ x ih=>
  intro i q hi hx;by_cases h0:x=0
  .subst h0
   exact .lost ((k.lost i q 0 hi hx).1 rfl)
  .obtain⟨l,hl⟩:=a.row hi
   cases ho:q.own with
   |true=>
    refine .own ho λm q' hm=>?_;obtain⟨j,h1,h2⟩:=a.move hi hl hm;obtain⟨y,h3,h4,h5⟩:=k.own i q l x hi hl hx ho (by omega) m j h1;obtain⟨z,rfl⟩:=Int.eq_ofNat_of_zero_le h4;exact ih z (by omega) j q' h2 h3
   |false=>
    obtain⟨m,j,y,h1,h3,h4,h5⟩:=k.vS i q l x hi hl hx ho (by omega);obtain⟨q',h2,hm⟩:=a.back hi hl h1;obtain⟨z,rfl⟩:=Int.eq_ofNat_of_zero_le h4;exact .vS ho hm (ih z (by omega) j q' h2 h3)
theorem lI.Qk(a:dx C party p P M)(k:lI C party P M r)(h:bY C party q):∀i:Nat,P[i]?=some q->r[i]?≠some (-1):=by
 induction h with
 |lost hf=>
  intro i hi e;have:=(k.lost i _ _ hi e).2 hf;omega
 |own ho _ ih=>
  intro i hi e;obtain⟨l,hl⟩:=a.row hi;obtain⟨m,j,h1,h2⟩:=k.Qi i _ l hi hl e ho;obtain⟨q',h3,h4⟩:=a.back hi hl h1;exact ih m q' h4 j h3 h2
 |vS ho hm _ ih=>
  intro i hi e;obtain⟨l,hl⟩:=a.row hi;obtain⟨j,h1,h2⟩:=a.move hi hl hm;exact ih j h2 (k.Qj i _ l hi hl e ho _ j h1)
theorem lI.safe(a:dx C party p P M)(k:lI C party P M r){i:Nat}{x:Int}(h:P[i]?=some q)(hx:r[i]?=some x):x= -1↔¬bY C party q:=by
 constructor
 .rintro rfl hd
  exact k.Qk a hd i h hx
 .intro hn
  have:=k.neg i x hx;by_cases e:x= -1
  .exact e
  .obtain⟨z,rfl⟩:=Int.eq_ofNat_of_zero_le (show 0<=x by omega)
   exact absurd (k.aeO a z i q h hx) hn
end
def aA.decide(C:aA)(party:Int)(s s':aH)(t:Int):aP:=if 0<=t/\C.doer s t=party then⟨s',true⟩else⟨s,false⟩
structure eX(C:aA)(s:aH)(l:List Int)(S:List aH):Prop where
 hd:S[0]?=some s
 len:S.length=l.length+1
 step:∀(k:Nat)(t:Int)(a:aH),l[k]?=some t->S[k]?=some a-> -1<=t/\t<C.acts.length/\a.day<C.days/\S[k+1]?=some (C.aZ a t)
theorem eX.nil(C:aA)(s:aH):eX C s [] [s]:=⟨rfl,rfl,λk t a h=>by cases h⟩
theorem eX.snoc{C:aA}{s:aH}{l:List Int}{S:List aH}(h:eX C s l S){t:Int}{a:aH}(ha:S[l.length]?=some a)(h1: -1<=t)(h2:t<C.acts.length)(h3:a.day<C.days):eX C s (l++[t]) (S++[C.aZ a t]):=by
 have hl:=h.len;refine⟨?_,by simp[hl],λk u b hu hb=>?_⟩
 .rw[List.getElem?_append_left (by omega)];exact h.hd
 .by_cases hk:k<l.length
  .rw[List.getElem?_append_left hk]at hu
   rw[List.getElem?_append_left (by omega)]at hb;obtain⟨g1,g2,g3,g4⟩:=h.step k u b hu hb;refine⟨g1,g2,g3,?_⟩;rw[List.getElem?_append_left (by omega)];exact g4
  .have hk2:k<(l++[t]).length:=(List.getElem?_eq_some_iff.1 hu).1
   obtain rfl:k=l.length:=by simp at hk2;omega
   rw[List.getElem?_append_right (Nat.le_refl _)]at hu;rw[List.getElem?_append_left (by omega),ha]at hb;simp at hu;subst hu;cases hb
   refine⟨h1,h2,h3,?_⟩;rw[List.getElem?_append_right (by omega),hl];simp
end
end Go.Proofs.YtjoohkjmoghmoaaGreatDoor
