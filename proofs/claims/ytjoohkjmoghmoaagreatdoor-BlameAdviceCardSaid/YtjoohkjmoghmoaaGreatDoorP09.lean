/- part -/
import Derived.Test.YtjoohkjmoghmoaaGreatDoorP08
set_option linter.all false
namespace Go.Proofs.YtjoohkjmoghmoaaGreatDoor
section
noncomputable section
set_option maxHeartbeats 4000000
variable {h:AH} {n:Nat} {Q:AV->AH->Nat->Prop} {v:CS} {C:aA}
theorem JH(K:Nat)(hC:aZ h n v C)(hc:C.clauses.length<=1000){i:Nat}{k:aF}(hk:C.clauses[i]?=some k)(hQ:∀h' n',Up h n h' n'->Q (.b (C.bY i k)) h' n'):CW (EF (K+4)) 93 [.agg (v.av C),.i .i64 (i:Nat)] h n Q:=by
 have hil:=(List.getElem?_eq_some_iff.1 hk).1;refine aD c93 rfl ?_;repeat' (first|(simp (disch:=omega) only[go_sem,simprocAttr,ub.old,m93,CS.av])|(simp (disch:=omega) only[go_sem,simprocAttr,m93,CS.av])|(refine aR ?_ ?_<;>(intro hb hd;rw[hb];clear hb))|(with_reducible refine aj ?_))
 refine pR hC (by omega) (by omega) λb o k' t ha hb hst rd=>?_;rw[show((i:Nat):Int).toNat=i by omega,hk]at ha;cases ha;repeat' (first|(simp (disch:=omega) only[go_sem,simprocAttr,ub.old,rd.el,rd.hd,rd.all,aF.av,hC.acts.len,hst.len])|(simp (disch:=omega) only[go_sem,simprocAttr,rd.el,rd.hd,rd.all,aF.av,hC.acts.len,hst.len])|((first|rw[aU]|rw[bQ]);with_reducible refine Qh _ (hC.up aH) k t λh2 n2 u2=>?_;(first|replace ub:=Up.trans ub (Up.trans aH u2)|have ub:=u2);have hle:=ub.le;clear u2)|(refine aR ?_ ?_<;>(intro hb hd;rw[hb];clear hb))|(with_reducible refine aj ?_))
 any_goals(first|(with_reducible refine b_ hQ ?_ aH;first|(simp[aA.bY,rH,ieq];done)|(simp[aA.bY,rH,ieq];omega)|(simp_all [aA.bY,rH,ieq];done)|(simp_all [aA.bY,rH,ieq];omega))|((with_reducible refine gD hQ aH (λhz=>?_) (λhz=>?_))<;>first|(simp_all [aA.bY,rH,ieq];done)|(simp_all [aA.bY,rH,ieq];omega)))
 have hc1:rH C k.kind k.role k.act k.need k.gF k.after k.final k.start.length=true:=by simp_all [rH]
 have g1:h2.get n=some (.row 27 (v.av C)):=by simp (disch:=omega) only[go_sem,simprocAttr,ub.old]
 have g2:h2.get (n+1)=some (.row 112 (k.av t)):=by simp (disch:=omega) only[go_sem,simprocAttr,ub.old]
 have u0:Up h n h2 n2:=by exact aH
 clear ub;refine gI k.start.length (λm=>∀j s,j<m->k.start[j]?=some s->uj C i s.clause s.is=true) h2 n2 (λm=>[(1,.i .i64 (i:Nat)),(2,.p n 0),(4,.b false),(5,.p (n+1) 0),(45,t)]) (by omega) (by omega) (by omega) (by omega) (λ_=>⟨rfl,rfl⟩) rfl rfl (by(repeat' (first|exact aO|refine aN rfl ?_))) aH (by omega) (λm h' n' hm hr u1=>?_) (λh' n' hr u1=>?_)
 .have g3:=(u1.old n (by omega)).trans g1
  have ule:=u1.le;repeat' (first|(simp (disch:=omega) only[go_sem,simprocAttr,ub.old])|(simp (disch:=omega) only[go_sem,simprocAttr])|(refine aR ?_ ?_<;>(intro hb hd;rw[hb];clear hb))|(with_reducible refine aj ?_))
  refine h_ hst (by omega) (by omega) (by omega) λb2 o2 w hw hbn eY=>?_;rw[show((m:Nat):Int).toNat=m by omega]at hw;have ua:=(u1.old b2 (by omega)).trans (u0.old b2 hbn);repeat' (first|(simp (disch:=omega) only[go_sem,simprocAttr,ub.old,eY.el,eY.hd,eY.all,ua,g3,bO.av,CS.av,hC.lk])|(simp (disch:=omega) only[go_sem,simprocAttr,eY.el,eY.hd,eY.all,ua,g3,bO.av,CS.av,hC.lk])|(refine aR ?_ ?_<;>(intro hb hd;rw[hb];clear hb))|(with_reducible refine aj ?_))
  all_goals first
   |(
    refine b_ hQ ?_ aH;have:qE C i k.start=false:=by
     unfold qE;rw[List.all_eq_false];exact⟨w,List.mem_of_getElem? hw,by simp[uj];omega⟩
    simp[aA.bY,this])
   |(
    refine iC rfl rfl (λj w' hj hw'=>?_) aH (by(repeat' (first|exact aO|refine aN rfl ?_)));by_cases e:j=m
    .subst e;rw[hw]at hw';cases hw';simp[uj,ieq];omega
    .exact hr j w' (by omega) hw')
 .have g3:=(u1.old n (by omega)).trans g1
  have g4:=(u1.old (n+1) (by omega)).trans g2;have ule:=u1.le;have hcs:qE C i k.start=true:=by
   unfold qE;rw[List.all_eq_true];intro w hw;obtain⟨j,hj⟩:=List.getElem?_of_mem hw;exact hr j w (List.getElem?_eq_some_iff.1 hj).1 hj
  repeat' (first|(simp (disch:=omega) only[go_sem,simprocAttr,ub.old,g3,g4,aF.av,CS.av,hC.units.len])|(simp (disch:=omega) only[go_sem,simprocAttr,g3,g4,aF.av,CS.av,hC.units.len])|((first|rw[aU]|rw[bQ]);with_reducible refine zu _ (hC.up aH) _ λh2 n2 u2=>?_;(first|replace ub:=Up.trans ub (Up.trans aH u2)|have ub:=u2);have hle:=ub.le;clear u2)|((first|rw[aU]|rw[bQ]);with_reducible refine Ip _ λh2 n2 u2=>?_;(first|replace ub:=Up.trans ub (Up.trans aH u2)|have ub:=u2);have hle:=ub.le;clear u2)|((first|rw[aU]|rw[bQ]);with_reducible refine pU _ k.value λh2 n2 u2=>?_;(first|replace ub:=Up.trans ub (Up.trans aH u2)|have ub:=u2);have hle:=ub.le;clear u2)|((first|rw[aU]|rw[bQ]);with_reducible refine nO _ (hC.up aH) _ λh2 n2 u2=>?_;(first|replace ub:=Up.trans ub (Up.trans aH u2)|have ub:=u2);have hle:=ub.le;clear u2)|(refine aR ?_ ?_<;>(intro hb hd;rw[hb];clear hb))|(with_reducible refine aj ?_))
  any_goals(first|(with_reducible refine b_ hQ ?_ aH;first|(simp[aA.bY,kV,mD,bA.zero,ieq];done)|(simp[aA.bY,kV,mD,bA.zero,ieq];omega)|(simp_all [aA.bY,kV,mD,bA.zero,ieq];done)|(simp_all [aA.bY,kV,mD,bA.zero,ieq];omega))|((with_reducible refine gD hQ aH (λhz=>?_) (λhz=>?_))<;>first|(simp_all [aA.bY,kV,mD,bA.zero,ieq];done)|(simp_all [aA.bY,kV,mD,bA.zero,ieq];omega)))
  all_goals
   refine h_ hC.units (by omega) (by omega) (by omega) λb3 o3 z hz hb3 oF=>?_;have ua:=(u1.old b3 (by omega)).trans (u0.old b3 hb3);have hz2:C.yT k.unit=z.kind:=by unfold aA.yT;rw[if_pos (by omega),hz];rfl
   repeat' (first|(simp (disch:=omega) only[go_sem,simprocAttr,ub.old,g3,g4,aF.av,dB.av,CS.av,oF.el,oF.hd,ua])|(simp (disch:=omega) only[go_sem,simprocAttr,g3,g4,aF.av,dB.av,CS.av,oF.el,oF.hd,ua])|((first|rw[aU]|rw[bQ]);with_reducible refine pU _ k.value λh2 n2 u2=>?_;(first|replace ub:=Up.trans ub (Up.trans aH u2)|have ub:=u2);have hle:=ub.le;clear u2)|((first|rw[aU]|rw[bQ]);with_reducible refine nO _ (hC.up aH) _ λh2 n2 u2=>?_;(first|replace ub:=Up.trans ub (Up.trans aH u2)|have ub:=u2);have hle:=ub.le;clear u2)|(refine aR ?_ ?_<;>(intro hb hd;rw[hb];clear hb))|(with_reducible refine aj ?_))
   all_goals(first|(with_reducible refine b_ hQ ?_ aH;first|(simp[aA.bY,kV,mD,bA.zero,ieq];done)|(simp[aA.bY,kV,mD,bA.zero,ieq];omega)|(simp_all [aA.bY,kV,mD,bA.zero,ieq];done)|(simp_all [aA.bY,kV,mD,bA.zero,ieq];omega))|((with_reducible refine gD hQ aH (λhz=>?_) (λhz=>?_))<;>first|(simp_all [aA.bY,kV,mD,bA.zero,ieq];done)|(simp_all [aA.bY,kV,mD,bA.zero,ieq];omega)))
def sN(l:List Int)(k:Nat):Int:=if k=0 then -1 else(l[k - 1]?).getD 0
theorem JI(K:Nat)(hC:aZ h n v C)(hl:C.over=false)(ho:C.off.length<=1000000)(hQ:∀h' n',Up h n h' n'->Q (.b C.framed) h' n'):CW (EF (K+5)) 92 [.agg (v.av C)] h n Q:=by
 simp only[aA.over,Bool.or_eq_false_iff,decide_eq_false_iff_not]at hl;refine aD c92 rfl ?_;repeat' (first|(simp (disch:=omega) only[go_sem,simprocAttr,ub.old,m92,CS.av,hC.ah.len])|(simp (disch:=omega) only[go_sem,simprocAttr,m92,CS.av,hC.ah.len])|((first|rw[aU]|rw[bQ]);with_reducible refine Qi _ (hC.up aH) (by omega) (by omega) (by omega) λh2 n2 u2=>?_;(first|replace ub:=Up.trans ub (Up.trans aH u2)|have ub:=u2);have hle:=ub.le;clear u2)|(refine aR ?_ ?_<;>(intro hb hd;rw[hb];clear hb))|(with_reducible refine aj ?_))
 any_goals(first|(with_reducible refine b_ hQ ?_ aH;first|(simp[aA.framed,OZ,ieq];done)|(simp[aA.framed,OZ,ieq];omega)|(simp_all [aA.framed,OZ,ieq];done)|(simp_all [aA.framed,OZ,ieq];omega))|((with_reducible refine gD hQ aH (λhz=>?_) (λhz=>?_))<;>first|(simp_all [aA.framed,OZ,ieq];done)|(simp_all [aA.framed,OZ,ieq];omega)))
 have hf1:OZ C=true:=by simp_all [OZ]
 have g1:h2.get n=some (.row 27 (v.av C)):=by simp (disch:=omega) only[go_sem,simprocAttr,ub.old]
 have u0:Up h n h2 n2:=by exact aH
 have hle0:=u0.le;clear ub;rw[aU];refine MP _ (hC.units.up aH) (by omega) λui h3 n3 u3=>?_;have hle3:=u3.le;have g3:=(u3.old n (by omega)).trans g1;repeat' (first|(simp (disch:=omega) only[go_sem,simprocAttr,ub.old,g3,CS.av,hC.acts.len])|(simp (disch:=omega) only[go_sem,simprocAttr,g3,CS.av,hC.acts.len])|(refine aR ?_ ?_<;>(intro hb hd;rw[hb];clear hb))|(with_reducible refine aj ?_))
 any_goals(first|(with_reducible refine b_ hQ ?_ aH;first|(simp[aA.framed,ieq];done)|(simp[aA.framed,ieq];omega)|(simp_all [aA.framed,ieq];done)|(simp_all [aA.framed,ieq];omega))|((with_reducible refine gD hQ aH (λhz=>?_) (λhz=>?_))<;>first|(simp_all [aA.framed,ieq];done)|(simp_all [aA.framed,ieq];omega)))
 have hu:nI C.units=true:=by assumption
 refine gI C.acts.length (λk=>∀j a,j<k->C.acts[j]?=some a->C.o_ a=true) h3 n3 (λk=>[(1,.p n 0),(2,.b false),(38,v.a)]) (by omega) (by omega) (by omega) (by omega) (λ_=>⟨rfl,rfl⟩) rfl rfl (by(repeat' (first|exact aO|refine aN rfl ?_))) aH (by omega) (λk h4 n4 hk hr u4=>?_) (λh4 n4 hr u4=>?_)
 .have MU:=u4.le
  have g4:=(u4.old n (by omega)).trans g3;repeat' (first|(simp (disch:=omega) only[go_sem,simprocAttr,ub.old])|(simp (disch:=omega) only[go_sem,simprocAttr])|(refine aR ?_ ?_<;>(intro hb hd;rw[hb];clear hb))|(with_reducible refine aj ?_))
  refine h_ hC.acts (by omega) (by omega) (by omega) λb2 o2 w hw hbn eY=>?_;rw[show((k:Nat):Int).toNat=k by omega]at hw;have ua:=(u4.old b2 (by omega)).trans ((u3.old b2 (by omega)).trans (u0.old b2 hbn));repeat' (first|(simp (disch:=omega) only[go_sem,simprocAttr,ub.old,eY.el,eY.hd,eY.all,ua,g4,dh.av,CS.av])|(simp (disch:=omega) only[go_sem,simprocAttr,eY.el,eY.hd,eY.all,ua,g4,dh.av,CS.av])|((first|rw[aU]|rw[bQ]);with_reducible refine UA _ (hC.up aH) w λh2 n2 u2=>?_;(first|replace ub:=Up.trans ub (Up.trans aH u2)|have ub:=u2);have hle:=ub.le;clear u2)|(refine aR ?_ ?_<;>(intro hb hd;rw[hb];clear hb))|(with_reducible refine aj ?_))
  .refine b_ hQ ?_ aH
   have:C.yX=false:=by
    unfold aA.yX;rw[List.all_eq_false];exact⟨w,List.mem_of_getElem? hw,by simp_all⟩
   simp[aA.framed,this]
  .refine iC rfl rfl (λj w' hj hw'=>?_) aH (by(repeat' (first|exact aO|refine aN rfl ?_)))
   by_cases e:j=k
   .subst e;rw[hw]at hw';cases hw';simp_all
   .exact hr j w' (by omega) hw'
 .have MU:=u4.le
  have g4:=(u4.old n (by omega)).trans g3;have YP:C.yX=true:=by
   unfold aA.yX;rw[List.all_eq_true];intro w hw;obtain⟨j,hj⟩:=List.getElem?_of_mem hw;exact hr j w (List.getElem?_eq_some_iff.1 hj).1 hj
  repeat' (first|(simp (disch:=omega) only[go_sem,simprocAttr,ub.old,g4,CS.av,hC.off.len])|(simp (disch:=omega) only[go_sem,simprocAttr,g4,CS.av,hC.off.len])|(refine aR ?_ ?_<;>(intro hb hd;rw[hb];clear hb))|(with_reducible refine aj ?_))
  refine gI C.off.length (λk=>nW C.days (-1) C.off=nW C.days (sN C.off k) (C.off.drop k)) h4 n4 (λk=>[(1,.p n 0),(2,.b false),(7,.i .i64 (sN C.off k)),(50,v.o)]) (by omega) (by omega) (by omega) (by omega) (λ_=>⟨rfl,rfl⟩) rfl rfl (by(repeat' (first|exact aO|refine aN rfl ?_))) aH (by rw[List.drop_zero];rfl) (λk h5 n5 hk UC u5=>?_) (λh5 n5 UC u5=>?_)
  .have alm:=u5.le
   have g5:=(u5.old n (by omega)).trans g4;repeat' (first|(simp (disch:=omega) only[go_sem,simprocAttr,ub.old])|(simp (disch:=omega) only[go_sem,simprocAttr])|(refine aR ?_ ?_<;>(intro hb hd;rw[hb];clear hb))|(with_reducible refine aj ?_))
   refine h_ hC.off (by omega) (by omega) (by omega) λb2 o2 w hw hbn eY=>?_;rw[show((k:Nat):Int).toNat=k by omega]at hw;have ua:=(u5.old b2 (by omega)).trans ((u4.old b2 (by omega)).trans ((u3.old b2 (by omega)).trans (u0.old b2 hbn)));have hdr:C.off.drop k=w::C.off.drop (k+1):=by
    obtain⟨e1,e2⟩:=List.getElem?_eq_some_iff.1 hw;rw[List.drop_eq_getElem_cons e1,e2]
   rw[hdr,nW]at UC;repeat' (first|(simp (disch:=omega) only[go_sem,simprocAttr,ub.old,eY.el,eY.hd,eY.all,ua,g5,CS.av])|(simp (disch:=omega) only[go_sem,simprocAttr,eY.el,eY.hd,eY.all,ua,g5,CS.av])|(refine aR ?_ ?_<;>(intro hb hd;rw[hb];clear hb))|(with_reducible refine aj ?_))
   .refine b_ hQ ?_ aH
    have:nW C.days (-1) C.off=false:=by rw[UC];simp_all
    simp[aA.framed,this]
   .refine b_ hQ ?_ aH
    have:nW C.days (-1) C.off=false:=by rw[UC];simp_all
    simp[aA.framed,this]
   .have hl2:sN C.off (k+1)=w:=by unfold sN;rw[if_neg (by omega),Nat.add_sub_cancel,hw];rfl
    refine iC rfl rfl ?_ aH ?_
    .show _=nW C.days (sN C.off (k+1)) _
     have q1:¬w<=sN C.off k:=by assumption
     have q2:¬C.days<=w:=by assumption
     rw[hl2,UC];simp[q1,q2]
    .show∀m u,lk [(1,.p n 0),(2,.b false),(7,.i .i64 (sN C.off (k+1))),(50,v.o)] m=some u->_
     rw[hl2]
     (repeat' (first|exact aO|refine aN rfl ?_))
  .repeat' (first|(simp (disch:=omega) only[go_sem,simprocAttr,ub.old])|(simp (disch:=omega) only[go_sem,simprocAttr])|(refine aR ?_ ?_<;>(intro hb hd;rw[hb];clear hb))|(with_reducible refine aj ?_))
   refine b_ hQ ?_ aH;have:nW C.days (-1) C.off=true:=by rw[UC,List.drop_length];rfl
   simp[aA.framed,this,hf1,hu,YP]
theorem pV(K:Nat)(hC:aZ h n v C)(ho:C.off.length<=1000000)(hQ:∀i h' n',Up h n h' n'->Q (.bN [.i .i64 C.errno,.i .i64 i]) h' n'):CW (EF (K+6)) 44 [.agg (v.av C)] h n Q:=by
 refine aD c44 rfl ?_;cases hov:C.over with
 |true=>
  have he:C.errno=3:=by simp[aA.errno,hov]
  rw[he]at hQ;repeat' (first|(simp (disch:=omega) only[go_sem,simprocAttr,ub.old,YO,CS.av,hC.ah.len,hC.units.len,hC.acts.len,hC.lk])|(simp (disch:=omega) only[go_sem,simprocAttr,YO,CS.av,hC.ah.len,hC.units.len,hC.acts.len,hC.lk])|(refine aR ?_ ?_<;>(intro hb hd;rw[hb];clear hb))|(with_reducible refine aj ?_))
  any_goals exact hQ _ _ _ aH
  all_goals(exfalso;simp[aA.over]at hov;omega)
 |false=>
  have hv:=hov;simp only[aA.over,Bool.or_eq_false_iff,decide_eq_false_iff_not]at hv;repeat' (first|(simp (disch:=omega) only[go_sem,simprocAttr,ub.old,YO,CS.av,hC.ah.len,hC.units.len,hC.acts.len,hC.lk])|(simp (disch:=omega) only[go_sem,simprocAttr,YO,CS.av,hC.ah.len,hC.units.len,hC.acts.len,hC.lk])|((first|rw[aU]|rw[bQ]);with_reducible refine JI _ (hC.up aH) hov ho λh2 n2 u2=>?_;(first|replace ub:=Up.trans ub (Up.trans aH u2)|have ub:=u2);have hle:=ub.le;clear u2)|(refine aR ?_ ?_<;>(intro hb hd;rw[hb];clear hb))|(with_reducible refine aj ?_))
  any_goals(exfalso;omega)
  .have hf:C.framed=false:=by simp_all
   rw[show C.errno=1 by simp[aA.errno,hov,hf]]at hQ;exact hQ _ _ _ aH
  have hf:C.framed=true:=by simp_all
  have g1:h2.get n=some (.row 27 (v.av C)):=by simp (disch:=omega) only[go_sem,simprocAttr,ub.old]
  have u0:Up h n h2 n2:=by exact aH
  have hle0:=u0.le;clear ub;refine gI C.clauses.length (λk=>∀j a,j<k->C.clauses[j]?=some a->C.bY j a=true) h2 n2 (λk=>[(1,.p n 0)]) (by omega) (by omega) (by omega) (by omega) (λ_=>⟨rfl,rfl⟩) rfl rfl (by(repeat' (first|exact aO|refine aN rfl ?_))) aH (by omega) (λk h4 n4 hk hr u4=>?_) (λh4 n4 hr u4=>?_)
  .have MU:=u4.le
   have g4:=(u4.old n (by omega)).trans g1;obtain⟨w,hw⟩:∃w,C.clauses[k]?=some w:=⟨C.clauses[k],List.getElem?_eq_some_iff.2 ⟨hk,rfl⟩⟩;repeat' (first|(simp (disch:=omega) only[go_sem,simprocAttr,ub.old,g4,CS.av])|(simp (disch:=omega) only[go_sem,simprocAttr,g4,CS.av])|((first|rw[aU]|rw[bQ]);with_reducible refine JH _ (hC.up aH) (by omega) hw λh2 n2 u2=>?_;(first|replace ub:=Up.trans ub (Up.trans aH u2)|have ub:=u2);have hle:=ub.le;clear u2)|(refine aR ?_ ?_<;>(intro hb hd;rw[hb];clear hb))|(with_reducible refine aj ?_))
   .have:C.iH=false:=by
     unfold aA.iH;rw[List.all_eq_false];exact⟨k,List.mem_range.2 hk,by rw[hw];simp_all⟩
    rw[show C.errno=1 by simp[aA.errno,hov,hf,this]]at hQ;exact hQ _ _ _ aH
   .refine iC rfl rfl (λj w' hj hw'=>?_) aH (by(repeat' (first|exact aO|refine aN rfl ?_)))
    by_cases e:j=k
    .subst e;rw[hw]at hw';cases hw';simp_all
    .exact hr j w' (by omega) hw'
  .repeat' (first|(simp (disch:=omega) only[go_sem,simprocAttr,ub.old])|(simp (disch:=omega) only[go_sem,simprocAttr])|(refine aR ?_ ?_<;>(intro hb hd;rw[hb];clear hb))|(with_reducible refine aj ?_))
   have:C.iH=true:=by
    unfold aA.iH;rw[List.all_eq_true];intro i hi;have hi:=List.mem_range.1 hi;obtain⟨w,hw⟩:∃w,C.clauses[i]?=some w:=⟨C.clauses[i],List.getElem?_eq_some_iff.2 ⟨hi,rfl⟩⟩;rw[hw];exact hr i w hi hw
   rw[show C.errno=0 by simp[aA.errno,hov,hf,this]]at hQ;exact hQ _ _ _ aH
end
end
section
noncomputable section
set_option maxRecDepth 1000000
set_option maxHeartbeats 4000000
def YQ:MC:=vF 175
def c175:=vT 175 YQ
def m95:MC:=vF 95
def c95:=vT 95 m95
def m94:MC:=vF 94
def c94:=vT 94 m94
def YR:MC:=vF 103
def aex:=vT 103 YR
def YS:MC:=vF 180
def aey:=vT 180 YS
def m47:MC:=vF 47
def c47:=vT 47 m47
def UD:MC:=vF 115
def aeA:=vT 115 UD
def YU:MC:=vF 109
def c109:=vT 109 YU
def YV:MC:=vF 263
def aeB:=vT 263 YV
def YW:MC:=vF 264
def aeC:=vT 264 YW
def UE:MC:=vF 234
def c234:=vT 234 UE
end
end
section
noncomputable section
set_option maxHeartbeats 4000000
variable {h:AH} {n:Nat} {Q:AV->AH->Nat->Prop} {v:CS} {C:aA} {tv:TS} {s:aI}
theorem MV(a b c d:Int)(e:Bool)(a' b' c' d':Int)(e':Bool):(dY Tryz.prog 144 .eql).run (.agg [.i .i64 a,.i .i64 b,.i .i64 c,.i .i64 d,.b e]) (.agg [.i .i64 a',.i .i64 b',.i .i64 c',.i .i64 d',.b e'])=
 bnd (bc (fM a a') (bc (fM b b') (bc (fM c c') (bc (fM d d') (bc (bc e e' (qh e')) (some true) (some false)) (some false)) (some false)) (some false)) (some false)) λe=>some (.b e):=by kernel_rfl
@[go_sem] theorem aci (a b c d:Int) (e:Bool) (a' b' c' d':Int) (e':Bool):(dY Tryz.prog 144 .eql).run (.agg [.i .i64 a,.i .i64 b,.i .i64 c,.i .i64 d,.b e]) (.agg [.i .i64 a',.i .i64 b',.i .i64 c',.i .i64 d',.b e'])=
 some (.b (decide (a=a')&&(decide (b=b')&&(decide (c=c')&&(decide (d=d')&&(e==e')))))):=by
 rw[MV,cK,cK,cK,cK];by_cases h1:a=a'<;>by_cases h2:b=b'<;>by_cases h3:c=c'<;>by_cases h4:d=d'<;>cases e<;>cases e'<;>simp[h1,h2,h3,h4,bc,bnd,qh]
theorem FX(K:Nat)(m:au)(hQ:∀h' n',Up h n h' n'->Q (.b m.runs) h' n'):CW (EF (K+1)) 180 [.agg m.av] h n Q:=by
 refine aD aey rfl ?_;repeat' (first|(simp (disch:=omega) only[go_sem,simprocAttr,YS,au.av])|(refine aR ?_ ?_<;>(intro hb hd;rw[hb];clear hb))|(with_reducible refine aj ?_))
 all_goals(first|(with_reducible refine b_ hQ ?_ aH;first|(simp[au.runs,ieq];done)|(simp[au.runs,ieq];omega)|(simp_all [au.runs,ieq];done)|(simp_all [au.runs,ieq];omega))|((with_reducible refine gD hQ aH (λhz=>?_) (λhz=>?_))<;>first|(simp_all [au.runs,ieq];done)|(simp_all [au.runs,ieq];omega)))
theorem UG(K:Nat)(k:aF)(t:AV)(m:au)(hC:aZ h n v C)(hQ:∀h' n',Up h n h' n'->Q (.b (jT C k.kind k.need k.pause k.iR m.left m.got m.aS m.paused)) h' n')(hk:qM t=some [t]):CW (EF (K+1)) 175 [.agg (v.av C),.agg (k.av t),.agg m.av] h n Q:=by
 refine aD c175 rfl ?_;repeat' (first|(simp (disch:=omega) only[go_sem,simprocAttr,YQ,CS.av,aF.av,au.av])|(refine aR ?_ ?_<;>(intro hb hd;rw[hb];clear hb))|(with_reducible refine aj ?_))
 any_goals(first|(with_reducible refine b_ hQ ?_ aH;first|(simp[jT,ieq];done)|(simp[jT,ieq];omega)|(simp_all [jT,ieq];done)|(simp_all [jT,ieq];omega))|((with_reducible refine gD hQ aH (λhz=>?_) (λhz=>?_))<;>first|(simp_all [jT,ieq];done)|(simp_all [jT,ieq];omega)))
theorem Ql(K:Nat)(hC:aZ h n v C){i:Nat}{k:aF}(hk:C.clauses[i]?=some k)(m:au)(hQ:∀h' n',Up h n h' n'->Q (.b (C.jU k m)) h' n'):CW (EF (K+2)) 95 [.agg (v.av C),.i .i64 (i:Nat),.agg m.av] h n Q:=by
 have hil:=(List.getElem?_eq_some_iff.1 hk).1;refine aD c95 rfl ?_;repeat' (first|(simp (disch:=omega) only[go_sem,simprocAttr,ub.old,m95,CS.av,au.av])|(simp (disch:=omega) only[go_sem,simprocAttr,m95,CS.av,au.av])|(refine aR ?_ ?_<;>(intro hb hd;rw[hb];clear hb))|(with_reducible refine aj ?_))
 refine pR hC (by omega) (by omega) λb o k' t ha hb hst rd=>?_;rw[show((i:Nat):Int).toNat=i by omega,hk]at ha;cases ha;repeat' (first|(simp (disch:=omega) only[go_sem,simprocAttr,ub.old,rd.el,rd.hd,rd.all,aF.av,au.av])|(simp (disch:=omega) only[go_sem,simprocAttr,rd.el,rd.hd,rd.all,aF.av,au.av])|((first|rw[aU]|rw[bQ]);with_reducible refine UG _ k t m (hC.up aH) (λh2 n2 u2=>?_) hst.cl;(first|replace ub:=Up.trans ub (Up.trans aH u2)|have ub:=u2);have hle:=ub.le;clear u2)|(refine aR ?_ ?_<;>(intro hb hd;rw[hb];clear hb))|(with_reducible refine aj ?_))
 any_goals(first|(with_reducible refine b_ hQ ?_ aH;first|(simp[aA.jU,kY,pq,ieq];done)|(simp[aA.jU,kY,pq,ieq];omega)|(simp_all [aA.jU,kY,pq,ieq];done)|(simp_all [aA.jU,kY,pq,ieq];omega))|((with_reducible refine gD hQ aH (λhz=>?_) (λhz=>?_))<;>first|(simp_all [aA.jU,kY,pq,ieq];done)|(simp_all [aA.jU,kY,pq,ieq];omega)))
theorem zA(K:Nat)(hC:aZ h n v C)(hS:cZ h n tv s){i:Nat}{k:aF}{m:au}(hk:C.clauses[i]?=some k)(hm:s.marks[i]?=some m)(hl:k.start.length<=1000)(hc:∀c∈k.start,0<=c.clause/\c.clause<s.marks.length)
 (hQ:∀h' n',Up h n h' n'->Q (.b (dz s.marks k m)) h' n'):CW (EF (K+1)) 94 [.agg (v.av C),.agg (tv.av s),.i .i64 (i:Nat)] h n Q:=by
 have hil:=(List.getElem?_eq_some_iff.1 hk).1;have him:=(List.getElem?_eq_some_iff.1 hm).1;refine aD c94 rfl ?_;repeat' (first|(simp (disch:=omega) only[go_sem,simprocAttr,m94,CS.av,TS.av])|(refine aR ?_ ?_<;>(intro hb hd;rw[hb];clear hb))|(with_reducible refine aj ?_))
 refine h_ hS.marks (by omega) (by omega) (by omega) λb o m' ha hb rd=>?_;rw[show((i:Nat):Int).toNat=i by omega,hm]at ha;cases ha;repeat' (first|(simp (disch:=omega) only[go_sem,simprocAttr,rd.el,rd.hd,au.av])|(refine aR ?_ ?_<;>(intro hb hd;rw[hb];clear hb))|(with_reducible refine aj ?_))
 any_goals(first|(with_reducible refine b_ hQ ?_ aH;first|(simp[dz,ieq];done)|(simp[dz,ieq];omega)|(simp_all [dz,ieq];done)|(simp_all [dz,ieq];omega))|((with_reducible refine gD hQ aH (λhz=>?_) (λhz=>?_))<;>first|(simp_all [dz,ieq];done)|(simp_all [dz,ieq];omega)))
 all_goals(refine pR hC (by omega) (by omega) λb2 o2 k' t ha hb2 hst eY=>?_)
 all_goals(rw[show((i:Nat):Int).toNat=i by omega,hk]at ha;cases ha)
 all_goals repeat' (first|(simp (disch:=omega) only[go_sem,simprocAttr,eY.el,eY.hd,aF.av,hst.len])|(refine aR ?_ ?_<;>(intro hb hd;rw[hb];clear hb))|(with_reducible refine aj ?_))
 any_goals(first|(with_reducible refine b_ hQ ?_ aH;first|(simp[dz,ieq];done)|(simp[dz,ieq];omega)|(simp_all [dz,ieq];done)|(simp_all [dz,ieq];omega))|((with_reducible refine gD hQ aH (λhz=>?_) (λhz=>?_))<;>first|(simp_all [dz,ieq];done)|(simp_all [dz,ieq];omega)))
 refine pR hC (by omega) (by omega) λb3 o3 k' t ha hb3 hst oF=>?_;rw[show((i:Nat):Int).toNat=i by omega,hk]at ha;cases ha;repeat' (first|(simp (disch:=omega) only[go_sem,simprocAttr,oF.el,oF.hd,aF.av,hst.len])|(refine aR ?_ ?_<;>(intro hb hd;rw[hb];clear hb))|(with_reducible refine aj ?_))
 have h0:m.status=0:=by assumption
 have hw:k.iR=false:=by assumption
 generalize hh:Tr.set (Tr.set h n _) (n+1) _=hb0;have u0:Up h n hb0 (n+1+1):=by rw[<-hh];exact aH
 have g1:hb0.get (n+1)=some (.row 43 (tv.av s)):=by rw[<-hh];exact uh
 clear hh;refine gI k.start.length (λq=>∀j c,j<q->k.start[j]?=some c->d9 s.marks c=true) hb0 (n+1+1) (λq=>[(4,.p (n+1) 0),(6,.b false),(31,t)]) (by omega) (by omega) (by omega) (by omega) (λ_=>⟨rfl,rfl⟩) rfl rfl (by(repeat' (first|exact aO|refine aN rfl ?_))) aH (by omega) (λq h4 n4 hq hr u4=>?_) (λh4 n4 hr u4=>?_)
 .have MU:=u4.le
  have g4:=(u4.old (n+1) (by omega)).trans g1;repeat' (first|(simp (disch:=omega) only[go_sem,simprocAttr])|(refine aR ?_ ?_<;>(intro hb hd;rw[hb];clear hb))|(with_reducible refine aj ?_))
  refine h_ hst (by omega) (by omega) (by omega) λb5 o5 w hw5 hb5 qU=>?_;rw[show((q:Nat):Int).toNat=q by omega]at hw5;have hcw:=hc w (List.mem_of_getElem? hw5);have ua:=(u4.old b5 (by omega)).trans (u0.old b5 hb5);repeat' (first|(simp (disch:=omega) only[go_sem,simprocAttr,qU.el,qU.hd,qU.all,ua,g4,bO.av,TS.av])|(refine aR ?_ ?_<;>(intro hb hd;rw[hb];clear hb))|(with_reducible refine aj ?_))
  refine h_ hS.marks (by omega) (by omega) (by omega) λb6 o6 m6 hm6 hb6 WH=>?_;have ub6:=(u4.old b6 (by omega)).trans (u0.old b6 hb6);have als:jV s.marks w.clause=m6.status:=by unfold jV;rw[hm6];rfl
  repeat' (first|(simp (disch:=omega) only[go_sem,simprocAttr,WH.el,WH.hd,ub6,au.av])|(refine aR ?_ ?_<;>(intro hb hd;rw[hb];clear hb))|(with_reducible refine aj ?_))
  all_goals first
   |(
    refine b_ hQ ?_ aH;have:gT s.marks k.start=false:=by
     unfold gT;rw[List.all_eq_false];exact⟨w,List.mem_of_getElem? hw5,by simp_all [d9,sF,ieq]⟩
    simp[dz,this])
   |(
    refine iC rfl rfl (λj w' hj hw'=>?_) aH (by(repeat' (first|exact aO|refine aN rfl ?_)));by_cases e:j=q
    .subst e;rw[hw5]at hw';cases hw';simp_all [d9,sF,ieq]
    .exact hr j w' (by omega) hw')
 .repeat' (first|(simp (disch:=omega) only[go_sem,simprocAttr])|(refine aR ?_ ?_<;>(intro hb hd;rw[hb];clear hb))|(with_reducible refine aj ?_))
  refine b_ hQ ?_ aH;have:gT s.marks k.start=true:=by
   unfold gT;rw[List.all_eq_true];intro w hw;obtain⟨j,hj⟩:=List.getElem?_of_mem hw;exact hr j w (List.getElem?_eq_some_iff.1 hj).1 hj
  simp[dz,h0,hw,this]
end
end
section
noncomputable section
set_option maxHeartbeats 4000000
variable {h:AH} {n:Nat} {Q:AV->AH->Nat->Prop} {v:CS} {C:aA} {tv:TS} {s:aI}
theorem nP(C:aA):(C.errno=0)=(C.valid=true):=by
 unfold aA.errno aA.valid;cases C.over<;>cases (C.framed&&C.iH)<;>simp
theorem iD(K:Nat)(hC:aZ h n v C)(ho:C.off.length<=1000000)(hS:cZ h n tv s)(hQ:∀h' n',Up h n h' n'->Q (.b (C.dP s)) h' n'):CW (EF (K+7)) 47 [.agg (v.av C),.agg (tv.av s)] h n Q:=by
 refine aD c47 rfl ?_;repeat' (first|(simp (disch:=omega) only[go_sem,simprocAttr,ub.old,m47,CS.av,TS.av])|(simp (disch:=omega) only[go_sem,simprocAttr,m47,CS.av,TS.av])|(refine aR ?_ ?_<;>(intro hb hd;rw[hb];clear hb))|(with_reducible refine aj ?_))
 rw[aU];refine pV _ (hC.up aH) ho λei h2 n2 u2=>?_;have ub:=u2;have hle:=ub.le;repeat' (first|(simp (disch:=omega) only[go_sem,simprocAttr,ub.old,CS.av,TS.av,hS.ah.len,hS.used.len,hS.marks.len,hC.ah.len,hC.acts.len,hC.lk])|(simp (disch:=omega) only[go_sem,simprocAttr,CS.av,TS.av,hS.ah.len,hS.used.len,hS.marks.len,hC.ah.len,hC.acts.len,hC.lk])|(refine aR ?_ ?_<;>(intro hb hd;rw[hb];clear hb))|(with_reducible refine aj ?_))
 any_goals(first|(with_reducible refine b_ hQ ?_ aH;first|(simp[aA.dP,KT,nP,ieq];done)|(simp[aA.dP,KT,nP,ieq];omega)|(simp_all [aA.dP,KT,nP,ieq];done)|(simp_all [aA.dP,KT,nP,ieq];omega))|((with_reducible refine gD hQ aH (λhz=>?_) (λhz=>?_))<;>first|(simp_all [aA.dP,KT,nP,ieq];done)|(simp_all [aA.dP,KT,nP,ieq];omega)))
 have hv:C.valid=true:=by rw[<-nP];assumption
 have hs1:KT C s=true:=by simp_all [KT]
 have hO:=aA.ok hv;have q1:=hO.j_;have q2:=hO.kg;have q3:=hO.dQ;have hs2:=hs1;simp only[KT,Bool.and_eq_true,Bool.not_eq_true',decide_eq_false_iff_not,beq_iff_eq]at hs2;have g1:h2.get n=some (.row 27 (v.av C)):=by simp (disch:=omega) only[go_sem,simprocAttr,ub.old]
 have g2:h2.get (n+1)=some (.row 43 (tv.av s)):=by simp (disch:=omega) only[go_sem,simprocAttr,ub.old]
 have u0:Up h n h2 n2:=by exact aH
 clear ub u2;refine gI s.ah.length (λk=>∀j a,j<k->s.ah[j]?=some a->vS C a=true) h2 n2 (λk=>[(2,.p n 0),(3,.p (n+1) 0),(4,.b false),(57,tv.h)]) (by omega) (by omega) (by omega) (by omega) (λ_=>⟨rfl,rfl⟩) rfl rfl (by(repeat' (first|exact aO|refine aN rfl ?_))) aH (by omega) (λk h4 n4 hk hr u4=>?_) (λh4 n4 hr u4=>?_)
 .have MU:=u4.le
  have g4:=(u4.old n (by omega)).trans g1;repeat' (first|(simp (disch:=omega) only[go_sem,simprocAttr,ub.old])|(simp (disch:=omega) only[go_sem,simprocAttr])|(refine aR ?_ ?_<;>(intro hb hd;rw[hb];clear hb))|(with_reducible refine aj ?_))
  refine h_ hS.ah (by omega) (by omega) (by omega) λb5 o5 w hw hb5 qU=>?_;rw[show((k:Nat):Int).toNat=k by omega]at hw;have ua:=(u4.old b5 (by omega)).trans (u0.old b5 hb5);repeat' (first|(simp (disch:=omega) only[go_sem,simprocAttr,ub.old,qU.el,qU.hd,qU.all,ua,g4,CS.av])|(simp (disch:=omega) only[go_sem,simprocAttr,qU.el,qU.hd,qU.all,ua,g4,CS.av])|(refine aR ?_ ?_<;>(intro hb hd;rw[hb];clear hb))|(with_reducible refine aj ?_))
  all_goals first
   |(
    refine b_ hQ ?_ aH;have:jW C s=false:=by
     unfold jW;rw[List.all_eq_false];exact⟨w,List.mem_of_getElem? hw,by simp_all [vS]⟩
    simp[aA.dP,this])
   |(
    refine iC rfl rfl (λj w' hj hw'=>?_) aH (by(repeat' (first|exact aO|refine aN rfl ?_)));by_cases e:j=k
    .subst e;rw[hw]at hw';cases hw';simp_all [vS]
    .exact hr j w' (by omega) hw')
 have hH:jW C s=true:=by
  unfold jW;rw[List.all_eq_true];intro w hw;obtain⟨j,hj⟩:=List.getElem?_of_mem hw;exact hr j w (List.getElem?_eq_some_iff.1 hj).1 hj
 have MU:=u4.le;have g4:=(u4.old n (by omega)).trans g1;have g5:=(u4.old (n+1) (by omega)).trans g2;repeat' (first|(simp (disch:=omega) only[go_sem,simprocAttr,ub.old,g4,g5,CS.av,TS.av,hS.used.len])|(simp (disch:=omega) only[go_sem,simprocAttr,g4,g5,CS.av,TS.av,hS.used.len])|(refine aR ?_ ?_<;>(intro hb hd;rw[hb];clear hb))|(with_reducible refine aj ?_))
 refine gI s.used.length (λk=>∀j u a,j<k->s.used[j]?=some u->C.acts[j]?=some a->(u&&(a.kind==1))=false) h4 n4 (λk=>[(2,.p n 0),(3,.p (n+1) 0),(4,.b false),(73,tv.u)]) (by omega) (by omega) (by omega) (by omega) (λ_=>⟨rfl,rfl⟩) rfl rfl (by(repeat' (first|exact aO|refine aN rfl ?_))) aH (by omega) (λk h6 n6 hk UH u6=>?_) (λh6 n6 UH u6=>?_)
 .have aeD:=u6.le
  have g6:=(u6.old n (by omega)).trans g4;repeat' (first|(simp (disch:=omega) only[go_sem,simprocAttr,ub.old])|(simp (disch:=omega) only[go_sem,simprocAttr])|(refine aR ?_ ?_<;>(intro hb hd;rw[hb];clear hb))|(with_reducible refine aj ?_))
  refine h_ hS.used (by omega) (by omega) (by omega) λb5 o5 w hw hb5 qU=>?_;rw[show((k:Nat):Int).toNat=k by omega]at hw;have ua:=(u6.old b5 (by omega)).trans ((u4.old b5 (by omega)).trans (u0.old b5 hb5));obtain⟨a,ha⟩:∃a,C.acts[k]?=some a:=⟨C.acts[k],List.getElem?_eq_some_iff.2 ⟨by omega,rfl⟩⟩;repeat' (first|(simp (disch:=omega) only[go_sem,simprocAttr,ub.old,qU.el,qU.hd,qU.all,ua,g6,CS.av])|(simp (disch:=omega) only[go_sem,simprocAttr,qU.el,qU.hd,qU.all,ua,g6,CS.av])|(refine aR ?_ ?_<;>(intro hb hd;rw[hb];clear hb))|(with_reducible refine aj ?_))
  .have hwt:w=true:=by assumption
   refine h_ hC.acts (by omega) (by omega) (by omega) λb7 o7 a7 ha7 hb7 WI=>?_;rw[show((k:Nat):Int).toNat=k by omega,ha]at ha7;cases ha7;have ua7:=(u6.old b7 (by omega)).trans ((u4.old b7 (by omega)).trans (u0.old b7 hb7));repeat' (first|(simp (disch:=omega) only[go_sem,simprocAttr,ub.old,WI.el,WI.hd,ua7,dh.av])|(simp (disch:=omega) only[go_sem,simprocAttr,WI.el,WI.hd,ua7,dh.av])|(refine aR ?_ ?_<;>(intro hb hd;rw[hb];clear hb))|(with_reducible refine aj ?_))
   .refine b_ hQ ?_ aH
    have:yY C s=false:=by
     unfold yY;rw[List.all_eq_false];exact⟨k,List.mem_range.2 hk,by rw[hw,ha];simp_all⟩
    simp[aA.dP,this]
   .refine iC rfl rfl (λj u' a' hj hu' ha'=>?_) aH (by(repeat' (first|exact aO|refine aN rfl ?_)))
    by_cases e:j=k
    .subst e;rw[hw]at hu';cases hu';rw[ha]at ha';cases ha';simp_all
    .exact UH j u' a' (by omega) hu' ha'
  .have hwf:w=false:=by assumption
   refine iC rfl rfl (λj u' a' hj hu' ha'=>?_) aH (by(repeat' (first|exact aO|refine aN rfl ?_)));by_cases e:j=k
   .subst e;rw[hw]at hu';cases hu';simp[hwf]
   .exact UH j u' a' (by omega) hu' ha'
 have hU:yY C s=true:=by
  unfold yY;rw[List.all_eq_true];intro i hi;have hi:=List.mem_range.1 hi;obtain⟨w,hw⟩:∃w,s.used[i]?=some w:=⟨s.used[i],List.getElem?_eq_some_iff.2 ⟨hi,rfl⟩⟩;obtain⟨a,ha⟩:∃a,C.acts[i]?=some a:=⟨C.acts[i],List.getElem?_eq_some_iff.2 ⟨by omega,rfl⟩⟩;rw[hw,ha];simp only[UH i w a hi hw ha,Bool.not_false]
 have aeD:=u6.le;have g6:=(u6.old n (by omega)).trans g4;have g7:=(u6.old (n+1) (by omega)).trans g5;repeat' (first|(simp (disch:=omega) only[go_sem,simprocAttr,ub.old,g6,g7,CS.av,TS.av,hS.marks.len])|(simp (disch:=omega) only[go_sem,simprocAttr,g6,g7,CS.av,TS.av,hS.marks.len])|(refine aR ?_ ?_<;>(intro hb hd;rw[hb];clear hb))|(with_reducible refine aj ?_))
 refine gI s.marks.length (λk=>∀j m c,j<k->s.marks[j]?=some m->C.clauses[j]?=some c->(C.jU c m&& !(dz s.marks c m))=true) h6 n6 (λk=>[(2,.p n 0),(3,.p (n+1) 0),(4,.b false)]) (by omega) (by omega) (by omega) (by omega) (λ_=>⟨rfl,rfl⟩) rfl rfl (by(repeat' (first|exact aO|refine aN rfl ?_))) aH (by omega) (λk h8 n8 hk hr8 u8=>?_) (λh8 n8 hr8 u8=>?_)
 .have alu:=u8.le
  have g8:=(u8.old n (by omega)).trans g6;have g9:=(u8.old (n+1) (by omega)).trans g7;obtain⟨m,hm⟩:∃m,s.marks[k]?=some m:=⟨s.marks[k],List.getElem?_eq_some_iff.2 ⟨hk,rfl⟩⟩;obtain⟨c,hc⟩:∃c,C.clauses[k]?=some c:=⟨C.clauses[k],List.getElem?_eq_some_iff.2 ⟨by omega,rfl⟩⟩;have hok:=hO.clause hc;obtain⟨b5,o5,m5,i5,YX,hb5,qU⟩:=hS.marks.fu (k:=(k:Nat)) (by omega) (by omega) (by omega);rw[show((k:Nat):Int).toNat=k by omega,hm]at YX;cases YX;have ua:=(u8.old b5 (by omega)).trans ((u6.old b5 (by omega)).trans ((u4.old b5 (by omega)).trans (u0.old b5 hb5)));repeat' (first|(simp (disch:=omega) only[go_sem,simprocAttr,ub.old,g8,g9,CS.av,TS.av,i5,qU.el,qU.hd,qU.all,ua])|(simp (disch:=omega) only[go_sem,simprocAttr,g8,g9,CS.av,TS.av,i5,qU.el,qU.hd,qU.all,ua])|((first|rw[aU]|rw[bQ]);with_reducible refine Ql _ (hC.up aH) hc m λh2 n2 u2=>?_;(first|replace ub:=Up.trans ub (Up.trans aH u2)|have ub:=u2);have hle:=ub.le;clear u2)|((first|rw[aU]|rw[bQ]);with_reducible refine zA _ (hC.up aH) (hS.up aH) hc hm (by have:=hok.sI;omega) (λx hx=>by have:=hok.start x hx;omega) λh2 n2 u2=>?_;(first|replace ub:=Up.trans ub (Up.trans aH u2)|have ub:=u2);have hle:=ub.le;clear u2)|(refine aR ?_ ?_<;>(intro hb hd;rw[hb];clear hb))|(with_reducible refine aj ?_))
  all_goals first
   |(
    refine b_ hQ ?_ aH;have:sH C s=false:=by
     unfold sH;rw[List.all_eq_false];exact⟨k,List.mem_range.2 hk,by rw[hm,hc];simp_all⟩
    simp[aA.dP,this])
   |(
    refine iC rfl rfl (λj m' c' hj hm' hc'=>?_) aH (by(repeat' (first|exact aO|refine aN rfl ?_)));by_cases e:j=k
    .subst e;rw[hm]at hm';cases hm';rw[hc]at hc';cases hc';simp_all
    .exact hr8 j m' c' (by omega) hm' hc')
 .repeat' (first|(simp (disch:=omega) only[go_sem,simprocAttr,ub.old])|(simp (disch:=omega) only[go_sem,simprocAttr])|(refine aR ?_ ?_<;>(intro hb hd;rw[hb];clear hb))|(with_reducible refine aj ?_))
  refine b_ hQ ?_ aH;have:sH C s=true:=by
   unfold sH;rw[List.all_eq_true];intro i hi;have hi:=List.mem_range.1 hi;obtain⟨m,hm⟩:∃m,s.marks[i]?=some m:=⟨s.marks[i],List.getElem?_eq_some_iff.2 ⟨hi,rfl⟩⟩;obtain⟨c,hc⟩:∃c,C.clauses[i]?=some c:=⟨C.clauses[i],List.getElem?_eq_some_iff.2 ⟨by omega,rfl⟩⟩;rw[hm,hc];exact hr8 i m c hi hm hc
  simp[aA.dP,hv,hs1,hH,hU,this]
end
end
section
noncomputable section
set_option maxHeartbeats 4000000
variable {h:AH} {n:Nat} {Q:AV->AH->Nat->Prop} {v:CS} {C:aA} {tv:TS} {s:aI}
open Classical in
def Ec{α:Type}(a b:α):Bool:=decide (a=b)
theorem Ay{α:Type}{a b:α}(e:a=b):Ec a b=true:=by simp[Ec,e]
theorem wQ{α:Type}{a b:α}(e:a≠b):Ec a b=false:=by simp[Ec,e]
theorem Az(K:Nat){x y:AV}{a b:List Int}(hx:SL h n 1 x (λx:Int=>[AV.i .i64 x]) a)(hy:SL h n 1 y (λx:Int=>[AV.i .i64 x]) b)(hl:a.length<=1000000)(hQ:∀h' n',Up h n h' n'->Q (.b (Ec a b)) h' n'):CW (EF (K+1)) 109 [x,y] h n Q:=by
 refine aD c109 rfl ?_;repeat' (first|(simp (disch:=omega) only[go_sem,simprocAttr,YU,hx.len,hy.len])|(refine aR ?_ ?_<;>(intro hb hd;rw[hb];clear hb))|(with_reducible refine aj ?_))
 .refine b_ hQ (wQ λe=>?_) aH
  subst e;omega
 have hab:a.length=b.length:=by omega
 refine gI a.length (λk=>∀j,j<k->a[j]?=b[j]?) h n (λk=>[(0,x),(1,y),(4,.b false)]) (by omega) (by omega) (by omega) (by omega) (λ_=>⟨rfl,rfl⟩) rfl rfl (by(repeat' (first|exact aO|refine aN rfl ?_))) aH (by omega) (λk h4 n4 hk hr u4=>?_) (λh4 n4 hr u4=>?_)
 .obtain⟨b1,o1,w1,i1,hw1,hb1,r1⟩:=hx.fu (k:=(k:Nat)) (by omega) (by omega) (by omega)
  obtain⟨b2,o2,w2,i2,hw2,hb2,r2⟩:=hy.fu (k:=(k:Nat)) (by omega) (by omega) (by omega);rw[show((k:Nat):Int).toNat=k by omega]at hw1 hw2;have u1:=u4.old b1 hb1;have u2:=u4.old b2 hb2;repeat' (first|(simp (disch:=omega) only[go_sem,simprocAttr,i1,i2,r1.hd,r2.hd,u1,u2])|(refine aR ?_ ?_<;>(intro hb hd;rw[hb];clear hb))|(with_reducible refine aj ?_))
  .refine b_ hQ (wQ λe=>?_) aH
   subst e;rw[hw1]at hw2;cases hw2;simp_all
  .refine iC rfl rfl (λj hj=>?_) aH (by(repeat' (first|exact aO|refine aN rfl ?_)))
   by_cases e:j=k
   .subst e;rw[hw1,hw2];simp_all
   .exact hr j (by omega)
 .repeat' (first|(simp (disch:=omega) only[go_sem,simprocAttr])|(refine aR ?_ ?_<;>(intro hb hd;rw[hb];clear hb))|(with_reducible refine aj ?_))
  refine b_ hQ (Ay (List.ext_getElem? λj=>?_)) aH;by_cases hj:j<a.length
  .exact hr j hj
  .rw[List.getElem?_eq_none (by omega),List.getElem?_eq_none (by omega)]
theorem Qm(a b:Bool):(dY Tryz.prog 4 .neq).run (.b a) (.b b)=bnd (some (bc a b (qh b))) λe=>some (.b (qh e)):=by kernel_rfl
@[go_sem] theorem aeF (a b:Bool):(dY Tryz.prog 4 .neq).run (.b a) (.b b)=some (.b (!(a==b))):=by
 rw[Qm];cases a<;>cases b<;>rfl
theorem JJ(a b c d:Int)(e:Bool)(a' b' c' d':Int)(e':Bool):(dY Tryz.prog 144 .neq).run (.agg [.i .i64 a,.i .i64 b,.i .i64 c,.i .i64 d,.b e]) (.agg [.i .i64 a',.i .i64 b',.i .i64 c',.i .i64 d',.b e'])=
 bnd (bc (fM a a') (bc (fM b b') (bc (fM c c') (bc (fM d d') (bc (bc e e' (qh e')) (some true) (some false)) (some false)) (some false)) (some false)) (some false)) λe=>some (.b (qh e)):=by kernel_rfl
@[go_sem] theorem YZ (m m':au):(dY Tryz.prog 144 .neq).run (.agg m.av) (.agg m'.av)=some (.b (!Ec m m')):=by
 obtain⟨a,b,c,d,e⟩:=m;obtain⟨a',b',c',d',e'⟩:=m';rw[JJ,cK,cK,cK,cK];unfold Ec;by_cases h1:a=a'<;>by_cases h2:b=b'<;>by_cases h3:c=c'<;>by_cases h4:d=d'<;>cases e<;>cases e'<;>simp[h1,h2,h3,h4,bc,bnd,qh]
theorem FY(K:Nat){x y:AV}{a b:List Bool}(hx:SL h n 1 x (λx:Bool=>[AV.b x]) a)(hy:SL h n 1 y (λx:Bool=>[AV.b x]) b)(hl:a.length<=1000000)(hQ:∀h' n',Up h n h' n'->Q (.b (Ec a b)) h' n'):CW (EF (K+1)) 263 [x,y] h n Q:=by
 refine aD aeB rfl ?_;repeat' (first|(simp (disch:=omega) only[go_sem,simprocAttr,YV,hx.len,hy.len])|(refine aR ?_ ?_<;>(intro hb hd;rw[hb];clear hb))|(with_reducible refine aj ?_))
 .refine b_ hQ (wQ λe=>?_) aH
  subst e;omega
 have hab:a.length=b.length:=by omega
 refine gI a.length (λk=>∀j,j<k->a[j]?=b[j]?) h n (λk=>[(0,x),(1,y),(4,.b false)]) (by omega) (by omega) (by omega) (by omega) (λ_=>⟨rfl,rfl⟩) rfl rfl (by(repeat' (first|exact aO|refine aN rfl ?_))) aH (by omega) (λk h4 n4 hk hr u4=>?_) (λh4 n4 hr u4=>?_)
 .obtain⟨b1,o1,w1,i1,hw1,hb1,r1⟩:=hx.fu (k:=(k:Nat)) (by omega) (by omega) (by omega)
  obtain⟨b2,o2,w2,i2,hw2,hb2,r2⟩:=hy.fu (k:=(k:Nat)) (by omega) (by omega) (by omega);rw[show((k:Nat):Int).toNat=k by omega]at hw1 hw2;have u1:=u4.old b1 hb1;have u2:=u4.old b2 hb2;repeat' (first|(simp (disch:=omega) only[go_sem,simprocAttr,i1,i2,r1.hd,r2.hd,u1,u2])|(refine aR ?_ ?_<;>(intro hb hd;rw[hb];clear hb))|(with_reducible refine aj ?_))
  .refine b_ hQ (wQ λe=>?_) aH
   subst e;rw[hw1]at hw2;cases hw2;simp_all
  .refine iC rfl rfl (λj hj=>?_) aH (by(repeat' (first|exact aO|refine aN rfl ?_)))
   by_cases e:j=k
   .subst e;rw[hw1,hw2];simp_all
   .exact hr j (by omega)
 .repeat' (first|(simp (disch:=omega) only[go_sem,simprocAttr])|(refine aR ?_ ?_<;>(intro hb hd;rw[hb];clear hb))|(with_reducible refine aj ?_))
  refine b_ hQ (Ay (List.ext_getElem? λj=>?_)) aH;by_cases hj:j<a.length
  .exact hr j hj
  .rw[List.getElem?_eq_none (by omega),List.getElem?_eq_none (by omega)]
theorem FZ(K:Nat){x y:AV}{a b:List au}(hx:SL h n 5 x au.av a)(hy:SL h n 5 y au.av b)(hl:a.length<=1000000)(hQ:∀h' n',Up h n h' n'->Q (.b (Ec a b)) h' n'):CW (EF (K+1)) 264 [x,y] h n Q:=by
 refine aD aeC rfl ?_;repeat' (first|(simp (disch:=omega) only[go_sem,simprocAttr,YW,hx.len,hy.len])|(refine aR ?_ ?_<;>(intro hb hd;rw[hb];clear hb))|(with_reducible refine aj ?_))
 .refine b_ hQ (wQ λe=>?_) aH
  subst e;omega
 have hab:a.length=b.length:=by omega
 refine gI a.length (λk=>∀j,j<k->a[j]?=b[j]?) h n (λk=>[(0,x),(1,y),(4,.b false)]) (by omega) (by omega) (by omega) (by omega) (λ_=>⟨rfl,rfl⟩) rfl rfl (by(repeat' (first|exact aO|refine aN rfl ?_))) aH (by omega) (λk h4 n4 hk hr u4=>?_) (λh4 n4 hr u4=>?_)
 .obtain⟨b1,o1,w1,i1,hw1,hb1,r1⟩:=hx.fu (k:=(k:Nat)) (by omega) (by omega) (by omega)
  obtain⟨b2,o2,w2,i2,hw2,hb2,r2⟩:=hy.fu (k:=(k:Nat)) (by omega) (by omega) (by omega);rw[show((k:Nat):Int).toNat=k by omega]at hw1 hw2;have u1:=u4.old b1 hb1;have u2:=u4.old b2 hb2;repeat' (first|(simp (disch:=omega) only[go_sem,simprocAttr,i1,i2,r1.all,r2.all,u1,u2])|(refine aR ?_ ?_<;>(intro hb hd;rw[hb];clear hb))|(with_reducible refine aj ?_))
  .refine b_ hQ (wQ λe=>?_) aH
   subst e;rw[hw1]at hw2;cases hw2;simp_all [Ec]
  .refine iC rfl rfl (λj hj=>?_) aH (by(repeat' (first|exact aO|refine aN rfl ?_)))
   by_cases e:j=k
   .subst e;rw[hw1,hw2];simp_all [Ec]
   .exact hr j (by omega)
 .repeat' (first|(simp (disch:=omega) only[go_sem,simprocAttr])|(refine aR ?_ ?_<;>(intro hb hd;rw[hb];clear hb))|(with_reducible refine aj ?_))
  refine b_ hQ (Ay (List.ext_getElem? λj=>?_)) aH;by_cases hj:j<a.length
  .exact hr j hj
  .rw[List.getElem?_eq_none (by omega),List.getElem?_eq_none (by omega)]
theorem Iq(K:Nat){tv':TS}{s':aI}(hS:cZ h n tv s)(hS':cZ h n tv' s')(l1:s.ah.length<=1000000)(l2:s.used.length<=1000000)(l3:s.marks.length<=1000000)(hQ:∀h' n',Up h n h' n'->Q (.b (Ec s s')) h' n'):CW (EF (K+2)) 234 [.agg (tv.av s),.agg (tv'.av s')] h n Q:=by
 refine aD c234 rfl ?_;have key:Ec s s'=(decide (s.day=s'.day)&&(Ec s.ah s'.ah&&(Ec s.used s'.used&&Ec s.marks s'.marks))):=by
  unfold Ec;obtain⟨a,b,c,d⟩:=s;obtain⟨a',b',c',d'⟩:=s';by_cases h1:a=a'<;>by_cases h2:b=b'<;>by_cases h3:c=c'<;>by_cases h4:d=d'<;>simp[h1,h2,h3,h4]
 repeat' (first|(simp (disch:=omega) only[go_sem,simprocAttr,ub.old,UE,TS.av])|(simp (disch:=omega) only[go_sem,simprocAttr,UE,TS.av])|((first|rw[aU]|rw[bQ]);with_reducible refine Az _ (hS.ah.up aH) (hS'.ah.up aH) l1 λh2 n2 u2=>?_;(first|replace ub:=Up.trans ub (Up.trans aH u2)|have ub:=u2);have hle:=ub.le;clear u2)|((first|rw[aU]|rw[bQ]);with_reducible refine FY _ (hS.used.up aH) (hS'.used.up aH) l2 λh2 n2 u2=>?_;(first|replace ub:=Up.trans ub (Up.trans aH u2)|have ub:=u2);have hle:=ub.le;clear u2)|((first|rw[aU]|rw[bQ]);with_reducible refine FZ _ (hS.marks.up aH) (hS'.marks.up aH) l3 λh2 n2 u2=>?_;(first|replace ub:=Up.trans ub (Up.trans aH u2)|have ub:=u2);have hle:=ub.le;clear u2)|(refine aR ?_ ?_<;>(intro hb hd;rw[hb];clear hb))|(with_reducible refine aj ?_))
 all_goals(first|(with_reducible refine b_ hQ ?_ aH;first|(simp[key,ieq];done)|(simp[key,ieq];omega)|(simp_all [key,ieq];done)|(simp_all [key,ieq];omega))|((with_reducible refine gD hQ aH (λhz=>?_) (λhz=>?_))<;>first|(simp_all [key,ieq];done)|(simp_all [key,ieq];omega)))
theorem Ir(K:Nat)(hC:aZ h n v C)(hS:cZ h n tv s){i:Int}{a:dh}(h0:0<=i)(ha:C.acts[i.toNat]?=some a)(hr:a.role≠ -1->0<=a.role/\a.role<s.ah.length)(hQ:∀h' n',Up h n h' n'->Q (.i .i64 (bC s.ah a)) h' n'):CW (EF (K+1)) 103 [.agg (v.av C),.agg (tv.av s),.i .i64 i] h n Q:=by
 have hil:=(List.getElem?_eq_some_iff.1 ha).1;refine aD aex rfl ?_;repeat' (first|(simp (disch:=omega) only[go_sem,simprocAttr,YR,CS.av,TS.av])|(refine aR ?_ ?_<;>(intro hb hd;rw[hb];clear hb))|(with_reducible refine aj ?_))
 refine h_ hC.acts (by omega) (by omega) (by omega) λb o a' ha' hb rd=>?_;rw[ha]at ha';cases ha';repeat' (first|(simp (disch:=omega) only[go_sem,simprocAttr,rd.el,rd.hd,dh.av])|(refine aR ?_ ?_<;>(intro hb hd;rw[hb];clear hb))|(with_reducible refine aj ?_))
 .have:bC s.ah a= -1:=by simp_all [bC]
  rw[this]at hQ;exact hQ _ _ aH
 obtain⟨b2,o2,a2,i2,ha2,hb2,eY⟩:=hC.acts.fu (k:=i) (by omega) (by omega) (by omega);rw[ha]at ha2;cases ha2;have hr':=hr (by assumption);obtain⟨b3,o3,p,i3,hp,hb3,oF⟩:=hS.ah.fu (k:=a.role) (by omega) (by omega) (by omega);repeat' (first|(simp (disch:=omega) only[go_sem,simprocAttr,i2,eY.el,eY.hd,i3,oF.el,oF.hd])|(refine aR ?_ ?_<;>(intro hb hd;rw[hb];clear hb))|(with_reducible refine aj ?_))
 have:bC s.ah a=p:=by
  have e:(a.role== -1)=false:=by simp;assumption
  unfold bC gQ;rw[e,hp];rfl
 rw[this]at hQ;exact hQ _ _ aH
theorem Qn(K:Nat)(hC:aZ h n v C)(ho:C.off.length<=1000000)(hS:cZ h n tv s)(hs:C.dP s=true){i:Int}{a:dh}(h0:0<=i)(ha:C.acts[i.toNat]?=some a)(hQ:∀h' n',Up h n h' n'->Q (.i .i64 (bC s.ah a)) h' n'):CW (EF (K+8)) 115 [.agg (v.av C),.agg (tv.av s),.i .i64 i] h n Q:=by
 have hil:=(List.getElem?_eq_some_iff.1 ha).1;have hst:=(eF C s).1 hs;have hr:a.role≠ -1->0<=a.role/\a.role<s.ah.length:=by
  have:=((aA.ok hst.con).act (List.mem_of_getElem? ha)).role;rw[hst.lh];exact this
 refine aD aeA rfl ?_;repeat' (first|(simp (disch:=omega) only[go_sem,simprocAttr,ub.old,UD,CS.av,TS.av,hC.acts.len,hs])|(simp (disch:=omega) only[go_sem,simprocAttr,UD,CS.av,TS.av,hC.acts.len,hs])|((first|rw[aU]|rw[bQ]);with_reducible refine iD _ (hC.up aH) ho (hS.up aH) λh2 n2 u2=>?_;(first|replace ub:=Up.trans ub (Up.trans aH u2)|have ub:=u2);have hle:=ub.le;clear u2)|((first|rw[aU]|rw[bQ]);with_reducible refine Ir _ (hC.up aH) (hS.up aH) h0 ha hr λh2 n2 u2=>?_;(first|replace ub:=Up.trans ub (Up.trans aH u2)|have ub:=u2);have hle:=ub.le;clear u2)|(refine aR ?_ ?_<;>(intro hb hd;rw[hb];clear hb))|(with_reducible refine aj ?_))
 .exfalso;omega
 .exfalso;omega
 .exact hQ _ _ aH
end
end
section
noncomputable section
set_option maxRecDepth 1000000
set_option maxHeartbeats 4000000
def m45:MC:=vF 45
def c45:=vT 45 m45
def Y1:MC:=vF 176
def aeG:=vT 176 Y1
def m97:MC:=vF 97
def c97:=vT 97 m97
def m98:MC:=vF 98
def c98:=vT 98 m98
def m96:MC:=vF 96
def c96:=vT 96 m96
def Y2:MC:=vF 101
def aeH:=vT 101 Y2
def Y3:MC:=vF 102
def aeI:=vT 102 Y3
def Y4:MC:=vF 100
def aeJ:=vT 100 Y4
def UJ:MC:=vF 179
def aeK:=vT 179 UJ
def m46:MC:=vF 46
def c46:=vT 46 m46
def m17:MC:=vF 17
def c17:=vT 17 m17
def m18:MC:=vF 18
def c18:=vT 18 m18
def m48:MC:=vF 48
def c48:=vT 48 m48
def UK:MC:=vB 48 (jF 48 0)
def UL:=vU 48 (jF 48 0) UK
def F6:MC:=vB 48 (jG 48 0)
def UM:=vU 48 (jG 48 0) F6
def m49:MC:=vF 49
def c49:=vT 49 m49
def UN:MC:=vB 49 (jF 49 0)
def UO:=vU 49 (jF 49 0) UN
def F7:MC:=vB 49 (jG 49 0)
def UQ:=vU 49 (jG 49 0) F7
def UR:MC:=vB 49 (jF 49 1)
def UU:=vU 49 (jF 49 1) UR
def F8:MC:=vB 49 (jG 49 1)
def UW:=vU 49 (jG 49 1) F8
def Y5:MC:=vF 104
def aeO:=vT 104 Y5
def Qo:MC:=vB 104 (jF 104 0)
def Qp:=vU 104 (jF 104 0) Qo
def Iu:MC:=vB 104 (jG 104 0)
def Qq:=vU 104 (jG 104 0) Iu
def m99:MC:=vF 99
def c99:=vT 99 m99
def Y6:MC:=vF 178
def aeQ:=vT 178 Y6
end
end
section
noncomputable section
def lJ(st e w:Nat):MC:=(.seq (.reg [⟨none,(.mv (.c (.k 1))),(.k 2)⟩]) (.seq (.seq (.reg [⟨none,(.mv (.s 0)),.l⟩,⟨none,(.bin .eql st (.v 0) (.c (.k 1))),(.k 4)⟩]) (.cond (.s 4) (.seq (.reg [⟨none,(.mv (.c (.k 1))),(.k 2)⟩]) .ret) .skip)) (.seq (.reg [⟨none,(.KO e 0 [] []),.l⟩,⟨none,(.mv (.s 0)),.l⟩,⟨none,(.app e w (.v 1) (.v 0)),.l⟩,⟨none,(.mv (.v 0)),(.k 2)⟩]) .ret)))
structure Ed(st:Nat):Prop where
 sl:∀b l o k c,(dY Tryz.prog st .eql).run (.sl b l o k c) (.k 1)=some (.b false)
 es:∀a c,(dY Tryz.prog st .eql).run (.es a c) (.k 1)=some (.b false)
 nl:(dY Tryz.prog st .eql).run (.k 1) (.k 1)=some (.b true)
theorem Qr{h:AH}{n e w b t:Nat}{y:AV}{α:Type}{c:α->List AV}{l:List α}(hb:h.get b=some (.row t []))(hy:SL h n w y c l)(hl:l.length<=1048576)(h0:l≠[]):(jr e w).run h n (.sl b 0 0 0 (some 0)) y= .ok (.sl n 0 0 l.length none) (h.set n (.row e (l.flatMap c))) (n+1):=by
 have hsrc:je h w 0 (.sl b 0 0 0 (some 0))=some []:=by
  show bnd (iA (h.get b) 0 _) (λr=>lQ (Nat.mul 0 w) r)=_;rw[hb];show lQ (0*w) (qL 0 [])=_;rw[qA,if_pos (by omega)];simp
 have hpos:0<l.length:=List.length_pos_iff.2 h0;rw[Io,hy.ap.1];show aM (je h w 0 (.sl b 0 0 0 (some 0))) _=_;rw[hsrc];show aM (je h w l.length y) _=_;rw[hy.ap.2];show bc (Nat.ble (Nat.add 0 l.length) 1048576) (bc (Nat.ble (Nat.add 0 l.length) 0) _ (mk h n (.sl n 0 0 (Nat.add 0 l.length) none) (.row e (Da [] (l.flatMap c))))) .bad=_;have hf:Nat.ble l.length 0=false:=by
  cases hq:Nat.ble l.length 0 with
  |false=>rfl
  |true=>have:=Nat.le_of_ble_eq_true hq;omega
 rw[show Nat.add 0 l.length=l.length from Nat.zero_add _,Nat.ble_eq_true_of_le hl,bF,hf,gu];rfl
theorem eG{g st e w:Nat}(hc:xO Tryz.prog sl0 g=some ([true],lJ st e w,[(.t 2)]))(hn:Ed st)(K:Nat){h:AH}{n:Nat}{Q:AV->AH->Nat->Prop}{x:AV}{α:Type}{c:α->List AV}{a:List α}(hx:SL h n w x c a)(hl:a.length<=1000000)
 (hQ:∀v' h' n',Up h n h' n'->Gr h' n' e w v' c a->(∀x,blk v' x->n<=x)->(a≠[]->∃b,v'= .sl b 0 0 a.length none/\h'.get b=some (.row e (a.flatMap c))/\n<=b/\b<n')->Q v' h' n')(hg:Nat.beq g KS=false:=by rfl)(hg':Nat.beq g OY=false:=by rfl):CW (EF (K+1)) g [x] h n Q:=by
 obtain⟨hw,hs⟩:=hx;have hx:SL h n w x c a:=⟨hw,hs⟩;have hcase:(x= .k 1/\a=[])\/(dY Tryz.prog st .eql).run x (.k 1)=some (.b false):=by
  rcases hs with⟨rfl,e2,e3⟩|⟨b,lo,o,cp,rfl,_⟩|⟨a0,c0,rfl,_⟩
  .exact .inl ⟨rfl,List.length_eq_zero_iff.1 e2⟩
  .exact .inr (hn.sl _ _ _ _ _)
  .exact .inr (hn.es _ _)
 rcases hcase with⟨rfl,rfl⟩|hv
 .refine aD hc rfl ?_ hg hg'
  repeat' (first|(simp (disch:=omega) only[go_sem,simprocAttr,lJ,hn.nl])|(refine aR ?_ ?_<;>(intro hb hd;rw[hb];clear hb))|(with_reducible refine aj ?_))
  exact hQ _ _ _ aH (Gr.nil hw) (λx hx=>absurd hx eX) λh=>absurd rfl h
 .refine aD hc rfl ?_ hg hg'
  simp (disch:=omega) only[go_sem,simprocAttr,lJ,hv];have u1:Up h n (Tr.set h n (.row e [])) (n+1):=by exact aH
  by_cases h0:a=[]
  .subst h0
   have g0:Gr (Tr.set h n (.row e [])) (n+1) e w (.sl n 0 0 0 (some 0)) c []:=Gr.of (l:=[]) hw (Nat.lt_succ_self n) aG (by simp) (Nat.le_refl _) (by simp);obtain⟨v',h',n',r1,r2,r3,r4,r5⟩:=g0.app (hx.up u1).ap.1 (hx.up u1).ap.2 (by simp);rw[List.nil_append]at r2;try simp only[List.length_nil]at r1
   simp (disch:=omega) only[go_sem,simprocAttr,r1];refine hQ _ _ _ ⟨by omega,λy hy=>by rw[r4 y (by omega) (λhb=>by rw[dO]at hb;omega),ay (by omega)]⟩ r2 (λy hy=>?_) λh=>absurd rfl h;rcases r5 y hy with hb|hb
   .rw[dO]at hb;omega
   .omega
  .simp (disch:=omega) only[go_sem,simprocAttr,Qr (e:=e) (aG (t:=h) (n:=n) (v:=AO.row e [])) (hx.up u1) (by omega) h0]
   refine hQ _ _ _ aH ⟨hw,.inr ⟨_,none,_,rfl,Nat.lt_succ_self _,aG,by rw[<-bJ hw,List.take_length],by rw[bJ hw];exact Nat.le_refl _,λ_=>bJ hw _,λk hk=>by cases hk⟩⟩ (λy hy=>?_) λ_=>⟨_,rfl,aG,by omega,by omega⟩;rw[dO]at hy;omega
theorem zB:Ed 22:=⟨λ_ _ _ _ _=>by kernel_rfl,λ_ _=>by kernel_rfl,by kernel_rfl⟩
theorem Sr:Ed 40:=⟨λ_ _ _ _ _=>by kernel_rfl,λ_ _=>by kernel_rfl,by kernel_rfl⟩
theorem Y7:Ed 41:=⟨λ_ _ _ _ _=>by kernel_rfl,λ_ _=>by kernel_rfl,by kernel_rfl⟩
theorem UY:xO Tryz.prog sl0 45=some ([true],lJ 22 3 1,[(.t 2)]):=by kernel_rfl
theorem Y8:xO Tryz.prog sl0 229=some ([true],lJ 40 4 1,[(.t 2)]):=by kernel_rfl
theorem aeR:xO Tryz.prog sl0 230=some ([true],lJ 41 144 5,[(.t 2)]):=by kernel_rfl
end
end
section
noncomputable section
def bK(l:List au)(i:Nat):au:=l.getD i ⟨0,0,0,0,false⟩
theorem gG{l:List au}{i:Nat}(h:i<l.length):l[i]?=some (bK l i):=by
 unfold bK;rw[List.getD_eq_getElem?_getD,List.getElem?_eq_getElem h];rfl
abbrev ci(x:Int):List AV:=[.i .i64 x]
abbrev cb(x:Bool):List AV:=[.b x]
section
variable {P:Program} {S:SK} {d:MD} {r:List MR} {l':List AV} {s:List It} {f:FT} {h:AH} {n:Nat} {F:Fm} {Q:PQ}
theorem bT{w b len i:Nat}{c:Option Nat}(hi:i<len):R_ S w (some (.sl b 0 0 len c)) (some (.i .i64 (i:Nat))) d r l' s f h n F Q=mV S d (.p b (i*w)) r l' s f h n F Q:=by
 show IA w (.sl b 0 0 len c) i (λp=>mV S d p r l' s f h n F Q)=_;apply propext;constructor
 .rintro⟨b',lo,o,m,c',e,h1,h2,q⟩
  cases e
  simpa using q
 .intro q
  exact⟨b,0,0,len,c,rfl,by omega,by omega,by simpa using q⟩
theorem bU{w b len i:Nat}{c:Option Nat}(hi:i<len):fu w (some (.sl b 0 0 len c)) (some (.i .i64 (i:Nat)))=some (.p b (i*w)):=by
 show(if 0<=(i:Int)/\(i:Int)<(len:Nat)then some (AV.p b (0+(i:Int).toNat*w))else none)=_;rw[if_pos ⟨by omega,by omega⟩];simp
theorem uI{α:Type}{c:α->List AV}{w e:Nat}(hw:∀a,(c a).length=w){l:List α}{i:Nat}{a:α}(hi:l[i]?=some a){j:Nat}(hj:j<w):qQ (some (.row e (l.flatMap c))) (i*w+j) none=(c a)[j]?:=vN hw hi hj
theorem MW{α:Type}{c:α->List AV}{w e:Nat}(hw:∀a,(c a).length=w){l:List α}{i:Nat}{a:α}(hi:l[i]?=some a):qQ (some (.row e (l.flatMap c))) (i*w) (some w)=some (.agg (c a)):=by
 have hlt:=(List.getElem?_eq_some_iff.1 hi).1;have hm:(i+1)*w<=l.length*w:=Nat.mul_le_mul_right w hlt;rw[Nat.succ_mul]at hm;show(if i*w+w<=(l.flatMap c).length then some (AV.agg (((l.flatMap c).drop (i*w)).take w))else none)=_;rw[if_pos (by rw[bJ hw];omega),nH hw hi]
section
variable {e i:Nat} {l:List au} {x:Int} {b:Bool}
theorem aeS(h:i<l.length):qQ (some (.row e (l.flatMap au.av))) (i*5) none=some (.i .i64 (bK l i).status):=uI (c:=au.av) (w:=5) (λ_=>rfl) (gG h) (j:=0) (by omega)
theorem Y9(h:i<l.length):qQ (some (.row e (l.flatMap au.av))) (i*5+1) none=some (.i .i64 (bK l i).left):=uI (c:=au.av) (w:=5) (λ_=>rfl) (gG h) (by omega)
theorem aeT(h:i<l.length):qQ (some (.row e (l.flatMap au.av))) (i*5+2) none=some (.i .i64 (bK l i).got):=uI (c:=au.av) (w:=5) (λ_=>rfl) (gG h) (by omega)
theorem Y_(h:i<l.length):qQ (some (.row e (l.flatMap au.av))) (i*5+3) none=some (.i .i64 (bK l i).aS):=uI (c:=au.av) (w:=5) (λ_=>rfl) (gG h) (by omega)
theorem UZ(h:i<l.length):qQ (some (.row e (l.flatMap au.av))) (i*5+4) none=some (.b (bK l i).paused):=uI (c:=au.av) (w:=5) (λ_=>rfl) (gG h) (by omega)
theorem rdm(h:i<l.length):qQ (some (.row e (l.flatMap au.av))) (i*5) (some 5)=some (.agg (bK l i).av):=MW (c:=au.av) (w:=5) (λ_=>rfl) (gG h)
theorem mF{l:List au}{m:au}{i j:Nat}{v:AV}(h:i<l.length)(hm:m.av=(bK l i).av.set j v)(hj:j<5):fE (some (.row e (l.flatMap au.av))) (i*5+j) (some [v])=some (.row e ((l.set i m).flatMap au.av)):=by
 have h1:=qH (e:=e) (c:=au.av) (w:=5) (λ_=>rfl) (l:=l) (i:=i) (a:=m) h;unfold fE at h1⊢;dsimp only at h1⊢;have YX:(i+1)*5<=l.length*5:=Nat.mul_le_mul_right 5 h;have hfl:(l.flatMap au.av).length=l.length*5:=bJ (c:=au.av) (w:=5) (λ_=>rfl) l;have hat:((l.flatMap au.av).drop (i*5)).take 5=(bK l i).av:=nH (c:=au.av) (w:=5) (λ_=>rfl) (gG h);have key:oz [v] (i*5+j) (l.flatMap au.av)=oz m.av (i*5) (l.flatMap au.av):=by
  unfold oz;rw[if_pos (by rw[hfl];simp;omega),if_pos (by rw[hfl];show i*5+5<=_;omega)];congr 1;rw[hm];generalize hL:l.flatMap au.av=L at*;have Ee:(bK l i).av.length=5:=rfl;have hsplit:L=L.take (i*5)++((bK l i).av++L.drop (i*5+5)):=by
   rw[<-hat,<-List.drop_drop,List.take_append_drop,List.take_append_drop]
  rw[List.length_set,Ee];show L.take (i*5+j)++v::L.drop (i*5+j+1)=L.take (i*5)++((bK l i).av.set j v++L.drop (i*5+5));have e1:L.set (i*5+j) v=L.take (i*5+j)++v::L.drop (i*5+j+1):=by rw[List.set_eq_take_append_cons_drop,if_pos (by omega)]
  rw[<-e1];have e2:(L.take (i*5)++((bK l i).av++L.drop (i*5+5))).set (i*5+j) v=L.take (i*5)++((bK l i).av.set j v++L.drop (i*5+5)):=by
   rw[List.set_append,List.length_take,Nat.min_eq_left (by omega),if_neg (by omega),List.set_append,show i*5+j - i*5=j by omega,if_pos (by rw[Ee];omega)]
  rw[<-e2,<-hsplit]
 rw[key];exact h1
theorem Za(h:i<l.length):fE (some (.row e (l.flatMap au.av))) (i*5) (some [.i .i64 x])=some (.row e ((l.set i ⟨x,(bK l i).left,(bK l i).got,(bK l i).aS,(bK l i).paused⟩).flatMap au.av)):=mF (j:=0) h rfl (by omega)
theorem Zb(h:i<l.length):fE (some (.row e (l.flatMap au.av))) (i*5+1) (some [.i .i64 x])=some (.row e ((l.set i ⟨(bK l i).status,x,(bK l i).got,(bK l i).aS,(bK l i).paused⟩).flatMap au.av)):=mF h rfl (by omega)
theorem aeU(h:i<l.length):fE (some (.row e (l.flatMap au.av))) (i*5+2) (some [.i .i64 x])=some (.row e ((l.set i ⟨(bK l i).status,(bK l i).left,x,(bK l i).aS,(bK l i).paused⟩).flatMap au.av)):=mF h rfl (by omega)
theorem aeV(h:i<l.length):fE (some (.row e (l.flatMap au.av))) (i*5+3) (some [.i .i64 x])=some (.row e ((l.set i ⟨(bK l i).status,(bK l i).left,(bK l i).got,x,(bK l i).paused⟩).flatMap au.av)):=mF h rfl (by omega)
theorem Zc(h:i<l.length):fE (some (.row e (l.flatMap au.av))) (i*5+4) (some [.b b])=some (.row e ((l.set i ⟨(bK l i).status,(bK l i).left,(bK l i).got,(bK l i).aS,b⟩).flatMap au.av)):=mF h rfl (by omega)
theorem stm(h:i<l.length)(m:au):fE (some (.row e (l.flatMap au.av))) (i*5) (some m.av)=some (.row e ((l.set i m).flatMap au.av)):=qH (c:=au.av) (w:=5) (λ_=>rfl) h
theorem Sv(h:i<l.length){m:au}:qQ (some (.row e ((l.set i m).flatMap au.av))) (i*5+1) none=some (.i .i64 m.left):=uI (c:=au.av) (w:=5) (λ_=>rfl) (List.getElem?_set_self h) (by omega)
theorem Zd(h:i<l.length){m:au}:qQ (some (.row e ((l.set i m).flatMap au.av))) (i*5+2) none=some (.i .i64 m.got):=uI (c:=au.av) (w:=5) (λ_=>rfl) (List.getElem?_set_self h) (by omega)
theorem vZ{m m':au}{j:Nat}{v:AV}(h:i<l.length)(hm:m'.av=m.av.set j v)(hj:j<5):fE (some (.row e ((l.set i m).flatMap au.av))) (i*5+j) (some [v])=some (.row e ((l.set i m').flatMap au.av)):=by
 have hs:bK (l.set i m) i=m:=by unfold bK;rw[List.getD_eq_getElem?_getD,List.getElem?_set_self h];rfl
 have:=mF (e:=e) (l:=l.set i m) (m:=m') (i:=i) (j:=j) (v:=v) (by rw[List.length_set];exact h) (by rw[hs];exact hm) hj;rw[this,show(l.set i m).set i m'=l.set i m' by simp]
theorem Sw(h:i<l.length){m:au}:fE (some (.row e ((l.set i m).flatMap au.av))) (i*5) (some [.i .i64 x])=some (.row e ((l.set i ⟨x,m.left,m.got,m.aS,m.paused⟩).flatMap au.av)):=vZ (j:=0) h rfl (by omega)
theorem Sy(h:i<l.length){m:au}:fE (some (.row e ((l.set i m).flatMap au.av))) (i*5+1) (some [.i .i64 x])=some (.row e ((l.set i ⟨m.status,x,m.got,m.aS,m.paused⟩).flatMap au.av)):=vZ h rfl (by omega)
theorem Ze(h:i<l.length){m:au}:fE (some (.row e ((l.set i m).flatMap au.av))) (i*5+4) (some [.b b])=some (.row e ((l.set i ⟨m.status,m.left,m.got,m.aS,b⟩).flatMap au.av)):=vZ h rfl (by omega)
theorem uJ(h:i<l.length)(m:au):bK (l.set i m) i=m:=by unfold bK;rw[List.getD_eq_getElem?_getD,List.getElem?_set_self h];rfl
theorem set_set{α:Type}(l:List α)(i:Nat)(a b:α):(l.set i a).set i b=l.set i b:=by simp
end
end
structure UX(X:Nat->Prop)(h:AH)(n:Nat)(h':AH)(n':Nat):Prop where
 le:n<=n'
 old:∀x,x<n->¬X x->h'.get x=h.get x
section
variable {X:Nat->Prop} {h h1 h2:AH} {n n1 n2:Nat}
theorem UX.refl:UX X h n h n:=⟨Nat.le_refl _,λ_ _ _=>rfl⟩
theorem UX.trans(a:UX X h n h1 n1)(b:UX X h1 n1 h2 n2):UX X h n h2 n2:=⟨Nat.le_trans a.le b.le,λx hx hX=>(b.old x (Nat.lt_of_lt_of_le hx a.le) hX).trans (a.old x hx hX)⟩
theorem UX.up(u:Up h n h1 n1):UX X h n h1 n1:=⟨u.le,λx hx _=>u.old x hx⟩
theorem UX.set{b m:Nat}{o:AO}(a:UX X h n h1 n1)(hb:X b\/n<=b)(hm:n1<=m):UX X h n (h1.set b o) m:=⟨Nat.le_trans a.le hm,λx hx hX=>by rw[ay (by rintro rfl;rcases hb with e|e;exact hX e;omega)];exact a.old x hx hX⟩
theorem UX.U0(a:UX X h n h1 n1)(hX:∀x,X x->n<=x):Up h n h1 n1:=⟨a.le,λx hx=>a.old x hx λe=>by have:=hX x e;omega⟩
end
structure WB where
 B:Nat
 g:Nat
 bh:Nat
 bu:Nat
 bm:Nat
 ch:Option Nat
 cu:Option Nat
 cm:Option Nat
def WB.X(b:WB)(x:Nat):Prop:=x=b.g\/x=b.bh\/x=b.bu\/x=b.bm
@[reducible] def WB.tv (b:WB) (s:aI):TS:=⟨.sl b.bh 0 0 s.ah.length b.ch,.sl b.bu 0 0 s.used.length b.cu,.sl b.bm 0 0 s.marks.length b.cm⟩
@[reducible] def WB.cells (b:WB) (v:CS) (C:aA) (s:aI):List AV:=[.i .i64 C.aC,v.h,v.u,v.a,v.k,.i .i64 C.days,v.o,.i .i64 s.day,.sl b.bh 0 0 s.ah.length b.ch,.sl b.bu 0 0 s.used.length b.cu,.sl b.bm 0 0 s.marks.length b.cm]
structure Wk(h:AH)(n:Nat)(b:WB)(v:CS)(C:aA)(s:aI):Prop where
 row:h.get b.g=some (.row 142 (b.cells v C s))
 hs:h.get b.bh=some (.row 3 (s.ah.flatMap ci))
 us:h.get b.bu=some (.row 4 (s.used.flatMap cb))
 ms:h.get b.bm=some (.row 144 (s.marks.flatMap au.av))
 lg:b.g<n
 lh:b.bh<n
 lu:b.bu<n
 lm:b.bm<n
 kh:∀k,b.ch=some k->s.ah.length<=k
 ku:∀k,b.cu=some k->s.used.length<=k
 km:∀k,b.cm=some k->s.marks.length<=k
 ge:b.B<=b.g/\b.B<=b.bh/\b.B<=b.bu/\b.B<=b.bm
 con:Kp (λx=>b.B<=x) h n λh n=>aZ h n v C
section
variable {h h':AH} {n n':Nat} {b:WB} {v:CS} {C:aA} {s:aI} {Q:AV->AH->Nat->Prop}
theorem Wk.ne(w:Wk h n b v C s):b.g≠b.bh/\b.g≠b.bu/\b.g≠b.bm/\b.bh≠b.bu/\b.bh≠b.bm/\b.bu≠b.bm:=by
 refine⟨λe=>?_,λe=>?_,λe=>?_,λe=>?_,λe=>?_,λe=>?_⟩
 .have:=w.row;rw[e,w.hs]at this;cases this
 .have:=w.row;rw[e,w.us]at this;cases this
 .have:=w.row;rw[e,w.ms]at this;cases this
 .have:=w.hs;rw[e,w.us]at this;cases this
 .have:=w.hs;rw[e,w.ms]at this;cases this
 .have:=w.us;rw[e,w.ms]at this;cases this
theorem Wk.jo(w:Wk h n b v C s):aZ h n v C:=w.con.use
theorem Wk.st(w:Wk h n b v C s):cZ h n (b.tv s) s:=
 ⟨SL.of (λ_=>rfl) w.lh w.hs rfl rfl w.kh,SL.of (λ_=>rfl) w.lu w.us rfl rfl w.ku,SL.of (λ_=>rfl) w.lm w.ms rfl rfl w.km⟩
theorem Wk.on(w:Wk h n b v C s)(hn:n<=n')(e:∀x,x<n->h'.get x=h.get x):Wk h' n' b v C s where
 row:=(e _ w.lg).trans w.row
 hs:=(e _ w.lh).trans w.hs
 us:=(e _ w.lu).trans w.us
 ms:=(e _ w.lm).trans w.ms
 lg:=Nat.lt_of_lt_of_le w.lg hn
 lh:=Nat.lt_of_lt_of_le w.lh hn
 lu:=Nat.lt_of_lt_of_le w.lu hn
 lm:=Nat.lt_of_lt_of_le w.lm hn
 kh:=w.kh
 ku:=w.ku
 km:=w.km
 ge:=w.ge
 con:=w.con.on hn λx hx _=>e x hx
theorem Wk.up(w:Wk h n b v C s)(u:Up h n h' n'):Wk h' n' b v C s:=w.on u.le u.old
theorem Wk.F9(w:Wk h n b v C s){x:Nat}{o:AO}(hx:¬b.X x)(hB:b.B<=x):Wk (h.set x o) n b v C s where
 row:=(ay λe=>hx (.inl e.symm)).trans w.row
 hs:=(ay λe=>hx (.inr (.inl e.symm))).trans w.hs
 us:=(ay λe=>hx (.inr (.inr (.inl e.symm)))).trans w.us
 ms:=(ay λe=>hx (.inr (.inr (.inr e.symm)))).trans w.ms
 lg:=w.lg
 lh:=w.lh
 lu:=w.lu
 lm:=w.lm
 kh:=w.kh
 ku:=w.ku
 km:=w.km
 ge:=w.ge
 con:=w.con.set (.inl hB) (Nat.le_refl _)
theorem Wk.lt(w:Wk h n b v C s){x:Nat}(hx:b.X x):x<n:=by
 rcases hx with rfl|rfl|rfl|rfl
 .exact w.lg
 .exact w.lh
 .exact w.lu
 .exact w.lm
theorem Wk.qV(w:Wk h n b v C s){ms:List au}(hl:ms.length=s.marks.length):Wk (h.set b.bm (.row 144 (ms.flatMap au.av))) n b v C ⟨s.day,s.ah,s.used,ms⟩:=by
 obtain⟨n1,n2,n3,n4,n5,n6⟩:=w.ne;have hr:=w.row;refine⟨?_,(ay n5).trans w.hs,(ay n6).trans w.us,aG,w.lg,w.lh,w.lu,w.lm,w.kh,w.ku,λk hk=>by rw[hl];exact w.km k hk,w.ge,w.con.set (.inl w.ge.2.2.2) (Nat.le_refl _)⟩;rw[ay n3,hr];simp only[WB.cells,hl]
theorem Wk.setH(w:Wk h n b v C s){hs:List Int}(hl:hs.length=s.ah.length):Wk (h.set b.bh (.row 3 (hs.flatMap ci))) n b v C ⟨s.day,hs,s.used,s.marks⟩:=by
 obtain⟨n1,n2,n3,n4,n5,n6⟩:=w.ne;have hr:=w.row;refine⟨?_,aG,(ay n4.symm).trans w.us,(ay n5.symm).trans w.ms,w.lg,w.lh,w.lu,w.lm,λk hk=>by rw[hl];exact w.kh k hk,w.ku,w.km,w.ge,w.con.set (.inl w.ge.2.1) (Nat.le_refl _)⟩;rw[ay n1,hr];simp only[WB.cells,hl]
theorem Wk.Zf(w:Wk h n b v C s){us:List Bool}(hl:us.length=s.used.length):Wk (h.set b.bu (.row 4 (us.flatMap cb))) n b v C ⟨s.day,s.ah,us,s.marks⟩:=by
 obtain⟨n1,n2,n3,n4,n5,n6⟩:=w.ne;have hr:=w.row;refine⟨?_,(ay n4).trans w.hs,aG,(ay n6.symm).trans w.ms,w.lg,w.lh,w.lu,w.lm,w.kh,λk hk=>by rw[hl];exact w.ku k hk,w.km,w.ge,w.con.set (.inl w.ge.2.2.1) (Nat.le_refl _)⟩;rw[ay n2,hr];simp only[WB.cells,hl]
theorem Wk.aeX(w:Wk h n b v C s){d:Int}:Wk (h.set b.g (.row 142 (b.cells v C ⟨d,s.ah,s.used,s.marks⟩))) n b v C ⟨d,s.ah,s.used,s.marks⟩:=by
 obtain⟨n1,n2,n3,n4,n5,n6⟩:=w.ne;exact⟨aG,(ay n1.symm).trans w.hs,(ay n2.symm).trans w.us,(ay n3.symm).trans w.ms,w.lg,w.lh,w.lu,w.lm,w.kh,w.ku,w.km,w.ge,w.con.set (.inl w.ge.1) (Nat.le_refl _)⟩
theorem WB.ux(b:WB){h:AH}{n:Nat}{x:Nat}{o:AO}(hx:b.X x):UX b.X h n (h.set x o) n:=UX.refl.set (.inl hx) (Nat.le_refl _)
theorem zC(K:Nat)(w:Wk h n b v C s){i:Nat}(hi:i<s.marks.length)(st:Int)(hQ:∀h' n',Wk h' n' b v C ⟨s.day,s.ah,s.used,s.marks.set i ((bK s.marks i).ended st)⟩->UX b.X h n h' n'->Q (.bN []) h' n'):CW (EF (K+1)) 176 [.p b.g 0,.i .i64 (i:Nat),.i .i64 st] h n Q:=by
 obtain⟨n1,n2,n3,n4,n5,n6⟩:=w.ne;refine aD aeG rfl ?_;repeat' (first|(simp (disch:=omega) only[go_sem,simprocAttr,Y1,w.row,w.ms,WB.cells,bU hi,Za hi,Sy hi,Ze hi])|(refine aR ?_ ?_<;>(intro hb hd;rw[hb];clear hb))|(with_reducible refine aj ?_))
 refine hQ _ _ (((w.qV (ms:=s.marks.set i ⟨st,(bK s.marks i).left,(bK s.marks i).got,(bK s.marks i).aS,(bK s.marks i).paused⟩) ?_).qV (ms:=s.marks.set i ⟨st,0,(bK s.marks i).got,(bK s.marks i).aS,(bK s.marks i).paused⟩) ?_).qV ?_) (((UX.refl.set (.inl (.inr (.inr (.inr rfl)))) (Nat.le_refl _)).set (.inl (.inr (.inr (.inr rfl)))) (Nat.le_refl _)).set (.inl (.inr (.inr (.inr rfl)))) (Nat.le_refl _))<;>simp
end
end
end
noncomputable section
theorem aZ.Sz{h:AH}{n:Nat}{v:CS}{C:aA}(hs:aZ h n v C){i:Nat}(hi:i<C.clauses.length):
 ∃b o a t,fu 16 (some v.k) (some (.i .i64 (i:Nat)))=some (.p b o)/\C.clauses[i]?=some a/\b<n/\SL h n 2 t bO.av a.start/\RD h b o 16 (a.av t):=by
 obtain⟨ss,e1,e2,e3⟩:=hs.clauses;obtain⟨a,ha⟩:∃a,C.clauses[i]?=some a:=⟨C.clauses[i],List.getElem?_eq_some_iff.2 ⟨hi,rfl⟩⟩;obtain⟨t,ht⟩:∃t,ss[i]?=some t:=⟨ss[i],List.getElem?_eq_some_iff.2 ⟨by omega,rfl⟩⟩;have hz:(C.clauses.zip ss)[i]?=some (a,t):=by rw[List.getElem?_zip_eq_some];exact⟨ha,ht⟩
 have hl:(C.clauses.zip ss).length=C.clauses.length:=by simp[e1]
 have hS:SL h n 16 v.k (λp:aF×AV=>p.1.av p.2) (C.clauses.zip ss):=⟨λ_=>rfl,by rw[hl];exact e2⟩;obtain⟨b,o,p,h1,h2,h3,h4⟩:=hS.fu (k:=(i:Nat)) (by omega) (by omega) (by omega);rw[show((i:Nat):Int).toNat=i by omega,hz]at h2;cases h2
 exact⟨b,o,a,t,h1,ha,h3,e3 i a t ha ht,h4⟩
theorem aJ{S:SK}{w:Nat}{x:AV}{k:Int}{d:MD}{r:List MR}{l:List AV}{s:List It}{f:FT}{h:AH}{n:Nat}{F:Fm}{Q:PQ}{p:AV}(e:fu w (some x) (some (.i .i64 k))=some p):R_ S w (some x) (some (.i .i64 k)) d r l s f h n F Q=mV S d p r l s f h n F Q:=by
 show IA w x k (λp=>mV S d p r l s f h n F Q)=_;unfold fu at e;split at e
 case h_2=>cases e
 rename_i b lo o m c j k' e1 e2;cases e1
 cases e2
 split at e
 case isFalse=>cases e
 rename_i hk;cases e
 apply propext;constructor
 .rintro⟨b',lo',o',m',c',e,_,_,q⟩
  cases e
  exact q
 .intro q
  exact⟨b,lo,o,m,c,rfl,hk.1,hk.2,q⟩
section
variable {h h':AH} {n n':Nat} {b:WB} {v:CS} {C:aA} {s:aI} {Q:AV->AH->Nat->Prop}
abbrev aI.eH(s:aI)(ms:List au):aI:=⟨s.day,s.ah,s.used,ms⟩
abbrev Zg(b:WB)(v:CS)(C:aA)(s:aI)(i:Nat)(m:au)(h:AH)(n:Nat)(Q:AV->AH->Nat->Prop):Prop:=∀h' n',Wk h' n' b v C (s.eH (s.marks.set i m))->UX b.X h n h' n'->Q (.bN []) h' n'
theorem WB.xm(b:WB):b.X b.bm:=.inr (.inr (.inr rfl))
theorem Cr(K:Nat)(w:Wk h n b v C s){i:Nat}(hi:i<s.marks.length)(hQ:Zg b v C s i ((bK s.marks i).ended 3) h n Q):CW (EF (K+2)) 97 [.p b.g 0,.i .i64 (i:Nat)] h n Q:=by
 refine aD c97 rfl ?_;repeat' (first|(simp (disch:=omega) only[go_sem,simprocAttr,m97])|(refine aR ?_ ?_<;>(intro hb hd;rw[hb];clear hb))|(with_reducible refine aj ?_))
 rw[aU];refine zC _ w hi 3 λh' n' w' u=>?_;repeat' (first|(simp (disch:=omega) only[go_sem,simprocAttr])|(refine aR ?_ ?_<;>(intro hb hd;rw[hb];clear hb))|(with_reducible refine aj ?_))
 exact hQ _ _ w' u
theorem Ef(K:Nat)(w:Wk h n b v C s){i:Nat}(hi:i<s.marks.length)(hQ:Zg b v C s i ((bK s.marks i).ended 5) h n Q):CW (EF (K+2)) 98 [.p b.g 0,.i .i64 (i:Nat)] h n Q:=by
 refine aD c98 rfl ?_;repeat' (first|(simp (disch:=omega) only[go_sem,simprocAttr,m98])|(refine aR ?_ ?_<;>(intro hb hd;rw[hb];clear hb))|(with_reducible refine aj ?_))
 rw[aU];refine zC _ w hi 5 λh' n' w' u=>?_;repeat' (first|(simp (disch:=omega) only[go_sem,simprocAttr])|(refine aR ?_ ?_<;>(intro hb hd;rw[hb];clear hb))|(with_reducible refine aj ?_))
 exact hQ _ _ w' u
theorem Wk.same(w:Wk h n b v C s){i:Nat}(hi:i<s.marks.length):s.eH (s.marks.set i (bK s.marks i))=s:=by
 obtain⟨d,hs,us,ms⟩:=s;show aI.mk d hs us (ms.set i (bK ms i))=_;congr 1;refine List.ext_getElem? λj=>?_;rw[List.getElem?_set];by_cases e:i=j
 .subst e;rw[if_pos rfl,if_pos hi];exact(gG hi).symm
 .rw[if_neg e]
theorem Ga(K:Nat)(w:Wk h n b v C s){i:Nat}(hi:i<s.marks.length)(hQ:Zg b v C s i (bK s.marks i).violated h n Q):CW (EF (K+2)) 102 [.p b.g 0,.i .i64 (i:Nat)] h n Q:=by
 refine aD aeI rfl ?_;repeat' (first|(simp (disch:=omega) only[go_sem,simprocAttr,Y3,w.row,w.ms,WB.cells,bT hi,UZ hi])|(refine aR ?_ ?_<;>(intro hb hd;rw[hb];clear hb))|(with_reducible refine aj ?_))
 .rw[aU]
  refine zC _ w hi 4 λh' n' w' u=>?_;repeat' (first|(simp (disch:=omega) only[go_sem,simprocAttr])|(refine aR ?_ ?_<;>(intro hb hd;rw[hb];clear hb))|(with_reducible refine aj ?_))
  refine hQ _ _ ?_ u;unfold au.violated;simp_all
 .refine hQ _ _ ?_ UX.refl
  unfold au.violated;rw[hd,cond_true,w.same hi];exact w
theorem Gb(K:Nat)(w:Wk h n b v C s){i:Nat}(hi:i<s.marks.length)(hg:(bK s.marks i).got<=1000000)(hg0: -1000000<=(bK s.marks i).got){k:aF}(hk:C.clauses[i]?=some k)(hQ:Zg b v C s i ((bK s.marks i).performed k.need) h n Q):CW (EF (K+2)) 101 [.p b.g 0,.i .i64 (i:Nat)] h n Q:=by
 obtain⟨n1,n2,n3,n4,n5,n6⟩:=w.ne;have w1:=w.qV (ms:=s.marks.set i ⟨(bK s.marks i).status,(bK s.marks i).left,(bK s.marks i).got+1,(bK s.marks i).aS,(bK s.marks i).paused⟩) (by simp);have u1:=b.ux (h:=h) (n:=n) (o:=.row 144 ((s.marks.set i ⟨(bK s.marks i).status,(bK s.marks i).left,(bK s.marks i).got+1,(bK s.marks i).aS,(bK s.marks i).paused⟩).flatMap au.av)) b.xm;obtain⟨cb,co,k',t,i1,i2,i3,i4,rd⟩:=w1.jo.Sz (i:=i) (List.getElem?_eq_some_iff.1 hk).1;rw[hk]at i2;cases i2;have hi1:i<(s.marks.set i ⟨(bK s.marks i).status,(bK s.marks i).left,(bK s.marks i).got+1,(bK s.marks i).aS,(bK s.marks i).paused⟩).length:=by simpa using hi
 have wid:gM .i64 ((bK s.marks i).got+1)=(bK s.marks i).got+1:=dN (by omega) (by omega);refine aD aeH rfl ?_;repeat' (first|(simp (disch:=omega) only[go_sem,simprocAttr,Y2,wid,w.row,w.ms,WB.cells,bT hi,bU hi,aeT hi,aeU hi,Zd hi,i1,rd.el,rd.hd])|(refine aR ?_ ?_<;>(intro hb hd;rw[hb];clear hb))|(with_reducible refine aj ?_))
 .rw[aU]
  refine zC _ w1 hi1 3 λh' n' w' u=>?_;repeat' (first|(simp (disch:=omega) only[go_sem,simprocAttr])|(refine aR ?_ ?_<;>(intro hb hd;rw[hb];clear hb))|(with_reducible refine aj ?_))
  refine hQ _ _ ?_ (u1.trans u);have e:(bK s.marks i).performed k.need=au.ended ⟨(bK s.marks i).status,(bK s.marks i).left,(bK s.marks i).got+1,(bK s.marks i).aS,(bK s.marks i).paused⟩ 3:=by
   unfold au.performed;rw[show((bK s.marks i).got+1==k.need)=true by simpa using hd];rfl
  rw[e];simpa [uJ hi]using w'
 .refine hQ _ _ ?_ u1
  have e:(bK s.marks i).performed k.need=⟨(bK s.marks i).status,(bK s.marks i).left,(bK s.marks i).got+1,(bK s.marks i).aS,(bK s.marks i).paused⟩:=by
   unfold au.performed;rw[show((bK s.marks i).got+1==k.need)=false by simpa using hd];rfl
  rw[e];exact w1
theorem JK(K:Nat)(w:Wk h n b v C s){i:Nat}(hi:i<s.marks.length){k:aF}(hk:C.clauses[i]?=some k)(hQ:Zg b v C s i ((bK s.marks i).expired k.gF) h n Q):CW (EF (K+2)) 96 [.p b.g 0,.i .i64 (i:Nat)] h n Q:=by
 obtain⟨n1,n2,n3,n4,n5,n6⟩:=w.ne;obtain⟨cb,co,k',t,i1,i2,i3,i4,rd⟩:=w.jo.Sz (i:=i) (List.getElem?_eq_some_iff.1 hk).1;rw[hk]at i2;cases i2;refine aD c96 rfl ?_;repeat' (first|(simp (disch:=omega) only[go_sem,simprocAttr,m96,w.row,w.ms,WB.cells,bT hi,bU hi,aeS hi,Za hi,Sy hi,i1,aJ i1,rd.el,rd.hd])|(refine aR ?_ ?_<;>(intro hb hd;rw[hb];clear hb))|(with_reducible refine aj ?_))
 .rename_i h1
  have w1:=w.qV (ms:=s.marks.set i ⟨2,(bK s.marks i).left,(bK s.marks i).got,(bK s.marks i).aS,(bK s.marks i).paused⟩) (by simp);have w2:=w1.qV (ms:=s.marks.set i ⟨2,k.gF,(bK s.marks i).got,(bK s.marks i).aS,(bK s.marks i).paused⟩) (by simp);refine hQ _ _ ?_ ((UX.refl.set (.inl b.xm) (Nat.le_refl _)).set (.inl b.xm) (Nat.le_refl _));have e:(bK s.marks i).expired k.gF=⟨2,k.gF,(bK s.marks i).got,(bK s.marks i).aS,(bK s.marks i).paused⟩:=by
   unfold au.expired;rw[show((bK s.marks i).status==1&&decide (0<k.gF))=true by simp;omega];rfl
  rw[e];exact w2
 all_goals
  rw[aU];refine zC _ w hi 4 λh' n' w' u=>?_;repeat' (first|(simp (disch:=omega) only[go_sem,simprocAttr])|(refine aR ?_ ?_<;>(intro hb hd;rw[hb];clear hb))|(with_reducible refine aj ?_))
  refine hQ _ _ ?_ u;have e:(bK s.marks i).expired k.gF=(bK s.marks i).ended 4:=by
   unfold au.expired;rw[show((bK s.marks i).status==1&&decide (0<k.gF))=false by simp;omega];rfl
  rw[e];exact w'
end
end
end Go.Proofs.YtjoohkjmoghmoaaGreatDoor
