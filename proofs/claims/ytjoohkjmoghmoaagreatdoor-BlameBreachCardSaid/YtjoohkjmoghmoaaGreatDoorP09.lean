/- part -/
import Derived.Test.YtjoohkjmoghmoaaGreatDoorP08
set_option linter.all false
namespace Go.Proofs.YtjoohkjmoghmoaaGreatDoor
section
noncomputable section
set_option maxHeartbeats 4000000
variable {h:AH} {n:Nat} {Q:AV->AH->Nat->Prop} {v:CS} {C:aA}
theorem Jy(K:Nat)(hC:aY h n v C)(hc:C.clauses.length<=1000){i:Nat}{k:aF}(hk:C.clauses[i]?=some k)(hQ:∀h' n',Up h n h' n'->Q (.b (C.bU i k)) h' n'):CW (EF (K+4)) 93 [.agg (v.av C),.i .i64 (i:Nat)] h n Q:=by
 have hil:=(List.getElem?_eq_some_iff.1 hk).1;refine aD c93 rfl ?_;repeat' (first|(simp (disch:=omega) only[go_sem,simprocAttr,ub.old,m93,CS.av])|(simp (disch:=omega) only[go_sem,simprocAttr,m93,CS.av])|(refine aT ?_ ?_<;>(intro hb hd;rw[hb];clear hb))|(with_reducible refine aj ?_))
 refine nH hC (by omega) (by omega) λb o k' t ha hb hst rd=>?_;rw[show((i:Nat):Int).toNat=i by omega,hk]at ha;cases ha;repeat' (first|(simp (disch:=omega) only[go_sem,simprocAttr,ub.old,rd.el,rd.hd,rd.all,aF.av,hC.acts.len,hst.len])|(simp (disch:=omega) only[go_sem,simprocAttr,rd.el,rd.hd,rd.all,aF.av,hC.acts.len,hst.len])|((first|rw[aU]|rw[bR]);with_reducible refine PY _ (hC.up aI) k t λh2 n2 u2=>?_;(first|replace ub:=Up.trans ub (Up.trans aI u2)|have ub:=u2);have hle:=ub.le;clear u2)|(refine aT ?_ ?_<;>(intro hb hd;rw[hb];clear hb))|(with_reducible refine aj ?_))
 any_goals(first|(with_reducible refine bW hQ ?_ aI;first|(simp[aA.bU,ru,ieq];done)|(simp[aA.bU,ru,ieq];omega)|(simp_all [aA.bU,ru,ieq];done)|(simp_all [aA.bU,ru,ieq];omega))|((with_reducible refine f_ hQ aI (λhz=>?_) (λhz=>?_))<;>first|(simp_all [aA.bU,ru,ieq];done)|(simp_all [aA.bU,ru,ieq];omega)))
 have hc1:ru C k.kind k.role k.act k.need k.gF k.after k.final k.start.length=true:=by simp_all [ru]
 have g1:h2.get n=some (.row 27 (v.av C)):=by simp (disch:=omega) only[go_sem,simprocAttr,ub.old]
 have g2:h2.get (n+1)=some (.row 112 (k.av t)):=by simp (disch:=omega) only[go_sem,simprocAttr,ub.old]
 have u0:Up h n h2 n2:=by exact aI
 clear ub;refine gI k.start.length (λm=>∀j s,j<m->k.start[j]?=some s->tT C i s.clause s.is=true) h2 n2 (λm=>[(1,.i .i64 (i:Nat)),(2,.p n 0),(4,.b false),(5,.p (n+1) 0),(45,t)]) (by omega) (by omega) (by omega) (by omega) (λ_=>⟨rfl,rfl⟩) rfl rfl (by(repeat' (first|exact aR|refine aN rfl ?_))) aI (by omega) (λm h' n' hm hr u1=>?_) (λh' n' hr u1=>?_)
 .have g3:=(u1.old n (by omega)).trans g1
  have ule:=u1.le;repeat' (first|(simp (disch:=omega) only[go_sem,simprocAttr,ub.old])|(simp (disch:=omega) only[go_sem,simprocAttr])|(refine aT ?_ ?_<;>(intro hb hd;rw[hb];clear hb))|(with_reducible refine aj ?_))
  refine gZ hst (by omega) (by omega) (by omega) λb2 o2 w hw hbn gu=>?_;rw[show((m:Nat):Int).toNat=m by omega]at hw;have ua:=(u1.old b2 (by omega)).trans (u0.old b2 hbn);repeat' (first|(simp (disch:=omega) only[go_sem,simprocAttr,ub.old,gu.el,gu.hd,gu.all,ua,g3,bN.av,CS.av,hC.lk])|(simp (disch:=omega) only[go_sem,simprocAttr,gu.el,gu.hd,gu.all,ua,g3,bN.av,CS.av,hC.lk])|(refine aT ?_ ?_<;>(intro hb hd;rw[hb];clear hb))|(with_reducible refine aj ?_))
  all_goals first
   |(
    refine bW hQ ?_ aI;have:qy C i k.start=false:=by
     unfold qy;rw[List.all_eq_false];exact⟨w,List.mem_of_getElem? hw,by simp[tT];omega⟩
    simp[aA.bU,this])
   |(
    refine iB rfl rfl (λj w' hj hw'=>?_) aI (by(repeat' (first|exact aR|refine aN rfl ?_)));by_cases e:j=m
    .subst e;rw[hw]at hw';cases hw';simp[tT,ieq];omega
    .exact hr j w' (by omega) hw')
 .have g3:=(u1.old n (by omega)).trans g1
  have g4:=(u1.old (n+1) (by omega)).trans g2;have ule:=u1.le;have hcs:qy C i k.start=true:=by
   unfold qy;rw[List.all_eq_true];intro w hw;obtain⟨j,hj⟩:=List.getElem?_of_mem hw;exact hr j w (List.getElem?_eq_some_iff.1 hj).1 hj
  repeat' (first|(simp (disch:=omega) only[go_sem,simprocAttr,ub.old,g3,g4,aF.av,CS.av,hC.units.len])|(simp (disch:=omega) only[go_sem,simprocAttr,g3,g4,aF.av,CS.av,hC.units.len])|((first|rw[aU]|rw[bR]);with_reducible refine za _ (hC.up aI) _ λh2 n2 u2=>?_;(first|replace ub:=Up.trans ub (Up.trans aI u2)|have ub:=u2);have hle:=ub.le;clear u2)|((first|rw[aU]|rw[bR]);with_reducible refine Ib _ λh2 n2 u2=>?_;(first|replace ub:=Up.trans ub (Up.trans aI u2)|have ub:=u2);have hle:=ub.le;clear u2)|((first|rw[aU]|rw[bR]);with_reducible refine pJ _ k.value λh2 n2 u2=>?_;(first|replace ub:=Up.trans ub (Up.trans aI u2)|have ub:=u2);have hle:=ub.le;clear u2)|((first|rw[aU]|rw[bR]);with_reducible refine nL _ (hC.up aI) _ λh2 n2 u2=>?_;(first|replace ub:=Up.trans ub (Up.trans aI u2)|have ub:=u2);have hle:=ub.le;clear u2)|(refine aT ?_ ?_<;>(intro hb hd;rw[hb];clear hb))|(with_reducible refine aj ?_))
  any_goals(first|(with_reducible refine bW hQ ?_ aI;first|(simp[aA.bU,kN,lZ,bA.zero,ieq];done)|(simp[aA.bU,kN,lZ,bA.zero,ieq];omega)|(simp_all [aA.bU,kN,lZ,bA.zero,ieq];done)|(simp_all [aA.bU,kN,lZ,bA.zero,ieq];omega))|((with_reducible refine f_ hQ aI (λhz=>?_) (λhz=>?_))<;>first|(simp_all [aA.bU,kN,lZ,bA.zero,ieq];done)|(simp_all [aA.bU,kN,lZ,bA.zero,ieq];omega)))
  all_goals
   refine gZ hC.units (by omega) (by omega) (by omega) λb3 o3 z hz hb3 sj=>?_;have ua:=(u1.old b3 (by omega)).trans (u0.old b3 hb3);have hz2:C.yH k.unit=z.kind:=by unfold aA.yH;rw[if_pos (by omega),hz];rfl
   repeat' (first|(simp (disch:=omega) only[go_sem,simprocAttr,ub.old,g3,g4,aF.av,dB.av,CS.av,sj.el,sj.hd,ua])|(simp (disch:=omega) only[go_sem,simprocAttr,g3,g4,aF.av,dB.av,CS.av,sj.el,sj.hd,ua])|((first|rw[aU]|rw[bR]);with_reducible refine pJ _ k.value λh2 n2 u2=>?_;(first|replace ub:=Up.trans ub (Up.trans aI u2)|have ub:=u2);have hle:=ub.le;clear u2)|((first|rw[aU]|rw[bR]);with_reducible refine nL _ (hC.up aI) _ λh2 n2 u2=>?_;(first|replace ub:=Up.trans ub (Up.trans aI u2)|have ub:=u2);have hle:=ub.le;clear u2)|(refine aT ?_ ?_<;>(intro hb hd;rw[hb];clear hb))|(with_reducible refine aj ?_))
   all_goals(first|(with_reducible refine bW hQ ?_ aI;first|(simp[aA.bU,kN,lZ,bA.zero,ieq];done)|(simp[aA.bU,kN,lZ,bA.zero,ieq];omega)|(simp_all [aA.bU,kN,lZ,bA.zero,ieq];done)|(simp_all [aA.bU,kN,lZ,bA.zero,ieq];omega))|((with_reducible refine f_ hQ aI (λhz=>?_) (λhz=>?_))<;>first|(simp_all [aA.bU,kN,lZ,bA.zero,ieq];done)|(simp_all [aA.bU,kN,lZ,bA.zero,ieq];omega)))
def su(l:List Int)(k:Nat):Int:=if k=0 then -1 else(l[k - 1]?).getD 0
theorem Jz(K:Nat)(hC:aY h n v C)(hl:C.over=false)(ho:C.off.length<=1000000)(hQ:∀h' n',Up h n h' n'->Q (.b C.framed) h' n'):CW (EF (K+5)) 92 [.agg (v.av C)] h n Q:=by
 simp only[aA.over,Bool.or_eq_false_iff,decide_eq_false_iff_not]at hl;refine aD c92 rfl ?_;repeat' (first|(simp (disch:=omega) only[go_sem,simprocAttr,ub.old,m92,CS.av,hC.ah.len])|(simp (disch:=omega) only[go_sem,simprocAttr,m92,CS.av,hC.ah.len])|((first|rw[aU]|rw[bR]);with_reducible refine PZ _ (hC.up aI) (by omega) (by omega) (by omega) λh2 n2 u2=>?_;(first|replace ub:=Up.trans ub (Up.trans aI u2)|have ub:=u2);have hle:=ub.le;clear u2)|(refine aT ?_ ?_<;>(intro hb hd;rw[hb];clear hb))|(with_reducible refine aj ?_))
 any_goals(first|(with_reducible refine bW hQ ?_ aI;first|(simp[aA.framed,OC,ieq];done)|(simp[aA.framed,OC,ieq];omega)|(simp_all [aA.framed,OC,ieq];done)|(simp_all [aA.framed,OC,ieq];omega))|((with_reducible refine f_ hQ aI (λhz=>?_) (λhz=>?_))<;>first|(simp_all [aA.framed,OC,ieq];done)|(simp_all [aA.framed,OC,ieq];omega)))
 have hf1:OC C=true:=by simp_all [OC]
 have g1:h2.get n=some (.row 27 (v.av C)):=by simp (disch:=omega) only[go_sem,simprocAttr,ub.old]
 have u0:Up h n h2 n2:=by exact aI
 have hle0:=u0.le;clear ub;rw[aU];refine ME _ (hC.units.up aI) (by omega) λui h3 n3 u3=>?_;have hle3:=u3.le;have g3:=(u3.old n (by omega)).trans g1;repeat' (first|(simp (disch:=omega) only[go_sem,simprocAttr,ub.old,g3,CS.av,hC.acts.len])|(simp (disch:=omega) only[go_sem,simprocAttr,g3,CS.av,hC.acts.len])|(refine aT ?_ ?_<;>(intro hb hd;rw[hb];clear hb))|(with_reducible refine aj ?_))
 any_goals(first|(with_reducible refine bW hQ ?_ aI;first|(simp[aA.framed,ieq];done)|(simp[aA.framed,ieq];omega)|(simp_all [aA.framed,ieq];done)|(simp_all [aA.framed,ieq];omega))|((with_reducible refine f_ hQ aI (λhz=>?_) (λhz=>?_))<;>first|(simp_all [aA.framed,ieq];done)|(simp_all [aA.framed,ieq];omega)))
 have hu:nC C.units=true:=by assumption
 refine gI C.acts.length (λk=>∀j a,j<k->C.acts[j]?=some a->C.oV a=true) h3 n3 (λk=>[(1,.p n 0),(2,.b false),(38,v.a)]) (by omega) (by omega) (by omega) (by omega) (λ_=>⟨rfl,rfl⟩) rfl rfl (by(repeat' (first|exact aR|refine aN rfl ?_))) aI (by omega) (λk h4 n4 hk hr u4=>?_) (λh4 n4 hr u4=>?_)
 .have MF:=u4.le
  have g4:=(u4.old n (by omega)).trans g3;repeat' (first|(simp (disch:=omega) only[go_sem,simprocAttr,ub.old])|(simp (disch:=omega) only[go_sem,simprocAttr])|(refine aT ?_ ?_<;>(intro hb hd;rw[hb];clear hb))|(with_reducible refine aj ?_))
  refine gZ hC.acts (by omega) (by omega) (by omega) λb2 o2 w hw hbn gu=>?_;rw[show((k:Nat):Int).toNat=k by omega]at hw;have ua:=(u4.old b2 (by omega)).trans ((u3.old b2 (by omega)).trans (u0.old b2 hbn));repeat' (first|(simp (disch:=omega) only[go_sem,simprocAttr,ub.old,gu.el,gu.hd,gu.all,ua,g4,dh.av,CS.av])|(simp (disch:=omega) only[go_sem,simprocAttr,gu.el,gu.hd,gu.all,ua,g4,dh.av,CS.av])|((first|rw[aU]|rw[bR]);with_reducible refine Um _ (hC.up aI) w λh2 n2 u2=>?_;(first|replace ub:=Up.trans ub (Up.trans aI u2)|have ub:=u2);have hle:=ub.le;clear u2)|(refine aT ?_ ?_<;>(intro hb hd;rw[hb];clear hb))|(with_reducible refine aj ?_))
  .refine bW hQ ?_ aI
   have:C.yK=false:=by
    unfold aA.yK;rw[List.all_eq_false];exact⟨w,List.mem_of_getElem? hw,by simp_all⟩
   simp[aA.framed,this]
  .refine iB rfl rfl (λj w' hj hw'=>?_) aI (by(repeat' (first|exact aR|refine aN rfl ?_)))
   by_cases e:j=k
   .subst e;rw[hw]at hw';cases hw';simp_all
   .exact hr j w' (by omega) hw'
 .have MF:=u4.le
  have g4:=(u4.old n (by omega)).trans g3;have Yy:C.yK=true:=by
   unfold aA.yK;rw[List.all_eq_true];intro w hw;obtain⟨j,hj⟩:=List.getElem?_of_mem hw;exact hr j w (List.getElem?_eq_some_iff.1 hj).1 hj
  repeat' (first|(simp (disch:=omega) only[go_sem,simprocAttr,ub.old,g4,CS.av,hC.off.len])|(simp (disch:=omega) only[go_sem,simprocAttr,g4,CS.av,hC.off.len])|(refine aT ?_ ?_<;>(intro hb hd;rw[hb];clear hb))|(with_reducible refine aj ?_))
  refine gI C.off.length (λk=>nT C.days (-1) C.off=nT C.days (su C.off k) (C.off.drop k)) h4 n4 (λk=>[(1,.p n 0),(2,.b false),(7,.i .i64 (su C.off k)),(50,v.o)]) (by omega) (by omega) (by omega) (by omega) (λ_=>⟨rfl,rfl⟩) rfl rfl (by(repeat' (first|exact aR|refine aN rfl ?_))) aI (by rw[List.drop_zero];rfl) (λk h5 n5 hk Un u5=>?_) (λh5 n5 Un u5=>?_)
  .have akJ:=u5.le
   have g5:=(u5.old n (by omega)).trans g4;repeat' (first|(simp (disch:=omega) only[go_sem,simprocAttr,ub.old])|(simp (disch:=omega) only[go_sem,simprocAttr])|(refine aT ?_ ?_<;>(intro hb hd;rw[hb];clear hb))|(with_reducible refine aj ?_))
   refine gZ hC.off (by omega) (by omega) (by omega) λb2 o2 w hw hbn gu=>?_;rw[show((k:Nat):Int).toNat=k by omega]at hw;have ua:=(u5.old b2 (by omega)).trans ((u4.old b2 (by omega)).trans ((u3.old b2 (by omega)).trans (u0.old b2 hbn)));have hdr:C.off.drop k=w::C.off.drop (k+1):=by
    obtain⟨e1,e2⟩:=List.getElem?_eq_some_iff.1 hw;rw[List.drop_eq_getElem_cons e1,e2]
   rw[hdr,nT]at Un;repeat' (first|(simp (disch:=omega) only[go_sem,simprocAttr,ub.old,gu.el,gu.hd,gu.all,ua,g5,CS.av])|(simp (disch:=omega) only[go_sem,simprocAttr,gu.el,gu.hd,gu.all,ua,g5,CS.av])|(refine aT ?_ ?_<;>(intro hb hd;rw[hb];clear hb))|(with_reducible refine aj ?_))
   .refine bW hQ ?_ aI
    have:nT C.days (-1) C.off=false:=by rw[Un];simp_all
    simp[aA.framed,this]
   .refine bW hQ ?_ aI
    have:nT C.days (-1) C.off=false:=by rw[Un];simp_all
    simp[aA.framed,this]
   .have hl2:su C.off (k+1)=w:=by unfold su;rw[if_neg (by omega),Nat.add_sub_cancel,hw];rfl
    refine iB rfl rfl ?_ aI ?_
    .show _=nT C.days (su C.off (k+1)) _
     have q1:¬w<=su C.off k:=by assumption
     have q2:¬C.days<=w:=by assumption
     rw[hl2,Un];simp[q1,q2]
    .show∀m u,lk [(1,.p n 0),(2,.b false),(7,.i .i64 (su C.off (k+1))),(50,v.o)] m=some u->_
     rw[hl2]
     (repeat' (first|exact aR|refine aN rfl ?_))
  .repeat' (first|(simp (disch:=omega) only[go_sem,simprocAttr,ub.old])|(simp (disch:=omega) only[go_sem,simprocAttr])|(refine aT ?_ ?_<;>(intro hb hd;rw[hb];clear hb))|(with_reducible refine aj ?_))
   refine bW hQ ?_ aI;have:nT C.days (-1) C.off=true:=by rw[Un,List.drop_length];rfl
   simp[aA.framed,this,hf1,hu,Yy]
theorem pK(K:Nat)(hC:aY h n v C)(ho:C.off.length<=1000000)(hQ:∀i h' n',Up h n h' n'->Q (.bQ [.i .i64 C.errno,.i .i64 i]) h' n'):CW (EF (K+6)) 44 [.agg (v.av C)] h n Q:=by
 refine aD c44 rfl ?_;cases hov:C.over with
 |true=>
  have he:C.errno=3:=by simp[aA.errno,hov]
  rw[he]at hQ;repeat' (first|(simp (disch:=omega) only[go_sem,simprocAttr,ub.old,Yx,CS.av,hC.ah.len,hC.units.len,hC.acts.len,hC.lk])|(simp (disch:=omega) only[go_sem,simprocAttr,Yx,CS.av,hC.ah.len,hC.units.len,hC.acts.len,hC.lk])|(refine aT ?_ ?_<;>(intro hb hd;rw[hb];clear hb))|(with_reducible refine aj ?_))
  any_goals exact hQ _ _ _ aI
  all_goals(exfalso;simp[aA.over]at hov;omega)
 |false=>
  have hv:=hov;simp only[aA.over,Bool.or_eq_false_iff,decide_eq_false_iff_not]at hv;repeat' (first|(simp (disch:=omega) only[go_sem,simprocAttr,ub.old,Yx,CS.av,hC.ah.len,hC.units.len,hC.acts.len,hC.lk])|(simp (disch:=omega) only[go_sem,simprocAttr,Yx,CS.av,hC.ah.len,hC.units.len,hC.acts.len,hC.lk])|((first|rw[aU]|rw[bR]);with_reducible refine Jz _ (hC.up aI) hov ho λh2 n2 u2=>?_;(first|replace ub:=Up.trans ub (Up.trans aI u2)|have ub:=u2);have hle:=ub.le;clear u2)|(refine aT ?_ ?_<;>(intro hb hd;rw[hb];clear hb))|(with_reducible refine aj ?_))
  any_goals(exfalso;omega)
  .have hf:C.framed=false:=by simp_all
   rw[show C.errno=1 by simp[aA.errno,hov,hf]]at hQ;exact hQ _ _ _ aI
  have hf:C.framed=true:=by simp_all
  have g1:h2.get n=some (.row 27 (v.av C)):=by simp (disch:=omega) only[go_sem,simprocAttr,ub.old]
  have u0:Up h n h2 n2:=by exact aI
  have hle0:=u0.le;clear ub;refine gI C.clauses.length (λk=>∀j a,j<k->C.clauses[j]?=some a->C.bU j a=true) h2 n2 (λk=>[(1,.p n 0)]) (by omega) (by omega) (by omega) (by omega) (λ_=>⟨rfl,rfl⟩) rfl rfl (by(repeat' (first|exact aR|refine aN rfl ?_))) aI (by omega) (λk h4 n4 hk hr u4=>?_) (λh4 n4 hr u4=>?_)
  .have MF:=u4.le
   have g4:=(u4.old n (by omega)).trans g1;obtain⟨w,hw⟩:∃w,C.clauses[k]?=some w:=⟨C.clauses[k],List.getElem?_eq_some_iff.2 ⟨hk,rfl⟩⟩;repeat' (first|(simp (disch:=omega) only[go_sem,simprocAttr,ub.old,g4,CS.av])|(simp (disch:=omega) only[go_sem,simprocAttr,g4,CS.av])|((first|rw[aU]|rw[bR]);with_reducible refine Jy _ (hC.up aI) (by omega) hw λh2 n2 u2=>?_;(first|replace ub:=Up.trans ub (Up.trans aI u2)|have ub:=u2);have hle:=ub.le;clear u2)|(refine aT ?_ ?_<;>(intro hb hd;rw[hb];clear hb))|(with_reducible refine aj ?_))
   .have:C.iH=false:=by
     unfold aA.iH;rw[List.all_eq_false];exact⟨k,List.mem_range.2 hk,by rw[hw];simp_all⟩
    rw[show C.errno=1 by simp[aA.errno,hov,hf,this]]at hQ;exact hQ _ _ _ aI
   .refine iB rfl rfl (λj w' hj hw'=>?_) aI (by(repeat' (first|exact aR|refine aN rfl ?_)))
    by_cases e:j=k
    .subst e;rw[hw]at hw';cases hw';simp_all
    .exact hr j w' (by omega) hw'
  .repeat' (first|(simp (disch:=omega) only[go_sem,simprocAttr,ub.old])|(simp (disch:=omega) only[go_sem,simprocAttr])|(refine aT ?_ ?_<;>(intro hb hd;rw[hb];clear hb))|(with_reducible refine aj ?_))
   have:C.iH=true:=by
    unfold aA.iH;rw[List.all_eq_true];intro i hi;have hi:=List.mem_range.1 hi;obtain⟨w,hw⟩:∃w,C.clauses[i]?=some w:=⟨C.clauses[i],List.getElem?_eq_some_iff.2 ⟨hi,rfl⟩⟩;rw[hw];exact hr i w hi hw
   rw[show C.errno=0 by simp[aA.errno,hov,hf,this]]at hQ;exact hQ _ _ _ aI
end
end
section
noncomputable section
set_option maxRecDepth 1000000
set_option maxHeartbeats 4000000
def Yz:MC:=vF 175
def c175:=vT 175 Yz
def m95:MC:=vF 95
def c95:=vT 95 m95
def m94:MC:=vF 94
def c94:=vT 94 m94
def YA:MC:=vF 103
def aed:=vT 103 YA
def YB:MC:=vF 180
def aee:=vT 180 YB
def m47:MC:=vF 47
def c47:=vT 47 m47
def Uo:MC:=vF 115
def aeg:=vT 115 Uo
def YC:MC:=vF 109
def c109:=vT 109 YC
def YD:MC:=vF 263
def aeh:=vT 263 YD
def YE:MC:=vF 264
def aei:=vT 264 YE
def Uq:MC:=vF 234
def c234:=vT 234 Uq
end
end
section
noncomputable section
set_option maxHeartbeats 4000000
variable {h:AH} {n:Nat} {Q:AV->AH->Nat->Prop} {v:CS} {C:aA} {tv:TS} {s:aH}
theorem MG(a b c d:Int)(e:Bool)(a' b' c' d':Int)(e':Bool):(dY Tryz.prog 144 .eql).run (.agg [.i .i64 a,.i .i64 b,.i .i64 c,.i .i64 d,.b e]) (.agg [.i .i64 a',.i .i64 b',.i .i64 c',.i .i64 d',.b e'])=
 bnd (bc (fM a a') (bc (fM b b') (bc (fM c c') (bc (fM d d') (bc (bc e e' (p9 e')) (some true) (some false)) (some false)) (some false)) (some false)) (some false)) λe=>some (.b e):=by kernel_rfl
@[go_sem] theorem abX (a b c d:Int) (e:Bool) (a' b' c' d':Int) (e':Bool):(dY Tryz.prog 144 .eql).run (.agg [.i .i64 a,.i .i64 b,.i .i64 c,.i .i64 d,.b e]) (.agg [.i .i64 a',.i .i64 b',.i .i64 c',.i .i64 d',.b e'])=
 some (.b (decide (a=a')&&(decide (b=b')&&(decide (c=c')&&(decide (d=d')&&(e==e')))))):=by
 rw[MG,cK,cK,cK,cK];by_cases h1:a=a'<;>by_cases h2:b=b'<;>by_cases h3:c=c'<;>by_cases h4:d=d'<;>cases e<;>cases e'<;>simp[h1,h2,h3,h4,bc,bnd,p9]
theorem FK(K:Nat)(m:au)(hQ:∀h' n',Up h n h' n'->Q (.b m.runs) h' n'):CW (EF (K+1)) 180 [.agg m.av] h n Q:=by
 refine aD aee rfl ?_;repeat' (first|(simp (disch:=omega) only[go_sem,simprocAttr,YB,au.av])|(refine aT ?_ ?_<;>(intro hb hd;rw[hb];clear hb))|(with_reducible refine aj ?_))
 all_goals(first|(with_reducible refine bW hQ ?_ aI;first|(simp[au.runs,ieq];done)|(simp[au.runs,ieq];omega)|(simp_all [au.runs,ieq];done)|(simp_all [au.runs,ieq];omega))|((with_reducible refine f_ hQ aI (λhz=>?_) (λhz=>?_))<;>first|(simp_all [au.runs,ieq];done)|(simp_all [au.runs,ieq];omega)))
theorem Ur(K:Nat)(k:aF)(t:AV)(m:au)(hC:aY h n v C)(hQ:∀h' n',Up h n h' n'->Q (.b (jS C k.kind k.need k.pause k.iP m.left m.got m.aO m.paused)) h' n')(hk:qI t=some [t]):CW (EF (K+1)) 175 [.agg (v.av C),.agg (k.av t),.agg m.av] h n Q:=by
 refine aD c175 rfl ?_;repeat' (first|(simp (disch:=omega) only[go_sem,simprocAttr,Yz,CS.av,aF.av,au.av])|(refine aT ?_ ?_<;>(intro hb hd;rw[hb];clear hb))|(with_reducible refine aj ?_))
 any_goals(first|(with_reducible refine bW hQ ?_ aI;first|(simp[jS,ieq];done)|(simp[jS,ieq];omega)|(simp_all [jS,ieq];done)|(simp_all [jS,ieq];omega))|((with_reducible refine f_ hQ aI (λhz=>?_) (λhz=>?_))<;>first|(simp_all [jS,ieq];done)|(simp_all [jS,ieq];omega)))
theorem P7(K:Nat)(hC:aY h n v C){i:Nat}{k:aF}(hk:C.clauses[i]?=some k)(m:au)(hQ:∀h' n',Up h n h' n'->Q (.b (C.jT k m)) h' n'):CW (EF (K+2)) 95 [.agg (v.av C),.i .i64 (i:Nat),.agg m.av] h n Q:=by
 have hil:=(List.getElem?_eq_some_iff.1 hk).1;refine aD c95 rfl ?_;repeat' (first|(simp (disch:=omega) only[go_sem,simprocAttr,ub.old,m95,CS.av,au.av])|(simp (disch:=omega) only[go_sem,simprocAttr,m95,CS.av,au.av])|(refine aT ?_ ?_<;>(intro hb hd;rw[hb];clear hb))|(with_reducible refine aj ?_))
 refine nH hC (by omega) (by omega) λb o k' t ha hb hst rd=>?_;rw[show((i:Nat):Int).toNat=i by omega,hk]at ha;cases ha;repeat' (first|(simp (disch:=omega) only[go_sem,simprocAttr,ub.old,rd.el,rd.hd,rd.all,aF.av,au.av])|(simp (disch:=omega) only[go_sem,simprocAttr,rd.el,rd.hd,rd.all,aF.av,au.av])|((first|rw[aU]|rw[bR]);with_reducible refine Ur _ k t m (hC.up aI) (λh2 n2 u2=>?_) hst.cl;(first|replace ub:=Up.trans ub (Up.trans aI u2)|have ub:=u2);have hle:=ub.le;clear u2)|(refine aT ?_ ?_<;>(intro hb hd;rw[hb];clear hb))|(with_reducible refine aj ?_))
 any_goals(first|(with_reducible refine bW hQ ?_ aI;first|(simp[aA.jT,kQ,oW,ieq];done)|(simp[aA.jT,kQ,oW,ieq];omega)|(simp_all [aA.jT,kQ,oW,ieq];done)|(simp_all [aA.jT,kQ,oW,ieq];omega))|((with_reducible refine f_ hQ aI (λhz=>?_) (λhz=>?_))<;>first|(simp_all [aA.jT,kQ,oW,ieq];done)|(simp_all [aA.jT,kQ,oW,ieq];omega)))
theorem zf(K:Nat)(hC:aY h n v C)(hS:bX h n tv s){i:Nat}{k:aF}{m:au}(hk:C.clauses[i]?=some k)(hm:s.marks[i]?=some m)(hl:k.start.length<=1000)(hc:∀c∈k.start,0<=c.clause/\c.clause<s.marks.length)
 (hQ:∀h' n',Up h n h' n'->Q (.b (dz s.marks k m)) h' n'):CW (EF (K+1)) 94 [.agg (v.av C),.agg (tv.av s),.i .i64 (i:Nat)] h n Q:=by
 have hil:=(List.getElem?_eq_some_iff.1 hk).1;have him:=(List.getElem?_eq_some_iff.1 hm).1;refine aD c94 rfl ?_;repeat' (first|(simp (disch:=omega) only[go_sem,simprocAttr,m94,CS.av,TS.av])|(refine aT ?_ ?_<;>(intro hb hd;rw[hb];clear hb))|(with_reducible refine aj ?_))
 refine gZ hS.marks (by omega) (by omega) (by omega) λb o m' ha hb rd=>?_;rw[show((i:Nat):Int).toNat=i by omega,hm]at ha;cases ha;repeat' (first|(simp (disch:=omega) only[go_sem,simprocAttr,rd.el,rd.hd,au.av])|(refine aT ?_ ?_<;>(intro hb hd;rw[hb];clear hb))|(with_reducible refine aj ?_))
 any_goals(first|(with_reducible refine bW hQ ?_ aI;first|(simp[dz,ieq];done)|(simp[dz,ieq];omega)|(simp_all [dz,ieq];done)|(simp_all [dz,ieq];omega))|((with_reducible refine f_ hQ aI (λhz=>?_) (λhz=>?_))<;>first|(simp_all [dz,ieq];done)|(simp_all [dz,ieq];omega)))
 all_goals(refine nH hC (by omega) (by omega) λb2 o2 k' t ha hb2 hst gu=>?_)
 all_goals(rw[show((i:Nat):Int).toNat=i by omega,hk]at ha;cases ha)
 all_goals repeat' (first|(simp (disch:=omega) only[go_sem,simprocAttr,gu.el,gu.hd,aF.av,hst.len])|(refine aT ?_ ?_<;>(intro hb hd;rw[hb];clear hb))|(with_reducible refine aj ?_))
 any_goals(first|(with_reducible refine bW hQ ?_ aI;first|(simp[dz,ieq];done)|(simp[dz,ieq];omega)|(simp_all [dz,ieq];done)|(simp_all [dz,ieq];omega))|((with_reducible refine f_ hQ aI (λhz=>?_) (λhz=>?_))<;>first|(simp_all [dz,ieq];done)|(simp_all [dz,ieq];omega)))
 refine nH hC (by omega) (by omega) λb3 o3 k' t ha hb3 hst sj=>?_;rw[show((i:Nat):Int).toNat=i by omega,hk]at ha;cases ha;repeat' (first|(simp (disch:=omega) only[go_sem,simprocAttr,sj.el,sj.hd,aF.av,hst.len])|(refine aT ?_ ?_<;>(intro hb hd;rw[hb];clear hb))|(with_reducible refine aj ?_))
 have h0:m.status=0:=by assumption
 have hw:k.iP=false:=by assumption
 generalize hh:Tr.set (Tr.set h n _) (n+1) _=hb0;have u0:Up h n hb0 (n+1+1):=by rw[<-hh];exact aI
 have g1:hb0.get (n+1)=some (.row 43 (tv.av s)):=by rw[<-hh];exact tQ
 clear hh;refine gI k.start.length (λq=>∀j c,j<q->k.start[j]?=some c->d9 s.marks c=true) hb0 (n+1+1) (λq=>[(4,.p (n+1) 0),(6,.b false),(31,t)]) (by omega) (by omega) (by omega) (by omega) (λ_=>⟨rfl,rfl⟩) rfl rfl (by(repeat' (first|exact aR|refine aN rfl ?_))) aI (by omega) (λq h4 n4 hq hr u4=>?_) (λh4 n4 hr u4=>?_)
 .have MF:=u4.le
  have g4:=(u4.old (n+1) (by omega)).trans g1;repeat' (first|(simp (disch:=omega) only[go_sem,simprocAttr])|(refine aT ?_ ?_<;>(intro hb hd;rw[hb];clear hb))|(with_reducible refine aj ?_))
  refine gZ hst (by omega) (by omega) (by omega) λb5 o5 w hw5 hb5 sQ=>?_;rw[show((q:Nat):Int).toNat=q by omega]at hw5;have hcw:=hc w (List.mem_of_getElem? hw5);have ua:=(u4.old b5 (by omega)).trans (u0.old b5 hb5);repeat' (first|(simp (disch:=omega) only[go_sem,simprocAttr,sQ.el,sQ.hd,sQ.all,ua,g4,bN.av,TS.av])|(refine aT ?_ ?_<;>(intro hb hd;rw[hb];clear hb))|(with_reducible refine aj ?_))
  refine gZ hS.marks (by omega) (by omega) (by omega) λb6 o6 m6 hm6 hb6 Wi=>?_;have ub6:=(u4.old b6 (by omega)).trans (u0.old b6 hb6);have akP:jU s.marks w.clause=m6.status:=by unfold jU;rw[hm6];rfl
  repeat' (first|(simp (disch:=omega) only[go_sem,simprocAttr,Wi.el,Wi.hd,ub6,au.av])|(refine aT ?_ ?_<;>(intro hb hd;rw[hb];clear hb))|(with_reducible refine aj ?_))
  all_goals first
   |(
    refine bW hQ ?_ aI;have:gN s.marks k.start=false:=by
     unfold gN;rw[List.all_eq_false];exact⟨w,List.mem_of_getElem? hw5,by simp_all [d9,rW,ieq]⟩
    simp[dz,this])
   |(
    refine iB rfl rfl (λj w' hj hw'=>?_) aI (by(repeat' (first|exact aR|refine aN rfl ?_)));by_cases e:j=q
    .subst e;rw[hw5]at hw';cases hw';simp_all [d9,rW,ieq]
    .exact hr j w' (by omega) hw')
 .repeat' (first|(simp (disch:=omega) only[go_sem,simprocAttr])|(refine aT ?_ ?_<;>(intro hb hd;rw[hb];clear hb))|(with_reducible refine aj ?_))
  refine bW hQ ?_ aI;have:gN s.marks k.start=true:=by
   unfold gN;rw[List.all_eq_true];intro w hw;obtain⟨j,hj⟩:=List.getElem?_of_mem hw;exact hr j w (List.getElem?_eq_some_iff.1 hj).1 hj
  simp[dz,h0,hw,this]
end
end
section
noncomputable section
set_option maxHeartbeats 4000000
variable {h:AH} {n:Nat} {Q:AV->AH->Nat->Prop} {v:CS} {C:aA} {tv:TS} {s:aH}
theorem nM(C:aA):(C.errno=0)=(C.valid=true):=by
 unfold aA.errno aA.valid;cases C.over<;>cases (C.framed&&C.iH)<;>simp
theorem gQ(K:Nat)(hC:aY h n v C)(ho:C.off.length<=1000000)(hS:bX h n tv s)(hQ:∀h' n',Up h n h' n'->Q (.b (C.dQ s)) h' n'):CW (EF (K+7)) 47 [.agg (v.av C),.agg (tv.av s)] h n Q:=by
 refine aD c47 rfl ?_;repeat' (first|(simp (disch:=omega) only[go_sem,simprocAttr,ub.old,m47,CS.av,TS.av])|(simp (disch:=omega) only[go_sem,simprocAttr,m47,CS.av,TS.av])|(refine aT ?_ ?_<;>(intro hb hd;rw[hb];clear hb))|(with_reducible refine aj ?_))
 rw[aU];refine pK _ (hC.up aI) ho λei h2 n2 u2=>?_;have ub:=u2;have hle:=ub.le;repeat' (first|(simp (disch:=omega) only[go_sem,simprocAttr,ub.old,CS.av,TS.av,hS.ah.len,hS.used.len,hS.marks.len,hC.ah.len,hC.acts.len,hC.lk])|(simp (disch:=omega) only[go_sem,simprocAttr,CS.av,TS.av,hS.ah.len,hS.used.len,hS.marks.len,hC.ah.len,hC.acts.len,hC.lk])|(refine aT ?_ ?_<;>(intro hb hd;rw[hb];clear hb))|(with_reducible refine aj ?_))
 any_goals(first|(with_reducible refine bW hQ ?_ aI;first|(simp[aA.dQ,Js,nM,ieq];done)|(simp[aA.dQ,Js,nM,ieq];omega)|(simp_all [aA.dQ,Js,nM,ieq];done)|(simp_all [aA.dQ,Js,nM,ieq];omega))|((with_reducible refine f_ hQ aI (λhz=>?_) (λhz=>?_))<;>first|(simp_all [aA.dQ,Js,nM,ieq];done)|(simp_all [aA.dQ,Js,nM,ieq];omega)))
 have hv:C.valid=true:=by rw[<-nM];assumption
 have hs1:Js C s=true:=by simp_all [Js]
 have hO:=aA.ok hv;have q1:=hO.lG;have q2:=hO.jY;have q3:=hO.dL;have hs2:=hs1;simp only[Js,Bool.and_eq_true,Bool.not_eq_true',decide_eq_false_iff_not,beq_iff_eq]at hs2;have g1:h2.get n=some (.row 27 (v.av C)):=by simp (disch:=omega) only[go_sem,simprocAttr,ub.old]
 have g2:h2.get (n+1)=some (.row 43 (tv.av s)):=by simp (disch:=omega) only[go_sem,simprocAttr,ub.old]
 have u0:Up h n h2 n2:=by exact aI
 clear ub u2;refine gI s.ah.length (λk=>∀j a,j<k->s.ah[j]?=some a->vL C a=true) h2 n2 (λk=>[(2,.p n 0),(3,.p (n+1) 0),(4,.b false),(57,tv.h)]) (by omega) (by omega) (by omega) (by omega) (λ_=>⟨rfl,rfl⟩) rfl rfl (by(repeat' (first|exact aR|refine aN rfl ?_))) aI (by omega) (λk h4 n4 hk hr u4=>?_) (λh4 n4 hr u4=>?_)
 .have MF:=u4.le
  have g4:=(u4.old n (by omega)).trans g1;repeat' (first|(simp (disch:=omega) only[go_sem,simprocAttr,ub.old])|(simp (disch:=omega) only[go_sem,simprocAttr])|(refine aT ?_ ?_<;>(intro hb hd;rw[hb];clear hb))|(with_reducible refine aj ?_))
  refine gZ hS.ah (by omega) (by omega) (by omega) λb5 o5 w hw hb5 sQ=>?_;rw[show((k:Nat):Int).toNat=k by omega]at hw;have ua:=(u4.old b5 (by omega)).trans (u0.old b5 hb5);repeat' (first|(simp (disch:=omega) only[go_sem,simprocAttr,ub.old,sQ.el,sQ.hd,sQ.all,ua,g4,CS.av])|(simp (disch:=omega) only[go_sem,simprocAttr,sQ.el,sQ.hd,sQ.all,ua,g4,CS.av])|(refine aT ?_ ?_<;>(intro hb hd;rw[hb];clear hb))|(with_reducible refine aj ?_))
  all_goals first
   |(
    refine bW hQ ?_ aI;have:jV C s=false:=by
     unfold jV;rw[List.all_eq_false];exact⟨w,List.mem_of_getElem? hw,by simp_all [vL]⟩
    simp[aA.dQ,this])
   |(
    refine iB rfl rfl (λj w' hj hw'=>?_) aI (by(repeat' (first|exact aR|refine aN rfl ?_)));by_cases e:j=k
    .subst e;rw[hw]at hw';cases hw';simp_all [vL]
    .exact hr j w' (by omega) hw')
 have hH:jV C s=true:=by
  unfold jV;rw[List.all_eq_true];intro w hw;obtain⟨j,hj⟩:=List.getElem?_of_mem hw;exact hr j w (List.getElem?_eq_some_iff.1 hj).1 hj
 have MF:=u4.le;have g4:=(u4.old n (by omega)).trans g1;have g5:=(u4.old (n+1) (by omega)).trans g2;repeat' (first|(simp (disch:=omega) only[go_sem,simprocAttr,ub.old,g4,g5,CS.av,TS.av,hS.used.len])|(simp (disch:=omega) only[go_sem,simprocAttr,g4,g5,CS.av,TS.av,hS.used.len])|(refine aT ?_ ?_<;>(intro hb hd;rw[hb];clear hb))|(with_reducible refine aj ?_))
 refine gI s.used.length (λk=>∀j u a,j<k->s.used[j]?=some u->C.acts[j]?=some a->(u&&(a.kind==1))=false) h4 n4 (λk=>[(2,.p n 0),(3,.p (n+1) 0),(4,.b false),(73,tv.u)]) (by omega) (by omega) (by omega) (by omega) (λ_=>⟨rfl,rfl⟩) rfl rfl (by(repeat' (first|exact aR|refine aN rfl ?_))) aI (by omega) (λk h6 n6 hk Us u6=>?_) (λh6 n6 Us u6=>?_)
 .have aej:=u6.le
  have g6:=(u6.old n (by omega)).trans g4;repeat' (first|(simp (disch:=omega) only[go_sem,simprocAttr,ub.old])|(simp (disch:=omega) only[go_sem,simprocAttr])|(refine aT ?_ ?_<;>(intro hb hd;rw[hb];clear hb))|(with_reducible refine aj ?_))
  refine gZ hS.used (by omega) (by omega) (by omega) λb5 o5 w hw hb5 sQ=>?_;rw[show((k:Nat):Int).toNat=k by omega]at hw;have ua:=(u6.old b5 (by omega)).trans ((u4.old b5 (by omega)).trans (u0.old b5 hb5));obtain⟨a,ha⟩:∃a,C.acts[k]?=some a:=⟨C.acts[k],List.getElem?_eq_some_iff.2 ⟨by omega,rfl⟩⟩;repeat' (first|(simp (disch:=omega) only[go_sem,simprocAttr,ub.old,sQ.el,sQ.hd,sQ.all,ua,g6,CS.av])|(simp (disch:=omega) only[go_sem,simprocAttr,sQ.el,sQ.hd,sQ.all,ua,g6,CS.av])|(refine aT ?_ ?_<;>(intro hb hd;rw[hb];clear hb))|(with_reducible refine aj ?_))
  .have hwt:w=true:=by assumption
   refine gZ hC.acts (by omega) (by omega) (by omega) λb7 o7 a7 ha7 hb7 Wj=>?_;rw[show((k:Nat):Int).toNat=k by omega,ha]at ha7;cases ha7;have ua7:=(u6.old b7 (by omega)).trans ((u4.old b7 (by omega)).trans (u0.old b7 hb7));repeat' (first|(simp (disch:=omega) only[go_sem,simprocAttr,ub.old,Wj.el,Wj.hd,ua7,dh.av])|(simp (disch:=omega) only[go_sem,simprocAttr,Wj.el,Wj.hd,ua7,dh.av])|(refine aT ?_ ?_<;>(intro hb hd;rw[hb];clear hb))|(with_reducible refine aj ?_))
   .refine bW hQ ?_ aI
    have:yL C s=false:=by
     unfold yL;rw[List.all_eq_false];exact⟨k,List.mem_range.2 hk,by rw[hw,ha];simp_all⟩
    simp[aA.dQ,this]
   .refine iB rfl rfl (λj u' a' hj hu' ha'=>?_) aI (by(repeat' (first|exact aR|refine aN rfl ?_)))
    by_cases e:j=k
    .subst e;rw[hw]at hu';cases hu';rw[ha]at ha';cases ha';simp_all
    .exact Us j u' a' (by omega) hu' ha'
  .have hwf:w=false:=by assumption
   refine iB rfl rfl (λj u' a' hj hu' ha'=>?_) aI (by(repeat' (first|exact aR|refine aN rfl ?_)));by_cases e:j=k
   .subst e;rw[hw]at hu';cases hu';simp[hwf]
   .exact Us j u' a' (by omega) hu' ha'
 have hU:yL C s=true:=by
  unfold yL;rw[List.all_eq_true];intro i hi;have hi:=List.mem_range.1 hi;obtain⟨w,hw⟩:∃w,s.used[i]?=some w:=⟨s.used[i],List.getElem?_eq_some_iff.2 ⟨hi,rfl⟩⟩;obtain⟨a,ha⟩:∃a,C.acts[i]?=some a:=⟨C.acts[i],List.getElem?_eq_some_iff.2 ⟨by omega,rfl⟩⟩;rw[hw,ha];simp only[Us i w a hi hw ha,Bool.not_false]
 have aej:=u6.le;have g6:=(u6.old n (by omega)).trans g4;have g7:=(u6.old (n+1) (by omega)).trans g5;repeat' (first|(simp (disch:=omega) only[go_sem,simprocAttr,ub.old,g6,g7,CS.av,TS.av,hS.marks.len])|(simp (disch:=omega) only[go_sem,simprocAttr,g6,g7,CS.av,TS.av,hS.marks.len])|(refine aT ?_ ?_<;>(intro hb hd;rw[hb];clear hb))|(with_reducible refine aj ?_))
 refine gI s.marks.length (λk=>∀j m c,j<k->s.marks[j]?=some m->C.clauses[j]?=some c->(C.jT c m&& !(dz s.marks c m))=true) h6 n6 (λk=>[(2,.p n 0),(3,.p (n+1) 0),(4,.b false)]) (by omega) (by omega) (by omega) (by omega) (λ_=>⟨rfl,rfl⟩) rfl rfl (by(repeat' (first|exact aR|refine aN rfl ?_))) aI (by omega) (λk h8 n8 hk hr8 u8=>?_) (λh8 n8 hr8 u8=>?_)
 .have akQ:=u8.le
  have g8:=(u8.old n (by omega)).trans g6;have g9:=(u8.old (n+1) (by omega)).trans g7;obtain⟨m,hm⟩:∃m,s.marks[k]?=some m:=⟨s.marks[k],List.getElem?_eq_some_iff.2 ⟨hk,rfl⟩⟩;obtain⟨c,hc⟩:∃c,C.clauses[k]?=some c:=⟨C.clauses[k],List.getElem?_eq_some_iff.2 ⟨by omega,rfl⟩⟩;have hok:=hO.clause hc;obtain⟨b5,o5,m5,i5,YF,hb5,sQ⟩:=hS.marks.gD (k:=(k:Nat)) (by omega) (by omega) (by omega);rw[show((k:Nat):Int).toNat=k by omega,hm]at YF;cases YF;have ua:=(u8.old b5 (by omega)).trans ((u6.old b5 (by omega)).trans ((u4.old b5 (by omega)).trans (u0.old b5 hb5)));repeat' (first|(simp (disch:=omega) only[go_sem,simprocAttr,ub.old,g8,g9,CS.av,TS.av,i5,sQ.el,sQ.hd,sQ.all,ua])|(simp (disch:=omega) only[go_sem,simprocAttr,g8,g9,CS.av,TS.av,i5,sQ.el,sQ.hd,sQ.all,ua])|((first|rw[aU]|rw[bR]);with_reducible refine P7 _ (hC.up aI) hc m λh2 n2 u2=>?_;(first|replace ub:=Up.trans ub (Up.trans aI u2)|have ub:=u2);have hle:=ub.le;clear u2)|((first|rw[aU]|rw[bR]);with_reducible refine zf _ (hC.up aI) (hS.up aI) hc hm (by have:=hok.r9;omega) (λx hx=>by have:=hok.start x hx;omega) λh2 n2 u2=>?_;(first|replace ub:=Up.trans ub (Up.trans aI u2)|have ub:=u2);have hle:=ub.le;clear u2)|(refine aT ?_ ?_<;>(intro hb hd;rw[hb];clear hb))|(with_reducible refine aj ?_))
  all_goals first
   |(
    refine bW hQ ?_ aI;have:rY C s=false:=by
     unfold rY;rw[List.all_eq_false];exact⟨k,List.mem_range.2 hk,by rw[hm,hc];simp_all⟩
    simp[aA.dQ,this])
   |(
    refine iB rfl rfl (λj m' c' hj hm' hc'=>?_) aI (by(repeat' (first|exact aR|refine aN rfl ?_)));by_cases e:j=k
    .subst e;rw[hm]at hm';cases hm';rw[hc]at hc';cases hc';simp_all
    .exact hr8 j m' c' (by omega) hm' hc')
 .repeat' (first|(simp (disch:=omega) only[go_sem,simprocAttr,ub.old])|(simp (disch:=omega) only[go_sem,simprocAttr])|(refine aT ?_ ?_<;>(intro hb hd;rw[hb];clear hb))|(with_reducible refine aj ?_))
  refine bW hQ ?_ aI;have:rY C s=true:=by
   unfold rY;rw[List.all_eq_true];intro i hi;have hi:=List.mem_range.1 hi;obtain⟨m,hm⟩:∃m,s.marks[i]?=some m:=⟨s.marks[i],List.getElem?_eq_some_iff.2 ⟨hi,rfl⟩⟩;obtain⟨c,hc⟩:∃c,C.clauses[i]?=some c:=⟨C.clauses[i],List.getElem?_eq_some_iff.2 ⟨by omega,rfl⟩⟩;rw[hm,hc];exact hr8 i m c hi hm hc
  simp[aA.dQ,hv,hs1,hH,hU,this]
end
end
section
noncomputable section
set_option maxHeartbeats 4000000
variable {h:AH} {n:Nat} {Q:AV->AH->Nat->Prop} {v:CS} {C:aA} {tv:TS} {s:aH}
open Classical in
def DU{α:Type}(a b:α):Bool:=decide (a=b)
theorem Ap{α:Type}{a b:α}(e:a=b):DU a b=true:=by simp[DU,e]
theorem wJ{α:Type}{a b:α}(e:a≠b):DU a b=false:=by simp[DU,e]
theorem Aq(K:Nat){x y:AV}{a b:List Int}(hx:SL h n 1 x (λx:Int=>[AV.i .i64 x]) a)(hy:SL h n 1 y (λx:Int=>[AV.i .i64 x]) b)(hl:a.length<=1000000)(hQ:∀h' n',Up h n h' n'->Q (.b (DU a b)) h' n'):CW (EF (K+1)) 109 [x,y] h n Q:=by
 refine aD c109 rfl ?_;repeat' (first|(simp (disch:=omega) only[go_sem,simprocAttr,YC,hx.len,hy.len])|(refine aT ?_ ?_<;>(intro hb hd;rw[hb];clear hb))|(with_reducible refine aj ?_))
 .refine bW hQ (wJ λe=>?_) aI
  subst e;omega
 have hab:a.length=b.length:=by omega
 refine gI a.length (λk=>∀j,j<k->a[j]?=b[j]?) h n (λk=>[(0,x),(1,y),(4,.b false)]) (by omega) (by omega) (by omega) (by omega) (λ_=>⟨rfl,rfl⟩) rfl rfl (by(repeat' (first|exact aR|refine aN rfl ?_))) aI (by omega) (λk h4 n4 hk hr u4=>?_) (λh4 n4 hr u4=>?_)
 .obtain⟨b1,o1,w1,i1,hw1,hb1,r1⟩:=hx.gD (k:=(k:Nat)) (by omega) (by omega) (by omega)
  obtain⟨b2,o2,w2,i2,hw2,hb2,r2⟩:=hy.gD (k:=(k:Nat)) (by omega) (by omega) (by omega);rw[show((k:Nat):Int).toNat=k by omega]at hw1 hw2;have u1:=u4.old b1 hb1;have u2:=u4.old b2 hb2;repeat' (first|(simp (disch:=omega) only[go_sem,simprocAttr,i1,i2,r1.hd,r2.hd,u1,u2])|(refine aT ?_ ?_<;>(intro hb hd;rw[hb];clear hb))|(with_reducible refine aj ?_))
  .refine bW hQ (wJ λe=>?_) aI
   subst e;rw[hw1]at hw2;cases hw2;simp_all
  .refine iB rfl rfl (λj hj=>?_) aI (by(repeat' (first|exact aR|refine aN rfl ?_)))
   by_cases e:j=k
   .subst e;rw[hw1,hw2];simp_all
   .exact hr j (by omega)
 .repeat' (first|(simp (disch:=omega) only[go_sem,simprocAttr])|(refine aT ?_ ?_<;>(intro hb hd;rw[hb];clear hb))|(with_reducible refine aj ?_))
  refine bW hQ (Ap (List.ext_getElem? λj=>?_)) aI;by_cases hj:j<a.length
  .exact hr j hj
  .rw[List.getElem?_eq_none (by omega),List.getElem?_eq_none (by omega)]
theorem P8(a b:Bool):(dY Tryz.prog 4 .neq).run (.b a) (.b b)=bnd (some (bc a b (p9 b))) λe=>some (.b (p9 e)):=by kernel_rfl
@[go_sem] theorem ael (a b:Bool):(dY Tryz.prog 4 .neq).run (.b a) (.b b)=some (.b (!(a==b))):=by
 rw[P8];cases a<;>cases b<;>rfl
theorem JA(a b c d:Int)(e:Bool)(a' b' c' d':Int)(e':Bool):(dY Tryz.prog 144 .neq).run (.agg [.i .i64 a,.i .i64 b,.i .i64 c,.i .i64 d,.b e]) (.agg [.i .i64 a',.i .i64 b',.i .i64 c',.i .i64 d',.b e'])=
 bnd (bc (fM a a') (bc (fM b b') (bc (fM c c') (bc (fM d d') (bc (bc e e' (p9 e')) (some true) (some false)) (some false)) (some false)) (some false)) (some false)) λe=>some (.b (p9 e)):=by kernel_rfl
@[go_sem] theorem YG (m m':au):(dY Tryz.prog 144 .neq).run (.agg m.av) (.agg m'.av)=some (.b (!DU m m')):=by
 obtain⟨a,b,c,d,e⟩:=m;obtain⟨a',b',c',d',e'⟩:=m';rw[JA,cK,cK,cK,cK];unfold DU;by_cases h1:a=a'<;>by_cases h2:b=b'<;>by_cases h3:c=c'<;>by_cases h4:d=d'<;>cases e<;>cases e'<;>simp[h1,h2,h3,h4,bc,bnd,p9]
theorem FL(K:Nat){x y:AV}{a b:List Bool}(hx:SL h n 1 x (λx:Bool=>[AV.b x]) a)(hy:SL h n 1 y (λx:Bool=>[AV.b x]) b)(hl:a.length<=1000000)(hQ:∀h' n',Up h n h' n'->Q (.b (DU a b)) h' n'):CW (EF (K+1)) 263 [x,y] h n Q:=by
 refine aD aeh rfl ?_;repeat' (first|(simp (disch:=omega) only[go_sem,simprocAttr,YD,hx.len,hy.len])|(refine aT ?_ ?_<;>(intro hb hd;rw[hb];clear hb))|(with_reducible refine aj ?_))
 .refine bW hQ (wJ λe=>?_) aI
  subst e;omega
 have hab:a.length=b.length:=by omega
 refine gI a.length (λk=>∀j,j<k->a[j]?=b[j]?) h n (λk=>[(0,x),(1,y),(4,.b false)]) (by omega) (by omega) (by omega) (by omega) (λ_=>⟨rfl,rfl⟩) rfl rfl (by(repeat' (first|exact aR|refine aN rfl ?_))) aI (by omega) (λk h4 n4 hk hr u4=>?_) (λh4 n4 hr u4=>?_)
 .obtain⟨b1,o1,w1,i1,hw1,hb1,r1⟩:=hx.gD (k:=(k:Nat)) (by omega) (by omega) (by omega)
  obtain⟨b2,o2,w2,i2,hw2,hb2,r2⟩:=hy.gD (k:=(k:Nat)) (by omega) (by omega) (by omega);rw[show((k:Nat):Int).toNat=k by omega]at hw1 hw2;have u1:=u4.old b1 hb1;have u2:=u4.old b2 hb2;repeat' (first|(simp (disch:=omega) only[go_sem,simprocAttr,i1,i2,r1.hd,r2.hd,u1,u2])|(refine aT ?_ ?_<;>(intro hb hd;rw[hb];clear hb))|(with_reducible refine aj ?_))
  .refine bW hQ (wJ λe=>?_) aI
   subst e;rw[hw1]at hw2;cases hw2;simp_all
  .refine iB rfl rfl (λj hj=>?_) aI (by(repeat' (first|exact aR|refine aN rfl ?_)))
   by_cases e:j=k
   .subst e;rw[hw1,hw2];simp_all
   .exact hr j (by omega)
 .repeat' (first|(simp (disch:=omega) only[go_sem,simprocAttr])|(refine aT ?_ ?_<;>(intro hb hd;rw[hb];clear hb))|(with_reducible refine aj ?_))
  refine bW hQ (Ap (List.ext_getElem? λj=>?_)) aI;by_cases hj:j<a.length
  .exact hr j hj
  .rw[List.getElem?_eq_none (by omega),List.getElem?_eq_none (by omega)]
theorem FM(K:Nat){x y:AV}{a b:List au}(hx:SL h n 5 x au.av a)(hy:SL h n 5 y au.av b)(hl:a.length<=1000000)(hQ:∀h' n',Up h n h' n'->Q (.b (DU a b)) h' n'):CW (EF (K+1)) 264 [x,y] h n Q:=by
 refine aD aei rfl ?_;repeat' (first|(simp (disch:=omega) only[go_sem,simprocAttr,YE,hx.len,hy.len])|(refine aT ?_ ?_<;>(intro hb hd;rw[hb];clear hb))|(with_reducible refine aj ?_))
 .refine bW hQ (wJ λe=>?_) aI
  subst e;omega
 have hab:a.length=b.length:=by omega
 refine gI a.length (λk=>∀j,j<k->a[j]?=b[j]?) h n (λk=>[(0,x),(1,y),(4,.b false)]) (by omega) (by omega) (by omega) (by omega) (λ_=>⟨rfl,rfl⟩) rfl rfl (by(repeat' (first|exact aR|refine aN rfl ?_))) aI (by omega) (λk h4 n4 hk hr u4=>?_) (λh4 n4 hr u4=>?_)
 .obtain⟨b1,o1,w1,i1,hw1,hb1,r1⟩:=hx.gD (k:=(k:Nat)) (by omega) (by omega) (by omega)
  obtain⟨b2,o2,w2,i2,hw2,hb2,r2⟩:=hy.gD (k:=(k:Nat)) (by omega) (by omega) (by omega);rw[show((k:Nat):Int).toNat=k by omega]at hw1 hw2;have u1:=u4.old b1 hb1;have u2:=u4.old b2 hb2;repeat' (first|(simp (disch:=omega) only[go_sem,simprocAttr,i1,i2,r1.all,r2.all,u1,u2])|(refine aT ?_ ?_<;>(intro hb hd;rw[hb];clear hb))|(with_reducible refine aj ?_))
  .refine bW hQ (wJ λe=>?_) aI
   subst e;rw[hw1]at hw2;cases hw2;simp_all [DU]
  .refine iB rfl rfl (λj hj=>?_) aI (by(repeat' (first|exact aR|refine aN rfl ?_)))
   by_cases e:j=k
   .subst e;rw[hw1,hw2];simp_all [DU]
   .exact hr j (by omega)
 .repeat' (first|(simp (disch:=omega) only[go_sem,simprocAttr])|(refine aT ?_ ?_<;>(intro hb hd;rw[hb];clear hb))|(with_reducible refine aj ?_))
  refine bW hQ (Ap (List.ext_getElem? λj=>?_)) aI;by_cases hj:j<a.length
  .exact hr j hj
  .rw[List.getElem?_eq_none (by omega),List.getElem?_eq_none (by omega)]
theorem Ic(K:Nat){tv':TS}{s':aH}(hS:bX h n tv s)(hS':bX h n tv' s')(l1:s.ah.length<=1000000)(l2:s.used.length<=1000000)(l3:s.marks.length<=1000000)(hQ:∀h' n',Up h n h' n'->Q (.b (DU s s')) h' n'):CW (EF (K+2)) 234 [.agg (tv.av s),.agg (tv'.av s')] h n Q:=by
 refine aD c234 rfl ?_;have key:DU s s'=(decide (s.day=s'.day)&&(DU s.ah s'.ah&&(DU s.used s'.used&&DU s.marks s'.marks))):=by
  unfold DU;obtain⟨a,b,c,d⟩:=s;obtain⟨a',b',c',d'⟩:=s';by_cases h1:a=a'<;>by_cases h2:b=b'<;>by_cases h3:c=c'<;>by_cases h4:d=d'<;>simp[h1,h2,h3,h4]
 repeat' (first|(simp (disch:=omega) only[go_sem,simprocAttr,ub.old,Uq,TS.av])|(simp (disch:=omega) only[go_sem,simprocAttr,Uq,TS.av])|((first|rw[aU]|rw[bR]);with_reducible refine Aq _ (hS.ah.up aI) (hS'.ah.up aI) l1 λh2 n2 u2=>?_;(first|replace ub:=Up.trans ub (Up.trans aI u2)|have ub:=u2);have hle:=ub.le;clear u2)|((first|rw[aU]|rw[bR]);with_reducible refine FL _ (hS.used.up aI) (hS'.used.up aI) l2 λh2 n2 u2=>?_;(first|replace ub:=Up.trans ub (Up.trans aI u2)|have ub:=u2);have hle:=ub.le;clear u2)|((first|rw[aU]|rw[bR]);with_reducible refine FM _ (hS.marks.up aI) (hS'.marks.up aI) l3 λh2 n2 u2=>?_;(first|replace ub:=Up.trans ub (Up.trans aI u2)|have ub:=u2);have hle:=ub.le;clear u2)|(refine aT ?_ ?_<;>(intro hb hd;rw[hb];clear hb))|(with_reducible refine aj ?_))
 all_goals(first|(with_reducible refine bW hQ ?_ aI;first|(simp[key,ieq];done)|(simp[key,ieq];omega)|(simp_all [key,ieq];done)|(simp_all [key,ieq];omega))|((with_reducible refine f_ hQ aI (λhz=>?_) (λhz=>?_))<;>first|(simp_all [key,ieq];done)|(simp_all [key,ieq];omega)))
theorem Ie(K:Nat)(hC:aY h n v C)(hS:bX h n tv s){i:Int}{a:dh}(h0:0<=i)(ha:C.acts[i.toNat]?=some a)(hr:a.role≠ -1->0<=a.role/\a.role<s.ah.length)(hQ:∀h' n',Up h n h' n'->Q (.i .i64 (bH s.ah a)) h' n'):CW (EF (K+1)) 103 [.agg (v.av C),.agg (tv.av s),.i .i64 i] h n Q:=by
 have hil:=(List.getElem?_eq_some_iff.1 ha).1;refine aD aed rfl ?_;repeat' (first|(simp (disch:=omega) only[go_sem,simprocAttr,YA,CS.av,TS.av])|(refine aT ?_ ?_<;>(intro hb hd;rw[hb];clear hb))|(with_reducible refine aj ?_))
 refine gZ hC.acts (by omega) (by omega) (by omega) λb o a' ha' hb rd=>?_;rw[ha]at ha';cases ha';repeat' (first|(simp (disch:=omega) only[go_sem,simprocAttr,rd.el,rd.hd,dh.av])|(refine aT ?_ ?_<;>(intro hb hd;rw[hb];clear hb))|(with_reducible refine aj ?_))
 .have:bH s.ah a= -1:=by simp_all [bH]
  rw[this]at hQ;exact hQ _ _ aI
 obtain⟨b2,o2,a2,i2,ha2,hb2,gu⟩:=hC.acts.gD (k:=i) (by omega) (by omega) (by omega);rw[ha]at ha2;cases ha2;have hr':=hr (by assumption);obtain⟨b3,o3,p,i3,hp,hb3,sj⟩:=hS.ah.gD (k:=a.role) (by omega) (by omega) (by omega);repeat' (first|(simp (disch:=omega) only[go_sem,simprocAttr,i2,gu.el,gu.hd,i3,sj.el,sj.hd])|(refine aT ?_ ?_<;>(intro hb hd;rw[hb];clear hb))|(with_reducible refine aj ?_))
 have:bH s.ah a=p:=by
  have e:(a.role== -1)=false:=by simp;assumption
  unfold bH gW;rw[e,hp];rfl
 rw[this]at hQ;exact hQ _ _ aI
theorem P9(K:Nat)(hC:aY h n v C)(ho:C.off.length<=1000000)(hS:bX h n tv s)(hs:C.dQ s=true){i:Int}{a:dh}(h0:0<=i)(ha:C.acts[i.toNat]?=some a)(hQ:∀h' n',Up h n h' n'->Q (.i .i64 (bH s.ah a)) h' n'):CW (EF (K+8)) 115 [.agg (v.av C),.agg (tv.av s),.i .i64 i] h n Q:=by
 have hil:=(List.getElem?_eq_some_iff.1 ha).1;have hst:=(dP C s).1 hs;have hr:a.role≠ -1->0<=a.role/\a.role<s.ah.length:=by
  have:=((aA.ok hst.con).act (List.mem_of_getElem? ha)).role;rw[hst.lh];exact this
 refine aD aeg rfl ?_;repeat' (first|(simp (disch:=omega) only[go_sem,simprocAttr,ub.old,Uo,CS.av,TS.av,hC.acts.len,hs])|(simp (disch:=omega) only[go_sem,simprocAttr,Uo,CS.av,TS.av,hC.acts.len,hs])|((first|rw[aU]|rw[bR]);with_reducible refine gQ _ (hC.up aI) ho (hS.up aI) λh2 n2 u2=>?_;(first|replace ub:=Up.trans ub (Up.trans aI u2)|have ub:=u2);have hle:=ub.le;clear u2)|((first|rw[aU]|rw[bR]);with_reducible refine Ie _ (hC.up aI) (hS.up aI) h0 ha hr λh2 n2 u2=>?_;(first|replace ub:=Up.trans ub (Up.trans aI u2)|have ub:=u2);have hle:=ub.le;clear u2)|(refine aT ?_ ?_<;>(intro hb hd;rw[hb];clear hb))|(with_reducible refine aj ?_))
 .exfalso;omega
 .exfalso;omega
 .exact hQ _ _ aI
end
end
section
noncomputable section
set_option maxRecDepth 1000000
set_option maxHeartbeats 4000000
def m45:MC:=vF 45
def c45:=vT 45 m45
def YH:MC:=vF 176
def aem:=vT 176 YH
def m97:MC:=vF 97
def c97:=vT 97 m97
def m98:MC:=vF 98
def c98:=vT 98 m98
def m96:MC:=vF 96
def c96:=vT 96 m96
def YI:MC:=vF 101
def aen:=vT 101 YI
def YJ:MC:=vF 102
def aeo:=vT 102 YJ
def YK:MC:=vF 100
def aep:=vT 100 YK
def Ut:MC:=vF 179
def aer:=vT 179 Ut
def m46:MC:=vF 46
def c46:=vT 46 m46
def m17:MC:=vF 17
def c17:=vT 17 m17
def m18:MC:=vF 18
def c18:=vT 18 m18
def m48:MC:=vF 48
def c48:=vT 48 m48
def Uu:MC:=vB 48 (jE 48 0)
def Uv:=vU 48 (jE 48 0) Uu
def FN:MC:=vB 48 (jF 48 0)
def Uw:=vU 48 (jF 48 0) FN
def m49:MC:=vF 49
def c49:=vT 49 m49
def Ux:MC:=vB 49 (jE 49 0)
def Uy:=vU 49 (jE 49 0) Ux
def FP:MC:=vB 49 (jF 49 0)
def Uz:=vU 49 (jF 49 0) FP
def UA:MC:=vB 49 (jE 49 1)
def UC:=vU 49 (jE 49 1) UA
def FQ:MC:=vB 49 (jF 49 1)
def UD:=vU 49 (jF 49 1) FQ
def YL:MC:=vF 104
def aew:=vT 104 YL
def P_:MC:=vB 104 (jE 104 0)
def Qa:=vU 104 (jE 104 0) P_
def Ig:MC:=vB 104 (jF 104 0)
def Qc:=vU 104 (jF 104 0) Ig
def m99:MC:=vF 99
def c99:=vT 99 m99
def YM:MC:=vF 178
def aey:=vT 178 YM
end
end
section
noncomputable section
def lH(st e w:Nat):MC:=(.seq (.reg [⟨none,(.mv (.c (.k 1))),(.k 2)⟩]) (.seq (.seq (.reg [⟨none,(.mv (.s 0)),.l⟩,⟨none,(.bin .eql st (.v 0) (.c (.k 1))),(.k 4)⟩]) (.cond (.s 4) (.seq (.reg [⟨none,(.mv (.c (.k 1))),(.k 2)⟩]) .ret) .skip)) (.seq (.reg [⟨none,(.KH e 0 [] []),.l⟩,⟨none,(.mv (.s 0)),.l⟩,⟨none,(.app e w (.v 1) (.v 0)),.l⟩,⟨none,(.mv (.v 0)),(.k 2)⟩]) .ret)))
structure DW(st:Nat):Prop where
 sl:∀b l o k c,(dY Tryz.prog st .eql).run (.sl b l o k c) (.k 1)=some (.b false)
 es:∀a c,(dY Tryz.prog st .eql).run (.es a c) (.k 1)=some (.b false)
 nl:(dY Tryz.prog st .eql).run (.k 1) (.k 1)=some (.b true)
theorem Qd{h:AH}{n e w b t:Nat}{y:AV}{α:Type}{c:α->List AV}{l:List α}(hb:h.get b=some (.row t []))(hy:SL h n w y c l)(hl:l.length<=1048576)(h0:l≠[]):(jq e w).run h n (.sl b 0 0 0 (some 0)) y= .ok (.sl n 0 0 l.length none) (h.set n (.row e (l.flatMap c))) (n+1):=by
 have hsrc:iZ h w 0 (.sl b 0 0 0 (some 0))=some []:=by
  show bnd (iD (h.get b) 0 _) (λr=>mO (Nat.mul 0 w) r)=_;rw[hb];show mO (0*w) (qH 0 [])=_;rw[qw,if_pos (by omega)];simp
 have hpos:0<l.length:=List.length_pos_iff.2 h0;rw[Ia,hy.ap.1];show aJ (iZ h w 0 (.sl b 0 0 0 (some 0))) _=_;rw[hsrc];show aJ (iZ h w l.length y) _=_;rw[hy.ap.2];show bc (Nat.ble (Nat.add 0 l.length) 1048576) (bc (Nat.ble (Nat.add 0 l.length) 0) _ (mk h n (.sl n 0 0 (Nat.add 0 l.length) none) (.row e (CK [] (l.flatMap c))))) .bad=_;have hf:Nat.ble l.length 0=false:=by
  cases hq:Nat.ble l.length 0 with
  |false=>rfl
  |true=>have:=Nat.le_of_ble_eq_true hq;omega
 rw[show Nat.add 0 l.length=l.length from Nat.zero_add _,Nat.ble_eq_true_of_le hl,bD,hf,fU];rfl
theorem eG{g st e w:Nat}(hc:yC Tryz.prog sl0 g=some ([true],lH st e w,[(.t 2)]))(hn:DW st)(K:Nat){h:AH}{n:Nat}{Q:AV->AH->Nat->Prop}{x:AV}{α:Type}{c:α->List AV}{a:List α}(hx:SL h n w x c a)(hl:a.length<=1000000)
 (hQ:∀v' h' n',Up h n h' n'->Gr h' n' e w v' c a->(∀x,blk v' x->n<=x)->(a≠[]->∃b,v'= .sl b 0 0 a.length none/\h'.get b=some (.row e (a.flatMap c))/\n<=b/\b<n')->Q v' h' n')(hg:Nat.beq g KL=false:=by rfl)(hg':Nat.beq g OA=false:=by rfl):CW (EF (K+1)) g [x] h n Q:=by
 obtain⟨hw,hs⟩:=hx;have hx:SL h n w x c a:=⟨hw,hs⟩;have hcase:(x= .k 1/\a=[])\/(dY Tryz.prog st .eql).run x (.k 1)=some (.b false):=by
  rcases hs with⟨rfl,e2,e3⟩|⟨b,lo,o,cp,rfl,_⟩|⟨a0,c0,rfl,_⟩
  .exact .inl ⟨rfl,List.length_eq_zero_iff.1 e2⟩
  .exact .inr (hn.sl _ _ _ _ _)
  .exact .inr (hn.es _ _)
 rcases hcase with⟨rfl,rfl⟩|hv
 .refine aD hc rfl ?_ hg hg'
  repeat' (first|(simp (disch:=omega) only[go_sem,simprocAttr,lH,hn.nl])|(refine aT ?_ ?_<;>(intro hb hd;rw[hb];clear hb))|(with_reducible refine aj ?_))
  exact hQ _ _ _ aI (Gr.nil hw) (λx hx=>absurd hx fA) λh=>absurd rfl h
 .refine aD hc rfl ?_ hg hg'
  simp (disch:=omega) only[go_sem,simprocAttr,lH,hv];have u1:Up h n (Tr.set h n (.row e [])) (n+1):=by exact aI
  by_cases h0:a=[]
  .subst h0
   have g0:Gr (Tr.set h n (.row e [])) (n+1) e w (.sl n 0 0 0 (some 0)) c []:=Gr.of (l:=[]) hw (Nat.lt_succ_self n) aG (by simp) (Nat.le_refl _) (by simp);obtain⟨v',h',n',r1,r2,r3,r4,r5⟩:=g0.app (hx.up u1).ap.1 (hx.up u1).ap.2 (by simp);rw[List.nil_append]at r2;try simp only[List.length_nil]at r1
   simp (disch:=omega) only[go_sem,simprocAttr,r1];refine hQ _ _ _ ⟨by omega,λy hy=>by rw[r4 y (by omega) (λhb=>by rw[d_]at hb;omega),ay (by omega)]⟩ r2 (λy hy=>?_) λh=>absurd rfl h;rcases r5 y hy with hb|hb
   .rw[d_]at hb;omega
   .omega
  .simp (disch:=omega) only[go_sem,simprocAttr,Qd (e:=e) (aG (t:=h) (n:=n) (v:=AO.row e [])) (hx.up u1) (by omega) h0]
   refine hQ _ _ _ aI ⟨hw,.inr ⟨_,none,_,rfl,Nat.lt_succ_self _,aG,by rw[<-bJ hw,List.take_length],by rw[bJ hw];exact Nat.le_refl _,λ_=>bJ hw _,λk hk=>by cases hk⟩⟩ (λy hy=>?_) λ_=>⟨_,rfl,aG,by omega,by omega⟩;rw[d_]at hy;omega
theorem zh:DW 22:=⟨λ_ _ _ _ _=>by kernel_rfl,λ_ _=>by kernel_rfl,by kernel_rfl⟩
theorem R_:DW 40:=⟨λ_ _ _ _ _=>by kernel_rfl,λ_ _=>by kernel_rfl,by kernel_rfl⟩
theorem YN:DW 41:=⟨λ_ _ _ _ _=>by kernel_rfl,λ_ _=>by kernel_rfl,by kernel_rfl⟩
theorem UE:yC Tryz.prog sl0 45=some ([true],lH 22 3 1,[(.t 2)]):=by kernel_rfl
theorem YO:yC Tryz.prog sl0 229=some ([true],lH 40 4 1,[(.t 2)]):=by kernel_rfl
theorem aez:yC Tryz.prog sl0 230=some ([true],lH 41 144 5,[(.t 2)]):=by kernel_rfl
end
end
section
noncomputable section
def bK(l:List au)(i:Nat):au:=l.getD i ⟨0,0,0,0,false⟩
theorem gG{l:List au}{i:Nat}(h:i<l.length):l[i]?=some (bK l i):=by
 unfold bK;rw[List.getD_eq_getElem?_getD,List.getElem?_eq_getElem h];rfl
abbrev ci(x:Int):List AV:=[.i .i64 x]
abbrev cb(x:Bool):List AV:=[.b x]
section
variable {P:Program} {S:SK} {d:MD} {r:List MR} {l':List AV} {s:List It} {f:FT} {h:AH} {n:Nat} {F:Fm} {Q:PQ}
theorem bZ{w b len i:Nat}{c:Option Nat}(hi:i<len):RQ S w (some (.sl b 0 0 len c)) (some (.i .i64 (i:Nat))) d r l' s f h n F Q=mP S d (.p b (i*w)) r l' s f h n F Q:=by
 show IA w (.sl b 0 0 len c) i (λp=>mP S d p r l' s f h n F Q)=_;apply propext;constructor
 .rintro⟨b',lo,o,m,c',e,h1,h2,q⟩
  cases e
  simpa using q
 .intro q
  exact⟨b,0,0,len,c,rfl,by omega,by omega,by simpa using q⟩
theorem bS{w b len i:Nat}{c:Option Nat}(hi:i<len):gD w (some (.sl b 0 0 len c)) (some (.i .i64 (i:Nat)))=some (.p b (i*w)):=by
 show(if 0<=(i:Int)/\(i:Int)<(len:Nat)then some (AV.p b (0+(i:Int).toNat*w))else none)=_;rw[if_pos ⟨by omega,by omega⟩];simp
theorem um{α:Type}{c:α->List AV}{w e:Nat}(hw:∀a,(c a).length=w){l:List α}{i:Nat}{a:α}(hi:l[i]?=some a){j:Nat}(hj:j<w):qX (some (.row e (l.flatMap c))) (i*w+j) none=(c a)[j]?:=vG hw hi hj
theorem MH{α:Type}{c:α->List AV}{w e:Nat}(hw:∀a,(c a).length=w){l:List α}{i:Nat}{a:α}(hi:l[i]?=some a):qX (some (.row e (l.flatMap c))) (i*w) (some w)=some (.agg (c a)):=by
 have hlt:=(List.getElem?_eq_some_iff.1 hi).1;have hm:(i+1)*w<=l.length*w:=Nat.mul_le_mul_right w hlt;rw[Nat.succ_mul]at hm;show(if i*w+w<=(l.flatMap c).length then some (AV.agg (((l.flatMap c).drop (i*w)).take w))else none)=_;rw[if_pos (by rw[bJ hw];omega),nA hw hi]
section
variable {e i:Nat} {l:List au} {x:Int} {b:Bool}
theorem aeA(h:i<l.length):qX (some (.row e (l.flatMap au.av))) (i*5) none=some (.i .i64 (bK l i).status):=um (c:=au.av) (w:=5) (λ_=>rfl) (gG h) (j:=0) (by omega)
theorem YP(h:i<l.length):qX (some (.row e (l.flatMap au.av))) (i*5+1) none=some (.i .i64 (bK l i).left):=um (c:=au.av) (w:=5) (λ_=>rfl) (gG h) (by omega)
theorem aeB(h:i<l.length):qX (some (.row e (l.flatMap au.av))) (i*5+2) none=some (.i .i64 (bK l i).got):=um (c:=au.av) (w:=5) (λ_=>rfl) (gG h) (by omega)
theorem YQ(h:i<l.length):qX (some (.row e (l.flatMap au.av))) (i*5+3) none=some (.i .i64 (bK l i).aO):=um (c:=au.av) (w:=5) (λ_=>rfl) (gG h) (by omega)
theorem UG(h:i<l.length):qX (some (.row e (l.flatMap au.av))) (i*5+4) none=some (.b (bK l i).paused):=um (c:=au.av) (w:=5) (λ_=>rfl) (gG h) (by omega)
theorem rdm(h:i<l.length):qX (some (.row e (l.flatMap au.av))) (i*5) (some 5)=some (.agg (bK l i).av):=MH (c:=au.av) (w:=5) (λ_=>rfl) (gG h)
theorem mo{l:List au}{m:au}{i j:Nat}{v:AV}(h:i<l.length)(hm:m.av=(bK l i).av.set j v)(hj:j<5):fu (some (.row e (l.flatMap au.av))) (i*5+j) (some [v])=some (.row e ((l.set i m).flatMap au.av)):=by
 have h1:=qC (e:=e) (c:=au.av) (w:=5) (λ_=>rfl) (l:=l) (i:=i) (a:=m) h;unfold fu at h1⊢;dsimp only at h1⊢;have YF:(i+1)*5<=l.length*5:=Nat.mul_le_mul_right 5 h;have hfl:(l.flatMap au.av).length=l.length*5:=bJ (c:=au.av) (w:=5) (λ_=>rfl) l;have hat:((l.flatMap au.av).drop (i*5)).take 5=(bK l i).av:=nA (c:=au.av) (w:=5) (λ_=>rfl) (gG h);have key:oh [v] (i*5+j) (l.flatMap au.av)=oh m.av (i*5) (l.flatMap au.av):=by
  unfold oh;rw[if_pos (by rw[hfl];simp;omega),if_pos (by rw[hfl];show i*5+5<=_;omega)];congr 1;rw[hm];generalize hL:l.flatMap au.av=L at*;have DX:(bK l i).av.length=5:=rfl;have hsplit:L=L.take (i*5)++((bK l i).av++L.drop (i*5+5)):=by
   rw[<-hat,<-List.drop_drop,List.take_append_drop,List.take_append_drop]
  rw[List.length_set,DX];show L.take (i*5+j)++v::L.drop (i*5+j+1)=L.take (i*5)++((bK l i).av.set j v++L.drop (i*5+5));have e1:L.set (i*5+j) v=L.take (i*5+j)++v::L.drop (i*5+j+1):=by rw[List.set_eq_take_append_cons_drop,if_pos (by omega)]
  rw[<-e1];have e2:(L.take (i*5)++((bK l i).av++L.drop (i*5+5))).set (i*5+j) v=L.take (i*5)++((bK l i).av.set j v++L.drop (i*5+5)):=by
   rw[List.set_append,List.length_take,Nat.min_eq_left (by omega),if_neg (by omega),List.set_append,show i*5+j - i*5=j by omega,if_pos (by rw[DX];omega)]
  rw[<-e2,<-hsplit]
 rw[key];exact h1
theorem YR(h:i<l.length):fu (some (.row e (l.flatMap au.av))) (i*5) (some [.i .i64 x])=some (.row e ((l.set i ⟨x,(bK l i).left,(bK l i).got,(bK l i).aO,(bK l i).paused⟩).flatMap au.av)):=mo (j:=0) h rfl (by omega)
theorem YS(h:i<l.length):fu (some (.row e (l.flatMap au.av))) (i*5+1) (some [.i .i64 x])=some (.row e ((l.set i ⟨(bK l i).status,x,(bK l i).got,(bK l i).aO,(bK l i).paused⟩).flatMap au.av)):=mo h rfl (by omega)
theorem aeC(h:i<l.length):fu (some (.row e (l.flatMap au.av))) (i*5+2) (some [.i .i64 x])=some (.row e ((l.set i ⟨(bK l i).status,(bK l i).left,x,(bK l i).aO,(bK l i).paused⟩).flatMap au.av)):=mo h rfl (by omega)
theorem aeD(h:i<l.length):fu (some (.row e (l.flatMap au.av))) (i*5+3) (some [.i .i64 x])=some (.row e ((l.set i ⟨(bK l i).status,(bK l i).left,(bK l i).got,x,(bK l i).paused⟩).flatMap au.av)):=mo h rfl (by omega)
theorem YU(h:i<l.length):fu (some (.row e (l.flatMap au.av))) (i*5+4) (some [.b b])=some (.row e ((l.set i ⟨(bK l i).status,(bK l i).left,(bK l i).got,(bK l i).aO,b⟩).flatMap au.av)):=mo h rfl (by omega)
theorem stm(h:i<l.length)(m:au):fu (some (.row e (l.flatMap au.av))) (i*5) (some m.av)=some (.row e ((l.set i m).flatMap au.av)):=qC (c:=au.av) (w:=5) (λ_=>rfl) h
theorem Sb(h:i<l.length){m:au}:qX (some (.row e ((l.set i m).flatMap au.av))) (i*5+1) none=some (.i .i64 m.left):=um (c:=au.av) (w:=5) (λ_=>rfl) (List.getElem?_set_self h) (by omega)
theorem YV(h:i<l.length){m:au}:qX (some (.row e ((l.set i m).flatMap au.av))) (i*5+2) none=some (.i .i64 m.got):=um (c:=au.av) (w:=5) (λ_=>rfl) (List.getElem?_set_self h) (by omega)
theorem vQ{m m':au}{j:Nat}{v:AV}(h:i<l.length)(hm:m'.av=m.av.set j v)(hj:j<5):fu (some (.row e ((l.set i m).flatMap au.av))) (i*5+j) (some [v])=some (.row e ((l.set i m').flatMap au.av)):=by
 have hs:bK (l.set i m) i=m:=by unfold bK;rw[List.getD_eq_getElem?_getD,List.getElem?_set_self h];rfl
 have:=mo (e:=e) (l:=l.set i m) (m:=m') (i:=i) (j:=j) (v:=v) (by rw[List.length_set];exact h) (by rw[hs];exact hm) hj;rw[this,show(l.set i m).set i m'=l.set i m' by simp]
theorem Sc(h:i<l.length){m:au}:fu (some (.row e ((l.set i m).flatMap au.av))) (i*5) (some [.i .i64 x])=some (.row e ((l.set i ⟨x,m.left,m.got,m.aO,m.paused⟩).flatMap au.av)):=vQ (j:=0) h rfl (by omega)
theorem Sd(h:i<l.length){m:au}:fu (some (.row e ((l.set i m).flatMap au.av))) (i*5+1) (some [.i .i64 x])=some (.row e ((l.set i ⟨m.status,x,m.got,m.aO,m.paused⟩).flatMap au.av)):=vQ h rfl (by omega)
theorem YW(h:i<l.length){m:au}:fu (some (.row e ((l.set i m).flatMap au.av))) (i*5+4) (some [.b b])=some (.row e ((l.set i ⟨m.status,m.left,m.got,m.aO,b⟩).flatMap au.av)):=vQ h rfl (by omega)
theorem uq(h:i<l.length)(m:au):bK (l.set i m) i=m:=by unfold bK;rw[List.getD_eq_getElem?_getD,List.getElem?_set_self h];rfl
end
end
structure UX(X:Nat->Prop)(h:AH)(n:Nat)(h':AH)(n':Nat):Prop where
 le:n<=n'
 old:∀x,x<n->¬X x->h'.get x=h.get x
section
variable {X:Nat->Prop} {h h1 h2:AH} {n n1 n2:Nat}
theorem UX.refl:UX X h n h n:=⟨Nat.le_refl _,λ_ _ _=>rfl⟩
theorem UX.trans(a:UX X h n h1 n1)(b:UX X h1 n1 h2 n2):UX X h n h2 n2:=⟨Nat.le_trans a.le b.le,λx hx hX=>(b.old x (Nat.lt_of_lt_of_le hx a.le) hX).trans (a.old x hx hX)⟩
theorem UX.up(u:Up h n h1 n1):UX X h n h1 n1:=⟨u.le,λx hx _=>u.old x hx⟩
theorem UX.set{b m:Nat}{o:AO}(a:UX X h n h1 n1)(hb:X b\/n<=b)(hm:n1<=m):UX X h n (h1.set b o) m:=⟨Nat.le_trans a.le hm,λx hx hX=>by rw[ay (by rintro rfl;rcases hb with e|e;exact hX e;omega)];exact a.old x hx hX⟩
theorem UX.UH(a:UX X h n h1 n1)(hX:∀x,X x->n<=x):Up h n h1 n1:=⟨a.le,λx hx=>a.old x hx λe=>by have:=hX x e;omega⟩
end
structure WB where
 B:Nat
 g:Nat
 bh:Nat
 bu:Nat
 bm:Nat
 ch:Option Nat
 cu:Option Nat
 cm:Option Nat
def WB.X(b:WB)(x:Nat):Prop:=x=b.g\/x=b.bh\/x=b.bu\/x=b.bm
@[reducible] def WB.tv (b:WB) (s:aH):TS:=⟨.sl b.bh 0 0 s.ah.length b.ch,.sl b.bu 0 0 s.used.length b.cu,.sl b.bm 0 0 s.marks.length b.cm⟩
@[reducible] def WB.cells (b:WB) (v:CS) (C:aA) (s:aH):List AV:=[.i .i64 C.aC,v.h,v.u,v.a,v.k,.i .i64 C.days,v.o,.i .i64 s.day,.sl b.bh 0 0 s.ah.length b.ch,.sl b.bu 0 0 s.used.length b.cu,.sl b.bm 0 0 s.marks.length b.cm]
structure Wk(h:AH)(n:Nat)(b:WB)(v:CS)(C:aA)(s:aH):Prop where
 row:h.get b.g=some (.row 142 (b.cells v C s))
 hs:h.get b.bh=some (.row 3 (s.ah.flatMap ci))
 us:h.get b.bu=some (.row 4 (s.used.flatMap cb))
 ms:h.get b.bm=some (.row 144 (s.marks.flatMap au.av))
 lg:b.g<n
 lh:b.bh<n
 lu:b.bu<n
 lm:b.bm<n
 kh:∀k,b.ch=some k->s.ah.length<=k
 ku:∀k,b.cu=some k->s.used.length<=k
 km:∀k,b.cm=some k->s.marks.length<=k
 ge:b.B<=b.g/\b.B<=b.bh/\b.B<=b.bu/\b.B<=b.bm
 con:Kp (λx=>b.B<=x) h n λh n=>aY h n v C
section
variable {h h':AH} {n n':Nat} {b:WB} {v:CS} {C:aA} {s:aH} {Q:AV->AH->Nat->Prop}
theorem Wk.ne(w:Wk h n b v C s):b.g≠b.bh/\b.g≠b.bu/\b.g≠b.bm/\b.bh≠b.bu/\b.bh≠b.bm/\b.bu≠b.bm:=by
 refine⟨λe=>?_,λe=>?_,λe=>?_,λe=>?_,λe=>?_,λe=>?_⟩
 .have:=w.row;rw[e,w.hs]at this;cases this
 .have:=w.row;rw[e,w.us]at this;cases this
 .have:=w.row;rw[e,w.ms]at this;cases this
 .have:=w.hs;rw[e,w.us]at this;cases this
 .have:=w.hs;rw[e,w.ms]at this;cases this
 .have:=w.us;rw[e,w.ms]at this;cases this
theorem Wk.jm(w:Wk h n b v C s):aY h n v C:=w.con.use
theorem Wk.st(w:Wk h n b v C s):bX h n (b.tv s) s:=
 ⟨SL.of (λ_=>rfl) w.lh w.hs rfl rfl w.kh,SL.of (λ_=>rfl) w.lu w.us rfl rfl w.ku,SL.of (λ_=>rfl) w.lm w.ms rfl rfl w.km⟩
theorem Wk.on(w:Wk h n b v C s)(hn:n<=n')(e:∀x,x<n->h'.get x=h.get x):Wk h' n' b v C s where
 row:=(e _ w.lg).trans w.row
 hs:=(e _ w.lh).trans w.hs
 us:=(e _ w.lu).trans w.us
 ms:=(e _ w.lm).trans w.ms
 lg:=Nat.lt_of_lt_of_le w.lg hn
 lh:=Nat.lt_of_lt_of_le w.lh hn
 lu:=Nat.lt_of_lt_of_le w.lu hn
 lm:=Nat.lt_of_lt_of_le w.lm hn
 kh:=w.kh
 ku:=w.ku
 km:=w.km
 ge:=w.ge
 con:=w.con.on hn λx hx _=>e x hx
theorem Wk.up(w:Wk h n b v C s)(u:Up h n h' n'):Wk h' n' b v C s:=w.on u.le u.old
theorem Wk.FU(w:Wk h n b v C s){x:Nat}{o:AO}(hx:¬b.X x)(hB:b.B<=x):Wk (h.set x o) n b v C s where
 row:=(ay λe=>hx (.inl e.symm)).trans w.row
 hs:=(ay λe=>hx (.inr (.inl e.symm))).trans w.hs
 us:=(ay λe=>hx (.inr (.inr (.inl e.symm)))).trans w.us
 ms:=(ay λe=>hx (.inr (.inr (.inr e.symm)))).trans w.ms
 lg:=w.lg
 lh:=w.lh
 lu:=w.lu
 lm:=w.lm
 kh:=w.kh
 ku:=w.ku
 km:=w.km
 ge:=w.ge
 con:=w.con.set (.inl hB) (Nat.le_refl _)
theorem Wk.lt(w:Wk h n b v C s){x:Nat}(hx:b.X x):x<n:=by
 rcases hx with rfl|rfl|rfl|rfl
 .exact w.lg
 .exact w.lh
 .exact w.lu
 .exact w.lm
theorem Wk.qN(w:Wk h n b v C s){ms:List au}(hl:ms.length=s.marks.length):Wk (h.set b.bm (.row 144 (ms.flatMap au.av))) n b v C ⟨s.day,s.ah,s.used,ms⟩:=by
 obtain⟨n1,n2,n3,n4,n5,n6⟩:=w.ne;have hr:=w.row;refine⟨?_,(ay n5).trans w.hs,(ay n6).trans w.us,aG,w.lg,w.lh,w.lu,w.lm,w.kh,w.ku,λk hk=>by rw[hl];exact w.km k hk,w.ge,w.con.set (.inl w.ge.2.2.2) (Nat.le_refl _)⟩;rw[ay n3,hr];simp only[WB.cells,hl]
theorem Wk.setH(w:Wk h n b v C s){hs:List Int}(hl:hs.length=s.ah.length):Wk (h.set b.bh (.row 3 (hs.flatMap ci))) n b v C ⟨s.day,hs,s.used,s.marks⟩:=by
 obtain⟨n1,n2,n3,n4,n5,n6⟩:=w.ne;have hr:=w.row;refine⟨?_,aG,(ay n4.symm).trans w.us,(ay n5.symm).trans w.ms,w.lg,w.lh,w.lu,w.lm,λk hk=>by rw[hl];exact w.kh k hk,w.ku,w.km,w.ge,w.con.set (.inl w.ge.2.1) (Nat.le_refl _)⟩;rw[ay n1,hr];simp only[WB.cells,hl]
theorem Wk.YX(w:Wk h n b v C s){us:List Bool}(hl:us.length=s.used.length):Wk (h.set b.bu (.row 4 (us.flatMap cb))) n b v C ⟨s.day,s.ah,us,s.marks⟩:=by
 obtain⟨n1,n2,n3,n4,n5,n6⟩:=w.ne;have hr:=w.row;refine⟨?_,(ay n4).trans w.hs,aG,(ay n6.symm).trans w.ms,w.lg,w.lh,w.lu,w.lm,w.kh,λk hk=>by rw[hl];exact w.ku k hk,w.km,w.ge,w.con.set (.inl w.ge.2.2.1) (Nat.le_refl _)⟩;rw[ay n2,hr];simp only[WB.cells,hl]
theorem Wk.aeF(w:Wk h n b v C s){d:Int}:Wk (h.set b.g (.row 142 (b.cells v C ⟨d,s.ah,s.used,s.marks⟩))) n b v C ⟨d,s.ah,s.used,s.marks⟩:=by
 obtain⟨n1,n2,n3,n4,n5,n6⟩:=w.ne;exact⟨aG,(ay n1.symm).trans w.hs,(ay n2.symm).trans w.us,(ay n3.symm).trans w.ms,w.lg,w.lh,w.lu,w.lm,w.kh,w.ku,w.km,w.ge,w.con.set (.inl w.ge.1) (Nat.le_refl _)⟩
theorem WB.ux(b:WB){h:AH}{n:Nat}{x:Nat}{o:AO}(hx:b.X x):UX b.X h n (h.set x o) n:=UX.refl.set (.inl hx) (Nat.le_refl _)
theorem zi(K:Nat)(w:Wk h n b v C s){i:Nat}(hi:i<s.marks.length)(st:Int)(hQ:∀h' n',Wk h' n' b v C ⟨s.day,s.ah,s.used,s.marks.set i ((bK s.marks i).ended st)⟩->UX b.X h n h' n'->Q (.bQ []) h' n'):CW (EF (K+1)) 176 [.p b.g 0,.i .i64 (i:Nat),.i .i64 st] h n Q:=by
 obtain⟨n1,n2,n3,n4,n5,n6⟩:=w.ne;refine aD aem rfl ?_;repeat' (first|(simp (disch:=omega) only[go_sem,simprocAttr,YH,w.row,w.ms,WB.cells,bS hi,YR hi,Sd hi,YW hi])|(refine aT ?_ ?_<;>(intro hb hd;rw[hb];clear hb))|(with_reducible refine aj ?_))
 refine hQ _ _ (((w.qN (ms:=s.marks.set i ⟨st,(bK s.marks i).left,(bK s.marks i).got,(bK s.marks i).aO,(bK s.marks i).paused⟩) ?_).qN (ms:=s.marks.set i ⟨st,0,(bK s.marks i).got,(bK s.marks i).aO,(bK s.marks i).paused⟩) ?_).qN ?_) (((UX.refl.set (.inl (.inr (.inr (.inr rfl)))) (Nat.le_refl _)).set (.inl (.inr (.inr (.inr rfl)))) (Nat.le_refl _)).set (.inl (.inr (.inr (.inr rfl)))) (Nat.le_refl _))<;>simp
end
end
end
noncomputable section
theorem aY.Sg{h:AH}{n:Nat}{v:CS}{C:aA}(hs:aY h n v C){i:Nat}(hi:i<C.clauses.length):
 ∃b o a t,gD 16 (some v.k) (some (.i .i64 (i:Nat)))=some (.p b o)/\C.clauses[i]?=some a/\b<n/\SL h n 2 t bN.av a.start/\RD h b o 16 (a.av t):=by
 obtain⟨ss,e1,e2,e3⟩:=hs.clauses;obtain⟨a,ha⟩:∃a,C.clauses[i]?=some a:=⟨C.clauses[i],List.getElem?_eq_some_iff.2 ⟨hi,rfl⟩⟩;obtain⟨t,ht⟩:∃t,ss[i]?=some t:=⟨ss[i],List.getElem?_eq_some_iff.2 ⟨by omega,rfl⟩⟩;have hz:(C.clauses.zip ss)[i]?=some (a,t):=by rw[List.getElem?_zip_eq_some];exact⟨ha,ht⟩
 have hl:(C.clauses.zip ss).length=C.clauses.length:=by simp[e1]
 have hS:SL h n 16 v.k (λp:aF×AV=>p.1.av p.2) (C.clauses.zip ss):=⟨λ_=>rfl,by rw[hl];exact e2⟩;obtain⟨b,o,p,h1,h2,h3,h4⟩:=hS.gD (k:=(i:Nat)) (by omega) (by omega) (by omega);rw[show((i:Nat):Int).toNat=i by omega,hz]at h2;cases h2
 exact⟨b,o,a,t,h1,ha,h3,e3 i a t ha ht,h4⟩
theorem aK{S:SK}{w:Nat}{x:AV}{k:Int}{d:MD}{r:List MR}{l:List AV}{s:List It}{f:FT}{h:AH}{n:Nat}{F:Fm}{Q:PQ}{p:AV}(e:gD w (some x) (some (.i .i64 k))=some p):RQ S w (some x) (some (.i .i64 k)) d r l s f h n F Q=mP S d p r l s f h n F Q:=by
 show IA w x k (λp=>mP S d p r l s f h n F Q)=_;unfold gD at e;split at e
 case h_2=>cases e
 rename_i b lo o m c j k' e1 e2;cases e1
 cases e2
 split at e
 case isFalse=>cases e
 rename_i hk;cases e
 apply propext;constructor
 .rintro⟨b',lo',o',m',c',e,_,_,q⟩
  cases e
  exact q
 .intro q
  exact⟨b,lo,o,m,c,rfl,hk.1,hk.2,q⟩
section
variable {h h':AH} {n n':Nat} {b:WB} {v:CS} {C:aA} {s:aH} {Q:AV->AH->Nat->Prop}
abbrev aH.eH(s:aH)(ms:List au):aH:=⟨s.day,s.ah,s.used,ms⟩
abbrev YZ(b:WB)(v:CS)(C:aA)(s:aH)(i:Nat)(m:au)(h:AH)(n:Nat)(Q:AV->AH->Nat->Prop):Prop:=∀h' n',Wk h' n' b v C (s.eH (s.marks.set i m))->UX b.X h n h' n'->Q (.bQ []) h' n'
theorem WB.xm(b:WB):b.X b.bm:=.inr (.inr (.inr rfl))
theorem Ce(K:Nat)(w:Wk h n b v C s){i:Nat}(hi:i<s.marks.length)(hQ:YZ b v C s i ((bK s.marks i).ended 3) h n Q):CW (EF (K+2)) 97 [.p b.g 0,.i .i64 (i:Nat)] h n Q:=by
 refine aD c97 rfl ?_;repeat' (first|(simp (disch:=omega) only[go_sem,simprocAttr,m97])|(refine aT ?_ ?_<;>(intro hb hd;rw[hb];clear hb))|(with_reducible refine aj ?_))
 rw[aU];refine zi _ w hi 3 λh' n' w' u=>?_;repeat' (first|(simp (disch:=omega) only[go_sem,simprocAttr])|(refine aT ?_ ?_<;>(intro hb hd;rw[hb];clear hb))|(with_reducible refine aj ?_))
 exact hQ _ _ w' u
theorem DY(K:Nat)(w:Wk h n b v C s){i:Nat}(hi:i<s.marks.length)(hQ:YZ b v C s i ((bK s.marks i).ended 5) h n Q):CW (EF (K+2)) 98 [.p b.g 0,.i .i64 (i:Nat)] h n Q:=by
 refine aD c98 rfl ?_;repeat' (first|(simp (disch:=omega) only[go_sem,simprocAttr,m98])|(refine aT ?_ ?_<;>(intro hb hd;rw[hb];clear hb))|(with_reducible refine aj ?_))
 rw[aU];refine zi _ w hi 5 λh' n' w' u=>?_;repeat' (first|(simp (disch:=omega) only[go_sem,simprocAttr])|(refine aT ?_ ?_<;>(intro hb hd;rw[hb];clear hb))|(with_reducible refine aj ?_))
 exact hQ _ _ w' u
theorem Wk.same(w:Wk h n b v C s){i:Nat}(hi:i<s.marks.length):s.eH (s.marks.set i (bK s.marks i))=s:=by
 obtain⟨d,hs,us,ms⟩:=s;show aH.mk d hs us (ms.set i (bK ms i))=_;congr 1;refine List.ext_getElem? λj=>?_;rw[List.getElem?_set];by_cases e:i=j
 .subst e;rw[if_pos rfl,if_pos hi];exact(gG hi).symm
 .rw[if_neg e]
theorem FV(K:Nat)(w:Wk h n b v C s){i:Nat}(hi:i<s.marks.length)(hQ:YZ b v C s i (bK s.marks i).violated h n Q):CW (EF (K+2)) 102 [.p b.g 0,.i .i64 (i:Nat)] h n Q:=by
 refine aD aeo rfl ?_;repeat' (first|(simp (disch:=omega) only[go_sem,simprocAttr,YJ,w.row,w.ms,WB.cells,bZ hi,UG hi])|(refine aT ?_ ?_<;>(intro hb hd;rw[hb];clear hb))|(with_reducible refine aj ?_))
 .rw[aU]
  refine zi _ w hi 4 λh' n' w' u=>?_;repeat' (first|(simp (disch:=omega) only[go_sem,simprocAttr])|(refine aT ?_ ?_<;>(intro hb hd;rw[hb];clear hb))|(with_reducible refine aj ?_))
  refine hQ _ _ ?_ u;unfold au.violated;simp_all
 .refine hQ _ _ ?_ UX.refl
  unfold au.violated;rw[hd,cond_true,w.same hi];exact w
theorem FW(K:Nat)(w:Wk h n b v C s){i:Nat}(hi:i<s.marks.length)(hg:(bK s.marks i).got<=1000000)(hg0: -1000000<=(bK s.marks i).got){k:aF}(hk:C.clauses[i]?=some k)(hQ:YZ b v C s i ((bK s.marks i).performed k.need) h n Q):CW (EF (K+2)) 101 [.p b.g 0,.i .i64 (i:Nat)] h n Q:=by
 obtain⟨n1,n2,n3,n4,n5,n6⟩:=w.ne;have w1:=w.qN (ms:=s.marks.set i ⟨(bK s.marks i).status,(bK s.marks i).left,(bK s.marks i).got+1,(bK s.marks i).aO,(bK s.marks i).paused⟩) (by simp);have u1:=b.ux (h:=h) (n:=n) (o:=.row 144 ((s.marks.set i ⟨(bK s.marks i).status,(bK s.marks i).left,(bK s.marks i).got+1,(bK s.marks i).aO,(bK s.marks i).paused⟩).flatMap au.av)) b.xm;obtain⟨cb,co,k',t,i1,i2,i3,i4,rd⟩:=w1.jm.Sg (i:=i) (List.getElem?_eq_some_iff.1 hk).1;rw[hk]at i2;cases i2;have hi1:i<(s.marks.set i ⟨(bK s.marks i).status,(bK s.marks i).left,(bK s.marks i).got+1,(bK s.marks i).aO,(bK s.marks i).paused⟩).length:=by simpa using hi
 have wid:gK .i64 ((bK s.marks i).got+1)=(bK s.marks i).got+1:=dJ (by omega) (by omega);refine aD aen rfl ?_;repeat' (first|(simp (disch:=omega) only[go_sem,simprocAttr,YI,wid,w.row,w.ms,WB.cells,bZ hi,bS hi,aeB hi,aeC hi,YV hi,i1,rd.el,rd.hd])|(refine aT ?_ ?_<;>(intro hb hd;rw[hb];clear hb))|(with_reducible refine aj ?_))
 .rw[aU]
  refine zi _ w1 hi1 3 λh' n' w' u=>?_;repeat' (first|(simp (disch:=omega) only[go_sem,simprocAttr])|(refine aT ?_ ?_<;>(intro hb hd;rw[hb];clear hb))|(with_reducible refine aj ?_))
  refine hQ _ _ ?_ (u1.trans u);have e:(bK s.marks i).performed k.need=au.ended ⟨(bK s.marks i).status,(bK s.marks i).left,(bK s.marks i).got+1,(bK s.marks i).aO,(bK s.marks i).paused⟩ 3:=by
   unfold au.performed;rw[show((bK s.marks i).got+1==k.need)=true by simpa using hd];rfl
  rw[e];simpa [uq hi]using w'
 .refine hQ _ _ ?_ u1
  have e:(bK s.marks i).performed k.need=⟨(bK s.marks i).status,(bK s.marks i).left,(bK s.marks i).got+1,(bK s.marks i).aO,(bK s.marks i).paused⟩:=by
   unfold au.performed;rw[show((bK s.marks i).got+1==k.need)=false by simpa using hd];rfl
  rw[e];exact w1
theorem JB(K:Nat)(w:Wk h n b v C s){i:Nat}(hi:i<s.marks.length){k:aF}(hk:C.clauses[i]?=some k)(hQ:YZ b v C s i ((bK s.marks i).expired k.gF) h n Q):CW (EF (K+2)) 96 [.p b.g 0,.i .i64 (i:Nat)] h n Q:=by
 obtain⟨n1,n2,n3,n4,n5,n6⟩:=w.ne;obtain⟨cb,co,k',t,i1,i2,i3,i4,rd⟩:=w.jm.Sg (i:=i) (List.getElem?_eq_some_iff.1 hk).1;rw[hk]at i2;cases i2;refine aD c96 rfl ?_;repeat' (first|(simp (disch:=omega) only[go_sem,simprocAttr,m96,w.row,w.ms,WB.cells,bZ hi,bS hi,aeA hi,YR hi,Sd hi,i1,aK i1,rd.el,rd.hd])|(refine aT ?_ ?_<;>(intro hb hd;rw[hb];clear hb))|(with_reducible refine aj ?_))
 .rename_i h1
  have w1:=w.qN (ms:=s.marks.set i ⟨2,(bK s.marks i).left,(bK s.marks i).got,(bK s.marks i).aO,(bK s.marks i).paused⟩) (by simp);have w2:=w1.qN (ms:=s.marks.set i ⟨2,k.gF,(bK s.marks i).got,(bK s.marks i).aO,(bK s.marks i).paused⟩) (by simp);refine hQ _ _ ?_ ((UX.refl.set (.inl b.xm) (Nat.le_refl _)).set (.inl b.xm) (Nat.le_refl _));have e:(bK s.marks i).expired k.gF=⟨2,k.gF,(bK s.marks i).got,(bK s.marks i).aO,(bK s.marks i).paused⟩:=by
   unfold au.expired;rw[show((bK s.marks i).status==1&&decide (0<k.gF))=true by simp;omega];rfl
  rw[e];exact w2
 all_goals
  rw[aU];refine zi _ w hi 4 λh' n' w' u=>?_;repeat' (first|(simp (disch:=omega) only[go_sem,simprocAttr])|(refine aT ?_ ?_<;>(intro hb hd;rw[hb];clear hb))|(with_reducible refine aj ?_))
  refine hQ _ _ ?_ u;have e:(bK s.marks i).expired k.gF=(bK s.marks i).ended 4:=by
   unfold au.expired;rw[show((bK s.marks i).status==1&&decide (0<k.gF))=false by simp;omega];rfl
  rw[e];exact w'
end
end
end Go.Proofs.YtjoohkjmoghmoaaGreatDoor
