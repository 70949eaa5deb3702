/- part -/
import Derived.Test.YtjoohkjmoghmoaaGreatDoorP10
set_option linter.all false
namespace Go.Proofs.YtjoohkjmoghmoaaGreatDoor
section
noncomputable section
set_option maxHeartbeats 4000000
variable {h:AH} {n:Nat} {Q:AV->AH->Nat->Prop} {v:CS} {C:aH} {tv:TS} {s:aO}
theorem mG(C:aH):(C.errno=0)=(C.valid=true):=by
 unfold aH.errno aH.valid;cases C.over<;>cases (C.framed&&C.iq)<;>simp
theorem iM(K:Nat)(hC:bG h n v C)(ho:C.off.length<=1000000)(hS:dO h n tv s)(hQ:∀h' n',Up h n h' n'->Q (.b (C.d9 s)) h' n'):CW (EF (K+7)) 47 [.agg (v.av C),.agg (tv.av s)] h n Q:=by
 refine aJ c47 rfl ?_;repeat' (first|(simp (disch:=omega) only[go_sem,ub.old,m47,CS.av,TS.av])|(simp (disch:=omega) only[go_sem,m47,CS.av,TS.av])|(with_reducible first|apply aj|apply ah|apply ay|apply aB|apply aA|apply au)<;>intro hd<;>(rw[hd];try simp only[decide_eq_true_eq,decide_eq_false_iff_not,Bool.not_eq_true',Bool.not_eq_false']at hd)|(with_reducible refine aD ?_))
 rw[bA];refine w_ _ (hC.up aL) ho λei h2 n2 u2=>?_;have ub:=u2;have hle:=ub.le;repeat' (first|(simp (disch:=omega) only[go_sem,ub.old,CS.av,TS.av,hS.aC.len,hS.used.len,hS.marks.len,hC.aC.len,hC.acts.len,hC.lk])|(simp (disch:=omega) only[go_sem,CS.av,TS.av,hS.aC.len,hS.used.len,hS.marks.len,hC.aC.len,hC.acts.len,hC.lk])|(with_reducible first|apply aj|apply ah|apply ay|apply aB|apply aA|apply au)<;>intro hd<;>(rw[hd];try simp only[decide_eq_true_eq,decide_eq_false_iff_not,Bool.not_eq_true',Bool.not_eq_false']at hd)|(with_reducible refine aD ?_))
 any_goals(first|(with_reducible refine bY hQ ?_ aL;first|(simp[aH.d9,Iy,mG,ieq];done)|(simp[aH.d9,Iy,mG,ieq];omega)|(simp_all [aH.d9,Iy,mG,ieq];done)|(simp_all [aH.d9,Iy,mG,ieq];omega))|((with_reducible refine fG hQ aL (λhz=>?_) (λhz=>?_))<;>first|(simp_all [aH.d9,Iy,mG,ieq];done)|(simp_all [aH.d9,Iy,mG,ieq];omega)))
 have hv:C.valid=true:=by rw[<-mG];assumption
 have hs1:Iy C s=true:=by simp_all [Iy]
 have hO:=aH.ok hv;have q1:=hO.mq;have q2:=hO.mR;have q3:=hO.fQ;have hs2:=hs1;simp only[Iy,Bool.and_eq_true,Bool.not_eq_true',decide_eq_false_iff_not,beq_iff_eq]at hs2;have g1:h2.get n=some (.row 27 (v.av C)):=by simp (disch:=omega) only[go_sem,ub.old]
 have g2:h2.get (n+1)=some (.row 43 (tv.av s)):=by simp (disch:=omega) only[go_sem,ub.old]
 have u0:Up h n h2 n2:=by exact aL
 clear ub u2;refine fZ s.aC.length (λk=>∀j a,j<k->s.aC[j]?=some a->tV C a=true) h2 n2 (λk=>[(2,.p n 0),(3,.p (n+1) 0),(4,.b false),(57,tv.h)]) (by omega) (by omega) (by omega) (by omega) (λ_=>⟨rfl,rfl⟩) rfl rfl (by(repeat' (first|exact aZ|refine aW rfl ?_))) aL (by omega) (λk h4 n4 hk hr u4=>?_) (λh4 n4 hr u4=>?_)
 .have KC:=u4.le
  have g4:=(u4.old n (by omega)).trans g1;repeat' (first|(simp (disch:=omega) only[go_sem,ub.old,Kr])|(simp (disch:=omega) only[go_sem,Kr])|(with_reducible first|apply aj|apply ah|apply ay|apply aB|apply aA|apply au)<;>intro hd<;>(rw[hd];try simp only[decide_eq_true_eq,decide_eq_false_iff_not,Bool.not_eq_true',Bool.not_eq_false']at hd)|(with_reducible refine aD ?_))
  refine gL hS.aC (by omega) (by omega) (by omega) λb5 o5 w hw hb5 qO=>?_;rw[show((k:Nat):Int).toNat=k by omega]at hw;have ua:=(u4.old b5 (by omega)).trans (u0.old b5 hb5);repeat' (first|(simp (disch:=omega) only[go_sem,ub.old,qO.el,qO.hd,qO.all,ua,g4,CS.av])|(simp (disch:=omega) only[go_sem,qO.el,qO.hd,qO.all,ua,g4,CS.av])|(with_reducible first|apply aj|apply ah|apply ay|apply aB|apply aA|apply au)<;>intro hd<;>(rw[hd];try simp only[decide_eq_true_eq,decide_eq_false_iff_not,Bool.not_eq_true',Bool.not_eq_false']at hd)|(with_reducible refine aD ?_))
  all_goals first
   |(
    refine bY hQ ?_ aL;have:jC C s=false:=by
     unfold jC;rw[List.all_eq_false];exact⟨w,List.mem_of_getElem? hw,by simp_all [tV]⟩
    simp[aH.d9,this])
   |(
    refine iw rfl rfl (λj w' hj hw'=>?_) aL (by(repeat' (first|exact aZ|refine aW rfl ?_)));by_cases e:j=k
    .subst e;rw[hw]at hw';cases hw';simp_all [tV]
    .exact hr j w' (by omega) hw')
 have hH:jC C s=true:=by
  unfold jC;rw[List.all_eq_true];intro w hw;obtain⟨j,hj⟩:=List.getElem?_of_mem hw;exact hr j w (List.getElem?_eq_some_iff.1 hj).1 hj
 have KC:=u4.le;have g4:=(u4.old n (by omega)).trans g1;have g5:=(u4.old (n+1) (by omega)).trans g2;repeat' (first|(simp (disch:=omega) only[go_sem,ub.old,g4,g5,CS.av,TS.av,hS.used.len])|(simp (disch:=omega) only[go_sem,g4,g5,CS.av,TS.av,hS.used.len])|(with_reducible first|apply aj|apply ah|apply ay|apply aB|apply aA|apply au)<;>intro hd<;>(rw[hd];try simp only[decide_eq_true_eq,decide_eq_false_iff_not,Bool.not_eq_true',Bool.not_eq_false']at hd)|(with_reducible refine aD ?_))
 refine fZ s.used.length (λk=>∀j u a,j<k->s.used[j]?=some u->C.acts[j]?=some a->(u&&(a.kind==1))=false) h4 n4 (λk=>[(2,.p n 0),(3,.p (n+1) 0),(4,.b false),(73,tv.u)]) (by omega) (by omega) (by omega) (by omega) (λ_=>⟨rfl,rfl⟩) rfl rfl (by(repeat' (first|exact aZ|refine aW rfl ?_))) aL (by omega) (λk h6 n6 hk Uk u6=>?_) (λh6 n6 Uk u6=>?_)
 .have aci:=u6.le
  have g6:=(u6.old n (by omega)).trans g4;repeat' (first|(simp (disch:=omega) only[go_sem,ub.old,Kq])|(simp (disch:=omega) only[go_sem,Kq])|(with_reducible first|apply aj|apply ah|apply ay|apply aB|apply aA|apply au)<;>intro hd<;>(rw[hd];try simp only[decide_eq_true_eq,decide_eq_false_iff_not,Bool.not_eq_true',Bool.not_eq_false']at hd)|(with_reducible refine aD ?_))
  refine gL hS.used (by omega) (by omega) (by omega) λb5 o5 w hw hb5 qO=>?_;rw[show((k:Nat):Int).toNat=k by omega]at hw;have ua:=(u6.old b5 (by omega)).trans ((u4.old b5 (by omega)).trans (u0.old b5 hb5));obtain⟨a,ha⟩:∃a,C.acts[k]?=some a:=⟨C.acts[k],List.getElem?_eq_some_iff.2 ⟨by omega,rfl⟩⟩;repeat' (first|(simp (disch:=omega) only[go_sem,ub.old,qO.el,qO.hd,qO.all,ua,g6,CS.av])|(simp (disch:=omega) only[go_sem,qO.el,qO.hd,qO.all,ua,g6,CS.av])|(with_reducible first|apply aj|apply ah|apply ay|apply aB|apply aA|apply au)<;>intro hd<;>(rw[hd];try simp only[decide_eq_true_eq,decide_eq_false_iff_not,Bool.not_eq_true',Bool.not_eq_false']at hd)|(with_reducible refine aD ?_))
  .have hwt:w=true:=by assumption
   refine gL hC.acts (by omega) (by omega) (by omega) λb7 o7 a7 ha7 hb7 Ul=>?_;rw[show((k:Nat):Int).toNat=k by omega,ha]at ha7;cases ha7;have ua7:=(u6.old b7 (by omega)).trans ((u4.old b7 (by omega)).trans (u0.old b7 hb7));repeat' (first|(simp (disch:=omega) only[go_sem,ub.old,Ul.el,Ul.hd,ua7,eY.av])|(simp (disch:=omega) only[go_sem,Ul.el,Ul.hd,ua7,eY.av])|(with_reducible first|apply aj|apply ah|apply ay|apply aB|apply aA|apply au)<;>intro hd<;>(rw[hd];try simp only[decide_eq_true_eq,decide_eq_false_iff_not,Bool.not_eq_true',Bool.not_eq_false']at hd)|(with_reducible refine aD ?_))
   .refine bY hQ ?_ aL
    have:wJ C s=false:=by
     unfold wJ;rw[List.all_eq_false];exact⟨k,List.mem_range.2 hk,by rw[hw,ha];simp_all⟩
    simp[aH.d9,this]
   .refine iw rfl rfl (λj u' a' hj hu' ha'=>?_) aL (by(repeat' (first|exact aZ|refine aW rfl ?_)))
    by_cases e:j=k
    .subst e;rw[hw]at hu';cases hu';rw[ha]at ha';cases ha';simp_all
    .exact Uk j u' a' (by omega) hu' ha'
  .have hwf:w=false:=by assumption
   refine iw rfl rfl (λj u' a' hj hu' ha'=>?_) aL (by(repeat' (first|exact aZ|refine aW rfl ?_)));by_cases e:j=k
   .subst e;rw[hw]at hu';cases hu';simp[hwf]
   .exact Uk j u' a' (by omega) hu' ha'
 have hU:wJ C s=true:=by
  unfold wJ;rw[List.all_eq_true];intro i hi;have hi:=List.mem_range.1 hi;obtain⟨w,hw⟩:∃w,s.used[i]?=some w:=⟨s.used[i],List.getElem?_eq_some_iff.2 ⟨hi,rfl⟩⟩;obtain⟨a,ha⟩:∃a,C.acts[i]?=some a:=⟨C.acts[i],List.getElem?_eq_some_iff.2 ⟨by omega,rfl⟩⟩;rw[hw,ha];simp only[Uk i w a hi hw ha,Bool.not_false]
 have aci:=u6.le;have g6:=(u6.old n (by omega)).trans g4;have g7:=(u6.old (n+1) (by omega)).trans g5;repeat' (first|(simp (disch:=omega) only[go_sem,ub.old,g6,g7,CS.av,TS.av,hS.marks.len])|(simp (disch:=omega) only[go_sem,g6,g7,CS.av,TS.av,hS.marks.len])|(with_reducible first|apply aj|apply ah|apply ay|apply aB|apply aA|apply au)<;>intro hd<;>(rw[hd];try simp only[decide_eq_true_eq,decide_eq_false_iff_not,Bool.not_eq_true',Bool.not_eq_false']at hd)|(with_reducible refine aD ?_))
 refine fZ s.marks.length (λk=>∀j m c,j<k->s.marks[j]?=some m->C.clauses[j]?=some c->(C.jB c m&& !(eP s.marks c m))=true) h6 n6 (λk=>[(2,.p n 0),(3,.p (n+1) 0),(4,.b false)]) (by omega) (by omega) (by omega) (by omega) (λ_=>⟨rfl,rfl⟩) rfl rfl (by(repeat' (first|exact aZ|refine aW rfl ?_))) aL (by omega) (λk h8 n8 hk hr8 u8=>?_) (λh8 n8 hr8 u8=>?_)
 .have ait:=u8.le
  have g8:=(u8.old n (by omega)).trans g6;have g9:=(u8.old (n+1) (by omega)).trans g7;obtain⟨m,hm⟩:∃m,s.marks[k]?=some m:=⟨s.marks[k],List.getElem?_eq_some_iff.2 ⟨hk,rfl⟩⟩;obtain⟨c,hc⟩:∃c,C.clauses[k]?=some c:=⟨C.clauses[k],List.getElem?_eq_some_iff.2 ⟨by omega,rfl⟩⟩;have hok:=hO.clause hc;obtain⟨b5,o5,m5,i5,Wp,hb5,qO⟩:=hS.marks.fE (k:=(k:Nat)) (by omega) (by omega) (by omega);rw[show((k:Nat):Int).toNat=k by omega,hm]at Wp;cases Wp;have ua:=(u8.old b5 (by omega)).trans ((u6.old b5 (by omega)).trans ((u4.old b5 (by omega)).trans (u0.old b5 hb5)));repeat' (first|(simp (disch:=omega) only[go_sem,ub.old,Ko,g8,g9,CS.av,TS.av,i5,qO.el,qO.hd,qO.all,ua])|(simp (disch:=omega) only[go_sem,Ko,g8,g9,CS.av,TS.av,i5,qO.el,qO.hd,qO.all,ua])|((first|rw[bA]|rw[bU]);with_reducible refine Om _ (hC.up aL) hc m λh2 n2 u2=>?_;(first|replace ub:=Up.trans ub (Up.trans aL u2)|have ub:=u2);have hle:=ub.le;clear u2)|((first|rw[bA]|rw[bU]);with_reducible refine xg _ (hC.up aL) (hS.up aL) hc hm (by have:=hok.wR;omega) (λx hx=>by have:=hok.start x hx;omega) λh2 n2 u2=>?_;(first|replace ub:=Up.trans ub (Up.trans aL u2)|have ub:=u2);have hle:=ub.le;clear u2)|(with_reducible first|apply aj|apply ah|apply ay|apply aB|apply aA|apply au)<;>intro hd<;>(rw[hd];try simp only[decide_eq_true_eq,decide_eq_false_iff_not,Bool.not_eq_true',Bool.not_eq_false']at hd)|(with_reducible refine aD ?_))
  all_goals first
   |(
    refine bY hQ ?_ aL;have:qC C s=false:=by
     unfold qC;rw[List.all_eq_false];exact⟨k,List.mem_range.2 hk,by rw[hm,hc];simp_all⟩
    simp[aH.d9,this])
   |(
    refine iw rfl rfl (λj m' c' hj hm' hc'=>?_) aL (by(repeat' (first|exact aZ|refine aW rfl ?_)));by_cases e:j=k
    .subst e;rw[hm]at hm';cases hm';rw[hc]at hc';cases hc';simp_all
    .exact hr8 j m' c' (by omega) hm' hc')
 .repeat' (first|(simp (disch:=omega) only[go_sem,ub.old])|(simp (disch:=omega) only[go_sem])|(with_reducible first|apply aj|apply ah|apply ay|apply aB|apply aA|apply au)<;>intro hd<;>(rw[hd];try simp only[decide_eq_true_eq,decide_eq_false_iff_not,Bool.not_eq_true',Bool.not_eq_false']at hd)|(with_reducible refine aD ?_))
  refine bY hQ ?_ aL;have:qC C s=true:=by
   unfold qC;rw[List.all_eq_true];intro i hi;have hi:=List.mem_range.1 hi;obtain⟨m,hm⟩:∃m,s.marks[i]?=some m:=⟨s.marks[i],List.getElem?_eq_some_iff.2 ⟨hi,rfl⟩⟩;obtain⟨c,hc⟩:∃c,C.clauses[i]?=some c:=⟨C.clauses[i],List.getElem?_eq_some_iff.2 ⟨by omega,rfl⟩⟩;rw[hm,hc];exact hr8 i m c hi hm hc
  simp[aH.d9,hv,hs1,hH,hU,this]
end
end
section
noncomputable section
set_option maxHeartbeats 4000000
variable {h:AH} {n:Nat} {Q:AV->AH->Nat->Prop} {v:CS} {C:aH} {tv:TS} {s:aO}
open Classical in
def BQ{α:Type}(a b:α):Bool:=decide (a=b)
theorem yM{α:Type}{a b:α}(e:a=b):BQ a b=true:=by simp[BQ,e]
theorem uJ{α:Type}{a b:α}(e:a≠b):BQ a b=false:=by simp[BQ,e]
theorem yN(K:Nat){x y:AV}{a b:List Int}(hx:SL h n 1 x (λx:Int=>[AV.i .i64 x]) a)(hy:SL h n 1 y (λx:Int=>[AV.i .i64 x]) b)(hl:a.length<=1000000)(hQ:∀h' n',Up h n h' n'->Q (.b (BQ a b)) h' n'):CW (EF (K+1)) 109 [x,y] h n Q:=by
 refine aJ c109 rfl ?_;repeat' (first|(simp (disch:=omega) only[go_sem,VX,hx.len,hy.len])|(with_reducible first|apply aj|apply ah|apply ay|apply aB|apply aA|apply au)<;>intro hd<;>(rw[hd];try simp only[decide_eq_true_eq,decide_eq_false_iff_not,Bool.not_eq_true',Bool.not_eq_false']at hd)|(with_reducible refine aD ?_))
 .refine bY hQ (uJ λe=>?_) aL
  subst e;omega
 have hab:a.length=b.length:=by omega
 refine fZ a.length (λk=>∀j,j<k->a[j]?=b[j]?) h n (λk=>[(0,x),(1,y),(4,.b false)]) (by omega) (by omega) (by omega) (by omega) (λ_=>⟨rfl,rfl⟩) rfl rfl (by(repeat' (first|exact aZ|refine aW rfl ?_))) aL (by omega) (λk h4 n4 hk hr u4=>?_) (λh4 n4 hr u4=>?_)
 .obtain⟨b1,o1,w1,i1,hw1,hb1,r1⟩:=hx.fE (k:=(k:Nat)) (by omega) (by omega) (by omega)
  obtain⟨b2,o2,w2,i2,hw2,hb2,r2⟩:=hy.fE (k:=(k:Nat)) (by omega) (by omega) (by omega);rw[show((k:Nat):Int).toNat=k by omega]at hw1 hw2;have u1:=u4.old b1 hb1;have u2:=u4.old b2 hb2;repeat' (first|(simp (disch:=omega) only[go_sem,Kt,i1,i2,r1.hd,r2.hd,u1,u2])|(with_reducible first|apply aj|apply ah|apply ay|apply aB|apply aA|apply au)<;>intro hd<;>(rw[hd];try simp only[decide_eq_true_eq,decide_eq_false_iff_not,Bool.not_eq_true',Bool.not_eq_false']at hd)|(with_reducible refine aD ?_))
  .refine bY hQ (uJ λe=>?_) aL
   subst e;rw[hw1]at hw2;cases hw2;simp_all
  .refine iw rfl rfl (λj hj=>?_) aL (by(repeat' (first|exact aZ|refine aW rfl ?_)))
   by_cases e:j=k
   .subst e;rw[hw1,hw2];simp_all
   .exact hr j (by omega)
 .repeat' (first|(simp (disch:=omega) only[go_sem])|(with_reducible first|apply aj|apply ah|apply ay|apply aB|apply aA|apply au)<;>intro hd<;>(rw[hd];try simp only[decide_eq_true_eq,decide_eq_false_iff_not,Bool.not_eq_true',Bool.not_eq_false']at hd)|(with_reducible refine aD ?_))
  refine bY hQ (yM (List.ext_getElem? λj=>?_)) aL;by_cases hj:j<a.length
  .exact hr j hj
  .rw[List.getElem?_eq_none (by omega),List.getElem?_eq_none (by omega)]
theorem Oo(a b:Bool):(dS Tryz.prog 4 .neq).run (.b a) (.b b)=bnd (some (bc a b (oC b))) λe=>some (.b (oC e)):=by kernel_rfl
@[go_sem] theorem acn (a b:Bool):(dS Tryz.prog 4 .neq).run (.b a) (.b b)=some (.b (!(a==b))):=by
 rw[Oo];cases a<;>cases b<;>rfl
theorem G7(a b c d:Int)(e:Bool)(a' b' c' d':Int)(e':Bool):(dS Tryz.prog 144 .neq).run (.agg [.i .i64 a,.i .i64 b,.i .i64 c,.i .i64 d,.b e]) (.agg [.i .i64 a',.i .i64 b',.i .i64 c',.i .i64 d',.b e'])=
 bnd (bc (fC a a') (bc (fC b b') (bc (fC c c') (bc (fC d d') (bc (bc e e' (oC e')) (some true) (some false)) (some false)) (some false)) (some false)) (some false)) λe=>some (.b (oC e)):=by kernel_rfl
@[go_sem] theorem Wq (m m':aG):(dS Tryz.prog 144 .neq).run (.agg m.av) (.agg m'.av)=some (.b (!BQ m m')):=by
 obtain⟨a,b,c,d,e⟩:=m;obtain⟨a',b',c',d',e'⟩:=m';rw[G7,cO,cO,cO,cO];unfold BQ;by_cases h1:a=a'<;>by_cases h2:b=b'<;>by_cases h3:c=c'<;>by_cases h4:d=d'<;>cases e<;>cases e'<;>simp[h1,h2,h3,h4,bc,bnd,oC]
theorem D6(K:Nat){x y:AV}{a b:List Bool}(hx:SL h n 1 x (λx:Bool=>[AV.b x]) a)(hy:SL h n 1 y (λx:Bool=>[AV.b x]) b)(hl:a.length<=1000000)(hQ:∀h' n',Up h n h' n'->Q (.b (BQ a b)) h' n'):CW (EF (K+1)) 263 [x,y] h n Q:=by
 refine aJ abX rfl ?_;repeat' (first|(simp (disch:=omega) only[go_sem,VY,hx.len,hy.len])|(with_reducible first|apply aj|apply ah|apply ay|apply aB|apply aA|apply au)<;>intro hd<;>(rw[hd];try simp only[decide_eq_true_eq,decide_eq_false_iff_not,Bool.not_eq_true',Bool.not_eq_false']at hd)|(with_reducible refine aD ?_))
 .refine bY hQ (uJ λe=>?_) aL
  subst e;omega
 have hab:a.length=b.length:=by omega
 refine fZ a.length (λk=>∀j,j<k->a[j]?=b[j]?) h n (λk=>[(0,x),(1,y),(4,.b false)]) (by omega) (by omega) (by omega) (by omega) (λ_=>⟨rfl,rfl⟩) rfl rfl (by(repeat' (first|exact aZ|refine aW rfl ?_))) aL (by omega) (λk h4 n4 hk hr u4=>?_) (λh4 n4 hr u4=>?_)
 .obtain⟨b1,o1,w1,i1,hw1,hb1,r1⟩:=hx.fE (k:=(k:Nat)) (by omega) (by omega) (by omega)
  obtain⟨b2,o2,w2,i2,hw2,hb2,r2⟩:=hy.fE (k:=(k:Nat)) (by omega) (by omega) (by omega);rw[show((k:Nat):Int).toNat=k by omega]at hw1 hw2;have u1:=u4.old b1 hb1;have u2:=u4.old b2 hb2;repeat' (first|(simp (disch:=omega) only[go_sem,Ku,i1,i2,r1.hd,r2.hd,u1,u2])|(with_reducible first|apply aj|apply ah|apply ay|apply aB|apply aA|apply au)<;>intro hd<;>(rw[hd];try simp only[decide_eq_true_eq,decide_eq_false_iff_not,Bool.not_eq_true',Bool.not_eq_false']at hd)|(with_reducible refine aD ?_))
  .refine bY hQ (uJ λe=>?_) aL
   subst e;rw[hw1]at hw2;cases hw2;simp_all
  .refine iw rfl rfl (λj hj=>?_) aL (by(repeat' (first|exact aZ|refine aW rfl ?_)))
   by_cases e:j=k
   .subst e;rw[hw1,hw2];simp_all
   .exact hr j (by omega)
 .repeat' (first|(simp (disch:=omega) only[go_sem])|(with_reducible first|apply aj|apply ah|apply ay|apply aB|apply aA|apply au)<;>intro hd<;>(rw[hd];try simp only[decide_eq_true_eq,decide_eq_false_iff_not,Bool.not_eq_true',Bool.not_eq_false']at hd)|(with_reducible refine aD ?_))
  refine bY hQ (yM (List.ext_getElem? λj=>?_)) aL;by_cases hj:j<a.length
  .exact hr j hj
  .rw[List.getElem?_eq_none (by omega),List.getElem?_eq_none (by omega)]
theorem D7(K:Nat){x y:AV}{a b:List aG}(hx:SL h n 5 x aG.av a)(hy:SL h n 5 y aG.av b)(hl:a.length<=1000000)(hQ:∀h' n',Up h n h' n'->Q (.b (BQ a b)) h' n'):CW (EF (K+1)) 264 [x,y] h n Q:=by
 refine aJ abY rfl ?_;repeat' (first|(simp (disch:=omega) only[go_sem,VZ,hx.len,hy.len])|(with_reducible first|apply aj|apply ah|apply ay|apply aB|apply aA|apply au)<;>intro hd<;>(rw[hd];try simp only[decide_eq_true_eq,decide_eq_false_iff_not,Bool.not_eq_true',Bool.not_eq_false']at hd)|(with_reducible refine aD ?_))
 .refine bY hQ (uJ λe=>?_) aL
  subst e;omega
 have hab:a.length=b.length:=by omega
 refine fZ a.length (λk=>∀j,j<k->a[j]?=b[j]?) h n (λk=>[(0,x),(1,y),(4,.b false)]) (by omega) (by omega) (by omega) (by omega) (λ_=>⟨rfl,rfl⟩) rfl rfl (by(repeat' (first|exact aZ|refine aW rfl ?_))) aL (by omega) (λk h4 n4 hk hr u4=>?_) (λh4 n4 hr u4=>?_)
 .obtain⟨b1,o1,w1,i1,hw1,hb1,r1⟩:=hx.fE (k:=(k:Nat)) (by omega) (by omega) (by omega)
  obtain⟨b2,o2,w2,i2,hw2,hb2,r2⟩:=hy.fE (k:=(k:Nat)) (by omega) (by omega) (by omega);rw[show((k:Nat):Int).toNat=k by omega]at hw1 hw2;have u1:=u4.old b1 hb1;have u2:=u4.old b2 hb2;repeat' (first|(simp (disch:=omega) only[go_sem,Kv,i1,i2,r1.all,r2.all,u1,u2])|(with_reducible first|apply aj|apply ah|apply ay|apply aB|apply aA|apply au)<;>intro hd<;>(rw[hd];try simp only[decide_eq_true_eq,decide_eq_false_iff_not,Bool.not_eq_true',Bool.not_eq_false']at hd)|(with_reducible refine aD ?_))
  .refine bY hQ (uJ λe=>?_) aL
   subst e;rw[hw1]at hw2;cases hw2;simp_all [BQ]
  .refine iw rfl rfl (λj hj=>?_) aL (by(repeat' (first|exact aZ|refine aW rfl ?_)))
   by_cases e:j=k
   .subst e;rw[hw1,hw2];simp_all [BQ]
   .exact hr j (by omega)
 .repeat' (first|(simp (disch:=omega) only[go_sem])|(with_reducible first|apply aj|apply ah|apply ay|apply aB|apply aA|apply au)<;>intro hd<;>(rw[hd];try simp only[decide_eq_true_eq,decide_eq_false_iff_not,Bool.not_eq_true',Bool.not_eq_false']at hd)|(with_reducible refine aD ?_))
  refine bY hQ (yM (List.ext_getElem? λj=>?_)) aL;by_cases hj:j<a.length
  .exact hr j hj
  .rw[List.getElem?_eq_none (by omega),List.getElem?_eq_none (by omega)]
theorem Fx(K:Nat){tv':TS}{s':aO}(hS:dO h n tv s)(hS':dO h n tv' s')(l1:s.aC.length<=1000000)(l2:s.used.length<=1000000)(l3:s.marks.length<=1000000)(hQ:∀h' n',Up h n h' n'->Q (.b (BQ s s')) h' n'):CW (EF (K+2)) 234 [.agg (tv.av s),.agg (tv'.av s')] h n Q:=by
 refine aJ c234 rfl ?_;have key:BQ s s'=(decide (s.day=s'.day)&&(BQ s.aC s'.aC&&(BQ s.used s'.used&&BQ s.marks s'.marks))):=by
  unfold BQ;obtain⟨a,b,c,d⟩:=s;obtain⟨a',b',c',d'⟩:=s';by_cases h1:a=a'<;>by_cases h2:b=b'<;>by_cases h3:c=c'<;>by_cases h4:d=d'<;>simp[h1,h2,h3,h4]
 repeat' (first|(simp (disch:=omega) only[go_sem,ub.old,RN,TS.av])|(simp (disch:=omega) only[go_sem,RN,TS.av])|((first|rw[bA]|rw[bU]);with_reducible refine yN _ (hS.aC.up aL) (hS'.aC.up aL) l1 λh2 n2 u2=>?_;(first|replace ub:=Up.trans ub (Up.trans aL u2)|have ub:=u2);have hle:=ub.le;clear u2)|((first|rw[bA]|rw[bU]);with_reducible refine D6 _ (hS.used.up aL) (hS'.used.up aL) l2 λh2 n2 u2=>?_;(first|replace ub:=Up.trans ub (Up.trans aL u2)|have ub:=u2);have hle:=ub.le;clear u2)|((first|rw[bA]|rw[bU]);with_reducible refine D7 _ (hS.marks.up aL) (hS'.marks.up aL) l3 λh2 n2 u2=>?_;(first|replace ub:=Up.trans ub (Up.trans aL u2)|have ub:=u2);have hle:=ub.le;clear u2)|(with_reducible first|apply aj|apply ah|apply ay|apply aB|apply aA|apply au)<;>intro hd<;>(rw[hd];try simp only[decide_eq_true_eq,decide_eq_false_iff_not,Bool.not_eq_true',Bool.not_eq_false']at hd)|(with_reducible refine aD ?_))
 all_goals(first|(with_reducible refine bY hQ ?_ aL;first|(simp[key,ieq];done)|(simp[key,ieq];omega)|(simp_all [key,ieq];done)|(simp_all [key,ieq];omega))|((with_reducible refine fG hQ aL (λhz=>?_) (λhz=>?_))<;>first|(simp_all [key,ieq];done)|(simp_all [key,ieq];omega)))
theorem Fy(K:Nat)(hC:bG h n v C)(hS:dO h n tv s){i:Int}{a:eY}(h0:0<=i)(ha:C.acts[i.toNat]?=some a)(hr:a.role≠ -1->0<=a.role/\a.role<s.aC.length)(hQ:∀h' n',Up h n h' n'->Q (.i .i64 (bO s.aC a)) h' n'):CW (EF (K+1)) 103 [.agg (v.av C),.agg (tv.av s),.i .i64 i] h n Q:=by
 have hil:=(List.getElem?_eq_some_iff.1 ha).1;refine aJ abS rfl ?_;repeat' (first|(simp (disch:=omega) only[go_sem,VU,CS.av,TS.av])|(with_reducible first|apply aj|apply ah|apply ay|apply aB|apply aA|apply au)<;>intro hd<;>(rw[hd];try simp only[decide_eq_true_eq,decide_eq_false_iff_not,Bool.not_eq_true',Bool.not_eq_false']at hd)|(with_reducible refine aD ?_))
 refine gL hC.acts (by omega) (by omega) (by omega) λb o a' ha' hb rd=>?_;rw[ha]at ha';cases ha';repeat' (first|(simp (disch:=omega) only[go_sem,rd.el,rd.hd,eY.av])|(with_reducible first|apply aj|apply ah|apply ay|apply aB|apply aA|apply au)<;>intro hd<;>(rw[hd];try simp only[decide_eq_true_eq,decide_eq_false_iff_not,Bool.not_eq_true',Bool.not_eq_false']at hd)|(with_reducible refine aD ?_))
 .have:bO s.aC a= -1:=by simp_all [bO]
  rw[this]at hQ;exact hQ _ _ aL
 obtain⟨b2,o2,a2,i2,ha2,hb2,eT⟩:=hC.acts.fE (k:=i) (by omega) (by omega) (by omega);rw[ha]at ha2;cases ha2;have hr':=hr (by assumption);obtain⟨b3,o3,p,i3,hp,hb3,qH⟩:=hS.aC.fE (k:=a.role) (by omega) (by omega) (by omega);repeat' (first|(simp (disch:=omega) only[go_sem,i2,eT.el,eT.hd,i3,qH.el,qH.hd])|(with_reducible first|apply aj|apply ah|apply ay|apply aB|apply aA|apply au)<;>intro hd<;>(rw[hd];try simp only[decide_eq_true_eq,decide_eq_false_iff_not,Bool.not_eq_true',Bool.not_eq_false']at hd)|(with_reducible refine aD ?_))
 have:bO s.aC a=p:=by
  have e:(a.role== -1)=false:=by simp;assumption
  unfold bO gF;rw[e,hp];rfl
 rw[this]at hQ;exact hQ _ _ aL
theorem Oq(K:Nat)(hC:bG h n v C)(ho:C.off.length<=1000000)(hS:dO h n tv s)(hs:C.d9 s=true){i:Int}{a:eY}(h0:0<=i)(ha:C.acts[i.toNat]?=some a)(hQ:∀h' n',Up h n h' n'->Q (.i .i64 (bO s.aC a)) h' n'):CW (EF (K+8)) 115 [.agg (v.av C),.agg (tv.av s),.i .i64 i] h n Q:=by
 have hil:=(List.getElem?_eq_some_iff.1 ha).1;have hst:=(eU C s).1 hs;have hr:a.role≠ -1->0<=a.role/\a.role<s.aC.length:=by
  have:=((aH.ok hst.con).act (List.mem_of_getElem? ha)).role;rw[hst.lh];exact this
 refine aJ abW rfl ?_;repeat' (first|(simp (disch:=omega) only[go_sem,ub.old,RL,CS.av,TS.av,hC.acts.len,hs])|(simp (disch:=omega) only[go_sem,RL,CS.av,TS.av,hC.acts.len,hs])|((first|rw[bA]|rw[bU]);with_reducible refine iM _ (hC.up aL) ho (hS.up aL) λh2 n2 u2=>?_;(first|replace ub:=Up.trans ub (Up.trans aL u2)|have ub:=u2);have hle:=ub.le;clear u2)|((first|rw[bA]|rw[bU]);with_reducible refine Fy _ (hC.up aL) (hS.up aL) h0 ha hr λh2 n2 u2=>?_;(first|replace ub:=Up.trans ub (Up.trans aL u2)|have ub:=u2);have hle:=ub.le;clear u2)|(with_reducible first|apply aj|apply ah|apply ay|apply aB|apply aA|apply au)<;>intro hd<;>(rw[hd];try simp only[decide_eq_true_eq,decide_eq_false_iff_not,Bool.not_eq_true',Bool.not_eq_false']at hd)|(with_reducible refine aD ?_))
 .exfalso;omega
 .exfalso;omega
 .exact hQ _ _ aL
end
end
section
noncomputable section
def jY(st e w:Nat):MC:=(.seq (.reg [⟨none,(.mv (.c (.k 1))),(.k 2)⟩]) (.seq (.seq (.reg [⟨none,(.mv (.s 0)),.l⟩,⟨none,(.bin .eql st (.v 0) (.c (.k 1))),(.k 4)⟩]) (.cond (.s 4) (.seq (.reg [⟨none,(.mv (.c (.k 1))),(.k 2)⟩]) .ret) .skip)) (.seq (.reg [⟨none,(.uE e 0 [] []),.l⟩,⟨none,(.mv (.s 0)),.l⟩,⟨none,(.app e w (.v 1) (.v 0)),.l⟩,⟨none,(.mv (.v 0)),(.k 2)⟩]) .ret)))
structure BR(st:Nat):Prop where
 sl:∀b l o k c,(dS Tryz.prog st .eql).run (.sl b l o k c) (.k 1)=some (.b false)
 es:∀a c,(dS Tryz.prog st .eql).run (.es a c) (.k 1)=some (.b false)
 nl:(dS Tryz.prog st .eql).run (.k 1) (.k 1)=some (.b true)
theorem Ot{h:AH}{n e w b t:Nat}{y:AV}{α:Type}{c:α->List AV}{l:List α}(hb:h.get b=some (.row t []))(hy:SL h n w y c l)(hl:l.length<=1048576)(h0:l≠[]):(iU e w).run h n (.sl b 0 0 0 (some 0)) y= .ok (.sl n 0 0 l.length none) (h.set n (.row e (l.flatMap c))) (n+1):=by
 have hsrc:iN h w 0 (.sl b 0 0 0 (some 0))=some []:=by
  show bnd (iE (h.get b) 0 _) (λr=>mX (Nat.mul 0 w) r)=_;rw[hb];show mX (0*w) (o9 0 [])=_;rw[oN,if_pos (by omega)];simp
 have hpos:0<l.length:=List.length_pos_iff.2 h0;rw[Fv,hy.ap.1];show aP (iN h w 0 (.sl b 0 0 0 (some 0))) _=_;rw[hsrc];show aP (iN h w l.length y) _=_;rw[hy.ap.2];show bc (Nat.ble (Nat.add 0 l.length) 1048576) (bc (Nat.ble (Nat.add 0 l.length) 0) _ (mk h n (.sl n 0 0 (Nat.add 0 l.length) none) (.row e (AJ [] (l.flatMap c))))) .bad=_;have hf:Nat.ble l.length 0=false:=by
  cases hq:Nat.ble l.length 0 with
  |false=>rfl
  |true=>have:=Nat.le_of_ble_eq_true hq;omega
 rw[show Nat.add 0 l.length=l.length from Nat.zero_add _,Nat.ble_eq_true_of_le hl,bJ,hf,fU];rfl
theorem gX{g st e w:Nat}(hc:dM Tryz.prog sl0 g=some ([true],jY st e w,[(.t 2)]))(hn:BR st)(K:Nat){h:AH}{n:Nat}{Q:AV->AH->Nat->Prop}{x:AV}{α:Type}{c:α->List AV}{a:List α}(hx:SL h n w x c a)(hl:a.length<=1000000)
 (hQ:∀v' h' n',Up h n h' n'->Gr h' n' e w v' c a->(∀x,blk v' x->n<=x)->(a≠[]->∃b,v'= .sl b 0 0 a.length none/\h'.get b=some (.row e (a.flatMap c))/\n<=b/\b<n')->Q v' h' n')(hg:Nat.beq g Rm=false:=by rfl)(hg':Nat.beq g ND=false:=by rfl):CW (EF (K+1)) g [x] h n Q:=by
 obtain⟨hw,hs⟩:=hx;have hx:SL h n w x c a:=⟨hw,hs⟩;have hcase:(x= .k 1/\a=[])\/(dS Tryz.prog st .eql).run x (.k 1)=some (.b false):=by
  rcases hs with⟨rfl,e2,e3⟩|⟨b,lo,o,cp,rfl,_⟩|⟨a0,c0,rfl,_⟩
  .exact .inl ⟨rfl,List.length_eq_zero_iff.1 e2⟩
  .exact .inr (hn.sl _ _ _ _ _)
  .exact .inr (hn.es _ _)
 rcases hcase with⟨rfl,rfl⟩|hv
 .refine aJ hc rfl ?_ hg hg'
  repeat' (first|(simp (disch:=omega) only[go_sem,jY,hn.nl])|(with_reducible first|apply aj|apply ah|apply ay|apply aB|apply aA|apply au)<;>intro hd<;>(rw[hd];try simp only[decide_eq_true_eq,decide_eq_false_iff_not,Bool.not_eq_true',Bool.not_eq_false']at hd)|(with_reducible refine aD ?_))
  exact hQ _ _ _ aL (Gr.nil hw) (λx hx=>absurd hx gM) λh=>absurd rfl h
 .refine aJ hc rfl ?_ hg hg'
  simp (disch:=omega) only[go_sem,jY,hv];have u1:Up h n (Tr.set h n (.row e [])) (n+1):=by exact aL
  by_cases h0:a=[]
  .subst h0
   have g0:Gr (Tr.set h n (.row e [])) (n+1) e w (.sl n 0 0 0 (some 0)) c []:=Gr.of (l:=[]) hw (Nat.lt_succ_self n) aM (by simp) (Nat.le_refl _) (by simp);obtain⟨v',h',n',r1,r2,r3,r4,r5⟩:=g0.app (hx.up u1).ap.1 (hx.up u1).ap.2 (by simp);rw[List.nil_append]at r2;try simp only[List.length_nil]at r1
   simp (disch:=omega) only[go_sem,r1];refine hQ _ _ _ ⟨by omega,λy hy=>by rw[r4 y (by omega) (λhb=>by rw[fH]at hb;omega),aI (by omega)]⟩ r2 (λy hy=>?_) λh=>absurd rfl h;rcases r5 y hy with hb|hb
   .rw[fH]at hb;omega
   .omega
  .simp (disch:=omega) only[go_sem,Ot (e:=e) (aM (t:=h) (n:=n) (v:=AO.row e [])) (hx.up u1) (by omega) h0]
   refine hQ _ _ _ aL ⟨hw,.inr ⟨_,none,_,rfl,Nat.lt_succ_self _,aM,by rw[<-bQ hw,List.take_length],by rw[bQ hw];exact Nat.le_refl _,λ_=>bQ hw _,λk hk=>by cases hk⟩⟩ (λy hy=>?_) λ_=>⟨_,rfl,aM,by omega,by omega⟩;rw[fH]at hy;omega
theorem Fz:BR 22:=⟨λ_ _ _ _ _=>by kernel_rfl,λ_ _=>by kernel_rfl,by kernel_rfl⟩
theorem Ws:BR 40:=⟨λ_ _ _ _ _=>by kernel_rfl,λ_ _=>by kernel_rfl,by kernel_rfl⟩
theorem Wt:BR 41:=⟨λ_ _ _ _ _=>by kernel_rfl,λ_ _=>by kernel_rfl,by kernel_rfl⟩
theorem ZO:dM Tryz.prog sl0 45=some ([true],jY 22 3 1,[(.t 2)]):=by kernel_rfl
theorem aco:dM Tryz.prog sl0 229=some ([true],jY 40 4 1,[(.t 2)]):=by kernel_rfl
theorem acp:dM Tryz.prog sl0 230=some ([true],jY 41 144 5,[(.t 2)]):=by kernel_rfl
end
end
section
noncomputable section
def bP(l:List aG)(i:Nat):aG:=l.getD i ⟨0,0,0,0,false⟩
theorem fJ{l:List aG}{i:Nat}(h:i<l.length):l[i]?=some (bP l i):=by
 unfold bP;rw[List.getD_eq_getElem?_getD,List.getElem?_eq_getElem h];rfl
abbrev ci(x:Int):List AV:=[.i .i64 x]
abbrev cb(x:Bool):List AV:=[.b x]
section
variable {P:Program} {S:SK} {d:MD} {r:List MR} {l':List AV} {s:List It} {f:FT} {h:AH} {n:Nat} {F:Fm} {Q:PQ}
theorem b_{w b len i:Nat}{c:Option Nat}(hi:i<len):PV S w (some (.sl b 0 0 len c)) (some (.i .i64 (i:Nat))) d r l' s f h n F Q=lJ S d (.p b (i*w)) r l' s f h n F Q:=by
 show IA w (.sl b 0 0 len c) i (λp=>lJ S d p r l' s f h n F Q)=_;apply propext;constructor
 .rintro⟨b',lo,o,m,c',e,h1,h2,q⟩
  cases e
  simpa using q
 .intro q
  exact⟨b,0,0,len,c,rfl,by omega,by omega,by simpa using q⟩
theorem cK{w b len i:Nat}{c:Option Nat}(hi:i<len):fE w (some (.sl b 0 0 len c)) (some (.i .i64 (i:Nat)))=some (.p b (i*w)):=by
 show(if 0<=(i:Int)/\(i:Int)<(len:Nat)then some (AV.p b (0+(i:Int).toNat*w))else none)=_;rw[if_pos ⟨by omega,by omega⟩];simp
theorem rY{α:Type}{c:α->List AV}{w e:Nat}(hw:∀a,(c a).length=w){l:List α}{i:Nat}{a:α}(hi:l[i]?=some a){j:Nat}(hj:j<w):pF (some (.row e (l.flatMap c))) (i*w+j) none=(c a)[j]?:=tN hw hi hj
theorem KE{α:Type}{c:α->List AV}{w e:Nat}(hw:∀a,(c a).length=w){l:List α}{i:Nat}{a:α}(hi:l[i]?=some a):pF (some (.row e (l.flatMap c))) (i*w) (some w)=some (.agg (c a)):=by
 have hlt:=(List.getElem?_eq_some_iff.1 hi).1;have hm:(i+1)*w<=l.length*w:=Nat.mul_le_mul_right w hlt;rw[Nat.succ_mul]at hm;show(if i*w+w<=(l.flatMap c).length then some (AV.agg (((l.flatMap c).drop (i*w)).take w))else none)=_;rw[if_pos (by rw[bQ hw];omega),mh hw hi]
section
variable {e i:Nat} {l:List aG} {x:Int} {b:Bool}
theorem acr(h:i<l.length):pF (some (.row e (l.flatMap aG.av))) (i*5) none=some (.i .i64 (bP l i).status):=rY (c:=aG.av) (w:=5) (λ_=>rfl) (fJ h) (j:=0) (by omega)
theorem Wu(h:i<l.length):pF (some (.row e (l.flatMap aG.av))) (i*5+1) none=some (.i .i64 (bP l i).left):=rY (c:=aG.av) (w:=5) (λ_=>rfl) (fJ h) (by omega)
theorem acs(h:i<l.length):pF (some (.row e (l.flatMap aG.av))) (i*5+2) none=some (.i .i64 (bP l i).got):=rY (c:=aG.av) (w:=5) (λ_=>rfl) (fJ h) (by omega)
theorem Wv(h:i<l.length):pF (some (.row e (l.flatMap aG.av))) (i*5+3) none=some (.i .i64 (bP l i).aT):=rY (c:=aG.av) (w:=5) (λ_=>rfl) (fJ h) (by omega)
theorem Sd(h:i<l.length):pF (some (.row e (l.flatMap aG.av))) (i*5+4) none=some (.b (bP l i).paused):=rY (c:=aG.av) (w:=5) (λ_=>rfl) (fJ h) (by omega)
theorem rdm(h:i<l.length):pF (some (.row e (l.flatMap aG.av))) (i*5) (some 5)=some (.agg (bP l i).av):=KE (c:=aG.av) (w:=5) (λ_=>rfl) (fJ h)
theorem kY{l:List aG}{m:aG}{i j:Nat}{v:AV}(h:i<l.length)(hm:m.av=(bP l i).av.set j v)(hj:j<5):fu (some (.row e (l.flatMap aG.av))) (i*5+j) (some [v])=some (.row e ((l.set i m).flatMap aG.av)):=by
 have h1:=oW (e:=e) (c:=aG.av) (w:=5) (λ_=>rfl) (l:=l) (i:=i) (a:=m) h;unfold fu at h1⊢;dsimp only at h1⊢;have Wp:(i+1)*5<=l.length*5:=Nat.mul_le_mul_right 5 h;have hfl:(l.flatMap aG.av).length=l.length*5:=bQ (c:=aG.av) (w:=5) (λ_=>rfl) l;have hat:((l.flatMap aG.av).drop (i*5)).take 5=(bP l i).av:=mh (c:=aG.av) (w:=5) (λ_=>rfl) (fJ h);have key:pG [v] (i*5+j) (l.flatMap aG.av)=pG m.av (i*5) (l.flatMap aG.av):=by
  unfold pG;rw[if_pos (by rw[hfl];simp;omega),if_pos (by rw[hfl];show i*5+5<=_;omega)];congr 1;rw[hm];generalize hL:l.flatMap aG.av=L at*;have BS:(bP l i).av.length=5:=rfl;have hsplit:L=L.take (i*5)++((bP l i).av++L.drop (i*5+5)):=by
   rw[<-hat,<-List.drop_drop,List.take_append_drop,List.take_append_drop]
  rw[List.length_set,BS];show L.take (i*5+j)++v::L.drop (i*5+j+1)=L.take (i*5)++((bP l i).av.set j v++L.drop (i*5+5));have e1:L.set (i*5+j) v=L.take (i*5+j)++v::L.drop (i*5+j+1):=by rw[List.set_eq_take_append_cons_drop,if_pos (by omega)]
  rw[<-e1];have e2:(L.take (i*5)++((bP l i).av++L.drop (i*5+5))).set (i*5+j) v=L.take (i*5)++((bP l i).av.set j v++L.drop (i*5+5)):=by
   rw[List.set_append,List.length_take,Nat.min_eq_left (by omega),if_neg (by omega),List.set_append,show i*5+j - i*5=j by omega,if_pos (by rw[BS];omega)]
  rw[<-e2,<-hsplit]
 rw[key];exact h1
theorem Ww(h:i<l.length):fu (some (.row e (l.flatMap aG.av))) (i*5) (some [.i .i64 x])=some (.row e ((l.set i ⟨x,(bP l i).left,(bP l i).got,(bP l i).aT,(bP l i).paused⟩).flatMap aG.av)):=kY (j:=0) h rfl (by omega)
theorem Wx(h:i<l.length):fu (some (.row e (l.flatMap aG.av))) (i*5+1) (some [.i .i64 x])=some (.row e ((l.set i ⟨(bP l i).status,x,(bP l i).got,(bP l i).aT,(bP l i).paused⟩).flatMap aG.av)):=kY h rfl (by omega)
theorem acu(h:i<l.length):fu (some (.row e (l.flatMap aG.av))) (i*5+2) (some [.i .i64 x])=some (.row e ((l.set i ⟨(bP l i).status,(bP l i).left,x,(bP l i).aT,(bP l i).paused⟩).flatMap aG.av)):=kY h rfl (by omega)
theorem acv(h:i<l.length):fu (some (.row e (l.flatMap aG.av))) (i*5+3) (some [.i .i64 x])=some (.row e ((l.set i ⟨(bP l i).status,(bP l i).left,(bP l i).got,x,(bP l i).paused⟩).flatMap aG.av)):=kY h rfl (by omega)
theorem Wy(h:i<l.length):fu (some (.row e (l.flatMap aG.av))) (i*5+4) (some [.b b])=some (.row e ((l.set i ⟨(bP l i).status,(bP l i).left,(bP l i).got,(bP l i).aT,b⟩).flatMap aG.av)):=kY h rfl (by omega)
theorem stm(h:i<l.length)(m:aG):fu (some (.row e (l.flatMap aG.av))) (i*5) (some m.av)=some (.row e ((l.set i m).flatMap aG.av)):=oW (c:=aG.av) (w:=5) (λ_=>rfl) h
theorem Qa(h:i<l.length){m:aG}:pF (some (.row e ((l.set i m).flatMap aG.av))) (i*5+1) none=some (.i .i64 m.left):=rY (c:=aG.av) (w:=5) (λ_=>rfl) (List.getElem?_set_self h) (by omega)
theorem Wz(h:i<l.length){m:aG}:pF (some (.row e ((l.set i m).flatMap aG.av))) (i*5+2) none=some (.i .i64 m.got):=rY (c:=aG.av) (w:=5) (λ_=>rfl) (List.getElem?_set_self h) (by omega)
theorem t_{m m':aG}{j:Nat}{v:AV}(h:i<l.length)(hm:m'.av=m.av.set j v)(hj:j<5):fu (some (.row e ((l.set i m).flatMap aG.av))) (i*5+j) (some [v])=some (.row e ((l.set i m').flatMap aG.av)):=by
 have hs:bP (l.set i m) i=m:=by unfold bP;rw[List.getD_eq_getElem?_getD,List.getElem?_set_self h];rfl
 have:=kY (e:=e) (l:=l.set i m) (m:=m') (i:=i) (j:=j) (v:=v) (by rw[List.length_set];exact h) (by rw[hs];exact hm) hj;rw[this,show(l.set i m).set i m'=l.set i m' by simp]
theorem Qc(h:i<l.length){m:aG}:fu (some (.row e ((l.set i m).flatMap aG.av))) (i*5) (some [.i .i64 x])=some (.row e ((l.set i ⟨x,m.left,m.got,m.aT,m.paused⟩).flatMap aG.av)):=t_ (j:=0) h rfl (by omega)
theorem Qd(h:i<l.length){m:aG}:fu (some (.row e ((l.set i m).flatMap aG.av))) (i*5+1) (some [.i .i64 x])=some (.row e ((l.set i ⟨m.status,x,m.got,m.aT,m.paused⟩).flatMap aG.av)):=t_ h rfl (by omega)
theorem WA(h:i<l.length){m:aG}:fu (some (.row e ((l.set i m).flatMap aG.av))) (i*5+4) (some [.b b])=some (.row e ((l.set i ⟨m.status,m.left,m.got,m.aT,b⟩).flatMap aG.av)):=t_ h rfl (by omega)
theorem rZ(h:i<l.length)(m:aG):bP (l.set i m) i=m:=by unfold bP;rw[List.getD_eq_getElem?_getD,List.getElem?_set_self h];rfl
end
end
structure UX(X:Nat->Prop)(h:AH)(n:Nat)(h':AH)(n':Nat):Prop where
 le:n<=n'
 old:∀x,x<n->¬X x->h'.get x=h.get x
section
variable {X:Nat->Prop} {h h1 h2:AH} {n n1 n2:Nat}
theorem UX.refl:UX X h n h n:=⟨Nat.le_refl _,λ_ _ _=>rfl⟩
theorem UX.trans(a:UX X h n h1 n1)(b:UX X h1 n1 h2 n2):UX X h n h2 n2:=⟨Nat.le_trans a.le b.le,λx hx hX=>(b.old x (Nat.lt_of_lt_of_le hx a.le) hX).trans (a.old x hx hX)⟩
theorem UX.up(u:Up h n h1 n1):UX X h n h1 n1:=⟨u.le,λx hx _=>u.old x hx⟩
theorem UX.set{b m:Nat}{o:AO}(a:UX X h n h1 n1)(hb:X b\/n<=b)(hm:n1<=m):UX X h n (h1.set b o) m:=⟨Nat.le_trans a.le hm,λx hx hX=>by rw[aI (by rintro rfl;rcases hb with e|e;exact hX e;omega)];exact a.old x hx hX⟩
theorem UX.Sg(a:UX X h n h1 n1)(hX:∀x,X x->n<=x):Up h n h1 n1:=⟨a.le,λx hx=>a.old x hx λe=>by have:=hX x e;omega⟩
end
structure WB where
 B:Nat
 g:Nat
 bh:Nat
 bu:Nat
 bm:Nat
 ch:Option Nat
 cu:Option Nat
 cm:Option Nat
def WB.X(b:WB)(x:Nat):Prop:=x=b.g\/x=b.bh\/x=b.bu\/x=b.bm
@[reducible] def WB.tv (b:WB) (s:aO):TS:=⟨.sl b.bh 0 0 s.aC.length b.ch,.sl b.bu 0 0 s.used.length b.cu,.sl b.bm 0 0 s.marks.length b.cm⟩
@[reducible] def WB.cells (b:WB) (v:CS) (C:aH) (s:aO):List AV:=[.i .i64 C.aK,v.h,v.u,v.a,v.k,.i .i64 C.days,v.o,.i .i64 s.day,.sl b.bh 0 0 s.aC.length b.ch,.sl b.bu 0 0 s.used.length b.cu,.sl b.bm 0 0 s.marks.length b.cm]
structure Wk(h:AH)(n:Nat)(b:WB)(v:CS)(C:aH)(s:aO):Prop where
 row:h.get b.g=some (.row 142 (b.cells v C s))
 hs:h.get b.bh=some (.row 3 (s.aC.flatMap ci))
 us:h.get b.bu=some (.row 4 (s.used.flatMap cb))
 ms:h.get b.bm=some (.row 144 (s.marks.flatMap aG.av))
 lg:b.g<n
 lh:b.bh<n
 lu:b.bu<n
 lm:b.bm<n
 kh:∀k,b.ch=some k->s.aC.length<=k
 ku:∀k,b.cu=some k->s.used.length<=k
 km:∀k,b.cm=some k->s.marks.length<=k
 ge:b.B<=b.g/\b.B<=b.bh/\b.B<=b.bu/\b.B<=b.bm
 con:Kp (λx=>b.B<=x) h n λh n=>bG h n v C
section
variable {h h':AH} {n n':Nat} {b:WB} {v:CS} {C:aH} {s:aO} {Q:AV->AH->Nat->Prop}
theorem Wk.ne(w:Wk h n b v C s):b.g≠b.bh/\b.g≠b.bu/\b.g≠b.bm/\b.bh≠b.bu/\b.bh≠b.bm/\b.bu≠b.bm:=by
 refine⟨λe=>?_,λe=>?_,λe=>?_,λe=>?_,λe=>?_,λe=>?_⟩
 .have:=w.row;rw[e,w.hs]at this;cases this
 .have:=w.row;rw[e,w.us]at this;cases this
 .have:=w.row;rw[e,w.ms]at this;cases this
 .have:=w.hs;rw[e,w.us]at this;cases this
 .have:=w.hs;rw[e,w.ms]at this;cases this
 .have:=w.us;rw[e,w.ms]at this;cases this
theorem Wk.iT(w:Wk h n b v C s):bG h n v C:=w.con.use
theorem Wk.st(w:Wk h n b v C s):dO h n (b.tv s) s:=
 ⟨SL.of (λ_=>rfl) w.lh w.hs rfl rfl w.kh,SL.of (λ_=>rfl) w.lu w.us rfl rfl w.ku,SL.of (λ_=>rfl) w.lm w.ms rfl rfl w.km⟩
theorem Wk.on(w:Wk h n b v C s)(hn:n<=n')(e:∀x,x<n->h'.get x=h.get x):Wk h' n' b v C s where
 row:=(e _ w.lg).trans w.row
 hs:=(e _ w.lh).trans w.hs
 us:=(e _ w.lu).trans w.us
 ms:=(e _ w.lm).trans w.ms
 lg:=Nat.lt_of_lt_of_le w.lg hn
 lh:=Nat.lt_of_lt_of_le w.lh hn
 lu:=Nat.lt_of_lt_of_le w.lu hn
 lm:=Nat.lt_of_lt_of_le w.lm hn
 kh:=w.kh
 ku:=w.ku
 km:=w.km
 ge:=w.ge
 con:=w.con.on hn λx hx _=>e x hx
theorem Wk.up(w:Wk h n b v C s)(u:Up h n h' n'):Wk h' n' b v C s:=w.on u.le u.old
theorem Wk.D8(w:Wk h n b v C s){x:Nat}{o:AO}(hx:¬b.X x)(hB:b.B<=x):Wk (h.set x o) n b v C s where
 row:=(aI λe=>hx (.inl e.symm)).trans w.row
 hs:=(aI λe=>hx (.inr (.inl e.symm))).trans w.hs
 us:=(aI λe=>hx (.inr (.inr (.inl e.symm)))).trans w.us
 ms:=(aI λe=>hx (.inr (.inr (.inr e.symm)))).trans w.ms
 lg:=w.lg
 lh:=w.lh
 lu:=w.lu
 lm:=w.lm
 kh:=w.kh
 ku:=w.ku
 km:=w.km
 ge:=w.ge
 con:=w.con.set (.inl hB) (Nat.le_refl _)
theorem Wk.lt(w:Wk h n b v C s){x:Nat}(hx:b.X x):x<n:=by
 rcases hx with rfl|rfl|rfl|rfl
 .exact w.lg
 .exact w.lh
 .exact w.lu
 .exact w.lm
theorem Wk.pJ(w:Wk h n b v C s){ms:List aG}(hl:ms.length=s.marks.length):Wk (h.set b.bm (.row 144 (ms.flatMap aG.av))) n b v C ⟨s.day,s.aC,s.used,ms⟩:=by
 obtain⟨n1,n2,n3,n4,n5,n6⟩:=w.ne;have hr:=w.row;refine⟨?_,(aI n5).trans w.hs,(aI n6).trans w.us,aM,w.lg,w.lh,w.lu,w.lm,w.kh,w.ku,λk hk=>by rw[hl];exact w.km k hk,w.ge,w.con.set (.inl w.ge.2.2.2) (Nat.le_refl _)⟩;rw[aI n3,hr];simp only[WB.cells,hl]
theorem Wk.setH(w:Wk h n b v C s){hs:List Int}(hl:hs.length=s.aC.length):Wk (h.set b.bh (.row 3 (hs.flatMap ci))) n b v C ⟨s.day,hs,s.used,s.marks⟩:=by
 obtain⟨n1,n2,n3,n4,n5,n6⟩:=w.ne;have hr:=w.row;refine⟨?_,aM,(aI n4.symm).trans w.us,(aI n5.symm).trans w.ms,w.lg,w.lh,w.lu,w.lm,λk hk=>by rw[hl];exact w.kh k hk,w.ku,w.km,w.ge,w.con.set (.inl w.ge.2.1) (Nat.le_refl _)⟩;rw[aI n1,hr];simp only[WB.cells,hl]
theorem Wk.WC(w:Wk h n b v C s){us:List Bool}(hl:us.length=s.used.length):Wk (h.set b.bu (.row 4 (us.flatMap cb))) n b v C ⟨s.day,s.aC,us,s.marks⟩:=by
 obtain⟨n1,n2,n3,n4,n5,n6⟩:=w.ne;have hr:=w.row;refine⟨?_,(aI n4).trans w.hs,aM,(aI n6.symm).trans w.ms,w.lg,w.lh,w.lu,w.lm,w.kh,λk hk=>by rw[hl];exact w.ku k hk,w.km,w.ge,w.con.set (.inl w.ge.2.2.1) (Nat.le_refl _)⟩;rw[aI n2,hr];simp only[WB.cells,hl]
theorem Wk.acy(w:Wk h n b v C s){d:Int}:Wk (h.set b.g (.row 142 (b.cells v C ⟨d,s.aC,s.used,s.marks⟩))) n b v C ⟨d,s.aC,s.used,s.marks⟩:=by
 obtain⟨n1,n2,n3,n4,n5,n6⟩:=w.ne;exact⟨aM,(aI n1.symm).trans w.hs,(aI n2.symm).trans w.us,(aI n3.symm).trans w.ms,w.lg,w.lh,w.lu,w.lm,w.kh,w.ku,w.km,w.ge,w.con.set (.inl w.ge.1) (Nat.le_refl _)⟩
theorem WB.ux(b:WB){h:AH}{n:Nat}{x:Nat}{o:AO}(hx:b.X x):UX b.X h n (h.set x o) n:=UX.refl.set (.inl hx) (Nat.le_refl _)
theorem xk(K:Nat)(w:Wk h n b v C s){i:Nat}(hi:i<s.marks.length)(st:Int)(hQ:∀h' n',Wk h' n' b v C ⟨s.day,s.aC,s.used,s.marks.set i ((bP s.marks i).ended st)⟩->UX b.X h n h' n'->Q (.bV []) h' n'):CW (EF (K+1)) 176 [.p b.g 0,.i .i64 (i:Nat),.i .i64 st] h n Q:=by
 obtain⟨n1,n2,n3,n4,n5,n6⟩:=w.ne;refine aJ abZ rfl ?_;repeat' (first|(simp (disch:=omega) only[go_sem,V3,w.row,w.ms,WB.cells,cK hi,Ww hi,Qd hi,WA hi])|(with_reducible first|apply aj|apply ah|apply ay|apply aB|apply aA|apply au)<;>intro hd<;>(rw[hd];try simp only[decide_eq_true_eq,decide_eq_false_iff_not,Bool.not_eq_true',Bool.not_eq_false']at hd)|(with_reducible refine aD ?_))
 refine hQ _ _ (((w.pJ (ms:=s.marks.set i ⟨st,(bP s.marks i).left,(bP s.marks i).got,(bP s.marks i).aT,(bP s.marks i).paused⟩) ?_).pJ (ms:=s.marks.set i ⟨st,0,(bP s.marks i).got,(bP s.marks i).aT,(bP s.marks i).paused⟩) ?_).pJ ?_) (((UX.refl.set (.inl (.inr (.inr (.inr rfl)))) (Nat.le_refl _)).set (.inl (.inr (.inr (.inr rfl)))) (Nat.le_refl _)).set (.inl (.inr (.inr (.inr rfl)))) (Nat.le_refl _))<;>simp
end
end
end
section
noncomputable section
theorem bG.Qe{h:AH}{n:Nat}{v:CS}{C:aH}(hs:bG h n v C){i:Nat}(hi:i<C.clauses.length):
 ∃b o a t,fE 16 (some v.k) (some (.i .i64 (i:Nat)))=some (.p b o)/\C.clauses[i]?=some a/\b<n/\SL h n 2 t fO.av a.start/\RD h b o 16 (a.av t):=by
 obtain⟨ss,e1,e2,e3⟩:=hs.clauses;obtain⟨a,ha⟩:∃a,C.clauses[i]?=some a:=⟨C.clauses[i],List.getElem?_eq_some_iff.2 ⟨hi,rfl⟩⟩;obtain⟨t,ht⟩:∃t,ss[i]?=some t:=⟨ss[i],List.getElem?_eq_some_iff.2 ⟨by omega,rfl⟩⟩;have hz:(C.clauses.zip ss)[i]?=some (a,t):=by rw[List.getElem?_zip_eq_some];exact⟨ha,ht⟩
 have hl:(C.clauses.zip ss).length=C.clauses.length:=by simp[e1]
 have hS:SL h n 16 v.k (λp:aN×AV=>p.1.av p.2) (C.clauses.zip ss):=⟨λ_=>rfl,by rw[hl];exact e2⟩;obtain⟨b,o,p,h1,h2,h3,h4⟩:=hS.fE (k:=(i:Nat)) (by omega) (by omega) (by omega);rw[show((i:Nat):Int).toNat=i by omega,hz]at h2;cases h2
 exact⟨b,o,a,t,h1,ha,h3,e3 i a t ha ht,h4⟩
theorem aR{S:SK}{w:Nat}{x:AV}{k:Int}{d:MD}{r:List MR}{l:List AV}{s:List It}{f:FT}{h:AH}{n:Nat}{F:Fm}{Q:PQ}{p:AV}(e:fE w (some x) (some (.i .i64 k))=some p):PV S w (some x) (some (.i .i64 k)) d r l s f h n F Q=lJ S d p r l s f h n F Q:=by
 show IA w x k (λp=>lJ S d p r l s f h n F Q)=_;unfold fE at e;split at e
 case h_2=>cases e
 rename_i b lo o m c j k' e1 e2;cases e1
 cases e2
 split at e
 case isFalse=>cases e
 rename_i hk;cases e
 apply propext;constructor
 .rintro⟨b',lo',o',m',c',e,_,_,q⟩
  cases e
  exact q
 .intro q
  exact⟨b,lo,o,m,c,rfl,hk.1,hk.2,q⟩
section
variable {h h':AH} {n n':Nat} {b:WB} {v:CS} {C:aH} {s:aO} {Q:AV->AH->Nat->Prop}
abbrev aO.eB(s:aO)(ms:List aG):aO:=⟨s.day,s.aC,s.used,ms⟩
abbrev WE(b:WB)(v:CS)(C:aH)(s:aO)(i:Nat)(m:aG)(h:AH)(n:Nat)(Q:AV->AH->Nat->Prop):Prop:=∀h' n',Wk h' n' b v C (s.eB (s.marks.set i m))->UX b.X h n h' n'->Q (.bV []) h' n'
theorem WB.xm(b:WB):b.X b.bm:=.inr (.inr (.inr rfl))
theorem Ai(K:Nat)(w:Wk h n b v C s){i:Nat}(hi:i<s.marks.length)(hQ:WE b v C s i ((bP s.marks i).ended 3) h n Q):CW (EF (K+2)) 97 [.p b.g 0,.i .i64 (i:Nat)] h n Q:=by
 refine aJ c97 rfl ?_;repeat' (first|(simp (disch:=omega) only[go_sem,m97])|(with_reducible first|apply aj|apply ah|apply ay|apply aB|apply aA|apply au)<;>intro hd<;>(rw[hd];try simp only[decide_eq_true_eq,decide_eq_false_iff_not,Bool.not_eq_true',Bool.not_eq_false']at hd)|(with_reducible refine aD ?_))
 rw[bA];refine xk _ w hi 3 λh' n' w' u=>?_;repeat' (first|(simp (disch:=omega) only[go_sem])|(with_reducible first|apply aj|apply ah|apply ay|apply aB|apply aA|apply au)<;>intro hd<;>(rw[hd];try simp only[decide_eq_true_eq,decide_eq_false_iff_not,Bool.not_eq_true',Bool.not_eq_false']at hd)|(with_reducible refine aD ?_))
 exact hQ _ _ w' u
theorem BU(K:Nat)(w:Wk h n b v C s){i:Nat}(hi:i<s.marks.length)(hQ:WE b v C s i ((bP s.marks i).ended 5) h n Q):CW (EF (K+2)) 98 [.p b.g 0,.i .i64 (i:Nat)] h n Q:=by
 refine aJ c98 rfl ?_;repeat' (first|(simp (disch:=omega) only[go_sem,m98])|(with_reducible first|apply aj|apply ah|apply ay|apply aB|apply aA|apply au)<;>intro hd<;>(rw[hd];try simp only[decide_eq_true_eq,decide_eq_false_iff_not,Bool.not_eq_true',Bool.not_eq_false']at hd)|(with_reducible refine aD ?_))
 rw[bA];refine xk _ w hi 5 λh' n' w' u=>?_;repeat' (first|(simp (disch:=omega) only[go_sem])|(with_reducible first|apply aj|apply ah|apply ay|apply aB|apply aA|apply au)<;>intro hd<;>(rw[hd];try simp only[decide_eq_true_eq,decide_eq_false_iff_not,Bool.not_eq_true',Bool.not_eq_false']at hd)|(with_reducible refine aD ?_))
 exact hQ _ _ w' u
theorem Wk.same(w:Wk h n b v C s){i:Nat}(hi:i<s.marks.length):s.eB (s.marks.set i (bP s.marks i))=s:=by
 obtain⟨d,hs,us,ms⟩:=s;show aO.mk d hs us (ms.set i (bP ms i))=_;congr 1;refine List.ext_getElem? λj=>?_;rw[List.getElem?_set];by_cases e:i=j
 .subst e;rw[if_pos rfl,if_pos hi];exact(fJ hi).symm
 .rw[if_neg e]
theorem D9(K:Nat)(w:Wk h n b v C s){i:Nat}(hi:i<s.marks.length)(hQ:WE b v C s i (bP s.marks i).violated h n Q):CW (EF (K+2)) 102 [.p b.g 0,.i .i64 (i:Nat)] h n Q:=by
 refine aJ ab1 rfl ?_;repeat' (first|(simp (disch:=omega) only[go_sem,V5,w.row,w.ms,WB.cells,b_ hi,Sd hi])|(with_reducible first|apply aj|apply ah|apply ay|apply aB|apply aA|apply au)<;>intro hd<;>(rw[hd];try simp only[decide_eq_true_eq,decide_eq_false_iff_not,Bool.not_eq_true',Bool.not_eq_false']at hd)|(with_reducible refine aD ?_))
 .rw[bA]
  refine xk _ w hi 4 λh' n' w' u=>?_;repeat' (first|(simp (disch:=omega) only[go_sem])|(with_reducible first|apply aj|apply ah|apply ay|apply aB|apply aA|apply au)<;>intro hd<;>(rw[hd];try simp only[decide_eq_true_eq,decide_eq_false_iff_not,Bool.not_eq_true',Bool.not_eq_false']at hd)|(with_reducible refine aD ?_))
  refine hQ _ _ ?_ u;unfold aG.violated;simp_all
 .refine hQ _ _ ?_ UX.refl
  unfold aG.violated;rw[hd,cond_true,w.same hi];exact w
theorem D_(K:Nat)(w:Wk h n b v C s){i:Nat}(hi:i<s.marks.length)(hg:(bP s.marks i).got<=1000000)(hg0: -1000000<=(bP s.marks i).got){k:aN}(hk:C.clauses[i]?=some k)(hQ:WE b v C s i ((bP s.marks i).performed k.need) h n Q):CW (EF (K+2)) 101 [.p b.g 0,.i .i64 (i:Nat)] h n Q:=by
 obtain⟨n1,n2,n3,n4,n5,n6⟩:=w.ne;have w1:=w.pJ (ms:=s.marks.set i ⟨(bP s.marks i).status,(bP s.marks i).left,(bP s.marks i).got+1,(bP s.marks i).aT,(bP s.marks i).paused⟩) (by simp);have u1:=b.ux (h:=h) (n:=n) (o:=.row 144 ((s.marks.set i ⟨(bP s.marks i).status,(bP s.marks i).left,(bP s.marks i).got+1,(bP s.marks i).aT,(bP s.marks i).paused⟩).flatMap aG.av)) b.xm;obtain⟨cb,co,k',t,i1,i2,i3,i4,rd⟩:=w1.iT.Qe (i:=i) (List.getElem?_eq_some_iff.1 hk).1;rw[hk]at i2;cases i2;have hi1:i<(s.marks.set i ⟨(bP s.marks i).status,(bP s.marks i).left,(bP s.marks i).got+1,(bP s.marks i).aT,(bP s.marks i).paused⟩).length:=by simpa using hi
 have wid:f_ .i64 ((bP s.marks i).got+1)=(bP s.marks i).got+1:=dN (by omega) (by omega);refine aJ ab0 rfl ?_;repeat' (first|(simp (disch:=omega) only[go_sem,V4,wid,w.row,w.ms,WB.cells,b_ hi,cK hi,acs hi,acu hi,Wz hi,i1,rd.el,rd.hd])|(with_reducible first|apply aj|apply ah|apply ay|apply aB|apply aA|apply au)<;>intro hd<;>(rw[hd];try simp only[decide_eq_true_eq,decide_eq_false_iff_not,Bool.not_eq_true',Bool.not_eq_false']at hd)|(with_reducible refine aD ?_))
 .rw[bA]
  refine xk _ w1 hi1 3 λh' n' w' u=>?_;repeat' (first|(simp (disch:=omega) only[go_sem])|(with_reducible first|apply aj|apply ah|apply ay|apply aB|apply aA|apply au)<;>intro hd<;>(rw[hd];try simp only[decide_eq_true_eq,decide_eq_false_iff_not,Bool.not_eq_true',Bool.not_eq_false']at hd)|(with_reducible refine aD ?_))
  refine hQ _ _ ?_ (u1.trans u);have e:(bP s.marks i).performed k.need=aG.ended ⟨(bP s.marks i).status,(bP s.marks i).left,(bP s.marks i).got+1,(bP s.marks i).aT,(bP s.marks i).paused⟩ 3:=by
   unfold aG.performed;rw[show((bP s.marks i).got+1==k.need)=true by simpa using hd];rfl
  rw[e];simpa [rZ hi]using w'
 .refine hQ _ _ ?_ u1
  have e:(bP s.marks i).performed k.need=⟨(bP s.marks i).status,(bP s.marks i).left,(bP s.marks i).got+1,(bP s.marks i).aT,(bP s.marks i).paused⟩:=by
   unfold aG.performed;rw[show((bP s.marks i).got+1==k.need)=false by simpa using hd];rfl
  rw[e];exact w1
theorem G8(K:Nat)(w:Wk h n b v C s){i:Nat}(hi:i<s.marks.length){k:aN}(hk:C.clauses[i]?=some k)(hQ:WE b v C s i ((bP s.marks i).expired k.fP) h n Q):CW (EF (K+2)) 96 [.p b.g 0,.i .i64 (i:Nat)] h n Q:=by
 obtain⟨n1,n2,n3,n4,n5,n6⟩:=w.ne;obtain⟨cb,co,k',t,i1,i2,i3,i4,rd⟩:=w.iT.Qe (i:=i) (List.getElem?_eq_some_iff.1 hk).1;rw[hk]at i2;cases i2;refine aJ c96 rfl ?_;repeat' (first|(simp (disch:=omega) only[go_sem,m96,w.row,w.ms,WB.cells,b_ hi,cK hi,acr hi,Ww hi,Qd hi,i1,aR i1,rd.el,rd.hd])|(with_reducible first|apply aj|apply ah|apply ay|apply aB|apply aA|apply au)<;>intro hd<;>(rw[hd];try simp only[decide_eq_true_eq,decide_eq_false_iff_not,Bool.not_eq_true',Bool.not_eq_false']at hd)|(with_reducible refine aD ?_))
 .rename_i h1
  have w1:=w.pJ (ms:=s.marks.set i ⟨2,(bP s.marks i).left,(bP s.marks i).got,(bP s.marks i).aT,(bP s.marks i).paused⟩) (by simp);have w2:=w1.pJ (ms:=s.marks.set i ⟨2,k.fP,(bP s.marks i).got,(bP s.marks i).aT,(bP s.marks i).paused⟩) (by simp);refine hQ _ _ ?_ ((UX.refl.set (.inl b.xm) (Nat.le_refl _)).set (.inl b.xm) (Nat.le_refl _));have e:(bP s.marks i).expired k.fP=⟨2,k.fP,(bP s.marks i).got,(bP s.marks i).aT,(bP s.marks i).paused⟩:=by
   unfold aG.expired;rw[show((bP s.marks i).status==1&&decide (0<k.fP))=true by simp;omega];rfl
  rw[e];exact w2
 all_goals
  rw[bA];refine xk _ w hi 4 λh' n' w' u=>?_;repeat' (first|(simp (disch:=omega) only[go_sem])|(with_reducible first|apply aj|apply ah|apply ay|apply aB|apply aA|apply au)<;>intro hd<;>(rw[hd];try simp only[decide_eq_true_eq,decide_eq_false_iff_not,Bool.not_eq_true',Bool.not_eq_false']at hd)|(with_reducible refine aD ?_))
  refine hQ _ _ ?_ u;have e:(bP s.marks i).expired k.fP=(bP s.marks i).ended 4:=by
   unfold aG.expired;rw[show((bP s.marks i).status==1&&decide (0<k.fP))=false by simp;omega];rfl
  rw[e];exact w'
end
end
end
section
noncomputable section
section
variable {h h':AH} {n n':Nat} {b:WB} {v:CS} {C:aH} {s:aO} {Q:AV->AH->Nat->Prop}
theorem rdh{e:Nat}{hs:List Int}{j:Nat}(h:j<hs.length):pF (some (.row e (hs.flatMap ci))) (j*1) none=some (.i .i64 (gF hs (j:Nat))):=by
 have h1:hs[j]?=some hs[j]:=List.getElem?_eq_some_iff.2 ⟨h,rfl⟩;have h2:=rY (c:=ci) (w:=1) (e:=e) (λ_=>rfl) h1 (j:=0) (by omega);unfold gF;rw[show((j:Nat):Int).toNat=j by omega,h1];exact h2
theorem Ou(ms:List aG):idle ms<=ms.length:=List.length_filter_le _ _
theorem r9(K:Nat)(w:Wk h n b v C s)(ok:C.Ok)(hl:s.marks.length=C.clauses.length)(hh:s.aC.length=C.aC.length)(hQ:∀h' n',Wk h' n' b v C (s.eB (C.begin s.aC s.marks))->UX b.X h n h' n'->Q (.bV []) h' n'):CW (EF (K+2)) 46 [.p b.g 0] h n Q:=by
 have BX:=ok.fQ;refine aJ c46 rfl ?_;repeat' (first|(simp (disch:=omega) only[go_sem,ub.old,m46])|(simp (disch:=omega) only[go_sem,m46])|(with_reducible first|apply aj|apply ah|apply ay|apply aB|apply aA|apply au)<;>intro hd<;>(rw[hd];try simp only[decide_eq_true_eq,decide_eq_false_iff_not,Bool.not_eq_true',Bool.not_eq_false']at hd)|(with_reducible refine aD ?_))
 refine iX (λm h2 n2 F=>∃ms x,Wk h2 n2 b v C (s.eB ms)/\UX b.X h n h2 n2/\F=[(0,.p b.g 0),(2,.b x)]/\ms.length=s.marks.length/\(x=true->C.begin s.aC ms=C.begin s.aC s.marks/\m=idle ms+1)/\(x=false->m=0/\ms=C.begin s.aC s.marks)) (idle s.marks+1) (by have:=Ou s.marks;omega) ⟨_,⟨s.marks,true,w,UX.refl,rfl,rfl,λ_=>⟨rfl,rfl⟩,λe=>by cases e⟩,by(repeat' (first|exact aZ|refine aW rfl ?_))⟩ ?_;rintro m h2 n2 F ⟨ms,x,w2,u2,rfl,hml,hx1,hx2⟩;cases x with
 |false=>
  repeat' (first|(simp (disch:=omega) only[go_sem,ub.old,BM])|(simp (disch:=omega) only[go_sem,BM])|(with_reducible first|apply aj|apply ah|apply ay|apply aB|apply aA|apply au)<;>intro hd<;>(rw[hd];try simp only[decide_eq_true_eq,decide_eq_false_iff_not,Bool.not_eq_true',Bool.not_eq_false']at hd)|(with_reducible refine aD ?_))
  obtain⟨_,rfl⟩:=hx2 rfl;exact hQ _ _ w2 u2
 |true=>
  obtain⟨hb,rfl⟩:=hx1 rfl;repeat' (first|(simp (disch:=omega) only[go_sem,ub.old,BM,w2.row,WB.cells,w2.iT.lk])|(simp (disch:=omega) only[go_sem,BM,w2.row,WB.cells,w2.iT.lk])|(with_reducible first|apply aj|apply ah|apply ay|apply aB|apply aA|apply au)<;>intro hd<;>(rw[hd];try simp only[decide_eq_true_eq,decide_eq_false_iff_not,Bool.not_eq_true',Bool.not_eq_false']at hd)|(with_reducible refine aD ?_))
  refine dD C.clauses.length (λk h3 n3 G=>Wk h3 n3 b v C (s.eB (bR C s.aC ms k))/\UX b.X h n h3 n3/\G=[(0,.p b.g 0),(2,.b (dh C s.aC ms k)),(11,v.k)]) (by omega) (by omega) (by omega) (by omega) (λk h3 n3 G ⟨_,_,e⟩=>by subst e;exact⟨rfl,rfl⟩) ⟨rfl,rfl,_,⟨w2,u2,rfl⟩,by(repeat' (first|exact aZ|refine aW rfl ?_))⟩ ?_ ?_
  .rintro k h3 n3 G hk ⟨w3,u3,rfl⟩
   have g1:=w3.lg;have g2:=w3.lh;have g3:=w3.lu;have g4:=w3.lm;obtain⟨cb,co,kc,t,i1,i2,i3,i4,rd⟩:=w3.iT.Qe hk;have xZ:=ok.clause i2;have hlen:(bR C s.aC ms k).length=ms.length:=nP C s.aC ms k;have hkm:k<(bR C s.aC ms k).length:=by omega
   have hm:=fJ hkm;have hf:fI C (bR C s.aC ms k) k=eP (bR C s.aC ms k) kc (bP (bR C s.aC ms k) k):=by unfold fI;rw[i2,hm]
   have next:∀h4 n4 (F:Fm),Wk h4 n4 b v C (s.eB (bR C s.aC ms (k+1)))->UX b.X h3 n3 h4 n4->lk F 13=some (.i .i64 (k:Nat))->lk F 12=some (.i .i64 (C.clauses.length:Nat))->lk F 0=some (.p b.g 0)->lk F 2=some (.b (dh C s.aC ms (k+1)))->lk F 11=some v.k->
    (lk F 13=some (.i .i64 (k:Nat))/\lk F 12=some (.i .i64 (C.clauses.length:Nat))/\∃G,(Wk h4 n4 b v C (s.eB (bR C s.aC ms (k+1)))/\UX b.X h n h4 n4/\G=[(0,.p b.g 0),(2,.b (dh C s.aC ms (k+1))),(11,v.k)])/\∀m v,lk G m=some v->lk F m=some v):=
    λh4 n4 F a1 a2 a3 a4 a5 a6 a7=>⟨a3,a4,_,⟨a1,u3.trans a2,rfl⟩,aW a5 (aW a6 (aW a7 aZ))⟩
   have ends:∀h4 n4 (F:Fm),eP (bR C s.aC ms k) kc (bP (bR C s.aC ms k) k)=true->Wk h4 n4 b v C (s.eB ((bR C s.aC ms k).set k (p9 s.aC kc)))->UX b.X h3 n3 h4 n4->lk F 13=some (.i .i64 (k:Nat))->lk F 12=some (.i .i64 (C.clauses.length:Nat))->lk F 0=some (.p b.g 0)->lk F 2=some (.b true)->lk F 11=some v.k->_:=
    λh4 n4 F hd a1 a2 a3 a4 a5 a6 a7=>next h4 n4 F (by unfold bR gZ;rw[i2,hf,hd];exact a1) a2 a3 a4 a5 (by rw[a6];unfold dh;rw[hf,hd,Bool.or_true]) a7
   by_cases hk4:kc.kind=4
   .have hb4:jD s.aC kc= -1:=by unfold jD;simp[hk4]
    have e4:p9 s.aC kc=⟨1,kc.after,0, -1,false⟩:=by unfold p9;rw[hb4]
    have WG:=stm (e:=144) hkm ⟨1,kc.after,0, -1,false⟩;repeat' (first|(simp (disch:=omega) only[go_sem,ub.old,BL,aR i1,rd.el,rd.hd,rd.all,aN.av,w3.row,w3.ms,WB.cells,hk4,cK hkm,WG,BEq.rfl,cond_true])|(simp (disch:=omega) only[go_sem,BL,aR i1,rd.el,rd.hd,rd.all,aN.av,w3.row,w3.ms,WB.cells,hk4,cK hkm,WG,BEq.rfl,cond_true])|((first|rw[bA]|rw[bU]);with_reducible refine xg _ (w3.iT.up aL) (w3.st.up aL) i2 hm (by have:=xZ.wR;omega) (λc hc=>by have:=xZ.start c hc;show 0<=c.clause/\c.clause<((bR C s.aC ms k).length:Nat);omega) λh2 n2 u2=>?_;(first|replace ub:=Up.trans ub (Up.trans aL u2)|have ub:=u2);have hle:=ub.le;clear u2)|(with_reducible first|apply aj|apply ah|apply ay|apply aB|apply aA|apply au)<;>intro hd<;>(rw[hd];try simp only[decide_eq_true_eq,decide_eq_false_iff_not,Bool.not_eq_true',Bool.not_eq_false']at hd)|(with_reducible refine aD ?_))
    .refine next _ _ _ ?_ (UX.up aL) rfl rfl rfl ?_ rfl
     .unfold bR gZ
      rw[i2,hf,hd];exact w3.up aL
     .rw[show dh C s.aC ms (k+1)=dh C s.aC ms k by show(dh C s.aC ms k||fI C (bR C s.aC ms k) k)=_;rw[hf,hd,Bool.or_false]];rfl
    .exact ends _ _ _ hd (by rw[e4];exact(w3.up aL).pJ (ms:=(bR C s.aC ms k).set k _) (by simp)) ((UX.up aL).set (.inl b.xm) (Nat.le_refl _)) rfl rfl rfl rfl rfl
   .obtain⟨j,hj,hj2⟩:∃j:Nat,kc.role=j/\j<s.aC.length:=by
     have:=xZ.role hk4;exact⟨kc.role.toNat,by omega,by omega⟩
    have hb4:jD s.aC kc=gF s.aC j:=by
     unfold jD;rw[show(kc.kind==4)=false by simpa using hk4,hj];rfl
    have e4:p9 s.aC kc=⟨1,kc.after,0,gF s.aC j,false⟩:=by unfold p9;rw[hb4]
    have WG:=stm (e:=144) hkm ⟨1,kc.after,0,gF s.aC j,false⟩;repeat' (first|(simp (disch:=omega) only[go_sem,ub.old,BL,aR i1,rd.el,rd.hd,rd.all,aN.av,w3.row,w3.ms,w3.hs,WB.cells,hk4,hj,cK hkm,cK hj2,rdh hj2,WG])|(simp (disch:=omega) only[go_sem,BL,aR i1,rd.el,rd.hd,rd.all,aN.av,w3.row,w3.ms,w3.hs,WB.cells,hk4,hj,cK hkm,cK hj2,rdh hj2,WG])|((first|rw[bA]|rw[bU]);with_reducible refine xg _ (w3.iT.up aL) (w3.st.up aL) i2 hm (by have:=xZ.wR;omega) (λc hc=>by have:=xZ.start c hc;show 0<=c.clause/\c.clause<((bR C s.aC ms k).length:Nat);omega) λh2 n2 u2=>?_;(first|replace ub:=Up.trans ub (Up.trans aL u2)|have ub:=u2);have hle:=ub.le;clear u2)|(with_reducible first|apply aj|apply ah|apply ay|apply aB|apply aA|apply au)<;>intro hd<;>(rw[hd];try simp only[decide_eq_true_eq,decide_eq_false_iff_not,Bool.not_eq_true',Bool.not_eq_false']at hd)|(with_reducible refine aD ?_))
    .refine next _ _ _ ?_ (UX.up aL) rfl rfl rfl ?_ rfl
     .unfold bR gZ
      rw[i2,hf,hd];exact w3.up aL
     .rw[show dh C s.aC ms (k+1)=dh C s.aC ms k by show(dh C s.aC ms k||fI C (bR C s.aC ms k) k)=_;rw[hf,hd,Bool.or_false]];rfl
    .exact ends _ _ _ hd (by rw[e4];exact(w3.up aL).pJ (ms:=(bR C s.aC ms k).set k _) (by simp)) ((UX.up aL).set (.inl b.xm) (Nat.le_refl _)) rfl rfl rfl rfl rfl
  .rintro h3 n3 G ⟨w3,u3,rfl⟩
   repeat' (first|(simp (disch:=omega) only[go_sem,ub.old])|(simp (disch:=omega) only[go_sem])|(with_reducible first|apply aj|apply ah|apply ay|apply aB|apply aA|apply au)<;>intro hd<;>(rw[hd];try simp only[decide_eq_true_eq,decide_eq_false_iff_not,Bool.not_eq_true',Bool.not_eq_false']at hd)|(with_reducible refine aD ?_))
   rw[BG];have hlen:=nP C s.aC ms C.clauses.length;cases ZP:dh C s.aC ms C.clauses.length with
   |true=>
    have:=(fV C s.aC ms C.clauses.length).1 ZP;exact⟨idle (bR C s.aC ms C.clauses.length)+1,_,by omega,⟨_,true,w3,u3,rfl,by omega,λ_=>⟨by rw[<-BH ZP];exact hb,rfl⟩,λe=>by cases e⟩,by(repeat' (first|exact aZ|refine aW rfl ?_))⟩
   |false=>
    refine⟨0,_,by omega,⟨_,false,w3,u3,rfl,by omega,λe=>(by cases e),λ_=>⟨rfl,?_⟩⟩,by(repeat' (first|exact aZ|refine aW rfl ?_))⟩;rw[(fV C s.aC ms C.clauses.length).2 ZP,<-hb,BI ZP]
end
end
end
noncomputable section
section
variable {h h':AH} {n n':Nat} {Q:AV->AH->Nat->Prop}
theorem KF(K:Nat)(x:Int)(hQ:∀h' n',Up h n h' n'->Q (.b false) h' n'):CW (EF (K+1)) 205 [.i .i64 x] h n Q:=by
 refine aJ acd rfl ?_;repeat' (first|(simp (disch:=omega) only[go_sem,V9])|(with_reducible first|apply aj|apply ah|apply ay|apply aB|apply aA|apply au)<;>intro hd<;>(rw[hd];try simp only[decide_eq_true_eq,decide_eq_false_iff_not,Bool.not_eq_true',Bool.not_eq_false']at hd)|(with_reducible refine aD ?_))
 exact hQ _ _ aL
theorem G9(K:Nat)(x:Int)(hQ:∀h' n',Up h n h' n'->Q (.b false) h' n'):CW (EF (K+1)) 178 [.i .i64 x] h n Q:=by
 refine aJ ab9 rfl ?_;repeat' (first|(simp (disch:=omega) only[go_sem,V8])|(with_reducible first|apply aj|apply ah|apply ay|apply aB|apply aA|apply au)<;>intro hd<;>(rw[hd];try simp only[decide_eq_true_eq,decide_eq_false_iff_not,Bool.not_eq_true',Bool.not_eq_false']at hd)|(with_reducible refine aD ?_))
 exact hQ _ _ aL
theorem Ov(K:Nat)(x y:Int)(hQ:∀h' n',Up h n h' n'->Q (.b (decide (x<y))) h' n'):CW (EF (K+2)) 177 [.i .i64 x,.i .i64 y] h n Q:=by
 refine aJ ab_ rfl ?_;repeat' (first|(simp (disch:=omega) only[go_sem,ub.old,R4])|(simp (disch:=omega) only[go_sem,R4])|((first|rw[bA]|rw[bU]);with_reducible refine KF _ _ λh2 n2 u2=>?_;(first|replace ub:=Up.trans ub (Up.trans aL u2)|have ub:=u2);have hle:=ub.le;clear u2)|(with_reducible first|apply aj|apply ah|apply ay|apply aB|apply aA|apply au)<;>intro hd<;>(rw[hd];try simp only[decide_eq_true_eq,decide_eq_false_iff_not,Bool.not_eq_true',Bool.not_eq_false']at hd)|(with_reducible refine aD ?_))
 exact hQ _ _ aL
@[go_sem] theorem WH {P:Program} {ty:TypeId} {k:IntKind} {a:Int}:(dS P ty .shr).run (.i k a) (.i k 1)=some (.i k (a/2)):=by
 cases k<;>rfl
theorem Ea{l:List Int}(hs:l.Pairwise (· < ·)){x:Int}{i:Nat}(h1:∀j y,j<i->l[j]?=some y->y<x)(h2:∀j y,i<=j->l[j]?=some y->x<=y):l.contains x=decide (l[i]?=some x):=by
 rw[Bool.eq_iff_iff,List.contains_iff_mem,decide_eq_true_eq];constructor
 .intro hm
  obtain⟨j,hj⟩:=List.getElem?_of_mem hm;by_cases c1:j<i
  .have:=h1 j x c1 hj;omega
  by_cases c2:j=i
  .subst c2;exact hj
  .have hlt:=(List.getElem?_eq_some_iff.1 hj).1
   have h3:=h2 i l[i] (Nat.le_refl _) (List.getElem?_eq_some_iff.2 ⟨by omega,rfl⟩);have h4:=List.pairwise_iff_getElem.1 hs i j (by omega) hlt (by omega);have h5:=(List.getElem?_eq_some_iff.1 hj).2;omega
 .exact List.mem_of_getElem?
theorem G_(K:Nat){v:AV}{l:List Int}(x:Int)(hv:SL h n 1 v ci l)(hs:l.Pairwise (· < ·))(hl:l.length<=1000000)(hQ:∀i h' n',Up h n h' n'->Q (.bV [.i .i64 i,.b (l.contains x)]) h' n'):CW (EF (K+3)) 99 [v,.i .i64 x] h n Q:=by
 refine aJ c99 rfl ?_;repeat' (first|(simp (disch:=omega) only[go_sem,ub.old,m99,hv.len])|(simp (disch:=omega) only[go_sem,m99,hv.len])|(with_reducible first|apply aj|apply ah|apply ay|apply aB|apply aA|apply au)<;>intro hd<;>(rw[hd];try simp only[decide_eq_true_eq,decide_eq_false_iff_not,Bool.not_eq_true',Bool.not_eq_false']at hd)|(with_reducible refine aD ?_))
 refine iX (λm h2 n2 F=>∃i j:Nat,m=j - i/\i<=j/\j<=l.length/\Up h n h2 n2/\(∀k y,k<i->l[k]?=some y->y<x)/\(∀k y,j<=k->l[k]?=some y->x<=y)/\F=[(0,v),(1,.i .i64 x),(6,.i .i64 (l.length:Nat)),(7,.i .i64 (i:Nat)),(8,.i .i64 (j:Nat))]) l.length (by omega) ⟨_,⟨0,l.length,rfl,Nat.zero_le _,Nat.le_refl _,Up.refl _ _,by omega,λk y hk e=>(by rw[List.getElem?_eq_none (by omega)]at e;cases e),rfl⟩,by(repeat' (first|exact aZ|refine aW rfl ?_))⟩ ?_;rintro m h2 n2 F ⟨i,j,rfl,hij,hj,u,h1,h3,rfl⟩;by_cases hlt:i<j
 .have hdec:decide ((i:Int)<(j:Int))=true:=decide_eq_true (by omega)
  obtain⟨q,hq,hq1,hq2⟩:∃q:Nat,f_ .i64 (f_ .u64 (f_ .i64 ((i:Int)+j))/2)=(q:Int)/\i<=q/\q<j:=by
   rw[show f_ .i64 ((i:Int)+j)=(i:Int)+j from dN (by omega) (by omega),show f_ .u64 ((i:Int)+j)=(i:Int)+j from rV (by omega) (by omega),dN (by omega) (by omega)];exact⟨((i+j)/2:Nat),by omega,by omega,by omega⟩
  obtain⟨b1,o1,y,i1,hy,hb1,rd⟩:=hv.fE (k:=(q:Nat)) (by omega) (by omega) (by omega);rw[show((q:Nat):Int).toNat=q by omega]at hy;have uo:=u.old b1 hb1;repeat' (first|(simp (disch:=omega) only[go_sem,ub.old,wU,hdec,hq,aR i1,uo,rd.el,rd.hd])|(simp (disch:=omega) only[go_sem,wU,hdec,hq,aR i1,uo,rd.el,rd.hd])|((first|rw[bA]|rw[bU]);with_reducible refine Ov _ _ _ λh2 n2 u2=>?_;(first|replace ub:=Up.trans ub (Up.trans aL u2)|have ub:=u2);have hle:=ub.le;clear u2)|(with_reducible first|apply aj|apply ah|apply ay|apply aB|apply aA|apply au)<;>intro hd<;>(rw[hd];try simp only[decide_eq_true_eq,decide_eq_false_iff_not,Bool.not_eq_true',Bool.not_eq_false']at hd)|(with_reducible refine aD ?_))
  .have hw:f_ .i64 ((q:Int)+1)=((q+1:Nat):Int):=by rw[dN (by omega) (by omega)];rfl
   repeat' (first|(simp (disch:=omega) only[go_sem,ub.old,hw])|(simp (disch:=omega) only[go_sem,hw])|(with_reducible first|apply aj|apply ah|apply ay|apply aB|apply aA|apply au)<;>intro hd<;>(rw[hd];try simp only[decide_eq_true_eq,decide_eq_false_iff_not,Bool.not_eq_true',Bool.not_eq_false']at hd)|(with_reducible refine aD ?_))
   rw[BG];refine⟨j - (q+1),_,by omega,⟨q+1,j,rfl,by omega,hj,by exact aL,λk z hk hz=>?_,h3,rfl⟩,by(repeat' (first|exact aZ|refine aW rfl ?_))⟩;by_cases e:k=q
   .subst e;rw[hy]at hz;cases hz;exact hd
   .have:=(List.pairwise_iff_getElem.1 hs) k q (List.getElem?_eq_some_iff.1 hz).1 (List.getElem?_eq_some_iff.1 hy).1 (by omega)
    have:=(List.getElem?_eq_some_iff.1 hz).2;have:=(List.getElem?_eq_some_iff.1 hy).2;omega
  .rw[BG]
   refine⟨q - i,_,by omega,⟨i,q,rfl,hq1,by omega,by exact aL,h1,λk z hk hz=>?_,rfl⟩,by(repeat' (first|exact aZ|refine aW rfl ?_))⟩;by_cases e:k=q
   .subst e;rw[hy]at hz;cases hz;omega
   .have:=(List.pairwise_iff_getElem.1 hs) q k (List.getElem?_eq_some_iff.1 hy).1 (List.getElem?_eq_some_iff.1 hz).1 (by omega)
    have:=(List.getElem?_eq_some_iff.1 hz).2;have:=(List.getElem?_eq_some_iff.1 hy).2;omega
 .obtain rfl:i=j:=by omega
  have hdec:decide ((i:Int)<(i:Int))=false:=by simp
  rw[Ea hs h1 h3]at hQ;by_cases hi:i<l.length
  .obtain⟨b1,o1,y,i1,hy,hb1,rd⟩:=hv.fE (k:=(i:Nat)) (by omega) (by omega) (by omega)
   rw[show((i:Nat):Int).toNat=i by omega]at hy;have uo:=u.old b1 hb1;rw[hy]at hQ;have hil:decide ((i:Int)<(l.length:Int))=true:=decide_eq_true (by omega);repeat' (first|(simp (disch:=omega) only[go_sem,ub.old,wU,hdec,hil,aR i1,uo,rd.el,rd.hd])|(simp (disch:=omega) only[go_sem,wU,hdec,hil,aR i1,uo,rd.el,rd.hd])|((first|rw[bA]|rw[bU]);with_reducible refine G9 _ _ λh2 n2 u2=>?_;(first|replace ub:=Up.trans ub (Up.trans aL u2)|have ub:=u2);have hle:=ub.le;clear u2)|(with_reducible first|apply aj|apply ah|apply ay|apply aB|apply aA|apply au)<;>intro hd<;>(rw[hd];try simp only[decide_eq_true_eq,decide_eq_false_iff_not,Bool.not_eq_true',Bool.not_eq_false']at hd)|(with_reducible refine aD ?_))
   all_goals
    have e:decide (some y=some x)=decide (y=x):=by simp
    rw[e]at hQ
   .rw[decide_eq_true hd]at hQ
    exact hQ _ _ _ aL
   all_goals
    rw[decide_eq_false hd]at hQ;exact hQ _ _ _ aL
  .rw[List.getElem?_eq_none (by omega)]at hQ
   have hil:decide ((i:Int)<(l.length:Int))=false:=decide_eq_false (by omega);repeat' (first|(simp (disch:=omega) only[go_sem,ub.old,wU,hdec,hil])|(simp (disch:=omega) only[go_sem,wU,hdec,hil])|(with_reducible first|apply aj|apply ah|apply ay|apply aB|apply aA|apply au)<;>intro hd<;>(rw[hd];try simp only[decide_eq_true_eq,decide_eq_false_iff_not,Bool.not_eq_true',Bool.not_eq_false']at hd)|(with_reducible refine aD ?_))
   exact hQ _ _ _ aL
end
end
end Go.Proofs.YtjoohkjmoghmoaaGreatDoor
