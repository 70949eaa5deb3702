/- part -/
import Derived.Test.YtjoohkjmoghmoaaGreatDoorP09
import Derived.Test.YtjoohkjmoghmoaaGreatDoorP08
set_option linter.all false
namespace Go.Proofs.YtjoohkjmoghmoaaGreatDoor
section
noncomputable section
def Wn(s:Sl):List Tmp->Option (List Bool)
 |[]=>some []
 |k::r=>bc (Nat.ble (Nat.succ k) s.N) (bnd (Wn s r) λb=>some (s.S k::b)) none
def Og:List Tmp->List Bool->List AV->Fm->Fm
 |k::ks,true::bs,v::vs,F=>Og ks bs vs (pt F k v)
 |_::ks,false::bs,_::vs,F=>Og ks bs vs F
 |_,_,_,F=>F
theorem wX{s:Sl}:∀{ps:List Tmp}{bs:List Bool}{vs:List AV}{t:Tr AV}{F:Fm},Wn s ps=some bs->vs.length=ps.length->Fk t F->∃t',uq s ps vs t=some t'/\Fk t' (Og ps bs vs F)
 |[],_,[],t,F,e,_,hF=>by cases e;exact⟨t,rfl,hF⟩
 |[],_,_::_,_,_,_,hl,_=>by cases hl
 |_::_,_,[],_,_,_,hl,_=>by cases hl
 |k::ps,bs,v::vs,t,F,e,hl,hF=>by
  obtain⟨e1,e⟩:=bN (show bc (Nat.ble (Nat.succ k) s.N) (bnd (Wn s ps) λb=>some (s.S k::b)) none=some bs from e);obtain⟨b,e2,e⟩:=aF e;cases e
  have hp:(sQ s k).run t v=some (bc (s.S k) ((pp 20 k).run v t) t):=by
   unfold sQ;rw[e1,bJ];cases s.S k<;>rfl
  cases hS:s.S k with
  |true=>
   obtain⟨t',g1,g2⟩:=wX (t:=(pp 20 k).run v t) e2 (by simpa using hl) (hF.put k v);refine⟨t',?_,g2⟩;show bnd ((sQ s k).run t v) _=_;rw[hp,hS];exact g1
  |false=>
   obtain⟨t',g1,g2⟩:=wX (t:=t) e2 (by simpa using hl) hF;refine⟨t',?_,g2⟩;show bnd ((sQ s k).run t v) _=_;rw[hp,hS];exact g1
section
variable {P:Program} {sl:FuncId->Sl}
def yQ(l:Nat)(R:Bool->AH->Nat->Prop):PQ:=λx h n _=>∃st pd g t ps fq body,h.get l=some (.lp st pd g t ps fq body)/\match x with
 | .bZ=>R true (h.set l (.lp .ready none g t ps fq body)) n
 | .ret=>R false (h.set l (.lp .done (some .ret) g t ps fq body)) n
 | .exit id=>R false (h.set l (.lp .done (some (.exit id)) g t ps fq body)) n
 | .goto _=>False
def aQ(P:Program)(Y:YT)(g:FuncId)(f:FT)(l:Nat)(mb:MC)(R:Bool->AH->Nat->Prop):PQ:=λx h n F=>match x with
 | .bZ=>∃pd g1 t1 ps fq body,h.get l=some (.lp .ready pd g1 t1 ps fq body)/\sK P Y g 100000 [.c mb] .bZ f (h.set l (.lp .busy pd g1 t1 ps fq body)) n F (yQ l R)
 |_=>False
theorem rW{d l:Nat}{g:FuncId}{f:FT}{h:AH}{n:Nat}{t:Tr AV}{F:Fm}{ps:List Tmp}{fq body:Code}{pd:Option Code}{bs:List Bool}{ma mb:MC}{args:List AV}{R:Bool->AH->Nat->Prop}
 (hg:h.get l=some (.lp .ready pd g t ps fq body))(hF:Fk t F)(hp:Wn (sl g) ps=some bs)(hl:args.length=ps.length)(ha:oM P (sl g) fq=some ma)(hb:oM P (sl g) body=some mb)
 (e:sK P (yl P sl d) g 100000 [.c ma] .bZ f h n (Og ps bs args F) (aQ P (yl P sl d) g f l mb R)):RW (yl P sl (d+1) l args f h n) λv h n=>∃b,v= .b b/\R b h n:=by
 obtain⟨t1,e1,e2⟩:=wX (t:=t) (F:=F) hp hl hF;have run:yl P sl (d+1) l args f h n=aP (uq (sl g) ps args t) λt1=>
  ng ((cc P sl g (yl P sl d) fq).run f h n t1) λx h n t2=>match x with
   | .bZ=>match h.get l with
    |some (.lp .ready pd g1 u1 ps1 uV mJ)=>ng ((cc P sl g (yl P sl d) body).run f (h.set l (.lp .busy pd g1 u1 ps1 uV mJ)) n t2) λx h n _=>yE l x h n
    |_=>.bad
   |_=>.bad:=by
  show(match h.get l with
   |some (.lp .ready pd g t ps fq body)=>aP (uq (sl g) ps args t) λt1=>
    ng ((cc P sl g (yl P sl d) fq).run f h n t1) λx h n t2=>match x with
     | .bZ=>match h.get l with
      |some (.lp .ready pd g1 u1 ps1 uV mJ)=>ng ((cc P sl g (yl P sl d) body).run f (h.set l (.lp .busy pd g1 u1 ps1 uV mJ)) n t2) λx h n _=>yE l x h n
      |_=>.bad
     |_=>.bad
   |_=>.bad)=_
  rw[hg]
 unfold RW;rw[run,e1];show∃v h' n',ng ((cc P sl g (yl P sl d) fq).run f h n t1) _=eH.ok v h' n'/\_;rw[jT g ha];obtain⟨x,h1,n1,t2,F1,b1,b2,b3⟩:=nI _ _ _ _ _ _ _ _ e t1 e2;obtain⟨x0,h0',YA,t0',b0,b1⟩:=iP (show iH (ma.run P (yl P sl d) g f h n t1) (λx h n t=>lZ P (yl P sl d) g [] x f h n t)= .ok x h1 n1 t2 from b1);cases b1
 rw[b0];cases x with
 |ret=>exact b3.elim
 |exit j=>exact b3.elim
 |goto j=>exact b3.elim
 |bZ=>
  obtain⟨pd1,g1,u1,ps1,uV,mJ,c1,c2⟩:=b3;show∃v h' n',(match h1.get l with
   |some (.lp .ready pd g1 u1 ps1 uV mJ)=>ng ((cc P sl g (yl P sl d) body).run f (h1.set l (.lp .busy pd g1 u1 ps1 uV mJ)) n1 t2) λx h n _=>yE l x h n
   |_=>.bad)=eH.ok v h' n'/\_
  rw[c1];show∃v h' n',ng ((cc P sl g (yl P sl d) body).run f _ n1 t2) _=eH.ok v h' n'/\_;rw[jT g hb];obtain⟨x,h2,n2,t3,F2,d1,d2,d3⟩:=nI _ _ _ _ _ _ _ _ c2 t2 b2;obtain⟨x0,h0',YA,t0',d0,d1⟩:=iP (show iH (mb.run P (yl P sl d) g f _ n1 t2) (λx h n t=>lZ P (yl P sl d) g [] x f h n t)= .ok x h2 n2 t3 from d1);cases d1
  rw[d0];show∃v h' n',yE l x h2 n2=eH.ok v h' n'/\_;obtain⟨st,pd2,g2,u2,ps2,aaq,U6,k1,k2⟩:=d3;unfold yE;rw[k1];cases x with
  |bZ=>exact⟨_,_,_,rfl,true,rfl,k2⟩
  |ret=>exact⟨_,_,_,rfl,false,rfl,k2⟩
  |exit j=>exact⟨_,_,_,rfl,false,rfl,k2⟩
  |goto j=>exact k2.elim
def eQ(P:Program)(Y:YT)(g:FuncId)(l:Nat)(s:List It)(f:FT)(F:Fm)(Q:PQ)(h:AH)(n:Nat):Prop:=∃st pd g1 t ps fq body,h.get l=some (.lp st pd g1 t ps fq body)/\
 ((st= .ready/\pd=none/\sK P Y g 100000 s .bZ f (h.set l (.lp .exhausted none g1 t ps fq body)) n F Q)\/
  (st= .done/\pd=some .ret/\sK P Y g 100000 s .ret f (h.set l (.lp .exhausted (some .ret) g1 t ps fq body)) n F Q)\/
  ∃id,st= .done/\pd=some (.exit id)/\sK P Y g 100000 s (.exit id) f (h.set l (.lp .exhausted (some (.exit id)) g1 t ps fq body)) n F Q)
theorem vH{Y:YT}{g:FuncId}{r:MO}{ps:List Tmp}{fq body:Code}{s:List It}{f:FT}{h:AH}{n:Nat}{F:Fm}{Q:PQ}{q:FuncId}{cap:List AV}(hr:ev r F []=some (.f q cap))
 (e:∀t,Fk t F->CW f q (.y n::cap) (h.set n (.lp .ready none g t ps fq body)) (n+1) λ_ h2 n2=>eQ P Y g n s f F Q h2 n2):SM P Y g (.c (.rng r ps fq body)::s) .bZ f h n F Q:=by
 intro t hF;obtain⟨v,h2,n2,e1,st,pd,g1,t1,ps1,uV,mJ,e2,e3⟩:=e t hF;have run:∀c,EM n h2 n2 t=c->lZ P Y g (.c (.rng r ps fq body)::s) .bZ f h n t=iH c λx h n t=>lZ P Y g s x f h n t:=λc hc=>by
  show iH (match gD r t []with
   |some (.f q cap)=>lK (f q (.y n::cap) (h.set n (.lp .ready none g t ps fq body)) (Nat.succ n)) λ_ h2 n2=>EM n h2 n2 t
   |_=>.bad) _=_
  rw[bD hF hr];show iH (lK (f q (.y n::cap) (h.set n (.lp .ready none g t ps fq body)) (n+1)) λ_ h2 n2=>EM n h2 n2 t) _=_;rw[e1,<-hc];rfl
 have out:∀x h3,EM n h2 n2 t= .ok x h3 n2 t->sK P Y g 100000 s x f h3 n2 F Q->∃x' h' n' t' F',lZ P Y g (.c (.rng r ps fq body)::s) .bZ f h n t= .ok x' h' n' t'/\Fk t' F'/\Q x' h' n' F':=λx h3 a b=>by
  obtain⟨x',h',n',t',F',c1,c2,c3⟩:=nI _ _ _ _ _ _ _ _ b t hF;exact⟨x',h',n',t',F',(run _ a).trans c1,c2,c3⟩
 rcases e3 with⟨rfl,rfl,e3⟩|⟨rfl,rfl,e3⟩|⟨id,rfl,rfl,e3⟩
 .exact out _ _ (by unfold EM;rw[e2]) e3
 .exact out _ _ (by unfold EM;rw[e2]) e3
 .exact out _ _ (by unfold EM;rw[e2]) e3
theorem RW.mono{r:eH}{Q R:AV->AH->Nat->Prop}(e:RW r Q)(k:∀v h n,Q v h n->R v h n):RW r R:=let⟨v,h,n,e1,e2⟩:=e;⟨v,h,n,e1,k v h n e2⟩
theorem CW.mono{f:FT}{g:FuncId}{args:List AV}{h:AH}{n:Nat}{Q R:AV->AH->Nat->Prop}(e:CW f g args h n Q)(k:∀v h n,Q v h n->R v h n):CW f g args h n R:=let⟨v,h,n,e1,e2⟩:=e;⟨v,h,n,e1,k v h n e2⟩
end
end
end
section
noncomputable section
variable {h:AH} {n:Nat} {Q:AV->AH->Nat->Prop} {v:CS} {C:aH}
theorem mF(K:Nat)(hC:bG h n v C)(r:Int)(hQ:∀h' n',Up h n h' n'->Q (.b (C.role r)) h' n'):CW (EF (K+1)) 174 [.agg (v.av C),.i .i64 r] h n Q:=by
 refine aJ abG rfl ?_;repeat' (first|(simp (disch:=omega) only[go_sem,VL,CS.av,hC.aC.len])|(with_reducible first|apply aj|apply ah|apply ay|apply aB|apply aA|apply au)<;>intro hd<;>(rw[hd];try simp only[decide_eq_true_eq,decide_eq_false_iff_not,Bool.not_eq_true',Bool.not_eq_false']at hd)|(with_reducible refine aD ?_))
 all_goals(first|(with_reducible refine bY hQ ?_ aL;first|(simp[aH.role,ieq];done)|(simp[aH.role,ieq];omega)|(simp_all [aH.role,ieq];done)|(simp_all [aH.role,ieq];omega))|((with_reducible refine fG hQ aL (λhz=>?_) (λhz=>?_))<;>first|(simp_all [aH.role,ieq];done)|(simp_all [aH.role,ieq];omega)))
theorem BO{r:Int}(e:¬0<=r\/¬r<C.acts.length):C.natural r=false:=by
 unfold aH.natural aH.J2;by_cases h0:0<=r
 .rw[if_pos h0,List.getElem?_eq_none (by omega)]
 .rw[if_neg h0]
theorem wY{r:Int}{a:eY}(h0:0<=r)(e:C.acts[r.toNat]?=some a):C.natural r=((a.kind==1)&&(a.role== -1)):=by
 unfold aH.natural aH.J2;rw[if_pos h0,e]
theorem wZ(K:Nat)(hC:bG h n v C)(r:Int)(hQ:∀h' n',Up h n h' n'->Q (.b (C.natural r)) h' n'):CW (EF (K+1)) 171 [.agg (v.av C),.i .i64 r] h n Q:=by
 refine aJ c171 rfl ?_;repeat' (first|(simp (disch:=omega) only[go_sem,VN,CS.av,hC.acts.len])|(with_reducible first|apply aj|apply ah|apply ay|apply aB|apply aA|apply au)<;>intro hd<;>(rw[hd];try simp only[decide_eq_true_eq,decide_eq_false_iff_not,Bool.not_eq_true',Bool.not_eq_false']at hd)|(with_reducible refine aD ?_))
 any_goals(with_reducible refine bY hQ ?_ aL;exact BO (by omega))
 refine gL hC.acts (by omega) (by omega) (by omega) λb o a ha hb rd=>?_;repeat' (first|(simp (disch:=omega) only[go_sem,rd.el,rd.hd,eY.av])|(with_reducible first|apply aj|apply ah|apply ay|apply aB|apply aA|apply au)<;>intro hd<;>(rw[hd];try simp only[decide_eq_true_eq,decide_eq_false_iff_not,Bool.not_eq_true',Bool.not_eq_false']at hd)|(with_reducible refine aD ?_))
 any_goals(with_reducible refine bY hQ ?_ aL;rw[wY (by omega) ha];simp_all [ieq])
 refine gL hC.acts (by omega) (by omega) (by omega) λb o a' ha' hb rd=>?_;obtain rfl:a=a':=by rw[ha]at ha';cases ha';rfl
 repeat' (first|(simp (disch:=omega) only[go_sem,rd.el,rd.hd,eY.av])|(with_reducible first|apply aj|apply ah|apply ay|apply aB|apply aA|apply au)<;>intro hd<;>(rw[hd];try simp only[decide_eq_true_eq,decide_eq_false_iff_not,Bool.not_eq_true',Bool.not_eq_false']at hd)|(with_reducible refine aD ?_))
 all_goals(with_reducible refine bY hQ ?_ aL;rw[wY (by omega) ha];simp_all [ieq])
theorem Oh(K:Nat)(hC:bG h n v C)(k:aN)(t:AV)(hQ:∀h' n',Up h n h' n'->Q (.b (iY C k.kind k.role k.act k.need k.fP k.final)) h' n'):CW (EF (K+2)) 170 [.agg (v.av C),.agg (k.av t)] h n Q:=by
 refine aJ abM rfl ?_;repeat' (first|(simp (disch:=omega) only[go_sem,ub.old,RF,CS.av,aN.av])|(simp (disch:=omega) only[go_sem,RF,CS.av,aN.av])|((first|rw[bA]|rw[bU]);with_reducible refine mF _ (hC.up aL) _ λh2 n2 u2=>?_;(first|replace ub:=Up.trans ub (Up.trans aL u2)|have ub:=u2);have hle:=ub.le;clear u2)|((first|rw[bA]|rw[bU]);with_reducible refine wZ _ (hC.up aL) _ λh2 n2 u2=>?_;(first|replace ub:=Up.trans ub (Up.trans aL u2)|have ub:=u2);have hle:=ub.le;clear u2)|(with_reducible first|apply aj|apply ah|apply ay|apply aB|apply aA|apply au)<;>intro hd<;>(rw[hd];try simp only[decide_eq_true_eq,decide_eq_false_iff_not,Bool.not_eq_true',Bool.not_eq_false']at hd)|(with_reducible refine aD ?_))
 all_goals(first|(with_reducible refine bY hQ ?_ aL;first|(simp[iY,ieq];done)|(simp[iY,ieq];omega)|(simp_all [iY,ieq];done)|(simp_all [iY,ieq];omega))|((with_reducible refine fG hQ aL (λhz=>?_) (λhz=>?_))<;>first|(simp_all [iY,ieq];done)|(simp_all [iY,ieq];omega)))
theorem Fw(K:Nat)(hQ:∀h' n',Up h n h' n'->Q (.agg [.i .i64 0,.i .i64 1]) h' n'):CW (EF (K+1)) 172 [] h n Q:=by
 refine aJ abF rfl ?_;repeat' (first|(simp (disch:=omega) only[go_sem,VK])|(with_reducible first|apply aj|apply ah|apply ay|apply aB|apply aA|apply au)<;>intro hd<;>(rw[hd];try simp only[decide_eq_true_eq,decide_eq_false_iff_not,Bool.not_eq_true',Bool.not_eq_false']at hd)|(with_reducible refine aD ?_))
 exact hQ _ _ aL
theorem R8(K:Nat)(x:Int)(h0: -1000000000000<=x)(h1:x<=1000000000000)(hQ:∀h' n',Up h n h' n'->Q (.i .u64 (x.natAbs:Nat)) h' n'):CW (EF (K+1)) 285 [.i .i64 x] h n Q:=by
 refine aJ abJ rfl ?_;repeat' (first|(simp (disch:=omega) only[go_sem,VP])|(with_reducible first|apply aj|apply ah|apply ay|apply aB|apply aA|apply au)<;>intro hd<;>(rw[hd];try simp only[decide_eq_true_eq,decide_eq_false_iff_not,Bool.not_eq_true',Bool.not_eq_false']at hd)|(with_reducible refine aD ?_))
 .rw[show f_ .i64 (x+1)=x+1 from dN (by omega) (by omega),show f_ .i64 (0 - (x+1))=0 - (x+1)from dN (by omega) (by omega),show f_ .u64 (0 - (x+1))=0 - (x+1)from rV (by omega) (by omega),show f_ .u64 (0 - (x+1)+1)=(x.natAbs:Nat) by rw[rV (by omega) (by omega)];omega]
  exact hQ _ _ aL
 .rw[show f_ .u64 x=(x.natAbs:Nat) by rw[rV (by omega) (by omega)];omega]
  exact hQ _ _ aL
def Ah(l:List Nat):Nat:=l.foldl Nat.gcd 0
theorem GZ{l:List Nat}{k x:Nat}(h:l[k]?=some x):Ah (l.take (k+1))=Nat.gcd (Ah (l.take k)) x:=by
 unfold Ah;rw[List.take_add_one,h];simp
theorem DZ(K:Nat){x:AV}{ns:List Nat}(hx:SL h n 1 x (λx:Nat=>[AV.i .u64 (x:Nat)]) ns)(hb:∀x∈ns,x<=1000000000000)(hl:ns.length<=100)(hQ:∀h' n',Up h n h' n'->Q (.i .u64 (Ah ns:Nat)) h' n'):CW (EF (K+1)) 284 [x] h n Q:=by
 refine aJ abI rfl ?_;repeat' (first|(simp (disch:=omega) only[go_sem,VO,hx.len])|(with_reducible first|apply aj|apply ah|apply ay|apply aB|apply aA|apply au)<;>intro hd<;>(rw[hd];try simp only[decide_eq_true_eq,decide_eq_false_iff_not,Bool.not_eq_true',Bool.not_eq_false']at hd)|(with_reducible refine aD ?_))
 refine fZ ns.length (λ_=>True) h n (λk=>[(3,.i .u64 (Ah (ns.take k):Nat)),(6,x)]) (by omega) (by omega) (by omega) (by omega) (λ_=>⟨rfl,rfl⟩) rfl rfl (by(repeat' (first|exact aZ|refine aW rfl ?_))) aL trivial (λk h' n' hk _ u=>?_) (λh' n' _ u=>?_)
 .repeat' (first|(simp (disch:=omega) only[go_sem,Kj])|(with_reducible first|apply aj|apply ah|apply ay|apply aB|apply aA|apply au)<;>intro hd<;>(rw[hd];try simp only[decide_eq_true_eq,decide_eq_false_iff_not,Bool.not_eq_true',Bool.not_eq_false']at hd)|(with_reducible refine aD ?_))
  refine gL hx (by omega) (by omega) (by omega) λb o a ha hbn rd=>?_;rw[show((k:Nat):Int).toNat=k by omega]at ha;have ua:=u.old b hbn;repeat' (first|(simp (disch:=omega) only[go_sem,rd.el,rd.hd,ua])|(with_reducible first|apply aj|apply ah|apply ay|apply aB|apply aA|apply au)<;>intro hd<;>(rw[hd];try simp only[decide_eq_true_eq,decide_eq_false_iff_not,Bool.not_eq_true',Bool.not_eq_false']at hd)|(with_reducible refine aD ?_))
  refine iX (λm h'' n'' F=>∃g:Nat,m<=1000000000000/\Nat.gcd g m=Ah (ns.take (k+1))/\Up h n h'' n''/\F=[(3,.i .u64 (g:Nat)),(5,.i .u64 (m:Nat)),(6,x),(7,.i .i64 (ns.length:Nat)),(8,.i .i64 (k:Nat))]) a (by have:=hb a (List.mem_of_getElem? ha);omega) ⟨_,⟨Ah (ns.take k),hb a (List.mem_of_getElem? ha),(GZ ha).symm,u,rfl⟩,by(repeat' (first|exact aZ|refine aW rfl ?_))⟩ ?_;rintro m h2 n2 F ⟨g,hm,hg,u2,rfl⟩;repeat' (first|(simp (disch:=omega) only[go_sem,Ki])|(with_reducible first|apply aj|apply ah|apply ay|apply aB|apply aA|apply au)<;>intro hd<;>(rw[hd];try simp only[decide_eq_true_eq,decide_eq_false_iff_not,Bool.not_eq_true',Bool.not_eq_false']at hd)|(with_reducible refine aD ?_))
  .rename_i hd
   have hm0:m≠0:=by intro e;subst e;exact hd rfl
   rw[Oc (by omega)];repeat' (first|(simp (disch:=omega) only[go_sem])|(with_reducible first|apply aj|apply ah|apply ay|apply aB|apply aA|apply au)<;>intro hd<;>(rw[hd];try simp only[decide_eq_true_eq,decide_eq_false_iff_not,Bool.not_eq_true',Bool.not_eq_false']at hd)|(with_reducible refine aD ?_))
   rw[BG];refine⟨g % m,_,Nat.mod_lt _ (by omega),⟨m,by have:=Nat.mod_lt g (show 0<m by omega);omega,?_,u2,rfl⟩,by(repeat' (first|exact aZ|refine aW rfl ?_))⟩;rw[<-hg,Nat.gcd_comm m,<-Nat.gcd_rec,Nat.gcd_comm]
  .rename_i hd
   have hm0:m=0:=by omega
   subst hm0;rw[Nat.gcd_zero_right]at hg;refine iw rfl rfl trivial u2 ?_;rw[<-hg]
   (repeat' (first|exact aZ|refine aW rfl ?_))
 .repeat' (first|(simp (disch:=omega) only[go_sem])|(with_reducible first|apply aj|apply ah|apply ay|apply aB|apply aA|apply au)<;>intro hd<;>(rw[hd];try simp only[decide_eq_true_eq,decide_eq_false_iff_not,Bool.not_eq_true',Bool.not_eq_false']at hd)|(with_reducible refine aD ?_))
  rw[List.take_length];exact hQ _ _ u
end
end
section
noncomputable section
variable {h:AH} {n:Nat} {Q:AV->AH->Nat->Prop} {v:CS} {C:aH}
theorem R9(a b:Nat):Ah [a,b]=Nat.gcd a b:=by simp[Ah]
theorem w9(K:Nat)(r:bF)(hQ:∀h' n',Up h n h' n'->Q (.b r.ok) h' n'):CW (EF (K+2)) 253 [.agg r.av] h n Q:=by
 refine aJ abH rfl ?_;repeat' (first|(simp (disch:=omega) only[go_sem,ub.old,Ry,bF.av])|(simp (disch:=omega) only[go_sem,Ry,bF.av])|((first|rw[bA]|rw[bU]);with_reducible refine R8 _ _ (by omega) (by omega) λh2 n2 u2=>?_;(first|replace ub:=Up.trans ub (Up.trans aL u2)|have ub:=u2);have hle:=ub.le;clear u2)|(with_reducible first|apply aj|apply ah|apply ay|apply aB|apply aA|apply au)<;>intro hd<;>(rw[hd];try simp only[decide_eq_true_eq,decide_eq_false_iff_not,Bool.not_eq_true',Bool.not_eq_false']at hd)|(with_reducible refine aD ?_))
 any_goals(first|(with_reducible refine bY hQ ?_ aL;first|(simp[bF.ok,ieq];done)|(simp[bF.ok,ieq];omega)|(simp_all [bF.ok,ieq];done)|(simp_all [bF.ok,ieq];omega))|((with_reducible refine fG hQ aL (λhz=>?_) (λhz=>?_))<;>first|(simp_all [bF.ok,ieq];done)|(simp_all [bF.ok,ieq];omega)))
 rw[bU];refine DZ (ns:=[r.num.natAbs,r.den.natAbs]) _ (SL.of (λ_=>rfl) (by omega) rG rfl rfl (by rintro k ⟨⟩;exact Nat.le_refl _)) (by simp;omega) (by simp) λh3 n3 u3=>?_;rw[R9];repeat' (first|(simp (disch:=omega) only[go_sem,ub.old])|(simp (disch:=omega) only[go_sem])|(with_reducible first|apply aj|apply ah|apply ay|apply aB|apply aA|apply au)<;>intro hd<;>(rw[hd];try simp only[decide_eq_true_eq,decide_eq_false_iff_not,Bool.not_eq_true',Bool.not_eq_false']at hd)|(with_reducible refine aD ?_))
 refine bY hQ ?_ aL;have key:decide (r.num.natAbs.gcd r.den.natAbs=1)=decide (((r.num.natAbs.gcd r.den.natAbs:Nat):Int)=1):=decide_eq_decide.2 (by omega);rw[<-key];simp[bF.ok];omega
theorem Oi(K:Nat)(hC:bG h n v C)(h1:1<=C.aK)(h2:C.aK<=100)(hl:C.aC.length<=1000)(hQ:∀h' n',Up h n h' n'->Q (.b C.held) h' n'):CW (EF (K+1)) 167 [.agg (v.av C)] h n Q:=by
 refine aJ c167 rfl ?_;repeat' (first|(simp (disch:=omega) only[go_sem,ub.old,RA,CS.av,hC.aC.len])|(simp (disch:=omega) only[go_sem,RA,CS.av,hC.aC.len])|(with_reducible first|apply aj|apply ah|apply ay|apply aB|apply aA|apply au)<;>intro hd<;>(rw[hd];try simp only[decide_eq_true_eq,decide_eq_false_iff_not,Bool.not_eq_true',Bool.not_eq_false']at hd)|(with_reducible refine aD ?_))
 obtain⟨N,hN⟩:=Int.eq_ofNat_of_zero_le (show 0<=C.aK by omega);generalize hh:Tr.set h n _=hb;have ub:Up h n hb (n+1):=by rw[<-hh];exact aL
 have g1:hb.get n=some (.row 27 (v.av C)):=by rw[<-hh];exact rG
 clear hh;refine fZ C.aC.length (λk=>∀i p,i<k->C.aC[i]?=some p->C.party p=true) hb (n+1) (λk=>[(1,.p n 0),(2,.b false)]) (by omega) (by omega) (by omega) (by omega) (λ_=>⟨rfl,rfl⟩) rfl rfl (by(repeat' (first|exact aZ|refine aW rfl ?_))) aL (by omega) (λk h' n' hk hr u=>?_) (λh' n' hr u=>?_)
 .have g2:=(u.old n (by omega)).trans g1
  repeat' (first|(simp (disch:=omega) only[go_sem,ub.old,DL,g2,CS.av])|(simp (disch:=omega) only[go_sem,DL,g2,CS.av])|(with_reducible first|apply aj|apply ah|apply ay|apply aB|apply aA|apply au)<;>intro hd<;>(rw[hd];try simp only[decide_eq_true_eq,decide_eq_false_iff_not,Bool.not_eq_true',Bool.not_eq_false']at hd)|(with_reducible refine aD ?_))
  rw[hN];refine fZ N (λj=>∀i:Nat,i<j->C.aC[k]?≠some (i:Int)) h' n' (λ_=>[(1,.p n 0),(2,.b false),(3,.i .i64 (k:Nat)),(7,.i .i64 (C.aC.length:Nat)),(8,.i .i64 (k:Nat))]) (by omega) (by omega) (by omega) (by omega) (λ_=>⟨rfl,rfl⟩) rfl rfl (by(repeat' (first|exact aZ|refine aW rfl ?_))) aL (by omega) (λj h2 n2 hj hr2 u2=>?_) (λh2 n2 hr2 u2=>?_)
  .have g3:=(u2.old n (by have:=u.le;omega)).trans g2
   repeat' (first|(simp (disch:=omega) only[go_sem,ub.old,DJ,g3,CS.av])|(simp (disch:=omega) only[go_sem,DJ,g3,CS.av])|(with_reducible first|apply aj|apply ah|apply ay|apply aB|apply aA|apply au)<;>intro hd<;>(rw[hd];try simp only[decide_eq_true_eq,decide_eq_false_iff_not,Bool.not_eq_true',Bool.not_eq_false']at hd)|(with_reducible refine aD ?_))
   refine gL hC.aC (by omega) (by omega) (by omega) λb o a ha hbn rd=>?_;rw[show((k:Nat):Int).toNat=k by omega]at ha;have ua:=(u2.old b (by have:=u.le;omega)).trans ((u.old b (by omega)).trans (ub.old b hbn));repeat' (first|(simp (disch:=omega) only[go_sem,ub.old,rd.el,rd.hd,ua])|(simp (disch:=omega) only[go_sem,rd.el,rd.hd,ua])|(with_reducible first|apply aj|apply ah|apply ay|apply aB|apply aA|apply au)<;>intro hd<;>(rw[hd];try simp only[decide_eq_true_eq,decide_eq_false_iff_not,Bool.not_eq_true',Bool.not_eq_false']at hd)|(with_reducible refine aD ?_))
   .rename_i hd
    refine iw rfl rfl (λi p hi hp=>?_) (u.trans u2) (by(repeat' (first|exact aZ|refine aW rfl ?_)));by_cases e:i=k
    .subst e
     rw[ha]at hp;cases hp;simp[aH.party];omega
    .exact hr i p (by omega) hp
   .rename_i hd
    refine iw rfl rfl (λi hi e=>?_) u2 (by(repeat' (first|exact aZ|refine aW rfl ?_)));by_cases e2:i=j
    .subst e2;rw[ha]at e;cases e;exact hd rfl
    .exact hr2 i (by omega) e
  .repeat' (first|(simp (disch:=omega) only[go_sem,ub.old])|(simp (disch:=omega) only[go_sem])|(with_reducible first|apply aj|apply ah|apply ay|apply aB|apply aA|apply au)<;>intro hd<;>(rw[hd];try simp only[decide_eq_true_eq,decide_eq_false_iff_not,Bool.not_eq_true',Bool.not_eq_false']at hd)|(with_reducible refine aD ?_))
   refine bY hQ ?_ aL;obtain⟨a,ha⟩:∃a,C.aC[k]?=some a:=⟨C.aC[k],List.getElem?_eq_some_iff.2 ⟨hk,rfl⟩⟩;unfold aH.held;rw[List.all_eq_false];refine⟨a,List.mem_of_getElem? ha,?_⟩;simp only[aH.party,Bool.and_eq_true,decide_eq_true_eq];rintro⟨q1,q2⟩;obtain⟨i,rfl⟩:=Int.eq_ofNat_of_zero_le q1;exact hr2 i (by omega) ha
 .repeat' (first|(simp (disch:=omega) only[go_sem,ub.old])|(simp (disch:=omega) only[go_sem])|(with_reducible first|apply aj|apply ah|apply ay|apply aB|apply aA|apply au)<;>intro hd<;>(rw[hd];try simp only[decide_eq_true_eq,decide_eq_false_iff_not,Bool.not_eq_true',Bool.not_eq_false']at hd)|(with_reducible refine aD ?_))
  refine bY hQ ?_ aL;unfold aH.held;rw[List.all_eq_true];intro p hp;obtain⟨i,hi⟩:=List.getElem?_of_mem hp;exact hr i p (List.getElem?_eq_some_iff.1 hi).1 hi
theorem nZ(K:Nat)(r:bF)(hQ:∀h' n',Up h n h' n'->Q (.b r.plus) h' n'):CW (EF (K+3)) 173 [.agg r.av] h n Q:=by
 refine aJ c173 rfl ?_;repeat' (first|(simp (disch:=omega) only[go_sem,ub.old,Rz,bF.av])|(simp (disch:=omega) only[go_sem,Rz,bF.av])|((first|rw[bA]|rw[bU]);with_reducible refine w9 _ r λh2 n2 u2=>?_;(first|replace ub:=Up.trans ub (Up.trans aL u2)|have ub:=u2);have hle:=ub.le;clear u2)|(with_reducible first|apply aj|apply ah|apply ay|apply aB|apply aA|apply au)<;>intro hd<;>(rw[hd];try simp only[decide_eq_true_eq,decide_eq_false_iff_not,Bool.not_eq_true',Bool.not_eq_false']at hd)|(with_reducible refine aD ?_))
 all_goals(first|(with_reducible refine bY hQ ?_ aL;first|(simp[bF.plus,ieq];done)|(simp[bF.plus,ieq];omega)|(simp_all [bF.plus,ieq];done)|(simp_all [bF.plus,ieq];omega))|((with_reducible refine fG hQ aL (λhz=>?_) (λhz=>?_))<;>first|(simp_all [bF.plus,ieq];done)|(simp_all [bF.plus,ieq];omega)))
theorem Oj(a b c d:Int):(dS Tryz.prog 55 .eql).run (.agg [.i .i64 a,.i .i64 b]) (.agg [.i .i64 c,.i .i64 d])=bnd (bc (fC a c) (bc (fC b d) (some true) (some false)) (some false)) λe=>some (.b e):=by kernel_rfl
@[go_sem] theorem ach (a b c d:Int):(dS Tryz.prog 55 .eql).run (.agg [.i .i64 a,.i .i64 b]) (.agg [.i .i64 c,.i .i64 d])=some (.b (decide (a=c)&&decide (b=d))):=by
 rw[Oj,cO,cO];by_cases h1:a=c<;>by_cases h2:b=d<;>simp[h1,h2,bc,bnd]
theorem R_(K:Nat)(hC:bG h n v C)(a:eY)(hQ:∀h' n',Up h n h' n'->Q (.b (C.nM a)) h' n'):CW (EF (K+4)) 169 [.agg (v.av C),.agg a.av] h n Q:=by
 refine aJ abK rfl ?_;repeat' (first|(simp (disch:=omega) only[go_sem,ub.old,RB,CS.av,eY.av,hC.units.len])|(simp (disch:=omega) only[go_sem,RB,CS.av,eY.av,hC.units.len])|((first|rw[bA]|rw[bU]);with_reducible refine mF _ (hC.up aL) _ λh2 n2 u2=>?_;(first|replace ub:=Up.trans ub (Up.trans aL u2)|have ub:=u2);have hle:=ub.le;clear u2)|((first|rw[bA]|rw[bU]);with_reducible refine Fw _ λh2 n2 u2=>?_;(first|replace ub:=Up.trans ub (Up.trans aL u2)|have ub:=u2);have hle:=ub.le;clear u2)|((first|rw[bA]|rw[bU]);with_reducible refine nZ _ a.lot λh2 n2 u2=>?_;(first|replace ub:=Up.trans ub (Up.trans aL u2)|have ub:=u2);have hle:=ub.le;clear u2)|(with_reducible first|apply aj|apply ah|apply ay|apply aB|apply aA|apply au)<;>intro hd<;>(rw[hd];try simp only[decide_eq_true_eq,decide_eq_false_iff_not,Bool.not_eq_true',Bool.not_eq_false']at hd)|(with_reducible refine aD ?_))
 any_goals(first|(with_reducible refine bY hQ ?_ aL;first|(simp[aH.nM,nL,bF.zero,ieq];done)|(simp[aH.nM,nL,bF.zero,ieq];omega)|(simp_all [aH.nM,nL,bF.zero,ieq];done)|(simp_all [aH.nM,nL,bF.zero,ieq];omega))|((with_reducible refine fG hQ aL (λhz=>?_) (λhz=>?_))<;>first|(simp_all [aH.nM,nL,bF.zero,ieq];done)|(simp_all [aH.nM,nL,bF.zero,ieq];omega)))
 all_goals trace_state
 done
end
end
section
noncomputable section
variable {h:AH} {n:Nat} {Q:AV->AH->Nat->Prop} {v:CS} {C:aH} {x:AV} {us:List dY}
theorem BP(K:Nat)(hx:SL h n 5 x dY.av us)(i:Int)(hQ:∀h' n',Up h n h' n'->Q (.b (jU us i)) h' n'):CW (EF (K+1)) 283 [x,.i .i64 i] h n Q:=by
 refine aJ abO rfl ?_;repeat' (first|(simp (disch:=omega) only[go_sem,VQ,hx.len])|(with_reducible first|apply aj|apply ah|apply ay|apply aB|apply aA|apply au)<;>intro hd<;>(rw[hd];try simp only[decide_eq_true_eq,decide_eq_false_iff_not,Bool.not_eq_true',Bool.not_eq_false']at hd)|(with_reducible refine aD ?_))
 all_goals(first|(with_reducible refine bY hQ ?_ aL;first|(simp[jU,ieq];done)|(simp[jU,ieq];omega)|(simp_all [jU,ieq];done)|(simp_all [jU,ieq];omega))|((with_reducible refine fG hQ aL (λhz=>?_) (λhz=>?_))<;>first|(simp_all [jU,ieq];done)|(simp_all [jU,ieq];omega)))
theorem Ol(K:Nat)(hx:SL h n 5 x dY.av us)(hl:us.length<=1000){i:Nat}{u:dY}(hi:us[i]?=some u)(hQ:∀h' n',Up h n h' n'->Q (.b (fA us i u)) h' n'):CW (EF (K+3)) 252 [x,.i .i64 (i:Nat)] h n Q:=by
 have hil:=(List.getElem?_eq_some_iff.1 hi).1;refine aJ abP rfl ?_;repeat' (first|(simp (disch:=omega) only[go_sem,ub.old,RG])|(simp (disch:=omega) only[go_sem,RG])|(with_reducible first|apply aj|apply ah|apply ay|apply aB|apply aA|apply au)<;>intro hd<;>(rw[hd];try simp only[decide_eq_true_eq,decide_eq_false_iff_not,Bool.not_eq_true',Bool.not_eq_false']at hd)|(with_reducible refine aD ?_))
 refine gL hx (by omega) (by omega) (by omega) λb o a ha hb rd=>?_;rw[show((i:Nat):Int).toNat=i by omega,hi]at ha;cases ha;obtain⟨y,hy,hs⟩:=SL.take hx (i:=i) (by omega) (by omega);repeat' (first|(simp (disch:=omega) only[go_sem,ub.old,rd.el,rd.hd,rd.all,dY.av,hy,hs.len])|(simp (disch:=omega) only[go_sem,rd.el,rd.hd,rd.all,dY.av,hy,hs.len])|(with_reducible first|apply aj|apply ah|apply ay|apply aB|apply aA|apply au)<;>intro hd<;>(rw[hd];try simp only[decide_eq_true_eq,decide_eq_false_iff_not,Bool.not_eq_true',Bool.not_eq_false']at hd)|(with_reducible refine aD ?_))
 any_goals(first|(with_reducible refine bY hQ ?_ aL;first|(simp[fA,Ad,ieq];done)|(simp[fA,Ad,ieq];omega)|(simp_all [fA,Ad,ieq];done)|(simp_all [fA,Ad,ieq];omega))|((with_reducible refine fG hQ aL (λhz=>?_) (λhz=>?_))<;>first|(simp_all [fA,Ad,ieq];done)|(simp_all [fA,Ad,ieq];omega)))
 have hd1:Ad i u.name=true:=by simp_all [Ad]
 generalize hh:Tr.set (Tr.set h n _) n _=hb0;have u0:Up h n hb0 (n+1):=by rw[<-hh];exact aL
 have g1:hb0.get n=some (.row 167 u.av):=by rw[<-hh];exact rG
 clear hh;have hlen:(us.take i).length=i:=by rw[List.length_take];omega
 refine fZ (us.take i).length (λk=>∀j w,j<k->(us.take i)[j]?=some w->¬w.name.toList=u.name.toList) hb0 (n+1) (λk=>[(0,x),(1,.i .i64 (i:Nat)),(4,.b false),(5,.p n 0),(21,y)]) (by omega) (by omega) (by omega) (by omega) (λ_=>⟨rfl,rfl⟩) rfl rfl (by(repeat' (first|exact aZ|refine aW rfl ?_))) aL (by omega) (λk h' n' hk hr u1=>?_) (λh' n' hr u1=>?_)
 .have g2:=(u1.old n (by omega)).trans g1
  have ule:=u1.le;repeat' (first|(simp (disch:=omega) only[go_sem,ub.old,DN])|(simp (disch:=omega) only[go_sem,DN])|(with_reducible first|apply aj|apply ah|apply ay|apply aB|apply aA|apply au)<;>intro hd<;>(rw[hd];try simp only[decide_eq_true_eq,decide_eq_false_iff_not,Bool.not_eq_true',Bool.not_eq_false']at hd)|(with_reducible refine aD ?_))
  refine gL hs (by omega) (by omega) (by omega) λb2 o2 w hw hbn eT=>?_;rw[show((k:Nat):Int).toNat=k by omega]at hw;have ua:=(u1.old b2 (by omega)).trans (u0.old b2 hbn);repeat' (first|(simp (disch:=omega) only[go_sem,ub.old,eT.el,eT.hd,eT.all,ua,g2,dY.av])|(simp (disch:=omega) only[go_sem,eT.el,eT.hd,eT.all,ua,g2,dY.av])|(with_reducible first|apply aj|apply ah|apply ay|apply aB|apply aA|apply au)<;>intro hd<;>(rw[hd];try simp only[decide_eq_true_eq,decide_eq_false_iff_not,Bool.not_eq_true',Bool.not_eq_false']at hd)|(with_reducible refine aD ?_))
  .refine bY hQ ?_ aL
   rename_i hd;have:newName (us.take i) u.name=false:=by
    unfold newName;rw[List.all_eq_false];exact⟨w,List.mem_of_getElem? hw,by simp[hd]⟩
   simp[fA,this]
  .rename_i hd
   refine iw rfl rfl (λj w' hj hw'=>?_) aL (by(repeat' (first|exact aZ|refine aW rfl ?_)));by_cases e:j=k
   .subst e;rw[hw]at hw';cases hw';exact hd
   .exact hr j w' (by omega) hw'
 .have g2:=(u1.old n (by omega)).trans g1
  have ule:=u1.le;have hn:newName (us.take i) u.name=true:=by
   unfold newName;rw[List.all_eq_true];intro w hw;obtain⟨j,hj⟩:=List.getElem?_of_mem hw;have:=hr j w (List.getElem?_eq_some_iff.1 hj).1 hj;simp[this]
  by_cases hb:jU us u.base=true
  .have hb2:=hb
   simp only[jU,Bool.and_eq_true,decide_eq_true_eq]at hb2;obtain⟨b3,o3,z,q1,q2,q3,q4⟩:=hx.fE hb2.1 hb2.2 (by omega);have ua:=(u1.old b3 (by omega)).trans (u0.old b3 (by omega));repeat' (first|(simp (disch:=omega) only[go_sem,ub.old,g2,dY.av,q1,ua,q4.el,q4.hd,hb])|(simp (disch:=omega) only[go_sem,g2,dY.av,q1,ua,q4.el,q4.hd,hb])|((first|rw[bA]|rw[bU]);with_reducible refine w9 _ u.factor λh2 n2 u2=>?_;(first|replace ub:=Up.trans ub (Up.trans aL u2)|have ub:=u2);have hle:=ub.le;clear u2)|((first|rw[bA]|rw[bU]);with_reducible refine BP _ (hx.up aL) _ λh2 n2 u2=>?_;(first|replace ub:=Up.trans ub (Up.trans aL u2)|have ub:=u2);have hle:=ub.le;clear u2)|(with_reducible first|apply aj|apply ah|apply ay|apply aB|apply aA|apply au)<;>intro hd<;>(rw[hd];try simp only[decide_eq_true_eq,decide_eq_false_iff_not,Bool.not_eq_true',Bool.not_eq_false']at hd)|(with_reducible refine aD ?_))
   any_goals(first|(with_reducible refine bY hQ ?_ aL;first|(simp[fA,tQ,tT,Dw,wF,wG,ieq];done)|(simp[fA,tQ,tT,Dw,wF,wG,ieq];omega)|(simp_all [fA,tQ,tT,Dw,wF,wG,ieq];done)|(simp_all [fA,tQ,tT,Dw,wF,wG,ieq];omega))|((with_reducible refine fG hQ aL (λhz=>?_) (λhz=>?_))<;>first|(simp_all [fA,tQ,tT,Dw,wF,wG,ieq];done)|(simp_all [fA,tQ,tT,Dw,wF,wG,ieq];omega)))
  .repeat' (first|(simp (disch:=omega) only[go_sem,ub.old,g2,dY.av,hb])|(simp (disch:=omega) only[go_sem,g2,dY.av,hb])|((first|rw[bA]|rw[bU]);with_reducible refine w9 _ u.factor λh2 n2 u2=>?_;(first|replace ub:=Up.trans ub (Up.trans aL u2)|have ub:=u2);have hle:=ub.le;clear u2)|((first|rw[bA]|rw[bU]);with_reducible refine BP _ (hx.up aL) _ λh2 n2 u2=>?_;(first|replace ub:=Up.trans ub (Up.trans aL u2)|have ub:=u2);have hle:=ub.le;clear u2)|(with_reducible first|apply aj|apply ah|apply ay|apply aB|apply aA|apply au)<;>intro hd<;>(rw[hd];try simp only[decide_eq_true_eq,decide_eq_false_iff_not,Bool.not_eq_true',Bool.not_eq_false']at hd)|(with_reducible refine aD ?_))
   any_goals(first|(with_reducible refine bY hQ ?_ aL;first|(simp[fA,tQ,tT,ieq];done)|(simp[fA,tQ,tT,ieq];omega)|(simp_all [fA,tQ,tT,ieq];done)|(simp_all [fA,tQ,tT,ieq];omega))|((with_reducible refine fG hQ aL (λhz=>?_) (λhz=>?_))<;>first|(simp_all [fA,tQ,tT,ieq];done)|(simp_all [fA,tQ,tT,ieq];omega)))
theorem KA(K:Nat)(hx:SL h n 5 x dY.av us)(hl:us.length<=1000)(hQ:∀i h' n',Up h n h' n'->Q (.bV [.i .i64 i,.b (mo us)]) h' n'):CW (EF (K+4)) 168 [x] h n Q:=by
 refine aJ c168 rfl ?_;repeat' (first|(simp (disch:=omega) only[go_sem,ub.old,RJ,hx.len])|(simp (disch:=omega) only[go_sem,RJ,hx.len])|(with_reducible first|apply aj|apply ah|apply ay|apply aB|apply aA|apply au)<;>intro hd<;>(rw[hd];try simp only[decide_eq_true_eq,decide_eq_false_iff_not,Bool.not_eq_true',Bool.not_eq_false']at hd)|(with_reducible refine aD ?_))
 refine fZ us.length (λk=>∀i u,i<k->us[i]?=some u->fA us i u=true) h n (λk=>[(0,x),(3,.b false)]) (by omega) (by omega) (by omega) (by omega) (λ_=>⟨rfl,rfl⟩) rfl rfl (by(repeat' (first|exact aZ|refine aW rfl ?_))) aL (by omega) (λk h' n' hk hr u1=>?_) (λh' n' hr u1=>?_)
 .obtain⟨u,hu⟩:∃u,us[k]?=some u:=⟨us[k],List.getElem?_eq_some_iff.2 ⟨hk,rfl⟩⟩
  repeat' (first|(simp (disch:=omega) only[go_sem,ub.old,DR])|(simp (disch:=omega) only[go_sem,DR])|((first|rw[bA]|rw[bU]);with_reducible refine Ol _ (hx.up aL) hl hu λh2 n2 u2=>?_;(first|replace ub:=Up.trans ub (Up.trans aL u2)|have ub:=u2);have hle:=ub.le;clear u2)|(with_reducible first|apply aj|apply ah|apply ay|apply aB|apply aA|apply au)<;>intro hd<;>(rw[hd];try simp only[decide_eq_true_eq,decide_eq_false_iff_not,Bool.not_eq_true',Bool.not_eq_false']at hd)|(with_reducible refine aD ?_))
  .rw[show AV.b false=AV.b (mo us) by
    congr 1;symm;unfold mo;rw[List.all_eq_false];exact⟨k,List.mem_range.2 hk,by rw[hu];simp[hd]⟩]
   exact hQ _ _ _ aL
  .refine iw rfl rfl (λj w' hj hw'=>?_) aL (by(repeat' (first|exact aZ|refine aW rfl ?_)))
   by_cases e:j=k
   .subst e;rw[hu]at hw';cases hw';exact hd
   .exact hr j w' (by omega) hw'
 .repeat' (first|(simp (disch:=omega) only[go_sem,ub.old])|(simp (disch:=omega) only[go_sem])|(with_reducible first|apply aj|apply ah|apply ay|apply aB|apply aA|apply au)<;>intro hd<;>(rw[hd];try simp only[decide_eq_true_eq,decide_eq_false_iff_not,Bool.not_eq_true',Bool.not_eq_false']at hd)|(with_reducible refine aD ?_))
  rw[show AV.b true=AV.b (mo us) by
   congr 1;symm;unfold mo;rw[List.all_eq_true];intro i hi;have hi:=List.mem_range.1 hi;obtain⟨u,hu⟩:∃u,us[i]?=some u:=⟨us[i],List.getElem?_eq_some_iff.2 ⟨hi,rfl⟩⟩;rw[hu];exact hr i u hi hu]
  exact hQ _ _ _ aL
end
end
section
noncomputable section
set_option maxHeartbeats 4000000
variable {h:AH} {n:Nat} {Q:AV->AH->Nat->Prop} {v:CS} {C:aH}
theorem G5(K:Nat)(hC:bG h n v C)(hc:C.clauses.length<=1000){i:Nat}{k:aN}(hk:C.clauses[i]?=some k)(hQ:∀h' n',Up h n h' n'->Q (.b (C.bW i k)) h' n'):CW (EF (K+4)) 93 [.agg (v.av C),.i .i64 (i:Nat)] h n Q:=by
 have hil:=(List.getElem?_eq_some_iff.1 hk).1;refine aJ c93 rfl ?_;repeat' (first|(simp (disch:=omega) only[go_sem,ub.old,m93,CS.av])|(simp (disch:=omega) only[go_sem,m93,CS.av])|(with_reducible first|apply aj|apply ah|apply ay|apply aB|apply aA|apply au)<;>intro hd<;>(rw[hd];try simp only[decide_eq_true_eq,decide_eq_false_iff_not,Bool.not_eq_true',Bool.not_eq_false']at hd)|(with_reducible refine aD ?_))
 refine tZ hC (by omega) (by omega) λb o k' t ha hb hst rd=>?_;rw[show((i:Nat):Int).toNat=i by omega,hk]at ha;cases ha;repeat' (first|(simp (disch:=omega) only[go_sem,ub.old,rd.el,rd.hd,rd.all,aN.av,hC.acts.len,hst.len])|(simp (disch:=omega) only[go_sem,rd.el,rd.hd,rd.all,aN.av,hC.acts.len,hst.len])|((first|rw[bA]|rw[bU]);with_reducible refine Oh _ (hC.up aL) k t λh2 n2 u2=>?_;(first|replace ub:=Up.trans ub (Up.trans aL u2)|have ub:=u2);have hle:=ub.le;clear u2)|(with_reducible first|apply aj|apply ah|apply ay|apply aB|apply aA|apply au)<;>intro hd<;>(rw[hd];try simp only[decide_eq_true_eq,decide_eq_false_iff_not,Bool.not_eq_true',Bool.not_eq_false']at hd)|(with_reducible refine aD ?_))
 any_goals(first|(with_reducible refine bY hQ ?_ aL;first|(simp[aH.bW,p8,ieq];done)|(simp[aH.bW,p8,ieq];omega)|(simp_all [aH.bW,p8,ieq];done)|(simp_all [aH.bW,p8,ieq];omega))|((with_reducible refine fG hQ aL (λhz=>?_) (λhz=>?_))<;>first|(simp_all [aH.bW,p8,ieq];done)|(simp_all [aH.bW,p8,ieq];omega)))
 have hc1:p8 C k.kind k.role k.act k.need k.fP k.after k.final k.start.length=true:=by simp_all [p8]
 have g1:h2.get n=some (.row 27 (v.av C)):=by simp (disch:=omega) only[go_sem,ub.old]
 have g2:h2.get (n+1)=some (.row 112 (k.av t)):=by simp (disch:=omega) only[go_sem,ub.old]
 have u0:Up h n h2 n2:=by exact aL
 clear ub;refine fZ k.start.length (λm=>∀j s,j<m->k.start[j]?=some s->rH C i s.clause s.is=true) h2 n2 (λm=>[(1,.i .i64 (i:Nat)),(2,.p n 0),(4,.b false),(5,.p (n+1) 0),(45,t)]) (by omega) (by omega) (by omega) (by omega) (λ_=>⟨rfl,rfl⟩) rfl rfl (by(repeat' (first|exact aZ|refine aW rfl ?_))) aL (by omega) (λm h' n' hm hr u1=>?_) (λh' n' hr u1=>?_)
 .have g3:=(u1.old n (by omega)).trans g1
  have ule:=u1.le;repeat' (first|(simp (disch:=omega) only[go_sem,ub.old,Kk])|(simp (disch:=omega) only[go_sem,Kk])|(with_reducible first|apply aj|apply ah|apply ay|apply aB|apply aA|apply au)<;>intro hd<;>(rw[hd];try simp only[decide_eq_true_eq,decide_eq_false_iff_not,Bool.not_eq_true',Bool.not_eq_false']at hd)|(with_reducible refine aD ?_))
  refine gL hst (by omega) (by omega) (by omega) λb2 o2 w hw hbn eT=>?_;rw[show((m:Nat):Int).toNat=m by omega]at hw;have ua:=(u1.old b2 (by omega)).trans (u0.old b2 hbn);repeat' (first|(simp (disch:=omega) only[go_sem,ub.old,eT.el,eT.hd,eT.all,ua,g3,fO.av,CS.av,hC.lk])|(simp (disch:=omega) only[go_sem,eT.el,eT.hd,eT.all,ua,g3,fO.av,CS.av,hC.lk])|(with_reducible first|apply aj|apply ah|apply ay|apply aB|apply aA|apply au)<;>intro hd<;>(rw[hd];try simp only[decide_eq_true_eq,decide_eq_false_iff_not,Bool.not_eq_true',Bool.not_eq_false']at hd)|(with_reducible refine aD ?_))
  all_goals first
   |(
    refine bY hQ ?_ aL;have:oP C i k.start=false:=by
     unfold oP;rw[List.all_eq_false];exact⟨w,List.mem_of_getElem? hw,by simp[rH];omega⟩
    simp[aH.bW,this])
   |(
    refine iw rfl rfl (λj w' hj hw'=>?_) aL (by(repeat' (first|exact aZ|refine aW rfl ?_)));by_cases e:j=m
    .subst e;rw[hw]at hw';cases hw';simp[rH,ieq];omega
    .exact hr j w' (by omega) hw')
 .have g3:=(u1.old n (by omega)).trans g1
  have g4:=(u1.old (n+1) (by omega)).trans g2;have ule:=u1.le;have hcs:oP C i k.start=true:=by
   unfold oP;rw[List.all_eq_true];intro w hw;obtain⟨j,hj⟩:=List.getElem?_of_mem hw;exact hr j w (List.getElem?_eq_some_iff.1 hj).1 hj
  repeat' (first|(simp (disch:=omega) only[go_sem,ub.old,g3,g4,aN.av,CS.av,hC.units.len])|(simp (disch:=omega) only[go_sem,g3,g4,aN.av,CS.av,hC.units.len])|((first|rw[bA]|rw[bU]);with_reducible refine wZ _ (hC.up aL) _ λh2 n2 u2=>?_;(first|replace ub:=Up.trans ub (Up.trans aL u2)|have ub:=u2);have hle:=ub.le;clear u2)|((first|rw[bA]|rw[bU]);with_reducible refine Fw _ λh2 n2 u2=>?_;(first|replace ub:=Up.trans ub (Up.trans aL u2)|have ub:=u2);have hle:=ub.le;clear u2)|((first|rw[bA]|rw[bU]);with_reducible refine nZ _ k.value λh2 n2 u2=>?_;(first|replace ub:=Up.trans ub (Up.trans aL u2)|have ub:=u2);have hle:=ub.le;clear u2)|((first|rw[bA]|rw[bU]);with_reducible refine mF _ (hC.up aL) _ λh2 n2 u2=>?_;(first|replace ub:=Up.trans ub (Up.trans aL u2)|have ub:=u2);have hle:=ub.le;clear u2)|(with_reducible first|apply aj|apply ah|apply ay|apply aB|apply aA|apply au)<;>intro hd<;>(rw[hd];try simp only[decide_eq_true_eq,decide_eq_false_iff_not,Bool.not_eq_true',Bool.not_eq_false']at hd)|(with_reducible refine aD ?_))
  any_goals(first|(with_reducible refine bY hQ ?_ aL;first|(simp[aH.bW,jN,kN,bF.zero,ieq];done)|(simp[aH.bW,jN,kN,bF.zero,ieq];omega)|(simp_all [aH.bW,jN,kN,bF.zero,ieq];done)|(simp_all [aH.bW,jN,kN,bF.zero,ieq];omega))|((with_reducible refine fG hQ aL (λhz=>?_) (λhz=>?_))<;>first|(simp_all [aH.bW,jN,kN,bF.zero,ieq];done)|(simp_all [aH.bW,jN,kN,bF.zero,ieq];omega)))
  all_goals
   refine gL hC.units (by omega) (by omega) (by omega) λb3 o3 z hz hb3 qH=>?_;have ua:=(u1.old b3 (by omega)).trans (u0.old b3 hb3);have hz2:C.wE k.unit=z.kind:=by unfold aH.wE;rw[if_pos (by omega),hz];rfl
   repeat' (first|(simp (disch:=omega) only[go_sem,ub.old,g3,g4,aN.av,dY.av,CS.av,qH.el,qH.hd,ua])|(simp (disch:=omega) only[go_sem,g3,g4,aN.av,dY.av,CS.av,qH.el,qH.hd,ua])|((first|rw[bA]|rw[bU]);with_reducible refine nZ _ k.value λh2 n2 u2=>?_;(first|replace ub:=Up.trans ub (Up.trans aL u2)|have ub:=u2);have hle:=ub.le;clear u2)|((first|rw[bA]|rw[bU]);with_reducible refine mF _ (hC.up aL) _ λh2 n2 u2=>?_;(first|replace ub:=Up.trans ub (Up.trans aL u2)|have ub:=u2);have hle:=ub.le;clear u2)|(with_reducible first|apply aj|apply ah|apply ay|apply aB|apply aA|apply au)<;>intro hd<;>(rw[hd];try simp only[decide_eq_true_eq,decide_eq_false_iff_not,Bool.not_eq_true',Bool.not_eq_false']at hd)|(with_reducible refine aD ?_))
   all_goals(first|(with_reducible refine bY hQ ?_ aL;first|(simp[aH.bW,jN,kN,bF.zero,ieq];done)|(simp[aH.bW,jN,kN,bF.zero,ieq];omega)|(simp_all [aH.bW,jN,kN,bF.zero,ieq];done)|(simp_all [aH.bW,jN,kN,bF.zero,ieq];omega))|((with_reducible refine fG hQ aL (λhz=>?_) (λhz=>?_))<;>first|(simp_all [aH.bW,jN,kN,bF.zero,ieq];done)|(simp_all [aH.bW,jN,kN,bF.zero,ieq];omega)))
def qI(l:List Int)(k:Nat):Int:=if k=0 then -1 else(l[k - 1]?).getD 0
theorem G6(K:Nat)(hC:bG h n v C)(hl:C.over=false)(ho:C.off.length<=1000000)(hQ:∀h' n',Up h n h' n'->Q (.b C.framed) h' n'):CW (EF (K+5)) 92 [.agg (v.av C)] h n Q:=by
 simp only[aH.over,Bool.or_eq_false_iff,decide_eq_false_iff_not]at hl;refine aJ c92 rfl ?_;repeat' (first|(simp (disch:=omega) only[go_sem,ub.old,m92,CS.av,hC.aC.len])|(simp (disch:=omega) only[go_sem,m92,CS.av,hC.aC.len])|((first|rw[bA]|rw[bU]);with_reducible refine Oi _ (hC.up aL) (by omega) (by omega) (by omega) λh2 n2 u2=>?_;(first|replace ub:=Up.trans ub (Up.trans aL u2)|have ub:=u2);have hle:=ub.le;clear u2)|(with_reducible first|apply aj|apply ah|apply ay|apply aB|apply aA|apply au)<;>intro hd<;>(rw[hd];try simp only[decide_eq_true_eq,decide_eq_false_iff_not,Bool.not_eq_true',Bool.not_eq_false']at hd)|(with_reducible refine aD ?_))
 any_goals(first|(with_reducible refine bY hQ ?_ aL;first|(simp[aH.framed,MU,ieq];done)|(simp[aH.framed,MU,ieq];omega)|(simp_all [aH.framed,MU,ieq];done)|(simp_all [aH.framed,MU,ieq];omega))|((with_reducible refine fG hQ aL (λhz=>?_) (λhz=>?_))<;>first|(simp_all [aH.framed,MU,ieq];done)|(simp_all [aH.framed,MU,ieq];omega)))
 have hf1:MU C=true:=by simp_all [MU]
 have g1:h2.get n=some (.row 27 (v.av C)):=by simp (disch:=omega) only[go_sem,ub.old]
 have u0:Up h n h2 n2:=by exact aL
 have hle0:=u0.le;clear ub;rw[bA];refine KA _ (hC.units.up aL) (by omega) λui h3 n3 u3=>?_;have hle3:=u3.le;have g3:=(u3.old n (by omega)).trans g1;repeat' (first|(simp (disch:=omega) only[go_sem,ub.old,g3,CS.av,hC.acts.len])|(simp (disch:=omega) only[go_sem,g3,CS.av,hC.acts.len])|(with_reducible first|apply aj|apply ah|apply ay|apply aB|apply aA|apply au)<;>intro hd<;>(rw[hd];try simp only[decide_eq_true_eq,decide_eq_false_iff_not,Bool.not_eq_true',Bool.not_eq_false']at hd)|(with_reducible refine aD ?_))
 any_goals(first|(with_reducible refine bY hQ ?_ aL;first|(simp[aH.framed,ieq];done)|(simp[aH.framed,ieq];omega)|(simp_all [aH.framed,ieq];done)|(simp_all [aH.framed,ieq];omega))|((with_reducible refine fG hQ aL (λhz=>?_) (λhz=>?_))<;>first|(simp_all [aH.framed,ieq];done)|(simp_all [aH.framed,ieq];omega)))
 have hu:mo C.units=true:=by assumption
 refine fZ C.acts.length (λk=>∀j a,j<k->C.acts[j]?=some a->C.nM a=true) h3 n3 (λk=>[(1,.p n 0),(2,.b false),(38,v.a)]) (by omega) (by omega) (by omega) (by omega) (λ_=>⟨rfl,rfl⟩) rfl rfl (by(repeat' (first|exact aZ|refine aW rfl ?_))) aL (by omega) (λk h4 n4 hk hr u4=>?_) (λh4 n4 hr u4=>?_)
 .have KC:=u4.le
  have g4:=(u4.old n (by omega)).trans g3;repeat' (first|(simp (disch:=omega) only[go_sem,ub.old,Km])|(simp (disch:=omega) only[go_sem,Km])|(with_reducible first|apply aj|apply ah|apply ay|apply aB|apply aA|apply au)<;>intro hd<;>(rw[hd];try simp only[decide_eq_true_eq,decide_eq_false_iff_not,Bool.not_eq_true',Bool.not_eq_false']at hd)|(with_reducible refine aD ?_))
  refine gL hC.acts (by omega) (by omega) (by omega) λb2 o2 w hw hbn eT=>?_;rw[show((k:Nat):Int).toNat=k by omega]at hw;have ua:=(u4.old b2 (by omega)).trans ((u3.old b2 (by omega)).trans (u0.old b2 hbn));repeat' (first|(simp (disch:=omega) only[go_sem,ub.old,eT.el,eT.hd,eT.all,ua,g4,eY.av,CS.av])|(simp (disch:=omega) only[go_sem,eT.el,eT.hd,eT.all,ua,g4,eY.av,CS.av])|((first|rw[bA]|rw[bU]);with_reducible refine R_ _ (hC.up aL) w λh2 n2 u2=>?_;(first|replace ub:=Up.trans ub (Up.trans aL u2)|have ub:=u2);have hle:=ub.le;clear u2)|(with_reducible first|apply aj|apply ah|apply ay|apply aB|apply aA|apply au)<;>intro hd<;>(rw[hd];try simp only[decide_eq_true_eq,decide_eq_false_iff_not,Bool.not_eq_true',Bool.not_eq_false']at hd)|(with_reducible refine aD ?_))
  .refine bY hQ ?_ aL
   have:C.wH=false:=by
    unfold aH.wH;rw[List.all_eq_false];exact⟨w,List.mem_of_getElem? hw,by simp_all⟩
   simp[aH.framed,this]
  .refine iw rfl rfl (λj w' hj hw'=>?_) aL (by(repeat' (first|exact aZ|refine aW rfl ?_)))
   by_cases e:j=k
   .subst e;rw[hw]at hw';cases hw';simp_all
   .exact hr j w' (by omega) hw'
 .have KC:=u4.le
  have g4:=(u4.old n (by omega)).trans g3;have Wo:C.wH=true:=by
   unfold aH.wH;rw[List.all_eq_true];intro w hw;obtain⟨j,hj⟩:=List.getElem?_of_mem hw;exact hr j w (List.getElem?_eq_some_iff.1 hj).1 hj
  repeat' (first|(simp (disch:=omega) only[go_sem,ub.old,g4,CS.av,hC.off.len])|(simp (disch:=omega) only[go_sem,g4,CS.av,hC.off.len])|(with_reducible first|apply aj|apply ah|apply ay|apply aB|apply aA|apply au)<;>intro hd<;>(rw[hd];try simp only[decide_eq_true_eq,decide_eq_false_iff_not,Bool.not_eq_true',Bool.not_eq_false']at hd)|(with_reducible refine aD ?_))
  refine fZ C.off.length (λk=>mO C.days (-1) C.off=mO C.days (qI C.off k) (C.off.drop k)) h4 n4 (λk=>[(1,.p n 0),(2,.b false),(7,.i .i64 (qI C.off k)),(50,v.o)]) (by omega) (by omega) (by omega) (by omega) (λ_=>⟨rfl,rfl⟩) rfl rfl (by(repeat' (first|exact aZ|refine aW rfl ?_))) aL (by rw[List.drop_zero];rfl) (λk h5 n5 hk Sb u5=>?_) (λh5 n5 Sb u5=>?_)
  .have aip:=u5.le
   have g5:=(u5.old n (by omega)).trans g4;repeat' (first|(simp (disch:=omega) only[go_sem,ub.old,Kl])|(simp (disch:=omega) only[go_sem,Kl])|(with_reducible first|apply aj|apply ah|apply ay|apply aB|apply aA|apply au)<;>intro hd<;>(rw[hd];try simp only[decide_eq_true_eq,decide_eq_false_iff_not,Bool.not_eq_true',Bool.not_eq_false']at hd)|(with_reducible refine aD ?_))
   refine gL hC.off (by omega) (by omega) (by omega) λb2 o2 w hw hbn eT=>?_;rw[show((k:Nat):Int).toNat=k by omega]at hw;have ua:=(u5.old b2 (by omega)).trans ((u4.old b2 (by omega)).trans ((u3.old b2 (by omega)).trans (u0.old b2 hbn)));have hdr:C.off.drop k=w::C.off.drop (k+1):=by
    obtain⟨e1,e2⟩:=List.getElem?_eq_some_iff.1 hw;rw[List.drop_eq_getElem_cons e1,e2]
   rw[hdr,mO]at Sb;repeat' (first|(simp (disch:=omega) only[go_sem,ub.old,eT.el,eT.hd,eT.all,ua,g5,CS.av])|(simp (disch:=omega) only[go_sem,eT.el,eT.hd,eT.all,ua,g5,CS.av])|(with_reducible first|apply aj|apply ah|apply ay|apply aB|apply aA|apply au)<;>intro hd<;>(rw[hd];try simp only[decide_eq_true_eq,decide_eq_false_iff_not,Bool.not_eq_true',Bool.not_eq_false']at hd)|(with_reducible refine aD ?_))
   .refine bY hQ ?_ aL
    have:mO C.days (-1) C.off=false:=by rw[Sb];simp_all
    simp[aH.framed,this]
   .refine bY hQ ?_ aL
    have:mO C.days (-1) C.off=false:=by rw[Sb];simp_all
    simp[aH.framed,this]
   .have hl2:qI C.off (k+1)=w:=by unfold qI;rw[if_neg (by omega),Nat.add_sub_cancel,hw];rfl
    refine iw rfl rfl ?_ aL ?_
    .show _=mO C.days (qI C.off (k+1)) _
     have q1:¬w<=qI C.off k:=by assumption
     have q2:¬C.days<=w:=by assumption
     rw[hl2,Sb];simp[q1,q2]
    .show∀m u,lk [(1,.p n 0),(2,.b false),(7,.i .i64 (qI C.off (k+1))),(50,v.o)] m=some u->_
     rw[hl2]
     (repeat' (first|exact aZ|refine aW rfl ?_))
  .repeat' (first|(simp (disch:=omega) only[go_sem,ub.old])|(simp (disch:=omega) only[go_sem])|(with_reducible first|apply aj|apply ah|apply ay|apply aB|apply aA|apply au)<;>intro hd<;>(rw[hd];try simp only[decide_eq_true_eq,decide_eq_false_iff_not,Bool.not_eq_true',Bool.not_eq_false']at hd)|(with_reducible refine aD ?_))
   refine bY hQ ?_ aL;have:mO C.days (-1) C.off=true:=by rw[Sb,List.drop_length];rfl
   simp[aH.framed,this,hf1,hu,Wo]
theorem w_(K:Nat)(hC:bG h n v C)(ho:C.off.length<=1000000)(hQ:∀i h' n',Up h n h' n'->Q (.bV [.i .i64 C.errno,.i .i64 i]) h' n'):CW (EF (K+6)) 44 [.agg (v.av C)] h n Q:=by
 refine aJ c44 rfl ?_;cases hov:C.over with
 |true=>
  have he:C.errno=3:=by simp[aH.errno,hov]
  rw[he]at hQ;repeat' (first|(simp (disch:=omega) only[go_sem,ub.old,VR,CS.av,hC.aC.len,hC.units.len,hC.acts.len,hC.lk])|(simp (disch:=omega) only[go_sem,VR,CS.av,hC.aC.len,hC.units.len,hC.acts.len,hC.lk])|(with_reducible first|apply aj|apply ah|apply ay|apply aB|apply aA|apply au)<;>intro hd<;>(rw[hd];try simp only[decide_eq_true_eq,decide_eq_false_iff_not,Bool.not_eq_true',Bool.not_eq_false']at hd)|(with_reducible refine aD ?_))
  any_goals exact hQ _ _ _ aL
  all_goals(exfalso;simp[aH.over]at hov;omega)
 |false=>
  have hv:=hov;simp only[aH.over,Bool.or_eq_false_iff,decide_eq_false_iff_not]at hv;repeat' (first|(simp (disch:=omega) only[go_sem,ub.old,VR,CS.av,hC.aC.len,hC.units.len,hC.acts.len,hC.lk])|(simp (disch:=omega) only[go_sem,VR,CS.av,hC.aC.len,hC.units.len,hC.acts.len,hC.lk])|((first|rw[bA]|rw[bU]);with_reducible refine G6 _ (hC.up aL) hov ho λh2 n2 u2=>?_;(first|replace ub:=Up.trans ub (Up.trans aL u2)|have ub:=u2);have hle:=ub.le;clear u2)|(with_reducible first|apply aj|apply ah|apply ay|apply aB|apply aA|apply au)<;>intro hd<;>(rw[hd];try simp only[decide_eq_true_eq,decide_eq_false_iff_not,Bool.not_eq_true',Bool.not_eq_false']at hd)|(with_reducible refine aD ?_))
  any_goals(exfalso;omega)
  .have hf:C.framed=false:=by simp_all
   rw[show C.errno=1 by simp[aH.errno,hov,hf]]at hQ;exact hQ _ _ _ aL
  have hf:C.framed=true:=by simp_all
  have g1:h2.get n=some (.row 27 (v.av C)):=by simp (disch:=omega) only[go_sem,ub.old]
  have u0:Up h n h2 n2:=by exact aL
  have hle0:=u0.le;clear ub;refine fZ C.clauses.length (λk=>∀j a,j<k->C.clauses[j]?=some a->C.bW j a=true) h2 n2 (λk=>[(1,.p n 0)]) (by omega) (by omega) (by omega) (by omega) (λ_=>⟨rfl,rfl⟩) rfl rfl (by(repeat' (first|exact aZ|refine aW rfl ?_))) aL (by omega) (λk h4 n4 hk hr u4=>?_) (λh4 n4 hr u4=>?_)
  .have KC:=u4.le
   have g4:=(u4.old n (by omega)).trans g1;obtain⟨w,hw⟩:∃w,C.clauses[k]?=some w:=⟨C.clauses[k],List.getElem?_eq_some_iff.2 ⟨hk,rfl⟩⟩;repeat' (first|(simp (disch:=omega) only[go_sem,ub.old,Kn,g4,CS.av])|(simp (disch:=omega) only[go_sem,Kn,g4,CS.av])|((first|rw[bA]|rw[bU]);with_reducible refine G5 _ (hC.up aL) (by omega) hw λh2 n2 u2=>?_;(first|replace ub:=Up.trans ub (Up.trans aL u2)|have ub:=u2);have hle:=ub.le;clear u2)|(with_reducible first|apply aj|apply ah|apply ay|apply aB|apply aA|apply au)<;>intro hd<;>(rw[hd];try simp only[decide_eq_true_eq,decide_eq_false_iff_not,Bool.not_eq_true',Bool.not_eq_false']at hd)|(with_reducible refine aD ?_))
   .have:C.iq=false:=by
     unfold aH.iq;rw[List.all_eq_false];exact⟨k,List.mem_range.2 hk,by rw[hw];simp_all⟩
    rw[show C.errno=1 by simp[aH.errno,hov,hf,this]]at hQ;exact hQ _ _ _ aL
   .refine iw rfl rfl (λj w' hj hw'=>?_) aL (by(repeat' (first|exact aZ|refine aW rfl ?_)))
    by_cases e:j=k
    .subst e;rw[hw]at hw';cases hw';simp_all
    .exact hr j w' (by omega) hw'
  .repeat' (first|(simp (disch:=omega) only[go_sem,ub.old])|(simp (disch:=omega) only[go_sem])|(with_reducible first|apply aj|apply ah|apply ay|apply aB|apply aA|apply au)<;>intro hd<;>(rw[hd];try simp only[decide_eq_true_eq,decide_eq_false_iff_not,Bool.not_eq_true',Bool.not_eq_false']at hd)|(with_reducible refine aD ?_))
   have:C.iq=true:=by
    unfold aH.iq;rw[List.all_eq_true];intro i hi;have hi:=List.mem_range.1 hi;obtain⟨w,hw⟩:∃w,C.clauses[i]?=some w:=⟨C.clauses[i],List.getElem?_eq_some_iff.2 ⟨hi,rfl⟩⟩;rw[hw];exact hr i w hi hw
   rw[show C.errno=0 by simp[aH.errno,hov,hf,this]]at hQ;exact hQ _ _ _ aL
end
end
noncomputable section
set_option maxHeartbeats 4000000
variable {h:AH} {n:Nat} {Q:AV->AH->Nat->Prop} {v:CS} {C:aH} {tv:TS} {s:aO}
theorem KD(a b c d:Int)(e:Bool)(a' b' c' d':Int)(e':Bool):(dS Tryz.prog 144 .eql).run (.agg [.i .i64 a,.i .i64 b,.i .i64 c,.i .i64 d,.b e]) (.agg [.i .i64 a',.i .i64 b',.i .i64 c',.i .i64 d',.b e'])=
 bnd (bc (fC a a') (bc (fC b b') (bc (fC c c') (bc (fC d d') (bc (bc e e' (oC e')) (some true) (some false)) (some false)) (some false)) (some false)) (some false)) λe=>some (.b e):=by kernel_rfl
@[go_sem] theorem ZM (a b c d:Int) (e:Bool) (a' b' c' d':Int) (e':Bool):(dS Tryz.prog 144 .eql).run (.agg [.i .i64 a,.i .i64 b,.i .i64 c,.i .i64 d,.b e]) (.agg [.i .i64 a',.i .i64 b',.i .i64 c',.i .i64 d',.b e'])=
 some (.b (decide (a=a')&&(decide (b=b')&&(decide (c=c')&&(decide (d=d')&&(e==e')))))):=by
 rw[KD,cO,cO,cO,cO];by_cases h1:a=a'<;>by_cases h2:b=b'<;>by_cases h3:c=c'<;>by_cases h4:d=d'<;>cases e<;>cases e'<;>simp[h1,h2,h3,h4,bc,bnd,oC]
theorem D5(K:Nat)(m:aG)(hQ:∀h' n',Up h n h' n'->Q (.b m.runs) h' n'):CW (EF (K+1)) 180 [.agg m.av] h n Q:=by
 refine aJ abT rfl ?_;repeat' (first|(simp (disch:=omega) only[go_sem,VW,aG.av])|(with_reducible first|apply aj|apply ah|apply ay|apply aB|apply aA|apply au)<;>intro hd<;>(rw[hd];try simp only[decide_eq_true_eq,decide_eq_false_iff_not,Bool.not_eq_true',Bool.not_eq_false']at hd)|(with_reducible refine aD ?_))
 all_goals(first|(with_reducible refine bY hQ ?_ aL;first|(simp[aG.runs,ieq];done)|(simp[aG.runs,ieq];omega)|(simp_all [aG.runs,ieq];done)|(simp_all [aG.runs,ieq];omega))|((with_reducible refine fG hQ aL (λhz=>?_) (λhz=>?_))<;>first|(simp_all [aG.runs,ieq];done)|(simp_all [aG.runs,ieq];omega)))
theorem Sc(K:Nat)(k:aN)(t:AV)(m:aG)(hC:bG h n v C)(hQ:∀h' n',Up h n h' n'->Q (.b (jy C k.kind k.need k.pause k.jw m.left m.got m.aT m.paused)) h' n')(hk:pQ t=some [t]):CW (EF (K+1)) 175 [.agg (v.av C),.agg (k.av t),.agg m.av] h n Q:=by
 refine aJ c175 rfl ?_;repeat' (first|(simp (disch:=omega) only[go_sem,VT,CS.av,aN.av,aG.av])|(with_reducible first|apply aj|apply ah|apply ay|apply aB|apply aA|apply au)<;>intro hd<;>(rw[hd];try simp only[decide_eq_true_eq,decide_eq_false_iff_not,Bool.not_eq_true',Bool.not_eq_false']at hd)|(with_reducible refine aD ?_))
 any_goals(first|(with_reducible refine bY hQ ?_ aL;first|(simp[jy,ieq];done)|(simp[jy,ieq];omega)|(simp_all [jy,ieq];done)|(simp_all [jy,ieq];omega))|((with_reducible refine fG hQ aL (λhz=>?_) (λhz=>?_))<;>first|(simp_all [jy,ieq];done)|(simp_all [jy,ieq];omega)))
theorem Om(K:Nat)(hC:bG h n v C){i:Nat}{k:aN}(hk:C.clauses[i]?=some k)(m:aG)(hQ:∀h' n',Up h n h' n'->Q (.b (C.jB k m)) h' n'):CW (EF (K+2)) 95 [.agg (v.av C),.i .i64 (i:Nat),.agg m.av] h n Q:=by
 have hil:=(List.getElem?_eq_some_iff.1 hk).1;refine aJ c95 rfl ?_;repeat' (first|(simp (disch:=omega) only[go_sem,ub.old,m95,CS.av,aG.av])|(simp (disch:=omega) only[go_sem,m95,CS.av,aG.av])|(with_reducible first|apply aj|apply ah|apply ay|apply aB|apply aA|apply au)<;>intro hd<;>(rw[hd];try simp only[decide_eq_true_eq,decide_eq_false_iff_not,Bool.not_eq_true',Bool.not_eq_false']at hd)|(with_reducible refine aD ?_))
 refine tZ hC (by omega) (by omega) λb o k' t ha hb hst rd=>?_;rw[show((i:Nat):Int).toNat=i by omega,hk]at ha;cases ha;repeat' (first|(simp (disch:=omega) only[go_sem,ub.old,rd.el,rd.hd,rd.all,aN.av,aG.av])|(simp (disch:=omega) only[go_sem,rd.el,rd.hd,rd.all,aN.av,aG.av])|((first|rw[bA]|rw[bU]);with_reducible refine Sc _ k t m (hC.up aL) (λh2 n2 u2=>?_) hst.cl;(first|replace ub:=Up.trans ub (Up.trans aL u2)|have ub:=u2);have hle:=ub.le;clear u2)|(with_reducible first|apply aj|apply ah|apply ay|apply aB|apply aA|apply au)<;>intro hd<;>(rw[hd];try simp only[decide_eq_true_eq,decide_eq_false_iff_not,Bool.not_eq_true',Bool.not_eq_false']at hd)|(with_reducible refine aD ?_))
 any_goals(first|(with_reducible refine bY hQ ?_ aL;first|(simp[aH.jB,jO,nN,ieq];done)|(simp[aH.jB,jO,nN,ieq];omega)|(simp_all [aH.jB,jO,nN,ieq];done)|(simp_all [aH.jB,jO,nN,ieq];omega))|((with_reducible refine fG hQ aL (λhz=>?_) (λhz=>?_))<;>first|(simp_all [aH.jB,jO,nN,ieq];done)|(simp_all [aH.jB,jO,nN,ieq];omega)))
theorem xg(K:Nat)(hC:bG h n v C)(hS:dO h n tv s){i:Nat}{k:aN}{m:aG}(hk:C.clauses[i]?=some k)(hm:s.marks[i]?=some m)(hl:k.start.length<=1000)(hc:∀c∈k.start,0<=c.clause/\c.clause<s.marks.length)
 (hQ:∀h' n',Up h n h' n'->Q (.b (eP s.marks k m)) h' n'):CW (EF (K+1)) 94 [.agg (v.av C),.agg (tv.av s),.i .i64 (i:Nat)] h n Q:=by
 have hil:=(List.getElem?_eq_some_iff.1 hk).1;have him:=(List.getElem?_eq_some_iff.1 hm).1;refine aJ c94 rfl ?_;repeat' (first|(simp (disch:=omega) only[go_sem,m94,CS.av,TS.av])|(with_reducible first|apply aj|apply ah|apply ay|apply aB|apply aA|apply au)<;>intro hd<;>(rw[hd];try simp only[decide_eq_true_eq,decide_eq_false_iff_not,Bool.not_eq_true',Bool.not_eq_false']at hd)|(with_reducible refine aD ?_))
 refine gL hS.marks (by omega) (by omega) (by omega) λb o m' ha hb rd=>?_;rw[show((i:Nat):Int).toNat=i by omega,hm]at ha;cases ha;repeat' (first|(simp (disch:=omega) only[go_sem,rd.el,rd.hd,aG.av])|(with_reducible first|apply aj|apply ah|apply ay|apply aB|apply aA|apply au)<;>intro hd<;>(rw[hd];try simp only[decide_eq_true_eq,decide_eq_false_iff_not,Bool.not_eq_true',Bool.not_eq_false']at hd)|(with_reducible refine aD ?_))
 any_goals(first|(with_reducible refine bY hQ ?_ aL;first|(simp[eP,ieq];done)|(simp[eP,ieq];omega)|(simp_all [eP,ieq];done)|(simp_all [eP,ieq];omega))|((with_reducible refine fG hQ aL (λhz=>?_) (λhz=>?_))<;>first|(simp_all [eP,ieq];done)|(simp_all [eP,ieq];omega)))
 all_goals(refine tZ hC (by omega) (by omega) λb2 o2 k' t ha hb2 hst eT=>?_)
 all_goals(rw[show((i:Nat):Int).toNat=i by omega,hk]at ha;cases ha)
 all_goals repeat' (first|(simp (disch:=omega) only[go_sem,eT.el,eT.hd,aN.av,hst.len])|(with_reducible first|apply aj|apply ah|apply ay|apply aB|apply aA|apply au)<;>intro hd<;>(rw[hd];try simp only[decide_eq_true_eq,decide_eq_false_iff_not,Bool.not_eq_true',Bool.not_eq_false']at hd)|(with_reducible refine aD ?_))
 any_goals(first|(with_reducible refine bY hQ ?_ aL;first|(simp[eP,ieq];done)|(simp[eP,ieq];omega)|(simp_all [eP,ieq];done)|(simp_all [eP,ieq];omega))|((with_reducible refine fG hQ aL (λhz=>?_) (λhz=>?_))<;>first|(simp_all [eP,ieq];done)|(simp_all [eP,ieq];omega)))
 refine tZ hC (by omega) (by omega) λb3 o3 k' t ha hb3 hst qH=>?_;rw[show((i:Nat):Int).toNat=i by omega,hk]at ha;cases ha;repeat' (first|(simp (disch:=omega) only[go_sem,qH.el,qH.hd,aN.av,hst.len])|(with_reducible first|apply aj|apply ah|apply ay|apply aB|apply aA|apply au)<;>intro hd<;>(rw[hd];try simp only[decide_eq_true_eq,decide_eq_false_iff_not,Bool.not_eq_true',Bool.not_eq_false']at hd)|(with_reducible refine aD ?_))
 have h0:m.status=0:=by assumption
 have hw:k.jw=false:=by assumption
 generalize hh:Tr.set (Tr.set h n _) (n+1) _=hb0;have u0:Up h n hb0 (n+1+1):=by rw[<-hh];exact aL
 have g1:hb0.get (n+1)=some (.row 43 (tv.av s)):=by rw[<-hh];exact rG
 clear hh;refine fZ k.start.length (λq=>∀j c,j<q->k.start[j]?=some c->oQ s.marks c=true) hb0 (n+1+1) (λq=>[(4,.p (n+1) 0),(6,.b false),(31,t)]) (by omega) (by omega) (by omega) (by omega) (λ_=>⟨rfl,rfl⟩) rfl rfl (by(repeat' (first|exact aZ|refine aW rfl ?_))) aL (by omega) (λq h4 n4 hq hr u4=>?_) (λh4 n4 hr u4=>?_)
 .have KC:=u4.le
  have g4:=(u4.old (n+1) (by omega)).trans g1;repeat' (first|(simp (disch:=omega) only[go_sem,P9])|(with_reducible first|apply aj|apply ah|apply ay|apply aB|apply aA|apply au)<;>intro hd<;>(rw[hd];try simp only[decide_eq_true_eq,decide_eq_false_iff_not,Bool.not_eq_true',Bool.not_eq_false']at hd)|(with_reducible refine aD ?_))
  refine gL hst (by omega) (by omega) (by omega) λb5 o5 w ZN hb5 qO=>?_;rw[show((q:Nat):Int).toNat=q by omega]at ZN;have hcw:=hc w (List.mem_of_getElem? ZN);have ua:=(u4.old b5 (by omega)).trans (u0.old b5 hb5);repeat' (first|(simp (disch:=omega) only[go_sem,qO.el,qO.hd,qO.all,ua,g4,fO.av,TS.av])|(with_reducible first|apply aj|apply ah|apply ay|apply aB|apply aA|apply au)<;>intro hd<;>(rw[hd];try simp only[decide_eq_true_eq,decide_eq_false_iff_not,Bool.not_eq_true',Bool.not_eq_false']at hd)|(with_reducible refine aD ?_))
  refine gL hS.marks (by omega) (by omega) (by omega) λb6 o6 m6 hm6 hb6 Uj=>?_;have ub6:=(u4.old b6 (by omega)).trans (u0.old b6 hb6);have ais:wI s.marks w.clause=m6.status:=by unfold wI;rw[hm6];rfl
  repeat' (first|(simp (disch:=omega) only[go_sem,Uj.el,Uj.hd,ub6,aG.av])|(with_reducible first|apply aj|apply ah|apply ay|apply aB|apply aA|apply au)<;>intro hd<;>(rw[hd];try simp only[decide_eq_true_eq,decide_eq_false_iff_not,Bool.not_eq_true',Bool.not_eq_false']at hd)|(with_reducible refine aD ?_))
  all_goals first
   |(
    refine bY hQ ?_ aL;have:kQ s.marks k.start=false:=by
     unfold kQ;rw[List.all_eq_false];exact⟨w,List.mem_of_getElem? ZN,by simp_all [oQ,Dx,ieq]⟩
    simp[eP,this])
   |(
    refine iw rfl rfl (λj w' hj hw'=>?_) aL (by(repeat' (first|exact aZ|refine aW rfl ?_)));by_cases e:j=q
    .subst e;rw[ZN]at hw';cases hw';simp_all [oQ,Dx,ieq]
    .exact hr j w' (by omega) hw')
 .repeat' (first|(simp (disch:=omega) only[go_sem])|(with_reducible first|apply aj|apply ah|apply ay|apply aB|apply aA|apply au)<;>intro hd<;>(rw[hd];try simp only[decide_eq_true_eq,decide_eq_false_iff_not,Bool.not_eq_true',Bool.not_eq_false']at hd)|(with_reducible refine aD ?_))
  refine bY hQ ?_ aL;have:kQ s.marks k.start=true:=by
   unfold kQ;rw[List.all_eq_true];intro w hw;obtain⟨j,hj⟩:=List.getElem?_of_mem hw;exact hr j w (List.getElem?_eq_some_iff.1 hj).1 hj
  simp[eP,h0,hw,this]
end
end Go.Proofs.YtjoohkjmoghmoaaGreatDoor
