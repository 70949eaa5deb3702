/- part -/
import Derived.Test.YtjoohkjmoghmoaaGreatDoorP14
set_option linter.all false
namespace Go.Proofs.YtjoohkjmoghmoaaGreatDoor
section
noncomputable section
open Classical
def aF.onto(k:aF)(l:List bN):aF:=⟨k.kind,k.role,k.act,k.need,l,k.after,k.gF,k.gV,k.final,k.pause,k.resume,k.value,k.unit,k.tgt,k.iP⟩
def zA(cl:List Nat)(c c':bN):Prop:=c'.is=c.is/\0<=c.clause/\∃p:Nat,c'.clause=p/\cl[p]?=some c.clause.toNat
def qF(cl:List Nat)(l l':List bN):Prop:=l'.length=l.length/\∀(n:Nat)(c c':bN),l[n]?=some c->l'[n]?=some c'->zA cl c c'
structure eO(C D:aA)(cl:List Nat):Prop where
 aC:D.aC=C.aC
 ah:D.ah=C.ah
 acts:D.acts=C.acts
 days:D.days=C.days
 off:D.off=C.off
 len:D.clauses.length=cl.length
 at_:∀(j i:Nat),cl[j]?=some i->∃k l,C.clauses[i]?=some k/\D.clauses[j]?=some (k.onto l)/\qF cl k.start l
def bO(cl:List Nat)(ms:List au):List au:=cl.map λi=>(ms[i]?).getD ⟨0,0,0,0,false⟩
def aH.rs(cl:List Nat)(s:aH):aH:=⟨s.day,s.ah,s.used,bO cl s.marks⟩
theorem qF.fwd{cl:List Nat}{l l':List bN}(h:qF cl l l'){c:bN}(hc:c∈l):∃c'∈l',zA cl c c':=by
 obtain⟨n,hn⟩:=List.getElem?_of_mem hc;have h1:n<l'.length:=by rw[h.1];exact(List.getElem?_eq_some_iff.1 hn).1
 exact⟨l'[n],List.getElem_mem h1,h.2 n c _ hn (List.getElem?_eq_getElem h1)⟩
theorem qF.bwd{cl:List Nat}{l l':List bN}(h:qF cl l l'){c':bN}(hc:c'∈l'):∃c∈l,zA cl c c':=by
 obtain⟨n,hn⟩:=List.getElem?_of_mem hc;have h1:n<l.length:=by rw[<-h.1];exact(List.getElem?_eq_some_iff.1 hn).1
 exact⟨l[n],List.getElem_mem h1,h.2 n _ c' (List.getElem?_eq_getElem h1) hn⟩
section
variable {C D:aA} {cl:List Nat} {ms:List au}
theorem sJ:(bO cl ms).length=cl.length:=by simp[bO]
theorem ko(hr:∀i∈cl,i<ms.length){j i:Nat}(h:cl[j]?=some i):(bO cl ms)[j]?=ms[i]?:=by
 have hi:=hr i (List.mem_of_getElem? h);simp[bO,h,List.getElem?_eq_getElem hi]
theorem SI(hr:∀i∈cl,i<ms.length){l:List au}(hl:l.length=cl.length)(h:∀j i:Nat,cl[j]?=some i->l[j]?=ms[i]?):l=bO cl ms:=by
 apply List.ext_getElem?;intro j;by_cases hj:j<cl.length
 .have e:cl[j]?=some cl[j]:=List.getElem?_eq_getElem hj
  rw[ko hr e,h j _ e]
 .rw[List.getElem?_eq_none (by omega),List.getElem?_eq_none (by rw[sJ];omega)]
theorem eO.lt(h:eO C D cl){i:Nat}(hi:i∈cl):i<C.clauses.length:=by
 obtain⟨j,hj⟩:=List.getElem?_of_mem hi;obtain⟨k,l,h1,_⟩:=h.at_ j i hj;exact(List.getElem?_eq_some_iff.1 h1).1
theorem uJ(hr:∀i∈cl,i<ms.length){f g:Nat->au->au}{l l':List au}(hl:∀j:Nat,l[j]?=((bO cl ms)[j]?).map (g j))(hl':∀i:Nat,l'[i]?=(ms[i]?).map (f i))(e:∀(j i:Nat)(m:au),cl[j]?=some i->g j m=f i m):l=bO cl l':=by
 have h1:=jX hl;have h2:=jX hl';refine SI (λi hi=>by rw[h2];exact hr i hi) (by rw[h1,sJ]) λj i hj=>?_;rw[hl,hl',ko hr hj];cases ms[i]? with
 |none=>rfl
 |some m=>simp only[Option.map_some,e j i m hj]
theorem JY(h:eO C D cl)(hr:∀i∈cl,i<ms.length)(t:Int):D.paused t (bO cl ms)=bO cl (C.paused t ms):=
 uJ hr (iQ D t _) (iQ C t ms) λj i m hj=>by
  obtain⟨k,l,h1,h2,_⟩:=h.at_ j i hj;simp only[je,h1,h2];rfl
theorem NQ(h:eO C D cl)(hr:∀i∈cl,i<ms.length)(t w:Int):D.nW t w (bO cl ms)=bO cl (C.nW t w ms):=
 uJ hr (jH D t w _) (jH C t w ms) λj i m hj=>by
  obtain⟨k,l,h1,h2,_⟩:=h.at_ j i hj;simp only[pz,h1,h2];rfl
theorem JZ(h:eO C D cl)(hr:∀i∈cl,i<ms.length)(b:Bool):D.vN b (bO cl ms)=bO cl (C.vN b ms):=
 uJ hr (nG D b _) (nG C b ms) λj i m hj=>by
  obtain⟨k,l,h1,h2,_⟩:=h.at_ j i hj;simp only[qz,h1,h2];rfl
theorem Gm(h:eO C D cl)(hr:∀i∈cl,i<ms.length)(g t:Int):(gX (bO cl ms) (bO cl ms).length).foldl (λms i=>dM D g t i ms) (bO cl ms)=bO cl ((gX ms ms.length).foldl (λms i=>dM C g t i ms) ms):=
 uJ hr (pG D g t _) (pG C g t ms) λj i m hj=>by
  obtain⟨k,l,h1,h2,_⟩:=h.at_ j i hj;simp only[pF,h1,h2];rfl
end
inductive Starts (C:aA) (ms:List au):Nat->Prop
 |mk {i:Nat} {k:aF} {m:au}:C.clauses[i]?=some k->ms[i]?=some m->m.status=0->k.iP=false->(∀c∈k.start,d9 ms c=false->c.is=1)->(∀c∈k.start,d9 ms c=false->Starts C ms c.clause.toNat)->Starts C ms i
theorem pY(is:Int):rW is 0=false:=by
 unfold rW;cases (is==1)<;>cases (is==2)<;>cases (is==3)<;>cases (is==4)<;>rfl
theorem Gn{is:Int}(h:rW is 1=true):is=1:=by
 unfold rW at h;by_cases e:is=1
 .exact e
 .rw[show(is==1)=false by simpa using e]at h
  revert h;cases (is==2)<;>cases (is==3)<;>cases (is==4)<;>simp
def Gp(C:aA)(hs:List Int)(ms x:List au):Prop:=x.length=ms.length/\∀(j:Nat)(m':au),x[j]?=some m'->∃m,ms[j]?=some m/\(m'=m\/m.status=0/\Starts C ms j/\∃k,C.clauses[j]?=some k/\m'=mh hs k)
theorem Cv{C:aA}{hs:List Int}{ms x:List au}(h:Gp C hs ms x)(i:Nat):Gp C hs ms (gU C hs x i):=by
 refine⟨by rw[oZ];exact h.1,λj m' hm=>?_⟩;cases hf:eB C x i with
 |false=>rw[(nD C hs x i).2 hf]at hm;exact h.2 j m' hm
 |true=>
  have hf':=hf;unfold eB at hf';unfold gU at hm;cases hk:C.clauses[i]? with
  |none=>simp[hk]at hf'
  |some k=>
   cases PV:x[i]? with
   |none=>simp[hk,PV]at hf'
   |some m=>
    simp only[hk,PV]at hf';simp only[hk,hf,cond_true]at hm;by_cases hij:i=j
    .subst hij
     rw[jG PV]at hm;injection hm with hm
     simp only[dz,Bool.and_eq_true,beq_iff_eq,Bool.not_eq_true']at hf';obtain⟨f1,f2,f3⟩:=hf';obtain⟨m0,h1,h2⟩:=h.2 i m PV;obtain rfl:m=m0:=by
      rcases h2 with h2|⟨_,_,_,_,rfl⟩
      .exact h2
      .exact absurd f1 (by show¬(1:Int)=0;decide)
     have hx:∀c∈k.start,d9 ms c=false->c.is=1/\Starts C ms c.clause.toNat:=λc hc hn=>by
      have h3:d9 x c=true:=List.all_eq_true.1 f3 c hc;unfold d9 jU at h3 hn;cases hxc:x[c.clause.toNat]? with
      |none=>rw[hxc]at h3;simp[pY]at h3
      |some mc=>
       rw[hxc]at h3;obtain⟨m1,h4,h5⟩:=h.2 _ mc hxc;rcases h5 with rfl|⟨_,h5,k',_,rfl⟩
       .rw[h4]at hn
        rw[hn]at h3;cases h3
       .exact⟨Gn h3,h5⟩
     exact⟨m,h1,.inr ⟨f1,.mk hk h1 f1 f2 (λc hc hn=>(hx c hc hn).1) (λc hc hn=>(hx c hc hn).2),k,hk,hm.symm⟩⟩
    .rw[List.getElem?_set,if_neg hij]at hm
     exact h.2 j m' hm
theorem uK{C:aA}{hs:List Int}{ms x:List au}(h:Gp C hs ms x):∀n,Gp C hs ms (bL C hs x n)
 |0=>h
 |n+1=>Cv (uK h n) n
theorem rH{C:aA}{hs:List Int}{ms:List au}:∀(f:Nat)(x:List au),Gp C hs ms x->Gp C hs ms (fT C hs f x)
 |0,_,h=>h
 |f+1,x,h=>by
  rw[fT];cases bV C hs x C.clauses.length with
  |false=>exact h
  |true=>exact rH f _ (uK h _)
theorem sN(C:aA)(hs:List Int)(ms:List au):Gp C hs ms (C.begin hs ms):=rH _ ms ⟨rfl,λ_ m' h=>⟨m',h,.inl rfl⟩⟩
theorem uL{C:aA}{hs:List Int}{ms:List au}{i:Nat}(h:Starts C ms i):∃k,C.clauses[i]?=some k/\(C.begin hs ms)[i]?=some (mh hs k):=by
 induction h with
 |@mk i k m hk hm h0 hw h1 _ ih=>
  refine⟨k,hk,?_⟩;have hi:i<(C.begin hs ms).length:=by rw[gP];exact(List.getElem?_eq_some_iff.1 hm).1
  have hg:(C.begin hs ms)[i]?=some (C.begin hs ms)[i]:=List.getElem?_eq_getElem hi;obtain⟨m0,h2,h3⟩:=(sN C hs ms).2 i _ hg;rw[hm]at h2;cases h2
  rcases h3 with h3|⟨_,_,k',hk',h3⟩
  .have hn:=yU C hs ms i (List.getElem?_eq_some_iff.1 hk).1
   exfalso;unfold eB at hn;rw[hk,hg,h3]at hn;simp only[dz,h0,hw,beq_self_eq_true,Bool.true_and,Bool.not_false]at hn;have:gN (C.begin hs ms) k.start=true:=by
    unfold gN;rw[List.all_eq_true];intro c hc;cases hcm:d9 ms c with
    |false=>
     obtain⟨kc,_,h5⟩:=ih c hc hcm;unfold d9 jU;rw[h5,h1 c hc hcm];rfl
    |true=>
     unfold d9 jU at hcm⊢;cases hmc:ms[c.clause.toNat]? with
     |none=>rw[hmc]at hcm;simp[pY]at hcm
     |some mc=>
      rw[hmc]at hcm;by_cases hz:mc.status=0
      .simp[hz,pY]at hcm
      .rw[Fz hmc hz]
       exact hcm
   rw[this]at hn;cases hn
  .rw[hk]at hk'
   cases hk'
   rw[hg,h3]
theorem Aw{C:aA}{hs:List Int}{ms:List au}{i:Nat}(h:¬Starts C ms i):(C.begin hs ms)[i]?=ms[i]?:=by
 cases hg:(C.begin hs ms)[i]? with
 |none=>rw[List.getElem?_eq_none_iff,gP]at hg;exact(List.getElem?_eq_none hg).symm
 |some m'=>
  obtain⟨m0,h2,h3⟩:=(sN C hs ms).2 i m' hg;rcases h3 with rfl|⟨_,h3,_⟩
  .exact h2.symm
  .exact absurd h3 h
section
variable {C D:aA} {cl:List Nat} {ms:List au}
theorem zA.holds(hr:∀i∈cl,i<ms.length){c c':bN}(h:zA cl c c'):d9 (bO cl ms) c'=d9 ms c:=by
 obtain⟨h1,_,p,h2,h3⟩:=h;unfold d9 jU;rw[h2,Int.toNat_natCast,ko hr h3,h1]
theorem J2(h:eO C D cl)(hr:∀i∈cl,i<ms.length){j:Nat}(hs:Starts D (bO cl ms) j):∀i:Nat,cl[j]?=some i->Starts C ms i:=by
 induction hs with
 |@mk j k' m hk hm h0 hw h1 _ ih=>
  intro i hj;obtain⟨k,l,g1,g2,g3⟩:=h.at_ j i hj;rw[hk]at g2;cases g2
  rw[ko hr hj]at hm;refine .mk g1 hm h0 hw (λc hc hn=>?_) λc hc hn=>?_
  .obtain⟨c',q1,q2⟩:=g3.fwd hc
   rw[<-q2.1];exact h1 c' q1 (by rw[q2.holds hr];exact hn)
  .obtain⟨c',q1,q2⟩:=g3.fwd hc
   obtain⟨p,e1,e2⟩:=q2.2.2;exact ih c' q1 (by rw[q2.holds hr];exact hn) _ (by rw[e1];exact e2)
theorem J5(h:eO C D cl)(hr:∀i∈cl,i<ms.length){i:Nat}(hs:Starts C ms i):∀j:Nat,cl[j]?=some i->Starts D (bO cl ms) j:=by
 induction hs with
 |@mk i k m hk hm h0 hw h1 _ ih=>
  intro j hj;obtain⟨k0,l,g1,g2,g3⟩:=h.at_ j i hj;rw[hk]at g1;cases g1
  refine .mk g2 (by rw[ko hr hj];exact hm) h0 hw (λc' hc hn=>?_) λc' hc hn=>?_
  .obtain⟨c,q1,q2⟩:=g3.bwd hc
   rw[q2.1];exact h1 c q1 (by rw[<-q2.holds hr];exact hn)
  .obtain⟨c,q1,q2⟩:=g3.bwd hc
   obtain⟨p,e1,e2⟩:=q2.2.2;exact ih c q1 (by rw[<-q2.holds hr];exact hn) _ (by rw[e1];exact e2)
theorem uM(h:eO C D cl)(hr:∀i∈cl,i<ms.length)(hs:List Int):D.begin hs (bO cl ms)=bO cl (C.begin hs ms):=by
 refine SI (λi hi=>by rw[gP];exact hr i hi) (by rw[gP,sJ]) λj i hj=>?_;by_cases hS:Starts C ms i
 .obtain⟨k,h1,h2⟩:=uL (hs:=hs) hS
  obtain⟨k',h3,h4⟩:=uL (hs:=hs) (J5 h hr hS j hj);obtain⟨k0,l,g1,g2,g3⟩:=h.at_ j i hj;rw[h1]at g1;cases g1
  rw[h3]at g2;cases g2
  rw[h2,h4];rfl
 .rw[Aw hS,Aw λe=>hS (J2 h hr e i hj),ko hr hj]
theorem QM(h:eO C D cl){s:aH}(hl:s.marks.length=C.clauses.length):D.tick (s.rs cl)=(C.tick s).rs cl:=by
 have hr:∀i∈cl,i<s.marks.length:=λi hi=>by rw[hl];exact h.lt hi
 unfold aA.tick aH.rs;simp only[h.off,JZ h hr];rw[uM h λi hi=>by rw[yP];exact hr i hi]
theorem Vw(h:eO C D cl){s:aH}(hl:s.marks.length=C.clauses.length)(i:Nat)(a:dh):D.act i a (s.rs cl)=(C.act i a s).rs cl:=by
 have hr:∀i∈cl,i<s.marks.length:=λi hi=>by rw[hl];exact h.lt hi
 have hr1:∀j∈cl,j<(C.paused i s.marks).length:=λj hj=>by rw[yO];exact hr j hj
 have hr2:∀j∈cl,j<(C.nW i (bH s.ah a) (C.paused i s.marks)).length:=λj hj=>by rw[vO];exact hr1 j hj
 unfold aA.act;simp only[aH.rs,JY h hr,NQ h hr1];cases ((a.kind !=1)&&s.used.getD i false)with
 |true=>rfl
 |false=>
  cases (a.kind !=1)with
  |false=>simp only[cond_false];rw[uM h hr2]
  |true=>
   simp only[cond_true,cond_false,aA.shift];cases (a.kind !=3)with
   |true=>simp only[cond_true];rw[uM h hr2]
   |false=>
    simp only[cond_false,Gm h hr2];rw[uM h λj hj=>by rw[vM _ (λi ms=>iW C _ _ i ms)];exact hr2 j hj]
theorem jC(h:eO C D cl){s:aH}(hl:s.marks.length=C.clauses.length)(t:Int):D.aZ (s.rs cl) t=(C.aZ s t).rs cl:=by
 unfold aA.aZ;rw[h.acts];by_cases e:t= -1
 .rw[if_pos e,if_pos e,QM h hl]
 .rw[if_neg e,if_neg e]
  cases C.acts[t.toNat]? with
  |none=>rfl
  |some a=>exact Vw h hl _ a
theorem xL(h:eO C D cl)(s:aH)(t:Int):D.doer (s.rs cl) t=C.doer s t:=by
 unfold aA.doer;rw[h.acts];rfl
theorem iY{C:aA}{s:aH}{p:Int}:anyFailed C s p=true↔∃(i:Nat)(m:au)(k:aF),s.marks[i]?=some m/\C.clauses[i]?=some k/\iA k m p=true:=by
 unfold anyFailed;rw[List.any_eq_true];constructor
 .rintro⟨i,_,h⟩
  cases hm:s.marks[i]? with
  |none=>simp[hm]at h
  |some m=>
   cases hk:C.clauses[i]? with
   |none=>simp[hm,hk]at h
   |some k=>exact⟨i,m,k,hm,hk,by simpa only[hm,hk]using h⟩
 .rintro⟨i,m,k,hm,hk,h⟩
  refine⟨i,List.mem_range.2 (List.getElem?_eq_some_iff.1 hm).1,?_⟩;simp only[hm,hk,h]
theorem J8(h:eO C D cl){s:aH}(hl:s.marks.length=C.clauses.length){p:Int}(hf:anyFailed D (s.rs cl) p=true):anyFailed C s p=true:=by
 have hr:∀i∈cl,i<s.marks.length:=λi hi=>by rw[hl];exact h.lt hi
 obtain⟨j,m,k',h1,h2,h3⟩:=iY.1 hf;have hj:j<cl.length:=by have:=(List.getElem?_eq_some_iff.1 h1).1;simpa [aH.rs,sJ]using this
 obtain⟨k,l,g1,g2,_⟩:=h.at_ j _ (List.getElem?_eq_getElem hj);rw[h2]at g2;cases g2
 exact iY.2 ⟨_,m,k,(ko hr (List.getElem?_eq_getElem hj)).symm.trans h1,g1,h3⟩
theorem J9(h:eO C D cl){s:aH}(hl:s.marks.length=C.clauses.length){p:Int}{i:Nat}{m:au}{k:aF}(hi:i∈cl)(h1:s.marks[i]?=some m)(h2:C.clauses[i]?=some k)(h3:iA k m p=true):anyFailed D (s.rs cl) p=true:=by
 have hr:∀i∈cl,i<s.marks.length:=λi hi=>by rw[hl];exact h.lt hi
 obtain⟨j,hj⟩:=List.getElem?_of_mem hi;obtain⟨k',l,g1,g2,_⟩:=h.at_ j i hj;rw[h2]at g1;cases g1
 exact iY.2 ⟨j,m,_,(ko hr hj).trans h1,g2,h3⟩
theorem NR(h:eO C D cl)(hD:D.valid=true){s:aH}(hs:aM C s):aM D (s.rs cl):=by
 have hr:∀i∈cl,i<s.marks.length:=λi hi=>by rw[hs.lm];exact h.lt hi
 have inv:∀(j:Nat)(m:au)(k':aF),(bO cl s.marks)[j]?=some m->D.clauses[j]?=some k'->∃(i:Nat)(k:aF)(l:List bN),s.marks[i]?=some m/\C.clauses[i]?=some k/\k'=k.onto l/\qF cl k.start l:=λj m k' hm hk=>by
  have hj:j<cl.length:=by have:=(List.getElem?_eq_some_iff.1 hm).1;simpa [sJ]using this
  obtain⟨k,l,g1,g2,g3⟩:=h.at_ j _ (List.getElem?_eq_getElem hj);rw[hk]at g2;cases g2
  exact⟨_,k,l,(ko hr (List.getElem?_eq_getElem hj)).symm.trans hm,g1,rfl,g3⟩
 refine⟨hD,hs.Fx,by rw[h.days];exact hs.Fy,by rw[h.ah];exact hs.lh,by rw[h.acts];exact hs.lu,by simp[aH.rs,sJ,h.len],λp hp=>by rw[h.aC];exact hs.held p hp,λi a hu ha=>hs.used i a hu (by rw[<-h.acts];exact ha),λj m k' hm hk=>?_,λj m k' hm hk=>?_⟩
 .obtain⟨i,k,l,h1,h2,rfl,_⟩:=inv j m k' hm hk
  have:=hs.marks i m k h1 h2;unfold bM at this⊢;rw[h.aC];exact this
 .obtain⟨i,k,l,h1,h2,rfl,g3⟩:=inv j m k' hm hk
  have h4:=hs.still i m k h1 h2;have e:gN (bO cl s.marks) l=gN s.marks k.start:=by
   rw[Bool.eq_iff_iff];unfold gN;rw[List.all_eq_true,List.all_eq_true];constructor
   .intro h5 c hc
    obtain⟨c',q1,q2⟩:=g3.fwd hc;rw[<-q2.holds hr];exact h5 c' q1
   .intro h5 c' hc
    obtain⟨c,q1,q2⟩:=g3.bwd hc;rw[q2.holds hr];exact h5 c q1
  have e2:dz (bO cl s.marks) (k.onto l) m=dz s.marks k m:=by
   unfold dz;rw[show(k.onto l).start=l from rfl,e];rfl
  exact e2.trans h4
end
theorem fF{C:aA}{party:Int}{p:aP}{m:Int}{q:aP}:(m,q)∈C.pO party p↔(m= -2/\p.own=true/\q=⟨p.st,false⟩)\/(m= -1/\p.own=false/\p.st.day<C.days/\q=⟨C.aZ p.st (-1),true⟩)\/(∃i:Nat,i<C.acts.length/\m=i/\p.st.day<C.days/\C.JE party p i/\q=⟨C.aZ p.st i,true⟩):=by
 unfold aA.pO aA.oq aA.ou;simp only[List.mem_append];constructor
 .rintro((h|h)|h)
  .split at h
   .simp at h;exact .inl ⟨h.1,by assumption,h.2⟩
   .simp at h
  .split at h
   .rename_i hc;simp at h;exact .inr (.inl ⟨h.1,hc.1,hc.2,h.2⟩)
   .simp at h
  .split at h
   .rename_i hc
    simp at h;obtain⟨i,⟨h1,h2⟩,h3,h4⟩:=h;exact .inr (.inr ⟨i,h1,h3.symm,hc,h2,h4.symm⟩)
   .simp at h
 .rintro(⟨rfl,h1,rfl⟩|⟨rfl,h1,h2,rfl⟩|⟨i,h1,rfl,h2,h3,rfl⟩)
  .exact .inl (.inl (by simp[h1]))
  .exact .inl (.inr (by simp[h1,h2]))
  .exact .inr (by simp only[h2,if_true];simp;exact⟨i,⟨h1,h3⟩,rfl,rfl⟩)
end
end
section
noncomputable section
open Classical
def aF.names(k:aF)(t:Int):Prop:=k.act=t\/k.pause=t\/k.resume=t
structure Parts(C:aA)(ps:List (List Nat×aA)):Prop where
 part:∀x∈ps,eO C x.2 x.1
 valid:∀x∈ps,x.2.valid=true
 cover:∀i:Nat,i<C.clauses.length->∃x∈ps,i∈x.1
 apart:∀x∈ps,∀y∈ps,x≠y->(∀a∈C.acts,a.kind=1)/\∀i∈x.1,∀j∈y.1,∀k k':aF,C.clauses[i]?=some k->C.clauses[j]?=some k'->∀t:Nat,k.names t->¬k'.names t
section
variable {C:aA} {ps:List (List Nat×aA)} {s:aH}
theorem step_ok(h:aM C s){t:Int}(hd:s.day<C.days):aM C (C.aZ s t):=by
 unfold aA.aZ;by_cases e:t= -1
 .rw[if_pos e];exact H_ h hd
 .rw[if_neg e]
  cases ha:C.acts[t.toNat]? with
  |none=>exact h
  |some a=>exact Mt h ha
theorem sO{i:Nat}{a:dh}(ha:C.acts[i]?=some a):C.aZ s i=C.act i a s:=by
 unfold aA.aZ;rw[if_neg (by omega),Int.toNat_natCast,ha]
theorem Parts.other(P:Parts C ps)(h:aM C s){x y:List Nat×aA}(hx:x∈ps)(hy:y∈ps)(hxy:y≠x){i:Nat}(hi:i<C.acts.length)(hc:x.2.aZ (s.rs x.1) i≠s.rs x.1):y.2.aZ (s.rs y.1) i=s.rs y.1:=by
 obtain⟨h1,h2⟩:=P.apart x hx y hy λe=>hxy e.symm;obtain⟨a,ha⟩:∃a,C.acts[i]?=some a:=⟨_,List.getElem?_eq_getElem hi⟩;have hk:=h1 a (List.mem_of_getElem? ha);have still:∀z∈ps,(∀i'∈z.1,∀k:aF,C.clauses[i']?=some k->¬k.names i)->z.2.aZ (s.rs z.1) i=s.rs z.1:=λz hz hn=>by
  have hp:=P.part z hz;rw[sO (by rw[hp.acts];exact ha)];refine Mv (NR hp (P.valid z hz) h) hk λj m k' hm hk' _=>?_;have hj:j<z.1.length:=by have:=(List.getElem?_eq_some_iff.1 hm).1;simpa [aH.rs,sJ]using this
  obtain⟨k,l,g1,g2,_⟩:=hp.at_ j _ (List.getElem?_eq_getElem hj);rw[hk']at g2;cases g2
  have:=hn _ (List.getElem_mem hj) k g1;exact⟨λe=>this (.inl e),λe=>this (.inr (.inl e)),λe=>this (.inr (.inr e))⟩
 refine still y hy λj hj k' hk' hn=>hc (still x hx λi' hi' k hk hn'=>h2 i' hi' j hj k k' hk hk' i hn' hn)
theorem Parts.Vx(P:Parts C ps){party:Int}{p:aP}(h:bY C party p):aM C p.st->∃x∈ps,bY x.2 party ⟨p.st.rs x.1,p.own⟩:=by
 induction h with
 |@lost p hf=>
  intro hs;obtain⟨i,m,k,h1,h2,h3⟩:=iY.1 hf;obtain⟨x,hx,hi⟩:=P.cover i (List.getElem?_eq_some_iff.1 h2).1;exact⟨x,hx,.lost (J9 (P.part x hx) hs.lm hi h1 h2 h3)⟩
 |@own p ho _ ih=>
  intro hs;obtain⟨s,o⟩:=p;subst ho;apply Classical.byContradiction;intro hn;have hn:∀x∈ps,¬bY x.2 party ⟨s.rs x.1,true⟩:=λx hx hd=>hn ⟨x,hx,hd⟩;obtain⟨x,hx,hd⟩:=ih (-2) ⟨s,false⟩ (fF.2 (.inl ⟨rfl,rfl,rfl⟩)) hs;have hp:=P.part x hx;have:¬∀m q,(m,q)∈x.2.pO party ⟨s.rs x.1,true⟩->bY x.2 party q:=λe=>hn x hx (.own rfl e);obtain⟨m,e⟩:=Classical.not_forall.1 this;obtain⟨q,e⟩:=Classical.not_forall.1 e;obtain⟨hm,hq⟩:=Classical.not_imp.1 e;rcases fF.1 hm with⟨_,_,rfl⟩|⟨_,h1,_⟩|⟨i,h1,_,h2,h3,rfl⟩
  .exact hq hd
  .cases h1
  .rw[hp.acts]at h1
   have h2:s.day<C.days:=by rw[hp.days]at h2;exact h2
   have hmv:C.JE party ⟨s,true⟩ i:=⟨by have:=h3.1;rw[xL hp]at this;exact this,λe=>h3.2 (by show x.2.aZ (s.rs x.1) i=s.rs x.1;rw[jC hp hs.lm];exact congrArg (aH.rs x.1) e)⟩;obtain⟨y,hy,hdy⟩:=ih i ⟨C.aZ s i,true⟩ (fF.2 (.inr (.inr ⟨i,h1,rfl,h2,hmv,rfl⟩))) (step_ok (t:=i) hs h2);change bY y.2 party ⟨(C.aZ s i).rs y.1,true⟩at hdy;rw[<-jC (P.part y hy) hs.lm]at hdy;by_cases e:y=x
   .subst e
    exact hq hdy
   .rw[P.other hs hx hy e h1 h3.2]at hdy
    exact hn y hy hdy
 |@vS p m q ho hm _ ih=>
  intro hs;obtain⟨s,o⟩:=p;subst ho;rcases fF.1 hm with⟨_,h1,_⟩|⟨rfl,_,h2,rfl⟩|⟨i,h1,rfl,h2,h3,rfl⟩
  .cases h1
  .have h2:s.day<C.days:=h2
   obtain⟨x,hx,hd⟩:=ih (step_ok (t:= -1) hs h2);have hp:=P.part x hx;rw[<-jC hp hs.lm]at hd;exact⟨x,hx,.vS rfl (fF.2 (.inr (.inl ⟨rfl,rfl,by rw[hp.days];exact h2,rfl⟩))) hd⟩
  .have h2:s.day<C.days:=h2
   obtain⟨x,hx,hd⟩:=ih (step_ok (t:=i) hs h2);have hp:=P.part x hx;rw[<-jC hp hs.lm]at hd;refine⟨x,hx,?_⟩;by_cases e:x.2.aZ (s.rs x.1) i=s.rs x.1
   .simp only[e]at hd
    cases hd with
    |lost hf=>exact .lost hf
    |own _ hall=>exact hall (-2) _ (fF.2 (.inl ⟨rfl,rfl,rfl⟩))
    |vS h=>cases h
   .exact .vS rfl (fF.2 (.inr (.inr ⟨i,by rw[hp.acts];exact h1,rfl,by rw[hp.days];exact h2,⟨by rw[xL hp];exact h3.1,e⟩,rfl⟩))) hd
def au.mu(m:au):Nat:=if m.status=0 then 30 else if m.runs=true then 20 - m.got.toNat else 0
def uN:List au->Nat
 |[]=>0
 |m::l=>m.mu+uN l
theorem Ed:∀{l l':List au},l'.length=l.length->(∀(i:Nat)(m m':au),l[i]?=some m->l'[i]?=some m'->m'=m\/m'.mu<m.mu)->uN l'<=uN l/\(l'≠l->uN l'<uN l)
 |[],[],_,_=>⟨Nat.le_refl _,λh=>absurd rfl h⟩
 |m::l,m'::l',hl,h=>by
  have hl:l'.length=l.length:=by simpa using hl
  obtain⟨h1,h2⟩:=Ed hl λi a b ha hb=>h (i+1) a b (by simpa using ha) (by simpa using hb);have h3:=h 0 m m' rfl rfl;simp only[uN];by_cases e:l'=l
  .subst e
   rcases h3 with rfl|h3
   .exact⟨Nat.le_refl _,λh=>absurd rfl h⟩
   .exact⟨by omega,λ_=>by omega⟩
  .have:=h2 e
   rcases h3 with rfl|h3
   .exact⟨by omega,λ_=>by omega⟩
   .exact⟨by omega,λ_=>by omega⟩
theorem Vy(h:aM C s){i:Nat}{a:dh}(ha:C.acts[i]?=some a)(hk:a.kind=1)(hr:a.role≠ -1):C.act i a s≠s->uN (C.act i a s).marks<uN s.marks:=by
 have hC:=aA.ok h.con;have h1:C.paused i s.marks=s.marks:=yY (iQ C i s.marks) λj m hm hrn=>by
  unfold je;cases hkc:C.clauses[j]? with
  |none=>rfl
  |some k=>
   have nat:C.natural i=true->False:=λe=>by
    unfold aA.natural aA.DF at e;rw[if_pos (by omega),Int.toNat_natCast,ha]at e;simp at e;exact hr e.2
   have hp:=(hC.clause hkc).pause;have e2:((i:Int)==k.pause)=false:=by
    have:(i:Int)≠k.pause:=λe=>nat (by rw[e];exact(hp (.inl (by omega))).2.1);simpa using this
   have e3:((i:Int)==k.resume)=false:=by
    have:(i:Int)≠k.resume:=λe=>nat (by rw[e];exact(hp (.inr (by omega))).2.2);simpa using this
   simp only[e2,e3,cond_false]
 have q:(a.kind !=1)=false:=by simpa using hk
 unfold aA.act;simp only[q,Bool.false_and,cond_false,h1];intro hne;have hl:(C.begin s.ah (C.nW i (bH s.ah a) s.marks)).length=s.marks.length:=by rw[gP,vO]
 refine(Ed hl λj m m' hm hm'=>?_).2 λe=>hne (by rw[e]);obtain⟨m1,g1,g2⟩:=(sN C s.ah _).2 j m' hm';have g3:=jH C i (bH s.ah a) s.marks j;rw[g1,hm,Option.map_some,Option.some.injEq]at g3;have hj:j<C.clauses.length:=by rw[<-h.lm];exact(List.getElem?_eq_some_iff.1 hm).1
 have hkc:C.clauses[j]?=some C.clauses[j]:=List.getElem?_eq_getElem hj;generalize C.clauses[j]=k at hkc;have hmk:=h.marks j m k hm hkc;have amm:=hmk.got (hC.clause hkc);cases hrn:m.runs with
 |false=>
  rw[hrn,cond_false]at g3;subst g3;rcases g2 with rfl|⟨g2,_,k',_,rfl⟩
  .exact .inl rfl
  .right
   simp[au.mu,mh,au.runs,g2]
 |true=>
  rw[hrn,cond_true]at g3;have amn:=(jf m).1 hrn;have hmu:m.mu=20 - m.got.toNat:=by unfold au.mu;rw[if_neg (by omega),if_pos hrn]
  have ended:∀(x:au)(st:Int),st=3\/st=4\/st=5->(x.ended st).mu=0/\(x.ended st).status≠0:=λx st hst=>by
   have h0:(x.ended st).status=st:=rfl;have h2:(x.ended st).runs=false:=yX (by rw[h0];exact hst);refine⟨?_,by rw[h0];omega⟩;unfold au.mu;rw[h0,if_neg (by omega),h2];rfl
  have key:(m1=m\/m1.mu<m.mu)/\m1.status≠0:=by
   subst g3;unfold pz;rw[hkc];dsimp only;cases ((k.act==(i:Int))&&((k.kind==4)||(m.aO==bH s.ah a)))with
   |false=>exact⟨.inl rfl,by simp only[cond_false];omega⟩
   |true=>
    simp only[cond_true,au.hit];cases (k.kind==1)with
    |true=>
     simp only[cond_true,au.performed];cases (m.got+1==k.need)with
     |true=>
      have:=ended ⟨m.status,m.left,m.got+1,m.aO,m.paused⟩ 3 (.inl rfl);simp only[cond_true];exact⟨.inr (by rw[this.1,hmu];omega),this.2⟩
     |false=>
      simp only[cond_false];refine⟨.inr ?_,by show m.status≠0;omega⟩;have:au.mu ⟨m.status,m.left,m.got+1,m.aO,m.paused⟩=20 - (m.got+1).toNat:=by
       unfold au.mu;rw[if_neg (by show¬m.status=0;omega),if_pos (by exact hrn)]
      rw[this,hmu];omega
    |false=>
     simp only[cond_false];cases (k.kind==2)with
     |true=>
      simp only[cond_true,au.violated];cases m.paused with
      |true=>exact⟨.inl rfl,by simp only[cond_true];omega⟩
      |false=>
       have:=ended m 4 (.inr (.inl rfl));exact⟨.inr (by simp only[cond_false];rw[this.1,hmu];omega),this.2⟩
     |false=>
      have:=ended m 3 (.inl rfl);exact⟨.inr (by simp only[cond_false];rw[this.1,hmu];omega),this.2⟩
  rcases g2 with rfl|⟨g2,_⟩
  .exact key.1
  .exact absurd g2 key.2
theorem Parts.QN(P:Parts C ps){party:Int}(hp0:0<=party){x:List Nat×aA}(hx:x∈ps){q:aP}(h:bY x.2 party q):∀s:aH,aM C s->q.st=s.rs x.1->bY C party ⟨s,q.own⟩:=by
 have hp:=P.part x hx;induction h with
 |lost hf=>intro s hs e;rw[e]at hf;exact .lost (J8 hp hs.lm hf)
 |@own q ho _ ih=>
  obtain⟨r,o⟩:=q;subst ho;intro s;generalize hn:uN s.marks=n;induction n using Nat.strongRecOn generalizing s with
  |_ n ihn=>
   intro hs e;dsimp only at e;subst e;refine .own rfl λm q' hm=>?_;rcases fF.1 hm with⟨_,_,rfl⟩|⟨_,h1,_⟩|⟨i,h1,_,h2,h3,rfl⟩
   .exact ih (-2) ⟨s.rs x.1,false⟩ (fF.2 (.inl ⟨rfl,rfl,rfl⟩)) s hs rfl
   .cases h1
   .have h2:s.day<C.days:=h2
    have hs2:=step_ok (t:=i) hs h2;by_cases ec:x.2.aZ (s.rs x.1) i=s.rs x.1
    .have Wz:(C.aZ s i).rs x.1=s.rs x.1:=by rw[<-jC hp hs.lm];exact ec
     obtain⟨a,ha⟩:∃a,C.acts[i]?=some a:=⟨_,List.getElem?_eq_getElem h1⟩;have hd:bH s.ah a=party:=by
      have:=h3.1.2 rfl;unfold aA.doer at this;rw[Int.toNat_natCast,ha]at this;exact this
     have Z0:a.role≠ -1:=λe=>by unfold bH at hd;rw[e]at hd;simp at hd;omega
     have hne:=h3.2;rw[show aP.st ⟨s,_⟩=s from rfl,sO ha]at hne⊢;rw[sO ha]at Wz hs2;by_cases hdo:∀a∈C.acts,a.kind=1
     .have:=Vy hs ha (hdo a (List.mem_of_getElem? ha)) Z0 hne
      exact ihn _ (by omega) _ rfl hs2 Wz.symm
     .exfalso
      apply hne;have eq:∀y∈ps,y=x:=λy hy=>Classical.byContradiction λe=>hdo (P.apart y hy x hx e).1;generalize C.act i a s=s' at Wz hs2;have l1:=hs.lm;have l2:=hs2.lm;obtain⟨d,ho,us,ms⟩:=s;obtain⟨d',ho',us',ms'⟩:=s';unfold aH.rs at Wz;simp only[aH.mk.injEq]at Wz l1 l2⊢;obtain⟨e1,e2,e3,e4⟩:=Wz;refine⟨e1,e2,e3,List.ext_getElem? λj=>?_⟩;by_cases hj:j<C.clauses.length
      .obtain⟨y,hy,hjy⟩:=P.cover j hj
       rw[eq y hy]at hjy;have l1:ms.length=C.clauses.length:=l1;have l2:ms'.length=C.clauses.length:=l2;obtain⟨n,hn⟩:=List.getElem?_of_mem hjy;rw[<-ko (ms:=ms) (λi hi=>by rw[l1];exact hp.lt hi) hn,<-ko (ms:=ms') (λi hi=>by rw[l2];exact hp.lt hi) hn,e4]
      .rw[List.getElem?_eq_none (by omega),List.getElem?_eq_none (by omega)]
    .exact ih i ⟨x.2.aZ (s.rs x.1) i,true⟩ (fF.2 (.inr (.inr ⟨i,by rw[hp.acts];exact h1,rfl,by rw[hp.days];exact h2,⟨by rw[xL hp];exact h3.1,ec⟩,rfl⟩))) _ hs2 (jC hp hs.lm i)
 |@vS q m q' ho hm _ ih=>
  obtain⟨r,o⟩:=q;subst ho;intro s hs e;dsimp only at e;subst e;rcases fF.1 hm with⟨_,h1,_⟩|⟨rfl,_,h2,rfl⟩|⟨i,h1,rfl,h2,h3,rfl⟩
  .cases h1
  .have h2:s.day<C.days:=by rw[hp.days]at h2;exact h2
   exact .vS rfl (fF.2 (.inr (.inl ⟨rfl,rfl,h2,rfl⟩))) (ih _ (step_ok (t:= -1) hs h2) (jC hp hs.lm (-1)))
  .have h2:s.day<C.days:=by rw[hp.days]at h2;exact h2
   have h1:i<C.acts.length:=by rw[hp.acts]at h1;exact h1
   refine .vS rfl (fF.2 (.inr (.inr ⟨i,h1,rfl,h2,⟨by have:=h3.1;rw[xL hp]at this;exact this,λe=>h3.2 ?_⟩,rfl⟩))) (ih _ (step_ok (t:=i) hs h2) (jC hp hs.lm i));show x.2.aZ (s.rs x.1) i=s.rs x.1;rw[jC hp hs.lm];exact congrArg (aH.rs x.1) e
theorem Parts.NS(P:Parts C ps){party:Int}(hp0:0<=party)(hs:aM C s)(o:Bool):bY C party ⟨s,o⟩↔∃x∈ps,bY x.2 party ⟨s.rs x.1,o⟩:=
 ⟨λh=>P.Vx h hs,λ⟨_,hx,h⟩=>P.QN hp0 hx h s hs rfl⟩
end
end
end
section
noncomputable section
open Classical
structure jo(u r:Nat->Nat):Prop where
 le:∀i,u i<=i
 fix:∀i,u i=i->r i=i
 step:∀i,r (u i)=r i
def Gq(u:Nat->Nat)(i v:Nat):Nat->Nat:=λj=>if j=i then v else u j
section
variable {u r:Nat->Nat}
theorem jo.root(h:jo u r)(i:Nat):u (r i)=r i/\r i<=i:=by
 induction i using Nat.strongRecOn with
 |_ i ih=>
  by_cases e:u i=i
  .rw[h.fix i e];exact⟨e,Nat.le_refl _⟩
  .have:=h.le i
   obtain⟨h1,h2⟩:=ih (u i) (by omega);rw[h.step]at h1 h2;exact⟨h1,by omega⟩
theorem jo.idem(h:jo u r)(i:Nat):r (r i)=r i:=h.fix _ (h.root i).1
theorem jo.Z4(h:jo u r)(i:Nat):jo (Gq u i (r i)) r:=by
 refine⟨λj=>?_,λj=>?_,λj=>?_⟩<;>unfold Gq<;>by_cases e:j=i
 .rw[if_pos e,e];exact(h.root i).2
 .rw[if_neg e];exact h.le j
 .rw[if_pos e,e];exact id
 .rw[if_neg e];exact h.fix j
 .rw[if_pos e,e];exact h.idem i
 .rw[if_neg e];exact h.step j
theorem jo.join(h:jo u r){a b:Nat}(ha:r a=a)(hb:r b=b)(hab:a<=b):jo (Gq u b a) (λx=>if r x=b then a else r x):=by
 refine⟨λj=>?_,λj=>?_,λj=>?_⟩<;>unfold Gq<;>by_cases e:j=b
 .rw[if_pos e];omega
 .rw[if_neg e];exact h.le j
 .rw[if_pos e,e];intro hh;rw[if_pos hb];exact hh
 .rw[if_neg e];intro hh;rw[h.fix j hh,if_neg e]
 .rw[if_pos e,e,ha,if_pos hb];split<;>rfl
 .rw[if_neg e,h.step]
def KR(r r':Nat->Nat):Prop:=∀x y,r x=r y->r' x=r' y
theorem KR.refl(r:Nat->Nat):KR r r:=λ_ _ h=>h
theorem KR.trans{r r' r'':Nat->Nat}(a:KR r r')(b:KR r' r''):KR r r'':=λx y h=>b x y (a x y h)
theorem KR.join(r:Nat->Nat)(a b:Nat):KR r (λx=>if r x=b then a else r x):=λx y h=>by dsimp only;rw[h]
structure vY(r:Nat->Nat)(k:Nat)(m:Nat->Option Nat)(P:List (List Nat)):Prop where
 at_:∀i,i<k->r i=i->∃p:Nat,m i=some p/\P[p]?=some ((List.range k).filter λj=>decide (r j=i))
 of:∀(p:Nat)(l:List Nat),P[p]?=some l->∃i,i<k/\r i=i/\m i=some p/\l=(List.range k).filter λj=>decide (r j=i)
theorem vY.nil(r:Nat->Nat)(m:Nat->Option Nat):vY r 0 m []:=⟨λi h=>absurd h (Nat.not_lt_zero i),λp l h=>by simp at h⟩
theorem iU(r:Nat->Nat)(k i:Nat):(List.range (k+1)).filter (λj=>decide (r j=i))=(List.range k).filter (λj=>decide (r j=i))++if r k=i then[k]else[]:=by
 rw[List.range_succ,List.filter_append];congr 1;by_cases e:r k=i<;>simp[e]
theorem vY.old(h:jo u r){k:Nat}{m:Nat->Option Nat}{P:List (List Nat)}(g:vY r k m P)(hk:r k≠k):∃(p:Nat)(l:List Nat),m (r k)=some p/\P[p]?=some l/\vY r (k+1) m (P.set p (l++[k])):=by
 have hr:=h.root k;obtain⟨p,h1,h2⟩:=g.at_ (r k) (by omega) (h.idem k);have hp:=(List.getElem?_eq_some_iff.1 h2).1;refine⟨p,_,h1,h2,λi hi Z5=>?_,λq l hq=>?_⟩
 .have hik:i<k:=by
   by_cases e:i=k
   .subst e;exact absurd Z5 hk
   .omega
  obtain⟨q,h3,h4⟩:=g.at_ i hik Z5;refine⟨q,h3,?_⟩;rw[List.getElem?_set,iU];by_cases e:r k=i
  .rw[<-e,h1]at h3
   cases h3
   rw[if_pos rfl,if_pos hp,if_pos e,e]
  .have hqp:p≠q:=λe2=>by
    subst e2;rw[h2]at h4;have h5:r k∈(List.range k).filter λj=>decide (r j=r k):=by simp[h.idem k];omega
    rw[Option.some.inj h4]at h5;have:=(List.mem_filter.1 h5).2;simp[h.idem k]at this;exact e this
   rw[if_neg hqp,if_neg e,List.append_nil];exact h4
 .rw[List.getElem?_set]at hq
  by_cases e:p=q
  .subst e
   rw[if_pos rfl,if_pos hp]at hq;cases hq
   refine⟨r k,by omega,h.idem k,h1,?_⟩;rw[iU,if_pos rfl]
  .rw[if_neg e]at hq
   obtain⟨i,h3,h4,h5,h6⟩:=g.of q l hq;refine⟨i,by omega,h4,h5,?_⟩;rw[iU,h6];by_cases e2:r k=i
   .subst e2
    rw[h1]at h5;cases h5
    exact absurd rfl e
   .rw[if_neg e2,List.append_nil]
theorem vY.new(h:jo u r){k:Nat}{m:Nat->Option Nat}{P:List (List Nat)}(g:vY r k m P)(hk:r k=k):vY r (k+1) (λi=>if i=k then some P.length else m i) ((P++[[]]).set P.length ([]++[k])):=by
 have hs:(P++[[]]).set P.length ([]++[k])=P++[[k]]:=by simp
 rw[hs];have lt:∀j,j<k->r j≠k:=λj hj e=>by have:=(h.root j).2;omega
 have hz:(List.range k).filter (λj=>decide (r j=k))=[]:=by
  rw[List.filter_eq_nil_iff];intro j hj;simpa using lt j (List.mem_range.1 hj)
 refine⟨λi hi Z5=>?_,λq l hq=>?_⟩
 .by_cases e:i=k
  .subst e
   refine⟨P.length,if_pos rfl,?_⟩;rw[List.getElem?_append_right (Nat.le_refl _),Nat.sub_self,iU,if_pos hk,hz];rfl
  .obtain⟨p,h1,h2⟩:=g.at_ i (by omega) Z5
   refine⟨p,by rw[if_neg e];exact h1,?_⟩;rw[List.getElem?_append_left (List.getElem?_eq_some_iff.1 h2).1,h2,iU,if_neg (by omega),List.append_nil]
 .by_cases hq2:q<P.length
  .rw[List.getElem?_append_left hq2]at hq
   obtain⟨i,h3,h4,h5,h6⟩:=g.of q l hq;refine⟨i,by omega,h4,by rw[if_neg (by omega)];exact h5,?_⟩;rw[iU,h6,if_neg (by omega),List.append_nil]
  .have hq3:=(List.getElem?_eq_some_iff.1 hq).1
   simp at hq3;obtain rfl:q=P.length:=by omega
   rw[List.getElem?_append_right (Nat.le_refl _),Nat.sub_self]at hq;cases hq
   refine⟨k,by omega,hk,if_pos rfl,?_⟩;rw[iU,if_pos hk,hz];rfl
end
def aF.nums(k:aF):List Int:=if k.pause= -1 then[k.act]else[k.act,k.pause,k.resume]
structure vZ(C:aA)(P:List (List Nat)):Prop where
 af2:P.length<=C.clauses.length
 len:∀l∈P,l.length<=C.clauses.length
 lt:∀l∈P,∀i∈l,i<C.clauses.length
 cover:∀i,i<C.clauses.length->∃l∈P,i∈l
 apart:∀l∈P,∀l'∈P,l≠l'->(∀a∈C.acts,a.kind=1)/\∀i∈l,∀j∈l',∀k k':aF,C.clauses[i]?=some k->C.clauses[j]?=some k'->∀t∈k.nums,t∉k'.nums
theorem vZ.of{C:aA}{u r:Nat->Nat}{m:Nat->Option Nat}{P:List (List Nat)}(hP:P.length<=C.clauses.length)(h:jo u r)(g:vY r C.clauses.length m P)
 (h1:(∃a∈C.acts,a.kind≠1)->∀i,i<C.clauses.length->r i=r 0)
 (h2:∀(i j:Nat)(k k':aF),C.clauses[i]?=some k->C.clauses[j]?=some k'->∀t∈k.nums,t∈k'.nums->r i=r j):vZ C P:=by
 refine⟨hP,λl hl=>?_,λl hl i hi=>?_,λi hi=>?_,λl hl l' hl' hne=>?_⟩
 .obtain⟨p,hp⟩:=List.getElem?_of_mem hl
  obtain⟨q,_,_,_,rfl⟩:=g.of p l hp;have:=List.length_filter_le (λj=>decide (r j=q)) (List.range C.clauses.length);rw[List.length_range]at this;exact this
 .obtain⟨p,hp⟩:=List.getElem?_of_mem hl
  obtain⟨q,_,_,_,rfl⟩:=g.of p l hp;exact List.mem_range.1 (List.mem_filter.1 hi).1
 .have hr:=h.root i
  obtain⟨p,h3,h4⟩:=g.at_ (r i) (by omega) (h.idem i);exact⟨_,List.mem_of_getElem? h4,List.mem_filter.2 ⟨List.mem_range.2 hi,by simp⟩⟩
 .obtain⟨p,hp⟩:=List.getElem?_of_mem hl
  obtain⟨p',hp'⟩:=List.getElem?_of_mem hl';obtain⟨q,q1,q2,_,rfl⟩:=g.of p l hp;obtain⟨q',q1',q2',_,rfl⟩:=g.of p' l' hp';have hqq:q≠q':=λe=>hne (by rw[e]);refine⟨λa ha=>Classical.byContradiction λe=>hqq ?_,λi hi j hj k k' hk hk' t ht ht'=>hqq ?_⟩
  .have e1:=h1 ⟨a,ha,e⟩ q q1
   have e2:=h1 ⟨a,ha,e⟩ q' q1';omega
  .have e1:r i=q:=by simpa using(List.mem_filter.1 hi).2
   have e2:r j=q':=by simpa using(List.mem_filter.1 hj).2
   rw[<-e1,<-e2];exact h2 i j k k' hk hk' t ht ht'
def sP(C:aA)(cl:List Nat)(i:Nat):aF:=match C.clauses[i]? with
 |some k=>k.onto (k.start.map λc=>⟨(cl.idxOf c.clause.toNat:Nat),c.is⟩)
 |none=>⟨0,0,0,0,[],0,0,false,false,0,0,⟨0,0⟩,0,0,false⟩
def aA.part(C:aA)(cl:List Nat):aA:=⟨C.aC,C.ah,C.units,C.acts,cl.map (sP C cl),C.days,C.off⟩
theorem QO{C:aA}{cl:List Nat}:(C.part cl).clauses.length=cl.length/\∀(j i:Nat)(k:aF),cl[j]?=some i->C.clauses[i]?=some k->(C.part cl).clauses[j]?=some (k.onto (k.start.map λc=>⟨(cl.idxOf c.clause.toNat:Nat),c.is⟩)):=by
 refine⟨by simp[aA.part],λj i k hj hk=>?_⟩;show(cl.map (sP C cl))[j]?=_;rw[List.getElem?_map,hj,Option.map_some,sP,hk]
theorem eO.of{C:aA}{cl:List Nat}(hl:∀i∈cl,i<C.clauses.length)(hc:∀i∈cl,∀k:aF,C.clauses[i]?=some k->∀c∈k.start,0<=c.clause/\c.clause.toNat∈cl):eO C (C.part cl) cl:=by
 obtain⟨h1,h2⟩:=QO (C:=C) (cl:=cl);refine⟨rfl,rfl,rfl,rfl,rfl,h1,λj i hj=>?_⟩;have hi:=List.mem_of_getElem? hj;have hk:C.clauses[i]?=some (C.clauses[i]'(hl i hi)):=List.getElem?_eq_getElem (hl i hi);refine⟨_,_,hk,h2 j i _ hj hk,by simp,λn c c' hn hn'=>?_⟩;rw[List.getElem?_map,hn]at hn';cases hn'
 obtain⟨g1,g2⟩:=hc i hi _ hk c (List.mem_of_getElem? hn);exact⟨rfl,g1,_,rfl,by rw[List.getElem?_eq_getElem (List.idxOf_lt_length_of_mem g2),List.getElem_idxOf]⟩
theorem Parts.of{C:aA}{P:List (List Nat)}(hv:C.valid=true)(h:vZ C P)(hp:∀l∈P,eO C (C.part l) l/\(C.part l).valid=true):Parts C (P.map λl=>(l,C.part l)):=by
 have mem:∀x∈P.map λl=>(l,C.part l),x.1∈P/\x.2=C.part x.1:=λx hx=>by
  obtain⟨l,hl,rfl⟩:=List.mem_map.1 hx;exact⟨hl,rfl⟩
 refine⟨λx hx=>?_,λx hx=>?_,λi hi=>?_,λx hx y hy hne=>?_⟩
 .obtain⟨h1,h2⟩:=mem x hx;rw[h2];exact(hp _ h1).1
 .obtain⟨h1,h2⟩:=mem x hx;rw[h2];exact(hp _ h1).2
 .obtain⟨l,hl,h1⟩:=h.cover i hi
  exact⟨_,List.mem_map.2 ⟨l,hl,rfl⟩,h1⟩
 .obtain⟨h1,h2⟩:=mem x hx
  obtain⟨h3,h4⟩:=mem y hy;have hxy:x.1≠y.1:=λe=>hne (by obtain⟨a,b⟩:=x;obtain⟨c,d⟩:=y;dsimp only at e h2 h4;subst e;rw[h2,h4]);obtain⟨g1,g2⟩:=h.apart _ h1 _ h3 hxy;refine⟨g1,λi hi j hj k k' hk hk' t ht ht'=>?_⟩;have hC:=aA.ok hv;have nm:∀(i:Nat)(k:aF),C.clauses[i]?=some k->k.names t->(t:Int)∈k.nums:=λi k hk hn=>by
   unfold aF.nums;have hp:=(hC.clause hk).pause;by_cases e:k.pause= -1
   .rw[if_pos e]
    rcases hn with hn|hn|hn
    .simp[hn]
    .omega
    .have hn1:=(hp (.inr (by omega))).2.1
     rw[e]at hn1;simp[aA.natural,aA.DF]at hn1
   .rw[if_neg e]
    rcases hn with hn|hn|hn<;>simp[hn]
  exact g2 i hi j hj k k' hk hk' t (nm i k hk ht) (nm j k' hk' ht')
theorem Gs{C:aA}{P:List (List Nat)}(h:vZ C P){party:Int}(hp0:0<=party){p:aP}(hs:aM C p.st)(hp:∀l∈P,eO C (C.part l) l/\(C.part l).valid=true):(∀l∈P,¬bY (C.part l) party ⟨p.st.rs l,p.own⟩)↔¬bY C party p:=by
 have:=(Parts.of hs.con h hp).NS hp0 hs p.own;constructor
 .intro h1 h2
  obtain⟨x,hx,hd⟩:=this.1 h2;obtain⟨l,hl,rfl⟩:=List.mem_map.1 hx;exact h1 l hl hd
 .exactλh1 l hl hd=>h1 (this.2 ⟨_,List.mem_map.2 ⟨l,hl,rfl⟩,hd⟩)
end
end
section
noncomputable section
@[go_sem] theorem aiT {k j:IntKind} {a b:Int}:XG (some (.i k a)) (some (.i j b))=some (.i k (if a<=b then a else b)):=by
 show some (AV.i k (bc (kY a b) a b))=_;rw[eP];by_cases h:a<=b<;>simp[h,bc]
@[go_sem] theorem aiU {k j:IntKind} {a b:Int}:XF (some (.i k a)) (some (.i j b))=some (.i k (if b<=a then a else b)):=by
 show some (AV.i k (bc (kY b a) a b))=_;rw[eP];by_cases h:b<=a<;>simp[h,bc]
section
variable {h h':AH} {n n':Nat} {v:CS} {C:aA} {tv:TS} {s:aH} {party:Int} {Q:AV->AH->Nat->Prop}
theorem NT(K:Nat)(a:dh)(hQ:∀h' n',Up h n h' n'->Q (.b (!decide (a.kind=1))) h' n'):CW (EF (K+1)) 226 [.agg a.av] h n Q:=by
 refine aD c226 rfl ?_;repeat' (first|(simp (disch:=omega) only[go_sem,simprocAttr,ZX,dh.av])|(refine aT ?_ ?_<;>(intro hb hd;rw[hb];clear hb))|(with_reducible refine aj ?_))
 exact hQ _ _ aI
theorem QS(K:Nat){x:AV}{l:List dh}(hx:SL h n 7 x dh.av l)(hl:l.length<=1000000)(hQ:∀(r:Int) h' n',(0<=r↔∃a∈l,a.kind≠1)->Up h n h' n'->Q (.i .i64 r) h' n'):CW (EF (K+2)) 262 [x,.f 226 []] h n Q:=by
 refine aD af0 rfl ?_;repeat' (first|(simp (disch:=omega) only[go_sem,simprocAttr,ZY,hx.len])|(refine aT ?_ ?_<;>(intro hb hd;rw[hb];clear hb))|(with_reducible refine aj ?_))
 refine gI l.length (λk=>∀(j:Nat)(a:dh),j<k->l[j]?=some a->a.kind=1) h n (λ_=>[(0,x),(1,.f 226 [])]) (by omega) (by omega) (by omega) (by omega) (λk=>⟨rfl,rfl⟩) rfl rfl (by(repeat' (first|exact aR|refine aN rfl ?_))) (Up.refl _ _) (λj a hj=>absurd hj (by omega)) ?_ ?_
 .intro k h3 n3 hk hno u
  obtain⟨b1,o1,a,i1,ha,hb1,rd⟩:=(hx.up u).gD (k:=(k:Nat)) (by omega) (by omega) (by omega);rw[show((k:Nat):Int).toNat=k by omega]at ha;simp (disch:=omega) only[go_sem,simprocAttr,aK i1,rd.all];rw[aU];refine NT K a λh4 n4 u4=>?_;by_cases hd:a.kind=1
  .rw[decide_eq_true hd]
   simp (disch:=omega) only[go_sem,simprocAttr];refine iB rfl rfl (λj a' hj ha'=>?_) aI (by(repeat' (first|exact aR|refine aN rfl ?_)));by_cases e:j=k
   .subst e;rw[ha]at ha';cases ha';exact hd
   .exact hno j a' (by omega) ha'
  .rw[decide_eq_false hd]
   simp (disch:=omega) only[go_sem,simprocAttr];exact hQ _ _ _ ⟨λ_=>⟨a,List.mem_of_getElem? ha,hd⟩,λ_=>Int.natCast_nonneg _⟩ aI
 .intro h3 n3 hno u
  simp (disch:=omega) only[go_sem,simprocAttr];refine hQ _ _ _ ⟨λe=>by omega,λ⟨a,ha,hk⟩=>?_⟩ u;obtain⟨j,hj⟩:=List.getElem?_of_mem ha;exact absurd (hno j a (List.getElem?_eq_some_iff.1 hj).1 hj) hk
theorem QT(K:Nat){x:AV}{l:List dh}(hx:SL h n 7 x dh.av l)(hl:l.length<=1000000)(hQ:∀b h' n',(b=true↔∃a∈l,a.kind≠1)->Up h n h' n'->Q (.b b) h' n'):CW (EF (K+3)) 225 [x,.f 226 []] h n Q:=by
 refine aD afZ rfl ?_;simp (disch:=omega) only[go_sem,simprocAttr,ZW];rw[aU];refine QS K hx hl λr h2 n2 hr u=>?_;simp (disch:=omega) only[go_sem,simprocAttr];exact hQ _ _ _ (by rw[decide_eq_true_iff];exact hr) u
theorem Gt(K:Nat)(k:aF)(t:AV)(hQ:∀v' h' n',Up h n h' n'->SL h' n' 1 v' kD k.nums->(∀x,blk v' x->n<=x)->Q v' h' n'):CW (EF (K+1)) 227 [.agg (k.av t)] h n Q:=by
 refine aD c227 rfl ?_;by_cases hp:k.pause= -1
 .have hd:decide (k.pause= -1)=true:=decide_eq_true hp
  repeat' (first|(simp (disch:=omega) only[go_sem,simprocAttr,Vv,aF.av,hd])|(refine aT ?_ ?_<;>(intro hb hd;rw[hb];clear hb))|(with_reducible refine aj ?_))
  refine hQ _ _ _ aI (SL.of (λ_=>rfl) (by omega) aG ?_ ?_ λ_ e=>by cases e;omega) (λx hx=>by rw[d_]at hx;omega)
  .unfold aF.nums;rw[if_pos hp];rfl
  .unfold aF.nums;rw[if_pos hp];rfl
 .have hd:decide (k.pause= -1)=false:=decide_eq_false hp
  repeat' (first|(simp (disch:=omega) only[go_sem,simprocAttr,Vv,aF.av,hd])|(refine aT ?_ ?_<;>(intro hb hd;rw[hb];clear hb))|(with_reducible refine aj ?_))
  refine hQ _ _ _ aI (SL.of (λ_=>rfl) (by omega) aG ?_ ?_ λ_ e=>by cases e;omega) (λx hx=>by rw[d_]at hx;omega)
  .unfold aF.nums;rw[if_neg hp];rfl
  .unfold aF.nums;rw[if_neg hp];rfl
theorem J_(K:Nat)(hC:aY h n v C)(ho:C.off.length<=1000000)(hS:bX h n tv s)(so:aM C s)(h0:0<=party)(h1:party<C.aC)(hQ:∀h' n',Up h n h' n'->Q (.b (anyFailed C s party)) h' n'):CW (EF (K+8)) 19 [.agg (v.av C),.agg (tv.av s),.i .i64 party] h n Q:=by
 have ok:=aA.ok so.con;have:=so.lm;have:=ok.dL;refine aD c19 rfl ?_;have d0:decide (party<0)=false:=decide_eq_false (by omega);have d1:decide (C.aC<=party)=false:=decide_eq_false (by omega);simp (disch:=omega) only[go_sem,simprocAttr,m19,CS.av,TS.av,d0,d1];rw[aU];refine gQ K (hC.up aI) ho (hS.up aI) λhx nx ux=>?_;have e1:=ux.le;have gx:hx.get n=some (.row 27 (v.av C)):=by rw[ux.old _ (by omega)];simp (disch:=omega) only[go_sem]
 have gy:hx.get (n+1)=some (.row 43 (tv.av s)):=by rw[ux.old _ (by omega)];simp (disch:=omega) only[go_sem]
 have u0:Up h n hx nx:=by exact aI
 clear ux;rw[(dP C s).2 so];simp (disch:=omega) only[go_sem,simprocAttr,gy,TS.av,hS.marks.len];refine b_ s.marks.length (λk h3 n3 G=>(List.range k).any (iT C s party)=false/\Up h n h3 n3/\n+2<=n3/\h3.get n=some (.row 27 (v.av C))/\G=[(2,.i .i64 party),(3,.p n 0),(24,tv.m)]) (by omega) (by omega) (by omega) (by omega) (λk h8 n8 G ⟨_,_,_,_,e⟩=>by subst e;exact⟨rfl,rfl⟩) ⟨rfl,rfl,_,⟨rfl,u0,e1,gx,rfl⟩,by(repeat' (first|exact aR|refine aN rfl ?_))⟩ ?_ ?_
 .rintro k h3 n3 G hk ⟨hno,u3,l3,r3,rfl⟩
  obtain⟨b1,o1,a,i1,ha,hb1,rd⟩:=(hS.marks.up u3).gD (k:=(k:Nat)) (by omega) (by omega) (by omega);rw[show((k:Nat):Int).toNat=k by omega]at ha;repeat' (first|(simp (disch:=omega) only[go_sem,simprocAttr,aK i1,rd.el,rd.hd,rd.all,r3,CS.av])|(refine aT ?_ ?_<;>(intro hb hd;rw[hb];clear hb))|(with_reducible refine aj ?_))
  refine nH (hC.up u3) (by omega) (by omega) λb2 o2 kc t hkc hb2 _ gu=>?_;rw[show((k:Nat):Int).toNat=k by omega]at hkc;have hfa:iT C s party k=iA kc a party:=by unfold iT;rw[ha,hkc]
  have RB:iT C s party k=false->(List.range (k+1)).any (iT C s party)=false:=λe=>by
   rw[List.range_succ,List.any_append,hno];simp[e]
  have hit:iT C s party k=true->anyFailed C s party=true:=λe=>by
   rw[jB,List.any_eq_true];exact⟨k,List.mem_range.2 hk,e⟩
  repeat' (first|(simp (disch:=omega) only[go_sem,simprocAttr,gu.el,gu.hd])|(refine aT ?_ ?_<;>(intro hb hd;rw[hb];clear hb))|(with_reducible refine aj ?_))
  .have e:=hit (by rw[hfa];unfold iA;simp[*])
   rw[e]at hQ;exact hQ _ _ aI
  all_goals exact⟨rfl,rfl,_,⟨RB (by rw[hfa];unfold iA;simp[*]),by exact aI,by omega,by simp (disch:=omega) only[go_sem,r3],rfl⟩,by(repeat' (first|exact aR|refine aN rfl ?_))⟩
 .rintro h3 n3 G ⟨hno,u3,_,_,rfl⟩
  repeat' (first|(simp (disch:=omega) only[go_sem,simprocAttr])|(refine aT ?_ ?_<;>(intro hb hd;rw[hb];clear hb))|(with_reducible refine aj ?_))
  rw[jB,hno]at hQ;exact hQ _ _ u3
end
end
end
section
noncomputable section
structure UF(h:AH)(n ab rb:Nat)(A:List Nat)(r:Nat->Nat):Prop where
 row:h.get ab=some (.row 347 (A.flatMap cn))
 fn:h.get rb=some (.row 348 [.f 223 [.p ab 0,.p rb 0]])
 len:A.length=400
 roots:jo (λi=>A.getD i 0) r
 KS:ab<n
 JL:rb<n
 ne:rb≠ab
section
variable {h h':AH} {n n' ab rb:Nat} {A:List Nat} {r:Nat->Nat} {Q:AV->AH->Nat->Prop}
theorem UF.up(u:UF h n ab rb A r)(x:Up h n h' n'):UF h' n' ab rb A r:=⟨(x.old _ u.KS).trans u.row,(x.old _ u.JL).trans u.fn,u.len,u.roots,Nat.lt_of_lt_of_le u.KS x.le,Nat.lt_of_lt_of_le u.JL x.le,u.ne⟩
theorem Ka(A:List Nat){i v:Nat}(hi:i<A.length):(λj=>(A.set i v).getD j 0)=Gq (λj=>A.getD j 0) i v:=by
 funext j;unfold Gq;rw[List.getD_eq_getElem?_getD,List.getElem?_set];by_cases e:j=i
 .subst e;rw[if_pos rfl,if_pos hi,if_pos rfl];rfl
 .rw[if_neg (Ne.symm e),if_neg e];simp[List.getD_eq_getElem?_getD]
theorem UF.set(u:UF h n ab rb A r){i v:Nat}{r':Nat->Nat}(hi:i<400)(hr:jo (Gq (λj=>A.getD j 0) i v) r'):UF (h.set ab (.row 347 ((A.set i v).flatMap cn))) n ab rb (A.set i v) r':=
 ⟨aG,(ay u.ne).trans u.fn,by rw[List.length_set];exact u.len,by rw[Ka A (by rw[u.len];exact hi)];exact hr,u.KS,u.JL,u.ne⟩
theorem UF.at_(u:UF h n ab rb A r){i:Nat}(hi:i<400):A[i]?=some (A.getD i 0):=by
 rw[List.getD_eq_getElem?_getD,List.getElem?_eq_getElem (by rw[u.len];exact hi)];rfl
theorem nv1{A:List Nat}{i x:Nat}(h:A[i]?=some x):nv (A.flatMap cn) (0+i*1)=some (.i .i64 (x:Nat)):=by
 have e:=nN (t:=347) (c:=cn) (λ_=>rfl) h rfl;rw[X_,<-Nat.zero_add (i*1)]at e;exact e
theorem Vz{A:List Nat}{i x:Nat}(h:i<A.length):st1 (0+i*1) (.i .i64 (x:Nat)) (A.flatMap cn)=some ((A.set i x).flatMap cn):=by
 rw[Nat.zero_add];exact pU (c:=cn) (λ_=>rfl) h rfl
theorem uO:∀(i K:Nat){h:AH}{n:Nat}{A:List Nat}{Q:AV->AH->Nat->Prop},UF h n ab rb A r->i<400->(∀A' h' n',UF h' n' ab rb A' r->n<=n'->(∀x,x<n->x≠ab->h'.get x=h.get x)->Q (.i .i64 (r i:Nat)) h' n')->CW (EF (K+i+1)) 223 [.i .i64 (i:Nat),.p ab 0,.p rb 0] h n Q:=by
 intro i;induction i using Nat.strongRecOn with
 |_ i ih=>
  intro K h n A Q u hi hQ;have rd:=nv1 (u.at_ hi);have row:=u.row;have fn:=u.fn;have hle:A.getD i 0<=i:=u.roots.le i;refine aD afX rfl ?_;by_cases he:A.getD i 0=i
  .have hr:r i=i:=u.roots.fix i he
   rw[hr]at hQ;rw[he]at rd;simp (disch:=omega) only[go_sem,simprocAttr,QL,r_,Int.toNat_natCast,row,rd];exact hQ A _ _ u (Nat.le_refl _) λ_ _ _=>rfl
  .have hd:decide (((A.getD i 0:Nat):Int)=(i:Int))=false:=decide_eq_false (by omega)
   have hst:r (A.getD i 0)=r i:=u.roots.step i;repeat' (first|(simp (disch:=omega) only[go_sem,simprocAttr,ub.old,QL,r_,Int.toNat_natCast,row,rd,hd,fn])|(simp (disch:=omega) only[go_sem,simprocAttr,QL,r_,Int.toNat_natCast,row,rd,hd,fn])|(refine aT ?_ ?_<;>(intro hb hd;rw[hb];clear hb))|(with_reducible refine aj ?_))
   rw[vI];show CW (EF (K+i)) 223 [.i .i64 (A.getD i 0:Nat),.p ab 0,.p rb 0] _ _ _;rw[show K+i=(K+(i - (A.getD i 0+1)))+A.getD i 0+1 by omega];refine ih _ (by omega) _ u (by omega) λA' h2 n2 u2 l2 x2=>?_;rw[hst];have st:=Vz (A:=A') (i:=i) (x:=r i) (by rw[u2.len];exact hi);have wh:=u2.row;have u3:=u2.set (i:=i) (v:=r i) hi (u2.roots.Z4 i);have hA3:(A'.set i (r i))[i]?=some (r i):=by rw[List.getElem?_set,if_pos rfl,if_pos (by rw[u2.len];exact hi)]
   have sj:=nv1 hA3;simp (disch:=omega) only[go_sem,simprocAttr,r_,Int.toNat_natCast,wh,st,Option.map_some];simp (disch:=omega) only[go_sem,simprocAttr,r_,Int.toNat_natCast,sj];exact hQ _ _ _ u3 l2 λx hx hne=>by rw[ay hne];exact x2 x hx hne
theorem Cw(K:Nat){i j:Nat}(u:UF h n ab rb A r)(hi:i<400)(hj:j<400)(hQ:∀A' r' h' n',UF h' n' ab rb A' r'->KR r r'->r' i=r' j->n<=n'->(∀x,x<n->x≠ab->h'.get x=h.get x)->Q (.bQ []) h' n'):CW (EF (K+402)) 224 [.i .i64 (i:Nat),.i .i64 (j:Nat),.p rb 0,.p ab 0] h n Q:=by
 have fn:=u.fn;refine aD afY rfl ?_;repeat' (first|(simp (disch:=omega) only[go_sem,simprocAttr,ub.old,Vu,fn])|(simp (disch:=omega) only[go_sem,simprocAttr,Vu,fn])|(refine aT ?_ ?_<;>(intro hb hd;rw[hb];clear hb))|(with_reducible refine aj ?_))
 rw[vI];show CW (EF (K+401)) 223 [.i .i64 (i:Nat),.p ab 0,.p rb 0] _ _ _;rw[show K+401=(K+(400 - i))+i+1 by omega];refine uO i _ u hi λA1 h1 n1 u1 l1 x1=>?_;rw[show(K+(400 - i))+i+1=K+401 by omega];have fn1:=u1.fn;simp (disch:=omega) only[go_sem,simprocAttr,fn1];rw[vI];show CW (EF (K+401)) 223 [.i .i64 (j:Nat),.p ab 0,.p rb 0] _ _ _;rw[show K+401=(K+(400 - j))+j+1 by omega];refine uO j _ u1 hj λA2 h2 n2 u2 l2 x2=>?_;rw[show(K+(400 - j))+j+1=K+401 by omega];have fn2:=u2.fn;simp (disch:=omega) only[go_sem,simprocAttr,fn2];rw[vI];show CW (EF (K+401)) 223 [.i .i64 (i:Nat),.p ab 0,.p rb 0] _ _ _;rw[show K+401=(K+(400 - i))+i+1 by omega];refine uO i _ u2 hi λA3 h3 n3 u3 l3 x3=>?_;rw[show(K+(400 - i))+i+1=K+401 by omega];have fn3:=u3.fn;simp (disch:=omega) only[go_sem,simprocAttr,fn3];rw[vI];show CW (EF (K+401)) 223 [.i .i64 (j:Nat),.p ab 0,.p rb 0] _ _ _;rw[show K+401=(K+(400 - j))+j+1 by omega];refine uO j _ u3 hj λA4 h4 n4 u4 l4 x4=>?_;rw[show(K+(400 - j))+j+1=K+401 by omega];have fn4:=u4.fn;simp (disch:=omega) only[go_sem,simprocAttr,fn4];refine⟨⟨by rw[fn];rfl,by rw[fn];rfl,by rw[fn1];rfl,by rw[fn];rfl,by rw[fn1];rfl,by rw[fn2];rfl⟩,?_⟩;have Z5:=(u.roots.root i).2;have hrj:=(u.roots.root j).2;obtain⟨lo,hh,e1,e2,e3,e4⟩:∃lo hh:Nat,(if((r i:Nat):Int)<=((r j:Nat):Int)then((r i:Nat):Int)else((r j:Nat):Int))=(lo:Int)/\(if((r j:Nat):Int)<=((r i:Nat):Int)then((r i:Nat):Int)else((r j:Nat):Int))=(hh:Int)/\lo<=hh/\((lo=r i/\hh=r j)\/(lo=r j/\hh=r i)):=by
  by_cases h1:r i<=r j
  .refine⟨r i,r j,if_pos (by omega),?_,h1,.inl ⟨rfl,rfl⟩⟩
   by_cases h2:r j<=r i
   .rw[if_pos (by omega)];omega
   .rw[if_neg (by omega)]
  .exact⟨r j,r i,if_neg (by omega),if_pos (by omega),by omega,.inr ⟨rfl,rfl⟩⟩
 rw[e1,e2];have hh4:hh<400:=by omega
 have rlo:r lo=lo:=by rcases e4 with⟨e,_⟩|⟨e,_⟩<;>rw[e,u.roots.idem]
 have rhh:r hh=hh:=by rcases e4 with⟨_,e⟩|⟨_,e⟩<;>rw[e,u.roots.idem]
 have af4:=u4.row;have st:=Vz (A:=A4) (i:=hh) (x:=lo) (by rw[u4.len];exact hh4);have u5:=u4.set hh4 (u4.roots.join rlo rhh e3);simp (disch:=omega) only[go_sem,simprocAttr,r_,Int.toNat_natCast,af4,st,Option.map_some];refine hQ _ _ _ _ u5 (KR.join r lo hh) ?_ (by omega) λx hx hne=>by rw[ay hne,x4 x (by omega) hne,x3 x (by omega) hne,x2 x (by omega) hne,x1 x hx hne]
 rcases e4 with⟨e,e'⟩|⟨e,e'⟩
 .rw[if_pos e'.symm];split
  .rfl
  .exact e.symm
 .rw[if_pos (c:=r i=hh) e'.symm];split
  .rfl
  .exact e
end
end
end
section
noncomputable section
theorem Gr.Z6{h:AH}{n e:Nat}{v:AV}{l:List AV}(g:Gr h n e 1 v one l){p:Nat}(hp:p<l.length)(y:AV):∃b cap cells cells',v= .sl b 0 0 l.length cap/\b<n/\h.get b=some (.row e cells)/\st1 (p*1) y cells=some cells'/\nv cells (p*1)=l[p]?/\Gr (h.set b (.row e cells')) n e 1 v one (l.set p y):=by
 rcases g.2 with⟨_,rfl⟩|⟨b,cap,cells,rfl,h1,h2,h3,h4,h5,h6⟩
 .cases hp
 .have hf:∀l:List AV,l.flatMap one=l:=λl=>by induction l with|nil=>rfl|cons a l ih=>rw[List.flatMap_cons,ih];rfl
  rw[hf,Nat.mul_one]at h3;rw[Nat.mul_one]at h4;have hc:cells=l++cells.drop l.length:=by conv=>lhs;rw[<-List.take_append_drop l.length cells,h3]
  refine⟨b,cap,cells,cells.set p y,rfl,h1,h2,?_,?_,g.1,.inr ⟨b,cap,cells.set p y,by rw[List.length_set],h1,aG,?_,by simp;omega,λe=>by simp;have:=h5 e;omega,λk e=>by simp;have:=h6 k e;omega⟩⟩
  .rw[rV,Nat.mul_one]
   unfold oh;rw[if_pos (by simp;omega),List.set_eq_take_append_cons_drop,if_pos (by omega)];rfl
  .rw[qZ,Nat.mul_one,<-h3,List.getElem?_take,if_pos hp]
  .rw[hf,List.length_set,Nat.mul_one,List.take_set,h3]
structure PG(h:AH)(n n0 mb:Nat)(pv:AV)(bs:List AV)(B:List (List Nat)):Prop where
 gp:Gr h n 22 1 pv one bs
 lb:bs.length=B.length
 gb:∀(j:Nat)(y:AV)(l:List Nat),bs[j]?=some y->B[j]?=some l->Gr h n 3 1 y cn l
 d1:∀(j:Nat)(y:AV),bs[j]?=some y->∀x,blk y x->¬blk pv x
 d2:∀(i j:Nat)(y z:AV),bs[i]?=some y->bs[j]?=some z->i≠j->∀x,blk y x->¬blk z x
 np:∀x,blk pv x->n0<=x/\x≠mb
 nb:∀(j:Nat)(y:AV),bs[j]?=some y->∀x,blk y x->n0<=x/\x≠mb
section
variable {h h':AH} {n n' n0 mb:Nat} {pv:AV} {bs:List AV} {B:List (List Nat)}
theorem PG.on(a:PG h n n0 mb pv bs B)(hn:n<=n')(e:∀x,x<n->n0<=x->x≠mb->h'.get x=h.get x):PG h' n' n0 mb pv bs B:=
 ⟨a.gp.on hn λx hx hb=>e x hx (a.np x hb).1 (a.np x hb).2,a.lb,λj y l h1 h2=>(a.gb j y l h1 h2).on hn λx hx hb=>e x hx (a.nb j y h1 x hb).1 (a.nb j y h1 x hb).2,a.d1,a.d2,a.np,a.nb⟩
theorem PG.new(a:PG h n n0 mb pv bs B){pv':AV}(g:Gr h' n' 22 1 pv' one (bs++[.k 1]))(hn:n<=n')(hm:mb<n)(h0:n0<=n)(s:∀x,x<n->¬blk pv x->h'.get x=h.get x)(b:∀x,blk pv' x->blk pv x\/n<=x):PG h' n' n0 mb pv' (bs++[.k 1]) (B++[[]]):=by
 have get:∀(j:Nat)(y:AV),(bs++[AV.k 1])[j]?=some y->(j<bs.length/\bs[j]?=some y)\/(j=bs.length/\y= .k 1):=λj y e=>by
  by_cases hj:j<bs.length
  .rw[List.getElem?_append_left hj]at e;exact .inl ⟨hj,e⟩
  .have:=(List.getElem?_eq_some_iff.1 e).1
   simp at this;obtain rfl:j=bs.length:=by omega
   rw[List.getElem?_append_right (Nat.le_refl _),Nat.sub_self]at e;cases e
   exact .inr ⟨rfl,rfl⟩
 refine⟨g,by simp[a.lb],λj y l h1 h2=>?_,λj y h1 x hx=>?_,λi j y z h1 h2 hij x hx=>?_,λx hx=>?_,λj y h1 x hx=>?_⟩
 .rcases get j y h1 with⟨hj,e⟩|⟨rfl,rfl⟩
  .rw[List.getElem?_append_left (by rw[<-a.lb];exact hj)]at h2
   exact(a.gb j y l e h2).on hn λx hx hb=>s x hx (a.d1 j y e x hb)
  .rw[a.lb,List.getElem?_append_right (Nat.le_refl _),Nat.sub_self]at h2
   cases h2
   exact Gr.nil λ_=>rfl
 .rcases get j y h1 with⟨hj,e⟩|⟨rfl,rfl⟩
  .intro hp
   rcases b x hp with hp|hp
   .exact a.d1 j y e x hx hp
   .obtain⟨l,hl⟩:∃l,B[j]?=some l:=⟨B[j]'(by rw[<-a.lb];exact hj),List.getElem?_eq_getElem _⟩
    have:=(a.gb j y l e hl).fE hx;omega
  .exact absurd hx fA
 .rcases get i y h1 with⟨hi,e1⟩|⟨rfl,rfl⟩
  .rcases get j z h2 with⟨hj,e2⟩|⟨rfl,rfl⟩
   .exact a.d2 i j y z e1 e2 hij x hx
   .exact fA
  .exact absurd hx fA
 .rcases b x hx with hp|hp
  .exact a.np x hp
  .omega
 .rcases get j y h1 with⟨hj,e⟩|⟨rfl,rfl⟩
  .exact a.nb j y e x hx
  .exact absurd hx fA
theorem PG.put(a:PG h n n0 mb pv bs B){p i:Nat}{y y':AV}{l:List Nat}(hy:bs[p]?=some y)(hl:B[p]?=some l)(g:Gr h' n' 3 1 y' cn (l++[i]))(hn:n<=n')(hm:mb<n)(h0:n0<=n)(s:∀x,x<n->¬blk y x->h'.get x=h.get x)(b:∀x,blk y' x->blk y x\/n<=x):
 ∃pb cap cells cells',pv= .sl pb 0 0 bs.length cap/\pb<n/\h'.get pb=some (.row 22 cells)/\st1 (p*1) y' cells=some cells'/\PG (h'.set pb (.row 22 cells')) n' n0 mb pv (bs.set p y') (B.set p (l++[i])):=by
 have hp:=(List.getElem?_eq_some_iff.1 hy).1;have gp':Gr h' n' 22 1 pv one bs:=a.gp.on hn λx hx hb=>s x hx λe=>a.d1 p y hy x e hb;obtain⟨pb,cap,cells,cells',q1,q2,q3,q4,q5,q6⟩:=gp'.Z6 hp y';have hpb:blk pv pb:=by rw[q1];exact d_.2 rfl
 have hpn:=a.gp.fE hpb;have get:∀(k:Nat)(z:AV),(bs.set p y')[k]?=some z->(k=p/\z=y')\/(k≠p/\bs[k]?=some z):=λk z e=>by
  rw[List.getElem?_set]at e;by_cases h:p=k
  .rw[if_pos h,if_pos hp]at e;exact .inl ⟨h.symm,by cases e;rfl⟩
  .rw[if_neg h]at e;exact .inr ⟨λk=>h k.symm,e⟩
 have lt:∀(k:Nat)(z:AV),bs[k]?=some z->∀x,blk z x->x<n:=λk z e x hx=>by
  obtain⟨l,hl⟩:∃l,B[k]?=some l:=⟨B[k]'(by rw[<-a.lb];exact(List.getElem?_eq_some_iff.1 e).1),List.getElem?_eq_getElem _⟩;exact(a.gb k z l e hl).fE hx
 have ny:∀x,blk y' x->¬blk pv x:=λx hx hb=>by
  rcases b x hx with e|e
  .exact a.d1 p y hy x e hb
  .have:=a.gp.fE hb;omega
 refine⟨pb,cap,cells,cells',q1,hpn,q3,q4,q6,by simp[a.lb],λj z l' h1 h2=>?_,λj z h1 x hx=>?_,λi j z w h1 h2 hij x hx=>?_,a.np,λj z h1 x hx=>?_⟩
 .rcases get j z h1 with⟨rfl,rfl⟩|⟨hj,hz⟩
  .rw[List.getElem?_set,if_pos rfl,if_pos (by rw[<-a.lb];exact hp)]at h2
   cases h2
   exact g.on (Nat.le_refl _) λx _ hx=>ay λe=>ny x hx (by rw[e];exact hpb)
  .rw[List.getElem?_set,if_neg (Ne.symm hj)]at h2
   exact(a.gb j z l' hz h2).on hn λx hx hb=>by
    rw[ay (λe=>a.d1 j z hz x hb (by rw[e];exact hpb)),s x hx λe=>a.d2 p j y z hy hz (Ne.symm hj) x e hb]
 .rcases get j z h1 with⟨rfl,rfl⟩|⟨hj,hz⟩
  .exact ny x hx
  .exact a.d1 j z hz x hx
 .have ne:∀(k:Nat)(z:AV),k≠p->bs[k]?=some z->∀x,blk y' x->¬blk z x:=λk z hk hz x hx kx=>by
   rcases b x hx with e|e
   .exact a.d2 p k y z hy hz (Ne.symm hk) x e kx
   .have:=lt k z hz x kx;omega
  rcases get i z h1 with⟨rfl,rfl⟩|⟨hi,hz⟩
  .rcases get j w h2 with⟨rfl,rfl⟩|⟨hj,hw⟩
   .exact absurd rfl hij
   .exact ne j w hj hw x hx
  .rcases get j w h2 with⟨rfl,rfl⟩|⟨hj,hw⟩
   .exactλe=>ne i z hi hz x e hx
   .exact a.d2 i j z w hz hw hij x hx
 .rcases get j z h1 with⟨rfl,rfl⟩|⟨hj,hz⟩
  .rcases b x hx with e|e
   .exact a.nb j y hy x e
   .omega
  .exact a.nb j z hz x hx
end
end
end
noncomputable section
theorem Gu:Mx Tryz.prog 3 (λi:Int=>AV.i .i64 i):=by
 refine⟨λa b=>⟨fM a b,by kernel_rfl,by rw[cK];simp⟩,λa=>by kernel_rfl,λa=>rfl⟩
def Ee(h:AH)(n m0:Nat)(pv:AV)(P:List (List Nat)):Prop:=∃bs:List AV,SL h n 1 pv one bs/\bs.length=P.length/\(∀(j:Nat)(y:AV)(l:List Nat),bs[j]?=some y->P[j]?=some l->SL h n 1 y cn l)/\(∀x,blk pv x->m0<=x)/\∀(j:Nat)(y:AV),bs[j]?=some y->∀x,blk y x->m0<=x
theorem Ee.lo{h:AH}{n m0 m1:Nat}{pv:AV}{P:List (List Nat)}(a:Ee h n m0 pv P)(e:m1<=m0):Ee h n m1 pv P:=
 let⟨bs,h1,h2,h3,h4,h5⟩:=a
 ⟨bs,h1,h2,h3,λx hx=>Nat.le_trans e (h4 x hx),λj y hj x hx=>Nat.le_trans e (h5 j y hj x hx)⟩
section
variable {h h':AH} {n n' ab rb:Nat} {A:List Nat} {r:Nat->Nat} {Q:AV->AH->Nat->Prop}
def GaI(h:AH)(n ab rb:Nat)(r:Nat->Nat)(k:Nat)(hk:AH)(nk:Nat)(G:Fm):Prop:=∃(A:List Nat)(pv:AV)(bs:List AV)(B:List (List Nat))(m:List (Int×AV))(pl:Nat->Option Nat),
 UF hk nk ab rb A r/\PG hk nk n n pv bs B/\uh hk n (λi:Int=>AV.i .i64 i) m/\(∀i p:Nat,pl i=some p->nI m (i:Int)=some (.i .i64 (p:Nat)))/\vY r k pl B/\B.length<=k/\n<nk/\(∀x,x<n->x≠ab->hk.get x=h.get x)/\G=[(1,.f 223 [.p ab 0,.p rb 0]),(5,pv),(6,.m n)]
theorem UF.on(u:UF h n ab rb A r)(hn:n<=n')(e1:h'.get ab=h.get ab)(e2:h'.get rb=h.get rb):UF h' n' ab rb A r:=⟨e1.trans u.row,e2.trans u.fn,u.len,u.roots,Nat.lt_of_lt_of_le u.KS hn,Nat.lt_of_lt_of_le u.JL hn,u.ne⟩
def mGd:MC:=match Cu with
 | .seq _ (.seq _ (.seq _ d))=>d
 |x=>x
theorem wO{K k N:Nat}{h4:AH}{n4:Nat}{pv:AV}{bs:List AV}{B:List (List Nat)}{m:List (Int×AV)}{pl:Nat->Option Nat}{p:Nat}{l:List Nat}{bb:Bool}{S:List It}{Qx:PQ}(hk:k<N)(hN:N<=400)(hab:ab<n)(hrb:rb<n)(u:UF h4 n4 ab rb A r)(pg:PG h4 n4 n n pv bs B)(mp:uh h4 n (λi:Int=>AV.i .i64 i) m)
 (hpl:∀i p:Nat,pl i=some p->nI m (i:Int)=some (.i .i64 (p:Nat)))(hal:nI m ((r k:Nat):Int)=some (.i .i64 (p:Nat)))(hl:B[p]?=some l)(ga:vY r (k+1) pl (B.set p (l++[k])))(hB:B.length<=k+1)(hn:n<n4)(same:∀x,x<n->x≠ab->h4.get x=h.get x):
 SM Tryz.prog Y0 228 [.c mGd] .bT (EF (K+401)) h4 n4 [(1,.f 223 [.p ab 0,.p rb 0]),(5,pv),(6,.m n),(10,.i .i64 (N:Nat)),(11,.i .i64 (k:Nat)),(7,.i .i64 (k:Nat)),(8,.i .i64 (r k:Nat)),(19,.b bb)] (RY Tryz.prog Y0 228 (GaI h n ab rb r) k 11 10 N 1 S (EF (K+401)) Qx):=by
 have hp:=(List.getElem?_eq_some_iff.1 hl).1;have lb:=pg.lb;obtain⟨y,hy⟩:∃y,bs[p]?=some y:=⟨bs[p]'(by omega),List.getElem?_eq_getElem _⟩;obtain⟨pb,cap,cells,_,rfl,q2,q3,_,q5,_⟩:=pg.gp.Z6 (p:=p) (by omega) (.k 1);rw[hy]at q5;have lk:=mp.look (k:=((r k:Nat):Int)) Gu (z:=some (.i .i64 0)) (ok:=false) rfl;rw[hal]at lk;simp only[fU]at lk;have Z7:p<bs.length:=by omega
 have gy:=pg.gb p y l hy hl;unfold mGd;have hll:l.length<=401:=by
  obtain⟨i,_,_,_,e⟩:=ga.of p (l++[k]) (by rw[List.getElem?_set,if_pos rfl,if_pos hp]);have e:=congrArg List.length e;have:=List.length_filter_le (λj=>decide (r j=i)) (List.range (k+1));simp at e this;omega
 repeat' (first|(simp (disch:=omega) only[go_sem,simprocAttr,Cu,lk,bS Z7,q3,q5])|(refine aT ?_ ?_<;>(intro hb hd;rw[hb];clear hb))|(with_reducible refine aj ?_))
 refine Co (l2:=[k]) (gy.up aI) ⟨rfl,?_⟩ (by simp;omega) λy' h6 n6 g6 l6 s6 b6=>?_
 .show bnd (iD (Tr.get _ _) 0 _) (λr=>mO (Nat.mul 1 1) r)=_
  rw[aG];rfl
 have NU:∀x,x<n4->¬blk y x->h6.get x=h4.get x:=λx hx hb=>by rw[s6 x (by omega) hb,ay (by omega)]
 obtain⟨pb2,cap2,NV,cells',e1,e2,e3,e4,pg6⟩:=pg.put hy hl g6 (by omega) (by omega) (by omega) NU λx hx=>(b6 x hx).imp id λe=>by omega
 cases e1
 have KS:=u.KS;have JL:=u.JL;have hne:=u.ne;have uab:n4<=n6:=by omega
 have mp6:=mp.on (NU n hn λe=>(pg.nb p y hy n e).2 rfl);have lk6:=mp6.look (k:=((r k:Nat):Int)) Gu (z:=some (.i .i64 0)) (ok:=false) rfl;rw[hal]at lk6;simp only[fU]at lk6;have rs:fu (some (.row 22 NV)) (p*1) (some [y'])=some (.row 22 cells'):=by
  show(match oh [y'] (p*1) NV with|some m=>some (AO.row 22 m)|none=>none)=_;rw[<-rV,e4]
 simp (disch:=omega) only[go_sem,simprocAttr,bS Z7,e3,g6.cl,rs];refine⟨lk6,?_⟩;obtain⟨p1,p2⟩:=pg.np pb (d_.2 rfl);have ny:∀x,x<n->¬blk y x:=λx hx e=>by have:=(pg.nb p y hy x e).1;omega
 refine⟨rfl,rfl,_,⟨A,_,bs.set p y',B.set p (l++[k]),m,pl,u.on (by omega) (by rw[ay (by omega),NU ab (by omega) (ny ab hab)]) (by rw[ay (by omega),NU rb (by omega) (ny rb hrb)]),pg6,mp6.on (ay (Ne.symm p2)),hpl,ga,by rw[List.length_set];exact hB,by omega,λx hx hne=>by rw[ay (by omega),NU x (by omega) (ny x hx),same x hx hne],rfl⟩,by(repeat' (first|exact aR|refine aN rfl ?_))⟩
theorem Kc(K:Nat){N:Nat}(u:UF h n ab rb A r)(hN:N<=400)(hQ:∀A' m P pv h' n',UF h' n' ab rb A' r->vY r N m P->P.length<=N->Ee h' n' n pv P->n<=n'->(∀x,x<n->x≠ab->h'.get x=h.get x)->Q pv h' n'):CW (EF (K+402)) 228 [.i .i64 (N:Nat),.f 223 [.p ab 0,.p rb 0]] h n Q:=by
 have KS:=u.KS;have JL:=u.JL;have rne:=u.ne;refine aD c228 rfl ?_;repeat' (first|(simp (disch:=omega) only[go_sem,simprocAttr,ub.old,Vs])|(simp (disch:=omega) only[go_sem,simprocAttr,Vs])|(refine aT ?_ ?_<;>(intro hb hd;rw[hb];clear hb))|(with_reducible refine aj ?_))
 refine b_ N (GaI h n ab rb r) (by omega) (by omega) (by omega) (by omega) (λk h8 n8 G ⟨_,_,_,_,_,_,_,_,_,_,_,_,_,_,e⟩=>by subst e;exact⟨rfl,rfl⟩) ⟨rfl,rfl,_,⟨A,.k 1,[],[],[],λ_=>none,u.up aI,⟨Gr.nil λ_=>rfl,rfl,λj y l h1=>by simp at h1,λj y h1=>by simp at h1,λi j y z h1=>by simp at h1,λx hx=>absurd hx fA,λj y h1=>by simp at h1⟩,uh.new _,(λ_ _ e=>by cases e),vY.nil r _,Nat.le_refl _,by omega,λx hx _=>ay (by omega),rfl⟩,by(repeat' (first|exact aR|refine aN rfl ?_))⟩ ?_ ?_
 .rintro k hk nk G hkN ⟨A1,pv,bs,B,m,pl,u1,pg,mp,hpl,ga,hBk,hn,same,rfl⟩
  simp (disch:=omega) only[go_sem,simprocAttr,Cu];rw[Fu];show CW (EF (K+401)) 223 [.i .i64 (k:Nat),.p ab 0,.p rb 0] _ _ _;rw[show K+401=(K+(400 - k))+k+1 by omega];refine uO k _ u1 (by omega) λA2 h2 n2 u2 l2 x2=>?_;rw[show(K+(400 - k))+k+1=K+401 by omega];have pg2:PG h2 n2 n n pv bs B:=pg.on l2 λx hx h1 h3=>x2 x hx (by omega);have mp2:=mp.on (x2 n hn (by omega));have hrk:=(u1.roots.root k).2;have SN:∀x,x<n->x≠ab->h2.get x=h.get x:=λx hx hne=>(x2 x (by omega) hne).trans (same x hx hne);by_cases hroot:r k=k
  .have hd:decide (((r k:Nat):Int)=(k:Int))=true:=decide_eq_true (by omega)
   obtain⟨o,up1,mp3⟩:=mp2.put (n:=n2) (k:=(k:Int)) Gu (.i .i64 (bs.length:Nat));have af7:=pg2.gp.len;have lbs:=pg2.lb;simp (disch:=omega) only[go_sem,simprocAttr,hd,af7,up1];have WA:PG (h2.set n o) n2 n n pv bs B:=pg2.on (Nat.le_refl _) λx _ _ h3=>ay h3;refine jZ (l2:=[AV.k 1]) (WA.gp.up aI) ⟨rfl,?_⟩ (by simp;omega) λpv' h4 n4 g4 l4 s4 b4=>?_
   .show bnd (iD (Tr.get _ _) 0 _) (λr=>mO (Nat.mul 1 1) r)=_
    rw[aG];rfl
   simp (disch:=omega) only[go_sem,simprocAttr,g4.cl];have hal:nI (DN m (k:Int) (.i .i64 (bs.length:Nat))) ((r k:Nat):Int)=some (.i .i64 (bs.length:Nat)):=by rw[nK,if_pos (by omega)]
   have hl':(B++[[]])[bs.length]?=some []:=by rw[lbs,List.getElem?_append_right (Nat.le_refl _),Nat.sub_self];rfl
   have ga':=ga.new u1.roots hroot;rw[<-lbs]at ga';have hpl':∀i p:Nat,(if i=k then some bs.length else pl i)=some p->nI (DN m (k:Int) (.i .i64 (bs.length:Nat))) (i:Int)=some (.i .i64 (p:Nat)):=λi p e=>by
    rw[nK];by_cases hik:i=k
    .rw[if_pos hik]at e;cases e;rw[if_pos (by omega)]
    .rw[if_neg hik]at e;rw[if_neg (by omega)];exact hpl i p e
   have pgn:=WA.new g4 (by omega) (by omega) (by omega) (λx hx hb=>by rw[s4 x (by omega) hb,ay (by omega)]) (λx hx=>(b4 x hx).imp id λe=>by omega);have hB':(B++[[]]).length<=k+1:=by simp;omega
   have vS:∀x,x<n2->¬blk pv x->h4.get x=(Tr.set h2 n o).get x:=λx hx hb=>by rw[s4 x (by omega) hb,ay (by omega)]
   have u5:UF h4 n4 ab rb A2 r:=u2.on (by omega) (by rw[vS ab (by omega) λe=>by have:=(WA.np ab e).1;omega,ay (by omega)]) (by rw[vS rb (by omega) λe=>by have:=(WA.np rb e).1;omega,ay (by omega)]);have mp5:=mp3.on (vS n (by omega) λe=>(WA.np n e).2 rfl);have Z8:∀x,x<n->x≠ab->h4.get x=h.get x:=λx hx hne=>by rw[vS x (by omega) λe=>by have:=(WA.np x e).1;omega,ay (by omega),SN x hx hne]
   have hn5:n<n4:=by omega
   clear vS;exact wO hkN hN KS JL u5 pgn mp5 hpl' hal hl' ga' hB' hn5 Z8
  .have hd:decide (((r k:Nat):Int)=(k:Int))=false:=decide_eq_false (by omega)
   simp (disch:=omega) only[go_sem,simprocAttr,hd];obtain⟨p5,l5,e1,hl',ga'⟩:=ga.old u1.roots hroot;have hal:=hpl _ _ e1;exact wO hkN hN KS JL u2 pg2 mp2 hpl hal hl' ga' (by omega) (by omega) SN
 .rintro hk nk G ⟨A1,pv,bs,B,m,pl,u1,pg,mp,hpl,ga,hBk,hn,same,rfl⟩
  simp (disch:=omega) only[go_sem,simprocAttr];exact hQ A1 pl B pv _ _ u1 ga hBk ⟨bs,pg.gp.sl,pg.lb,λj y l e1 e2=>(pg.gb j y l e1 e2).sl,λx hx=>(pg.np x hx).1,λj y hj x hx=>(pg.nb j y hj x hx).1⟩ (by omega) same
end
end
end Go.Proofs.YtjoohkjmoghmoaaGreatDoor
