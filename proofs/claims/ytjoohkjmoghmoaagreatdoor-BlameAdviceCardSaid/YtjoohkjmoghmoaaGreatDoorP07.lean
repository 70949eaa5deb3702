/- part -/
import Derived.Test.YtjoohkjmoghmoaaGreatDoorP06
set_option linter.all false
namespace Go.Proofs.YtjoohkjmoghmoaaGreatDoor
section
structure bF where
 num:Int
 den:Int
structure eY where
 kind:Int
 role:Int
 give:Int
 tgt:Int
 unit:Int
 lot:bF
structure fO where
 clause:Int
 is:Int
structure aN where
 kind:Int
 role:Int
 act:Int
 need:Int
 start:List fO
 after:Int
 fP:Int
 gW:Bool
 final:Bool
 pause:Int
 resume:Int
 value:bF
 unit:Int
 tgt:Int
 jw:Bool
structure dY where
 name:ByteArray
 kind:Int
 base:Int
 factor:bF
structure aH where
 aK:Int
 aC:List Int
 units:List dY
 acts:List eY
 clauses:List aN
 days:Int
 off:List Int
structure aG where
 status:Int
 left:Int
 got:Int
 aT:Int
 paused:Bool
structure aO where
 day:Int
 aC:List Int
 used:List Bool
 marks:List aG
def bF.ok(r:bF):Bool:=decide (1<=r.den)&&decide (r.den<=1000000)&&decide (-1000000000000<=r.num)&&decide (r.num<=1000000000000)&&decide (Nat.gcd r.num.natAbs r.den.natAbs=1)
def aH.role(C:aH)(r:Int):Bool:=decide (0<=r)&&decide (r<C.aC.length)
def bF.zero(r:bF):Bool:=(r.num==0)&&(r.den==1)
def bF.plus(r:bF):Bool:=decide (0<r.num)&&r.ok
def aH.J2(C:aH)(i:Int):Option eY:=if 0<=i then C.acts[i.toNat]? else none
def aH.natural(C:aH)(i:Int):Bool:=
 match C.J2 i with
 |none=>false
 |some a=>(a.kind==1)&&(a.role== -1)
def nL(C:aH)(ki ro gi tg un ln ld:Int):Bool:=(cond (!(C.role ro)) ((ki==1)&&((ro== -1)&&((gi==0)&&(((tg== -1)||(C.role tg))&&((un== -1)&&(bF.zero ⟨ln,ld⟩)))))) (cond (ki==1) (cond ((!(gi==0))||((!(tg== -1))&&(!(C.role tg)))) false (cond (un== -1) (bF.zero ⟨ln,ld⟩) (decide (0<=un)&&(decide (un<(C.units.length:Int))&&(bF.plus ⟨ln,ld⟩))))) (cond ((ki==2)||(ki==3)) ((C.role gi)&&(decide (0<=tg)&&(decide (tg<C.aK)&&((un== -1)&&(bF.zero ⟨ln,ld⟩))))) false)))
def iY(C:aH)(ki ro ac ne gr:Int)(fi:Bool):Bool:=(cond (ki==4) ((ro== -1)&&((ne==1)&&((gr==0)&&(!fi)))) (cond ((!(C.role ro))||(C.natural ac)) false (cond (ki==1) (decide (1<=ne)&&(decide (ne<=9)&&(decide (0<=gr)&&decide (gr<=400)))) (cond (ki==2) ((ne==1)&&(gr==0)) (cond (ki==3) ((ne==1)&&((gr==0)&&(!fi))) false)))))
def rH(C:aH)(i:Nat)(cl is:Int):Bool:=((!decide (cl<0))&&((!decide ((C.clauses.length:Int)<=cl))&&((!(cl==(i:Int)))&&((!decide (is<1))&&(!decide (4<is))))))
def oP(C:aH)(i:Nat)(l:List fO):Bool:=l.all (λk=>rH C i k.clause k.is)
def p8(C:aH)(ki ro ac ne gr af:Int)(fi:Bool)(sl:Nat):Bool:=((!decide (ac<0))&&((!decide ((C.acts.length:Int)<=ac))&&((!decide (af<1))&&((!decide (400<af))&&((iY C ki ro ac ne gr fi)&&(!decide (8<(sl:Int))))))))
def jN(C:aH)(pa re:Int):Bool:=(cond ((!(pa== -1))||(!(re== -1))) ((!(pa==re))&&((C.natural pa)&&(C.natural re))) true)
def aH.wE(C:aH)(i:Int):Int:=if 0<=i then(C.units[i.toNat]?.map (·.kind)).getD 0 else 0
def kN(C:aH)(ki un vn vd tg:Int):Bool:=(cond (un== -1) ((bF.zero ⟨vn,vd⟩)&&(tg== -1)) (((ki==1)||(ki==2))&&(decide (0<=un)&&(decide (un<(C.units.length:Int))&&((C.wE un==2)&&((bF.plus ⟨vn,vd⟩)&&(C.role tg)))))))
def aH.bW(C:aH)(i:Nat)(k:aN):Bool:=
 p8 C k.kind k.role k.act k.need k.fP k.after k.final k.start.length&&(oP C i k.start&&(jN C k.pause k.resume&&kN C k.kind k.unit k.value.num k.value.den k.tgt))
def jU(us:List dY)(x:Int):Bool:=decide (0<=x)&&decide (x<us.length)
def wF(us:List dY)(x:Int):Int:=((us[x.toNat]?).map (·.kind)).getD 0
def wG(us:List dY)(x:Int):Int:=((us[x.toNat]?).map (·.base)).getD 0
def Ad(i:Nat)(nm:ByteArray):Bool:=((!decide (20<=(i:Int)))&&(!nm.toList.isEmpty))
def tQ(ki fn fd:Int):Bool:=(((ki==1)||(ki==2))&&((bF.ok ⟨fn,fd⟩)&&(!decide (fn<=0))))
def tT(us:List dY)(ki ba:Int):Bool:=((jU us ba)&&(((wF us ba)==ki)&&((wG us ba)==ba)))
def Dw(i:Nat)(ba fn fd:Int):Bool:=((!(ba==(i:Int)))||((fn==1)&&(fd==1)))
def newName(l:List dY)(nm:ByteArray):Bool:=l.all (λu=> !(u.name.toList==nm.toList))
def fA(us:List dY)(i:Nat)(u:dY):Bool:=
 Ad i u.name&&(newName (us.take i) u.name&&(tQ u.kind u.factor.num u.factor.den&&(tT us u.kind u.base&&Dw i u.base u.factor.num u.factor.den)))
def mo(us:List dY):Bool:=(List.range us.length).all (λi=>match us[i]? with|some u=>fA us i u|none=>true)
def aH.party(C:aH)(p:Int):Bool:=decide (0<=p)&&decide (p<C.aK)
def aH.held(C:aH):Bool:=C.aC.all (λp=>C.party p)
def aH.nM(C:aH)(a:eY):Bool:=nL C a.kind a.role a.give a.tgt a.unit a.lot.num a.lot.den
def aH.wH(C:aH):Bool:=C.acts.all (λa=>C.nM a)
def mO(days:Int):Int->List Int->Bool
 |_,[]=>true
 |last,d::l=>(!decide (d<=last))&&((!decide (days<=d))&&mO days d l)
def MU(C:aH):Bool:=((!decide (C.aK<1))&&((!decide (C.days<1))&&((!((C.aC.length:Int)==0))&&C.held)))
def aH.framed(C:aH):Bool:=MU C&&(mo C.units&&(C.wH&&mO C.days (-1) C.off))
def aH.over(C:aH):Bool:=(decide (12<C.aK)||(decide (2000<C.days)||(decide (12<(C.aC.length:Int))||(decide (20<(C.units.length:Int))||(decide (60<(C.acts.length:Int))||decide (400<(C.clauses.length:Int)))))))
def aH.iq(C:aH):Bool:=(List.range C.clauses.length).all (λi=>match C.clauses[i]? with|some k=>C.bW i k|none=>true)
def aH.errno(C:aH):Int:=cond C.over 3 (cond (C.framed&&C.iq) 0 1)
def aH.valid(C:aH):Bool:=(!C.over)&&(C.framed&&C.iq)
def jy(C:aH)(ki ne pa:Int)(wa:Bool)(ml mg mb:Int)(mp:Bool):Bool:=(cond (wa||(decide (ml<1)||(mp&&(pa== -1)))) false (cond ((!(mg==0))&&((!(ki==1))||(decide (mg<0)||decide (ne<=mg)))) false (cond (ki==4) (mb== -1) (decide (0<=mb)&&decide (mb<C.aK)))))
def nN(ms ml mg mb:Int)(mp:Bool):Bool:=(ms==0)&&((ml==0)&&((mg==0)&&((mb== -1)&& !mp)))
def jO(C:aH)(ki ne af gr pa:Int)(wa:Bool)(ms ml mg mb:Int)(mp:Bool):Bool:=(cond (ms==0) ((!wa)&&(nN ms ml mg mb mp)) (cond (ms==1) (decide (ml<=af)&&(jy C ki ne pa wa ml mg mb mp)) (cond (ms==2) ((ki==1)&&(decide (ml<=gr)&&(jy C ki ne pa wa ml mg mb mp))) (cond ((ms==3)||((ms==4)||(ms==5))) ((ml==0)&&(decide (0<=mg)&&(decide (mg<=9)&&(decide (-1<=mb)&&(decide (mb<C.aK)&&(!mp)))))) false))))
def aH.jB(C:aH)(k:aN)(m:aG):Bool:=jO C k.kind k.need k.after k.fP k.pause k.jw m.status m.left m.got m.aT m.paused
def Dx(is x:Int):Bool:=(cond (is==1) (!(x==0)) (cond (is==2) (x==3) (cond (is==3) (x==4) (cond (is==4) (x==5) false))))
def wI(ms:List aG)(x:Int):Int:=((ms[x.toNat]?).map (·.status)).getD 0
def oQ(ms:List aG)(c:fO):Bool:=Dx c.is (wI ms c.clause)
def kQ(ms:List aG)(l:List fO):Bool:=l.all (oQ ms)
def eP(ms:List aG)(k:aN)(m:aG):Bool:=(m.status==0)&&((!k.jw)&&kQ ms k.start)
def Iy(C:aH)(s:aO):Bool:=((!decide (s.day<0))&&((!decide (C.days<s.day))&&(((s.aC.length:Int)==(C.aC.length:Int))&&(((s.used.length:Int)==(C.acts.length:Int))&&((s.marks.length:Int)==(C.clauses.length:Int))))))
def tV(C:aH)(p:Int):Bool:=(!decide (p<0))&&(!decide (C.aK<=p))
def jC(C:aH)(s:aO):Bool:=s.aC.all (tV C)
def wJ(C:aH)(s:aO):Bool:=(List.range s.used.length).all (λi=>match s.used[i]?,C.acts[i]? with|some u,some a=> !(u&&(a.kind==1))|_,_=>true)
def qC(C:aH)(s:aO):Bool:=(List.range s.marks.length).all (λi=>match s.marks[i]?,C.clauses[i]? with|some m,some k=>C.jB k m&& !(eP s.marks k m)|_,_=>true)
def aH.d9(C:aH)(s:aO):Bool:=C.valid&&(Iy C s&&(jC C s&&(wJ C s&&qC C s)))
def nO(k:aN)(m:aG)(p:Int):Bool:=k.final&&((m.status==4)&&(m.aT==p))
def anyFailed(C:aH)(s:aO)(p:Int):Bool:=(List.range s.marks.length).any (λi=>match s.marks[i]?,C.clauses[i]? with|some m,some k=>nO k m p|_,_=>false)
def aG.ended(m:aG)(st:Int):aG:=⟨st,0,m.got,m.aT,false⟩
def aG.violated(m:aG):aG:=cond m.paused m (m.ended 4)
def aG.performed(m:aG)(need:Int):aG:=cond (m.got+1==need) (aG.ended ⟨m.status,m.left,m.got+1,m.aT,m.paused⟩ 3) ⟨m.status,m.left,m.got+1,m.aT,m.paused⟩
def aG.expired(m:aG)(fP:Int):aG:=cond ((m.status==1)&&decide (0<fP)) ⟨2,fP,m.got,m.aT,m.paused⟩ (m.ended 4)
def aG.runs(m:aG):Bool:=(m.status==1)||(m.status==2)
def gF(l:List Int)(x:Int):Int:=(l[x.toNat]?).getD 0
def bO(hs:List Int)(a:eY):Int:=cond (a.role== -1) (-1) (gF hs a.role)
def jD(hs:List Int)(k:aN):Int:=cond (k.kind==4) (-1) (gF hs k.role)
def p9(hs:List Int)(k:aN):aG:=⟨1,k.after,0,jD hs k,false⟩
def fI(C:aH)(ms:List aG)(i:Nat):Bool:=match C.clauses[i]?,ms[i]? with|some k,some m=>eP ms k m|_,_=>false
def gZ(C:aH)(hs:List Int)(ms:List aG)(i:Nat):List aG:=match C.clauses[i]? with|some k=>cond (fI C ms i) (ms.set i (p9 hs k)) ms|none=>ms
def bR(C:aH)(hs:List Int)(ms:List aG):Nat->List aG
 |0=>ms
 |j+1=>gZ C hs (bR C hs ms j) j
def dh(C:aH)(hs:List Int)(ms:List aG):Nat->Bool
 |0=>false
 |j+1=>dh C hs ms j||fI C (bR C hs ms j) j
def idle(ms:List aG):Nat:=(ms.filter (λm=>m.status==0)).length
theorem uG(C:aH)(hs:List Int)(ms:List aG)(i:Nat):(gZ C hs ms i).length=ms.length:=by
 unfold gZ;cases C.clauses[i]? with
 |none=>rfl
 |some k=>cases fI C ms i<;>simp
theorem nP(C:aH)(hs:List Int)(ms:List aG):∀j,(bR C hs ms j).length=ms.length
 |0=>rfl
 |j+1=>by rw[bR,uG,nP C hs ms j]
theorem J5{l:List aG}{i:Nat}{m m':aG}(hm:l[i]?=some m)(h0:(m.status==0)=true)(h1:(m'.status==0)=false):idle (l.set i m')+1=idle l:=by
 induction l generalizing i with
 |nil=>simp at hm
 |cons a l ih=>
  cases i with
  |zero=>
   simp at hm;subst hm;simp only[idle,List.set_cons_zero,List.filter_cons,h0,h1,if_true];simp
  |succ i=>
   have:=ih (i:=i) (by simpa using hm);simp only[idle,List.set_cons_succ,List.filter_cons]at this⊢;split
   .simp only[List.length_cons]
    omega
   .exact this
theorem rJ(C:aH)(hs:List Int)(ms:List aG)(i:Nat):(fI C ms i=true->idle (gZ C hs ms i)+1=idle ms)/\(fI C ms i=false->gZ C hs ms i=ms):=by
 refine⟨λh=>?_,λh=>?_⟩
 .have hf:=h
  unfold fI at hf;unfold gZ;cases hk:C.clauses[i]? with
  |none=>simp[hk]at hf
  |some k=>
   cases hm:ms[i]? with
   |none=>simp[hk,hm]at hf
   |some m=>
    simp only[hk,hm]at hf;simp only[h,cond_true];refine J5 hm ?_ rfl;unfold eP at hf;simp only[Bool.and_eq_true]at hf;exact hf.1
 .unfold gZ
  cases hk:C.clauses[i]? with
  |none=>rfl
  |some k=>simp only[h,cond_false]
theorem fV(C:aH)(hs:List Int)(ms:List aG):∀j,(dh C hs ms j=true->idle (bR C hs ms j)<idle ms)/\(dh C hs ms j=false->bR C hs ms j=ms)
 |0=>⟨λh=>(by cases h),λ_=>rfl⟩
 |j+1=>by
  obtain⟨h1,h2⟩:=fV C hs ms j;obtain⟨h3,h4⟩:=rJ C hs (bR C hs ms j) j;refine⟨λh=>?_,λh=>?_⟩
  .rw[dh,Bool.or_eq_true]at h
   rw[bR];cases hf:fI C (bR C hs ms j) j with
   |true=>
    have h5:=h3 hf;cases hg:dh C hs ms j with
    |true=>have:=h1 hg;omega
    |false=>rw[h2 hg]at h5⊢;omega
   |false=>
    rw[h4 hf];rcases h with h|h
    .exact h1 h
    .rw[hf]at h;cases h
  .rw[dh,Bool.or_eq_false_iff]at h
   rw[bR,h4 h.2,h2 h.1]
def gG(C:aH)(hs:List Int):Nat->List aG->List aG
 |0,ms=>ms
 |f+1,ms=>cond (dh C hs ms C.clauses.length) (gG C hs f (bR C hs ms C.clauses.length)) ms
theorem qb(C:aH)(hs:List Int):∀(f f':Nat)(ms:List aG),idle ms<f->idle ms<f'->gG C hs f ms=gG C hs f' ms
 |0,_,_,h,_=>by omega
 |_,0,_,_,h=>by omega
 |f+1,f'+1,ms,h,h'=>by
  rw[gG,gG];cases hf:dh C hs ms C.clauses.length with
  |false=>rfl
  |true=>
   have:=(fV C hs ms C.clauses.length).1 hf;simp only[cond_true];exact qb C hs f f' _ (by omega) (by omega)
def aH.begin(C:aH)(hs:List Int)(ms:List aG):List aG:=gG C hs (idle ms+1) ms
theorem BH{C:aH}{hs:List Int}{ms:List aG}(h:dh C hs ms C.clauses.length=true):C.begin hs ms=C.begin hs (bR C hs ms C.clauses.length):=by
 have h1:=(fV C hs ms C.clauses.length).1 h;unfold aH.begin;rw[gG,h,cond_true];exact qb C hs _ _ _ h1 (by omega)
theorem BI{C:aH}{hs:List Int}{ms:List aG}(h:dh C hs ms C.clauses.length=false):C.begin hs ms=ms:=by
 unfold aH.begin;rw[gG,h,cond_false]
def g_(ms:List aG):Nat->List Nat
 |0=>[]
 |k+1=>match ms[k]? with|some m=>cond m.runs (g_ ms k++[k]) (g_ ms k)|none=>g_ ms k
def eD(C:aH)(give tgt:Int)(i:Nat)(ms:List aG):List aG:=
 match C.clauses[i]?,ms[i]? with
 |some k,some m=>cond ((k.kind !=4)&&(k.role==give)) (ms.set i ⟨m.status,m.left,m.got,tgt,m.paused⟩) ms
 |_,_=>ms
theorem jV(C:aH)(give tgt:Int)(i:Nat)(ms:List aG):(eD C give tgt i ms).length=ms.length:=by
 unfold eD;split
 .rename_i k m _ _
  cases ((k.kind !=4)&&(k.role==give))<;>simp
 .rfl
theorem mP(C:aH)(give tgt:Int)(i:Nat)(ms:List aG)(j:Nat)(h:j≠i):(eD C give tgt i ms)[j]?=ms[j]?:=by
 unfold eD;split
 .rename_i k m _ _
  cases ((k.kind !=4)&&(k.role==give))
  .rfl
  .simp only[cond_true]
   rw[List.getElem?_set,if_neg (λe=>h e.symm)]
 .rfl
def aH.shift(C:aH)(i:Nat)(a:eY)(s:aO):aO:=
 ⟨s.day,s.aC.set a.give.toNat a.tgt,s.used.set i true,cond (a.kind !=3) s.marks ((g_ s.marks s.marks.length).foldl (λms j=>eD C a.give a.tgt j ms) s.marks)⟩
theorem yH(upd:Nat->List aG->List aG)(zq:∀i ms,(upd i ms).length=ms.length):∀(l:List Nat)(ms:List aG),(l.foldl (λms i=>upd i ms) ms).length=ms.length
 |[],_=>rfl
 |x::l,ms=>by rw[List.foldl_cons,yH upd zq l,zq]
def dJ(C:aH)(act:Int)(i:Nat)(ms:List aG):List aG:=
 match C.clauses[i]?,ms[i]? with
 |some k,some m=>cond (act==k.pause) (ms.set i ⟨m.status,m.left,m.got,m.aT,true⟩) (cond (act==k.resume) (ms.set i ⟨m.status,m.left,m.got,m.aT,false⟩) ms)
 |_,_=>ms
def aG.hit(m:aG)(k:aN):aG:=cond (k.kind==1) (m.performed k.need) (cond (k.kind==2) m.violated (m.ended 3))
def d_(C:aH)(act who:Int)(i:Nat)(ms:List aG):List aG:=
 match C.clauses[i]?,ms[i]? with
 |some k,some m=>cond ((k.act==act)&&((k.kind==4)||(m.aT==who))) (ms.set i (m.hit k)) ms
 |_,_=>ms
def aG.due(m:aG)(k:aN):aG:=cond (k.kind==1) (m.expired k.fP) (cond (k.kind==2) (m.ended 3) (m.ended 5))
def aG.u_(m:aG)(k:aN):aG:=cond (m.left - 1==0) (aG.due ⟨m.status,m.left - 1,m.got,m.aT,m.paused⟩ k) ⟨m.status,m.left - 1,m.got,m.aT,m.paused⟩
def gJ(C:aH)(free:Bool)(i:Nat)(ms:List aG):List aG:=
 match C.clauses[i]?,ms[i]? with
 |some k,some m=>cond (m.paused||(k.gW&&free)) ms (ms.set i (m.u_ k))
 |_,_=>ms
theorem qd(C:aH)(act:Int)(i:Nat)(ms:List aG):(dJ C act i ms).length=ms.length:=by
 unfold dJ;split
 .rename_i k m _ _
  cases (act==k.pause)<;>cases (act==k.resume)<;>simp
 .rfl
theorem mQ(C:aH)(act:Int)(i:Nat)(ms:List aG)(j:Nat)(h:j≠i):(dJ C act i ms)[j]?=ms[j]?:=by
 have h2:∀x,(ms.set i x)[j]?=ms[j]?:=λx=>by rw[List.getElem?_set,if_neg (λe=>h e.symm)]
 unfold dJ;split
 .rename_i k m _ _
  cases (act==k.pause)<;>cases (act==k.resume)<;>simp only[cond_true,cond_false,h2]
 .rfl
theorem uH(C:aH)(act who:Int)(i:Nat)(ms:List aG):(d_ C act who i ms).length=ms.length:=by
 unfold d_;split
 .rename_i k m _ _
  cases ((k.act==act)&&((k.kind==4)||(m.aT==who)))<;>simp
 .rfl
theorem qg(C:aH)(act who:Int)(i:Nat)(ms:List aG)(j:Nat)(h:j≠i):(d_ C act who i ms)[j]?=ms[j]?:=by
 have h2:∀x,(ms.set i x)[j]?=ms[j]?:=λx=>by rw[List.getElem?_set,if_neg (λe=>h e.symm)]
 unfold d_;split
 .rename_i k m _ _
  cases ((k.act==act)&&((k.kind==4)||(m.aT==who)))<;>simp only[cond_true,cond_false,h2]
 .rfl
theorem rM(C:aH)(free:Bool)(i:Nat)(ms:List aG):(gJ C free i ms).length=ms.length:=by
 unfold gJ;split
 .rename_i k m _ _
  cases (m.paused||(k.gW&&free))<;>simp
 .rfl
theorem nR(C:aH)(free:Bool)(i:Nat)(ms:List aG)(j:Nat)(h:j≠i):(gJ C free i ms)[j]?=ms[j]?:=by
 have h2:∀x,(ms.set i x)[j]?=ms[j]?:=λx=>by rw[List.getElem?_set,if_neg (λe=>h e.symm)]
 unfold gJ;split
 .rename_i k m _ _
  cases (m.paused||(k.gW&&free))<;>simp only[cond_true,cond_false,h2]
 .rfl
def aH.paused(C:aH)(act:Int)(ms:List aG):List aG:=(g_ ms ms.length).foldl (λms j=>dJ C act j ms) ms
def aH.wK(C:aH)(act who:Int)(ms:List aG):List aG:=(g_ ms ms.length).foldl (λms j=>d_ C act who j ms) ms
def aH.Ae(C:aH)(free:Bool)(ms:List aG):List aG:=(g_ ms ms.length).foldl (λms j=>gJ C free j ms) ms
def aH.act(C:aH)(i:Nat)(a:eY)(s:aO):aO:=
 cond ((a.kind !=1)&&s.used.getD i false) s
  (let s2:aO:=⟨s.day,s.aC,s.used,C.wK i (bO s.aC a) (C.paused i s.marks)⟩
   let s3:=cond (a.kind !=1) (C.shift i a s2) s2
   ⟨s3.day,s3.aC,s3.used,C.begin s3.aC s3.marks⟩)
def aH.tick(C:aH)(s:aO):aO:=
 ⟨s.day+1,s.aC,s.used,C.begin s.aC (C.Ae (C.off.contains s.day) s.marks)⟩
theorem yI(upd:Nat->List aG->List aG)(f:Nat->aG->aG)(hu:∀i ms j,j≠i->(upd i ms)[j]?=ms[j]?)(hs:∀i ms,(upd i ms)[i]?=(ms[i]?).map (f i))(ms:List aG):∀(k j:Nat),
 ((g_ ms k).foldl (λms i=>upd i ms) ms)[j]?=(ms[j]?).map (λm=>cond (decide (j<k)&&m.runs) (f j m) m)
 |0,j=>by simp[g_]
 |k+1,j=>by
  have ih:=yI upd f hu hs ms k;unfold g_;by_cases hjk:j=k
  .subst hjk
   cases hm:ms[j]? with
   |none=>
    have h2:=ih j;rw[hm]at h2;simpa using h2
   |some m=>
    have h2:=ih j;rw[hm]at h2;simp only[Option.map_some,show decide (j<j)=false by simp,Bool.false_and,cond_false]at h2;cases hr:m.runs with
    |false=>
     simp only[cond_false,Option.map_some,hr,Bool.and_false];exact h2
    |true=>
     simp only[cond_true,List.foldl_append,List.foldl_cons,List.foldl_nil,Option.map_some,hr,show decide (j<j+1)=true by simp,Bool.and_true];rw[hs,h2];rfl
  .have hlt:decide (j<k+1)=decide (j<k):=by
    by_cases h:j<k
    .rw[decide_eq_true h,decide_eq_true (by omega)]
    .rw[decide_eq_false h,decide_eq_false (by omega)]
   rw[hlt];cases hm:ms[k]? with
   |none=>exact ih j
   |some m=>
    cases hr:m.runs with
    |false=>simpa [hr]using ih j
    |true=>
     simp only[hr,cond_true,List.foldl_append,List.foldl_cons,List.foldl_nil];rw[hu _ _ _ hjk];exact ih j
theorem iL(upd:Nat->List aG->List aG)(f:Nat->aG->aG)(hu:∀i ms j,j≠i->(upd i ms)[j]?=ms[j]?)(hs:∀i ms,(upd i ms)[i]?=(ms[i]?).map (f i))(ms:List aG)(j:Nat):
 ((g_ ms ms.length).foldl (λms i=>upd i ms) ms)[j]?=(ms[j]?).map (λm=>cond m.runs (f j m) m):=by
 rw[yI upd f hu hs ms ms.length j];cases hm:ms[j]? with
 |none=>rfl
 |some m=>
  have hj:j<ms.length:=(List.getElem?_eq_some_iff.1 hm).1;simp[hj]
def nS(C:aH)(act:Int)(i:Nat)(m:aG):aG:=
 match C.clauses[i]? with
 |some k=>cond (act==k.pause) ⟨m.status,m.left,m.got,m.aT,true⟩ (cond (act==k.resume) ⟨m.status,m.left,m.got,m.aT,false⟩ m)
 |none=>m
def wL(C:aH)(act who:Int)(i:Nat)(m:aG):aG:=
 match C.clauses[i]? with
 |some k=>cond ((k.act==act)&&((k.kind==4)||(m.aT==who))) (m.hit k) m
 |none=>m
def rO(C:aH)(free:Bool)(i:Nat)(m:aG):aG:=
 match C.clauses[i]? with
 |some k=>cond (m.paused||(k.gW&&free)) m (m.u_ k)
 |none=>m
def rP(C:aH)(give tgt:Int)(i:Nat)(m:aG):aG:=
 match C.clauses[i]? with
 |some k=>cond ((k.kind !=4)&&(k.role==give)) ⟨m.status,m.left,m.got,tgt,m.paused⟩ m
 |none=>m
theorem kU{ms:List aG}{i:Nat}{m:aG}(hm:ms[i]?=some m)(x:aG):(ms.set i x)[i]?=some x:=List.getElem?_set_self (List.getElem?_eq_some_iff.1 hm).1
theorem wM(C:aH)(act:Int)(i:Nat)(ms:List aG):(dJ C act i ms)[i]?=(ms[i]?).map (nS C act i):=by
 unfold dJ nS;cases hk:C.clauses[i]? with
 |none=>cases ms[i]?<;>rfl
 |some k=>
  cases hm:ms[i]? with
  |none=>simp[hm]
  |some m=>cases h1:(act==k.pause)<;>cases h2:(act==k.resume)<;>simp only[h1,h2,cond_true,cond_false,Option.map_some]<;>first|exact kU hm _|exact hm
theorem Af(C:aH)(act who:Int)(i:Nat)(ms:List aG):(d_ C act who i ms)[i]?=(ms[i]?).map (wL C act who i):=by
 unfold d_ wL;cases hk:C.clauses[i]? with
 |none=>cases ms[i]?<;>rfl
 |some k=>
  cases hm:ms[i]? with
  |none=>simp[hm]
  |some m=>cases h1:((k.act==act)&&((k.kind==4)||(m.aT==who)))<;>simp only[h1,cond_true,cond_false,Option.map_some]<;>first|exact kU hm _|exact hm
theorem xY(C:aH)(free:Bool)(i:Nat)(ms:List aG):(gJ C free i ms)[i]?=(ms[i]?).map (rO C free i):=by
 unfold gJ rO;cases hk:C.clauses[i]? with
 |none=>cases ms[i]?<;>rfl
 |some k=>
  cases hm:ms[i]? with
  |none=>simp[hm]
  |some m=>cases h1:(m.paused||(k.gW&&free))<;>simp only[h1,cond_true,cond_false,Option.map_some]<;>first|exact kU hm _|exact hm
theorem wO(C:aH)(give tgt:Int)(i:Nat)(ms:List aG):(eD C give tgt i ms)[i]?=(ms[i]?).map (rP C give tgt i):=by
 unfold eD rP;cases hk:C.clauses[i]? with
 |none=>cases ms[i]?<;>rfl
 |some k=>
  cases hm:ms[i]? with
  |none=>simp[hm]
  |some m=>cases h1:((k.kind !=4)&&(k.role==give))<;>simp only[h1,cond_true,cond_false,Option.map_some]<;>first|exact kU hm _|exact hm
theorem wP(C:aH)(act:Int)(ms:List aG)(j:Nat):(C.paused act ms)[j]?=(ms[j]?).map (λm=>cond m.runs (nS C act j m) m):=
 iL _ _ (λi ms j h=>mQ C act i ms j h) (wM C act) ms j
theorem yJ(C:aH)(act who:Int)(ms:List aG)(j:Nat):(C.wK act who ms)[j]?=(ms[j]?).map (λm=>cond m.runs (wL C act who j m) m):=
 iL _ _ (λi ms j h=>qg C act who i ms j h) (Af C act who) ms j
theorem wQ(C:aH)(free:Bool)(ms:List aG)(j:Nat):(C.Ae free ms)[j]?=(ms[j]?).map (λm=>cond m.runs (rO C free j m) m):=
 iL _ _ (λi ms j h=>nR C free i ms j h) (xY C free) ms j
theorem BJ(C:aH)(give tgt:Int)(ms:List aG)(j:Nat):((g_ ms ms.length).foldl (λms i=>eD C give tgt i ms) ms)[j]?=(ms[j]?).map (λm=>cond m.runs (rP C give tgt j m) m):=
 iL _ _ (λi ms j h=>mP C give tgt i ms j h) (wO C give tgt) ms j
theorem qE{ms ms':List aG}{f:Nat->aG->aG}(h:∀j:Nat,ms'[j]?=(ms[j]?).map (f j)):ms'.length=ms.length:=by
 apply Nat.le_antisymm
 .rcases Nat.lt_or_ge ms.length ms'.length with h1|h1
  .have h2:=h ms.length
   rw[List.getElem?_eq_getElem h1,List.getElem?_eq_none (Nat.le_refl _)]at h2;cases h2
  .exact h1
 .rcases Nat.lt_or_ge ms'.length ms.length with h1|h1
  .have h2:=h ms'.length
   rw[List.getElem?_eq_getElem h1,List.getElem?_eq_none (Nat.le_refl _)]at h2;cases h2
  .exact h1
theorem Dy(C:aH)(act:Int)(ms:List aG):(C.paused act ms).length=ms.length:=qE (f:=λj m=>cond m.runs (nS C act j m) m) (wP C act ms)
theorem GN(C:aH)(act who:Int)(ms:List aG):(C.wK act who ms).length=ms.length:=qE (f:=λj m=>cond m.runs (wL C act who j m) m) (yJ C act who ms)
theorem Dz(C:aH)(free:Bool)(ms:List aG):(C.Ae free ms).length=ms.length:=qE (f:=λj m=>cond m.runs (rO C free j m) m) (wQ C free ms)
theorem oU{n:Nat}{f:Nat->Bool}(h:(List.range n).all f=true){i:Nat}(hi:i<n):f i=true:=List.all_eq_true.1 h i (List.mem_range.2 hi)
structure aH.Ok(C:aH):Prop where
 aK:1<=C.aK
 days:1<=C.days
 PY:C.days<=2000
 roles:C.aC.length≠0
 held:∀p∈C.aC,0<=p/\p<C.aK
 acts:∀a∈C.acts,C.nM a=true
 off:mO C.days (-1) C.off=true
 clauses:∀(i:Nat)(k:aN),C.clauses[i]?=some k->C.bW i k=true
 J8:C.aK<=12
 mq:C.aC.length<=12
 mR:C.acts.length<=60
 fQ:C.clauses.length<=400
theorem aH.ok{C:aH}(h:C.valid=true):C.Ok:=by
 simp only[aH.valid,aH.over,aH.framed,MU,Bool.and_eq_true,Bool.not_eq_true',Bool.or_eq_false_iff,decide_eq_false_iff_not]at h;obtain⟨⟨o1,o2,o3,o4,o5,o6⟩,⟨⟨f1,f2,f3,f4⟩,f5,f6,f7⟩,hc⟩:=h;refine⟨by omega,by omega,by omega,?_,?_,?_,f7,?_,by omega,by omega,by omega,by omega⟩
 .intro e
  rw[e]at f3;exact absurd f3 (by decide)
 .intro p hp
  have h1:=List.all_eq_true.1 f4 p hp;simp only[aH.party,Bool.and_eq_true,decide_eq_true_eq]at h1;exact h1
 .intro a ha
  exact List.all_eq_true.1 f6 a ha
 .intro i k hk
  have hi:i<C.clauses.length:=(List.getElem?_eq_some_iff.1 hk).1;have h1:=oU hc hi;rw[hk]at h1;exact h1
structure nT(C:aH)(i:Nat)(k:aN):Prop where
 ah9:0<=k.act
 ah_:k.act<C.acts.length
 PZ:1<=k.kind
 P5:k.kind<=4
 Rv:1<=k.after
 J9:k.after<=400
 role:k.kind≠4->0<=k.role/\k.role<C.aC.length
 VH:1<=k.need
 P6:k.need<=9
 abz:0<=k.fP
 J_:k.fP<=400
 abA:k.kind≠1->k.fP=0
 pause:k.pause≠ -1\/k.resume≠ -1->k.pause≠k.resume/\C.natural k.pause=true/\C.natural k.resume=true
 start:∀c∈k.start,0<=c.clause/\c.clause<C.clauses.length/\c.clause≠i/\1<=c.is/\c.is<=4
 wR:k.start.length<=8
theorem aH.Ok.clause{C:aH}(h:C.Ok){i:Nat}{k:aN}(hk:C.clauses[i]?=some k):nT C i k:=by
 have hc:=h.clauses i k hk;simp only[aH.bW,p8,iY,oP,jN,Bool.and_eq_true,Bool.not_eq_true',decide_eq_false_iff_not]at hc;obtain⟨⟨c1,c2,c3,c4,ck,c5⟩,cs,cp,_⟩:=hc;have hkd:1<=k.kind/\k.kind<=4/\(k.kind≠4->0<=k.role/\k.role<C.aC.length)/\1<=k.need/\k.need<=9/\0<=k.fP/\k.fP<=400/\(k.kind≠1->k.fP=0):=by
  cases q4:(k.kind==4)with
  |true=>
   simp only[q4,cond_true,Bool.and_eq_true,beq_iff_eq]at ck;have q4:k.kind=4:=by simpa using q4
   obtain⟨a1,a2,a3,_⟩:=ck;refine⟨by omega,by omega,λh=>absurd q4 h,by omega,by omega,by omega,by omega,λ_=>a3⟩
  |false=>
   simp only[q4,cond_false]at ck;have q4':k.kind≠4:=by simpa using q4
   cases qr:(!C.role k.role||C.natural k.act)with
   |true=>simp only[qr,cond_true]at ck;cases ck
   |false=>
    simp only[qr,cond_false]at ck;simp only[Bool.or_eq_false_iff,Bool.not_eq_false',aH.role,Bool.and_eq_true,decide_eq_true_eq]at qr;cases q1:(k.kind==1)with
    |true=>
     simp only[q1,cond_true,Bool.and_eq_true,decide_eq_true_eq]at ck;have q1:k.kind=1:=by simpa using q1
     refine⟨by omega,by omega,λ_=>qr.1,ck.1,ck.2.1,ck.2.2.1,ck.2.2.2,λh=>absurd q1 h⟩
    |false=>
     simp only[q1,cond_false]at ck;cases q2:(k.kind==2)with
     |true=>
      simp only[q2,cond_true,Bool.and_eq_true,beq_iff_eq]at ck;have q2:k.kind=2:=by simpa using q2
      refine⟨by omega,by omega,λ_=>qr.1,by omega,by omega,by omega,by omega,λ_=>ck.2⟩
     |false=>
      simp only[q2,cond_false]at ck;cases q3:(k.kind==3)with
      |true=>
       simp only[q3,cond_true,Bool.and_eq_true,beq_iff_eq]at ck;have q3:k.kind=3:=by simpa using q3
       refine⟨by omega,by omega,λ_=>qr.1,by omega,by omega,by omega,by omega,λ_=>ck.2.1⟩
      |false=>simp only[q3,cond_false]at ck;cases ck
 obtain⟨k1,k2,k3,k4,k5,k6,k7,k8⟩:=hkd;refine⟨by omega,by omega,k1,k2,by omega,by omega,k3,k4,k5,k6,k7,k8,?_,?_,by omega⟩
 .intro hp
  cases qp:(!(k.pause== -1)|| !(k.resume== -1))with
  |true=>
   simp only[qp,cond_true,Bool.and_eq_true,Bool.not_eq_true',beq_eq_false_iff_ne]at cp;exact⟨cp.1,cp.2.1,cp.2.2⟩
  |false=>
   simp only[Bool.or_eq_false_iff,Bool.not_eq_false',beq_iff_eq]at qp;omega
 .intro c hc
  have h1:=List.all_eq_true.1 cs c hc;simp only[rH,Bool.and_eq_true,Bool.not_eq_true',decide_eq_false_iff_not,beq_eq_false_iff_ne]at h1;obtain⟨e1,e2,e3,e4,e5⟩:=h1;exact⟨by omega,by omega,e3,by omega,by omega⟩
def bS(C:aH)(k:aN)(m:aG):Prop:=
 (m.status=0/\k.jw=false/\m.left=0/\m.got=0/\m.aT= -1/\m.paused=false)\/
 ((m.status=1/\m.left<=k.after\/m.status=2/\k.kind=1/\m.left<=k.fP)/\k.jw=false/\1<=m.left/\(m.paused=true->k.pause≠ -1)/\(m.got≠0->k.kind=1/\0<=m.got/\m.got<k.need)/\(k.kind=4->m.aT= -1)/\(k.kind≠4->0<=m.aT/\m.aT<C.aK))\/
 ((m.status=3\/m.status=4\/m.status=5)/\m.left=0/\0<=m.got/\m.got<=9/\ -1<=m.aT/\m.aT<C.aK/\m.paused=false)
theorem wS(C:aH)(k:aN)(m:aG):C.jB k m=true↔bS C k m:=by
 obtain⟨ms,ml,mg,mb,mp⟩:=m;obtain⟨ki,ro,ac,ne,start,af,gr,bu,fi,pa,re,va,un,tg,wa⟩:=k;simp only[aH.jB,bS,jO];cases q0:(ms==0)with
 |true=>
  have h0:ms=0:=by simpa using q0
  subst h0;cases wa<;>cases mp<;>simp[nN]
 |false=>
  have h0:ms≠0:=by simpa using q0
  have hrun:jy C ki ne pa wa ml mg mb mp=true↔(wa=false/\1<=ml/\(mp=true->pa≠ -1)/\(mg≠0->ki=1/\0<=mg/\mg<ne)/\(ki=4->mb= -1)/\(ki≠4->0<=mb/\mb<C.aK)):=by
   simp only[jy];cases wa with
   |true=>simp
   |false=>
    cases q1:(decide (ml<1)||(mp&&(pa== -1)))with
    |true=>
     simp only[Bool.or_eq_true,decide_eq_true_eq,Bool.and_eq_true,beq_iff_eq]at q1;simp only[Bool.false_or,cond_true];constructor
     .intro h;cases h
     .rintro⟨_,a1,a2,_⟩
      rcases q1 with h|⟨h1,h2⟩
      .omega
      .exact absurd h2 (a2 h1)
    |false=>
     simp only[Bool.or_eq_false_iff,decide_eq_false_iff_not]at q1;have hp:mp=true->pa≠ -1:=by
      intro hm e;rw[hm,e]at q1;exact absurd q1.2 (by decide)
     simp only[Bool.false_or,cond_false];cases q2:(!(mg==0)&&(!(ki==1)||(decide (mg<0)||decide (ne<=mg))))with
     |true=>
      simp only[Bool.and_eq_true,Bool.not_eq_true',beq_eq_false_iff_ne,Bool.or_eq_true,decide_eq_true_eq]at q2;simp only[cond_true];constructor
      .intro h;cases h
      .rintro⟨_,_,_,a3,_⟩
       have:=a3 q2.1;omega
     |false=>
      have q3:mg≠0->ki=1/\0<=mg/\mg<ne:=by
       intro hne;simp only[show(mg==0)=false by simpa using hne,Bool.not_false,Bool.true_and,Bool.or_eq_false_iff,Bool.not_eq_false',beq_iff_eq,decide_eq_false_iff_not]at q2;omega
      simp only[cond_false];cases q4:(ki==4)with
      |true=>
       have h4:ki=4:=by simpa using q4
       simp only[cond_true,beq_iff_eq];constructor
       .intro h;exact⟨trivial,by omega,hp,q3,λ_=>h,λh=>absurd h4 h⟩
       .rintro⟨_,_,_,_,a4,_⟩;exact a4 h4
      |false=>
       have h4:ki≠4:=by simpa using q4
       simp only[cond_false,Bool.and_eq_true,decide_eq_true_eq];constructor
       .intro h;exact⟨trivial,by omega,hp,q3,λh=>absurd h h4,λ_=>h⟩
       .rintro⟨_,_,_,_,_,a4⟩;exact a4 h4
  simp only[cond_false];cases q1:(ms==1)with
  |true=>
   have h1:ms=1:=by simpa using q1
   subst h1;simp only[cond_true,Bool.and_eq_true,decide_eq_true_eq,hrun];constructor
   .rintro⟨a,b⟩;exact .inr (.inl ⟨.inl ⟨trivial,a⟩,b⟩)
   .rintro(⟨h,_⟩|⟨h|⟨h,_⟩,b⟩|⟨h,_⟩)
    .omega
    .exact⟨h.2,b⟩
    .omega
    .omega
  |false=>
   have h1:ms≠1:=by simpa using q1
   simp only[cond_false];cases q2:(ms==2)with
   |true=>
    have h2:ms=2:=by simpa using q2
    subst h2;simp only[cond_true,Bool.and_eq_true,decide_eq_true_eq,beq_iff_eq,hrun];constructor
    .rintro⟨a0,a,b⟩;exact .inr (.inl ⟨.inr ⟨trivial,a0,a⟩,b⟩)
    .rintro(⟨h,_⟩|⟨⟨h,_⟩|h,b⟩|⟨h,_⟩)
     .omega
     .omega
     .exact⟨h.2.1,h.2.2,b⟩
     .omega
   |false=>
    have h2:ms≠2:=by simpa using q2
    simp only[cond_false];cases q3:((ms==3)||((ms==4)||(ms==5)))with
    |true=>
     simp only[Bool.or_eq_true,beq_iff_eq]at q3;simp only[cond_true,Bool.and_eq_true,beq_iff_eq,decide_eq_true_eq,Bool.not_eq_true'];constructor
     .intro h;exact .inr (.inr ⟨q3,h⟩)
     .rintro(⟨h,_⟩|⟨⟨h,_⟩|⟨h,_⟩,_⟩|⟨_,b⟩)
      .omega
      .omega
      .omega
      .exact b
    |false=>
     simp only[Bool.or_eq_false_iff,beq_eq_false_iff_ne]at q3;simp only[cond_false];constructor
     .intro h;cases h
     .rintro(⟨h,_⟩|⟨⟨h,_⟩|⟨h,_⟩,_⟩|⟨h,_⟩)<;>omega
theorem kV(m:aG):m.runs=true↔m.status=1\/m.status=2:=by simp[aG.runs]
section
variable {C:aH} {i:Nat} {k:aN} {m:aG}
theorem bS.ended(h:bS C k m)(hr:m.runs=true)(hp:1<=C.aK){st:Int}(hst:st=3\/st=4\/st=5)(g:Int)(hg0:0<=g)(hg:g<=9):bS C k ⟨st,0,g,m.aT,false⟩:=by
 rw[kV]at hr;rcases h with⟨h0,_⟩|⟨_,_,_,_,_,hb1,hb2⟩|⟨h0,_⟩
 .omega
 .refine .inr (.inr ⟨hst,rfl,hg0,hg,?_,?_,rfl⟩)
  .by_cases h4:k.kind=4
   .have h5:=hb1 h4;show -1<=m.aT;omega
   .have h5:=hb2 h4;show -1<=m.aT;omega
  .by_cases h4:k.kind=4
   .have h5:=hb1 h4;show m.aT<_;omega
   .have h5:=hb2 h4;show m.aT<_;omega
 .omega
theorem bS.got(hk:nT C i k)(h:bS C k m):0<=m.got/\m.got<=9:=by
 have:=hk.P6;rcases h with⟨_,_,_,h0,_⟩|⟨_,_,_,_,h0,_⟩|⟨_,_,h0,h1,_⟩
 .omega
 .by_cases hg:m.got=0
  .omega
  .have:=h0 hg;omega
 .omega
theorem bS.NY(h:bS C k m)(hr:m.runs=true)(hp:k.pause≠ -1)(b:Bool):bS C k ⟨m.status,m.left,m.got,m.aT,b⟩:=by
 rw[kV]at hr;rcases h with⟨h0,_⟩|⟨h1,h2,h3,h4,h5⟩|⟨h0,_⟩
 .omega
 .exact .inr (.inl ⟨h1,h2,h3,λ_=>hp,h5⟩)
 .omega
theorem bS.resumed(h:bS C k m)(hr:m.runs=true):bS C k ⟨m.status,m.left,m.got,m.aT,false⟩:=by
 rw[kV]at hr;rcases h with⟨h0,_⟩|⟨h1,h2,h3,h4,h5⟩|⟨h0,_⟩
 .omega
 .exact .inr (.inl ⟨h1,h2,h3,(λh=>by cases h),h5⟩)
 .omega
theorem bS.borne(h:bS C k m)(hr:m.runs=true)(hk4:k.kind≠4){p:Int}(h0:0<=p)(h1:p<C.aK):bS C k ⟨m.status,m.left,m.got,p,m.paused⟩:=by
 rw[kV]at hr;rcases h with⟨h0,_⟩|⟨a1,a2,a3,a4,a5,_⟩|⟨h0,_⟩
 .omega
 .exact .inr (.inl ⟨a1,a2,a3,a4,a5,λh=>absurd h hk4,λ_=>⟨h0,h1⟩⟩)
 .omega
theorem bS.hit(hk:nT C i k)(h:bS C k m)(hr:m.runs=true)(hp:1<=C.aK):bS C k (m.hit k):=by
 have hg:=h.got hk;have n1:=hk.VH;have n2:=hk.P6;have hr':=hr;rw[kV]at hr';unfold aG.hit;cases q1:(k.kind==1)with
 |true=>
  have h1:k.kind=1:=by simpa using q1
  simp only[cond_true,aG.performed];cases q:(m.got+1==k.need)with
  |true=>
   have hq:m.got+1=k.need:=by simpa using q
   simp only[cond_true,aG.ended];exact h.ended hr hp (.inl rfl) _ (by omega) (by omega)
  |false=>
   have hq:m.got+1≠k.need:=by simpa using q
   simp only[cond_false];rcases h with⟨h0,_⟩|⟨a1,a2,a3,a4,a5,a6⟩|⟨h0,_⟩
   .omega
   .refine .inr (.inl ⟨a1,a2,a3,a4,λ_=>⟨h1,?_,?_⟩,a6⟩)
    .show 0<=m.got+1;omega
    .show m.got+1<k.need
     by_cases h0:m.got=0
     .omega
     .have:=a5 h0;omega
   .omega
 |false=>
  simp only[cond_false];cases q2:(k.kind==2)with
  |true=>
   simp only[cond_true,aG.violated];cases m.paused with
   |true=>exact h
   |false=>exact h.ended hr hp (.inr (.inl rfl)) _ hg.1 hg.2
  |false=>exact h.ended hr hp (.inl rfl) _ hg.1 hg.2
theorem bS.u_(hk:nT C i k)(h:bS C k m)(hr:m.runs=true)(hp:1<=C.aK):bS C k (m.u_ k):=by
 have hg:=h.got hk;have hr':=hr;rw[kV]at hr';unfold aG.u_;have hl:1<=m.left/\(m.status=1->m.left<=k.after)/\(m.status=2->k.kind=1/\m.left<=k.fP):=by
  rcases h with⟨h0,_⟩|⟨a1,_,a3,_⟩|⟨h0,_⟩
  .omega
  .exact⟨a3,λ_=>by omega,λ_=>by omega⟩
  .omega
 cases q:(m.left - 1==0)with
 |true=>
  simp only[cond_true,aG.due];cases q1:(k.kind==1)with
  |true=>
   have h1:k.kind=1:=by simpa using q1
   simp only[cond_true,aG.expired];cases q3:((m.status==1)&&decide (0<k.fP))with
   |true=>
    simp only[Bool.and_eq_true,beq_iff_eq,decide_eq_true_eq]at q3;simp only[cond_true];rcases h with⟨h0,_⟩|⟨a1,a2,a3,a4,a5,a6⟩|⟨h0,_⟩
    .omega
    .exact .inr (.inl ⟨.inr ⟨rfl,h1,Int.le_refl _⟩,a2,by show 1<=k.fP;omega,a4,a5,a6⟩)
    .omega
   |false=>exact h.ended hr hp (.inr (.inl rfl)) _ hg.1 hg.2
  |false=>
   simp only[cond_false];cases q2:(k.kind==2)with
   |true=>exact h.ended hr hp (.inl rfl) _ hg.1 hg.2
   |false=>exact h.ended hr hp (.inr (.inr rfl)) _ hg.1 hg.2
 |false=>
  have hq:m.left - 1≠0:=by simpa using q
  simp only[cond_false];rcases h with⟨h0,_⟩|⟨a1,a2,a3,a4,a5,a6⟩|⟨h0,_⟩
  .omega
  .refine .inr (.inl ⟨?_,a2,?_,a4,a5,a6⟩)
   .show(m.status=1/\m.left - 1<=k.after)\/(m.status=2/\k.kind=1/\m.left - 1<=k.fP)
    omega
   .show 1<=m.left - 1
    omega
  .omega
end
structure P7(C:aH)(a:eY):Prop where
 role:a.role≠ -1->0<=a.role/\a.role<C.aC.length
 kind:a.kind=1\/a.kind=2\/a.kind=3
 give:a.kind≠1->0<=a.give/\a.give<C.aC.length
 tgt:a.kind≠1->0<=a.tgt/\a.tgt<C.aK
 seen:a.kind=1->a.tgt= -1\/(0<=a.tgt/\a.tgt<C.aC.length)
theorem aH.Ok.act{C:aH}(h:C.Ok){a:eY}(ha:a∈C.acts):P7 C a:=by
 have hc:=h.acts a ha;simp only[aH.nM,nL]at hc;cases qr:(C.role a.role)with
 |false=>
  simp only[qr,Bool.not_false,cond_true,Bool.and_eq_true,beq_iff_eq,Bool.or_eq_true]at hc;obtain⟨h1,h2,h3,h4,_⟩:=hc;refine⟨λh=>absurd h2 h,.inl h1,λh=>absurd h1 h,λh=>absurd h1 h,λ_=>?_⟩;rcases h4 with h4|h4
  .exact .inl h4
  .simp only[aH.role,Bool.and_eq_true,decide_eq_true_eq]at h4
   exact .inr h4
 |true=>
  have qr':=qr;simp only[aH.role,Bool.and_eq_true,decide_eq_true_eq]at qr';simp only[qr,Bool.not_true,cond_false]at hc;cases q1:(a.kind==1)with
  |true=>
   have h1:a.kind=1:=by simpa using q1
   simp only[q1,cond_true]at hc;refine⟨λ_=>qr',.inl h1,λh=>absurd h1 h,λh=>absurd h1 h,λ_=>?_⟩;cases q2:(!(a.give==0)||(!(a.tgt== -1)&& !(C.role a.tgt)))with
   |true=>simp only[q2,cond_true]at hc;cases hc
   |false=>
    simp only[Bool.or_eq_false_iff,Bool.and_eq_false_iff,Bool.not_eq_false',beq_iff_eq]at q2;rcases q2.2 with h4|h4
    .exact .inl h4
    .simp only[aH.role,Bool.and_eq_true,decide_eq_true_eq]at h4
     exact .inr h4
  |false=>
   have h1:a.kind≠1:=by simpa using q1
   simp only[q1,cond_false]at hc;cases q2:((a.kind==2)||(a.kind==3))with
   |false=>simp only[q2,cond_false]at hc;cases hc
   |true=>
    simp only[q2,cond_true,Bool.and_eq_true,decide_eq_true_eq,aH.role]at hc;simp only[Bool.or_eq_true,beq_iff_eq]at q2;exact⟨λ_=>qr',.inr q2,λ_=>hc.1,λ_=>⟨hc.2.1,hc.2.2.1⟩,λh=>absurd h h1⟩
structure aU(C:aH)(s:aO):Prop where
 con:C.valid=true
 GQ:0<=s.day
 DC:s.day<=C.days
 lh:s.aC.length=C.aC.length
 lu:s.used.length=C.acts.length
 lm:s.marks.length=C.clauses.length
 held:∀p∈s.aC,0<=p/\p<C.aK
 used:∀(i:Nat)(a:eY),s.used[i]?=some true->C.acts[i]?=some a->a.kind≠1
 marks:∀(i:Nat)(m:aG)(k:aN),s.marks[i]?=some m->C.clauses[i]?=some k->bS C k m
 still:∀(i:Nat)(m:aG)(k:aN),s.marks[i]?=some m->C.clauses[i]?=some k->eP s.marks k m=false
theorem eU(C:aH)(s:aO):C.d9 s=true↔aU C s:=by
 constructor
 .intro h
  simp only[aH.d9,Iy,jC,wJ,qC,Bool.and_eq_true,Bool.not_eq_true',decide_eq_false_iff_not,beq_iff_eq]at h;obtain⟨h1,⟨h2,h3,h4,h5,h6⟩,h7,h8,h9⟩:=h;refine⟨h1,by omega,by omega,by omega,by omega,by omega,?_,?_,?_,?_⟩
  .intro p hp
   have h10:=List.all_eq_true.1 h7 p hp;simp only[tV,Bool.and_eq_true,Bool.not_eq_true',decide_eq_false_iff_not]at h10;omega
  .intro i a hu ha
   have h10:=oU h8 (List.getElem?_eq_some_iff.1 hu).1;rw[hu,ha]at h10;simpa using h10
  .intro i m k hm hk
   have h10:=oU h9 (List.getElem?_eq_some_iff.1 hm).1;rw[hm,hk]at h10;simp only[Bool.and_eq_true]at h10;exact(wS _ _ _).1 h10.1
  .intro i m k hm hk
   have h10:=oU h9 (List.getElem?_eq_some_iff.1 hm).1;rw[hm,hk]at h10;simp only[Bool.and_eq_true,Bool.not_eq_true']at h10;exact h10.2
 .intro h
  simp only[aH.d9,Iy,jC,wJ,qC,Bool.and_eq_true,Bool.not_eq_true',decide_eq_false_iff_not,beq_iff_eq];refine⟨h.con,⟨by have:=h.GQ;omega,by have:=h.DC;omega,by have:=h.lh;omega,by have:=h.lu;omega,by have:=h.lm;omega⟩,?_,?_,?_⟩
  .apply List.all_eq_true.2
   intro p hp;have:=h.held p hp;simp only[tV,Bool.and_eq_true,Bool.not_eq_true',decide_eq_false_iff_not];omega
  .apply List.all_eq_true.2
   intro i _;cases hu:s.used[i]? with
   |none=>rfl
   |some u=>
    cases ha:C.acts[i]? with
    |none=>rfl
    |some a=>
     cases u with
     |false=>simp
     |true=>
      have:=h.used i a hu ha;simpa using this
  .apply List.all_eq_true.2
   intro i _;cases hm:s.marks[i]? with
   |none=>rfl
   |some m=>
    cases hk:C.clauses[i]? with
    |none=>rfl
    |some k=>
     simp only[Bool.and_eq_true,Bool.not_eq_true'];exact⟨(wS _ _ _).2 (h.marks i m k hm hk),h.still i m k hm hk⟩
def VI(C:aH)(hs:List Int)(j:Nat)(m m':aG):Prop:=m'=m\/(m.status=0/\∃k,C.clauses[j]?=some k/\k.jw=false/\m'=p9 hs k)
theorem VI.trans{C:aH}{hs:List Int}{j:Nat}{a b c:aG}(h:VI C hs j a b)(h':VI C hs j b c):VI C hs j a c:=by
 rcases h with rfl|⟨h0,k,hk,hw,rfl⟩
 .exact h'
 .rcases h' with rfl|⟨h1,_⟩
  .exact .inr ⟨h0,k,hk,hw,rfl⟩
  .exact absurd h1 (by show(1:Int)≠0;decide)
def iI(C:aH)(hs:List Int)(ms ms':List aG):Prop:=ms'.length=ms.length/\∀(j:Nat)(m':aG),ms'[j]?=some m'->∃m,ms[j]?=some m/\VI C hs j m m'
theorem iI.refl(C:aH)(hs:List Int)(ms:List aG):iI C hs ms ms:=⟨rfl,λ_ m' h=>⟨m',h,.inl rfl⟩⟩
theorem iI.trans{C:aH}{hs:List Int}{a b c:List aG}(h:iI C hs a b)(h':iI C hs b c):iI C hs a c:=
 ⟨h'.1.trans h.1,λj m' hm=>by
  obtain⟨m1,h1,h2⟩:=h'.2 j m' hm;obtain⟨m2,h3,h4⟩:=h.2 j m1 h1;exact⟨m2,h3,h4.trans h2⟩⟩
theorem BK(C:aH)(hs:List Int)(ms:List aG)(i:Nat):iI C hs ms (gZ C hs ms i):=by
 refine⟨uG C hs ms i,λj m' hm=>?_⟩;cases hf:fI C ms i with
 |false=>
  rw[(rJ C hs ms i).2 hf]at hm;exact⟨m',hm,.inl rfl⟩
 |true=>
  have hf':=hf;unfold fI at hf';unfold gZ at hm;cases hk:C.clauses[i]? with
  |none=>simp[hk]at hf'
  |some k=>
   cases ZK:ms[i]? with
   |none=>simp[hk,ZK]at hf'
   |some m=>
    simp only[hk,ZK]at hf';simp only[hk,hf,cond_true]at hm;by_cases hij:i=j
    .subst hij
     rw[kU ZK]at hm;injection hm with hm
     simp only[eP,Bool.and_eq_true,beq_iff_eq,Bool.not_eq_true']at hf';exact⟨m,ZK,.inr ⟨hf'.1,k,hk,hf'.2.1,hm.symm⟩⟩
    .rw[List.getElem?_set,if_neg hij]at hm
     exact⟨m',hm,.inl rfl⟩
theorem uI(C:aH)(hs:List Int)(ms:List aG):∀n,iI C hs ms (bR C hs ms n)
 |0=>iI.refl _ _ _
 |n+1=>(uI C hs ms n).trans (BK C hs _ n)
theorem rQ(C:aH)(hs:List Int):∀(f:Nat)(ms:List aG),iI C hs ms (gG C hs f ms)
 |0,ms=>iI.refl _ _ _
 |f+1,ms=>by
  rw[gG];cases dh C hs ms C.clauses.length with
  |false=>exact iI.refl _ _ _
  |true=>exact(uI C hs ms _).trans (rQ C hs f _)
theorem yK(C:aH)(hs:List Int)(ms:List aG):iI C hs ms (C.begin hs ms):=rQ C hs _ ms
theorem qh(C:aH)(hs:List Int):∀(f:Nat)(ms:List aG),idle ms<f->dh C hs (gG C hs f ms) C.clauses.length=false
 |0,_,h=>by omega
 |f+1,ms,h=>by
  rw[gG];cases hf:dh C hs ms C.clauses.length with
  |false=>exact hf
  |true=>
   have:=(fV C hs ms C.clauses.length).1 hf;exact qh C hs f _ (by omega)
theorem wT{C:aH}{hs:List Int}{ms:List aG}:∀{n:Nat},dh C hs ms n=false->∀i,i<n->fI C ms i=false
 |0,_,i,hi=>by omega
 |n+1,h,i,hi=>by
  rw[dh,Bool.or_eq_false_iff]at h;by_cases hin:i=n
  .subst hin
   have h2:=(fV C hs ms i).2 h.1;rw[h2]at h;exact h.2
  .exact wT h.1 i (by omega)
theorem DF(C:aH)(hs:List Int)(ms:List aG)(i:Nat)(hi:i<C.clauses.length):fI C (C.begin hs ms) i=false:=wT (qh C hs _ ms (by omega)) i hi
theorem Ag{hs:List Int}{r:Int}(h0:0<=r)(h1:r<hs.length):gF hs r∈hs:=by
 unfold gF;have:r.toNat<hs.length:=by omega
 rw[List.getElem?_eq_getElem this];exact List.getElem_mem this
theorem Ka{C:aH}{hs:List Int}{i:Nat}{k:aN}(hk:nT C i k)(hw:k.jw=false)(hl:hs.length=C.aC.length)(hh:∀p∈hs,0<=p/\p<C.aK):bS C k (p9 hs k):=by
 refine .inr (.inl ⟨.inl ⟨rfl,Int.le_refl _⟩,hw,hk.Rv,(λh=>by cases h),λh=>absurd rfl h,λh=>?_,λh=>?_⟩)
 .simp[p9,jD,h]
 .have h4:(k.kind==4)=false:=by simpa using h
  have:=hk.role h;have h5:=hh _ (Ag (hs:=hs) this.1 (by omega));simp only[p9,jD,h4,cond_false];exact h5
theorem rR{C:aH}{hs:List Int}{ms:List aG}(hC:C.Ok)(hl:hs.length=C.aC.length)(hh:∀p∈hs,0<=p/\p<C.aK)(hm:∀(i:Nat)(m:aG)(k:aN),ms[i]?=some m->C.clauses[i]?=some k->bS C k m):
 (∀(i:Nat)(m:aG)(k:aN),(C.begin hs ms)[i]?=some m->C.clauses[i]?=some k->bS C k m)/\(∀(i:Nat)(m:aG)(k:aN),(C.begin hs ms)[i]?=some m->C.clauses[i]?=some k->eP (C.begin hs ms) k m=false):=by
 refine⟨λi m k h hk=>?_,λi m k h hk=>?_⟩
 .obtain⟨m0,h0,hb⟩:=(yK C hs ms).2 i m h
  rcases hb with rfl|⟨_,k',hk',hw,rfl⟩
  .exact hm i _ k h0 hk
  .rw[hk]at hk'
   injection hk' with hk'
   subst hk';exact Ka (hC.clause hk) hw hl hh
 .have h1:=DF C hs ms i (List.getElem?_eq_some_iff.1 hk).1
  unfold fI at h1;rw[hk,h]at h1;exact h1
theorem oV(C:aH)(hs:List Int)(ms:List aG):(C.begin hs ms).length=ms.length:=(yK C hs ms).1
theorem map_ok{C:aH}{ms ms':List aG}{f:Nat->aG->aG}(hg:∀j:Nat,ms'[j]?=(ms[j]?).map (λm=>cond m.runs (f j m) m))(hm:∀(i:Nat)(m:aG)(k:aN),ms[i]?=some m->C.clauses[i]?=some k->bS C k m)
 (hf:∀(i:Nat)(m:aG)(k:aN),C.clauses[i]?=some k->bS C k m->m.runs=true->bS C k (f i m)):∀(i:Nat)(m:aG)(k:aN),ms'[i]?=some m->C.clauses[i]?=some k->bS C k m:=by
 intro i m k h hk;rw[hg]at h;cases hm0:ms[i]? with
 |none=>rw[hm0]at h;cases h
 |some m0=>
  rw[hm0]at h;simp only[Option.map_some,Option.some.injEq]at h;have h1:=hm i m0 k hm0 hk;cases hr:m0.runs with
  |false=>
   rw[hr]at h;subst h;exact h1
  |true=>
   rw[hr]at h;subst h;exact hf i m0 k hk h1 hr
theorem GR{C:aH}{ms:List aG}{act:Int}(h0:0<=act)(hm:∀(i:Nat)(m:aG)(k:aN),ms[i]?=some m->C.clauses[i]?=some k->bS C k m):
 ∀(i:Nat)(m:aG)(k:aN),(C.paused act ms)[i]?=some m->C.clauses[i]?=some k->bS C k m:=
 map_ok (wP C act ms) hm (λi m k hk h hr=>by
  unfold nS;rw[hk];dsimp only;cases q1:(act==k.pause)with
  |true=>
   have e1:act=k.pause:=by simpa using q1
   exact h.NY hr (by omega) true
  |false=>
   cases q2:(act==k.resume)with
   |true=>exact h.resumed hr
   |false=>exact h)
theorem Kc{C:aH}(hC:C.Ok){ms:List aG}{act who:Int}(hm:∀(i:Nat)(m:aG)(k:aN),ms[i]?=some m->C.clauses[i]?=some k->bS C k m):
 ∀(i:Nat)(m:aG)(k:aN),(C.wK act who ms)[i]?=some m->C.clauses[i]?=some k->bS C k m:=
 map_ok (yJ C act who ms) hm (λi m k hk h hr=>by
  unfold wL;rw[hk];cases q1:((k.act==act)&&((k.kind==4)||(m.aT==who)))with
  |true=>simpa only[q1,cond_true]using h.hit (hC.clause hk) hr hC.aK
  |false=>simpa only[q1,cond_false]using h)
theorem GU{C:aH}(hC:C.Ok){ms:List aG}{free:Bool}(hm:∀(i:Nat)(m:aG)(k:aN),ms[i]?=some m->C.clauses[i]?=some k->bS C k m):
 ∀(i:Nat)(m:aG)(k:aN),(C.Ae free ms)[i]?=some m->C.clauses[i]?=some k->bS C k m:=
 map_ok (wQ C free ms) hm (λi m k hk h hr=>by
  unfold rO;rw[hk];cases q1:(m.paused||(k.gW&&free))with
  |true=>simpa only[q1,cond_true]using h
  |false=>simpa only[q1,cond_false]using h.u_ (hC.clause hk) hr hC.aK)
theorem DI{C:aH}{ms:List aG}{give tgt:Int}(h0:0<=tgt)(h1:tgt<C.aK)(hm:∀(i:Nat)(m:aG)(k:aN),ms[i]?=some m->C.clauses[i]?=some k->bS C k m):
 ∀(i:Nat)(m:aG)(k:aN),((g_ ms ms.length).foldl (λms j=>eD C give tgt j ms) ms)[i]?=some m->C.clauses[i]?=some k->bS C k m:=
 map_ok (BJ C give tgt ms) hm (λi m k hk h hr=>by
  unfold rP;rw[hk];dsimp only;cases q1:((k.kind !=4)&&(k.role==give))with
  |true=>
   simp only[Bool.and_eq_true,bne_iff_ne]at q1;exact h.borne hr q1.1 h0 h1
  |false=>exact h)
theorem NZ{C:aH}{s:aO}(h:aU C s)(hd:s.day<C.days):aU C (C.tick s):=by
 have hC:=aH.ok h.con;obtain⟨b1,b2⟩:=rR hC h.lh h.held (GU hC (free:=C.off.contains s.day) h.marks);exact⟨h.con,by show 0<=s.day+1;have:=h.GQ;omega,by show s.day+1<=C.days;omega,h.lh,h.lu,by show(C.begin _ _).length=_;rw[oV,Dz];exact h.lm,h.held,h.used,b1,b2⟩
theorem mem_set{α:Type}{l:List α}{i:Nat}{x y:α}(h:y∈l.set i x):y=x\/y∈l:=by
 rcases List.mem_or_eq_of_mem_set h with h|h
 .exact .inr h
 .exact .inl h
theorem Ke{C:aH}{s:aO}{i:Nat}{a:eY}(hA:P7 C a)(ha:C.acts[i]?=some a)(hk:a.kind≠1)(h1:s.aC.length=C.aC.length)(h2:s.used.length=C.acts.length)(h3:s.marks.length=C.clauses.length)(h4:∀p∈s.aC,0<=p/\p<C.aK)
 (h5:∀(i:Nat)(a:eY),s.used[i]?=some true->C.acts[i]?=some a->a.kind≠1)(h6:∀(i:Nat)(m:aG)(k:aN),s.marks[i]?=some m->C.clauses[i]?=some k->bS C k m):
 (C.shift i a s).aC.length=C.aC.length/\(C.shift i a s).used.length=C.acts.length/\(C.shift i a s).marks.length=C.clauses.length/\(∀p∈(C.shift i a s).aC,0<=p/\p<C.aK)/\(∀(j:Nat)(a':eY),(C.shift i a s).used[j]?=some true->C.acts[j]?=some a'->a'.kind≠1)/\
  (∀(j:Nat)(m:aG)(k:aN),(C.shift i a s).marks[j]?=some m->C.clauses[j]?=some k->bS C k m):=by
 refine⟨by simp[aH.shift,h1],by simp[aH.shift,h2],?_,?_,?_,?_⟩
 .simp only[aH.shift]
  cases (a.kind !=3)with
  |true=>exact h3
  |false=>simp only[cond_false];rw[yH _ (λi ms=>jV C _ _ i ms)];exact h3
 .intro p hp
  simp only[aH.shift]at hp;rcases mem_set hp with rfl|hp
  .exact hA.tgt hk
  .exact h4 p hp
 .intro j a' hu ha'
  simp only[aH.shift]at hu;by_cases hij:i=j
  .subst hij
   rw[ha]at ha';injection ha' with ha'
   subst ha';exact hk
  .rw[List.getElem?_set,if_neg hij]at hu
   exact h5 j a' hu ha'
 .simp only[aH.shift]
  cases (a.kind !=3)with
  |true=>exact h6
  |false=>exact DI (hA.tgt hk).1 (hA.tgt hk).2 h6
theorem Rw{C:aH}{s:aO}(h:aU C s){i:Nat}{a:eY}(ha:C.acts[i]?=some a):aU C (C.act i a s):=by
 have hC:=aH.ok h.con;have hA:=hC.act (List.mem_of_getElem? ha);unfold aH.act;cases q:((a.kind !=1)&&s.used.getD i false)with
 |true=>exact h
 |false=>
  simp only[cond_false];have hm:=Kc hC (who:=bO s.aC a) (act:=i) (GR (act:=i) (by omega) h.marks);have hl:(C.wK i (bO s.aC a) (C.paused i s.marks)).length=C.clauses.length:=by rw[GN,Dy];exact h.lm
  cases q1:(a.kind !=1)with
  |false=>
   simp only[cond_false];obtain⟨b1,b2⟩:=rR hC h.lh h.held hm;exact⟨h.con,h.GQ,h.DC,h.lh,h.lu,by show(C.begin _ _).length=_;rw[oV];exact hl,h.held,h.used,b1,b2⟩
  |true=>
   simp only[cond_true];have hk1:a.kind≠1:=by simpa using q1
   obtain⟨s1,s2,s3,s4,s5,s6⟩:=Ke (s:=⟨s.day,s.aC,s.used,C.wK i (bO s.aC a) (C.paused i s.marks)⟩) hA ha hk1 h.lh h.lu hl h.held h.used hm;obtain⟨b1,b2⟩:=rR hC s1 s4 s6;exact⟨h.con,h.GQ,h.DC,s1,s2,by show(C.begin _ _).length=_;rw[oV];exact s3,s4,s5,b1,b2⟩
def eF(k:aN):aG:=⟨cond k.jw 5 0,0,0, -1,false⟩
def aH.first(C:aH):aO:=⟨0,C.aC,List.replicate C.acts.length false,C.begin C.aC (C.clauses.map eF)⟩
theorem nU{C:aH}(h:C.valid=true):aU C C.first:=by
 have hC:=aH.ok h;obtain⟨b1,b2⟩:=rR (ms:=C.clauses.map eF) hC rfl hC.held (λi m k hm hk=>by
  rw[List.getElem?_map,hk]at hm;simp only[Option.map_some,Option.some.injEq]at hm;subst hm;have hp:=hC.aK;cases hw:k.jw with
  |true=>exact .inr (.inr ⟨.inr (.inr (by simp[eF,hw])),rfl,by simp[eF],by simp[eF],by simp[eF],by simp[eF];omega,rfl⟩)
  |false=>exact .inl ⟨by simp[eF,hw],hw,rfl,rfl,rfl,rfl⟩)
 refine⟨h,Int.le_refl _,by show 0<=C.days;have:=hC.days;omega,rfl,by simp[aH.first],by simp[aH.first,oV],hC.held,?_,b1,b2⟩;intro i a hu;simp only[aH.first]at hu;have:=List.mem_of_getElem? hu;simp at this
end
noncomputable section
open Classical
structure aS where
 st:aO
 own:Bool
def aH.bL(C:aH)(s:aO)(t:Int):aO:=if t= -1 then C.tick s else match C.acts[t.toNat]? with|some a=>C.act t.toNat a s|none=>s
def aH.doer(C:aH)(s:aO)(t:Int):Int:=match C.acts[t.toNat]? with|some a=>bO s.aC a|none=> -2
def aH.Iz(C:aH)(party:Int)(p:aS)(i:Nat):Prop:=(C.doer p.st i=party↔p.own=true)/\C.bL p.st i≠p.st
def aH.mD(C:aH)(p:aS):List (Int×aS):=(if p.own=true then[(-2,⟨p.st,false⟩)]else[])++(if p.own=false/\p.st.day<C.days then[(-1,⟨C.bL p.st (-1),true⟩)]else[])
def aH.mE(C:aH)(party:Int)(p:aS)(n:Nat):List (Int×aS):=((List.range n).filter λi=>decide (C.Iz party p i)).map λ(i:Nat)=>((i:Int),(⟨C.bL p.st i,true⟩:aS))
def aH.jW(C:aH)(party:Int)(p:aS):List (Int×aS):=C.mD p++(if p.st.day<C.days then C.mE party p C.acts.length else[])
theorem tX{C:aH}{party:Int}{p:aS}{n:Nat}:C.mE party p (n+1)=C.mE party p n++if C.Iz party p n then[((n:Int),⟨C.bL p.st n,true⟩)]else[]:=by
 unfold aH.mE;rw[List.range_succ,List.filter_append,List.map_append];congr 1;by_cases h:C.Iz party p n<;>simp[h]
inductive dI (C:aH) (party:Int):aS->Prop
 |lost {p:aS}:anyFailed C p.st party=true->dI C party p
 |own {p:aS}:p.own=true->(∀m q,(m,q)∈C.jW party p->dI C party q)->dI C party p
 |nV {p:aS} {m:Int} {q:aS}:p.own=false->(m,q)∈C.jW party p->dI C party q->dI C party p
inductive tY (C:aH) (party:Int) (p:aS):aS->Prop
 |refl:tY C party p p
 |step {q r:aS} {m:Int}:tY C party p q->(m,r)∈C.jW party q->tY C party p r
theorem tY.trans{C:aH}{party:Int}{p q r:aS}(a:tY C party p q)(b:tY C party q r):tY C party p r:=by
 induction b with
 |refl=>exact a
 |step _ h ih=>exact ih.step h
def gK(C:aH)(party:Int)(p:aS):Prop:=∃l:List aS,l.Nodup/\1500<l.length/\∀q∈l,tY C party p q
theorem gK.of{C:aH}{party:Int}{p q:aS}(h:gK C party q)(k:tY C party p q):gK C party p:=
 let⟨l,h1,h2,h3⟩:=h
 ⟨l,h1,h2,λr hr=>k.trans (h3 r hr)⟩
structure bX(C:aH)(party:Int)(p:aS)(P:List aS)(M:List (List (Int×Nat))):Prop where
 hd:P[0]?=some p
 nd:P.Nodup
 len:M.length=P.length
 mv:∀(i:Nat)(q:aS)(l:List (Int×Nat)),P[i]?=some q->M[i]?=some l->l.length=(C.jW party q).length/\∀(k:Nat)(m:Int)(j:Nat),l[k]?=some (m,j)->∃r,P[j]?=some r/\(C.jW party q)[k]?=some (m,r)
 rch:∀q∈P,tY C party p q
 small:P.length<=1500
section
variable {C:aH} {party:Int} {p q:aS} {P:List aS} {M:List (List (Int×Nat))}
theorem bX.row(a:bX C party p P M){i:Nat}(h:P[i]?=some q):∃l,M[i]?=some l:=
 ⟨M[i]'(by rw[a.len];exact(List.getElem?_eq_some_iff.1 h).1),List.getElem?_eq_some_iff.2 ⟨_,rfl⟩⟩
theorem bX.at_(a:bX C party p P M){i:Nat}{l:List (Int×Nat)}(h:P[i]?=some q)(hl:M[i]?=some l){k:Nat}{m:Int}{r:aS}(hk:(C.jW party q)[k]?=some (m,r)):∃j,l[k]?=some (m,j)/\P[j]?=some r:=by
 obtain⟨h1,h2⟩:=a.mv i q l h hl;have hlt:k<l.length:=by rw[h1];exact(List.getElem?_eq_some_iff.1 hk).1
 obtain⟨r',h3,h4⟩:=h2 k l[k].1 l[k].2 (List.getElem?_eq_some_iff.2 ⟨hlt,rfl⟩);rw[hk]at h4;cases h4
 exact⟨_,List.getElem?_eq_some_iff.2 ⟨hlt,rfl⟩,h3⟩
theorem bX.move(a:bX C party p P M){i:Nat}{l:List (Int×Nat)}(h:P[i]?=some q)(hl:M[i]?=some l){m:Int}{r:aS}(hk:(m,r)∈C.jW party q):∃j,(m,j)∈l/\P[j]?=some r:=by
 obtain⟨k,hk⟩:=List.getElem?_of_mem hk;obtain⟨j,h1,h2⟩:=a.at_ h hl hk;exact⟨j,List.mem_of_getElem? h1,h2⟩
theorem bX.back(a:bX C party p P M){i:Nat}{l:List (Int×Nat)}(h:P[i]?=some q)(hl:M[i]?=some l){m:Int}{j:Nat}(hk:(m,j)∈l):∃r,P[j]?=some r/\(m,r)∈C.jW party q:=by
 obtain⟨k,hk⟩:=List.getElem?_of_mem hk;obtain⟨r,h1,h2⟩:=(a.mv i q l h hl).2 k m j hk;exact⟨r,h1,List.mem_of_getElem? h2⟩
theorem bX.closed(a:bX C party p P M)(h:tY C party p q):q∈P:=by
 induction h with
 |refl=>exact List.mem_of_getElem? a.hd
 |step _ hm ih=>
  obtain⟨i,hi⟩:=List.getElem?_of_mem ih;obtain⟨l,hl⟩:=a.row hi;obtain⟨j,_,h2⟩:=a.move hi hl hm;exact List.mem_of_getElem? h2
theorem GV{l P:List aS}(h:l.Nodup)(hs:∀q∈l,q∈P):l.length<=P.length:=by
 induction l generalizing P with
 |nil=>exact Nat.zero_le _
 |cons a l ih=>
  rw[List.nodup_cons]at h;have ha:=hs a (by simp);have:=ih (P:=P.erase a) h.2 λq hq=>(List.mem_erase_of_ne (λe=>h.1 (by rw[<-e];exact hq))).2 (hs q (by simp[hq]));rw[List.length_erase_of_mem ha]at this;have:=List.length_pos_of_mem ha;simp only[List.length_cons];omega
theorem bX.Kg(a:bX C party p P M)(h:tY C party p q):¬gK C party q:=λ⟨l,h1,h2,h3⟩=>by
 have:=GV h1 λr hr=>a.closed (h.trans (h3 r hr));have:=a.small;omega
end
structure nW(C:aH)(party:Int)(P:List aS)(M:List (List (Int×Nat)))(r:List Int):Prop where
 len:r.length=P.length
 neg:∀(i:Nat)(x:Int),r[i]?=some x-> -1<=x
 lost:∀(i:Nat)(p:aS)(x:Int),P[i]?=some p->r[i]?=some x->(x=0↔anyFailed C p.st party=true)
 own:∀(i:Nat)(p:aS)(l:List (Int×Nat))(x:Int),P[i]?=some p->M[i]?=some l->r[i]?=some x->p.own=true->0<x->∀m j,(m,j)∈l->∃y,r[j]?=some y/\0<=y/\y<x
 nV:∀(i:Nat)(p:aS)(l:List (Int×Nat))(x:Int),P[i]?=some p->M[i]?=some l->r[i]?=some x->p.own=false->0<x->∃m j y,(m,j)∈l/\r[j]?=some y/\0<=y/\y<x
 N7:∀(i:Nat)(p:aS)(l:List (Int×Nat)),P[i]?=some p->M[i]?=some l->r[i]?=some (-1)->p.own=true->∃m j,(m,j)∈l/\r[j]?=some (-1)
 N8:∀(i:Nat)(p:aS)(l:List (Int×Nat)),P[i]?=some p->M[i]?=some l->r[i]?=some (-1)->p.own=false->∀m j,(m,j)∈l->r[j]?=some (-1)
section
variable {C:aH} {party:Int} {p q:aS} {P:List aS} {M:List (List (Int×Nat))} {r:List Int}
theorem nW.abC(a:bX C party p P M)(k:nW C party P M r):∀(x:Nat)(i:Nat)(q:aS),P[i]?=some q->r[i]?=some (x:Int)->dI C party q:=by
 intro x;induction x using Nat.strongRecOn with
 |_ x ih=>
  intro i q hi hx;by_cases h0:x=0
  .subst h0
   exact .lost ((k.lost i q 0 hi hx).1 rfl)
  .obtain⟨l,hl⟩:=a.row hi
   cases ho:q.own with
   |true=>
    refine .own ho λm q' hm=>?_;obtain⟨j,h1,h2⟩:=a.move hi hl hm;obtain⟨y,h3,h4,h5⟩:=k.own i q l x hi hl hx ho (by omega) m j h1;obtain⟨z,rfl⟩:=Int.eq_ofNat_of_zero_le h4;exact ih z (by omega) j q' h2 h3
   |false=>
    obtain⟨m,j,y,h1,h3,h4,h5⟩:=k.nV i q l x hi hl hx ho (by omega);obtain⟨q',h2,hm⟩:=a.back hi hl h1;obtain⟨z,rfl⟩:=Int.eq_ofNat_of_zero_le h4;exact .nV ho hm (ih z (by omega) j q' h2 h3)
theorem nW.N9(a:bX C party p P M)(k:nW C party P M r)(h:dI C party q):∀i:Nat,P[i]?=some q->r[i]?≠some (-1):=by
 induction h with
 |lost hf=>
  intro i hi e;have:=(k.lost i _ _ hi e).2 hf;omega
 |own ho _ ih=>
  intro i hi e;obtain⟨l,hl⟩:=a.row hi;obtain⟨m,j,h1,h2⟩:=k.N7 i _ l hi hl e ho;obtain⟨q',h3,h4⟩:=a.back hi hl h1;exact ih m q' h4 j h3 h2
 |nV ho hm _ ih=>
  intro i hi e;obtain⟨l,hl⟩:=a.row hi;obtain⟨j,h1,h2⟩:=a.move hi hl hm;exact ih j h2 (k.N8 i _ l hi hl e ho _ j h1)
theorem nW.safe(a:bX C party p P M)(k:nW C party P M r){i:Nat}{x:Int}(h:P[i]?=some q)(hx:r[i]?=some x):x= -1↔¬dI C party q:=by
 constructor
 .rintro rfl hd
  exact k.N9 a hd i h hx
 .intro hn
  have:=k.neg i x hx;by_cases e:x= -1
  .exact e
  .obtain⟨z,rfl⟩:=Int.eq_ofNat_of_zero_le (show 0<=x by omega)
   exact absurd (k.abC a z i q h hx) hn
end
def aH.decide(C:aH)(party:Int)(s s':aO)(t:Int):aS:=if 0<=t/\C.doer s t=party then⟨s',true⟩else⟨s,false⟩
structure fF(C:aH)(s:aO)(l:List Int)(S:List aO):Prop where
 hd:S[0]?=some s
 len:S.length=l.length+1
 step:∀(k:Nat)(t:Int)(a:aO),l[k]?=some t->S[k]?=some a-> -1<=t/\t<C.acts.length/\a.day<C.days/\S[k+1]?=some (C.bL a t)
theorem fF.nil(C:aH)(s:aO):fF C s [] [s]:=⟨rfl,rfl,λk t a h=>by cases h⟩
theorem fF.snoc{C:aH}{s:aO}{l:List Int}{S:List aO}(h:fF C s l S){t:Int}{a:aO}(ha:S[l.length]?=some a)(h1: -1<=t)(h2:t<C.acts.length)(h3:a.day<C.days):fF C s (l++[t]) (S++[C.bL a t]):=by
 have hl:=h.len;refine⟨?_,by simp[hl],λk u b hu hb=>?_⟩
 .rw[List.getElem?_append_left (by omega)];exact h.hd
 .by_cases hk:k<l.length
  .rw[List.getElem?_append_left hk]at hu
   rw[List.getElem?_append_left (by omega)]at hb;obtain⟨g1,g2,g3,g4⟩:=h.step k u b hu hb;refine⟨g1,g2,g3,?_⟩;rw[List.getElem?_append_left (by omega)];exact g4
  .have hk2:k<(l++[t]).length:=(List.getElem?_eq_some_iff.1 hu).1
   obtain rfl:k=l.length:=by simp at hk2;omega
   rw[List.getElem?_append_right (Nat.le_refl _)]at hu;rw[List.getElem?_append_left (by omega),ha]at hb;simp at hu;subst hu;cases hb
   refine⟨h1,h2,h3,?_⟩;rw[List.getElem?_append_right (by omega),hl];simp
end
end Go.Proofs.YtjoohkjmoghmoaaGreatDoor
