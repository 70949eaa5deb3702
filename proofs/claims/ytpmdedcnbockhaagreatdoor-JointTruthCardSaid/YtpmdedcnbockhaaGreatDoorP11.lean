/-
  Runs; PlainA; PlainB; PlainC; Needs
-/
import Derived.Test.YtpmdedcnbockhaaGreatDoorP10
namespace Go.Proofs.YtpmdedcnbockhaaGreatDoor
section
open Go.RowKit Go.Shelf
theorem uF{n:Nat}{g:Operand}{ps:Array Tmp}{assign body:Code}{Q:Exit->Act->World->Prop}{a:Act}{W2 w0:World}{b:Nat}{v:CV}{C:au}{t:TV}{day:Int}{aj:List Int}{used:List Bool}{ms0:List aC}{gh gu gm Bw:Nat}
 (upd:Nat->List aC->List aC)(hu:∀i ms j,j≠i->(upd i ms)[j]?=ms[j]?)(Zo:∀i ms,(upd i ms).length=ms.length)(h3:3<=n)
 (hg:a.eval g= .func (.func 146) #[] #[.pointer (some ⟨Bw,0,none⟩)])(hps:ps.size=1)
 (hW:aJ w0 W2 b v C t ⟨day,aj,used,ms0⟩ gh gu gm)(hB:W2.cell? ⟨Bw,0,none⟩=some (.pointer (some ⟨b,0,none⟩)))(hBl:Bw<W2.heap.size)(hBn:¬gL b gh gu gm Bw)(a₁:Nat->Act)
 (hassign:∀(l x:Nat)(W:World)(K:Act->World->Prop),K (a₁ x) W->assign.wpIn (Fence.wide.inRound l) (n - 1 - 1) Tryz.prog (Exit.then K (λ_ _ _=>False)) {tmps:=(ps.zip #[.int .i64 x]).foldl (λt (p,v)=>t.setIfInBounds p v) a.tmps,defers:=[]} W)
 (hbody:∀(l x:Nat)(m:aC)(M:List aC)(W:World),ms0[x]?=some m->m.runs=true->M.length=ms0.length->M[x]?=some m->aJ w0 W b v C t ⟨day,aj,used,M⟩ gh gu gm->aH (gL b gh gu gm) W2 W->
  body.wpIn (Fence.wide.inRound l) (n - 1 - 1) Tryz.prog (λe _ W'=>e= .normal/\aJ w0 W' b v C t ⟨day,aj,used,upd x M⟩ gh gu gm/\aH (gL b gh gu gm) W W') (a₁ x) W)
 (hdone:∀(D:Nat)(W:World),W2.heap.size<=D->aJ w0 W b v C t ⟨day,aj,used,(f_ ms0 ms0.length).foldl (λms i=>upd i ms) ms0⟩ gh gu gm->aH (gL b gh gu gm) W2 W->W.heap[D]?=some (.deferred (some []))->Q .normal {a with defers:={target:=.collected D,args:=#[]}::a.defers} W):
 (Code.rangeFunc g ps assign body).wpIn Fence.wide n Tryz.prog Q a W2:=by
 refine w_ (α:=Nat) rfl (by omega) (gf:=146) hg trivial (enters_of Tryz.func146 (by kernel_rfl) rfl)
  (A_ (Bw:=Bw) (ms0:=ms0) upd hu Zo _ (by omega)
   (λpre W=>aJ w0 W b v C t ⟨day,aj,used,pre.foldl (λms i=>upd i ms) ms0⟩ gh gu gm/\aH (gL b gh gu gm) W2 W)
   (λpre W h=>⟨h.1,(h.2.cell hBl hBn).trans hB⟩)) (λ_=>hps.symm) ?own ?start a₁ ?assign ?body ?done
 case assign=>exactλl x W K hK=>hassign l x W K hK
 case own=>exact OwnFrom.and (aJ.lM (λpre:List Nat=>(⟨day,aj,used,pre.foldl (λms i=>upd i ms) ms0⟩:ak)) _ hW.below.size) (aH.lM _ (bH _))
 case start=>exact⟨hW,aH.refl _ _⟩
 case body=>
  rintro l pre x W ⟨hWx,hUx⟩ ⟨hpre,m,hm,hrun⟩;have hmx:(pre.foldl (λms i=>upd i ms) ms0)[x]?=some m:=by
   rw[hpre,u_ upd hu x _ _ (qN ms0 x)];exact hm
  refine wpIn_mono (hbody l x m _ W hm hrun (qO upd Zo _ _) hmx hWx hUx) ?_;rintro e a3 W' ⟨rfl,h1,h2⟩;refine⟨rfl,(hWx.keeps h2).from _,?_,hUx.trans h2 (λ_ _ h=>h)⟩;rw[t_];exact h1
 case done=>
  rintro D xs W hD rfl ⟨hWx,hUx⟩ hK;exact hdone D W hD hWx hUx hK
def gy(C:au)(act:Int)(i:Nat)(ms:List aC):List aC:=
 match C.clauses[i]?,ms[i]? with
 |some k,some m=>cond (act==k.pause) (ms.set i ⟨m.status,m.left,m.got,m.dP,true⟩) (cond (act==k.resume) (ms.set i ⟨m.status,m.left,m.got,m.dP,false⟩) ms)
 |_,_=>ms
def aC.hit(m:aC)(k:aQ):aC:=cond (k.kind==1) (m.performed k.need) (cond (k.kind==2) m.violated (m.ended 3))
def jE(C:au)(act who:Int)(i:Nat)(ms:List aC):List aC:=
 match C.clauses[i]?,ms[i]? with
 |some k,some m=>cond ((k.act==act)&&((k.kind==4)||(m.dP==who))) (ms.set i (m.hit k)) ms
 |_,_=>ms
def aC.due(m:aC)(k:aQ):aC:=cond (k.kind==1) (m.expired k.kY) (cond (k.kind==2) (m.ended 3) (m.ended 5))
def aC.xB(m:aC)(k:aQ):aC:=cond (m.left - 1==0) (aC.due ⟨m.status,m.left - 1,m.got,m.dP,m.paused⟩ k) ⟨m.status,m.left - 1,m.got,m.dP,m.paused⟩
def kC(C:au)(free:Bool)(i:Nat)(ms:List aC):List aC:=
 match C.clauses[i]?,ms[i]? with
 |some k,some m=>cond (m.paused||(k.qV&&free)) ms (ms.set i (m.xB k))
 |_,_=>ms
theorem zx(C:au)(act:Int)(i:Nat)(ms:List aC):(gy C act i ms).length=ms.length:=by
 unfold gy;split
 .rename_i k m _ _
  cases (act==k.pause)<;>cases (act==k.resume)<;>simp
 .rfl
theorem pR(C:au)(act:Int)(i:Nat)(ms:List aC)(j:Nat)(h:j≠i):(gy C act i ms)[j]?=ms[j]?:=by
 have h2:∀x,(ms.set i x)[j]?=ms[j]?:=λx=>by rw[jI,if_neg (λe=>h e.symm)]
 unfold gy;split
 .rename_i k m _ _
  cases (act==k.pause)<;>cases (act==k.resume)<;>simp only[cond_true,cond_false,h2]
 .rfl
theorem DX(C:au)(act who:Int)(i:Nat)(ms:List aC):(jE C act who i ms).length=ms.length:=by
 unfold jE;split
 .rename_i k m _ _
  cases ((k.act==act)&&((k.kind==4)||(m.dP==who)))<;>simp
 .rfl
theorem tL(C:au)(act who:Int)(i:Nat)(ms:List aC)(j:Nat)(h:j≠i):(jE C act who i ms)[j]?=ms[j]?:=by
 have h2:∀x,(ms.set i x)[j]?=ms[j]?:=λx=>by rw[jI,if_neg (λe=>h e.symm)]
 unfold jE;split
 .rename_i k m _ _
  cases ((k.act==act)&&((k.kind==4)||(m.dP==who)))<;>simp only[cond_true,cond_false,h2]
 .rfl
theorem Bb(C:au)(free:Bool)(i:Nat)(ms:List aC):(kC C free i ms).length=ms.length:=by
 unfold kC;split
 .rename_i k m _ _
  cases (m.paused||(k.qV&&free))<;>simp
 .rfl
theorem xC(C:au)(free:Bool)(i:Nat)(ms:List aC)(j:Nat)(h:j≠i):(kC C free i ms)[j]?=ms[j]?:=by
 have h2:∀x,(ms.set i x)[j]?=ms[j]?:=λx=>by rw[jI,if_neg (λe=>h e.symm)]
 unfold kC;split
 .rename_i k m _ _
  cases (m.paused||(k.qV&&free))<;>simp only[cond_true,cond_false,h2]
 .rfl
def au.paused(C:au)(act:Int)(ms:List aC):List aC:=(f_ ms ms.length).foldl (λms j=>gy C act j ms) ms
def au.Bc(C:au)(act who:Int)(ms:List aC):List aC:=(f_ ms ms.length).foldl (λms j=>jE C act who j ms) ms
def au.Gl(C:au)(free:Bool)(ms:List aC):List aC:=(f_ ms ms.length).foldl (λms j=>kC C free j ms) ms
def au.act(C:au)(i:Nat)(a:iO)(s:ak):ak:=
 cond ((a.kind !=1)&&s.used.getD i false) s
  (let s2:ak:=⟨s.day,s.aj,s.used,C.Bc i (nP s.aj a) (C.paused i s.marks)⟩
   let s3:=cond (a.kind !=1) (C.shift i a s2) s2
   ⟨s3.day,s3.aj,s3.used,C.begin s3.aj s3.marks⟩)
def au.tick(C:au)(s:ak):ak:=
 ⟨s.day+1,s.aj,s.used,C.begin s.aj (C.Gl (C.off.contains s.day) s.marks)⟩
end
section
open Go.RowKit
theorem JV(upd:Nat->List aC->List aC)(f:Nat->aC->aC)(hu:∀i ms j,j≠i->(upd i ms)[j]?=ms[j]?)(hs:∀i ms,(upd i ms)[i]?=(ms[i]?).map (f i))(ms:List aC):∀(k j:Nat),
 ((f_ ms k).foldl (λms i=>upd i ms) ms)[j]?=(ms[j]?).map (λm=>cond (decide (j<k)&&m.runs) (f j m) m)
 |0,j=>by simp[f_]
 |k+1,j=>by
  have ih:=JV upd f hu hs ms k;unfold f_;by_cases hjk:j=k
  .subst hjk
   cases hm:ms[j]? with
   |none=>
    have h2:=ih j;rw[hm]at h2;simpa using h2
   |some m=>
    have h2:=ih j;rw[hm]at h2;simp only[j3,show decide (j<j)=false by simp,Bool.false_and,cond_false]at h2;cases hr:m.runs with
    |false=>
     simp only[cond_false,j3,hr,Bool.and_false];exact h2
    |true=>
     simp only[cond_true,t_,List.foldl_cons,List.foldl_nil,j3,hr,show decide (j<j+1)=true by simp,Bool.and_true];rw[hs,h2];rfl
  .have hlt:decide (j<k+1)=decide (j<k):=by
    by_cases h:j<k
    .rw[decide_eq_true h,decide_eq_true (by omega)]
    .rw[decide_eq_false h,decide_eq_false (by omega)]
   rw[hlt];cases hm:ms[k]? with
   |none=>exact ih j
   |some m=>
    cases hr:m.runs with
    |false=>simpa [hr]using ih j
    |true=>
     simp only[hr,cond_true,t_,List.foldl_cons,List.foldl_nil];rw[hu _ _ _ hjk];exact ih j
theorem oz(upd:Nat->List aC->List aC)(f:Nat->aC->aC)(hu:∀i ms j,j≠i->(upd i ms)[j]?=ms[j]?)(hs:∀i ms,(upd i ms)[i]?=(ms[i]?).map (f i))(ms:List aC)(j:Nat):
 ((f_ ms ms.length).foldl (λms i=>upd i ms) ms)[j]?=(ms[j]?).map (λm=>cond m.runs (f j m) m):=by
 rw[JV upd f hu hs ms ms.length j];cases hm:ms[j]? with
 |none=>rfl
 |some m=>
  have hj:j<ms.length:=(aZ.1 hm).1;simp[hj]
def mY(C:au)(act:Int)(i:Nat)(m:aC):aC:=
 match C.clauses[i]? with
 |some k=>cond (act==k.pause) ⟨m.status,m.left,m.got,m.dP,true⟩ (cond (act==k.resume) ⟨m.status,m.left,m.got,m.dP,false⟩ m)
 |none=>m
def Cw(C:au)(act who:Int)(i:Nat)(m:aC):aC:=
 match C.clauses[i]? with
 |some k=>cond ((k.act==act)&&((k.kind==4)||(m.dP==who))) (m.hit k) m
 |none=>m
def Bd(C:au)(free:Bool)(i:Nat)(m:aC):aC:=
 match C.clauses[i]? with
 |some k=>cond (m.paused||(k.qV&&free)) m (m.xB k)
 |none=>m
def Bf(C:au)(give tgt:Int)(i:Nat)(m:aC):aC:=
 match C.clauses[i]? with
 |some k=>cond ((k.kind !=4)&&(k.role==give)) ⟨m.status,m.left,m.got,tgt,m.paused⟩ m
 |none=>m
theorem qP{ms:List aC}{i:Nat}{m:aC}(hm:ms[i]?=some m)(x:aC):(ms.set i x)[i]?=some x:=List.getElem?_set_self (aZ.1 hm).1
theorem Gm(C:au)(act:Int)(i:Nat)(ms:List aC):(gy C act i ms)[i]?=(ms[i]?).map (mY C act i):=by
 unfold gy mY;cases hk:C.clauses[i]? with
 |none=>cases ms[i]?<;>rfl
 |some k=>
  cases hm:ms[i]? with
  |none=>simp[hm]
  |some m=>cases h1:(act==k.pause)<;>cases h2:(act==k.resume)<;>simp only[h1,h2,cond_true,cond_false,j3]<;>first|exact qP hm _|exact hm
theorem KX(C:au)(act who:Int)(i:Nat)(ms:List aC):(jE C act who i ms)[i]?=(ms[i]?).map (Cw C act who i):=by
 unfold jE Cw;cases hk:C.clauses[i]? with
 |none=>cases ms[i]?<;>rfl
 |some k=>
  cases hm:ms[i]? with
  |none=>simp[hm]
  |some m=>cases h1:((k.act==act)&&((k.kind==4)||(m.dP==who)))<;>simp only[h1,cond_true,cond_false,j3]<;>first|exact qP hm _|exact hm
theorem Jd(C:au)(free:Bool)(i:Nat)(ms:List aC):(kC C free i ms)[i]?=(ms[i]?).map (Bd C free i):=by
 unfold kC Bd;cases hk:C.clauses[i]? with
 |none=>cases ms[i]?<;>rfl
 |some k=>
  cases hm:ms[i]? with
  |none=>simp[hm]
  |some m=>cases h1:(m.paused||(k.qV&&free))<;>simp only[h1,cond_true,cond_false,j3]<;>first|exact qP hm _|exact hm
theorem Gn(C:au)(give tgt:Int)(i:Nat)(ms:List aC):(eU C give tgt i ms)[i]?=(ms[i]?).map (Bf C give tgt i):=by
 unfold eU Bf;cases hk:C.clauses[i]? with
 |none=>cases ms[i]?<;>rfl
 |some k=>
  cases hm:ms[i]? with
  |none=>simp[hm]
  |some m=>cases h1:((k.kind !=4)&&(k.role==give))<;>simp only[h1,cond_true,cond_false,j3]<;>first|exact qP hm _|exact hm
theorem vg(C:au)(act:Int)(ms:List aC)(j:Nat):(C.paused act ms)[j]?=(ms[j]?).map (λm=>cond m.runs (mY C act j m) m):=
 oz _ _ (λi ms j h=>pR C act i ms j h) (Gm C act) ms j
theorem Cx(C:au)(act who:Int)(ms:List aC)(j:Nat):(C.Bc act who ms)[j]?=(ms[j]?).map (λm=>cond m.runs (Cw C act who j m) m):=
 oz _ _ (λi ms j h=>tL C act who i ms j h) (KX C act who) ms j
theorem Gp(C:au)(free:Bool)(ms:List aC)(j:Nat):(C.Gl free ms)[j]?=(ms[j]?).map (λm=>cond m.runs (Bd C free j m) m):=
 oz _ _ (λi ms j h=>xC C free i ms j h) (Jd C free) ms j
theorem Nf(C:au)(give tgt:Int)(ms:List aC)(j:Nat):((f_ ms ms.length).foldl (λms i=>eU C give tgt i ms) ms)[j]?=(ms[j]?).map (λm=>cond m.runs (Bf C give tgt j m) m):=
 oz _ _ (λi ms j h=>pO C give tgt i ms j h) (Gn C give tgt) ms j
theorem zS{ms ms':List aC}{f:Nat->aC->aC}(h:∀j:Nat,ms'[j]?=(ms[j]?).map (f j)):ms'.length=ms.length:=by
 apply Nat.le_antisymm
 .rcases iA ms.length ms'.length with h1|h1
  .have h2:=h ms.length
   rw[aT h1,lY (bH _)]at h2;cases h2
  .exact h1
 .rcases iA ms'.length ms.length with h1|h1
  .have h2:=h ms'.length
   rw[aT h1,lY (bH _)]at h2;cases h2
  .exact h1
theorem zT(C:au)(act:Int)(ms:List aC):(C.paused act ms).length=ms.length:=zS (f:=λj m=>cond m.runs (mY C act j m) m) (vg C act ms)
theorem Cy(C:au)(act who:Int)(ms:List aC):(C.Bc act who ms).length=ms.length:=zS (f:=λj m=>cond m.runs (Cw C act who j m) m) (Cx C act who ms)
theorem Qh(C:au)(free:Bool)(ms:List aC):(C.Gl free ms).length=ms.length:=zS (f:=λj m=>cond m.runs (Bd C free j m) m) (Gp C free ms)
theorem KY(C:au)(act:Int)(i:Nat)(m:aC):(mY C act i m).got=m.got/\(mY C act i m).status=m.status:=by
 unfold mY;split
 .rename_i k _
  cases (act==k.pause)<;>cases (act==k.resume)<;>exact⟨rfl,rfl⟩
 .exact⟨rfl,rfl⟩
theorem Gq{C:au}{act:Int}{ms:List aC}{j:Nat}{m:aC}(h:(C.paused act ms)[j]?=some m):∃m0,ms[j]?=some m0/\m.got=m0.got/\m.runs=m0.runs:=by
 rw[vg]at h;cases hm:ms[j]? with
 |none=>rw[hm]at h;cases h
 |some m0=>
  rw[hm]at h;simp only[j3,Option.some.injEq]at h;refine⟨m0,rfl,?_⟩;cases hr:m0.runs with
  |false=>
   rw[hr]at h;simp only[cond_false]at h;subst h;exact⟨rfl,hr⟩
  |true=>
   rw[hr]at h;simp only[cond_true]at h;subst h;have h2:=KY C act j m0;refine⟨h2.1,?_⟩;unfold aC.runs at hr⊢;rw[h2.2];exact hr
theorem aH.on{S:Nat->Prop}{a w z:World}(h:aH S a w)(hz:Below w.heap.size w z):aH S a z:=h.trans (aH.of_below hz) (λi hi hs=>by have:=h.size;omega)
end
theorem yE{n:Nat}{f:Nat->Bool}(h:(List.range n).all f=true){i:Nat}(hi:i<n):f i=true:=fq.1 h i (List.mem_range.2 hi)
structure au.Ok(C:au):Prop where
 aF:1<=C.aF
 days:1<=C.days
 aaI:C.days<=2000
 roles:C.aj.length≠0
 held:∀p∈C.aj,0<=p/\p<C.aF
 acts:∀a∈C.acts,C.vO a=true
 off:sD C.days (-1) C.off=true
 clauses:∀(i:Nat)(k:aQ),C.clauses[i]?=some k->C.iY i k=true
 Gr:C.aF<=12
 Qi:C.aj.length<=12
 JW:C.acts.length<=60
 Gs:C.clauses.length<=400
theorem au.ok{C:au}(h:C.valid=true):C.Ok:=by
 simp only[au.valid,au.over,au.framed,Tx,bM,iE,oH,decide_eq_false_iff_not]at h;obtain⟨⟨o1,o2,o3,o4,o5,o6⟩,⟨⟨f1,f2,f3,f4⟩,f5,f6,f7⟩,hc⟩:=h;refine⟨by omega,by omega,by omega,?_,?_,?_,f7,?_,by omega,by omega,by omega,by omega⟩
 .intro e
  rw[e]at f3;exact absurd f3 (by decide)
 .intro p hp
  have h1:=fq.1 f4 p hp;simp only[au.party,bM,decide_eq_true_eq]at h1;exact h1
 .intro a ha
  exact fq.1 f6 a ha
 .intro i k hk
  have hi:i<C.clauses.length:=(aZ.1 hk).1;have h1:=yE hc hi;rw[hk]at h1;exact h1
structure oN(C:au)(i:Nat)(k:aQ):Prop where
 aeS:0<=k.act
 aeT:k.act<C.acts.length
 aeU:1<=k.kind
 aeV:k.kind<=4
 abM:1<=k.after
 WR:k.after<=400
 role:k.kind≠4->0<=k.role/\k.role<C.aj.length
 aeW:1<=k.need
 aaJ:k.need<=9
 aiy:0<=k.kY
 WS:k.kY<=400
 aiz:k.kind≠1->k.kY=0
 pause:k.pause≠ -1\/k.resume≠ -1->k.pause≠k.resume/\C.natural k.pause=true/\C.natural k.resume=true
 start:∀c∈k.start,0<=c.clause/\c.clause<C.clauses.length/\c.clause≠i/\1<=c.is/\c.is<=4
 aiA:k.start.length<=8
theorem au.Ok.clause{C:au}(h:C.Ok){i:Nat}{k:aQ}(hk:C.clauses[i]?=some k):oN C i k:=by
 have hc:=h.clauses i k hk;simp only[au.iY,Dx,mJ,mK,ze,bM,iE,decide_eq_false_iff_not]at hc;obtain⟨⟨c1,c2,c3,c4,ck,c5⟩,cs,cp,_⟩:=hc;have hkd:1<=k.kind/\k.kind<=4/\(k.kind≠4->0<=k.role/\k.role<C.aj.length)/\1<=k.need/\k.need<=9/\0<=k.kY/\k.kY<=400/\(k.kind≠1->k.kY=0):=by
  cases q4:(k.kind==4)with
  |true=>
   simp only[q4,cond_true,bM,beq_iff_eq]at ck;have q4:k.kind=4:=by simpa using q4
   obtain⟨a1,a2,a3,_⟩:=ck;refine⟨by omega,by omega,λh=>absurd q4 h,by omega,by omega,by omega,by omega,λ_=>a3⟩
  |false=>
   simp only[q4,cond_false]at ck;have q4':k.kind≠4:=by simpa using q4
   cases qr:(!C.role k.role||C.natural k.act)with
   |true=>simp only[qr,cond_true]at ck;cases ck
   |false=>
    simp only[qr,cond_false]at ck;simp only[oH,Bool.not_eq_false',au.role,bM,decide_eq_true_eq]at qr;cases q1:(k.kind==1)with
    |true=>
     simp only[q1,cond_true,bM,decide_eq_true_eq]at ck;have q1:k.kind=1:=by simpa using q1
     refine⟨by omega,by omega,λ_=>qr.1,ck.1,ck.2.1,ck.2.2.1,ck.2.2.2,λh=>absurd q1 h⟩
    |false=>
     simp only[q1,cond_false]at ck;cases q2:(k.kind==2)with
     |true=>
      simp only[q2,cond_true,bM,beq_iff_eq]at ck;have q2:k.kind=2:=by simpa using q2
      refine⟨by omega,by omega,λ_=>qr.1,by omega,by omega,by omega,by omega,λ_=>ck.2⟩
     |false=>
      simp only[q2,cond_false]at ck;cases q3:(k.kind==3)with
      |true=>
       simp only[q3,cond_true,bM,beq_iff_eq]at ck;have q3:k.kind=3:=by simpa using q3
       refine⟨by omega,by omega,λ_=>qr.1,by omega,by omega,by omega,by omega,λ_=>ck.2.1⟩
      |false=>simp only[q3,cond_false]at ck;cases ck
 obtain⟨k1,k2,k3,k4,k5,k6,k7,k8⟩:=hkd;refine⟨by omega,by omega,k1,k2,by omega,by omega,k3,k4,k5,k6,k7,k8,?_,?_,by omega⟩
 .intro hp
  cases qp:(!(k.pause== -1)|| !(k.resume== -1))with
  |true=>
   simp only[qp,cond_true,bM,iE,beq_eq_false_iff_ne]at cp;exact⟨cp.1,cp.2.1,cp.2.2⟩
  |false=>
   simp only[oH,Bool.not_eq_false',beq_iff_eq]at qp;omega
 .intro c hc
  have h1:=fq.1 cs c hc;simp only[sw,bM,iE,decide_eq_false_iff_not,beq_eq_false_iff_ne]at h1;obtain⟨e1,e2,e3,e4,e5⟩:=h1;exact⟨by omega,by omega,e3,by omega,by omega⟩
def dL(C:au)(k:aQ)(m:aC):Prop:=
 (m.status=0/\k.uS=false/\m.left=0/\m.got=0/\m.dP= -1/\m.paused=false)\/
 ((m.status=1/\m.left<=k.after\/m.status=2/\k.kind=1/\m.left<=k.kY)/\k.uS=false/\1<=m.left/\(m.paused=true->k.pause≠ -1)/\(m.got≠0->k.kind=1/\0<=m.got/\m.got<k.need)/\(k.kind=4->m.dP= -1)/\(k.kind≠4->0<=m.dP/\m.dP<C.aF))\/
 ((m.status=3\/m.status=4\/m.status=5)/\m.left=0/\0<=m.got/\m.got<=9/\ -1<=m.dP/\m.dP<C.aF/\m.paused=false)
theorem Gt(C:au)(k:aQ)(m:aC):C.uV k m=true↔dL C k m:=by
 obtain⟨ms,ml,mg,mb,mp⟩:=m;obtain⟨ki,ro,ac,ne,start,af,gr,bu,fi,pa,re,va,un,tg,wa⟩:=k;simp only[au.uV,dL,yu];cases q0:(ms==0)with
 |true=>
  have h0:ms=0:=by simpa using q0
  subst h0;cases wa<;>cases mp<;>simp[KF]
 |false=>
  have h0:ms≠0:=by simpa using q0
  have hrun:wK C ki ne pa wa ml mg mb mp=true↔(wa=false/\1<=ml/\(mp=true->pa≠ -1)/\(mg≠0->ki=1/\0<=mg/\mg<ne)/\(ki=4->mb= -1)/\(ki≠4->0<=mb/\mb<C.aF)):=by
   simp only[wK];cases wa with
   |true=>simp
   |false=>
    cases q1:(decide (ml<1)||(mp&&(pa== -1)))with
    |true=>
     simp only[qd,decide_eq_true_eq,bM,beq_iff_eq]at q1;simp only[Bool.false_or,cond_true];constructor
     .intro h;cases h
     .rintro⟨_,a1,a2,_⟩
      rcases q1 with h|⟨h1,h2⟩
      .omega
      .exact absurd h2 (a2 h1)
    |false=>
     simp only[oH,decide_eq_false_iff_not]at q1;have hp:mp=true->pa≠ -1:=by
      intro hm e;rw[hm,e]at q1;exact absurd q1.2 (by decide)
     simp only[Bool.false_or,cond_false];cases q2:(!(mg==0)&&(!(ki==1)||(decide (mg<0)||decide (ne<=mg))))with
     |true=>
      simp only[bM,iE,beq_eq_false_iff_ne,qd,decide_eq_true_eq]at q2;simp only[cond_true];constructor
      .intro h;cases h
      .rintro⟨_,_,_,a3,_⟩
       have:=a3 q2.1;omega
     |false=>
      have q3:mg≠0->ki=1/\0<=mg/\mg<ne:=by
       intro hne;simp only[show(mg==0)=false by simpa using hne,Bool.not_false,Bool.true_and,oH,Bool.not_eq_false',beq_iff_eq,decide_eq_false_iff_not]at q2;omega
      simp only[cond_false];cases q4:(ki==4)with
      |true=>
       have h4:ki=4:=by simpa using q4
       simp only[cond_true,beq_iff_eq];constructor
       .intro h;exact⟨trivial,by omega,hp,q3,λ_=>h,λh=>absurd h4 h⟩
       .rintro⟨_,_,_,_,a4,_⟩;exact a4 h4
      |false=>
       have h4:ki≠4:=by simpa using q4
       simp only[cond_false,bM,decide_eq_true_eq];constructor
       .intro h;exact⟨trivial,by omega,hp,q3,λh=>absurd h h4,λ_=>h⟩
       .rintro⟨_,_,_,_,_,a4⟩;exact a4 h4
  simp only[cond_false];cases q1:(ms==1)with
  |true=>
   have h1:ms=1:=by simpa using q1
   subst h1;simp only[cond_true,bM,decide_eq_true_eq,hrun];constructor
   .rintro⟨a,b⟩;exact .inr (.inl ⟨.inl ⟨trivial,a⟩,b⟩)
   .rintro(⟨h,_⟩|⟨h|⟨h,_⟩,b⟩|⟨h,_⟩)
    .omega
    .exact⟨h.2,b⟩
    .omega
    .omega
  |false=>
   have h1:ms≠1:=by simpa using q1
   simp only[cond_false];cases q2:(ms==2)with
   |true=>
    have h2:ms=2:=by simpa using q2
    subst h2;simp only[cond_true,bM,decide_eq_true_eq,beq_iff_eq,hrun];constructor
    .rintro⟨a0,a,b⟩;exact .inr (.inl ⟨.inr ⟨trivial,a0,a⟩,b⟩)
    .rintro(⟨h,_⟩|⟨⟨h,_⟩|h,b⟩|⟨h,_⟩)
     .omega
     .omega
     .exact⟨h.2.1,h.2.2,b⟩
     .omega
   |false=>
    have h2:ms≠2:=by simpa using q2
    simp only[cond_false];cases q3:((ms==3)||((ms==4)||(ms==5)))with
    |true=>
     simp only[qd,beq_iff_eq]at q3;simp only[cond_true,bM,beq_iff_eq,decide_eq_true_eq,iE];constructor
     .intro h;exact .inr (.inr ⟨q3,h⟩)
     .rintro(⟨h,_⟩|⟨⟨h,_⟩|⟨h,_⟩,_⟩|⟨_,b⟩)
      .omega
      .omega
      .omega
      .exact b
    |false=>
     simp only[oH,beq_eq_false_iff_ne]at q3;simp only[cond_false];constructor
     .intro h;cases h
     .rintro(⟨h,_⟩|⟨⟨h,_⟩|⟨h,_⟩,_⟩|⟨h,_⟩)<;>omega
theorem rz(m:aC):m.runs=true↔m.status=1\/m.status=2:=by simp[aC.runs]
section
variable {C:au} {i:Nat} {k:aQ} {m:aC}
theorem dL.ended(h:dL C k m)(hr:m.runs=true)(hp:1<=C.aF){st:Int}(hst:st=3\/st=4\/st=5)(g:Int)(hg0:0<=g)(hg:g<=9):dL C k ⟨st,0,g,m.dP,false⟩:=by
 rw[rz]at hr;rcases h with⟨h0,_⟩|⟨_,_,_,_,_,hb1,hb2⟩|⟨h0,_⟩
 .omega
 .refine .inr (.inr ⟨hst,rfl,hg0,hg,?_,?_,rfl⟩)
  .by_cases h4:k.kind=4
   .have h5:=hb1 h4;show -1<=m.dP;omega
   .have h5:=hb2 h4;show -1<=m.dP;omega
  .by_cases h4:k.kind=4
   .have h5:=hb1 h4;show m.dP<_;omega
   .have h5:=hb2 h4;show m.dP<_;omega
 .omega
theorem dL.got(hk:oN C i k)(h:dL C k m):0<=m.got/\m.got<=9:=by
 have:=hk.aaJ;rcases h with⟨_,_,_,h0,_⟩|⟨_,_,_,_,h0,_⟩|⟨_,_,h0,h1,_⟩
 .omega
 .by_cases hg:m.got=0
  .omega
  .have:=h0 hg;omega
 .omega
theorem dL.Zq(h:dL C k m)(hr:m.runs=true)(hp:k.pause≠ -1)(b:Bool):dL C k ⟨m.status,m.left,m.got,m.dP,b⟩:=by
 rw[rz]at hr;rcases h with⟨h0,_⟩|⟨h1,h2,h3,h4,h5⟩|⟨h0,_⟩
 .omega
 .exact .inr (.inl ⟨h1,h2,h3,λ_=>hp,h5⟩)
 .omega
theorem dL.resumed(h:dL C k m)(hr:m.runs=true):dL C k ⟨m.status,m.left,m.got,m.dP,false⟩:=by
 rw[rz]at hr;rcases h with⟨h0,_⟩|⟨h1,h2,h3,h4,h5⟩|⟨h0,_⟩
 .omega
 .exact .inr (.inl ⟨h1,h2,h3,(λh=>by cases h),h5⟩)
 .omega
theorem dL.borne(h:dL C k m)(hr:m.runs=true)(hk4:k.kind≠4){p:Int}(h0:0<=p)(h1:p<C.aF):dL C k ⟨m.status,m.left,m.got,p,m.paused⟩:=by
 rw[rz]at hr;rcases h with⟨h0,_⟩|⟨a1,a2,a3,a4,a5,_⟩|⟨h0,_⟩
 .omega
 .exact .inr (.inl ⟨a1,a2,a3,a4,a5,λh=>absurd h hk4,λ_=>⟨h0,h1⟩⟩)
 .omega
theorem dL.hit(hk:oN C i k)(h:dL C k m)(hr:m.runs=true)(hp:1<=C.aF):dL C k (m.hit k):=by
 have hg:=h.got hk;have n1:=hk.aeW;have n2:=hk.aaJ;have hr':=hr;rw[rz]at hr';unfold aC.hit;cases q1:(k.kind==1)with
 |true=>
  have h1:k.kind=1:=by simpa using q1
  simp only[cond_true,aC.performed];cases q:(m.got+1==k.need)with
  |true=>
   have hq:m.got+1=k.need:=by simpa using q
   simp only[cond_true,aC.ended];exact h.ended hr hp (.inl rfl) _ (by omega) (by omega)
  |false=>
   have hq:m.got+1≠k.need:=by simpa using q
   simp only[cond_false];rcases h with⟨h0,_⟩|⟨a1,a2,a3,a4,a5,a6⟩|⟨h0,_⟩
   .omega
   .refine .inr (.inl ⟨a1,a2,a3,a4,λ_=>⟨h1,?_,?_⟩,a6⟩)
    .show 0<=m.got+1;omega
    .show m.got+1<k.need
     by_cases h0:m.got=0
     .omega
     .have:=a5 h0;omega
   .omega
 |false=>
  simp only[cond_false];cases q2:(k.kind==2)with
  |true=>
   simp only[cond_true,aC.violated];cases m.paused with
   |true=>exact h
   |false=>exact h.ended hr hp (.inr (.inl rfl)) _ hg.1 hg.2
  |false=>exact h.ended hr hp (.inl rfl) _ hg.1 hg.2
theorem dL.xB(hk:oN C i k)(h:dL C k m)(hr:m.runs=true)(hp:1<=C.aF):dL C k (m.xB k):=by
 have hg:=h.got hk;have hr':=hr;rw[rz]at hr';unfold aC.xB;have hl:1<=m.left/\(m.status=1->m.left<=k.after)/\(m.status=2->k.kind=1/\m.left<=k.kY):=by
  rcases h with⟨h0,_⟩|⟨a1,_,a3,_⟩|⟨h0,_⟩
  .omega
  .exact⟨a3,λ_=>by omega,λ_=>by omega⟩
  .omega
 cases q:(m.left - 1==0)with
 |true=>
  simp only[cond_true,aC.due];cases q1:(k.kind==1)with
  |true=>
   have h1:k.kind=1:=by simpa using q1
   simp only[cond_true,aC.expired];cases q3:((m.status==1)&&decide (0<k.kY))with
   |true=>
    simp only[bM,beq_iff_eq,decide_eq_true_eq]at q3;simp only[cond_true];rcases h with⟨h0,_⟩|⟨a1,a2,a3,a4,a5,a6⟩|⟨h0,_⟩
    .omega
    .exact .inr (.inl ⟨.inr ⟨rfl,h1,iL _⟩,a2,by show 1<=k.kY;omega,a4,a5,a6⟩)
    .omega
   |false=>exact h.ended hr hp (.inr (.inl rfl)) _ hg.1 hg.2
  |false=>
   simp only[cond_false];cases q2:(k.kind==2)with
   |true=>exact h.ended hr hp (.inl rfl) _ hg.1 hg.2
   |false=>exact h.ended hr hp (.inr (.inr rfl)) _ hg.1 hg.2
 |false=>
  have hq:m.left - 1≠0:=by simpa using q
  simp only[cond_false];rcases h with⟨h0,_⟩|⟨a1,a2,a3,a4,a5,a6⟩|⟨h0,_⟩
  .omega
  .refine .inr (.inl ⟨?_,a2,?_,a4,a5,a6⟩)
   .show(m.status=1/\m.left - 1<=k.after)\/(m.status=2/\k.kind=1/\m.left - 1<=k.kY)
    omega
   .show 1<=m.left - 1
    omega
  .omega
end
structure aaK(C:au)(a:iO):Prop where
 role:a.role≠ -1->0<=a.role/\a.role<C.aj.length
 kind:a.kind=1\/a.kind=2\/a.kind=3
 give:a.kind≠1->0<=a.give/\a.give<C.aj.length
 tgt:a.kind≠1->0<=a.tgt/\a.tgt<C.aF
 seen:a.kind=1->a.tgt= -1\/(0<=a.tgt/\a.tgt<C.aj.length)
theorem au.Ok.act{C:au}(h:C.Ok){a:iO}(ha:a∈C.acts):aaK C a:=by
 have hc:=h.acts a ha;simp only[au.vO,zH]at hc;cases qr:(C.role a.role)with
 |false=>
  simp only[qr,Bool.not_false,cond_true,bM,beq_iff_eq,qd]at hc;obtain⟨h1,h2,h3,h4,_⟩:=hc;refine⟨λh=>absurd h2 h,.inl h1,λh=>absurd h1 h,λh=>absurd h1 h,λ_=>?_⟩;rcases h4 with h4|h4
  .exact .inl h4
  .simp only[au.role,bM,decide_eq_true_eq]at h4
   exact .inr h4
 |true=>
  have qr':=qr;simp only[au.role,bM,decide_eq_true_eq]at qr';simp only[qr,Bool.not_true,cond_false]at hc;cases q1:(a.kind==1)with
  |true=>
   have h1:a.kind=1:=by simpa using q1
   simp only[q1,cond_true]at hc;refine⟨λ_=>qr',.inl h1,λh=>absurd h1 h,λh=>absurd h1 h,λ_=>?_⟩;cases q2:(!(a.give==0)||(!(a.tgt== -1)&& !(C.role a.tgt)))with
   |true=>simp only[q2,cond_true]at hc;cases hc
   |false=>
    simp only[oH,Bool.and_eq_false_iff,Bool.not_eq_false',beq_iff_eq]at q2;rcases q2.2 with h4|h4
    .exact .inl h4
    .simp only[au.role,bM,decide_eq_true_eq]at h4
     exact .inr h4
  |false=>
   have h1:a.kind≠1:=by simpa using q1
   simp only[q1,cond_false]at hc;cases q2:((a.kind==2)||(a.kind==3))with
   |false=>simp only[q2,cond_false]at hc;cases hc
   |true=>
    simp only[q2,cond_true,bM,decide_eq_true_eq,au.role]at hc;simp only[qd,beq_iff_eq]at q2;exact⟨λ_=>qr',.inr q2,λ_=>hc.1,λ_=>⟨hc.2.1,hc.2.2.1⟩,λh=>absurd h h1⟩
structure bJ(C:au)(s:ak):Prop where
 con:C.valid=true
 Ub:0<=s.day
 WT:s.day<=C.days
 lh:s.aj.length=C.aj.length
 lu:s.used.length=C.acts.length
 lm:s.marks.length=C.clauses.length
 held:∀p∈s.aj,0<=p/\p<C.aF
 used:∀(i:Nat)(a:iO),s.used[i]?=some true->C.acts[i]?=some a->a.kind≠1
 marks:∀(i:Nat)(m:aC)(k:aQ),s.marks[i]?=some m->C.clauses[i]?=some k->dL C k m
 still:∀(i:Nat)(m:aC)(k:aQ),s.marks[i]?=some m->C.clauses[i]?=some k->j6 s.marks k m=false
theorem iC(C:au)(s:ak):C.fC s=true↔bJ C s:=by
 constructor
 .intro h
  simp only[au.fC,Md,mM,Aq,wL,bM,iE,decide_eq_false_iff_not,beq_iff_eq]at h;obtain⟨h1,⟨h2,h3,h4,h5,h6⟩,h7,h8,h9⟩:=h;refine⟨h1,by omega,by omega,by omega,by omega,by omega,?_,?_,?_,?_⟩
  .intro p hp
   have h10:=fq.1 h7 p hp;simp only[sZ,bM,iE,decide_eq_false_iff_not]at h10;omega
  .intro i a hu ha
   have h10:=yE h8 (aZ.1 hu).1;rw[hu,ha]at h10;simpa using h10
  .intro i m k hm hk
   have h10:=yE h9 (aZ.1 hm).1;rw[hm,hk]at h10;simp only[bM]at h10;exact(Gt _ _ _).1 h10.1
  .intro i m k hm hk
   have h10:=yE h9 (aZ.1 hm).1;rw[hm,hk]at h10;simp only[bM,iE]at h10;exact h10.2
 .intro h
  simp only[au.fC,Md,mM,Aq,wL,bM,iE,decide_eq_false_iff_not,beq_iff_eq];refine⟨h.con,⟨by have:=h.Ub;omega,by have:=h.WT;omega,by have:=h.lh;omega,by have:=h.lu;omega,by have:=h.lm;omega⟩,?_,?_,?_⟩
  .apply fq.2
   intro p hp;have:=h.held p hp;simp only[sZ,bM,iE,decide_eq_false_iff_not];omega
  .apply fq.2
   intro i _;cases hu:s.used[i]? with
   |none=>rfl
   |some u=>
    cases ha:C.acts[i]? with
    |none=>rfl
    |some a=>
     cases u with
     |false=>simp
     |true=>
      have:=h.used i a hu ha;simpa using this
  .apply fq.2
   intro i _;cases hm:s.marks[i]? with
   |none=>rfl
   |some m=>
    cases hk:C.clauses[i]? with
    |none=>rfl
    |some k=>
     simp only[bM,iE];exact⟨(Gt _ _ _).2 (h.marks i m k hm hk),h.still i m k hm hk⟩
def Beg(C:au)(hs:List Int)(j:Nat)(m m':aC):Prop:=m'=m\/(m.status=0/\∃k,C.clauses[j]?=some k/\k.uS=false/\m'=FJ hs k)
theorem Beg.trans{C:au}{hs:List Int}{j:Nat}{a b c:aC}(h:Beg C hs j a b)(h':Beg C hs j b c):Beg C hs j a c:=by
 rcases h with rfl|⟨h0,k,hk,hw,rfl⟩
 .exact h'
 .rcases h' with rfl|⟨h1,_⟩
  .exact .inr ⟨h0,k,hk,hw,rfl⟩
  .exact absurd h1 (by show(1:Int)≠0;decide)
def nV(C:au)(hs:List Int)(ms ms':List aC):Prop:=ms'.length=ms.length/\∀(j:Nat)(m':aC),ms'[j]?=some m'->∃m,ms[j]?=some m/\Beg C hs j m m'
theorem nV.refl(C:au)(hs:List Int)(ms:List aC):nV C hs ms ms:=⟨rfl,λ_ m' h=>⟨m',h,.inl rfl⟩⟩
theorem nV.trans{C:au}{hs:List Int}{a b c:List aC}(h:nV C hs a b)(h':nV C hs b c):nV C hs a c:=
 ⟨h'.1.trans h.1,λj m' hm=>by
  obtain⟨m1,h1,h2⟩:=h'.2 j m' hm;obtain⟨m2,h3,h4⟩:=h.2 j m1 h1;exact⟨m2,h3,h4.trans h2⟩⟩
theorem Ng(C:au)(hs:List Int)(ms:List aC)(i:Nat):nV C hs ms (mO C hs ms i):=by
 refine⟨DF C hs ms i,λj m' hm=>?_⟩;cases hf:iK C ms i with
 |false=>
  rw[(uW C hs ms i).2 hf]at hm;exact⟨m',hm,.inl rfl⟩
 |true=>
  have hf':=hf;unfold iK at hf';unfold mO at hm;cases hk:C.clauses[i]? with
  |none=>simp[hk]at hf'
  |some k=>
   cases Zr:ms[i]? with
   |none=>simp[hk,Zr]at hf'
   |some m=>
    simp only[hk,Zr]at hf';simp only[hk,hf,cond_true]at hm;by_cases hij:i=j
    .subst hij
     rw[qP Zr]at hm;injection hm with hm
     simp only[j6,bM,beq_iff_eq,iE]at hf';exact⟨m,Zr,.inr ⟨hf'.1,k,hk,hf'.2.1,hm.symm⟩⟩
    .rw[jI,if_neg hij]at hm
     exact⟨m',hm,.inl rfl⟩
theorem DY(C:au)(hs:List Int)(ms:List aC):∀n,nV C hs ms (fG C hs ms n)
 |0=>nV.refl _ _ _
 |n+1=>(DY C hs ms n).trans (Ng C hs _ n)
theorem Bg(C:au)(hs:List Int):∀(f:Nat)(ms:List aC),nV C hs ms (jM C hs f ms)
 |0,ms=>nV.refl _ _ _
 |f+1,ms=>by
  rw[jM];cases fP C hs ms C.clauses.length with
  |false=>exact nV.refl _ _ _
  |true=>exact(DY C hs ms _).trans (Bg C hs f _)
theorem JX(C:au)(hs:List Int)(ms:List aC):nV C hs ms (C.begin hs ms):=Bg C hs _ ms
theorem zy(C:au)(hs:List Int):∀(f:Nat)(ms:List aC),idle ms<f->fP C hs (jM C hs f ms) C.clauses.length=false
 |0,_,h=>by omega
 |f+1,ms,h=>by
  rw[jM];cases hf:fP C hs ms C.clauses.length with
  |false=>exact hf
  |true=>
   have:=(ig C hs ms C.clauses.length).1 hf;exact zy C hs f _ (by omega)
theorem Gu{C:au}{hs:List Int}{ms:List aC}:∀{n:Nat},fP C hs ms n=false->∀i,i<n->iK C ms i=false
 |0,_,i,hi=>by omega
 |n+1,h,i,hi=>by
  rw[fP,oH]at h;by_cases hin:i=n
  .subst hin
   have h2:=(ig C hs ms i).2 h.1;rw[h2]at h;exact h.2
  .exact Gu h.1 i (by omega)
theorem Gv{C:au}{hs:List Int}{ms:List aC}:∀{n:Nat},(∀i,i<n->iK C ms i=false)->fP C hs ms n=false
 |0,_=>rfl
 |n+1,h=>by
  have h1:=Gv (hs:=hs) (n:=n) (λi hi=>h i (by omega));rw[fP,h1,(ig C hs ms n).2 h1];exact h n (by omega)
theorem Qj(C:au)(hs:List Int)(ms:List aC)(i:Nat)(hi:i<C.clauses.length):iK C (C.begin hs ms) i=false:=Gu (zy C hs _ ms (by omega)) i hi
theorem KZ{hs:List Int}{r:Int}(h0:0<=r)(h1:r<hs.length):fu hs r∈hs:=by
 unfold fu;have:r.toNat<hs.length:=by omega
 rw[aT this];exact wG this
theorem WU{C:au}{hs:List Int}{i:Nat}{k:aQ}(hk:oN C i k)(hw:k.uS=false)(hl:hs.length=C.aj.length)(hh:∀p∈hs,0<=p/\p<C.aF):dL C k (FJ hs k):=by
 refine .inr (.inl ⟨.inl ⟨rfl,iL _⟩,hw,hk.abM,(λh=>by cases h),λh=>absurd rfl h,λh=>?_,λh=>?_⟩)
 .simp[FJ,qX,h]
 .have h4:(k.kind==4)=false:=by simpa using h
  have:=hk.role h;have h5:=hh _ (KZ (hs:=hs) this.1 (by omega));simp only[FJ,qX,h4,cond_false];exact h5
theorem Bh{C:au}{hs:List Int}{ms:List aC}(hC:C.Ok)(hl:hs.length=C.aj.length)(hh:∀p∈hs,0<=p/\p<C.aF)(hm:∀(i:Nat)(m:aC)(k:aQ),ms[i]?=some m->C.clauses[i]?=some k->dL C k m):
 (∀(i:Nat)(m:aC)(k:aQ),(C.begin hs ms)[i]?=some m->C.clauses[i]?=some k->dL C k m)/\(∀(i:Nat)(m:aC)(k:aQ),(C.begin hs ms)[i]?=some m->C.clauses[i]?=some k->j6 (C.begin hs ms) k m=false):=by
 refine⟨λi m k h hk=>?_,λi m k h hk=>?_⟩
 .obtain⟨m0,h0,hb⟩:=(JX C hs ms).2 i m h
  rcases hb with rfl|⟨_,k',hk',hw,rfl⟩
  .exact hm i _ k h0 hk
  .rw[hk]at hk'
   injection hk' with hk'
   subst hk';exact WU (hC.clause hk) hw hl hh
 .have h1:=Qj C hs ms i (aZ.1 hk).1
  unfold iK at h1;rw[hk,h]at h1;exact h1
theorem yF(C:au)(hs:List Int)(ms:List aC):(C.begin hs ms).length=ms.length:=(JX C hs ms).1
theorem map_ok{C:au}{ms ms':List aC}{f:Nat->aC->aC}(hg:∀j:Nat,ms'[j]?=(ms[j]?).map (λm=>cond m.runs (f j m) m))(hm:∀(i:Nat)(m:aC)(k:aQ),ms[i]?=some m->C.clauses[i]?=some k->dL C k m)
 (hf:∀(i:Nat)(m:aC)(k:aQ),C.clauses[i]?=some k->dL C k m->m.runs=true->dL C k (f i m)):∀(i:Nat)(m:aC)(k:aQ),ms'[i]?=some m->C.clauses[i]?=some k->dL C k m:=by
 intro i m k h hk;rw[hg]at h;cases hm0:ms[i]? with
 |none=>rw[hm0]at h;cases h
 |some m0=>
  rw[hm0]at h;simp only[j3,Option.some.injEq]at h;have h1:=hm i m0 k hm0 hk;cases hr:m0.runs with
  |false=>
   rw[hr]at h;subst h;exact h1
  |true=>
   rw[hr]at h;subst h;exact hf i m0 k hk h1 hr
theorem Uc{C:au}{ms:List aC}{act:Int}(h0:0<=act)(hm:∀(i:Nat)(m:aC)(k:aQ),ms[i]?=some m->C.clauses[i]?=some k->dL C k m):
 ∀(i:Nat)(m:aC)(k:aQ),(C.paused act ms)[i]?=some m->C.clauses[i]?=some k->dL C k m:=
 map_ok (vg C act ms) hm (λi m k hk h hr=>by
  unfold mY;rw[hk];dsimp only;cases q1:(act==k.pause)with
  |true=>
   have e1:act=k.pause:=by simpa using q1
   exact h.Zq hr (by omega) true
  |false=>
   cases q2:(act==k.resume)with
   |true=>exact h.resumed hr
   |false=>exact h)
theorem WV{C:au}(hC:C.Ok){ms:List aC}{act who:Int}(hm:∀(i:Nat)(m:aC)(k:aQ),ms[i]?=some m->C.clauses[i]?=some k->dL C k m):
 ∀(i:Nat)(m:aC)(k:aQ),(C.Bc act who ms)[i]?=some m->C.clauses[i]?=some k->dL C k m:=
 map_ok (Cx C act who ms) hm (λi m k hk h hr=>by
  unfold Cw;rw[hk];cases q1:((k.act==act)&&((k.kind==4)||(m.dP==who)))with
  |true=>simpa only[q1,cond_true]using h.hit (hC.clause hk) hr hC.aF
  |false=>simpa only[q1,cond_false]using h)
theorem Ud{C:au}(hC:C.Ok){ms:List aC}{free:Bool}(hm:∀(i:Nat)(m:aC)(k:aQ),ms[i]?=some m->C.clauses[i]?=some k->dL C k m):
 ∀(i:Nat)(m:aC)(k:aQ),(C.Gl free ms)[i]?=some m->C.clauses[i]?=some k->dL C k m:=
 map_ok (Gp C free ms) hm (λi m k hk h hr=>by
  unfold Bd;rw[hk];cases q1:(m.paused||(k.qV&&free))with
  |true=>simpa only[q1,cond_true]using h
  |false=>simpa only[q1,cond_false]using h.xB (hC.clause hk) hr hC.aF)
theorem Qk{C:au}{ms:List aC}{give tgt:Int}(h0:0<=tgt)(h1:tgt<C.aF)(hm:∀(i:Nat)(m:aC)(k:aQ),ms[i]?=some m->C.clauses[i]?=some k->dL C k m):
 ∀(i:Nat)(m:aC)(k:aQ),((f_ ms ms.length).foldl (λms j=>eU C give tgt j ms) ms)[i]?=some m->C.clauses[i]?=some k->dL C k m:=
 map_ok (Nf C give tgt ms) hm (λi m k hk h hr=>by
  unfold Bf;rw[hk];dsimp only;cases q1:((k.kind !=4)&&(k.role==give))with
  |true=>
   simp only[bM,bne_iff_ne]at q1;exact h.borne hr q1.1 h0 h1
  |false=>exact h)
theorem Sb{C:au}{s:ak}(h:bJ C s)(hd:s.day<C.days):bJ C (C.tick s):=by
 have hC:=au.ok h.con;obtain⟨b1,b2⟩:=Bh hC h.lh h.held (Ud hC (free:=C.off.contains s.day) h.marks);exact⟨h.con,by show 0<=s.day+1;have:=h.Ub;omega,by show s.day+1<=C.days;omega,h.lh,h.lu,by show(C.begin _ _).length=_;rw[yF,Qh];exact h.lm,h.held,h.used,b1,b2⟩
theorem mem_set{α:Type}{l:List α}{i:Nat}{x y:α}(h:y∈l.set i x):y=x\/y∈l:=by
 rcases List.mem_or_eq_of_mem_set h with h|h
 .exact .inr h
 .exact .inl h
theorem WW{C:au}{s:ak}{i:Nat}{a:iO}(hA:aaK C a)(ha:C.acts[i]?=some a)(hk:a.kind≠1)(h1:s.aj.length=C.aj.length)(h2:s.used.length=C.acts.length)(h3:s.marks.length=C.clauses.length)(h4:∀p∈s.aj,0<=p/\p<C.aF)
 (h5:∀(i:Nat)(a:iO),s.used[i]?=some true->C.acts[i]?=some a->a.kind≠1)(h6:∀(i:Nat)(m:aC)(k:aQ),s.marks[i]?=some m->C.clauses[i]?=some k->dL C k m):
 (C.shift i a s).aj.length=C.aj.length/\(C.shift i a s).used.length=C.acts.length/\(C.shift i a s).marks.length=C.clauses.length/\(∀p∈(C.shift i a s).aj,0<=p/\p<C.aF)/\(∀(j:Nat)(a':iO),(C.shift i a s).used[j]?=some true->C.acts[j]?=some a'->a'.kind≠1)/\
  (∀(j:Nat)(m:aC)(k:aQ),(C.shift i a s).marks[j]?=some m->C.clauses[j]?=some k->dL C k m):=by
 refine⟨by simp[au.shift,h1],by simp[au.shift,h2],?_,?_,?_,?_⟩
 .simp only[au.shift]
  cases (a.kind !=3)with
  |true=>exact h3
  |false=>simp only[cond_false];rw[qO _ (λi ms=>ow C _ _ i ms)];exact h3
 .intro p hp
  simp only[au.shift]at hp;rcases mem_set hp with rfl|hp
  .exact hA.tgt hk
  .exact h4 p hp
 .intro j a' hu ha'
  simp only[au.shift]at hu;by_cases hij:i=j
  .subst hij
   rw[ha]at ha';injection ha' with ha'
   subst ha';exact hk
  .rw[jI,if_neg hij]at hu
   exact h5 j a' hu ha'
 .simp only[au.shift]
  cases (a.kind !=3)with
  |true=>exact h6
  |false=>exact Qk (hA.tgt hk).1 (hA.tgt hk).2 h6
theorem Ql{C:au}{s:ak}(h:bJ C s){i:Nat}{a:iO}(ha:C.acts[i]?=some a):bJ C (C.act i a s):=by
 have hC:=au.ok h.con;have hA:=hC.act (cK ha);unfold au.act;cases q:((a.kind !=1)&&s.used.getD i false)with
 |true=>exact h
 |false=>
  simp only[cond_false];have hm:=WV hC (who:=nP s.aj a) (act:=i) (Uc (act:=i) (by omega) h.marks);have hl:(C.Bc i (nP s.aj a) (C.paused i s.marks)).length=C.clauses.length:=by rw[Cy,zT];exact h.lm
  cases q1:(a.kind !=1)with
  |false=>
   simp only[cond_false];obtain⟨b1,b2⟩:=Bh hC h.lh h.held hm;exact⟨h.con,h.Ub,h.WT,h.lh,h.lu,by show(C.begin _ _).length=_;rw[yF];exact hl,h.held,h.used,b1,b2⟩
  |true=>
   simp only[cond_true];have hk1:a.kind≠1:=by simpa using q1
   obtain⟨s1,s2,s3,s4,s5,s6⟩:=WW (s:=⟨s.day,s.aj,s.used,C.Bc i (nP s.aj a) (C.paused i s.marks)⟩) hA ha hk1 h.lh h.lu hl h.held h.used hm;obtain⟨b1,b2⟩:=Bh hC s1 s4 s6;exact⟨h.con,h.Ub,h.WT,s1,s2,by show(C.begin _ _).length=_;rw[yF];exact s3,s4,s5,b1,b2⟩
def jv(k:aQ):aC:=⟨cond k.uS 5 0,0,0, -1,false⟩
def au.first(C:au):ak:=⟨0,C.aj,List.replicate C.acts.length false,C.begin C.aj (C.clauses.map jv)⟩
theorem Bj{C:au}(h:C.valid=true):bJ C C.first:=by
 have hC:=au.ok h;obtain⟨b1,b2⟩:=Bh (ms:=C.clauses.map jv) hC rfl hC.held (λi m k hm hk=>by
  rw[gG,hk]at hm;simp only[j3,Option.some.injEq]at hm;subst hm;have hp:=hC.aF;cases hw:k.uS with
  |true=>exact .inr (.inr ⟨.inr (.inr (by simp[jv,hw])),rfl,by simp[jv],by simp[jv],by simp[jv],by simp[jv];omega,rfl⟩)
  |false=>exact .inl ⟨by simp[jv,hw],hw,rfl,rfl,rfl,rfl⟩)
 refine⟨h,iL _,by show 0<=C.days;have:=hC.days;omega,rfl,by simp[au.first],by simp[au.first,yF],hC.held,?_,b1,b2⟩;intro i a hu;simp only[au.first]at hu;have:=cK hu;simp at this
theorem Qm{C:au}{hs:List Int}{ms:List aC}(h:∀(i:Nat)(m:aC)(k:aQ),ms[i]?=some m->C.clauses[i]?=some k->j6 ms k m=false):C.begin hs ms=ms:=by
 apply DI;apply Gv;intro i hi;unfold iK;cases hk:C.clauses[i]? with
 |none=>rfl
 |some k=>
  cases hm:ms[i]? with
  |none=>rfl
  |some m=>exact h i m k hm hk
theorem Nh{ms ms':List aC}{f:Nat->aC->aC}(hg:∀j:Nat,ms'[j]?=(ms[j]?).map (λm=>cond m.runs (f j m) m))(hf:∀(j:Nat)(m:aC),ms[j]?=some m->m.runs=true->f j m=m):ms'=ms:=by
 apply kX;intro j;rw[hg];cases hm:ms[j]? with
 |none=>rfl
 |some m=>
  simp only[j3,Option.some.injEq];cases hr:m.runs with
  |false=>rfl
  |true=>exact hf j m hm hr
theorem WX{C:au}{s:ak}(h:bJ C s){i:Nat}{a:iO}(hk1:a.kind=1)
 (hn:∀(j:Nat)(m:aC)(k:aQ),s.marks[j]?=some m->C.clauses[j]?=some k->m.runs=true->k.act≠i/\k.pause≠i/\k.resume≠i):C.act i a s=s:=by
 have h1:C.paused i s.marks=s.marks:=Nh (vg C i s.marks) (λj m hm hr=>by
  unfold mY;cases hk:C.clauses[j]? with
  |none=>rfl
  |some k=>
   obtain⟨_,n2,n3⟩:=hn j m k hm hk hr;have e2:((i:Int)==k.pause)=false:=by simpa usingλe=>n2 e.symm
   have e3:((i:Int)==k.resume)=false:=by simpa usingλe=>n3 e.symm
   simp only[e2,e3,cond_false])
 have h2:C.Bc i (nP s.aj a) s.marks=s.marks:=Nh (Cx C i _ s.marks) (λj m hm hr=>by
  unfold Cw;cases hk:C.clauses[j]? with
  |none=>rfl
  |some k=>
   obtain⟨n1,_,_⟩:=hn j m k hm hk hr;have e1:(k.act==(i:Int))=false:=by simpa using n1
   simp only[e1,Bool.false_and,cond_false])
 have h3:C.begin s.aj s.marks=s.marks:=Qm h.still;have q:(a.kind !=1)=false:=by simpa using hk1
 unfold au.act;simp only[q,Bool.false_and,cond_false,h1,h2,h3]
theorem Ni{days:Int}:∀{l:List Int}{last:Int},sD days last l=true->∀d∈l,last<d
 |[],_,_,_,h=>by cases h
 |x::l,last,h,d,hd=>by
  simp only[sD,bM,iE,decide_eq_false_iff_not]at h;rcases d_.1 hd with rfl|hd
  .omega
  .have:=Ni h.2.2 d hd;omega
theorem Bn{days:Int}:∀{l:List Int}{last:Int},sD days last l=true->l.Pairwise (·<=·)
 |[],_,_=>List.Pairwise.nil
 |x::l,last,h=>by
  simp only[sD,bM,iE,decide_eq_false_iff_not]at h;exact List.Pairwise.cons (λd hd=>by have:=Ni h.2.2 d hd;omega) (Bn h.2.2)
theorem JY{days:Int}:∀{l:List Int}{last:Int},sD days last l=true->l=[]\/(l.length:Int)<=days - last - 1
 |[],_,_=>.inl rfl
 |x::l,last,h=>by
  simp only[sD,bM,iE,decide_eq_false_iff_not]at h;right;rcases JY h.2.2 with rfl|h2
  .simp;omega
  .simp only[iy];omega
structure Needs(C:au)(s:ak):Prop where
 hin:∀k∈C.clauses,∀c∈k.start,0<=c.clause/\c.clause<C.clauses.length
 hro:∀k∈C.clauses,k.kind≠4->0<=k.role/\k.role<s.aj.length
 hki:∀k∈C.clauses,1<=k.kind/\k.kind<=4
 hof:C.off.Pairwise (·<=·)
 hol:C.off.length<4611686018427387904
 hd0:0<=s.day
 hd1:s.day<=1000000
 hle:∀m∈s.marks,m.runs=true->1<=m.left/\m.left<=1000000
 hgo:∀m∈s.marks,m.runs=true->0<=m.got/\m.got<=1000000
 lh:s.aj.length<=12
 lu:s.used.length<=60
 lm:s.marks.length<=400
theorem bJ.needs{C:au}{s:ak}(h:bJ C s):Needs C s:=by
 have hC:=au.ok h.con;have hcl:∀k∈C.clauses,∃i,oN C i k:=λk hk=>by
  obtain⟨i,hi⟩:=jV.1 hk;exact⟨i,hC.clause hi⟩
 have hmk:∀m∈s.marks,∃i k,oN C i k/\dL C k m:=λm hm=>by
  obtain⟨i,hi⟩:=jV.1 hm;have hil:i<C.clauses.length:=by rw[<-h.lm];exact(aZ.1 hi).1
  exact⟨i,_,hC.clause (aT hil),h.marks i m _ hi (aT hil)⟩
 refine⟨?_,?_,?_,Bn hC.off,?_,h.Ub,?_,?_,?_,?_,?_,?_⟩
 .intro k hk c hc
  obtain⟨i,hi⟩:=hcl k hk;have:=hi.start c hc;exact⟨this.1,this.2.1⟩
 .intro k hk h4
  obtain⟨i,hi⟩:=hcl k hk;have:=hi.role h4;have:=h.lh;omega
 .intro k hk
  obtain⟨i,hi⟩:=hcl k hk;exact⟨hi.aeU,hi.aeV⟩
 .have:=hC.aaI
  rcases JY hC.off with h1|h1
  .rw[h1];decide
  .omega
 .have:=h.WT;have:=hC.aaI;omega
 .intro m hm hr
  obtain⟨i,k,hk,hmo⟩:=hmk m hm;have a1:=hk.WR;have a2:=hk.WS;rw[rz]at hr;rcases hmo with⟨h0,_⟩|⟨h1,_,h2,_⟩|⟨h0,_⟩<;>omega
 .intro m hm hr
  obtain⟨i,k,hk,hmo⟩:=hmk m hm;have:=hmo.got hk;omega
 .have:=h.lh;have:=hC.Qi;omega
 .have:=h.lu;have:=hC.JW;omega
 .have:=h.lm;have:=hC.Gs;omega
end Go.Proofs.YtpmdedcnbockhaaGreatDoor
