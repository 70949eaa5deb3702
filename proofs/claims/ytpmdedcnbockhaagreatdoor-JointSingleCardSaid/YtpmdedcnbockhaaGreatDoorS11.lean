/- part -/
import Derived.Test.YtpmdedcnbockhaaGreatDoorS10
namespace Go.Proofs.YtpmdedcnbockhaaGreatDoor
section
open Go.RowKit Go.Shelf Tryz
theorem uR{n:Nat}{g:Operand}{ps:Array Tmp}{assign body:Code}{Q:Exit->Act->World->Prop}{a:Act}{W2 w0:World}{b:Nat}{v:CV}{C:au}{t:TV}{day:Int}{aj:List Int}{used:List Bool}{ms0:List aD}{gh gu gm Bw:Nat}
 (upd:Nat->List aD->List aD)(hu:∀i ms j,j≠i->(upd i ms)[j]?=ms[j]?)(hul:∀i ms,(upd i ms).length=ms.length)(h3:3<=n)
 (hg:a.eval g= .func (.func 146) #[] #[.pointer (some ⟨Bw,0,none⟩)])(hps:ps.size=1)
 (hW:aH w0 W2 b v C t ⟨day,aj,used,ms0⟩ gh gu gm)(hB:W2.cell? ⟨Bw,0,none⟩=some (.pointer (some ⟨b,0,none⟩)))(hBl:Bw<W2.heap.size)(hBn:¬gX b gh gu gm Bw)(a₁:Nat->Act)
 (hassign:∀(l x:Nat)(W:World)(K:Act->World->Prop),K (a₁ x) W->assign.wpIn (Fence.wide.inRound l) (n - 1 - 1) prog (Exit.then K (λ_ _ _=>False)) {tmps:=(ps.zip #[.int .i64 x]).foldl (λt (p,v)=>t.setIfInBounds p v) a.tmps,defers:=[]} W)
 (hbody:∀(l x:Nat)(m:aD)(M:List aD)(W:World),ms0[x]?=some m->m.runs=true->M.length=ms0.length->M[x]?=some m->aH w0 W b v C t ⟨day,aj,used,M⟩ gh gu gm->aG (gX b gh gu gm) W2 W->
  body.wpIn (Fence.wide.inRound l) (n - 1 - 1) prog (λe _ W'=>e= .normal/\aH w0 W' b v C t ⟨day,aj,used,upd x M⟩ gh gu gm/\aG (gX b gh gu gm) W W') (a₁ x) W)
 (hdone:∀(D:Nat)(W:World),W2.heap.size<=D->aH w0 W b v C t ⟨day,aj,used,(gP ms0 ms0.length).foldl (λms i=>upd i ms) ms0⟩ gh gu gm->aG (gX b gh gu gm) W2 W->W.heap[D]?=some (.deferred (some []))->Q .normal {a with defers:={target:=.collected D,args:=#[]}::a.defers} W):
 (Code.rangeFunc g ps assign body).wpIn Fence.wide n prog Q a W2:=by
 refine xR (α:=Nat) rfl (by omega) (gf:=146) hg trivial (enters_of func146 (by kernel_rfl) rfl)
  (BU (Bw:=Bw) (ms0:=ms0) upd hu hul _ (by omega)
   (λpre W=>aH w0 W b v C t ⟨day,aj,used,pre.foldl (λms i=>upd i ms) ms0⟩ gh gu gm/\aG (gX b gh gu gm) W2 W)
   (λpre W h=>⟨h.1,(h.2.cell hBl hBn).trans hB⟩)) (λ_=>hps.symm) ?own ?start a₁ ?assign ?body ?done
 case assign=>exactλl x W K hK=>hassign l x W K hK
 case own=>exact OwnFrom.and (aH.mG (λpre:List Nat=>(⟨day,aj,used,pre.foldl (λms i=>upd i ms) ms0⟩:ak)) _ hW.below.size) (aG.mG _ (bJ _))
 case start=>exact⟨hW,aG.refl _ _⟩
 case body=>
  rintro l pre x W ⟨hWx,hUx⟩ ⟨hpre,m,hm,hrun⟩;have hmx:(pre.foldl (λms i=>upd i ms) ms0)[x]?=some m:=by
   rw[hpre,vP upd hu x _ _ (rE ms0 x)];exact hm
  refine wpIn_mono (hbody l x m _ W hm hrun (rF upd hul _ _) hmx hWx hUx) ?_;rintro e a3 W' ⟨rfl,h1,h2⟩;refine⟨rfl,(hWx.keeps h2).from _,?_,hUx.trans h2 (λ_ _ h=>h)⟩;rw[uG];exact h1
 case done=>
  rintro D xs W hD rfl ⟨hWx,hUx⟩ hK;exact hdone D W hD hWx hUx hK
def gQ(C:au)(act:Int)(i:Nat)(ms:List aD):List aD:=
 match C.clauses[i]?,ms[i]? with
 |some k,some m=>cond (act==k.pause) (ms.set i ⟨m.status,m.left,m.got,m.dK,true⟩) (cond (act==k.resume) (ms.set i ⟨m.status,m.left,m.got,m.dK,false⟩) ms)
 |_,_=>ms
def aD.hit(m:aD)(k:aP):aD:=cond (k.kind==1) (m.performed k.need) (cond (k.kind==2) m.violated (m.ended 3))
def j4(C:au)(act who:Int)(i:Nat)(ms:List aD):List aD:=
 match C.clauses[i]?,ms[i]? with
 |some k,some m=>cond ((k.act==act)&&((k.kind==4)||(m.dK==who))) (ms.set i (m.hit k)) ms
 |_,_=>ms
def aD.due(m:aD)(k:aP):aD:=cond (k.kind==1) (m.expired k.lY) (cond (k.kind==2) (m.ended 3) (m.ended 5))
def aD.xY(m:aD)(k:aP):aD:=cond (m.left - 1==0) (aD.due ⟨m.status,m.left - 1,m.got,m.dK,m.paused⟩ k) ⟨m.status,m.left - 1,m.got,m.dK,m.paused⟩
def kW(C:au)(free:Bool)(i:Nat)(ms:List aD):List aD:=
 match C.clauses[i]?,ms[i]? with
 |some k,some m=>cond (m.paused||(k.rR&&free)) ms (ms.set i (m.xY k))
 |_,_=>ms
theorem Aj(C:au)(act:Int)(i:Nat)(ms:List aD):(gQ C act i ms).length=ms.length:=by
 unfold gQ;split
 .rename_i k m _ _
  cases (act==k.pause)<;>cases (act==k.resume)<;>simp
 .rfl
theorem qC(C:au)(act:Int)(i:Nat)(ms:List aD)(j:Nat)(h:j≠i):(gQ C act i ms)[j]?=ms[j]?:=by
 have h2:∀x,(ms.set i x)[j]?=ms[j]?:=λx=>by rw[j_,if_neg (λe=>h e.symm)]
 unfold gQ;split
 .rename_i k m _ _
  cases (act==k.pause)<;>cases (act==k.resume)<;>simp only[cond_true,cond_false,h2]
 .rfl
theorem Ev(C:au)(act who:Int)(i:Nat)(ms:List aD):(j4 C act who i ms).length=ms.length:=by
 unfold j4;split
 .rename_i k m _ _
  cases ((k.act==act)&&((k.kind==4)||(m.dK==who)))<;>simp
 .rfl
theorem uj(C:au)(act who:Int)(i:Nat)(ms:List aD)(j:Nat)(h:j≠i):(j4 C act who i ms)[j]?=ms[j]?:=by
 have h2:∀x,(ms.set i x)[j]?=ms[j]?:=λx=>by rw[j_,if_neg (λe=>h e.symm)]
 unfold j4;split
 .rename_i k m _ _
  cases ((k.act==act)&&((k.kind==4)||(m.dK==who)))<;>simp only[cond_true,cond_false,h2]
 .rfl
theorem B_(C:au)(free:Bool)(i:Nat)(ms:List aD):(kW C free i ms).length=ms.length:=by
 unfold kW;split
 .rename_i k m _ _
  cases (m.paused||(k.rR&&free))<;>simp
 .rfl
theorem xZ(C:au)(free:Bool)(i:Nat)(ms:List aD)(j:Nat)(h:j≠i):(kW C free i ms)[j]?=ms[j]?:=by
 have h2:∀x,(ms.set i x)[j]?=ms[j]?:=λx=>by rw[j_,if_neg (λe=>h e.symm)]
 unfold kW;split
 .rename_i k m _ _
  cases (m.paused||(k.rR&&free))<;>simp only[cond_true,cond_false,h2]
 .rfl
def au.paused(C:au)(act:Int)(ms:List aD):List aD:=(gP ms ms.length).foldl (λms j=>gQ C act j ms) ms
def au.Ew(C:au)(act who:Int)(ms:List aD):List aD:=(gP ms ms.length).foldl (λms j=>j4 C act who j ms) ms
def au.G7(C:au)(free:Bool)(ms:List aD):List aD:=(gP ms ms.length).foldl (λms j=>kW C free j ms) ms
def au.act(C:au)(i:Nat)(a:jy)(s:ak):ak:=
 cond ((a.kind !=1)&&s.used.getD i false) s
  (let s2:ak:=⟨s.day,s.aj,s.used,C.Ew i (qg s.aj a) (C.paused i s.marks)⟩
   let s3:=cond (a.kind !=1) (C.shift i a s2) s2
   ⟨s3.day,s3.aj,s3.used,C.begin s3.aj s3.marks⟩)
def au.tick(C:au)(s:ak):ak:=
 ⟨s.day+1,s.aj,s.used,C.begin s.aj (C.G7 (C.off.contains s.day) s.marks)⟩
end
section
open Go.RowKit Tryz
theorem KF(upd:Nat->List aD->List aD)(f:Nat->aD->aD)(hu:∀i ms j,j≠i->(upd i ms)[j]?=ms[j]?)(hs:∀i ms,(upd i ms)[i]?=(ms[i]?).map (f i))(ms:List aD):∀(k j:Nat),
 ((gP ms k).foldl (λms i=>upd i ms) ms)[j]?=(ms[j]?).map (λm=>cond (decide (j<k)&&m.runs) (f j m) m)
 |0,j=>by simp[gP]
 |k+1,j=>by
  have ih:=KF upd f hu hs ms k;unfold gP;by_cases hjk:j=k
  .subst hjk
   cases hm:ms[j]? with
   |none=>
    have h2:=ih j;rw[hm]at h2;simpa using h2
   |some m=>
    have h2:=ih j;rw[hm]at h2;simp only[mZ,show decide (j<j)=false by simp,Bool.false_and,cond_false]at h2;cases hr:m.runs with
    |false=>
     simp only[cond_false,mZ,hr,Bool.and_false];exact h2
    |true=>
     simp only[cond_true,uG,List.foldl_cons,List.foldl_nil,mZ,hr,show decide (j<j+1)=true by simp,Bool.and_true];rw[hs,h2];rfl
  .have hlt:decide (j<k+1)=decide (j<k):=by
    by_cases h:j<k
    .rw[decide_eq_true h,decide_eq_true (by omega)]
    .rw[decide_eq_false h,decide_eq_false (by omega)]
   rw[hlt];cases hm:ms[k]? with
   |none=>exact ih j
   |some m=>
    cases hr:m.runs with
    |false=>simpa [hr]using ih j
    |true=>
     simp only[hr,cond_true,uG,List.foldl_cons,List.foldl_nil];rw[hu _ _ _ hjk];exact ih j
theorem oW(upd:Nat->List aD->List aD)(f:Nat->aD->aD)(hu:∀i ms j,j≠i->(upd i ms)[j]?=ms[j]?)(hs:∀i ms,(upd i ms)[i]?=(ms[i]?).map (f i))(ms:List aD)(j:Nat):
 ((gP ms ms.length).foldl (λms i=>upd i ms) ms)[j]?=(ms[j]?).map (λm=>cond m.runs (f j m) m):=by
 rw[KF upd f hu hs ms ms.length j];cases hm:ms[j]? with
 |none=>rfl
 |some m=>
  have hj:j<ms.length:=(bB.1 hm).1;simp[hj]
def pU(C:au)(act:Int)(i:Nat)(m:aD):aD:=
 match C.clauses[i]? with
 |some k=>cond (act==k.pause) ⟨m.status,m.left,m.got,m.dK,true⟩ (cond (act==k.resume) ⟨m.status,m.left,m.got,m.dK,false⟩ m)
 |none=>m
def G8(C:au)(act who:Int)(i:Nat)(m:aD):aD:=
 match C.clauses[i]? with
 |some k=>cond ((k.act==act)&&((k.kind==4)||(m.dK==who))) (m.hit k) m
 |none=>m
def Ca(C:au)(free:Bool)(i:Nat)(m:aD):aD:=
 match C.clauses[i]? with
 |some k=>cond (m.paused||(k.rR&&free)) m (m.xY k)
 |none=>m
def Cb(C:au)(give tgt:Int)(i:Nat)(m:aD):aD:=
 match C.clauses[i]? with
 |some k=>cond ((k.kind !=4)&&(k.role==give)) ⟨m.status,m.left,m.got,tgt,m.paused⟩ m
 |none=>m
theorem rG{ms:List aD}{i:Nat}{m:aD}(hm:ms[i]?=some m)(x:aD):(ms.set i x)[i]?=some x:=List.getElem?_set_self (bB.1 hm).1
theorem G9(C:au)(act:Int)(i:Nat)(ms:List aD):(gQ C act i ms)[i]?=(ms[i]?).map (pU C act i):=by
 unfold gQ pU;cases hk:C.clauses[i]? with
 |none=>cases ms[i]?<;>rfl
 |some k=>
  cases hm:ms[i]? with
  |none=>simp[hm]
  |some m=>cases h1:(act==k.pause)<;>cases h2:(act==k.resume)<;>simp only[h1,h2,cond_true,cond_false,mZ]<;>first|exact rG hm _|exact hm
theorem LP(C:au)(act who:Int)(i:Nat)(ms:List aD):(j4 C act who i ms)[i]?=(ms[i]?).map (G8 C act who i):=by
 unfold j4 G8;cases hk:C.clauses[i]? with
 |none=>cases ms[i]?<;>rfl
 |some k=>
  cases hm:ms[i]? with
  |none=>simp[hm]
  |some m=>cases h1:((k.act==act)&&((k.kind==4)||(m.dK==who)))<;>simp only[h1,cond_true,cond_false,mZ]<;>first|exact rG hm _|exact hm
theorem JQ(C:au)(free:Bool)(i:Nat)(ms:List aD):(kW C free i ms)[i]?=(ms[i]?).map (Ca C free i):=by
 unfold kW Ca;cases hk:C.clauses[i]? with
 |none=>cases ms[i]?<;>rfl
 |some k=>
  cases hm:ms[i]? with
  |none=>simp[hm]
  |some m=>cases h1:(m.paused||(k.rR&&free))<;>simp only[h1,cond_true,cond_false,mZ]<;>first|exact rG hm _|exact hm
theorem G_(C:au)(give tgt:Int)(i:Nat)(ms:List aD):(fH C give tgt i ms)[i]?=(ms[i]?).map (Cb C give tgt i):=by
 unfold fH Cb;cases hk:C.clauses[i]? with
 |none=>cases ms[i]?<;>rfl
 |some k=>
  cases hm:ms[i]? with
  |none=>simp[hm]
  |some m=>cases h1:((k.kind !=4)&&(k.role==give))<;>simp only[h1,cond_true,cond_false,mZ]<;>first|exact rG hm _|exact hm
theorem AP(C:au)(act:Int)(ms:List aD)(j:Nat):(C.paused act ms)[j]?=(ms[j]?).map (λm=>cond m.runs (pU C act j m) m):=
 oW _ _ (λi ms j h=>qC C act i ms j h) (G9 C act) ms j
theorem KG(C:au)(act who:Int)(ms:List aD)(j:Nat):(C.Ew act who ms)[j]?=(ms[j]?).map (λm=>cond m.runs (G8 C act who j m) m):=
 oW _ _ (λi ms j h=>uj C act who i ms j h) (LP C act who) ms j
theorem He(C:au)(free:Bool)(ms:List aD)(j:Nat):(C.G7 free ms)[j]?=(ms[j]?).map (λm=>cond m.runs (Ca C free j m) m):=
 oW _ _ (λi ms j h=>xZ C free i ms j h) (JQ C free) ms j
theorem Ob(C:au)(give tgt:Int)(ms:List aD)(j:Nat):((gP ms ms.length).foldl (λms i=>fH C give tgt i ms) ms)[j]?=(ms[j]?).map (λm=>cond m.runs (Cb C give tgt j m) m):=
 oW _ _ (λi ms j h=>qz C give tgt i ms j h) (G_ C give tgt) ms j
theorem AQ{ms ms':List aD}{f:Nat->aD->aD}(h:∀j:Nat,ms'[j]?=(ms[j]?).map (f j)):ms'.length=ms.length:=by
 apply Nat.le_antisymm
 .rcases iH ms.length ms'.length with h1|h1
  .have h2:=h ms.length
   rw[aS h1,mX (bJ _)]at h2;cases h2
  .exact h1
 .rcases iH ms'.length ms.length with h1|h1
  .have h2:=h ms'.length
   rw[aS h1,mX (bJ _)]at h2;cases h2
  .exact h1
theorem AU(C:au)(act:Int)(ms:List aD):(C.paused act ms).length=ms.length:=AQ (f:=λj m=>cond m.runs (pU C act j m) m) (AP C act ms)
theorem Dv(C:au)(act who:Int)(ms:List aD):(C.Ew act who ms).length=ms.length:=AQ (f:=λj m=>cond m.runs (G8 C act who j m) m) (KG C act who ms)
theorem Q5(C:au)(free:Bool)(ms:List aD):(C.G7 free ms).length=ms.length:=AQ (f:=λj m=>cond m.runs (Ca C free j m) m) (He C free ms)
theorem LQ(C:au)(act:Int)(i:Nat)(m:aD):(pU C act i m).got=m.got/\(pU C act i m).status=m.status:=by
 unfold pU;split
 .rename_i k _
  cases (act==k.pause)<;>cases (act==k.resume)<;>exact⟨rfl,rfl⟩
 .exact⟨rfl,rfl⟩
theorem Hf{C:au}{act:Int}{ms:List aD}{j:Nat}{m:aD}(h:(C.paused act ms)[j]?=some m):∃m0,ms[j]?=some m0/\m.got=m0.got/\m.runs=m0.runs:=by
 rw[AP]at h;cases hm:ms[j]? with
 |none=>rw[hm]at h;cases h
 |some m0=>
  rw[hm]at h;simp only[mZ,Option.some.injEq]at h;refine⟨m0,rfl,?_⟩;cases hr:m0.runs with
  |false=>
   rw[hr]at h;simp only[cond_false]at h;subst h;exact⟨rfl,hr⟩
  |true=>
   rw[hr]at h;simp only[cond_true]at h;subst h;have h2:=LQ C act j m0;refine⟨h2.1,?_⟩;unfold aD.runs at hr⊢;rw[h2.2];exact hr
theorem aG.on{S:Nat->Prop}{a w z:World}(h:aG S a w)(hz:Below w.heap.size w z):aG S a z:=h.trans (aG.of_below hz) (λi hi hs=>by have:=h.size;omega)
end
theorem zy{n:Nat}{f:Nat->Bool}(h:(List.range n).all f=true){i:Nat}(hi:i<n):f i=true:=fV.1 h i (List.mem_range.2 hi)
structure au.Ok(C:au):Prop where
 aF:1<=C.aF
 days:1<=C.days
 abQ:C.days<=2000
 roles:C.aj.length≠0
 held:∀p∈C.aj,0<=p/\p<C.aF
 acts:∀a∈C.acts,C.wG a=true
 off:sO C.days (-1) C.off=true
 clauses:∀(i:Nat)(k:aP),C.clauses[i]?=some k->C.jm i k=true
 Hg:C.aF<=12
 Q6:C.aj.length<=12
 Ey:C.acts.length<=60
 Cc:C.clauses.length<=400
theorem au.ok{C:au}(h:C.valid=true):C.Ok:=by
 simp only[au.valid,au.over,au.framed,Ux,bS,jk,oh,decide_eq_false_iff_not]at h;obtain⟨⟨o1,o2,o3,o4,o5,o6⟩,⟨⟨f1,f2,f3,f4⟩,f5,f6,f7⟩,hc⟩:=h;refine⟨by omega,by omega,by omega,?_,?_,?_,f7,?_,by omega,by omega,by omega,by omega⟩
 .intro e
  rw[e]at f3;exact absurd f3 (by decide)
 .intro p hp
  have h1:=fV.1 f4 p hp;simp only[au.party,bS,decide_eq_true_eq]at h1;exact h1
 .intro a ha
  exact fV.1 f6 a ha
 .intro i k hk
  have hi:i<C.clauses.length:=(bB.1 hk).1;have h1:=zy hc hi;rw[hk]at h1;exact h1
structure rZ(C:au)(i:Nat)(k:aP):Prop where
 af6:0<=k.act
 af7:k.act<C.acts.length
 af8:1<=k.kind
 af9:k.kind<=4
 ac2:1<=k.after
 XY:k.after<=400
 role:k.kind≠4->0<=k.role/\k.role<C.aj.length
 af_:1<=k.need
 abR:k.need<=9
 ajM:0<=k.lY
 XZ:k.lY<=400
 ajN:k.kind≠1->k.lY=0
 pause:k.pause≠ -1\/k.resume≠ -1->k.pause≠k.resume/\C.natural k.pause=true/\C.natural k.resume=true
 start:∀c∈k.start,0<=c.clause/\c.clause<C.clauses.length/\c.clause≠i/\1<=c.is/\c.is<=4
 ajO:k.start.length<=8
theorem au.Ok.clause{C:au}(h:C.Ok){i:Nat}{k:aP}(hk:C.clauses[i]?=some k):rZ C i k:=by
 have hc:=h.clauses i k hk;simp only[au.jm,Ec,m_,ni,Aa,bS,jk,decide_eq_false_iff_not]at hc;obtain⟨⟨c1,c2,c3,c4,ck,c5⟩,cs,cp,_⟩:=hc;have hkd:1<=k.kind/\k.kind<=4/\(k.kind≠4->0<=k.role/\k.role<C.aj.length)/\1<=k.need/\k.need<=9/\0<=k.lY/\k.lY<=400/\(k.kind≠1->k.lY=0):=by
  cases q4:(k.kind==4)with
  |true=>
   simp only[q4,cond_true,bS,beq_iff_eq]at ck;have q4:k.kind=4:=by simpa using q4
   obtain⟨a1,a2,a3,_⟩:=ck;refine⟨by omega,by omega,λh=>absurd q4 h,by omega,by omega,by omega,by omega,λ_=>a3⟩
  |false=>
   simp only[q4,cond_false]at ck;have q4':k.kind≠4:=by simpa using q4
   cases qr:(!C.role k.role||C.natural k.act)with
   |true=>simp only[qr,cond_true]at ck;cases ck
   |false=>
    simp only[qr,cond_false]at ck;simp only[oh,Bool.not_eq_false',au.role,bS,decide_eq_true_eq]at qr;cases q1:(k.kind==1)with
    |true=>
     simp only[q1,cond_true,bS,decide_eq_true_eq]at ck;have q1:k.kind=1:=by simpa using q1
     refine⟨by omega,by omega,λ_=>qr.1,ck.1,ck.2.1,ck.2.2.1,ck.2.2.2,λh=>absurd q1 h⟩
    |false=>
     simp only[q1,cond_false]at ck;cases q2:(k.kind==2)with
     |true=>
      simp only[q2,cond_true,bS,beq_iff_eq]at ck;have q2:k.kind=2:=by simpa using q2
      refine⟨by omega,by omega,λ_=>qr.1,by omega,by omega,by omega,by omega,λ_=>ck.2⟩
     |false=>
      simp only[q2,cond_false]at ck;cases q3:(k.kind==3)with
      |true=>
       simp only[q3,cond_true,bS,beq_iff_eq]at ck;have q3:k.kind=3:=by simpa using q3
       refine⟨by omega,by omega,λ_=>qr.1,by omega,by omega,by omega,by omega,λ_=>ck.2.1⟩
      |false=>simp only[q3,cond_false]at ck;cases ck
 obtain⟨k1,k2,k3,k4,k5,k6,k7,k8⟩:=hkd;refine⟨by omega,by omega,k1,k2,by omega,by omega,k3,k4,k5,k6,k7,k8,?_,?_,by omega⟩
 .intro hp
  cases qp:(!(k.pause== -1)|| !(k.resume== -1))with
  |true=>
   simp only[qp,cond_true,bS,jk,beq_eq_false_iff_ne]at cp;exact⟨cp.1,cp.2.1,cp.2.2⟩
  |false=>
   simp only[oh,Bool.not_eq_false',beq_iff_eq]at qp;omega
 .intro c hc
  have h1:=fV.1 cs c hc;simp only[sN,bS,jk,decide_eq_false_iff_not,beq_eq_false_iff_ne]at h1;obtain⟨e1,e2,e3,e4,e5⟩:=h1;exact⟨by omega,by omega,e3,by omega,by omega⟩
def dD(C:au)(k:aP)(m:aD):Prop:=
 (m.status=0/\k.vH=false/\m.left=0/\m.got=0/\m.dK= -1/\m.paused=false)\/
 ((m.status=1/\m.left<=k.after\/m.status=2/\k.kind=1/\m.left<=k.lY)/\k.vH=false/\1<=m.left/\(m.paused=true->k.pause≠ -1)/\(m.got≠0->k.kind=1/\0<=m.got/\m.got<k.need)/\(k.kind=4->m.dK= -1)/\(k.kind≠4->0<=m.dK/\m.dK<C.aF))\/
 ((m.status=3\/m.status=4\/m.status=5)/\m.left=0/\0<=m.got/\m.got<=9/\ -1<=m.dK/\m.dK<C.aF/\m.paused=false)
theorem Hl(C:au)(k:aP)(m:aD):C.vJ k m=true↔dD C k m:=by
 obtain⟨ms,ml,mg,mb,mp⟩:=m;obtain⟨ki,ro,ac,ne,start,af,gr,bu,fi,pa,re,va,un,tg,wa⟩:=k;simp only[au.vJ,dD,zl];cases q0:(ms==0)with
 |true=>
  have h0:ms=0:=by simpa using q0
  subst h0;cases wa<;>cases mp<;>simp[Lp]
 |false=>
  have h0:ms≠0:=by simpa using q0
  have hrun:xw C ki ne pa wa ml mg mb mp=true↔(wa=false/\1<=ml/\(mp=true->pa≠ -1)/\(mg≠0->ki=1/\0<=mg/\mg<ne)/\(ki=4->mb= -1)/\(ki≠4->0<=mb/\mb<C.aF)):=by
   simp only[xw];cases wa with
   |true=>simp
   |false=>
    cases q1:(decide (ml<1)||(mp&&(pa== -1)))with
    |true=>
     simp only[qH,decide_eq_true_eq,bS,beq_iff_eq]at q1;simp only[Bool.false_or,cond_true];constructor
     .intro h;cases h
     .rintro⟨_,a1,a2,_⟩
      rcases q1 with h|⟨h1,h2⟩
      .omega
      .exact absurd h2 (a2 h1)
    |false=>
     simp only[oh,decide_eq_false_iff_not]at q1;have hp:mp=true->pa≠ -1:=by
      intro hm e;rw[hm,e]at q1;exact absurd q1.2 (by decide)
     simp only[Bool.false_or,cond_false];cases q2:(!(mg==0)&&(!(ki==1)||(decide (mg<0)||decide (ne<=mg))))with
     |true=>
      simp only[bS,jk,beq_eq_false_iff_ne,qH,decide_eq_true_eq]at q2;simp only[cond_true];constructor
      .intro h;cases h
      .rintro⟨_,_,_,a3,_⟩
       have:=a3 q2.1;omega
     |false=>
      have q3:mg≠0->ki=1/\0<=mg/\mg<ne:=by
       intro hne;simp only[show(mg==0)=false by simpa using hne,Bool.not_false,Bool.true_and,oh,Bool.not_eq_false',beq_iff_eq,decide_eq_false_iff_not]at q2;omega
      simp only[cond_false];cases q4:(ki==4)with
      |true=>
       have h4:ki=4:=by simpa using q4
       simp only[cond_true,beq_iff_eq];constructor
       .intro h;exact⟨trivial,by omega,hp,q3,λ_=>h,λh=>absurd h4 h⟩
       .rintro⟨_,_,_,_,a4,_⟩;exact a4 h4
      |false=>
       have h4:ki≠4:=by simpa using q4
       simp only[cond_false,bS,decide_eq_true_eq];constructor
       .intro h;exact⟨trivial,by omega,hp,q3,λh=>absurd h h4,λ_=>h⟩
       .rintro⟨_,_,_,_,_,a4⟩;exact a4 h4
  simp only[cond_false];cases q1:(ms==1)with
  |true=>
   have h1:ms=1:=by simpa using q1
   subst h1;simp only[cond_true,bS,decide_eq_true_eq,hrun];constructor
   .rintro⟨a,b⟩;exact .inr (.inl ⟨.inl ⟨trivial,a⟩,b⟩)
   .rintro(⟨h,_⟩|⟨h|⟨h,_⟩,b⟩|⟨h,_⟩)
    .omega
    .exact⟨h.2,b⟩
    .omega
    .omega
  |false=>
   have h1:ms≠1:=by simpa using q1
   simp only[cond_false];cases q2:(ms==2)with
   |true=>
    have h2:ms=2:=by simpa using q2
    subst h2;simp only[cond_true,bS,decide_eq_true_eq,beq_iff_eq,hrun];constructor
    .rintro⟨a0,a,b⟩;exact .inr (.inl ⟨.inr ⟨trivial,a0,a⟩,b⟩)
    .rintro(⟨h,_⟩|⟨⟨h,_⟩|h,b⟩|⟨h,_⟩)
     .omega
     .omega
     .exact⟨h.2.1,h.2.2,b⟩
     .omega
   |false=>
    have h2:ms≠2:=by simpa using q2
    simp only[cond_false];cases q3:((ms==3)||((ms==4)||(ms==5)))with
    |true=>
     simp only[qH,beq_iff_eq]at q3;simp only[cond_true,bS,beq_iff_eq,decide_eq_true_eq,jk];constructor
     .intro h;exact .inr (.inr ⟨q3,h⟩)
     .rintro(⟨h,_⟩|⟨⟨h,_⟩|⟨h,_⟩,_⟩|⟨_,b⟩)
      .omega
      .omega
      .omega
      .exact b
    |false=>
     simp only[oh,beq_eq_false_iff_ne]at q3;simp only[cond_false];constructor
     .intro h;cases h
     .rintro(⟨h,_⟩|⟨⟨h,_⟩|⟨h,_⟩,_⟩|⟨h,_⟩)<;>omega
theorem r9(m:aD):m.runs=true↔m.status=1\/m.status=2:=by simp[aD.runs]
section
variable {C:au} {i:Nat} {k:aP} {m:aD}
theorem dD.ended(h:dD C k m)(hr:m.runs=true)(hp:1<=C.aF){st:Int}(hst:st=3\/st=4\/st=5)(g:Int)(hg0:0<=g)(hg:g<=9):dD C k ⟨st,0,g,m.dK,false⟩:=by
 rw[r9]at hr;rcases h with⟨h0,_⟩|⟨_,_,_,_,_,hb1,hb2⟩|⟨h0,_⟩
 .omega
 .refine .inr (.inr ⟨hst,rfl,hg0,hg,?_,?_,rfl⟩)
  .by_cases h4:k.kind=4
   .have h5:=hb1 h4;show -1<=m.dK;omega
   .have h5:=hb2 h4;show -1<=m.dK;omega
  .by_cases h4:k.kind=4
   .have h5:=hb1 h4;show m.dK<_;omega
   .have h5:=hb2 h4;show m.dK<_;omega
 .omega
theorem dD.got(hk:rZ C i k)(h:dD C k m):0<=m.got/\m.got<=9:=by
 have:=hk.abR;rcases h with⟨_,_,_,h0,_⟩|⟨_,_,_,_,h0,_⟩|⟨_,_,h0,h1,_⟩
 .omega
 .by_cases hg:m.got=0
  .omega
  .have:=h0 hg;omega
 .omega
theorem dD.aay(h:dD C k m)(hr:m.runs=true)(hp:k.pause≠ -1)(b:Bool):dD C k ⟨m.status,m.left,m.got,m.dK,b⟩:=by
 rw[r9]at hr;rcases h with⟨h0,_⟩|⟨h1,h2,h3,h4,h5⟩|⟨h0,_⟩
 .omega
 .exact .inr (.inl ⟨h1,h2,h3,λ_=>hp,h5⟩)
 .omega
theorem dD.resumed(h:dD C k m)(hr:m.runs=true):dD C k ⟨m.status,m.left,m.got,m.dK,false⟩:=by
 rw[r9]at hr;rcases h with⟨h0,_⟩|⟨h1,h2,h3,h4,h5⟩|⟨h0,_⟩
 .omega
 .exact .inr (.inl ⟨h1,h2,h3,(λh=>by cases h),h5⟩)
 .omega
theorem dD.borne(h:dD C k m)(hr:m.runs=true)(hk4:k.kind≠4){p:Int}(h0:0<=p)(h1:p<C.aF):dD C k ⟨m.status,m.left,m.got,p,m.paused⟩:=by
 rw[r9]at hr;rcases h with⟨h0,_⟩|⟨a1,a2,a3,a4,a5,_⟩|⟨h0,_⟩
 .omega
 .exact .inr (.inl ⟨a1,a2,a3,a4,a5,λh=>absurd h hk4,λ_=>⟨h0,h1⟩⟩)
 .omega
theorem dD.hit(hk:rZ C i k)(h:dD C k m)(hr:m.runs=true)(hp:1<=C.aF):dD C k (m.hit k):=by
 have hg:=h.got hk;have n1:=hk.af_;have n2:=hk.abR;have hr':=hr;rw[r9]at hr';unfold aD.hit;cases q1:(k.kind==1)with
 |true=>
  have h1:k.kind=1:=by simpa using q1
  simp only[cond_true,aD.performed];cases q:(m.got+1==k.need)with
  |true=>
   have hq:m.got+1=k.need:=by simpa using q
   simp only[cond_true,aD.ended];exact h.ended hr hp (.inl rfl) _ (by omega) (by omega)
  |false=>
   have hq:m.got+1≠k.need:=by simpa using q
   simp only[cond_false];rcases h with⟨h0,_⟩|⟨a1,a2,a3,a4,a5,a6⟩|⟨h0,_⟩
   .omega
   .refine .inr (.inl ⟨a1,a2,a3,a4,λ_=>⟨h1,?_,?_⟩,a6⟩)
    .show 0<=m.got+1;omega
    .show m.got+1<k.need
     by_cases h0:m.got=0
     .omega
     .have:=a5 h0;omega
   .omega
 |false=>
  simp only[cond_false];cases q2:(k.kind==2)with
  |true=>
   simp only[cond_true,aD.violated];cases m.paused with
   |true=>exact h
   |false=>exact h.ended hr hp (.inr (.inl rfl)) _ hg.1 hg.2
  |false=>exact h.ended hr hp (.inl rfl) _ hg.1 hg.2
theorem dD.xY(hk:rZ C i k)(h:dD C k m)(hr:m.runs=true)(hp:1<=C.aF):dD C k (m.xY k):=by
 have hg:=h.got hk;have hr':=hr;rw[r9]at hr';unfold aD.xY;have hl:1<=m.left/\(m.status=1->m.left<=k.after)/\(m.status=2->k.kind=1/\m.left<=k.lY):=by
  rcases h with⟨h0,_⟩|⟨a1,_,a3,_⟩|⟨h0,_⟩
  .omega
  .exact⟨a3,λ_=>by omega,λ_=>by omega⟩
  .omega
 cases q:(m.left - 1==0)with
 |true=>
  simp only[cond_true,aD.due];cases q1:(k.kind==1)with
  |true=>
   have h1:k.kind=1:=by simpa using q1
   simp only[cond_true,aD.expired];cases q3:((m.status==1)&&decide (0<k.lY))with
   |true=>
    simp only[bS,beq_iff_eq,decide_eq_true_eq]at q3;simp only[cond_true];rcases h with⟨h0,_⟩|⟨a1,a2,a3,a4,a5,a6⟩|⟨h0,_⟩
    .omega
    .exact .inr (.inl ⟨.inr ⟨rfl,h1,iY _⟩,a2,by show 1<=k.lY;omega,a4,a5,a6⟩)
    .omega
   |false=>exact h.ended hr hp (.inr (.inl rfl)) _ hg.1 hg.2
  |false=>
   simp only[cond_false];cases q2:(k.kind==2)with
   |true=>exact h.ended hr hp (.inl rfl) _ hg.1 hg.2
   |false=>exact h.ended hr hp (.inr (.inr rfl)) _ hg.1 hg.2
 |false=>
  have hq:m.left - 1≠0:=by simpa using q
  simp only[cond_false];rcases h with⟨h0,_⟩|⟨a1,a2,a3,a4,a5,a6⟩|⟨h0,_⟩
  .omega
  .refine .inr (.inl ⟨?_,a2,?_,a4,a5,a6⟩)
   .show(m.status=1/\m.left - 1<=k.after)\/(m.status=2/\k.kind=1/\m.left - 1<=k.lY)
    omega
   .show 1<=m.left - 1
    omega
  .omega
end
structure abS(C:au)(a:jy):Prop where
 role:a.role≠ -1->0<=a.role/\a.role<C.aj.length
 kind:a.kind=1\/a.kind=2\/a.kind=3
 give:a.kind≠1->0<=a.give/\a.give<C.aj.length
 tgt:a.kind≠1->0<=a.tgt/\a.tgt<C.aF
 seen:a.kind=1->a.tgt= -1\/(0<=a.tgt/\a.tgt<C.aj.length)
theorem au.Ok.act{C:au}(h:C.Ok){a:jy}(ha:a∈C.acts):abS C a:=by
 have hc:=h.acts a ha;simp only[au.wG,Ao]at hc;cases qr:(C.role a.role)with
 |false=>
  simp only[qr,Bool.not_false,cond_true,bS,beq_iff_eq,qH]at hc;obtain⟨h1,h2,h3,h4,_⟩:=hc;refine⟨λh=>absurd h2 h,.inl h1,λh=>absurd h1 h,λh=>absurd h1 h,λ_=>?_⟩;rcases h4 with h4|h4
  .exact .inl h4
  .simp only[au.role,bS,decide_eq_true_eq]at h4
   exact .inr h4
 |true=>
  have qr':=qr;simp only[au.role,bS,decide_eq_true_eq]at qr';simp only[qr,Bool.not_true,cond_false]at hc;cases q1:(a.kind==1)with
  |true=>
   have h1:a.kind=1:=by simpa using q1
   simp only[q1,cond_true]at hc;refine⟨λ_=>qr',.inl h1,λh=>absurd h1 h,λh=>absurd h1 h,λ_=>?_⟩;cases q2:(!(a.give==0)||(!(a.tgt== -1)&& !(C.role a.tgt)))with
   |true=>simp only[q2,cond_true]at hc;cases hc
   |false=>
    simp only[oh,Bool.and_eq_false_iff,Bool.not_eq_false',beq_iff_eq]at q2;rcases q2.2 with h4|h4
    .exact .inl h4
    .simp only[au.role,bS,decide_eq_true_eq]at h4
     exact .inr h4
  |false=>
   have h1:a.kind≠1:=by simpa using q1
   simp only[q1,cond_false]at hc;cases q2:((a.kind==2)||(a.kind==3))with
   |false=>simp only[q2,cond_false]at hc;cases hc
   |true=>
    simp only[q2,cond_true,bS,decide_eq_true_eq,au.role]at hc;simp only[qH,beq_iff_eq]at q2;exact⟨λ_=>qr',.inr q2,λ_=>hc.1,λ_=>⟨hc.2.1,hc.2.2.1⟩,λh=>absurd h h1⟩
structure aV(C:au)(s:ak):Prop where
 con:C.valid=true
 UZ:0<=s.day
 X0:s.day<=C.days
 lh:s.aj.length=C.aj.length
 lu:s.used.length=C.acts.length
 lm:s.marks.length=C.clauses.length
 held:∀p∈s.aj,0<=p/\p<C.aF
 used:∀(i:Nat)(a:jy),s.used[i]?=some true->C.acts[i]?=some a->a.kind≠1
 marks:∀(i:Nat)(m:aD)(k:aP),s.marks[i]?=some m->C.clauses[i]?=some k->dD C k m
 still:∀(i:Nat)(m:aD)(k:aP),s.marks[i]?=some m->C.clauses[i]?=some k->lV s.marks k m=false
theorem jr(C:au)(s:ak):C.f_ s=true↔aV C s:=by
 constructor
 .intro h
  simp only[au.f_,Qa,nk,BD,xB,bS,jk,decide_eq_false_iff_not,beq_iff_eq]at h;obtain⟨h1,⟨h2,h3,h4,h5,h6⟩,h7,h8,h9⟩:=h;refine⟨h1,by omega,by omega,by omega,by omega,by omega,?_,?_,?_,?_⟩
  .intro p hp
   have h10:=fV.1 h7 p hp;simp only[tX,bS,jk,decide_eq_false_iff_not]at h10;omega
  .intro i a hu ha
   have h10:=zy h8 (bB.1 hu).1;rw[hu,ha]at h10;simpa using h10
  .intro i m k hm hk
   have h10:=zy h9 (bB.1 hm).1;rw[hm,hk]at h10;simp only[bS]at h10;exact(Hl _ _ _).1 h10.1
  .intro i m k hm hk
   have h10:=zy h9 (bB.1 hm).1;rw[hm,hk]at h10;simp only[bS,jk]at h10;exact h10.2
 .intro h
  simp only[au.f_,Qa,nk,BD,xB,bS,jk,decide_eq_false_iff_not,beq_iff_eq];refine⟨h.con,⟨by have:=h.UZ;omega,by have:=h.X0;omega,by have:=h.lh;omega,by have:=h.lu;omega,by have:=h.lm;omega⟩,?_,?_,?_⟩
  .apply fV.2
   intro p hp;have:=h.held p hp;simp only[tX,bS,jk,decide_eq_false_iff_not];omega
  .apply fV.2
   intro i _;cases hu:s.used[i]? with
   |none=>rfl
   |some u=>
    cases ha:C.acts[i]? with
    |none=>rfl
    |some a=>
     cases u with
     |false=>simp
     |true=>
      have:=h.used i a hu ha;simpa using this
  .apply fV.2
   intro i _;cases hm:s.marks[i]? with
   |none=>rfl
   |some m=>
    cases hk:C.clauses[i]? with
    |none=>rfl
    |some k=>
     simp only[bS,jk];exact⟨(Hl _ _ _).2 (h.marks i m k hm hk),h.still i m k hm hk⟩
def Beg(C:au)(hs:List Int)(j:Nat)(m m':aD):Prop:=m'=m\/(m.status=0/\∃k,C.clauses[j]?=some k/\k.vH=false/\m'=Gn hs k)
theorem Beg.trans{C:au}{hs:List Int}{j:Nat}{a b c:aD}(h:Beg C hs j a b)(h':Beg C hs j b c):Beg C hs j a c:=by
 rcases h with rfl|⟨h0,k,hk,hw,rfl⟩
 .exact h'
 .rcases h' with rfl|⟨h1,_⟩
  .exact .inr ⟨h0,k,hk,hw,rfl⟩
  .exact absurd h1 (by show(1:Int)≠0;decide)
def oL(C:au)(hs:List Int)(ms ms':List aD):Prop:=ms'.length=ms.length/\∀(j:Nat)(m':aD),ms'[j]?=some m'->∃m,ms[j]?=some m/\Beg C hs j m m'
theorem oL.refl(C:au)(hs:List Int)(ms:List aD):oL C hs ms ms:=⟨rfl,λ_ m' h=>⟨m',h,.inl rfl⟩⟩
theorem oL.trans{C:au}{hs:List Int}{a b c:List aD}(h:oL C hs a b)(h':oL C hs b c):oL C hs a c:=
 ⟨h'.1.trans h.1,λj m' hm=>by
  obtain⟨m1,h1,h2⟩:=h'.2 j m' hm;obtain⟨m2,h3,h4⟩:=h.2 j m1 h1;exact⟨m2,h3,h4.trans h2⟩⟩
theorem Oc(C:au)(hs:List Int)(ms:List aD)(i:Nat):oL C hs ms (nu C hs ms i):=by
 refine⟨Ei C hs ms i,λj m' hm=>?_⟩;cases hf:jG C ms i with
 |false=>
  rw[(vK C hs ms i).2 hf]at hm;exact⟨m',hm,.inl rfl⟩
 |true=>
  have hf':=hf;unfold jG at hf';unfold nu at hm;cases hk:C.clauses[i]? with
  |none=>simp[hk]at hf'
  |some k=>
   cases hmi:ms[i]? with
   |none=>simp[hk,hmi]at hf'
   |some m=>
    simp only[hk,hmi]at hf';simp only[hk,hf,cond_true]at hm;by_cases hij:i=j
    .subst hij
     rw[rG hmi]at hm;injection hm with hm
     simp only[lV,bS,beq_iff_eq,jk]at hf';exact⟨m,hmi,.inr ⟨hf'.1,k,hk,hf'.2.1,hm.symm⟩⟩
    .rw[j_,if_neg hij]at hm
     exact⟨m',hm,.inl rfl⟩
theorem Ez(C:au)(hs:List Int)(ms:List aD):∀n,oL C hs ms (gy C hs ms n)
 |0=>oL.refl _ _ _
 |n+1=>(Ez C hs ms n).trans (Oc C hs _ n)
theorem Ce(C:au)(hs:List Int):∀(f:Nat)(ms:List aD),oL C hs ms (kg C hs f ms)
 |0,ms=>oL.refl _ _ _
 |f+1,ms=>by
  rw[kg];cases iA C hs ms C.clauses.length with
  |false=>exact oL.refl _ _ _
  |true=>exact(Ez C hs ms _).trans (Ce C hs f _)
theorem KH(C:au)(hs:List Int)(ms:List aD):oL C hs ms (C.begin hs ms):=Ce C hs _ ms
theorem Ak(C:au)(hs:List Int):∀(f:Nat)(ms:List aD),idle ms<f->iA C hs (kg C hs f ms) C.clauses.length=false
 |0,_,h=>by omega
 |f+1,ms,h=>by
  rw[kg];cases hf:iA C hs ms C.clauses.length with
  |false=>exact hf
  |true=>
   have:=(jo C hs ms C.clauses.length).1 hf;exact Ak C hs f _ (by omega)
theorem Ho{C:au}{hs:List Int}{ms:List aD}:∀{n:Nat},iA C hs ms n=false->∀i,i<n->jG C ms i=false
 |0,_,i,hi=>by omega
 |n+1,h,i,hi=>by
  rw[iA,oh]at h;by_cases hin:i=n
  .subst hin
   have h2:=(jo C hs ms i).2 h.1;rw[h2]at h;exact h.2
  .exact Ho h.1 i (by omega)
theorem Q7(C:au)(hs:List Int)(ms:List aD)(i:Nat)(hi:i<C.clauses.length):jG C (C.begin hs ms) i=false:=Ho (Ak C hs _ ms (by omega)) i hi
theorem LU{hs:List Int}{r:Int}(h0:0<=r)(h1:r<hs.length):fP hs r∈hs:=by
 unfold fP;have:r.toNat<hs.length:=by omega
 rw[aS this];exact zZ this
theorem X3{C:au}{hs:List Int}{i:Nat}{k:aP}(hk:rZ C i k)(hw:k.vH=false)(hl:hs.length=C.aj.length)(hh:∀p∈hs,0<=p/\p<C.aF):dD C k (Gn hs k):=by
 refine .inr (.inl ⟨.inl ⟨rfl,iY _⟩,hw,hk.ac2,(λh=>by cases h),λh=>absurd rfl h,λh=>?_,λh=>?_⟩)
 .simp[Gn,rU,h]
 .have h4:(k.kind==4)=false:=by simpa using h
  have:=hk.role h;have h5:=hh _ (LU (hs:=hs) this.1 (by omega));simp only[Gn,rU,h4,cond_false];exact h5
theorem Cg{C:au}{hs:List Int}{ms:List aD}(hC:C.Ok)(hl:hs.length=C.aj.length)(hh:∀p∈hs,0<=p/\p<C.aF)(hm:∀(i:Nat)(m:aD)(k:aP),ms[i]?=some m->C.clauses[i]?=some k->dD C k m):
 (∀(i:Nat)(m:aD)(k:aP),(C.begin hs ms)[i]?=some m->C.clauses[i]?=some k->dD C k m)/\(∀(i:Nat)(m:aD)(k:aP),(C.begin hs ms)[i]?=some m->C.clauses[i]?=some k->lV (C.begin hs ms) k m=false):=by
 refine⟨λi m k h hk=>?_,λi m k h hk=>?_⟩
 .obtain⟨m0,h0,hb⟩:=(KH C hs ms).2 i m h
  rcases hb with rfl|⟨_,k',hk',hw,rfl⟩
  .exact hm i _ k h0 hk
  .rw[hk]at hk'
   injection hk' with hk'
   subst hk';exact X3 (hC.clause hk) hw hl hh
 .have h1:=Q7 C hs ms i (bB.1 hk).1
  unfold jG at h1;rw[hk,h]at h1;exact h1
theorem zB(C:au)(hs:List Int)(ms:List aD):(C.begin hs ms).length=ms.length:=(KH C hs ms).1
theorem map_ok{C:au}{ms ms':List aD}{f:Nat->aD->aD}(hg:∀j:Nat,ms'[j]?=(ms[j]?).map (λm=>cond m.runs (f j m) m))(hm:∀(i:Nat)(m:aD)(k:aP),ms[i]?=some m->C.clauses[i]?=some k->dD C k m)
 (hf:∀(i:Nat)(m:aD)(k:aP),C.clauses[i]?=some k->dD C k m->m.runs=true->dD C k (f i m)):∀(i:Nat)(m:aD)(k:aP),ms'[i]?=some m->C.clauses[i]?=some k->dD C k m:=by
 intro i m k h hk;rw[hg]at h;cases hm0:ms[i]? with
 |none=>rw[hm0]at h;cases h
 |some m0=>
  rw[hm0]at h;simp only[mZ,Option.some.injEq]at h;have h1:=hm i m0 k hm0 hk;cases hr:m0.runs with
  |false=>
   rw[hr]at h;subst h;exact h1
  |true=>
   rw[hr]at h;subst h;exact hf i m0 k hk h1 hr
theorem U0{C:au}{ms:List aD}{act:Int}(h0:0<=act)(hm:∀(i:Nat)(m:aD)(k:aP),ms[i]?=some m->C.clauses[i]?=some k->dD C k m):
 ∀(i:Nat)(m:aD)(k:aP),(C.paused act ms)[i]?=some m->C.clauses[i]?=some k->dD C k m:=
 map_ok (AP C act ms) hm (λi m k hk h hr=>by
  unfold pU;rw[hk];dsimp only;cases q1:(act==k.pause)with
  |true=>
   have e1:act=k.pause:=by simpa using q1
   exact h.aay hr (by omega) true
  |false=>
   cases q2:(act==k.resume)with
   |true=>exact h.resumed hr
   |false=>exact h)
theorem X4{C:au}(hC:C.Ok){ms:List aD}{act who:Int}(hm:∀(i:Nat)(m:aD)(k:aP),ms[i]?=some m->C.clauses[i]?=some k->dD C k m):
 ∀(i:Nat)(m:aD)(k:aP),(C.Ew act who ms)[i]?=some m->C.clauses[i]?=some k->dD C k m:=
 map_ok (KG C act who ms) hm (λi m k hk h hr=>by
  unfold G8;rw[hk];cases q1:((k.act==act)&&((k.kind==4)||(m.dK==who)))with
  |true=>simpa only[q1,cond_true]using h.hit (hC.clause hk) hr hC.aF
  |false=>simpa only[q1,cond_false]using h)
theorem U1{C:au}(hC:C.Ok){ms:List aD}{free:Bool}(hm:∀(i:Nat)(m:aD)(k:aP),ms[i]?=some m->C.clauses[i]?=some k->dD C k m):
 ∀(i:Nat)(m:aD)(k:aP),(C.G7 free ms)[i]?=some m->C.clauses[i]?=some k->dD C k m:=
 map_ok (He C free ms) hm (λi m k hk h hr=>by
  unfold Ca;rw[hk];cases q1:(m.paused||(k.rR&&free))with
  |true=>simpa only[q1,cond_true]using h
  |false=>simpa only[q1,cond_false]using h.xY (hC.clause hk) hr hC.aF)
theorem Q8{C:au}{ms:List aD}{give tgt:Int}(h0:0<=tgt)(h1:tgt<C.aF)(hm:∀(i:Nat)(m:aD)(k:aP),ms[i]?=some m->C.clauses[i]?=some k->dD C k m):
 ∀(i:Nat)(m:aD)(k:aP),((gP ms ms.length).foldl (λms j=>fH C give tgt j ms) ms)[i]?=some m->C.clauses[i]?=some k->dD C k m:=
 map_ok (Ob C give tgt ms) hm (λi m k hk h hr=>by
  unfold Cb;rw[hk];dsimp only;cases q1:((k.kind !=4)&&(k.role==give))with
  |true=>
   simp only[bS,bne_iff_ne]at q1;exact h.borne hr q1.1 h0 h1
  |false=>exact h)
theorem Tx{C:au}{s:ak}(h:aV C s)(hd:s.day<C.days):aV C (C.tick s):=by
 have hC:=au.ok h.con;obtain⟨b1,b2⟩:=Cg hC h.lh h.held (U1 hC (free:=C.off.contains s.day) h.marks);exact⟨h.con,by show 0<=s.day+1;have:=h.UZ;omega,by show s.day+1<=C.days;omega,h.lh,h.lu,by show(C.begin _ _).length=_;rw[zB,Q5];exact h.lm,h.held,h.used,b1,b2⟩
theorem mem_set{α:Type}{l:List α}{i:Nat}{x y:α}(h:y∈l.set i x):y=x\/y∈l:=by
 rcases List.mem_or_eq_of_mem_set h with h|h
 .exact .inr h
 .exact .inl h
theorem X5{C:au}{s:ak}{i:Nat}{a:jy}(hA:abS C a)(ha:C.acts[i]?=some a)(hk:a.kind≠1)(h1:s.aj.length=C.aj.length)(h2:s.used.length=C.acts.length)(h3:s.marks.length=C.clauses.length)(h4:∀p∈s.aj,0<=p/\p<C.aF)
 (h5:∀(i:Nat)(a:jy),s.used[i]?=some true->C.acts[i]?=some a->a.kind≠1)(h6:∀(i:Nat)(m:aD)(k:aP),s.marks[i]?=some m->C.clauses[i]?=some k->dD C k m):
 (C.shift i a s).aj.length=C.aj.length/\(C.shift i a s).used.length=C.acts.length/\(C.shift i a s).marks.length=C.clauses.length/\(∀p∈(C.shift i a s).aj,0<=p/\p<C.aF)/\(∀(j:Nat)(a':jy),(C.shift i a s).used[j]?=some true->C.acts[j]?=some a'->a'.kind≠1)/\
  (∀(j:Nat)(m:aD)(k:aP),(C.shift i a s).marks[j]?=some m->C.clauses[j]?=some k->dD C k m):=by
 refine⟨by simp[au.shift,h1],by simp[au.shift,h2],?_,?_,?_,?_⟩
 .simp only[au.shift]
  cases (a.kind !=3)with
  |true=>exact h3
  |false=>simp only[cond_false];rw[rF _ (λi ms=>oV C _ _ i ms)];exact h3
 .intro p hp
  simp only[au.shift]at hp;rcases mem_set hp with rfl|hp
  .exact hA.tgt hk
  .exact h4 p hp
 .intro j a' hu ha'
  simp only[au.shift]at hu;by_cases hij:i=j
  .subst hij
   rw[ha]at ha';injection ha' with ha'
   subst ha';exact hk
  .rw[j_,if_neg hij]at hu
   exact h5 j a' hu ha'
 .simp only[au.shift]
  cases (a.kind !=3)with
  |true=>exact h6
  |false=>exact Q8 (hA.tgt hk).1 (hA.tgt hk).2 h6
theorem LV{C:au}{s:ak}(h:aV C s){i:Nat}{a:jy}(ha:C.acts[i]?=some a):aV C (C.act i a s):=by
 have hC:=au.ok h.con;have hA:=hC.act (cK ha);unfold au.act;cases q:((a.kind !=1)&&s.used.getD i false)with
 |true=>exact h
 |false=>
  simp only[cond_false];have hm:=X4 hC (who:=qg s.aj a) (act:=i) (U0 (act:=i) (by omega) h.marks);have hl:(C.Ew i (qg s.aj a) (C.paused i s.marks)).length=C.clauses.length:=by rw[Dv,AU];exact h.lm
  cases q1:(a.kind !=1)with
  |false=>
   simp only[cond_false];obtain⟨b1,b2⟩:=Cg hC h.lh h.held hm;exact⟨h.con,h.UZ,h.X0,h.lh,h.lu,by show(C.begin _ _).length=_;rw[zB];exact hl,h.held,h.used,b1,b2⟩
  |true=>
   simp only[cond_true];have hk1:a.kind≠1:=by simpa using q1
   obtain⟨s1,s2,s3,s4,s5,s6⟩:=X5 (s:=⟨s.day,s.aj,s.used,C.Ew i (qg s.aj a) (C.paused i s.marks)⟩) hA ha hk1 h.lh h.lu hl h.held h.used hm;obtain⟨b1,b2⟩:=Cg hC s1 s4 s6;exact⟨h.con,h.UZ,h.X0,s1,s2,by show(C.begin _ _).length=_;rw[zB];exact s3,s4,s5,b1,b2⟩
def jQ(k:aP):aD:=⟨cond k.vH 5 0,0,0, -1,false⟩
def au.first(C:au):ak:=⟨0,C.aj,List.replicate C.acts.length false,C.begin C.aj (C.clauses.map jQ)⟩
theorem yj{C:au}(h:C.valid=true):aV C C.first:=by
 have hC:=au.ok h;obtain⟨b1,b2⟩:=Cg (ms:=C.clauses.map jQ) hC rfl hC.held (λi m k hm hk=>by
  rw[gK,hk]at hm;simp only[mZ,Option.some.injEq]at hm;subst hm;have hp:=hC.aF;cases hw:k.vH with
  |true=>exact .inr (.inr ⟨.inr (.inr (by simp[jQ,hw])),rfl,by simp[jQ],by simp[jQ],by simp[jQ],by simp[jQ];omega,rfl⟩)
  |false=>exact .inl ⟨by simp[jQ,hw],hw,rfl,rfl,rfl,rfl⟩)
 refine⟨h,iY _,by show 0<=C.days;have:=hC.days;omega,rfl,by simp[au.first],by simp[au.first,zB],hC.held,?_,b1,b2⟩;intro i a hu;simp only[au.first]at hu;have:=cK hu;simp at this
theorem Od{days:Int}:∀{l:List Int}{last:Int},sO days last l=true->∀d∈l,last<d
 |[],_,_,_,h=>by cases h
 |x::l,last,h,d,hd=>by
  simp only[sO,bS,jk,decide_eq_false_iff_not]at h;rcases dx.1 hd with rfl|hd
  .omega
  .have:=Od h.2.2 d hd;omega
theorem Ch{days:Int}:∀{l:List Int}{last:Int},sO days last l=true->l.Pairwise (·<=·)
 |[],_,_=>List.Pairwise.nil
 |x::l,last,h=>by
  simp only[sO,bS,jk,decide_eq_false_iff_not]at h;exact List.Pairwise.cons (λd hd=>by have:=Od h.2.2 d hd;omega) (Ch h.2.2)
theorem KI{days:Int}:∀{l:List Int}{last:Int},sO days last l=true->l=[]\/(l.length:Int)<=days - last - 1
 |[],_,_=>.inl rfl
 |x::l,last,h=>by
  simp only[sO,bS,jk,decide_eq_false_iff_not]at h;right;rcases KI h.2.2 with rfl|h2
  .simp;omega
  .simp only[gV];omega
structure Needs(C:au)(s:ak):Prop where
 hin:∀k∈C.clauses,∀c∈k.start,0<=c.clause/\c.clause<C.clauses.length
 hro:∀k∈C.clauses,k.kind≠4->0<=k.role/\k.role<s.aj.length
 hki:∀k∈C.clauses,1<=k.kind/\k.kind<=4
 hof:C.off.Pairwise (·<=·)
 hol:C.off.length<4611686018427387904
 hd0:0<=s.day
 hd1:s.day<=1000000
 hle:∀m∈s.marks,m.runs=true->1<=m.left/\m.left<=1000000
 hgo:∀m∈s.marks,m.runs=true->0<=m.got/\m.got<=1000000
 lh:s.aj.length<=12
 lu:s.used.length<=60
 lm:s.marks.length<=400
theorem aV.needs{C:au}{s:ak}(h:aV C s):Needs C s:=by
 have hC:=au.ok h.con;have hcl:∀k∈C.clauses,∃i,rZ C i k:=λk hk=>by
  obtain⟨i,hi⟩:=jW.1 hk;exact⟨i,hC.clause hi⟩
 have hmk:∀m∈s.marks,∃i k,rZ C i k/\dD C k m:=λm hm=>by
  obtain⟨i,hi⟩:=jW.1 hm;have hil:i<C.clauses.length:=by rw[<-h.lm];exact(bB.1 hi).1
  exact⟨i,_,hC.clause (aS hil),h.marks i m _ hi (aS hil)⟩
 refine⟨?_,?_,?_,Ch hC.off,?_,h.UZ,?_,?_,?_,?_,?_,?_⟩
 .intro k hk c hc
  obtain⟨i,hi⟩:=hcl k hk;have:=hi.start c hc;exact⟨this.1,this.2.1⟩
 .intro k hk h4
  obtain⟨i,hi⟩:=hcl k hk;have:=hi.role h4;have:=h.lh;omega
 .intro k hk
  obtain⟨i,hi⟩:=hcl k hk;exact⟨hi.af8,hi.af9⟩
 .have:=hC.abQ
  rcases KI hC.off with h1|h1
  .rw[h1];decide
  .omega
 .have:=h.X0;have:=hC.abQ;omega
 .intro m hm hr
  obtain⟨i,k,hk,hmo⟩:=hmk m hm;have a1:=hk.XY;have a2:=hk.XZ;rw[r9]at hr;rcases hmo with⟨h0,_⟩|⟨h1,_,h2,_⟩|⟨h0,_⟩<;>omega
 .intro m hm hr
  obtain⟨i,k,hk,hmo⟩:=hmk m hm;have:=hmo.got hk;omega
 .have:=h.lh;have:=hC.Q6;omega
 .have:=h.lu;have:=hC.Ey;omega
 .have:=h.lm;have:=hC.Cc;omega
end Go.Proofs.YtpmdedcnbockhaaGreatDoor
