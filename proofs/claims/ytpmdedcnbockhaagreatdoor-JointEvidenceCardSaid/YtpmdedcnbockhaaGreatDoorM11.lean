/-
  Runs; PlainA; PlainB; PlainC; Needs
-/
import Derived.Test.YtpmdedcnbockhaaGreatDoorM10
namespace Go.Proofs.YtpmdedcnbockhaaGreatDoor
section
open Go.RowKit Go.Shelf
theorem vN{n:Nat}{g:Operand}{ps:Array Tmp}{assign body:Code}{Q:Exit->Act->World->Prop}{a:Act}{W2 w0:World}{b:Nat}{v:CV}{C:aB}{t:TV}{day:Int}{aj:List Int}{used:List Bool}{ms0:List aD}{gh gu gm Bw:Nat}
 (upd:Nat->List aD->List aD)(hu:∀i ms j,j≠i->(upd i ms)[j]?=ms[j]?)(Z7:∀i ms,(upd i ms).length=ms.length)(h3:3<=n)
 (hg:a.eval g= .func (.func 146) #[] #[.pointer (some ⟨Bw,0,none⟩)])(hps:ps.size=1)
 (hW:aK w0 W2 b v C t ⟨day,aj,used,ms0⟩ gh gu gm)(hB:W2.cell? ⟨Bw,0,none⟩=some (.pointer (some ⟨b,0,none⟩)))(hBl:Bw<W2.heap.size)(hBn:¬gX b gh gu gm Bw)(a₁:Nat->Act)
 (hassign:∀(l x:Nat)(W:World)(K:Act->World->Prop),K (a₁ x) W->assign.wpIn (Fence.wide.inRound l) (n - 1 - 1) Tryz.prog (Exit.then K (λ_ _ _=>False)) {tmps:=(ps.zip #[.int .i64 x]).foldl (λt (p,v)=>t.setIfInBounds p v) a.tmps,defers:=[]} W)
 (hbody:∀(l x:Nat)(m:aD)(M:List aD)(W:World),ms0[x]?=some m->m.runs=true->M.length=ms0.length->M[x]?=some m->aK w0 W b v C t ⟨day,aj,used,M⟩ gh gu gm->aH (gX b gh gu gm) W2 W->
  body.wpIn (Fence.wide.inRound l) (n - 1 - 1) Tryz.prog (λe _ W'=>e= .normal/\aK w0 W' b v C t ⟨day,aj,used,upd x M⟩ gh gu gm/\aH (gX b gh gu gm) W W') (a₁ x) W)
 (hdone:∀(D:Nat)(W:World),W2.heap.size<=D->aK w0 W b v C t ⟨day,aj,used,(gL ms0 ms0.length).foldl (λms i=>upd i ms) ms0⟩ gh gu gm->aH (gX b gh gu gm) W2 W->W.heap[D]?=some (.deferred (some []))->Q .normal {a with defers:={target:=.collected D,args:=#[]}::a.defers} W):
 (Code.rangeFunc g ps assign body).wpIn Fence.wide n Tryz.prog Q a W2:=by
 refine yG (α:=Nat) rfl (by omega) (gf:=146) hg trivial (enters_of Tryz.func146 (by kernel_rfl) rfl)
  (Cg (Bw:=Bw) (ms0:=ms0) upd hu Z7 _ (by omega)
   (λpre W=>aK w0 W b v C t ⟨day,aj,used,pre.foldl (λms i=>upd i ms) ms0⟩ gh gu gm/\aH (gX b gh gu gm) W2 W)
   (λpre W h=>⟨h.1,(h.2.cell hBl hBn).trans hB⟩)) (λ_=>hps.symm) ?own ?start a₁ ?assign ?body ?done
 case assign=>exactλl x W K hK=>hassign l x W K hK
 case own=>exact OwnFrom.and (aK.mI (λpre:List Nat=>(⟨day,aj,used,pre.foldl (λms i=>upd i ms) ms0⟩:ak)) _ hW.below.size) (aH.mI _ (bJ _))
 case start=>exact⟨hW,aH.refl _ _⟩
 case body=>
  rintro l pre x W ⟨hWx,hUx⟩ ⟨hpre,m,hm,hrun⟩;have hmx:(pre.foldl (λms i=>upd i ms) ms0)[x]?=some m:=by
   rw[hpre,wG upd hu x _ _ (rJ ms0 x)];exact hm
  refine wpIn_mono (hbody l x m _ W hm hrun (rM upd Z7 _ _) hmx hWx hUx) ?_;rintro e a3 W' ⟨rfl,h1,h2⟩;refine⟨rfl,(hWx.keeps h2).from _,?_,hUx.trans h2 (λ_ _ h=>h)⟩;rw[tJ];exact h1
 case done=>
  rintro D xs W hD rfl ⟨hWx,hUx⟩ hK;exact hdone D W hD hWx hUx hK
def gM(C:aB)(act:Int)(i:Nat)(ms:List aD):List aD:=
 match C.clauses[i]?,ms[i]? with
 |some k,some m=>cond (act==k.pause) (ms.set i ⟨m.status,m.left,m.got,m.dQ,true⟩) (cond (act==k.resume) (ms.set i ⟨m.status,m.left,m.got,m.dQ,false⟩) ms)
 |_,_=>ms
def aD.hit(m:aD)(k:aU):aD:=cond (k.kind==1) (m.performed k.need) (cond (k.kind==2) m.violated (m.ended 3))
def jU(C:aB)(act who:Int)(i:Nat)(ms:List aD):List aD:=
 match C.clauses[i]?,ms[i]? with
 |some k,some m=>cond ((k.act==act)&&((k.kind==4)||(m.dQ==who))) (ms.set i (m.hit k)) ms
 |_,_=>ms
def aD.due(m:aD)(k:aU):aD:=cond (k.kind==1) (m.expired k.lZ) (cond (k.kind==2) (m.ended 3) (m.ended 5))
def aD.yM(m:aD)(k:aU):aD:=cond (m.left - 1==0) (aD.due ⟨m.status,m.left - 1,m.got,m.dQ,m.paused⟩ k) ⟨m.status,m.left - 1,m.got,m.dQ,m.paused⟩
def kV(C:aB)(free:Bool)(i:Nat)(ms:List aD):List aD:=
 match C.clauses[i]?,ms[i]? with
 |some k,some m=>cond (m.paused||(k.rW&&free)) ms (ms.set i (m.yM k))
 |_,_=>ms
theorem Ao(C:aB)(act:Int)(i:Nat)(ms:List aD):(gM C act i ms).length=ms.length:=by
 unfold gM;split
 .rename_i k m _ _
  cases (act==k.pause)<;>cases (act==k.resume)<;>simp
 .rfl
theorem qG(C:aB)(act:Int)(i:Nat)(ms:List aD)(j:Nat)(h:j≠i):(gM C act i ms)[j]?=ms[j]?:=by
 have h2:∀x,(ms.set i x)[j]?=ms[j]?:=λx=>by rw[j4,if_neg (λe=>h e.symm)]
 unfold gM;split
 .rename_i k m _ _
  cases (act==k.pause)<;>cases (act==k.resume)<;>simp only[cond_true,cond_false,h2]
 .rfl
theorem EF(C:aB)(act who:Int)(i:Nat)(ms:List aD):(jU C act who i ms).length=ms.length:=by
 unfold jU;split
 .rename_i k m _ _
  cases ((k.act==act)&&((k.kind==4)||(m.dQ==who)))<;>simp
 .rfl
theorem uL(C:aB)(act who:Int)(i:Nat)(ms:List aD)(j:Nat)(h:j≠i):(jU C act who i ms)[j]?=ms[j]?:=by
 have h2:∀x,(ms.set i x)[j]?=ms[j]?:=λx=>by rw[j4,if_neg (λe=>h e.symm)]
 unfold jU;split
 .rename_i k m _ _
  cases ((k.act==act)&&((k.kind==4)||(m.dQ==who)))<;>simp only[cond_true,cond_false,h2]
 .rfl
theorem Ci(C:aB)(free:Bool)(i:Nat)(ms:List aD):(kV C free i ms).length=ms.length:=by
 unfold kV;split
 .rename_i k m _ _
  cases (m.paused||(k.rW&&free))<;>simp
 .rfl
theorem yN(C:aB)(free:Bool)(i:Nat)(ms:List aD)(j:Nat)(h:j≠i):(kV C free i ms)[j]?=ms[j]?:=by
 have h2:∀x,(ms.set i x)[j]?=ms[j]?:=λx=>by rw[j4,if_neg (λe=>h e.symm)]
 unfold kV;split
 .rename_i k m _ _
  cases (m.paused||(k.rW&&free))<;>simp only[cond_true,cond_false,h2]
 .rfl
def aB.paused(C:aB)(act:Int)(ms:List aD):List aD:=(gL ms ms.length).foldl (λms j=>gM C act j ms) ms
def aB.EG(C:aB)(act who:Int)(ms:List aD):List aD:=(gL ms ms.length).foldl (λms j=>jU C act who j ms) ms
def aB.G8(C:aB)(free:Bool)(ms:List aD):List aD:=(gL ms ms.length).foldl (λms j=>kV C free j ms) ms
def aB.act(C:aB)(i:Nat)(a:jg)(s:ak):ak:=
 cond ((a.kind !=1)&&s.used.getD i false) s
  (let s2:ak:=⟨s.day,s.aj,s.used,C.EG i (oG s.aj a) (C.paused i s.marks)⟩
   let s3:=cond (a.kind !=1) (C.shift i a s2) s2
   ⟨s3.day,s3.aj,s3.used,C.begin s3.aj s3.marks⟩)
def aB.tick(C:aB)(s:ak):ak:=
 ⟨s.day+1,s.aj,s.used,C.begin s.aj (C.G8 (C.off.contains s.day) s.marks)⟩
end
section
open Go.RowKit
theorem KM(upd:Nat->List aD->List aD)(f:Nat->aD->aD)(hu:∀i ms j,j≠i->(upd i ms)[j]?=ms[j]?)(hs:∀i ms,(upd i ms)[i]?=(ms[i]?).map (f i))(ms:List aD):∀(k j:Nat),
 ((gL ms k).foldl (λms i=>upd i ms) ms)[j]?=(ms[j]?).map (λm=>cond (decide (j<k)&&m.runs) (f j m) m)
 |0,j=>by simp[gL]
 |k+1,j=>by
  have ih:=KM upd f hu hs ms k;unfold gL;by_cases hjk:j=k
  .subst hjk
   cases hm:ms[j]? with
   |none=>
    have h2:=ih j;rw[hm]at h2;simpa using h2
   |some m=>
    have h2:=ih j;rw[hm]at h2;simp only[kG,show decide (j<j)=false by simp,Bool.false_and,cond_false]at h2;cases hr:m.runs with
    |false=>
     simp only[cond_false,kG,hr,Bool.and_false];exact h2
    |true=>
     simp only[cond_true,tJ,List.foldl_cons,List.foldl_nil,kG,hr,show decide (j<j+1)=true by simp,Bool.and_true];rw[hs,h2];rfl
  .have hlt:decide (j<k+1)=decide (j<k):=by
    by_cases h:j<k
    .rw[decide_eq_true h,decide_eq_true (by omega)]
    .rw[decide_eq_false h,decide_eq_false (by omega)]
   rw[hlt];cases hm:ms[k]? with
   |none=>exact ih j
   |some m=>
    cases hr:m.runs with
    |false=>simpa [hr]using ih j
    |true=>
     simp only[hr,cond_true,tJ,List.foldl_cons,List.foldl_nil];rw[hu _ _ _ hjk];exact ih j
theorem pq(upd:Nat->List aD->List aD)(f:Nat->aD->aD)(hu:∀i ms j,j≠i->(upd i ms)[j]?=ms[j]?)(hs:∀i ms,(upd i ms)[i]?=(ms[i]?).map (f i))(ms:List aD)(j:Nat):
 ((gL ms ms.length).foldl (λms i=>upd i ms) ms)[j]?=(ms[j]?).map (λm=>cond m.runs (f j m) m):=by
 rw[KM upd f hu hs ms ms.length j];cases hm:ms[j]? with
 |none=>rfl
 |some m=>
  have hj:j<ms.length:=(bC.1 hm).1;simp[hj]
def pX(C:aB)(act:Int)(i:Nat)(m:aD):aD:=
 match C.clauses[i]? with
 |some k=>cond (act==k.pause) ⟨m.status,m.left,m.got,m.dQ,true⟩ (cond (act==k.resume) ⟨m.status,m.left,m.got,m.dQ,false⟩ m)
 |none=>m
def G9(C:aB)(act who:Int)(i:Nat)(m:aD):aD:=
 match C.clauses[i]? with
 |some k=>cond ((k.act==act)&&((k.kind==4)||(m.dQ==who))) (m.hit k) m
 |none=>m
def Cj(C:aB)(free:Bool)(i:Nat)(m:aD):aD:=
 match C.clauses[i]? with
 |some k=>cond (m.paused||(k.rW&&free)) m (m.yM k)
 |none=>m
def Ck(C:aB)(give tgt:Int)(i:Nat)(m:aD):aD:=
 match C.clauses[i]? with
 |some k=>cond ((k.kind !=4)&&(k.role==give)) ⟨m.status,m.left,m.got,tgt,m.paused⟩ m
 |none=>m
theorem rO{ms:List aD}{i:Nat}{m:aD}(hm:ms[i]?=some m)(x:aD):(ms.set i x)[i]?=some x:=List.getElem?_set_self (bC.1 hm).1
theorem G_(C:aB)(act:Int)(i:Nat)(ms:List aD):(gM C act i ms)[i]?=(ms[i]?).map (pX C act i):=by
 unfold gM pX;cases hk:C.clauses[i]? with
 |none=>cases ms[i]?<;>rfl
 |some k=>
  cases hm:ms[i]? with
  |none=>simp[hm]
  |some m=>cases h1:(act==k.pause)<;>cases h2:(act==k.resume)<;>simp only[h1,h2,cond_true,cond_false,kG]<;>first|exact rO hm _|exact hm
theorem Ma(C:aB)(act who:Int)(i:Nat)(ms:List aD):(jU C act who i ms)[i]?=(ms[i]?).map (G9 C act who i):=by
 unfold jU G9;cases hk:C.clauses[i]? with
 |none=>cases ms[i]?<;>rfl
 |some k=>
  cases hm:ms[i]? with
  |none=>simp[hm]
  |some m=>cases h1:((k.act==act)&&((k.kind==4)||(m.dQ==who)))<;>simp only[h1,cond_true,cond_false,kG]<;>first|exact rO hm _|exact hm
theorem J2(C:aB)(free:Bool)(i:Nat)(ms:List aD):(kV C free i ms)[i]?=(ms[i]?).map (Cj C free i):=by
 unfold kV Cj;cases hk:C.clauses[i]? with
 |none=>cases ms[i]?<;>rfl
 |some k=>
  cases hm:ms[i]? with
  |none=>simp[hm]
  |some m=>cases h1:(m.paused||(k.rW&&free))<;>simp only[h1,cond_true,cond_false,kG]<;>first|exact rO hm _|exact hm
theorem He(C:aB)(give tgt:Int)(i:Nat)(ms:List aD):(fu C give tgt i ms)[i]?=(ms[i]?).map (Ck C give tgt i):=by
 unfold fu Ck;cases hk:C.clauses[i]? with
 |none=>cases ms[i]?<;>rfl
 |some k=>
  cases hm:ms[i]? with
  |none=>simp[hm]
  |some m=>cases h1:((k.kind !=4)&&(k.role==give))<;>simp only[h1,cond_true,cond_false,kG]<;>first|exact rO hm _|exact hm
theorem wH(C:aB)(act:Int)(ms:List aD)(j:Nat):(C.paused act ms)[j]?=(ms[j]?).map (λm=>cond m.runs (pX C act j m) m):=
 pq _ _ (λi ms j h=>qG C act i ms j h) (G_ C act) ms j
theorem DF(C:aB)(act who:Int)(ms:List aD)(j:Nat):(C.EG act who ms)[j]?=(ms[j]?).map (λm=>cond m.runs (G9 C act who j m) m):=
 pq _ _ (λi ms j h=>uL C act who i ms j h) (Ma C act who) ms j
theorem Ba(C:aB)(free:Bool)(ms:List aD)(j:Nat):(C.G8 free ms)[j]?=(ms[j]?).map (λm=>cond m.runs (Cj C free j m) m):=
 pq _ _ (λi ms j h=>yN C free i ms j h) (J2 C free) ms j
theorem EH(C:aB)(give tgt:Int)(ms:List aD)(j:Nat):((gL ms ms.length).foldl (λms i=>fu C give tgt i ms) ms)[j]?=(ms[j]?).map (λm=>cond m.runs (Ck C give tgt j m) m):=
 pq _ _ (λi ms j h=>qF C give tgt i ms j h) (He C give tgt) ms j
theorem Bb{ms ms':List aD}{f:Nat->aD->aD}(h:∀j:Nat,ms'[j]?=(ms[j]?).map (f j)):ms'.length=ms.length:=by
 apply Nat.le_antisymm
 .rcases iO ms.length ms'.length with h1|h1
  .have h2:=h ms.length
   rw[aW h1,nH (bJ _)]at h2;cases h2
  .exact h1
 .rcases iO ms'.length ms.length with h1|h1
  .have h2:=h ms'.length
   rw[aW h1,nH (bJ _)]at h2;cases h2
  .exact h1
theorem Bc(C:aB)(act:Int)(ms:List aD):(C.paused act ms).length=ms.length:=Bb (f:=λj m=>cond m.runs (pX C act j m) m) (wH C act ms)
theorem DI(C:aB)(act who:Int)(ms:List aD):(C.EG act who ms).length=ms.length:=Bb (f:=λj m=>cond m.runs (G9 C act who j m) m) (DF C act who ms)
theorem Ra(C:aB)(free:Bool)(ms:List aD):(C.G8 free ms).length=ms.length:=Bb (f:=λj m=>cond m.runs (Cj C free j m) m) (Ba C free ms)
theorem Mc(C:aB)(act:Int)(i:Nat)(m:aD):(pX C act i m).got=m.got/\(pX C act i m).status=m.status:=by
 unfold pX;split
 .rename_i k _
  cases (act==k.pause)<;>cases (act==k.resume)<;>exact⟨rfl,rfl⟩
 .exact⟨rfl,rfl⟩
theorem Hf{C:aB}{act:Int}{ms:List aD}{j:Nat}{m:aD}(h:(C.paused act ms)[j]?=some m):∃m0,ms[j]?=some m0/\m.got=m0.got/\m.runs=m0.runs:=by
 rw[wH]at h;cases hm:ms[j]? with
 |none=>rw[hm]at h;cases h
 |some m0=>
  rw[hm]at h;simp only[kG,Option.some.injEq]at h;refine⟨m0,rfl,?_⟩;cases hr:m0.runs with
  |false=>
   rw[hr]at h;simp only[cond_false]at h;subst h;exact⟨rfl,hr⟩
  |true=>
   rw[hr]at h;simp only[cond_true]at h;subst h;have h2:=Mc C act j m0;refine⟨h2.1,?_⟩;unfold aD.runs at hr⊢;rw[h2.2];exact hr
theorem aH.on{S:Nat->Prop}{a w z:World}(h:aH S a w)(hz:Below w.heap.size w z):aH S a z:=h.trans (aH.of_below hz) (λi hi hs=>by have:=h.size;omega)
end
theorem zI{n:Nat}{f:Nat->Bool}(h:(List.range n).all f=true){i:Nat}(hi:i<n):f i=true:=fE.1 h i (List.mem_range.2 hi)
structure aB.Ok(C:aB):Prop where
 aJ:1<=C.aJ
 days:1<=C.days
 aby:C.days<=2000
 roles:C.aj.length≠0
 held:∀p∈C.aj,0<=p/\p<C.aJ
 acts:∀a∈C.acts,C.xk a=true
 off:tN C.days (-1) C.off=true
 clauses:∀(i:Nat)(k:aU),C.clauses[i]?=some k->C.jl i k=true
 Hg:C.aJ<=12
 Rb:C.aj.length<=12
 KN:C.acts.length<=60
 Hl:C.clauses.length<=400
theorem aB.ok{C:aB}(h:C.valid=true):C.Ok:=by
 simp only[aB.valid,aB.over,aB.framed,Uw,bP,iV,pQ,decide_eq_false_iff_not]at h;obtain⟨⟨o1,o2,o3,o4,o5,o6⟩,⟨⟨f1,f2,f3,f4⟩,f5,f6,f7⟩,hc⟩:=h;refine⟨by omega,by omega,by omega,?_,?_,?_,f7,?_,by omega,by omega,by omega,by omega⟩
 .intro e
  rw[e]at f3;exact absurd f3 (by decide)
 .intro p hp
  have h1:=fE.1 f4 p hp;simp only[aB.party,bP,decide_eq_true_eq]at h1;exact h1
 .intro a ha
  exact fE.1 f6 a ha
 .intro i k hk
  have hi:i<C.clauses.length:=(bC.1 hk).1;have h1:=zI hc hi;rw[hk]at h1;exact h1
structure sH(C:aB)(i:Nat)(k:aU):Prop where
 ajr:0<=k.act
 ajs:k.act<C.acts.length
 afO:1<=k.kind
 afP:k.kind<=4
 acR:1<=k.after
 XF:k.after<=400
 role:k.kind≠4->0<=k.role/\k.role<C.aj.length
 afQ:1<=k.need
 abz:k.need<=9
 ajt:0<=k.lZ
 XG:k.lZ<=400
 aju:k.kind≠1->k.lZ=0
 pause:k.pause≠ -1\/k.resume≠ -1->k.pause≠k.resume/\C.natural k.pause=true/\C.natural k.resume=true
 start:∀c∈k.start,0<=c.clause/\c.clause<C.clauses.length/\c.clause≠i/\1<=c.is/\c.is<=4
 ajv:k.start.length<=8
theorem aB.Ok.clause{C:aB}(h:C.Ok){i:Nat}{k:aU}(hk:C.clauses[i]?=some k):sH C i k:=by
 have hc:=h.clauses i k hk;simp only[aB.jl,Em,nJ,nK,Af,bP,iV,decide_eq_false_iff_not]at hc;obtain⟨⟨c1,c2,c3,c4,ck,c5⟩,cs,cp,_⟩:=hc;have hkd:1<=k.kind/\k.kind<=4/\(k.kind≠4->0<=k.role/\k.role<C.aj.length)/\1<=k.need/\k.need<=9/\0<=k.lZ/\k.lZ<=400/\(k.kind≠1->k.lZ=0):=by
  cases q4:(k.kind==4)with
  |true=>
   simp only[q4,cond_true,bP,beq_iff_eq]at ck;have q4:k.kind=4:=by simpa using q4
   obtain⟨a1,a2,a3,_⟩:=ck;refine⟨by omega,by omega,λh=>absurd q4 h,by omega,by omega,by omega,by omega,λ_=>a3⟩
  |false=>
   simp only[q4,cond_false]at ck;have q4':k.kind≠4:=by simpa using q4
   cases qr:(!C.role k.role||C.natural k.act)with
   |true=>simp only[qr,cond_true]at ck;cases ck
   |false=>
    simp only[qr,cond_false]at ck;simp only[pQ,Bool.not_eq_false',aB.role,bP,decide_eq_true_eq]at qr;cases q1:(k.kind==1)with
    |true=>
     simp only[q1,cond_true,bP,decide_eq_true_eq]at ck;have q1:k.kind=1:=by simpa using q1
     refine⟨by omega,by omega,λ_=>qr.1,ck.1,ck.2.1,ck.2.2.1,ck.2.2.2,λh=>absurd q1 h⟩
    |false=>
     simp only[q1,cond_false]at ck;cases q2:(k.kind==2)with
     |true=>
      simp only[q2,cond_true,bP,beq_iff_eq]at ck;have q2:k.kind=2:=by simpa using q2
      refine⟨by omega,by omega,λ_=>qr.1,by omega,by omega,by omega,by omega,λ_=>ck.2⟩
     |false=>
      simp only[q2,cond_false]at ck;cases q3:(k.kind==3)with
      |true=>
       simp only[q3,cond_true,bP,beq_iff_eq]at ck;have q3:k.kind=3:=by simpa using q3
       refine⟨by omega,by omega,λ_=>qr.1,by omega,by omega,by omega,by omega,λ_=>ck.2.1⟩
      |false=>simp only[q3,cond_false]at ck;cases ck
 obtain⟨k1,k2,k3,k4,k5,k6,k7,k8⟩:=hkd;refine⟨by omega,by omega,k1,k2,by omega,by omega,k3,k4,k5,k6,k7,k8,?_,?_,by omega⟩
 .intro hp
  cases qp:(!(k.pause== -1)|| !(k.resume== -1))with
  |true=>
   simp only[qp,cond_true,bP,iV,beq_eq_false_iff_ne]at cp;exact⟨cp.1,cp.2.1,cp.2.2⟩
  |false=>
   simp only[pQ,Bool.not_eq_false',beq_iff_eq]at qp;omega
 .intro c hc
  have h1:=fE.1 cs c hc;simp only[tL,bP,iV,decide_eq_false_iff_not,beq_eq_false_iff_ne]at h1;obtain⟨e1,e2,e3,e4,e5⟩:=h1;exact⟨by omega,by omega,e3,by omega,by omega⟩
def dN(C:aB)(k:aU)(m:aD):Prop:=
 (m.status=0/\k.wh=false/\m.left=0/\m.got=0/\m.dQ= -1/\m.paused=false)\/
 ((m.status=1/\m.left<=k.after\/m.status=2/\k.kind=1/\m.left<=k.lZ)/\k.wh=false/\1<=m.left/\(m.paused=true->k.pause≠ -1)/\(m.got≠0->k.kind=1/\0<=m.got/\m.got<k.need)/\(k.kind=4->m.dQ= -1)/\(k.kind≠4->0<=m.dQ/\m.dQ<C.aJ))\/
 ((m.status=3\/m.status=4\/m.status=5)/\m.left=0/\0<=m.got/\m.got<=9/\ -1<=m.dQ/\m.dQ<C.aJ/\m.paused=false)
theorem Ho(C:aB)(k:aU)(m:aD):C.wu k m=true↔dN C k m:=by
 obtain⟨ms,ml,mg,mb,mp⟩:=m;obtain⟨ki,ro,ac,ne,start,af,gr,bu,fi,pa,re,va,un,tg,wa⟩:=k;simp only[aB.wu,dN,zx];cases q0:(ms==0)with
 |true=>
  have h0:ms=0:=by simpa using q0
  subst h0;cases wa<;>cases mp<;>simp[LB]
 |false=>
  have h0:ms≠0:=by simpa using q0
  have hrun:xY C ki ne pa wa ml mg mb mp=true↔(wa=false/\1<=ml/\(mp=true->pa≠ -1)/\(mg≠0->ki=1/\0<=mg/\mg<ne)/\(ki=4->mb= -1)/\(ki≠4->0<=mb/\mb<C.aJ)):=by
   simp only[xY];cases wa with
   |true=>simp
   |false=>
    cases q1:(decide (ml<1)||(mp&&(pa== -1)))with
    |true=>
     simp only[rR,decide_eq_true_eq,bP,beq_iff_eq]at q1;simp only[Bool.false_or,cond_true];constructor
     .intro h;cases h
     .rintro⟨_,a1,a2,_⟩
      rcases q1 with h|⟨h1,h2⟩
      .omega
      .exact absurd h2 (a2 h1)
    |false=>
     simp only[pQ,decide_eq_false_iff_not]at q1;have hp:mp=true->pa≠ -1:=by
      intro hm e;rw[hm,e]at q1;exact absurd q1.2 (by decide)
     simp only[Bool.false_or,cond_false];cases q2:(!(mg==0)&&(!(ki==1)||(decide (mg<0)||decide (ne<=mg))))with
     |true=>
      simp only[bP,iV,beq_eq_false_iff_ne,rR,decide_eq_true_eq]at q2;simp only[cond_true];constructor
      .intro h;cases h
      .rintro⟨_,_,_,a3,_⟩
       have:=a3 q2.1;omega
     |false=>
      have q3:mg≠0->ki=1/\0<=mg/\mg<ne:=by
       intro hne;simp only[show(mg==0)=false by simpa using hne,Bool.not_false,Bool.true_and,pQ,Bool.not_eq_false',beq_iff_eq,decide_eq_false_iff_not]at q2;omega
      simp only[cond_false];cases q4:(ki==4)with
      |true=>
       have h4:ki=4:=by simpa using q4
       simp only[cond_true,beq_iff_eq];constructor
       .intro h;exact⟨trivial,by omega,hp,q3,λ_=>h,λh=>absurd h4 h⟩
       .rintro⟨_,_,_,_,a4,_⟩;exact a4 h4
      |false=>
       have h4:ki≠4:=by simpa using q4
       simp only[cond_false,bP,decide_eq_true_eq];constructor
       .intro h;exact⟨trivial,by omega,hp,q3,λh=>absurd h h4,λ_=>h⟩
       .rintro⟨_,_,_,_,_,a4⟩;exact a4 h4
  simp only[cond_false];cases q1:(ms==1)with
  |true=>
   have h1:ms=1:=by simpa using q1
   subst h1;simp only[cond_true,bP,decide_eq_true_eq,hrun];constructor
   .rintro⟨a,b⟩;exact .inr (.inl ⟨.inl ⟨trivial,a⟩,b⟩)
   .rintro(⟨h,_⟩|⟨h|⟨h,_⟩,b⟩|⟨h,_⟩)
    .omega
    .exact⟨h.2,b⟩
    .omega
    .omega
  |false=>
   have h1:ms≠1:=by simpa using q1
   simp only[cond_false];cases q2:(ms==2)with
   |true=>
    have h2:ms=2:=by simpa using q2
    subst h2;simp only[cond_true,bP,decide_eq_true_eq,beq_iff_eq,hrun];constructor
    .rintro⟨a0,a,b⟩;exact .inr (.inl ⟨.inr ⟨trivial,a0,a⟩,b⟩)
    .rintro(⟨h,_⟩|⟨⟨h,_⟩|h,b⟩|⟨h,_⟩)
     .omega
     .omega
     .exact⟨h.2.1,h.2.2,b⟩
     .omega
   |false=>
    have h2:ms≠2:=by simpa using q2
    simp only[cond_false];cases q3:((ms==3)||((ms==4)||(ms==5)))with
    |true=>
     simp only[rR,beq_iff_eq]at q3;simp only[cond_true,bP,beq_iff_eq,decide_eq_true_eq,iV];constructor
     .intro h;exact .inr (.inr ⟨q3,h⟩)
     .rintro(⟨h,_⟩|⟨⟨h,_⟩|⟨h,_⟩,_⟩|⟨_,b⟩)
      .omega
      .omega
      .omega
      .exact b
    |false=>
     simp only[pQ,beq_eq_false_iff_ne]at q3;simp only[cond_false];constructor
     .intro h;cases h
     .rintro(⟨h,_⟩|⟨⟨h,_⟩|⟨h,_⟩,_⟩|⟨h,_⟩)<;>omega
theorem pY(m:aD):m.runs=true↔m.status=1\/m.status=2:=by simp[aD.runs]
section
variable {C:aB} {i:Nat} {k:aU} {m:aD}
theorem dN.ended(h:dN C k m)(hr:m.runs=true)(hp:1<=C.aJ){st:Int}(hst:st=3\/st=4\/st=5)(g:Int)(hg0:0<=g)(hg:g<=9):dN C k ⟨st,0,g,m.dQ,false⟩:=by
 rw[pY]at hr;rcases h with⟨h0,_⟩|⟨_,_,_,_,_,hb1,hb2⟩|⟨h0,_⟩
 .omega
 .refine .inr (.inr ⟨hst,rfl,hg0,hg,?_,?_,rfl⟩)
  .by_cases h4:k.kind=4
   .have h5:=hb1 h4;show -1<=m.dQ;omega
   .have h5:=hb2 h4;show -1<=m.dQ;omega
  .by_cases h4:k.kind=4
   .have h5:=hb1 h4;show m.dQ<_;omega
   .have h5:=hb2 h4;show m.dQ<_;omega
 .omega
theorem dN.got(hk:sH C i k)(h:dN C k m):0<=m.got/\m.got<=9:=by
 have:=hk.abz;rcases h with⟨_,_,_,h0,_⟩|⟨_,_,_,_,h0,_⟩|⟨_,_,h0,h1,_⟩
 .omega
 .by_cases hg:m.got=0
  .omega
  .have:=h0 hg;omega
 .omega
theorem dN.Z_(h:dN C k m)(hr:m.runs=true)(hp:k.pause≠ -1)(b:Bool):dN C k ⟨m.status,m.left,m.got,m.dQ,b⟩:=by
 rw[pY]at hr;rcases h with⟨h0,_⟩|⟨h1,h2,h3,h4,h5⟩|⟨h0,_⟩
 .omega
 .exact .inr (.inl ⟨h1,h2,h3,λ_=>hp,h5⟩)
 .omega
theorem dN.resumed(h:dN C k m)(hr:m.runs=true):dN C k ⟨m.status,m.left,m.got,m.dQ,false⟩:=by
 rw[pY]at hr;rcases h with⟨h0,_⟩|⟨h1,h2,h3,h4,h5⟩|⟨h0,_⟩
 .omega
 .exact .inr (.inl ⟨h1,h2,h3,(λh=>by cases h),h5⟩)
 .omega
theorem dN.borne(h:dN C k m)(hr:m.runs=true)(hk4:k.kind≠4){p:Int}(h0:0<=p)(h1:p<C.aJ):dN C k ⟨m.status,m.left,m.got,p,m.paused⟩:=by
 rw[pY]at hr;rcases h with⟨h0,_⟩|⟨a1,a2,a3,a4,a5,_⟩|⟨h0,_⟩
 .omega
 .exact .inr (.inl ⟨a1,a2,a3,a4,a5,λh=>absurd h hk4,λ_=>⟨h0,h1⟩⟩)
 .omega
theorem dN.hit(hk:sH C i k)(h:dN C k m)(hr:m.runs=true)(hp:1<=C.aJ):dN C k (m.hit k):=by
 have hg:=h.got hk;have n1:=hk.afQ;have n2:=hk.abz;have hr':=hr;rw[pY]at hr';unfold aD.hit;cases q1:(k.kind==1)with
 |true=>
  have h1:k.kind=1:=by simpa using q1
  simp only[cond_true,aD.performed];cases q:(m.got+1==k.need)with
  |true=>
   have hq:m.got+1=k.need:=by simpa using q
   simp only[cond_true,aD.ended];exact h.ended hr hp (.inl rfl) _ (by omega) (by omega)
  |false=>
   have hq:m.got+1≠k.need:=by simpa using q
   simp only[cond_false];rcases h with⟨h0,_⟩|⟨a1,a2,a3,a4,a5,a6⟩|⟨h0,_⟩
   .omega
   .refine .inr (.inl ⟨a1,a2,a3,a4,λ_=>⟨h1,?_,?_⟩,a6⟩)
    .show 0<=m.got+1;omega
    .show m.got+1<k.need
     by_cases h0:m.got=0
     .omega
     .have:=a5 h0;omega
   .omega
 |false=>
  simp only[cond_false];cases q2:(k.kind==2)with
  |true=>
   simp only[cond_true,aD.violated];cases m.paused with
   |true=>exact h
   |false=>exact h.ended hr hp (.inr (.inl rfl)) _ hg.1 hg.2
  |false=>exact h.ended hr hp (.inl rfl) _ hg.1 hg.2
theorem dN.yM(hk:sH C i k)(h:dN C k m)(hr:m.runs=true)(hp:1<=C.aJ):dN C k (m.yM k):=by
 have hg:=h.got hk;have hr':=hr;rw[pY]at hr';unfold aD.yM;have hl:1<=m.left/\(m.status=1->m.left<=k.after)/\(m.status=2->k.kind=1/\m.left<=k.lZ):=by
  rcases h with⟨h0,_⟩|⟨a1,_,a3,_⟩|⟨h0,_⟩
  .omega
  .exact⟨a3,λ_=>by omega,λ_=>by omega⟩
  .omega
 cases q:(m.left - 1==0)with
 |true=>
  simp only[cond_true,aD.due];cases q1:(k.kind==1)with
  |true=>
   have h1:k.kind=1:=by simpa using q1
   simp only[cond_true,aD.expired];cases q3:((m.status==1)&&decide (0<k.lZ))with
   |true=>
    simp only[bP,beq_iff_eq,decide_eq_true_eq]at q3;simp only[cond_true];rcases h with⟨h0,_⟩|⟨a1,a2,a3,a4,a5,a6⟩|⟨h0,_⟩
    .omega
    .exact .inr (.inl ⟨.inr ⟨rfl,h1,iI _⟩,a2,by show 1<=k.lZ;omega,a4,a5,a6⟩)
    .omega
   |false=>exact h.ended hr hp (.inr (.inl rfl)) _ hg.1 hg.2
  |false=>
   simp only[cond_false];cases q2:(k.kind==2)with
   |true=>exact h.ended hr hp (.inl rfl) _ hg.1 hg.2
   |false=>exact h.ended hr hp (.inr (.inr rfl)) _ hg.1 hg.2
 |false=>
  have hq:m.left - 1≠0:=by simpa using q
  simp only[cond_false];rcases h with⟨h0,_⟩|⟨a1,a2,a3,a4,a5,a6⟩|⟨h0,_⟩
  .omega
  .refine .inr (.inl ⟨?_,a2,?_,a4,a5,a6⟩)
   .show(m.status=1/\m.left - 1<=k.after)\/(m.status=2/\k.kind=1/\m.left - 1<=k.lZ)
    omega
   .show 1<=m.left - 1
    omega
  .omega
end
structure abA(C:aB)(a:jg):Prop where
 role:a.role≠ -1->0<=a.role/\a.role<C.aj.length
 kind:a.kind=1\/a.kind=2\/a.kind=3
 give:a.kind≠1->0<=a.give/\a.give<C.aj.length
 tgt:a.kind≠1->0<=a.tgt/\a.tgt<C.aJ
 seen:a.kind=1->a.tgt= -1\/(0<=a.tgt/\a.tgt<C.aj.length)
theorem aB.Ok.act{C:aB}(h:C.Ok){a:jg}(ha:a∈C.acts):abA C a:=by
 have hc:=h.acts a ha;simp only[aB.xk,Ay]at hc;cases qr:(C.role a.role)with
 |false=>
  simp only[qr,Bool.not_false,cond_true,bP,beq_iff_eq,rR]at hc;obtain⟨h1,h2,h3,h4,_⟩:=hc;refine⟨λh=>absurd h2 h,.inl h1,λh=>absurd h1 h,λh=>absurd h1 h,λ_=>?_⟩;rcases h4 with h4|h4
  .exact .inl h4
  .simp only[aB.role,bP,decide_eq_true_eq]at h4
   exact .inr h4
 |true=>
  have qr':=qr;simp only[aB.role,bP,decide_eq_true_eq]at qr';simp only[qr,Bool.not_true,cond_false]at hc;cases q1:(a.kind==1)with
  |true=>
   have h1:a.kind=1:=by simpa using q1
   simp only[q1,cond_true]at hc;refine⟨λ_=>qr',.inl h1,λh=>absurd h1 h,λh=>absurd h1 h,λ_=>?_⟩;cases q2:(!(a.give==0)||(!(a.tgt== -1)&& !(C.role a.tgt)))with
   |true=>simp only[q2,cond_true]at hc;cases hc
   |false=>
    simp only[pQ,Bool.and_eq_false_iff,Bool.not_eq_false',beq_iff_eq]at q2;rcases q2.2 with h4|h4
    .exact .inl h4
    .simp only[aB.role,bP,decide_eq_true_eq]at h4
     exact .inr h4
  |false=>
   have h1:a.kind≠1:=by simpa using q1
   simp only[q1,cond_false]at hc;cases q2:((a.kind==2)||(a.kind==3))with
   |false=>simp only[q2,cond_false]at hc;cases hc
   |true=>
    simp only[q2,cond_true,bP,decide_eq_true_eq,aB.role]at hc;simp only[rR,beq_iff_eq]at q2;exact⟨λ_=>qr',.inr q2,λ_=>hc.1,λ_=>⟨hc.2.1,hc.2.2.1⟩,λh=>absurd h h1⟩
structure bR(C:aB)(s:ak):Prop where
 con:C.valid=true
 U0:0<=s.day
 XH:s.day<=C.days
 lh:s.aj.length=C.aj.length
 lu:s.used.length=C.acts.length
 lm:s.marks.length=C.clauses.length
 held:∀p∈s.aj,0<=p/\p<C.aJ
 used:∀(i:Nat)(a:jg),s.used[i]?=some true->C.acts[i]?=some a->a.kind≠1
 marks:∀(i:Nat)(m:aD)(k:aU),s.marks[i]?=some m->C.clauses[i]?=some k->dN C k m
 still:∀(i:Nat)(m:aD)(k:aU),s.marks[i]?=some m->C.clauses[i]?=some k->lX s.marks k m=false
theorem jR(C:aB)(s:ak):C.gF s=true↔bR C s:=by
 constructor
 .intro h
  simp only[aB.gF,Js,nL,BM,xZ,bP,iV,decide_eq_false_iff_not,beq_iff_eq]at h;obtain⟨h1,⟨h2,h3,h4,h5,h6⟩,h7,h8,h9⟩:=h;refine⟨h1,by omega,by omega,by omega,by omega,by omega,?_,?_,?_,?_⟩
  .intro p hp
   have h10:=fE.1 h7 p hp;simp only[uF,bP,iV,decide_eq_false_iff_not]at h10;omega
  .intro i a hu ha
   have h10:=zI h8 (bC.1 hu).1;rw[hu,ha]at h10;simpa using h10
  .intro i m k hm hk
   have h10:=zI h9 (bC.1 hm).1;rw[hm,hk]at h10;simp only[bP]at h10;exact(Ho _ _ _).1 h10.1
  .intro i m k hm hk
   have h10:=zI h9 (bC.1 hm).1;rw[hm,hk]at h10;simp only[bP,iV]at h10;exact h10.2
 .intro h
  simp only[aB.gF,Js,nL,BM,xZ,bP,iV,decide_eq_false_iff_not,beq_iff_eq];refine⟨h.con,⟨by have:=h.U0;omega,by have:=h.XH;omega,by have:=h.lh;omega,by have:=h.lu;omega,by have:=h.lm;omega⟩,?_,?_,?_⟩
  .apply fE.2
   intro p hp;have:=h.held p hp;simp only[uF,bP,iV,decide_eq_false_iff_not];omega
  .apply fE.2
   intro i _;cases hu:s.used[i]? with
   |none=>rfl
   |some u=>
    cases ha:C.acts[i]? with
    |none=>rfl
    |some a=>
     cases u with
     |false=>simp
     |true=>
      have:=h.used i a hu ha;simpa using this
  .apply fE.2
   intro i _;cases hm:s.marks[i]? with
   |none=>rfl
   |some m=>
    cases hk:C.clauses[i]? with
    |none=>rfl
    |some k=>
     simp only[bP,iV];exact⟨(Ho _ _ _).2 (h.marks i m k hm hk),h.still i m k hm hk⟩
def Beg(C:aB)(hs:List Int)(j:Nat)(m m':aD):Prop:=m'=m\/(m.status=0/\∃k,C.clauses[j]?=some k/\k.wh=false/\m'=Gr hs k)
theorem Beg.trans{C:aB}{hs:List Int}{j:Nat}{a b c:aD}(h:Beg C hs j a b)(h':Beg C hs j b c):Beg C hs j a c:=by
 rcases h with rfl|⟨h0,k,hk,hw,rfl⟩
 .exact h'
 .rcases h' with rfl|⟨h1,_⟩
  .exact .inr ⟨h0,k,hk,hw,rfl⟩
  .exact absurd h1 (by show(1:Int)≠0;decide)
def oN(C:aB)(hs:List Int)(ms ms':List aD):Prop:=ms'.length=ms.length/\∀(j:Nat)(m':aD),ms'[j]?=some m'->∃m,ms[j]?=some m/\Beg C hs j m m'
theorem oN.refl(C:aB)(hs:List Int)(ms:List aD):oN C hs ms ms:=⟨rfl,λ_ m' h=>⟨m',h,.inl rfl⟩⟩
theorem oN.trans{C:aB}{hs:List Int}{a b c:List aD}(h:oN C hs a b)(h':oN C hs b c):oN C hs a c:=
 ⟨h'.1.trans h.1,λj m' hm=>by
  obtain⟨m1,h1,h2⟩:=h'.2 j m' hm;obtain⟨m2,h3,h4⟩:=h.2 j m1 h1;exact⟨m2,h3,h4.trans h2⟩⟩
theorem Ol(C:aB)(hs:List Int)(ms:List aD)(i:Nat):oN C hs ms (nM C hs ms i):=by
 refine⟨Et C hs ms i,λj m' hm=>?_⟩;cases hf:jC C ms i with
 |false=>
  rw[(wz C hs ms i).2 hf]at hm;exact⟨m',hm,.inl rfl⟩
 |true=>
  have hf':=hf;unfold jC at hf';unfold nM at hm;cases hk:C.clauses[i]? with
  |none=>simp[hk]at hf'
  |some k=>
   cases hmi:ms[i]? with
   |none=>simp[hk,hmi]at hf'
   |some m=>
    simp only[hk,hmi]at hf';simp only[hk,hf,cond_true]at hm;by_cases hij:i=j
    .subst hij
     rw[rO hmi]at hm;injection hm with hm
     simp only[lX,bP,beq_iff_eq,iV]at hf';exact⟨m,hmi,.inr ⟨hf'.1,k,hk,hf'.2.1,hm.symm⟩⟩
    .rw[j4,if_neg hij]at hm
     exact⟨m',hm,.inl rfl⟩
theorem EI(C:aB)(hs:List Int)(ms:List aD):∀n,oN C hs ms (fQ C hs ms n)
 |0=>oN.refl _ _ _
 |n+1=>(EI C hs ms n).trans (Ol C hs _ n)
theorem Cm(C:aB)(hs:List Int):∀(f:Nat)(ms:List aD),oN C hs ms (j_ C hs f ms)
 |0,ms=>oN.refl _ _ _
 |f+1,ms=>by
  rw[j_];cases iw C hs ms C.clauses.length with
  |false=>exact oN.refl _ _ _
  |true=>exact(EI C hs ms _).trans (Cm C hs f _)
theorem DJ(C:aB)(hs:List Int)(ms:List aD):oN C hs ms (C.begin hs ms):=Cm C hs _ ms
theorem Ap(C:aB)(hs:List Int):∀(f:Nat)(ms:List aD),idle ms<f->iw C hs (j_ C hs f ms) C.clauses.length=false
 |0,_,h=>by omega
 |f+1,ms,h=>by
  rw[j_];cases hf:iw C hs ms C.clauses.length with
  |false=>exact hf
  |true=>
   have:=(jm C hs ms C.clauses.length).1 hf;exact Ap C hs f _ (by omega)
theorem Hq{C:aB}{hs:List Int}{ms:List aD}:∀{n:Nat},iw C hs ms n=false->∀i,i<n->jC C ms i=false
 |0,_,i,hi=>by omega
 |n+1,h,i,hi=>by
  rw[iw,pQ]at h;by_cases hin:i=n
  .subst hin
   have h2:=(jm C hs ms i).2 h.1;rw[h2]at h;exact h.2
  .exact Hq h.1 i (by omega)
theorem Rc(C:aB)(hs:List Int)(ms:List aD)(i:Nat)(hi:i<C.clauses.length):jC C (C.begin hs ms) i=false:=Hq (Ap C hs _ ms (by omega)) i hi
theorem Md{hs:List Int}{r:Int}(h0:0<=r)(h1:r<hs.length):fF hs r∈hs:=by
 unfold fF;have:r.toNat<hs.length:=by omega
 rw[aW this];exact Ac this
theorem XI{C:aB}{hs:List Int}{i:Nat}{k:aU}(hk:sH C i k)(hw:k.wh=false)(hl:hs.length=C.aj.length)(hh:∀p∈hs,0<=p/\p<C.aJ):dN C k (Gr hs k):=by
 refine .inr (.inl ⟨.inl ⟨rfl,iI _⟩,hw,hk.acR,(λh=>by cases h),λh=>absurd rfl h,λh=>?_,λh=>?_⟩)
 .simp[Gr,rY,h]
 .have h4:(k.kind==4)=false:=by simpa using h
  have:=hk.role h;have h5:=hh _ (Md (hs:=hs) this.1 (by omega));simp only[Gr,rY,h4,cond_false];exact h5
theorem Cn{C:aB}{hs:List Int}{ms:List aD}(hC:C.Ok)(hl:hs.length=C.aj.length)(hh:∀p∈hs,0<=p/\p<C.aJ)(hm:∀(i:Nat)(m:aD)(k:aU),ms[i]?=some m->C.clauses[i]?=some k->dN C k m):
 (∀(i:Nat)(m:aD)(k:aU),(C.begin hs ms)[i]?=some m->C.clauses[i]?=some k->dN C k m)/\(∀(i:Nat)(m:aD)(k:aU),(C.begin hs ms)[i]?=some m->C.clauses[i]?=some k->lX (C.begin hs ms) k m=false):=by
 refine⟨λi m k h hk=>?_,λi m k h hk=>?_⟩
 .obtain⟨m0,h0,hb⟩:=(DJ C hs ms).2 i m h
  rcases hb with rfl|⟨_,k',hk',hw,rfl⟩
  .exact hm i _ k h0 hk
  .rw[hk]at hk'
   injection hk' with hk'
   subst hk';exact XI (hC.clause hk) hw hl hh
 .have h1:=Rc C hs ms i (bC.1 hk).1
  unfold jC at h1;rw[hk,h]at h1;exact h1
theorem vO(C:aB)(hs:List Int)(ms:List aD):(C.begin hs ms).length=ms.length:=(DJ C hs ms).1
theorem Bd{C:aB}{hs:List Int}{ms:List aD}{j:Nat}{m:aD}(h:ms[j]?=some m)(h0:m.status≠0):(C.begin hs ms)[j]?=some m:=by
 have hj:j<(C.begin hs ms).length:=by rw[vO];exact(bC.1 h).1
 obtain⟨m',hm'⟩:∃m',(C.begin hs ms)[j]?=some m':=⟨_,aW hj⟩;obtain⟨m0,h1,hb⟩:=(DJ C hs ms).2 j m' hm';rw[h]at h1;injection h1 with h1
 subst h1;rcases hb with rfl|⟨h2,_⟩
 .exact hm'
 .exact absurd h2 h0
theorem map_ok{C:aB}{ms ms':List aD}{f:Nat->aD->aD}(hg:∀j:Nat,ms'[j]?=(ms[j]?).map (λm=>cond m.runs (f j m) m))(hm:∀(i:Nat)(m:aD)(k:aU),ms[i]?=some m->C.clauses[i]?=some k->dN C k m)
 (hf:∀(i:Nat)(m:aD)(k:aU),C.clauses[i]?=some k->dN C k m->m.runs=true->dN C k (f i m)):∀(i:Nat)(m:aD)(k:aU),ms'[i]?=some m->C.clauses[i]?=some k->dN C k m:=by
 intro i m k h hk;rw[hg]at h;cases hm0:ms[i]? with
 |none=>rw[hm0]at h;cases h
 |some m0=>
  rw[hm0]at h;simp only[kG,Option.some.injEq]at h;have h1:=hm i m0 k hm0 hk;cases hr:m0.runs with
  |false=>
   rw[hr]at h;subst h;exact h1
  |true=>
   rw[hr]at h;subst h;exact hf i m0 k hk h1 hr
theorem U1{C:aB}{ms:List aD}{act:Int}(h0:0<=act)(hm:∀(i:Nat)(m:aD)(k:aU),ms[i]?=some m->C.clauses[i]?=some k->dN C k m):
 ∀(i:Nat)(m:aD)(k:aU),(C.paused act ms)[i]?=some m->C.clauses[i]?=some k->dN C k m:=
 map_ok (wH C act ms) hm (λi m k hk h hr=>by
  unfold pX;rw[hk];dsimp only;cases q1:(act==k.pause)with
  |true=>
   have e1:act=k.pause:=by simpa using q1
   exact h.Z_ hr (by omega) true
  |false=>
   cases q2:(act==k.resume)with
   |true=>exact h.resumed hr
   |false=>exact h)
theorem XJ{C:aB}(hC:C.Ok){ms:List aD}{act who:Int}(hm:∀(i:Nat)(m:aD)(k:aU),ms[i]?=some m->C.clauses[i]?=some k->dN C k m):
 ∀(i:Nat)(m:aD)(k:aU),(C.EG act who ms)[i]?=some m->C.clauses[i]?=some k->dN C k m:=
 map_ok (DF C act who ms) hm (λi m k hk h hr=>by
  unfold G9;rw[hk];cases q1:((k.act==act)&&((k.kind==4)||(m.dQ==who)))with
  |true=>simpa only[q1,cond_true]using h.hit (hC.clause hk) hr hC.aJ
  |false=>simpa only[q1,cond_false]using h)
theorem U2{C:aB}(hC:C.Ok){ms:List aD}{free:Bool}(hm:∀(i:Nat)(m:aD)(k:aU),ms[i]?=some m->C.clauses[i]?=some k->dN C k m):
 ∀(i:Nat)(m:aD)(k:aU),(C.G8 free ms)[i]?=some m->C.clauses[i]?=some k->dN C k m:=
 map_ok (Ba C free ms) hm (λi m k hk h hr=>by
  unfold Cj;rw[hk];cases q1:(m.paused||(k.rW&&free))with
  |true=>simpa only[q1,cond_true]using h
  |false=>simpa only[q1,cond_false]using h.yM (hC.clause hk) hr hC.aJ)
theorem Rf{C:aB}{ms:List aD}{give tgt:Int}(h0:0<=tgt)(h1:tgt<C.aJ)(hm:∀(i:Nat)(m:aD)(k:aU),ms[i]?=some m->C.clauses[i]?=some k->dN C k m):
 ∀(i:Nat)(m:aD)(k:aU),((gL ms ms.length).foldl (λms j=>fu C give tgt j ms) ms)[i]?=some m->C.clauses[i]?=some k->dN C k m:=
 map_ok (EH C give tgt ms) hm (λi m k hk h hr=>by
  unfold Ck;rw[hk];dsimp only;cases q1:((k.kind !=4)&&(k.role==give))with
  |true=>
   simp only[bP,bne_iff_ne]at q1;exact h.borne hr q1.1 h0 h1
  |false=>exact h)
theorem Tv{C:aB}{s:ak}(h:bR C s)(hd:s.day<C.days):bR C (C.tick s):=by
 have hC:=aB.ok h.con;obtain⟨b1,b2⟩:=Cn hC h.lh h.held (U2 hC (free:=C.off.contains s.day) h.marks);exact⟨h.con,by show 0<=s.day+1;have:=h.U0;omega,by show s.day+1<=C.days;omega,h.lh,h.lu,by show(C.begin _ _).length=_;rw[vO,Ra];exact h.lm,h.held,h.used,b1,b2⟩
theorem mem_set{α:Type}{l:List α}{i:Nat}{x y:α}(h:y∈l.set i x):y=x\/y∈l:=by
 rcases List.mem_or_eq_of_mem_set h with h|h
 .exact .inr h
 .exact .inl h
theorem XK{C:aB}{s:ak}{i:Nat}{a:jg}(hA:abA C a)(ha:C.acts[i]?=some a)(hk:a.kind≠1)(h1:s.aj.length=C.aj.length)(h2:s.used.length=C.acts.length)(h3:s.marks.length=C.clauses.length)(h4:∀p∈s.aj,0<=p/\p<C.aJ)
 (h5:∀(i:Nat)(a:jg),s.used[i]?=some true->C.acts[i]?=some a->a.kind≠1)(h6:∀(i:Nat)(m:aD)(k:aU),s.marks[i]?=some m->C.clauses[i]?=some k->dN C k m):
 (C.shift i a s).aj.length=C.aj.length/\(C.shift i a s).used.length=C.acts.length/\(C.shift i a s).marks.length=C.clauses.length/\(∀p∈(C.shift i a s).aj,0<=p/\p<C.aJ)/\(∀(j:Nat)(a':jg),(C.shift i a s).used[j]?=some true->C.acts[j]?=some a'->a'.kind≠1)/\
  (∀(j:Nat)(m:aD)(k:aU),(C.shift i a s).marks[j]?=some m->C.clauses[j]?=some k->dN C k m):=by
 refine⟨by simp[aB.shift,h1],by simp[aB.shift,h2],?_,?_,?_,?_⟩
 .simp only[aB.shift]
  cases (a.kind !=3)with
  |true=>exact h3
  |false=>simp only[cond_false];rw[rM _ (λi ms=>o9 C _ _ i ms)];exact h3
 .intro p hp
  simp only[aB.shift]at hp;rcases mem_set hp with rfl|hp
  .exact hA.tgt hk
  .exact h4 p hp
 .intro j a' hu ha'
  simp only[aB.shift]at hu;by_cases hij:i=j
  .subst hij
   rw[ha]at ha';injection ha' with ha'
   subst ha';exact hk
  .rw[j4,if_neg hij]at hu
   exact h5 j a' hu ha'
 .simp only[aB.shift]
  cases (a.kind !=3)with
  |true=>exact h6
  |false=>exact Rf (hA.tgt hk).1 (hA.tgt hk).2 h6
theorem Rh{C:aB}{s:ak}(h:bR C s){i:Nat}{a:jg}(ha:C.acts[i]?=some a):bR C (C.act i a s):=by
 have hC:=aB.ok h.con;have hA:=hC.act (bT ha);unfold aB.act;cases q:((a.kind !=1)&&s.used.getD i false)with
 |true=>exact h
 |false=>
  simp only[cond_false];have hm:=XJ hC (who:=oG s.aj a) (act:=i) (U1 (act:=i) (by omega) h.marks);have hl:(C.EG i (oG s.aj a) (C.paused i s.marks)).length=C.clauses.length:=by rw[DI,Bc];exact h.lm
  cases q1:(a.kind !=1)with
  |false=>
   simp only[cond_false];obtain⟨b1,b2⟩:=Cn hC h.lh h.held hm;exact⟨h.con,h.U0,h.XH,h.lh,h.lu,by show(C.begin _ _).length=_;rw[vO];exact hl,h.held,h.used,b1,b2⟩
  |true=>
   simp only[cond_true];have hk1:a.kind≠1:=by simpa using q1
   obtain⟨s1,s2,s3,s4,s5,s6⟩:=XK (s:=⟨s.day,s.aj,s.used,C.EG i (oG s.aj a) (C.paused i s.marks)⟩) hA ha hk1 h.lh h.lu hl h.held h.used hm;obtain⟨b1,b2⟩:=Cn hC s1 s4 s6;exact⟨h.con,h.U0,h.XH,s1,s2,by show(C.begin _ _).length=_;rw[vO];exact s3,s4,s5,b1,b2⟩
def jL(k:aU):aD:=⟨cond k.wh 5 0,0,0, -1,false⟩
def aB.first(C:aB):ak:=⟨0,C.aj,List.replicate C.acts.length false,C.begin C.aj (C.clauses.map jL)⟩
theorem Co{C:aB}(h:C.valid=true):bR C C.first:=by
 have hC:=aB.ok h;obtain⟨b1,b2⟩:=Cn (ms:=C.clauses.map jL) hC rfl hC.held (λi m k hm hk=>by
  rw[fM,hk]at hm;simp only[kG,Option.some.injEq]at hm;subst hm;have hp:=hC.aJ;cases hw:k.wh with
  |true=>exact .inr (.inr ⟨.inr (.inr (by simp[jL,hw])),rfl,by simp[jL],by simp[jL],by simp[jL],by simp[jL];omega,rfl⟩)
  |false=>exact .inl ⟨by simp[jL,hw],hw,rfl,rfl,rfl,rfl⟩)
 refine⟨h,iI _,by show 0<=C.days;have:=hC.days;omega,rfl,by simp[aB.first],by simp[aB.first,vO],hC.held,?_,b1,b2⟩;intro i a hu;simp only[aB.first]at hu;have:=bT hu;simp at this
theorem Cq{ms ms':List aD}{f:Nat->aD->aD}(hg:∀j:Nat,ms'[j]?=(ms[j]?).map (λm=>cond m.runs (f j m) m)){j:Nat}{m:aD}(h:ms[j]?=some m)(hr:m.runs=false):ms'[j]?=some m:=by
 rw[hg,h,kG,hr];rfl
theorem yO{m:aD}(h:m.status=3\/m.status=4\/m.status=5):m.runs=false:=by
 cases hr:m.runs with
 |false=>rfl
 |true=>rw[pY]at hr;omega
theorem Ri{C:aB}{s:ak}{j:Nat}{m:aD}(h:s.marks[j]?=some m)(he:m.status=3\/m.status=4\/m.status=5):(C.tick s).marks[j]?=some m:=
 Bd (Cq (Ba C _ s.marks) h (yO he)) (by omega)
theorem U3{C:aB}{s:ak}{i:Nat}{a:jg}{j:Nat}{m:aD}(h:s.marks[j]?=some m)(he:m.status=3\/m.status=4\/m.status=5):(C.act i a s).marks[j]?=some m:=by
 have hr:=yO he;have h0:m.status≠0:=by omega
 unfold aB.act;cases q:((a.kind !=1)&&s.used.getD i false)with
 |true=>exact h
 |false=>
  simp only[cond_false];have h1:=Cq (DF C i (oG s.aj a) (C.paused i s.marks)) (Cq (wH C i s.marks) h hr) hr;cases (a.kind !=1)with
  |false=>exact Bd h1 h0
  |true=>
   refine Bd ?_ h0;simp only[cond_true,aB.shift];cases (a.kind !=3)with
   |true=>exact h1
   |false=>exact Cq (EH C _ _ _) h1 hr
theorem Om{days:Int}:∀{l:List Int}{last:Int},tN days last l=true->∀d∈l,last<d
 |[],_,_,_,h=>by cases h
 |x::l,last,h,d,hd=>by
  simp only[tN,bP,iV,decide_eq_false_iff_not]at h;rcases dI.1 hd with rfl|hd
  .omega
  .have:=Om h.2.2 d hd;omega
theorem Cr{days:Int}:∀{l:List Int}{last:Int},tN days last l=true->l.Pairwise (·<=·)
 |[],_,_=>List.Pairwise.nil
 |x::l,last,h=>by
  simp only[tN,bP,iV,decide_eq_false_iff_not]at h;exact List.Pairwise.cons (λd hd=>by have:=Om h.2.2 d hd;omega) (Cr h.2.2)
theorem KO{days:Int}:∀{l:List Int}{last:Int},tN days last l=true->l=[]\/(l.length:Int)<=days - last - 1
 |[],_,_=>.inl rfl
 |x::l,last,h=>by
  simp only[tN,bP,iV,decide_eq_false_iff_not]at h;right;rcases KO h.2.2 with rfl|h2
  .simp;omega
  .simp only[iN];omega
structure Needs(C:aB)(s:ak):Prop where
 hin:∀k∈C.clauses,∀c∈k.start,0<=c.clause/\c.clause<C.clauses.length
 hro:∀k∈C.clauses,k.kind≠4->0<=k.role/\k.role<s.aj.length
 hki:∀k∈C.clauses,1<=k.kind/\k.kind<=4
 hof:C.off.Pairwise (·<=·)
 hol:C.off.length<4611686018427387904
 hd0:0<=s.day
 hd1:s.day<=1000000
 hle:∀m∈s.marks,m.runs=true->1<=m.left/\m.left<=1000000
 hgo:∀m∈s.marks,m.runs=true->0<=m.got/\m.got<=1000000
 lh:s.aj.length<=12
 lu:s.used.length<=60
 lm:s.marks.length<=400
theorem bR.needs{C:aB}{s:ak}(h:bR C s):Needs C s:=by
 have hC:=aB.ok h.con;have hcl:∀k∈C.clauses,∃i,sH C i k:=λk hk=>by
  obtain⟨i,hi⟩:=j3.1 hk;exact⟨i,hC.clause hi⟩
 have hmk:∀m∈s.marks,∃i k,sH C i k/\dN C k m:=λm hm=>by
  obtain⟨i,hi⟩:=j3.1 hm;have hil:i<C.clauses.length:=by rw[<-h.lm];exact(bC.1 hi).1
  exact⟨i,_,hC.clause (aW hil),h.marks i m _ hi (aW hil)⟩
 refine⟨?_,?_,?_,Cr hC.off,?_,h.U0,?_,?_,?_,?_,?_,?_⟩
 .intro k hk c hc
  obtain⟨i,hi⟩:=hcl k hk;have:=hi.start c hc;exact⟨this.1,this.2.1⟩
 .intro k hk h4
  obtain⟨i,hi⟩:=hcl k hk;have:=hi.role h4;have:=h.lh;omega
 .intro k hk
  obtain⟨i,hi⟩:=hcl k hk;exact⟨hi.afO,hi.afP⟩
 .have:=hC.aby
  rcases KO hC.off with h1|h1
  .rw[h1];decide
  .omega
 .have:=h.XH;have:=hC.aby;omega
 .intro m hm hr
  obtain⟨i,k,hk,hmo⟩:=hmk m hm;have a1:=hk.XF;have a2:=hk.XG;rw[pY]at hr;rcases hmo with⟨h0,_⟩|⟨h1,_,h2,_⟩|⟨h0,_⟩<;>omega
 .intro m hm hr
  obtain⟨i,k,hk,hmo⟩:=hmk m hm;have:=hmo.got hk;omega
 .have:=h.lh;have:=hC.Rb;omega
 .have:=h.lu;have:=hC.KN;omega
 .have:=h.lm;have:=hC.Hl;omega
end Go.Proofs.YtpmdedcnbockhaaGreatDoor
