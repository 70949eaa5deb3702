/-
  CsG; CsH; CsV
-/
import Derived.Test.YtpmdedcnbockhaaGreatDoorM06
import Derived.Test.YtpmdedcnbockhaaGreatDoorM08
import Derived.Test.YtpmdedcnbockhaaGreatDoorM02
set_option maxRecDepth 100000
set_option maxHeartbeats 8000000
namespace Go.Proofs.YtpmdedcnbockhaaGreatDoor
section
open Go.RowKit
theorem XE(a b:aP)(w:World):Calls Tryz.prog 34 #[.agg #[.int .i64 a.ref,.int .i64 a.next],.agg #[.int .i64 b.ref,.int .i64 b.next]] w (dX (.int .i64 (Dn a b)) w):=by
 obtain⟨ar,an⟩:=a;obtain⟨br,bn⟩:=b;simp only[Dn];have HO:=ah (λz:World=>ZN z.heap.size (lG ar br) (lG an bn) (z.alloc (.cells #[.int .i64 (lG ar br),.int .i64 (lG an bn)] 3)) ((aL _ _ 0 _ _ _ (bQ z _)).trans rfl) ((aL _ _ 1 _ _ _ (bQ z _)).trans rfl));have AB:=ah (λW:World=>yF ar br W);have LD:=ah (λW:World=>yF an bn W);generalize hx:lG ar br=x at HO AB⊢;generalize hy:lG an bn=y at HO LD⊢;generalize hE:cond (x==0) y x=E at HO⊢;clear hx hy hE;go_enter Tryz.func34,Tryz.ntmps34;go_upto_region 1 with(fail)
 generalize hW0:World.alloc _ _=W0;obtain⟨HB,hh0,iU⟩:=Ko hW0;clear hW0;obtain⟨j5,j6⟩:=kc2 hh0;clear hh0;obtain⟨qW,qX⟩:=kc2 iU;clear iU;change Code.wp _ _ _ _ (Bl.val (⟨W0,aC _ _⟩:Bl W0));generalize(⟨W0,aC _ _⟩:Bl W0)=s0;refine nP 10 (by simp) (by kernel_rfl) (by kernel_rfl) ?_;simp only[fP,bX,fZ,bY];repeat(go_big_quiet_step (first|(go_at_call_of 60 (Value.int IntKind.i64 ar);exact Calls.dw (AB.out _))|(go_at_call_of 60 (Value.int IntKind.i64 an);exact Calls.dw (LD.out _))))
 refine aS ?_;rintro _ ⟨s1,rfl⟩;gi_wp2_with (fail);refine⟨trivial,rfl,(b_.2 (HO.out _)).mono ?_⟩;rintro e z ⟨rfl,hz⟩;gi_wp2;go_wp2;go_ret;exact⟨rfl,ay HB.out (ay s1.prop (ay (aN (aC _ _) _) hz))⟩
theorem lt_of_cell{w:World}{b i:Nat}{u:Value}(h:w.cell? ⟨b,i,none⟩=some u):b<w.heap.size:=World.block_lt_of_cell? w ⟨b,i,none⟩ h
theorem Q9(re ac lo hi fi:Int)(se:Bool)(p:Nat)(r:Int)(w:World)(hp:w.cell? ⟨p,0,none⟩=some (.int .i64 r)):Calls Tryz.prog 59 #[.agg #[.int .i64 re,.int .i64 ac,.int .i64 lo,.int .i64 hi,.int .i64 fi,.bool se],.pointer (some ⟨p,0,none⟩)] w (dX (.int .i64 (lG re r)) w):=by
 have hpl:p<w.heap.size:=lt_of_cell hp;have HC:=ah (λW:World=>yF re r W);generalize lG re r=y at HC⊢;go_enter Tryz.func59,Tryz.ntmps59;go_upto_region 1 with(fail)
 generalize hW0:World.alloc _ _=W0;obtain⟨HB,hh0⟩:=bx1 hW0;clear hW0;obtain⟨j5,j6,kE,lg,lq,l7⟩:=kc6 hh0;clear hh0;change Code.wp _ _ _ _ (Bl.val (⟨W0,aC _ _⟩:Bl W0));generalize(⟨W0,aC _ _⟩:Bl W0)=s0;have k2:∀z:Bl W0,z.val.cell? ⟨p,0,none⟩=some (.int .i64 r):=λz=>((ay HB.out z.prop).cell (p:=⟨p,0,none⟩) hpl).trans hp;go_wp2_with (go_at_call 60;refine(HC.out _).mono ?_;rintro e z ⟨rfl,hz⟩;obtain⟨z,rfl⟩:=Bl.on hz;clear hz;refine Hid.out ?_);refine ah ?_;go_wp2;go_ret;exact⟨rfl,ay HB.out (Bl.prop _)⟩
theorem Q_(re ac lo hi fi:Int)(se:Bool)(q p:Nat)(t r:Int)(w:World)(hq:w.cell? ⟨q,0,none⟩=some (.func (.func 59) #[] #[.pointer (some ⟨p,0,none⟩)]))(hp:w.cell? ⟨p,0,none⟩=some (.int .i64 r)):Calls Tryz.prog 91 #[.agg #[.int .i64 re,.int .i64 ac,.int .i64 lo,.int .i64 hi,.int .i64 fi,.bool se],.int .i64 t,.pointer (some ⟨q,0,none⟩)] w (dX (.int .i64 (lG re r)) w):=by
 have hpl:p<w.heap.size:=lt_of_cell hp;have Xx:q<w.heap.size:=lt_of_cell hq;have ZY:Hid (∀z:World,Below w.heap.size w z->Calls Tryz.prog 59 #[.agg #[.int .i64 re,.int .i64 ac,.int .i64 lo,.int .i64 hi,.int .i64 fi,.bool se],.pointer (some ⟨p,0,none⟩)] z (dX (.int .i64 (lG re r)) z)):=λz hz=>Q9 re ac lo hi fi se p r z ((hz.cell (p:=⟨p,0,none⟩) hpl).trans hp);generalize lG re r=y at ZY⊢;go_enter Tryz.func91,Tryz.ntmps91;go_upto_region 1 with(fail)
 generalize hW0:World.alloc _ _=W0;obtain⟨HB,hh0⟩:=bx1 hW0;clear hW0;obtain⟨j5,j6,kE,lg,lq,l7⟩:=kc6 hh0;clear hh0;change Code.wp _ _ _ _ (Bl.val (⟨W0,aC _ _⟩:Bl W0));generalize(⟨W0,aC _ _⟩:Bl W0)=s0;have k2:∀z:Bl W0,z.val.cell? ⟨q,0,none⟩=some (.func (.func 59) #[] #[.pointer (some ⟨p,0,none⟩)]):=λz=>((ay HB.out z.prop).cell (p:=⟨q,0,none⟩) Xx).trans hq;have HC:=ah (λz:Bl W0=>ZY.out z.val (ay HB.out z.prop));go_wp2_with (go_at_call 59;refine(HC.out _).mono ?_;rintro e z ⟨rfl,hz⟩;obtain⟨z,rfl⟩:=Bl.on hz;clear hz;refine Hid.out ?_);refine ah ?_;go_wp2;go_ret;exact⟨rfl,ay HB.out (Bl.prop _)⟩
def jc(F:List au)(r:Int):Bool:=F.any (λx=>x.ref==r)
theorem UQ{F:List au}{r:Int}{i:Nat}(hd:aT F)(h1:∀(k:Nat)(x:au),k<i->F[k]?=some x->x.ref<r)(h2:∀(k:Nat)(x:au),i<=k->F[k]?=some x->r<=x.ref):jc F r=(match F[i]? with|some x=>x.ref==r|none=>false):=by
 unfold jc;cases e:F[i]? with
 |none=>
  simp only;rw[List.any_eq_false];intro x hx;obtain⟨k,hk⟩:=wZ hx;have:k<i:=by
   have a1:=List.getElem?_eq_none_iff.1 e;have a2:=(bC.1 hk).1;omega
  have:=h1 k x this hk;simp only[beq_iff_eq];omega
 |some y=>
  simp only;cases q:(y.ref==r)with
  |true=>rw[List.any_eq_true];exact⟨y,bT e,q⟩
  |false=>
   rw[beq_eq_false_iff_ne]at q;rw[List.any_eq_false];intro x hx;obtain⟨k,hk⟩:=wZ hx;simp only[beq_iff_eq];intro hr;rcases Nat.lt_trichotomy k i with c|c|c
   .have:=h1 k x c hk;omega
   .subst c;rw[e]at hk;cases hk;exact q hr
   .have a1:=h2 i y (bJ _) e
    obtain⟨b1,b2⟩:=bC.1 e;obtain⟨b3,b4⟩:=bC.1 hk;have a2:=(Eh.1 hd) i k (by rw[dS];exact b1) (by rw[dS];exact b3) c;rw[List.getElem_map,List.getElem_map,b2,b4]at a2;omega
theorem UR{W:World}{b o:Nat}{L:List Value}{a0 a1 a2 a3 a4 a5:Value}(h:∀z,Below W.heap.size W z->∀j,j<6->z.cell? ⟨b,o+j,none⟩=L[j]?)(e:L=[a0,a1,a2,a3,a4,a5]):(∀z:Bl W,z.val.cell? ⟨b,o,none⟩=some a0)/\(∀z:Bl W,z.val.cell? ⟨b,o+1,none⟩=some a1)/\(∀z:Bl W,z.val.cell? ⟨b,o+2,none⟩=some a2)/\(∀z:Bl W,z.val.cell? ⟨b,o+3,none⟩=some a3)/\(∀z:Bl W,z.val.cell? ⟨b,o+4,none⟩=some a4)/\(∀z:Bl W,z.val.cell? ⟨b,o+5,none⟩=some a5):=by
 subst e;exact⟨λz=>h z.val z.prop 0 (by omega),λz=>h z.val z.prop 1 (by omega),λz=>h z.val z.prop 2 (by omega),λz=>h z.val z.prop 3 (by omega),λz=>h z.val z.prop 4 (by omega),λz=>h z.val z.prop 5 (by omega)⟩
def DC(b:Bool)(w:World)(e:Ending)(w':World):Prop:=∃n:Int,e= .returned (.tuple #[.int .i64 n,.bool b])/\Below w.heap.size w w'
theorem Oi(F:List au)(A:Option Addr)(c:Nat)(q p:Nat)(r:Int)(w:World)(hA:At w 6 A F.length c (bE F))(hn:F.length<=1000000)(hd:aT F)(hq:w.cell? ⟨q,0,none⟩=some (.func (.func 59) #[] #[.pointer (some ⟨p,0,none⟩)]))(hp:w.cell? ⟨p,0,none⟩=some (.int .i64 r)):
 Calls Tryz.prog 90 #[.slice A F.length c,.int .i64 0,.func (.func 91) #[] #[.pointer (some ⟨q,0,none⟩)]] w (DC (jc F r) w):=by
 have hpl:p<w.heap.size:=lt_of_cell hp;have Xx:q<w.heap.size:=lt_of_cell hq;have HC:=ah (λ(x:au)(z:Bl w)=>Q_ x.ref x.act x.low x.high x.filed x.secret q p 0 r z.val ((z.prop.cell (p:=⟨q,0,none⟩) Xx).trans hq) ((z.prop.cell (p:=⟨p,0,none⟩) hpl).trans hp));have HA:=ah hA;clear hA;have HD:=ah hd;clear hd;clear hp hq;generalize hE:jc F r=E;have HE:=ah hE;clear hE;go_enter Tryz.func90,Tryz.ntmps90;go_wp2
 go_loopg [9,10] F.length (λgk v9 v10 wr=>∃(i j:Nat)(z:Bl w),gk=j - i/\i<=j/\j<=F.length/\v9= .int .i64 i/\v10= .int .i64 j/\wr=z.val/\Hid (∀(k:Nat)(x:au),k<i->F[k]?=some x->x.ref<r)/\Hid (∀(k:Nat)(x:au),j<=k->F[k]?=some x->r<=x.ref))
 case atStart=>exact⟨0,F.length,⟨w,aC _ _⟩,rfl,by omega,bJ _,rfl,rfl,rfl,λk x h=>by omega,λk x h hk=>by have:=(bC.1 hk).1;omega⟩
 case round=>
  obtain⟨i,j,z,eZ,hij,hjn,rfl,rfl,rfl,hlo,hhi⟩:=hrel;have iL:=ah eZ;clear eZ;by_cases hlt:i<j
  .have j1:(i:Int)<(j:Int):=by omega
   obtain⟨h,hh⟩:∃h:Nat,h=(i+j)/2:=⟨_,rfl⟩;have hhj:h<j:=by omega
   have hih:i<=h:=by omega
   obtain⟨b,off,jB,hbl,hcell⟩:=HA.out.fact (by omega);subst jB;obtain⟨x,hx⟩:∃x,F[h]?=some x:=⟨F[h]'(by omega),aW _⟩;obtain⟨e0,e1,e2,e3,e4,e5⟩:=UR (λz hz=>hcell h x hx z hz) rfl;clear hcell;have hv:((i:Int)+(j:Int))/2=(h:Int):=by omega
   clear hh;have HX:=ah hx;clear hx;have iU:(h:Int)<(F.length:Int):=by omega
   have HQ:=ah (LU x.ref r);have AB:=ah (HC.out x);generalize lG x.ref r=y at AB HQ;cases q:decide (y<0)with
   |true=>
    rw[decide_eq_true_eq]at q;have hlt2:x.ref<r:=HQ.out.1 q;have Oj:=ah hlt2;clear hlt2;have q2:decide (y<0)=true:=by simpa using q
    go_wp2_with (go_at_call 91;refine(AB.out _).mono ?_;rintro e z1 ⟨rfl,hz⟩;obtain⟨z1,rfl⟩:=Bl.on hz;clear hz;refine Hid.out ?_);refine ah ?_;go_wp2
    go_roundg (j - (h+1))
    case measure=>have:=iL.out;omega
    case rel=>exact⟨h+1,j,z1,rfl,by omega,hjn,by go_num,rfl,rfl,λk u hk hu=>by
     obtain⟨b1,b2⟩:=bC.1 hu;obtain⟨b3,b4⟩:=bC.1 HX.out;have h9:=Oj.out;by_cases e:k=h
     .subst e;rw[HX.out]at hu;cases hu;exact h9
     .have a2:=(Eh.1 HD.out) k h (by rw[dS];exact b1) (by rw[dS];exact b3) (by omega)
      rw[List.getElem_map,List.getElem_map,b2,b4]at a2;omega,hhi.out⟩
   |false=>
    rw[decide_eq_false_iff_not]at q;have hge:r<=x.ref:=by have:=HQ.out.2;omega
    have HGE:=ah hge;clear hge;have q2:decide (y<0)=false:=by simpa using q
    go_wp2_with (go_at_call 91;refine(AB.out _).mono ?_;rintro e z1 ⟨rfl,hz⟩;obtain⟨z1,rfl⟩:=Bl.on hz;clear hz;refine Hid.out ?_);refine ah ?_;go_wp2
    go_roundg (h - i)
    case measure=>have:=iL.out;omega
    case rel=>exact⟨i,h,z1,rfl,hih,by omega,rfl,by go_num,rfl,hlo.out,λk u hk hu=>by
     obtain⟨b1,b2⟩:=bC.1 hu;obtain⟨b3,b4⟩:=bC.1 HX.out;have h9:=HGE.out;by_cases e:k=h
     .subst e;rw[HX.out]at hu;cases hu;exact h9
     .have a2:=(Eh.1 HD.out) h k (by rw[dS];exact b3) (by rw[dS];exact b1) (by omega)
      rw[List.getElem_map,List.getElem_map,b2,b4]at a2;omega⟩
  .obtain rfl:i=j:=by omega
   have hr:=UQ HD.out hlo.out hhi.out;have HR:=ah hr;clear hr;by_cases hn2:i<F.length
   .have j1:(i:Int)<(F.length:Int):=by omega
    obtain⟨b,off,jB,hbl,hcell⟩:=HA.out.fact (by omega);subst jB;obtain⟨x,hx⟩:∃x,F[i]?=some x:=⟨F[i],aW hn2⟩;obtain⟨e0,e1,e2,e3,e4,e5⟩:=UR (λz hz=>hcell i x hx z hz) rfl;clear hcell;have HQ:Hid (E=(lG x.ref r==0)):=by show _=_;rw[<-HE.out,HR.out,hx,Tf]
    clear hx;have AB:=ah (HC.out x);generalize lG x.ref r=y at AB HQ;clear HR HE;cases q:(y==0)with
    |true=>
     obtain rfl:E=true:=by rw[HQ.out,q]
     clear HQ;go_wp2_with (go_at_call 91;refine(AB.out _).mono ?_;rintro e z1 ⟨rfl,hz⟩;obtain⟨z1,rfl⟩:=Bl.on hz;clear hz;refine Hid.out ?_);refine ah ?_;go_wp2
     go_ret2
     exact⟨_,rfl,Bl.prop _⟩
    |false=>
     obtain rfl:E=false:=by rw[HQ.out,q]
     clear HQ;go_wp2_with (go_at_call 91;refine(AB.out _).mono ?_;rintro e z1 ⟨rfl,hz⟩;obtain⟨z1,rfl⟩:=Bl.on hz;clear hz;refine Hid.out ?_);refine ah ?_;go_wp2
     go_ret2
     exact⟨_,rfl,Bl.prop _⟩
   .obtain rfl:E=false:=by rw[<-HE.out,HR.out,nH (by omega)]
    have j1:decide ((i:Int)<(F.length:Int))=false:=by rw[decide_eq_false_iff_not];omega
    clear HR HE;go_wp2
    go_ret2
    exact⟨_,rfl,Bl.prop _⟩
end
section
open Go.RowKit
theorem UU(F:List au)(A:Option Addr)(c:Nat)(p:Nat)(r:Int)(w:World)(hA:At w 6 A F.length c (bE F))(hn:F.length<=1000000)(hd:aT F)(hp:w.cell? ⟨p,0,none⟩=some (.int .i64 r)):
 Calls Tryz.prog 58 #[.slice A F.length c,.func (.func 59) #[] #[.pointer (some ⟨p,0,none⟩)]] w (DC (jc F r) w):=by
 have hpl:p<w.heap.size:=lt_of_cell hp;have HA:=ah hA;clear hA;have HD:=ah hd;clear hd;have HP:=ah hp;clear hp;go_enter Tryz.func58,Tryz.ntmps58;go_upto_region 1 with(fail)
 generalize hW0:World.alloc _ _=W0;obtain⟨HB,hh0⟩:=bx1 hW0;clear hW0;have k0:=cO (i:=0) hh0 rfl;clear hh0;change Code.wp _ _ _ _ (Bl.val (⟨W0,aC _ _⟩:Bl W0));generalize(⟨W0,aC _ _⟩:Bl W0)=s0;have Qj:=ah (λz:Bl W0=>Oi F A c w.heap.size p r z.val (HA.out.below (by omega) (ay HB.out z.prop)) hn HD.out (k0 z) (((ay HB.out z.prop).cell (p:=⟨p,0,none⟩) hpl).trans HP.out));go_wp2_with (go_at_call 90;refine(Qj.out _).mono ?_;rintro e z ⟨n,rfl,hz⟩;obtain⟨z,rfl⟩:=Bl.on hz;clear hz;refine Hid.out ?_);refine ah ?_;go_wp2
 go_ret2
 exact⟨_,rfl,ay HB.out (Bl.prop _)⟩
theorem UW(F:List au)(A:Option Addr)(c:Nat)(r:Int)(w:World)(hA:At w 6 A F.length c (bE F))(hn:F.length<=1000000)(hd:aT F):
 Calls Tryz.prog 33 #[.slice A F.length c,.int .i64 r] w (DC (jc F r) w):=by
 have HA:=ah hA;clear hA;have HD:=ah hd;clear hd;go_enter Tryz.func33,Tryz.ntmps33;go_upto_region 1 with(fail)
 generalize hW0:World.alloc _ _=W0;obtain⟨HB,hh0⟩:=bx1 hW0;clear hW0;have k0:=cO (i:=0) hh0 rfl;clear hh0;change Code.wp _ _ _ _ (Bl.val (⟨W0,aC _ _⟩:Bl W0));generalize(⟨W0,aC _ _⟩:Bl W0)=s0;have Qj:=ah (λz:Bl W0=>UU F A c w.heap.size r z.val (HA.out.below (by omega) (ay HB.out z.prop)) hn HD.out (k0 z));go_wp2_with (go_at_call 58;refine(Qj.out _).mono ?_;rintro e z ⟨n,rfl,hz⟩;obtain⟨z,rfl⟩:=Bl.on hz;clear hz;refine Hid.out ?_);refine ah ?_;go_wp2
 go_ret2
 exact⟨_,rfl,ay HB.out (Bl.prop _)⟩
end
open Go.RowKit
def lK(C:aB)(x:au):Bool:=lH C x.ref x.act x.low x.high x.filed
def gI(C:aB):Int->List au->Bool
 |_,[]=>true
 |prev,x::l=>lK C x&&(decide (prev<x.ref)&&gI C x.ref l)
def G6:Option aP->aP->Bool
 |none,_=>true
 |some a,b=>decide (Eu a b)
def mR(F:List au):Option aP->List aP->Bool
 |_,[]=>true
 |p,b::l=>jc F b.ref&&(jc F b.next&&((!(b.ref==b.next))&&(G6 p b&&mR F (some b) l)))
def dU(C:aB)(f:aM):Bool:=C.valid&&((!(decide (f.house<0)||decide (C.aJ<=f.house)))&&((!(decide (4000<(f.facts.length:Int))||decide (4000<(f.orders.length:Int))))&&(gI C 0 f.facts&&mR f.facts none f.orders)))
theorem jQ{C:aB}:∀{prev:Int}{l:List au},gI C prev l=true->∀x∈l,prev<x.ref/\lK C x=true
 |_,[],_,x,hx=>by cases hx
 |prev,y::l,h,x,hx=>by
  simp only[gI,bP,decide_eq_true_eq]at h;rcases dI.1 hx with e|e
  .subst e;exact⟨h.2.1,h.1⟩
  .have:=jQ h.2.2 x e
   exact⟨by omega,this.2⟩
theorem eB{C:aB}:∀{prev:Int}{l:List au},gI C prev l=true->aT l
 |_,[],_=>List.Pairwise.nil
 |prev,y::l,h=>by
  simp only[gI,bP,decide_eq_true_eq]at h;unfold aT;rw[kN,w_];refine⟨λr hr=>?_,eB h.2.2⟩;obtain⟨x,hx,rfl⟩:=dF.1 hr;exact(jQ h.2.2 x hx).1
theorem uK(v:CV)(C:aB)(fv:FV)(f:aM)(w:World)(hC:cK w v C)(hF:dB w fv f):Calls Tryz.prog 12 #[v.val C,fv.val f] w (dX (.bool (dU C f)) w):=by
 obtain⟨⟨g_,h_⟩,⟨ig,iq⟩,⟨jk,gD⟩,⟨iM,gB⟩,⟨gT,gU⟩⟩:=v;obtain⟨⟨fA,fc⟩,⟨oA,oc⟩⟩:=fv;obtain⟨ho,F,O⟩:=f;obtain⟨hl1,hl2⟩:=hF.acG;obtain⟨hl3,hl4⟩:=hF.acH;simp only at hl1 hl2 hl3 hl4;have hfx:F.length<=9223372036854775807:=by omega
 have hox:O.length<=9223372036854775807:=by omega
 have Zl:Hid (At w 6 fA F.length fc (bE F)):=hF.facts;have HOS:Hid (At w 2 oA O.length oc (dM O)):=hF.orders;clear hF;have HC:=ah hC;clear hC;simp only[CV.val,CV.cells,FV.val,FV.cells];generalize hE:dU C ⟨ho,F,O⟩=E;simp only[dU]at hE;have HE:=ah hE;clear hE;go_enter Tryz.func12,Tryz.ntmps12;go_upto_region 1 with(fail)
 generalize hW0:World.alloc _ _=W0;obtain⟨HB,hh0,iU⟩:=Ko hW0;clear hW0;obtain⟨j5,j6,kE,lg,lq,l7,ny⟩:=Jt hh0;clear hh0;obtain⟨qW,qX,sW⟩:=kc3 iU;clear iU;change Code.wp _ _ _ _ (Bl.val (⟨W0,aC _ _⟩:Bl W0));generalize(⟨W0,aC _ _⟩:Bl W0)=s0;have UC:=ah (λz:Bl W0=>wm (⟨⟨g_,h_⟩,⟨ig,iq⟩,⟨jk,gD⟩,⟨iM,gB⟩,⟨gT,gU⟩⟩:CV) C z.val (HC.out.below (ay HB.out z.prop)));simp only[CV.val,CV.cells]at UC;go_wp2_with (go_at_call 31;refine(UC.out _).mono ?_;rintro e z ⟨n,rfl,hz⟩;obtain⟨z,rfl⟩:=Bl.on hz;clear hz;refine Hid.out ?_);refine ah ?_;clear UC;cases hv:C.valid with
 |false=>
  obtain⟨f1,f2⟩:=aB.NC hv;obtain rfl:E=false:=by rw[<-HE.out,hv];rfl
  clear hv;go_wp2;go_ret;exact⟨rfl,ay HB.out (Bl.prop _)⟩
 |true=>
  rw[aB.Kr hv];have HV:=ah hv;clear hv;obtain⟨b1,nC,hE⟩:∃b,Hid ((!(decide (ho<0)||decide (C.aJ<=ho)))=b)/\cond (!(decide (ho<0)||decide (C.aJ<=ho))) true false=b:=⟨_,rfl,(iR _).symm⟩;simp only[Nb]at hE;repeat' (first|(replace hE:=u6 hE (by assumption))|(replace hE:=u_ hE (by assumption))|(replace hE:=mX hE;rcases hE with⟨q,q',hE⟩|⟨q,q',hE⟩)|(replace hE:=jH hE;rcases hE with⟨q,hE⟩|⟨q,hE⟩)|fail)
  all_goals first
   |focus
    obtain rfl:b1=false:=hE.symm;clear hE
    as_aux_lemma=>
     obtain rfl:E=false:=by rw[<-HE.out,HV.out,nC.out];rfl
     go_wp2;go_ret;exact⟨rfl,ay HB.out (Bl.prop _)⟩
   |focus
    obtain rfl:b1=true:=hE.symm;clear hE
    as_aux_lemma=>
     have Jy:=nC;obtain⟨b2,Ju,hE⟩:∃b,Hid ((!(decide (4000<(F.length:Int))||decide (4000<(O.length:Int))))=b)/\cond (!(decide (4000<(F.length:Int))||decide (4000<(O.length:Int)))) true false=b:=⟨_,rfl,(iR _).symm⟩;simp only[Nb]at hE;repeat' (first|(replace hE:=u6 hE (by assumption))|(replace hE:=u_ hE (by assumption))|(replace hE:=mX hE;rcases hE with⟨q,q',hE⟩|⟨q,q',hE⟩)|(replace hE:=jH hE;rcases hE with⟨q,hE⟩|⟨q,hE⟩)|fail)
     all_goals first
      |focus
       obtain rfl:b2=false:=hE.symm;clear hE
       as_aux_lemma=>
        obtain rfl:E=false:=by rw[<-HE.out,HV.out,Jy.out,Ju.out];rfl
        go_wp2;go_ret;exact⟨rfl,ay HB.out (Bl.prop _)⟩
      |focus
       obtain rfl:b2=true:=hE.symm;clear hE
       as_aux_lemma=>
        have L8:=Ju;go_wp2
        go_loopg [47] F.length (λgk v47 wr=>∃(j:Nat)(prev:Int)(z:Bl W0),gk=F.length - j/\j<=F.length/\v47= .int .i64 j/\wr=z.val/\Hid ((j=0/\prev=0)\/∃(i:Nat)(y:au),j=i+1/\F[i]?=some y/\y.ref=prev)/\Hid (gI C 0 F=gI C prev (F.drop j)))
        case atStart=>exact⟨0,0,_,rfl,aZ _,rfl,rfl,.inl ⟨rfl,rfl⟩,rfl⟩
        case round=>
         obtain⟨j,prev,z,eZ,hj,rfl,rfl,hlast,hpre⟩:=hrel;have iL:=ah eZ;clear eZ;by_cases hlt:j<F.length
         .obtain⟨fb,fo,jB,hfb,hcell⟩:=Zl.out.fact (by omega)
          subst jB;obtain⟨⟨re,ac,lo,hi,fi,se⟩,hx⟩:∃x,F[j]?=some x:=⟨F[j],aW hlt⟩;obtain⟨e0,e1,e2,e3,e4,e5⟩:=UR (λz hz=>hcell j _ hx z (ay HB.out hz)) rfl;have HST:Hid (gI C 0 F=(lK C ⟨re,ac,lo,hi,fi,se⟩&&(decide (prev<re)&&gI C re (F.drop (j+1))))):=by show _=_;rw[hpre.out,Gl hx];rfl
          have HX:=ah hx;clear hx;have j1:(j:Int)<(F.length:Int):=by omega
          go_upto_region 9 with(fail)
          generalize hWa:World.alloc _ _=Wa;obtain⟨hba,hxa⟩:=bx1' hWa;clear hWa;have ql:Hid (Below W0.heap.size W0 Wa):=ay z.prop hba;obtain⟨d0,d1,d2,d3,d4,d5⟩:=kc6 hxa;have c0:=xE ql.out j5;have c1:=xE ql.out j6;have c2:=xE ql.out kE;have c3:=xE ql.out lg;have c4:=xE ql.out lq;have c5:=xE ql.out l7;have c6:=xE ql.out ny;have h0:=xE ql.out qW;have h1:=xE ql.out qX;have h2:=xE ql.out sW;clear hxa hba;change Code.wp _ _ _ _ (Bl.val (⟨Wa,aC _ _⟩:Bl Wa));generalize(⟨Wa,aC _ _⟩:Bl Wa)=sa;have L9:=ah (λs:Bl Wa=>JY (⟨⟨g_,h_⟩,⟨ig,iq⟩,⟨jk,gD⟩,⟨iM,gB⟩,⟨gT,gU⟩⟩:CV) C re ac lo hi fi se s.val);simp only[CV.val,CV.cells]at L9;clear e0 e1 e2 e3 e4 e5 j5 j6 kE lg lq l7 ny qW qX sW;rcases hlast.out with⟨hj0,hp0⟩|⟨i,y,rfl,hy,rfl⟩
          .have q4:decide ((0:Int)<(j:Int))=false:=by rw[decide_eq_false_iff_not];omega
           have q5:decide (0<j)=false:=by rw[decide_eq_false_iff_not];omega
           have q6:¬(0:Int)<(j:Int):=by omega
           have q7:¬0<j:=by omega
           have hpv:0=prev:=hp0.symm;subst hpv;clear hj0 hlast hcell;cases q1:lK C ⟨re,ac,lo,hi,fi,se⟩with
           |false=>
            obtain rfl:E=false:=by rw[<-HE.out,HV.out,Jy.out,L8.out,HST.out,q1];rfl
            have Xc:lH C re ac lo hi fi=false:=q1;rw[Xc]at L9;go_wp2;refine aI (by kernel_rfl) (by kernel_rfl) ?_;repeat(go_big_quiet_step (first|(go_at_call 32;exact Calls.dw (lit (L9.out _) (by assumption)))|(go_at_call 32;exact Calls.dw (L9.out _))))
            refine aS ?_;rintro _ ⟨zq,rfl⟩;go_wp2;go_ret;exact⟨rfl,ay HB.out (ay ql.out (Bl.prop _))⟩
           |true=>
            have Xc:lH C re ac lo hi fi=true:=q1;rw[Xc]at L9;clear Xc;have q3:decide ((0:Int)<re)=true:=by
             rw[decide_eq_true_eq];have h:=q1;unfold lK lH at h;simp only[bP,decide_eq_true_eq]at h;omega
            have JI:=ah q3;have xW:=ah q1;clear q3 q1;have BA:Hid (gI C 0 F=gI C re (F.drop (j+1))):=by show _=_;rw[HST.out,xW.out,JI.out];rfl
            go_wp2;refine aI (by kernel_rfl) (by kernel_rfl) ?_;repeat(go_big_quiet_step (first|(go_at_call 32;exact Calls.dw (lit (L9.out _) (by assumption)))|(go_at_call 32;exact Calls.dw (L9.out _))))
            refine aS ?_;rintro _ ⟨zq,rfl⟩;go_wp2
            go_roundg (F.length - (j+1))
            case measure=>have:=iL.out;omega
            case rel=>exact⟨j+1,re,⟨_,ay ql.out (Bl.prop _)⟩,rfl,by omega,by go_num,rfl,.inr ⟨j,_,rfl,HX.out,rfl⟩,BA.out⟩
          .have g0:∀s:Bl Wa,s.val.cell? ⟨fb,fo+i*6,none⟩=some (.int .i64 y.ref):=λs=>hcell i y hy s.val (ay (ay HB.out ql.out) s.prop) 0 (by omega)
           have q4:decide ((0:Int)<((i+1:Nat):Int))=true:=by rw[decide_eq_true_eq];omega
           have q5':((i+1:Nat):Int) - 1=(i:Int):=by omega
           have i1:(i:Int)<(F.length:Int):=by omega
           clear hy hlast hcell;generalize y.ref=prev at HST g0;cases q1:lK C ⟨re,ac,lo,hi,fi,se⟩with
           |false=>
            obtain rfl:E=false:=by rw[<-HE.out,HV.out,Jy.out,L8.out,HST.out,q1];rfl
            have Xc:lH C re ac lo hi fi=false:=q1;rw[Xc]at L9;go_wp2;refine aI (by kernel_rfl) (by kernel_rfl) ?_;repeat(go_big_quiet_step (first|(go_at_call 32;exact Calls.dw (lit (L9.out _) (by assumption)))|(go_at_call 32;exact Calls.dw (L9.out _))))
            refine aS ?_;rintro _ ⟨zq,rfl⟩;go_wp2;go_ret;exact⟨rfl,ay HB.out (ay ql.out (Bl.prop _))⟩
           |true=>
            have Xc:lH C re ac lo hi fi=true:=q1;rw[Xc]at L9;clear Xc;have xW:=ah q1;clear q1;cases q3:decide (prev<re)with
            |true=>
             have q5:decide (re<=prev)=false:=by rw[decide_eq_true_eq]at q3;rw[decide_eq_false_iff_not];omega
             have BA:Hid (gI C 0 F=gI C re (F.drop (i+1+1))):=by show _=_;rw[HST.out,xW.out,q3];rfl
             go_wp2;refine aI (by kernel_rfl) (by kernel_rfl) ?_;repeat(go_big_quiet_step (first|(go_at_call 32;exact Calls.dw (lit (L9.out _) (by assumption)))|(go_at_call 32;exact Calls.dw (L9.out _))))
             refine aS ?_;rintro _ ⟨zq,rfl⟩;go_wp2
             go_roundg (F.length - (i+1+1))
             case measure=>have:=iL.out;omega
             case rel=>exact⟨i+1+1,re,⟨_,ay ql.out (Bl.prop _)⟩,rfl,by omega,by go_num,rfl,.inr ⟨i+1,_,rfl,HX.out,rfl⟩,BA.out⟩
            |false=>
             have q5:decide (re<=prev)=true:=by rw[decide_eq_false_iff_not]at q3;rw[decide_eq_true_eq];omega
             obtain rfl:E=false:=by rw[<-HE.out,HV.out,Jy.out,L8.out,HST.out,xW.out,q3];rfl
             go_wp2;refine aI (by kernel_rfl) (by kernel_rfl) ?_;repeat(go_big_quiet_step (first|(go_at_call 32;exact Calls.dw (lit (L9.out _) (by assumption)))|(go_at_call 32;exact Calls.dw (L9.out _))))
             refine aS ?_;rintro _ ⟨zq,rfl⟩;go_wp2;go_ret;exact⟨rfl,ay HB.out (ay ql.out (Bl.prop _))⟩
         .obtain rfl:j=F.length:=by omega
          have Ww:Hid (gI C 0 F=true):=by show _=_;rw[hpre.out,List.drop_of_length_le (bJ _)];rfl
          clear hpre hlast iL;have HD:Hid (aT F):=eB Ww.out;have Tp:F.length<=1000000:=by
           have h:=L8.out;simp only[iV,pQ,decide_eq_false_iff_not]at h;omega
          go_wp2
          go_loopg [76] O.length (λgk v76 wr=>∃(j:Nat)(prev:Option aP)(z:Bl W0),gk=O.length - j/\j<=O.length/\v76= .int .i64 j/\wr=z.val/\Hid ((j=0/\prev=none)\/∃(i:Nat)(a:aP),j=i+1/\O[i]?=some a/\prev=some a)/\Hid (mR F none O=mR F prev (O.drop j)))
          case atStart=>exact⟨0,none,_,rfl,aZ _,rfl,rfl,.inl ⟨rfl,rfl⟩,rfl⟩
          case round=>
           obtain⟨j,prev,z,eZ,hj,rfl,rfl,hlast,hpre⟩:=hrel;have iL:=ah eZ;clear eZ;by_cases hlt:j<O.length
           .obtain⟨ob,oo,jB,hob,hcell⟩:=HOS.out.vI (by omega)
            subst jB;obtain⟨⟨br,bn⟩,hx⟩:∃x,O[j]?=some x:=⟨O[j],aW hlt⟩;have e0:∀s:Bl W0,s.val.cell? ⟨ob,oo+j*2,none⟩=some (.int .i64 br):=λs=>hcell j _ hx s.val (ay HB.out s.prop) 0 (by omega);have e1:∀s:Bl W0,s.val.cell? ⟨ob,oo+j*2+1,none⟩=some (.int .i64 bn):=λs=>hcell j _ hx s.val (ay HB.out s.prop) 1 (by omega);have HST:Hid (mR F none O=(jc F br&&(jc F bn&&((!(br==bn))&&(G6 prev ⟨br,bn⟩&&mR F (some ⟨br,bn⟩) (O.drop (j+1))))))):=by show _=_;rw[hpre.out,Gl hx];rfl
            have HX:=ah hx;clear hx;have j1:(j:Int)<(O.length:Int):=by omega
            go_upto_region 15 with(fail)
            generalize hWa:World.alloc _ _=Wa;obtain⟨hba,hxa⟩:=bx1' hWa;clear hWa;have ql:Hid (Below W0.heap.size W0 Wa):=ay z.prop hba;obtain⟨d0,d1⟩:=kc2 hxa;have c0:=xE ql.out j5;have c1:=xE ql.out j6;have c2:=xE ql.out kE;have c3:=xE ql.out lg;have c4:=xE ql.out lq;have c5:=xE ql.out l7;have c6:=xE ql.out ny;have h0:=xE ql.out qW;have h1:=xE ql.out qX;have h2:=xE ql.out sW;clear hxa hba;change Code.wp _ _ _ _ (Bl.val (⟨Wa,aC _ _⟩:Bl Wa));generalize(⟨Wa,aC _ _⟩:Bl Wa)=sa;have Z0:=ah (λ(r:Int)(s:Bl Wa)=>UW F fA fc r s.val (Zl.out.below (by omega) (ay (ay HB.out ql.out) s.prop)) Tp HD.out);clear e0 e1 j5 j6 kE lg lq l7 ny qW qX sW;go_wp2_with (go_at_call 33;refine(Z0.out br _).mono ?_;rintro e z ⟨n,rfl,hz⟩;obtain⟨z,rfl⟩:=Bl.on hz;clear hz;refine Hid.out ?_);refine ah ?_;go_wp2_with (go_at_call 33;refine(Z0.out bn _).mono ?_;rintro e z ⟨n,rfl,hz⟩;obtain⟨z,rfl⟩:=Bl.on hz;clear hz;refine Hid.out ?_);refine ah ?_;clear Z0;rcases hlast.out with⟨hj0,rfl⟩|⟨i,a,rfl,ha,rfl⟩
            .have p4:decide ((0:Int)<(j:Int))=false:=by rw[decide_eq_false_iff_not];omega
             have p5:decide (0<j)=false:=by rw[decide_eq_false_iff_not];omega
             have p6:¬(0:Int)<(j:Int):=by omega
             have p7:¬0<j:=by omega
             clear hj0 hlast hcell
             focus
              cases q1:jc F br
              focus
               obtain rfl:E=false:=by rw[<-HE.out,HV.out,Jy.out,L8.out,Ww.out,HST.out,q1];rfl
              rotate_left
              focus
               cases q2:jc F bn
               focus
                obtain rfl:E=false:=by rw[<-HE.out,HV.out,Jy.out,L8.out,Ww.out,HST.out,q1,q2];rfl
               rotate_left
               focus
                cases q3:(br==bn)
                focus
                 have BA:Hid (mR F none O=mR F (some ⟨br,bn⟩) (O.drop (j+1))):=by show _=_;rw[HST.out,q1,q2,q3];rfl
                 go_wp2;refine aI (by kernel_rfl) (by kernel_rfl) ?_;repeat(go_big_quiet_step (first|fail))
                 refine aS ?_;rintro _ ⟨zq,rfl⟩;go_wp2
                 go_roundg (O.length - (j+1))
                 case measure=>have:=iL.out;omega
                 case rel=>exact⟨j+1,some ⟨br,bn⟩,⟨_,ay ql.out (Bl.prop _)⟩,rfl,by omega,by go_num,rfl,.inr ⟨j,_,rfl,HX.out,rfl⟩,BA.out⟩
                focus
                 obtain rfl:E=false:=by rw[<-HE.out,HV.out,Jy.out,L8.out,Ww.out,HST.out,q1,q2,q3];rfl
              all_goals
               go_wp2;refine aI (by kernel_rfl) (by kernel_rfl) ?_;repeat(go_big_quiet_step (first|fail))
               refine aS ?_;rintro _ ⟨zq,rfl⟩;go_wp2;go_ret;exact⟨rfl,ay HB.out (ay ql.out (Bl.prop _))⟩
            .have g0:∀s:Bl Wa,s.val.cell? ⟨ob,oo+i*2,none⟩=some (.int .i64 a.ref):=λs=>hcell i a ha s.val (ay (ay HB.out ql.out) s.prop) 0 (by omega)
             have g1:∀s:Bl Wa,s.val.cell? ⟨ob,oo+i*2+1,none⟩=some (.int .i64 a.next):=λs=>hcell i a ha s.val (ay (ay HB.out ql.out) s.prop) 1 (by omega);have p4:decide ((0:Int)<((i+1:Nat):Int))=true:=by rw[decide_eq_true_eq];omega
             have p5:((i+1:Nat):Int) - 1=(i:Int):=by omega
             have i1:(i:Int)<(O.length:Int):=by omega
             have Z4:=ah (λs:Bl Wa=>XE a ⟨br,bn⟩ s.val);have HY:Hid (decide (0<=Dn a ⟨br,bn⟩)= !G6 (some a) ⟨br,bn⟩):=ZP a ⟨br,bn⟩;generalize Dn a ⟨br,bn⟩=y at Z4 HY;clear ha hlast hcell
             focus
              cases q1:jc F br
              focus
               obtain rfl:E=false:=by rw[<-HE.out,HV.out,Jy.out,L8.out,Ww.out,HST.out,q1];rfl
              rotate_left
              focus
               cases q2:jc F bn
               focus
                obtain rfl:E=false:=by rw[<-HE.out,HV.out,Jy.out,L8.out,Ww.out,HST.out,q1,q2];rfl
               rotate_left
               focus
                cases q3:(br==bn)
                focus
                 cases q4:G6 (some a) ⟨br,bn⟩
                 focus
                  have q5:decide (0<=y)=true:=by rw[HY.out,q4];rfl
                  obtain rfl:E=false:=by rw[<-HE.out,HV.out,Jy.out,L8.out,Ww.out,HST.out,q1,q2,q3,q4];rfl
                 rotate_left
                 focus
                  have q5:decide (0<=y)=false:=by rw[HY.out,q4];rfl
                  have BA:Hid (mR F none O=mR F (some ⟨br,bn⟩) (O.drop ((i+1)+1))):=by show _=_;rw[HST.out,q1,q2,q3,q4];rfl
                  go_wp2;refine aI (by kernel_rfl) (by kernel_rfl) ?_;repeat(go_big_quiet_step (first|(go_at_call 34;exact Calls.dw (lit (Z4.out _) (by assumption)))|(go_at_call 34;exact Calls.dw (Z4.out _))))
                  refine aS ?_;rintro _ ⟨zq,rfl⟩;go_wp2
                  go_roundg (O.length - ((i+1)+1))
                  case measure=>have:=iL.out;omega
                  case rel=>exact⟨(i+1)+1,some ⟨br,bn⟩,⟨_,ay ql.out (Bl.prop _)⟩,rfl,by omega,by go_num,rfl,.inr ⟨(i+1),_,rfl,HX.out,rfl⟩,BA.out⟩
                rotate_left
                focus
                 obtain rfl:E=false:=by rw[<-HE.out,HV.out,Jy.out,L8.out,Ww.out,HST.out,q1,q2,q3];rfl
              all_goals
               go_wp2;refine aI (by kernel_rfl) (by kernel_rfl) ?_;repeat(go_big_quiet_step (first|(go_at_call 34;exact Calls.dw (lit (Z4.out _) (by assumption)))|(go_at_call 34;exact Calls.dw (Z4.out _))))
               refine aS ?_;rintro _ ⟨zq,rfl⟩;go_wp2;go_ret;exact⟨rfl,ay HB.out (ay ql.out (Bl.prop _))⟩
           .obtain rfl:j=O.length:=by omega
            obtain rfl:E=true:=by rw[<-HE.out,HV.out,Jy.out,L8.out,Ww.out,hpre.out,List.drop_of_length_le (bJ _)];rfl
            go_wp2;go_ret;exact⟨rfl,ay HB.out (Bl.prop _)⟩
end Go.Proofs.YtpmdedcnbockhaaGreatDoor
