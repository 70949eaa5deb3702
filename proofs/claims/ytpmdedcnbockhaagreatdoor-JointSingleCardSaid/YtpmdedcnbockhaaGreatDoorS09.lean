/- part -/
import Derived.Test.YtpmdedcnbockhaaGreatDoorS06
import Derived.Test.YtpmdedcnbockhaaGreatDoorS08
import Derived.Test.YtpmdedcnbockhaaGreatDoorS02
set_option maxRecDepth 100000
set_option maxHeartbeats 8000000
namespace Go.Proofs.YtpmdedcnbockhaaGreatDoor
section
open Go.RowKit Tryz
theorem XW(a b:aX)(w:World):Calls prog 34 #[.agg #[.int .i64 a.ref,.int .i64 a.next],.agg #[.int .i64 b.ref,.int .i64 b.next]] w (dZ (.int .i64 (Db a b)) w):=by
 obtain⟨ar,an⟩:=a;obtain⟨br,bn⟩:=b;simp only[Db];have HO:=ah (λz:World=>aah z.heap.size (lK ar br) (lK an bn) (z.alloc (.cells #[.int .i64 (lK ar br),.int .i64 (lK an bn)] 3)) ((aK _ _ 0 _ _ _ (bK z _)).trans rfl) ((aK _ _ 1 _ _ _ (bK z _)).trans rfl));have zm:=ah (λW:World=>xQ ar br W);have Jo:=ah (λW:World=>xQ an bn W);generalize hx:lK ar br=x at HO zm⊢;generalize hy:lK an bn=y at HO Jo⊢;generalize hE:cond (x==0) y x=E at HO⊢;clear hx hy hE;go_enter func34,ntmps34;go_upto_region 1 with(fail)
 generalize hW0:World.alloc _ _=W0;obtain⟨HB,hh0,gG⟩:=F5 hW0;clear hW0;obtain⟨iC,iD⟩:=Ww hh0;clear hh0;obtain⟨jM,jY⟩:=Ww gG;clear gG;change Code.wp _ _ _ _ (Bl.val (⟨W0,aC _ _⟩:Bl W0));generalize(⟨W0,aC _ _⟩:Bl W0)=s0;refine nH 10 ?_;simp only[gF,bW,gI,b_];repeat(go_big_quiet_step (first|(go_at_call_of 60 (Value.int IntKind.i64 ar);exact Calls.dw (zm.out _))|(go_at_call_of 60 (Value.int IntKind.i64 an);exact Calls.dw (Jo.out _))))
 refine aY ?_;rintro _ ⟨s1,rfl⟩;gi_wp2_with (fail);refine⟨trivial,rfl,(fq.2 (HO.out _)).mono ?_⟩;rintro e z ⟨rfl,hz⟩;gi_wp2;go_wp2;go_ret;exact⟨rfl,av HB.out (av s1.prop (av (aJ (aC _ _) _) hz))⟩
theorem lt_of_cell{w:World}{b i:Nat}{u:Value}(h:w.cell? ⟨b,i,none⟩=some u):b<w.heap.size:=World.block_lt_of_cell? w ⟨b,i,none⟩ h
theorem QX(re ac lo hi fi:Int)(se:Bool)(p:Nat)(r:Int)(w:World)(hp:w.cell? ⟨p,0,none⟩=some (.int .i64 r)):Calls prog 59 #[.agg #[.int .i64 re,.int .i64 ac,.int .i64 lo,.int .i64 hi,.int .i64 fi,.bool se],.pointer (some ⟨p,0,none⟩)] w (dZ (.int .i64 (lK re r)) w):=by
 have hpl:p<w.heap.size:=lt_of_cell hp;have HC:=ah (λW:World=>xQ re r W);generalize lK re r=y at HC⊢;go_enter func59,ntmps59;go_upto_region 1 with(fail)
 generalize hW0:World.alloc _ _=W0;obtain⟨HB,hh0⟩:=bx1 hW0;clear hW0;obtain⟨iC,iD,iI,iy,iP,jc⟩:=kc6 hh0;clear hh0;change Code.wp _ _ _ _ (Bl.val (⟨W0,aC _ _⟩:Bl W0));generalize(⟨W0,aC _ _⟩:Bl W0)=s0;have k2:∀z:Bl W0,z.val.cell? ⟨p,0,none⟩=some (.int .i64 r):=λz=>((av HB.out z.prop).cell (p:=⟨p,0,none⟩) hpl).trans hp;go_wp2_with (go_at_call 60;refine(HC.out _).mono ?_;rintro e z ⟨rfl,hz⟩;obtain⟨z,rfl⟩:=Bl.on hz;clear hz;refine Hid.out ?_);refine ah ?_;go_wp2;go_ret;exact⟨rfl,av HB.out (Bl.prop _)⟩
theorem QY(re ac lo hi fi:Int)(se:Bool)(q p:Nat)(t r:Int)(w:World)(hq:w.cell? ⟨q,0,none⟩=some (.func (.func 59) #[] #[.pointer (some ⟨p,0,none⟩)]))(hp:w.cell? ⟨p,0,none⟩=some (.int .i64 r)):Calls prog 91 #[.agg #[.int .i64 re,.int .i64 ac,.int .i64 lo,.int .i64 hi,.int .i64 fi,.bool se],.int .i64 t,.pointer (some ⟨q,0,none⟩)] w (dZ (.int .i64 (lK re r)) w):=by
 have hpl:p<w.heap.size:=lt_of_cell hp;have XI:q<w.heap.size:=lt_of_cell hq;have WA:Hid (∀z:World,Below w.heap.size w z->Calls prog 59 #[.agg #[.int .i64 re,.int .i64 ac,.int .i64 lo,.int .i64 hi,.int .i64 fi,.bool se],.pointer (some ⟨p,0,none⟩)] z (dZ (.int .i64 (lK re r)) z)):=λz hz=>QX re ac lo hi fi se p r z ((hz.cell (p:=⟨p,0,none⟩) hpl).trans hp);generalize lK re r=y at WA⊢;go_enter func91,ntmps91;go_upto_region 1 with(fail)
 generalize hW0:World.alloc _ _=W0;obtain⟨HB,hh0⟩:=bx1 hW0;clear hW0;obtain⟨iC,iD,iI,iy,iP,jc⟩:=kc6 hh0;clear hh0;change Code.wp _ _ _ _ (Bl.val (⟨W0,aC _ _⟩:Bl W0));generalize(⟨W0,aC _ _⟩:Bl W0)=s0;have k2:∀z:Bl W0,z.val.cell? ⟨q,0,none⟩=some (.func (.func 59) #[] #[.pointer (some ⟨p,0,none⟩)]):=λz=>((av HB.out z.prop).cell (p:=⟨q,0,none⟩) XI).trans hq;have HC:=ah (λz:Bl W0=>WA.out z.val (av HB.out z.prop));go_wp2_with (go_at_call 59;refine(HC.out _).mono ?_;rintro e z ⟨rfl,hz⟩;obtain⟨z,rfl⟩:=Bl.on hz;clear hz;refine Hid.out ?_);refine ah ?_;go_wp2;go_ret;exact⟨rfl,av HB.out (Bl.prop _)⟩
def kE(F:List ay)(r:Int):Bool:=F.any (λx=>x.ref==r)
theorem UO{F:List ay}{r:Int}{i:Nat}(hd:bF F)(h1:∀(k:Nat)(x:ay),k<i->F[k]?=some x->x.ref<r)(h2:∀(k:Nat)(x:ay),i<=k->F[k]?=some x->r<=x.ref):kE F r=(match F[i]? with|some x=>x.ref==r|none=>false):=by
 unfold kE;cases e:F[i]? with
 |none=>
  simp only;rw[List.any_eq_false];intro x hx;obtain⟨k,hk⟩:=w_ hx;have:k<i:=by
   have a1:=List.getElem?_eq_none_iff.1 e;have a2:=(bB.1 hk).1;omega
  have:=h1 k x this hk;simp only[beq_iff_eq];omega
 |some y=>
  simp only;cases q:(y.ref==r)with
  |true=>rw[List.any_eq_true];exact⟨y,cK e,q⟩
  |false=>
   rw[beq_eq_false_iff_ne]at q;rw[List.any_eq_false];intro x hx;obtain⟨k,hk⟩:=w_ hx;simp only[beq_iff_eq];intro hr;rcases Nat.lt_trichotomy k i with c|c|c
   .have:=h1 k x c hk;omega
   .subst c;rw[e]at hk;cases hk;exact q hr
   .have a1:=h2 i y (bJ _) e
    obtain⟨b1,b2⟩:=bB.1 e;obtain⟨b3,b4⟩:=bB.1 hk;have a2:=(Ea.1 hd) i k (by rw[dU];exact b1) (by rw[dU];exact b3) c;rw[List.getElem_map,List.getElem_map,b2,b4]at a2;omega
theorem UQ{W:World}{b o:Nat}{L:List Value}{a0 a1 a2 a3 a4 a5:Value}(h:∀z,Below W.heap.size W z->∀j,j<6->z.cell? ⟨b,o+j,none⟩=L[j]?)(e:L=[a0,a1,a2,a3,a4,a5]):(∀z:Bl W,z.val.cell? ⟨b,o,none⟩=some a0)/\(∀z:Bl W,z.val.cell? ⟨b,o+1,none⟩=some a1)/\(∀z:Bl W,z.val.cell? ⟨b,o+2,none⟩=some a2)/\(∀z:Bl W,z.val.cell? ⟨b,o+3,none⟩=some a3)/\(∀z:Bl W,z.val.cell? ⟨b,o+4,none⟩=some a4)/\(∀z:Bl W,z.val.cell? ⟨b,o+5,none⟩=some a5):=by
 subst e;exact⟨λz=>h z.val z.prop 0 (by omega),λz=>h z.val z.prop 1 (by omega),λz=>h z.val z.prop 2 (by omega),λz=>h z.val z.prop 3 (by omega),λz=>h z.val z.prop 4 (by omega),λz=>h z.val z.prop 5 (by omega)⟩
def Dr(b:Bool)(w:World)(e:Ending)(w':World):Prop:=∃n:Int,e= .returned (.tuple #[.int .i64 n,.bool b])/\Below w.heap.size w w'
theorem N_(F:List ay)(A:Option Addr)(c:Nat)(q p:Nat)(r:Int)(w:World)(hA:At w 6 A F.length c (bH F))(hn:F.length<=1000000)(hd:bF F)(hq:w.cell? ⟨q,0,none⟩=some (.func (.func 59) #[] #[.pointer (some ⟨p,0,none⟩)]))(hp:w.cell? ⟨p,0,none⟩=some (.int .i64 r)):
 Calls prog 90 #[.slice A F.length c,.int .i64 0,.func (.func 91) #[] #[.pointer (some ⟨q,0,none⟩)]] w (Dr (kE F r) w):=by
 have hpl:p<w.heap.size:=lt_of_cell hp;have XI:q<w.heap.size:=lt_of_cell hq;have HC:=ah (λ(x:ay)(z:Bl w)=>QY x.ref x.act x.low x.high x.filed x.secret q p 0 r z.val ((z.prop.cell (p:=⟨q,0,none⟩) XI).trans hq) ((z.prop.cell (p:=⟨p,0,none⟩) hpl).trans hp));have HA:=ah hA;clear hA;have HD:=ah hd;clear hd;clear hp hq;generalize hE:kE F r=E;have HE:=ah hE;clear hE;go_enter func90,ntmps90;go_wp2
 go_loopg [9,10] F.length (λgk v9 v10 wr=>∃(i j:Nat)(z:Bl w),gk=j - i/\i<=j/\j<=F.length/\v9= .int .i64 i/\v10= .int .i64 j/\wr=z.val/\Hid (∀(k:Nat)(x:ay),k<i->F[k]?=some x->x.ref<r)/\Hid (∀(k:Nat)(x:ay),j<=k->F[k]?=some x->r<=x.ref))
 case atStart=>exact⟨0,F.length,⟨w,aC _ _⟩,rfl,by omega,bJ _,rfl,rfl,rfl,λk x h=>by omega,λk x h hk=>by have:=(bB.1 hk).1;omega⟩
 case round=>
  obtain⟨i,j,z,eO,hij,hjn,rfl,rfl,rfl,hlo,hhi⟩:=hrel;have iw:=ah eO;clear eO;by_cases hlt:i<j
  .have j1:(i:Int)<(j:Int):=by omega
   obtain⟨h,hh⟩:∃h:Nat,h=(i+j)/2:=⟨_,rfl⟩;have hhj:h<j:=by omega
   have hih:i<=h:=by omega
   obtain⟨b,off,lG,hbl,hcell⟩:=HA.out.fact (by omega);subst lG;obtain⟨x,hx⟩:∃x,F[h]?=some x:=⟨F[h]'(by omega),aS _⟩;obtain⟨e0,e1,e2,e3,e4,e5⟩:=UQ (λz hz=>hcell h x hx z hz) rfl;clear hcell;have hv:((i:Int)+(j:Int))/2=(h:Int):=by omega
   clear hh;have HX:=ah hx;clear hx;have gG:(h:Int)<(F.length:Int):=by omega
   have HQ:=ah (LA x.ref r);have zm:=ah (HC.out x);generalize lK x.ref r=y at zm HQ;cases q:decide (y<0)with
   |true=>
    rw[decide_eq_true_eq]at q;have hlt2:x.ref<r:=HQ.out.1 q;have Oa:=ah hlt2;clear hlt2;have q2:decide (y<0)=true:=by simpa using q
    go_wp2_with (go_at_call 91;refine(zm.out _).mono ?_;rintro e z1 ⟨rfl,hz⟩;obtain⟨z1,rfl⟩:=Bl.on hz;clear hz;refine Hid.out ?_);refine ah ?_;go_wp2
    go_roundg (j - (h+1))
    case measure=>have:=iw.out;omega
    case rel=>exact⟨h+1,j,z1,rfl,by omega,hjn,by go_num,rfl,rfl,λk u hk hu=>by
     obtain⟨b1,b2⟩:=bB.1 hu;obtain⟨b3,b4⟩:=bB.1 HX.out;have h9:=Oa.out;by_cases e:k=h
     .subst e;rw[HX.out]at hu;cases hu;exact h9
     .have a2:=(Ea.1 HD.out) k h (by rw[dU];exact b1) (by rw[dU];exact b3) (by omega)
      rw[List.getElem_map,List.getElem_map,b2,b4]at a2;omega,hhi.out⟩
   |false=>
    rw[decide_eq_false_iff_not]at q;have hge:r<=x.ref:=by have:=HQ.out.2;omega
    have HGE:=ah hge;clear hge;have q2:decide (y<0)=false:=by simpa using q
    go_wp2_with (go_at_call 91;refine(zm.out _).mono ?_;rintro e z1 ⟨rfl,hz⟩;obtain⟨z1,rfl⟩:=Bl.on hz;clear hz;refine Hid.out ?_);refine ah ?_;go_wp2
    go_roundg (h - i)
    case measure=>have:=iw.out;omega
    case rel=>exact⟨i,h,z1,rfl,hih,by omega,rfl,by go_num,rfl,hlo.out,λk u hk hu=>by
     obtain⟨b1,b2⟩:=bB.1 hu;obtain⟨b3,b4⟩:=bB.1 HX.out;have h9:=HGE.out;by_cases e:k=h
     .subst e;rw[HX.out]at hu;cases hu;exact h9
     .have a2:=(Ea.1 HD.out) h k (by rw[dU];exact b3) (by rw[dU];exact b1) (by omega)
      rw[List.getElem_map,List.getElem_map,b2,b4]at a2;omega⟩
  .obtain rfl:i=j:=by omega
   have hr:=UO HD.out hlo.out hhi.out;have HR:=ah hr;clear hr;by_cases hn2:i<F.length
   .have j1:(i:Int)<(F.length:Int):=by omega
    obtain⟨b,off,lG,hbl,hcell⟩:=HA.out.fact (by omega);subst lG;obtain⟨x,hx⟩:∃x,F[i]?=some x:=⟨F[i],aS hn2⟩;obtain⟨e0,e1,e2,e3,e4,e5⟩:=UQ (λz hz=>hcell i x hx z hz) rfl;clear hcell;have HQ:Hid (E=(lK x.ref r==0)):=by show _=_;rw[<-HE.out,HR.out,hx,Te]
    clear hx;have zm:=ah (HC.out x);generalize lK x.ref r=y at zm HQ;clear HR HE;cases q:(y==0)with
    |true=>
     obtain rfl:E=true:=by rw[HQ.out,q]
     clear HQ;go_wp2_with (go_at_call 91;refine(zm.out _).mono ?_;rintro e z1 ⟨rfl,hz⟩;obtain⟨z1,rfl⟩:=Bl.on hz;clear hz;refine Hid.out ?_);refine ah ?_;go_wp2
     go_ret2
     exact⟨_,rfl,Bl.prop _⟩
    |false=>
     obtain rfl:E=false:=by rw[HQ.out,q]
     clear HQ;go_wp2_with (go_at_call 91;refine(zm.out _).mono ?_;rintro e z1 ⟨rfl,hz⟩;obtain⟨z1,rfl⟩:=Bl.on hz;clear hz;refine Hid.out ?_);refine ah ?_;go_wp2
     go_ret2
     exact⟨_,rfl,Bl.prop _⟩
   .obtain rfl:E=false:=by rw[<-HE.out,HR.out,mX (by omega)]
    have j1:decide ((i:Int)<(F.length:Int))=false:=by rw[decide_eq_false_iff_not];omega
    clear HR HE;go_wp2
    go_ret2
    exact⟨_,rfl,Bl.prop _⟩
end
section
open Go.RowKit Tryz
theorem UR(F:List ay)(A:Option Addr)(c:Nat)(p:Nat)(r:Int)(w:World)(hA:At w 6 A F.length c (bH F))(hn:F.length<=1000000)(hd:bF F)(hp:w.cell? ⟨p,0,none⟩=some (.int .i64 r)):
 Calls prog 58 #[.slice A F.length c,.func (.func 59) #[] #[.pointer (some ⟨p,0,none⟩)]] w (Dr (kE F r) w):=by
 have hpl:p<w.heap.size:=lt_of_cell hp;have HA:=ah hA;clear hA;have HD:=ah hd;clear hd;have HP:=ah hp;clear hp;go_enter func58,ntmps58;go_upto_region 1 with(fail)
 generalize hW0:World.alloc _ _=W0;obtain⟨HB,hh0⟩:=bx1 hW0;clear hW0;have k0:=bX (i:=0) hh0 rfl;clear hh0;change Code.wp _ _ _ _ (Bl.val (⟨W0,aC _ _⟩:Bl W0));generalize(⟨W0,aC _ _⟩:Bl W0)=s0;have Qe:=ah (λz:Bl W0=>N_ F A c w.heap.size p r z.val (HA.out.below (by omega) (av HB.out z.prop)) hn HD.out (k0 z) (((av HB.out z.prop).cell (p:=⟨p,0,none⟩) hpl).trans HP.out));go_wp2_with (go_at_call 90;refine(Qe.out _).mono ?_;rintro e z ⟨n,rfl,hz⟩;obtain⟨z,rfl⟩:=Bl.on hz;clear hz;refine Hid.out ?_);refine ah ?_;go_wp2
 go_ret2
 exact⟨_,rfl,av HB.out (Bl.prop _)⟩
theorem UU(F:List ay)(A:Option Addr)(c:Nat)(r:Int)(w:World)(hA:At w 6 A F.length c (bH F))(hn:F.length<=1000000)(hd:bF F):
 Calls prog 33 #[.slice A F.length c,.int .i64 r] w (Dr (kE F r) w):=by
 have HA:=ah hA;clear hA;have HD:=ah hd;clear hd;go_enter func33,ntmps33;go_upto_region 1 with(fail)
 generalize hW0:World.alloc _ _=W0;obtain⟨HB,hh0⟩:=bx1 hW0;clear hW0;have k0:=bX (i:=0) hh0 rfl;clear hh0;change Code.wp _ _ _ _ (Bl.val (⟨W0,aC _ _⟩:Bl W0));generalize(⟨W0,aC _ _⟩:Bl W0)=s0;have Qe:=ah (λz:Bl W0=>UR F A c w.heap.size r z.val (HA.out.below (by omega) (av HB.out z.prop)) hn HD.out (k0 z));go_wp2_with (go_at_call 58;refine(Qe.out _).mono ?_;rintro e z ⟨n,rfl,hz⟩;obtain⟨z,rfl⟩:=Bl.on hz;clear hz;refine Hid.out ?_);refine ah ?_;go_wp2
 go_ret2
 exact⟨_,rfl,av HB.out (Bl.prop _)⟩
end
open Go.RowKit Tryz
def sV(C:au)(x:ay):Bool:=nD C x.ref x.act x.low x.high x.filed
def iL(C:au):Int->List ay->Bool
 |_,[]=>true
 |prev,x::l=>sV C x&&(decide (prev<x.ref)&&iL C x.ref l)
def LH:Option aX->aX->Bool
 |none,_=>true
 |some a,b=>decide (FD a b)
def oK(F:List ay):Option aX->List aX->Bool
 |_,[]=>true
 |p,b::l=>kE F b.ref&&(kE F b.next&&((!(b.ref==b.next))&&(LH p b&&oK F (some b) l)))
def gN(C:au)(f:bR):Bool:=C.valid&&((!(decide (f.house<0)||decide (C.aF<=f.house)))&&((!(decide (4000<(f.facts.length:Int))||decide (4000<(f.orders.length:Int))))&&(iL C 0 f.facts&&oK f.facts none f.orders)))
theorem kV{C:au}:∀{prev:Int}{l:List ay},iL C prev l=true->∀x∈l,prev<x.ref/\sV C x=true
 |_,[],_,x,hx=>by cases hx
 |prev,y::l,h,x,hx=>by
  simp only[iL,bS,decide_eq_true_eq]at h;rcases dx.1 hx with e|e
  .subst e;exact⟨h.2.1,h.1⟩
  .have:=kV h.2.2 x e
   exact⟨by omega,this.2⟩
theorem jq{C:au}:∀{prev:Int}{l:List ay},iL C prev l=true->bF l
 |_,[],_=>List.Pairwise.nil
 |prev,y::l,h=>by
  simp only[iL,bS,decide_eq_true_eq]at h;unfold bF;rw[kN,wF];refine⟨λr hr=>?_,jq h.2.2⟩;obtain⟨x,hx,rfl⟩:=cZ.1 hr;exact(kV h.2.2 x hx).1
theorem Ai(v:CV)(C:au)(fv:FV)(f:bR)(w:World)(hC:bO w v C)(hF:gJ w fv f):Calls prog 12 #[v.val C,fv.val f] w (dZ (.bool (gN C f)) w):=by
 obtain⟨⟨dV,dW⟩,⟨dX,dY⟩,⟨fB,dH⟩,⟨eZ,dM⟩,⟨dQ,dR⟩⟩:=v;obtain⟨⟨fA,fc⟩,⟨oA,oc⟩⟩:=fv;obtain⟨ho,F,O⟩:=f;obtain⟨hl1,hl2⟩:=hF.acR;obtain⟨hl3,hl4⟩:=hF.acS;simp only at hl1 hl2 hl3 hl4;have hfx:F.length<=9223372036854775807:=by omega
 have hox:O.length<=9223372036854775807:=by omega
 have ZH:Hid (At w 6 fA F.length fc (bH F)):=hF.facts;have HOS:Hid (At w 2 oA O.length oc (eT O)):=hF.orders;clear hF;have HC:=ah hC;clear hC;simp only[CV.val,CV.cells,FV.val,FV.cells];generalize hE:gN C ⟨ho,F,O⟩=E;simp only[gN]at hE;have HE:=ah hE;clear hE;go_enter func12,ntmps12;go_upto_region 1 with(fail)
 generalize hW0:World.alloc _ _=W0;obtain⟨HB,hh0,gG⟩:=F5 hW0;clear hW0;obtain⟨iC,iD,iI,iy,iP,jc,jA⟩:=CS hh0;clear hh0;obtain⟨jM,jY,qO⟩:=kc3 gG;clear gG;change Code.wp _ _ _ _ (Bl.val (⟨W0,aC _ _⟩:Bl W0));generalize(⟨W0,aC _ _⟩:Bl W0)=s0;have UC:=ah (λz:Bl W0=>vI (⟨⟨dV,dW⟩,⟨dX,dY⟩,⟨fB,dH⟩,⟨eZ,dM⟩,⟨dQ,dR⟩⟩:CV) C z.val (HC.out.below (av HB.out z.prop)));simp only[CV.val,CV.cells]at UC;go_wp2_with (go_at_call 31;refine(UC.out _).mono ?_;rintro e z ⟨n,rfl,hz⟩;obtain⟨z,rfl⟩:=Bl.on hz;clear hz;refine Hid.out ?_);refine ah ?_;clear UC;cases hv:C.valid with
 |false=>
  obtain⟨f1,f2⟩:=au.Ny hv;obtain rfl:E=false:=by rw[<-HE.out,hv];rfl
  clear hv;go_wp2;go_ret;exact⟨rfl,av HB.out (Bl.prop _)⟩
 |true=>
  rw[au.Ko hv];have HV:=ah hv;clear hv;obtain⟨b1,mV,hE⟩:∃b,Hid ((!(decide (ho<0)||decide (C.aF<=ho)))=b)/\cond (!(decide (ho<0)||decide (C.aF<=ho))) true false=b:=⟨_,rfl,(iW _).symm⟩;simp only[Na]at hE;repeat' (first|(replace hE:=uI hE (by assumption))|(replace hE:=uJ hE (by assumption))|(replace hE:=mP hE;rcases hE with⟨q,q',hE⟩|⟨q,q',hE⟩)|(replace hE:=jL hE;rcases hE with⟨q,hE⟩|⟨q,hE⟩)|fail)
  all_goals first
   |focus
    obtain rfl:b1=false:=hE.symm;clear hE
    as_aux_lemma=>
     obtain rfl:E=false:=by rw[<-HE.out,HV.out,mV.out];rfl
     go_wp2;go_ret;exact⟨rfl,av HB.out (Bl.prop _)⟩
   |focus
    obtain rfl:b1=true:=hE.symm;clear hE
    as_aux_lemma=>
     have Jr:=mV;obtain⟨b2,Nb,hE⟩:∃b,Hid ((!(decide (4000<(F.length:Int))||decide (4000<(O.length:Int))))=b)/\cond (!(decide (4000<(F.length:Int))||decide (4000<(O.length:Int)))) true false=b:=⟨_,rfl,(iW _).symm⟩;simp only[Na]at hE;repeat' (first|(replace hE:=uI hE (by assumption))|(replace hE:=uJ hE (by assumption))|(replace hE:=mP hE;rcases hE with⟨q,q',hE⟩|⟨q,q',hE⟩)|(replace hE:=jL hE;rcases hE with⟨q,hE⟩|⟨q,hE⟩)|fail)
     all_goals first
      |focus
       obtain rfl:b2=false:=hE.symm;clear hE
       as_aux_lemma=>
        obtain rfl:E=false:=by rw[<-HE.out,HV.out,Jr.out,Nb.out];rfl
        go_wp2;go_ret;exact⟨rfl,av HB.out (Bl.prop _)⟩
      |focus
       obtain rfl:b2=true:=hE.symm;clear hE
       as_aux_lemma=>
        have QZ:=Nb;go_wp2
        go_loopg [47] F.length (λgk v47 wr=>∃(j:Nat)(prev:Int)(z:Bl W0),gk=F.length - j/\j<=F.length/\v47= .int .i64 j/\wr=z.val/\Hid ((j=0/\prev=0)\/∃(i:Nat)(y:ay),j=i+1/\F[i]?=some y/\y.ref=prev)/\Hid (iL C 0 F=iL C prev (F.drop j)))
        case atStart=>exact⟨0,0,_,rfl,aU _,rfl,rfl,.inl ⟨rfl,rfl⟩,rfl⟩
        case round=>
         obtain⟨j,prev,z,eO,hj,rfl,rfl,hlast,hpre⟩:=hrel;have iw:=ah eO;clear eO;by_cases hlt:j<F.length
         .obtain⟨fb,fo,lG,hfb,hcell⟩:=ZH.out.fact (by omega)
          subst lG;obtain⟨⟨re,ac,lo,hi,fi,se⟩,hx⟩:∃x,F[j]?=some x:=⟨F[j],aS hlt⟩;obtain⟨e0,e1,e2,e3,e4,e5⟩:=UQ (λz hz=>hcell j _ hx z (av HB.out hz)) rfl;have HST:Hid (iL C 0 F=(sV C ⟨re,ac,lo,hi,fi,se⟩&&(decide (prev<re)&&iL C re (F.drop (j+1))))):=by show _=_;rw[hpre.out,Gh hx];rfl
          have HX:=ah hx;clear hx;have j1:(j:Int)<(F.length:Int):=by omega
          go_upto_region 9 with(fail)
          generalize hWa:World.alloc _ _=Wa;obtain⟨hba,hxa⟩:=bx1' hWa;clear hWa;have oU:Hid (Below W0.heap.size W0 Wa):=av z.prop hba;obtain⟨d0,d1,d2,d3,d4,d5⟩:=kc6 hxa;have c0:=wP oU.out iC;have c1:=wP oU.out iD;have c2:=wP oU.out iI;have c3:=wP oU.out iy;have c4:=wP oU.out iP;have c5:=wP oU.out jc;have c6:=wP oU.out jA;have h0:=wP oU.out jM;have h1:=wP oU.out jY;have h2:=wP oU.out qO;clear hxa hba;change Code.wp _ _ _ _ (Bl.val (⟨Wa,aC _ _⟩:Bl Wa));generalize(⟨Wa,aC _ _⟩:Bl Wa)=sa;have LJ:=ah (λs:Bl Wa=>JN (⟨⟨dV,dW⟩,⟨dX,dY⟩,⟨fB,dH⟩,⟨eZ,dM⟩,⟨dQ,dR⟩⟩:CV) C re ac lo hi fi se s.val);simp only[CV.val,CV.cells]at LJ;clear e0 e1 e2 e3 e4 e5 iC iD iI iy iP jc jA jM jY qO;rcases hlast.out with⟨hj0,hp0⟩|⟨i,y,rfl,hy,rfl⟩
          .have q4:decide ((0:Int)<(j:Int))=false:=by rw[decide_eq_false_iff_not];omega
           have q5:decide (0<j)=false:=by rw[decide_eq_false_iff_not];omega
           have q6:¬(0:Int)<(j:Int):=by omega
           have q7:¬0<j:=by omega
           have hpv:0=prev:=hp0.symm;subst hpv;clear hj0 hlast hcell;cases q1:sV C ⟨re,ac,lo,hi,fi,se⟩with
           |false=>
            obtain rfl:E=false:=by rw[<-HE.out,HV.out,Jr.out,QZ.out,HST.out,q1];rfl
            have Xk:nD C re ac lo hi fi=false:=q1;rw[Xk]at LJ;go_wp2;refine aI ?_;repeat(go_big_quiet_step (first|(go_at_call 32;exact Calls.dw (lit (LJ.out _) (by assumption)))|(go_at_call 32;exact Calls.dw (LJ.out _))))
            refine aY ?_;rintro _ ⟨zq,rfl⟩;go_wp2;go_ret;exact⟨rfl,av HB.out (av oU.out (Bl.prop _))⟩
           |true=>
            have Xk:nD C re ac lo hi fi=true:=q1;rw[Xk]at LJ;clear Xk;have q3:decide ((0:Int)<re)=true:=by
             rw[decide_eq_true_eq];have h:=q1;unfold sV nD at h;simp only[bS,decide_eq_true_eq]at h;omega
            have JA:=ah q3;have xq:=ah q1;clear q3 q1;have vC:Hid (iL C 0 F=iL C re (F.drop (j+1))):=by show _=_;rw[HST.out,xq.out,JA.out];rfl
            go_wp2;refine aI ?_;repeat(go_big_quiet_step (first|(go_at_call 32;exact Calls.dw (lit (LJ.out _) (by assumption)))|(go_at_call 32;exact Calls.dw (LJ.out _))))
            refine aY ?_;rintro _ ⟨zq,rfl⟩;go_wp2
            go_roundg (F.length - (j+1))
            case measure=>have:=iw.out;omega
            case rel=>exact⟨j+1,re,⟨_,av oU.out (Bl.prop _)⟩,rfl,by omega,by go_num,rfl,.inr ⟨j,_,rfl,HX.out,rfl⟩,vC.out⟩
          .have g0:∀s:Bl Wa,s.val.cell? ⟨fb,fo+i*6,none⟩=some (.int .i64 y.ref):=λs=>hcell i y hy s.val (av (av HB.out oU.out) s.prop) 0 (by omega)
           have q4:decide ((0:Int)<((i+1:Nat):Int))=true:=by rw[decide_eq_true_eq];omega
           have q5':((i+1:Nat):Int) - 1=(i:Int):=by omega
           have i1:(i:Int)<(F.length:Int):=by omega
           clear hy hlast hcell;generalize y.ref=prev at HST g0;cases q1:sV C ⟨re,ac,lo,hi,fi,se⟩with
           |false=>
            obtain rfl:E=false:=by rw[<-HE.out,HV.out,Jr.out,QZ.out,HST.out,q1];rfl
            have Xk:nD C re ac lo hi fi=false:=q1;rw[Xk]at LJ;go_wp2;refine aI ?_;repeat(go_big_quiet_step (first|(go_at_call 32;exact Calls.dw (lit (LJ.out _) (by assumption)))|(go_at_call 32;exact Calls.dw (LJ.out _))))
            refine aY ?_;rintro _ ⟨zq,rfl⟩;go_wp2;go_ret;exact⟨rfl,av HB.out (av oU.out (Bl.prop _))⟩
           |true=>
            have Xk:nD C re ac lo hi fi=true:=q1;rw[Xk]at LJ;clear Xk;have xq:=ah q1;clear q1;cases q3:decide (prev<re)with
            |true=>
             have q5:decide (re<=prev)=false:=by rw[decide_eq_true_eq]at q3;rw[decide_eq_false_iff_not];omega
             have vC:Hid (iL C 0 F=iL C re (F.drop (i+1+1))):=by show _=_;rw[HST.out,xq.out,q3];rfl
             go_wp2;refine aI ?_;repeat(go_big_quiet_step (first|(go_at_call 32;exact Calls.dw (lit (LJ.out _) (by assumption)))|(go_at_call 32;exact Calls.dw (LJ.out _))))
             refine aY ?_;rintro _ ⟨zq,rfl⟩;go_wp2
             go_roundg (F.length - (i+1+1))
             case measure=>have:=iw.out;omega
             case rel=>exact⟨i+1+1,re,⟨_,av oU.out (Bl.prop _)⟩,rfl,by omega,by go_num,rfl,.inr ⟨i+1,_,rfl,HX.out,rfl⟩,vC.out⟩
            |false=>
             have q5:decide (re<=prev)=true:=by rw[decide_eq_false_iff_not]at q3;rw[decide_eq_true_eq];omega
             obtain rfl:E=false:=by rw[<-HE.out,HV.out,Jr.out,QZ.out,HST.out,xq.out,q3];rfl
             go_wp2;refine aI ?_;repeat(go_big_quiet_step (first|(go_at_call 32;exact Calls.dw (lit (LJ.out _) (by assumption)))|(go_at_call 32;exact Calls.dw (LJ.out _))))
             refine aY ?_;rintro _ ⟨zq,rfl⟩;go_wp2;go_ret;exact⟨rfl,av HB.out (av oU.out (Bl.prop _))⟩
         .obtain rfl:j=F.length:=by omega
          have Q0:Hid (iL C 0 F=true):=by show _=_;rw[hpre.out,List.drop_of_length_le (bJ _)];rfl
          clear hpre hlast iw;have HD:Hid (bF F):=jq Q0.out;have Tt:F.length<=1000000:=by
           have h:=QZ.out;simp only[jk,oh,decide_eq_false_iff_not]at h;omega
          go_wp2
          go_loopg [76] O.length (λgk v76 wr=>∃(j:Nat)(prev:Option aX)(z:Bl W0),gk=O.length - j/\j<=O.length/\v76= .int .i64 j/\wr=z.val/\Hid ((j=0/\prev=none)\/∃(i:Nat)(a:aX),j=i+1/\O[i]?=some a/\prev=some a)/\Hid (oK F none O=oK F prev (O.drop j)))
          case atStart=>exact⟨0,none,_,rfl,aU _,rfl,rfl,.inl ⟨rfl,rfl⟩,rfl⟩
          case round=>
           obtain⟨j,prev,z,eO,hj,rfl,rfl,hlast,hpre⟩:=hrel;have iw:=ah eO;clear eO;by_cases hlt:j<O.length
           .obtain⟨ob,oo,lG,hob,hcell⟩:=HOS.out.vB (by omega)
            subst lG;obtain⟨⟨br,bn⟩,hx⟩:∃x,O[j]?=some x:=⟨O[j],aS hlt⟩;have e0:∀s:Bl W0,s.val.cell? ⟨ob,oo+j*2,none⟩=some (.int .i64 br):=λs=>hcell j _ hx s.val (av HB.out s.prop) 0 (by omega);have e1:∀s:Bl W0,s.val.cell? ⟨ob,oo+j*2+1,none⟩=some (.int .i64 bn):=λs=>hcell j _ hx s.val (av HB.out s.prop) 1 (by omega);have HST:Hid (oK F none O=(kE F br&&(kE F bn&&((!(br==bn))&&(LH prev ⟨br,bn⟩&&oK F (some ⟨br,bn⟩) (O.drop (j+1))))))):=by show _=_;rw[hpre.out,Gh hx];rfl
            have HX:=ah hx;clear hx;have j1:(j:Int)<(O.length:Int):=by omega
            go_upto_region 15 with(fail)
            generalize hWa:World.alloc _ _=Wa;obtain⟨hba,hxa⟩:=bx1' hWa;clear hWa;have oU:Hid (Below W0.heap.size W0 Wa):=av z.prop hba;obtain⟨d0,d1⟩:=Ww hxa;have c0:=wP oU.out iC;have c1:=wP oU.out iD;have c2:=wP oU.out iI;have c3:=wP oU.out iy;have c4:=wP oU.out iP;have c5:=wP oU.out jc;have c6:=wP oU.out jA;have h0:=wP oU.out jM;have h1:=wP oU.out jY;have h2:=wP oU.out qO;clear hxa hba;change Code.wp _ _ _ _ (Bl.val (⟨Wa,aC _ _⟩:Bl Wa));generalize(⟨Wa,aC _ _⟩:Bl Wa)=sa;have HOF:=ah (λ(r:Int)(s:Bl Wa)=>UU F fA fc r s.val (ZH.out.below (by omega) (av (av HB.out oU.out) s.prop)) Tt HD.out);clear e0 e1 iC iD iI iy iP jc jA jM jY qO;go_wp2_with (go_at_call 33;refine(HOF.out br _).mono ?_;rintro e z ⟨n,rfl,hz⟩;obtain⟨z,rfl⟩:=Bl.on hz;clear hz;refine Hid.out ?_);refine ah ?_;go_wp2_with (go_at_call 33;refine(HOF.out bn _).mono ?_;rintro e z ⟨n,rfl,hz⟩;obtain⟨z,rfl⟩:=Bl.on hz;clear hz;refine Hid.out ?_);refine ah ?_;clear HOF;rcases hlast.out with⟨hj0,rfl⟩|⟨i,a,rfl,ha,rfl⟩
            .have p4:decide ((0:Int)<(j:Int))=false:=by rw[decide_eq_false_iff_not];omega
             have p5:decide (0<j)=false:=by rw[decide_eq_false_iff_not];omega
             have p6:¬(0:Int)<(j:Int):=by omega
             have p7:¬0<j:=by omega
             clear hj0 hlast hcell;cases q1:kE F br with
             |false=>
              obtain rfl:E=false:=by rw[<-HE.out,HV.out,Jr.out,QZ.out,Q0.out,HST.out,q1];rfl
              go_wp2;refine aI ?_;repeat(go_big_quiet_step (first|fail))
              refine aY ?_;rintro _ ⟨zq,rfl⟩;go_wp2;go_ret;exact⟨rfl,av HB.out (av oU.out (Bl.prop _))⟩
             |true=>
              cases q2:kE F bn with
              |false=>
               obtain rfl:E=false:=by rw[<-HE.out,HV.out,Jr.out,QZ.out,Q0.out,HST.out,q1,q2];rfl
               go_wp2;refine aI ?_;repeat(go_big_quiet_step (first|fail))
               refine aY ?_;rintro _ ⟨zq,rfl⟩;go_wp2;go_ret;exact⟨rfl,av HB.out (av oU.out (Bl.prop _))⟩
              |true=>
               cases q3:(br==bn)with
               |true=>
                obtain rfl:E=false:=by rw[<-HE.out,HV.out,Jr.out,QZ.out,Q0.out,HST.out,q1,q2,q3];rfl
                go_wp2;refine aI ?_;repeat(go_big_quiet_step (first|fail))
                refine aY ?_;rintro _ ⟨zq,rfl⟩;go_wp2;go_ret;exact⟨rfl,av HB.out (av oU.out (Bl.prop _))⟩
               |false=>
                have vC:Hid (oK F none O=oK F (some ⟨br,bn⟩) (O.drop (j+1))):=by show _=_;rw[HST.out,q1,q2,q3];rfl
                go_wp2;refine aI ?_;repeat(go_big_quiet_step (first|fail))
                refine aY ?_;rintro _ ⟨zq,rfl⟩;go_wp2
                go_roundg (O.length - (j+1))
                case measure=>have:=iw.out;omega
                case rel=>exact⟨j+1,some ⟨br,bn⟩,⟨_,av oU.out (Bl.prop _)⟩,rfl,by omega,by go_num,rfl,.inr ⟨j,_,rfl,HX.out,rfl⟩,vC.out⟩
            .have g0:∀s:Bl Wa,s.val.cell? ⟨ob,oo+i*2,none⟩=some (.int .i64 a.ref):=λs=>hcell i a ha s.val (av (av HB.out oU.out) s.prop) 0 (by omega)
             have g1:∀s:Bl Wa,s.val.cell? ⟨ob,oo+i*2+1,none⟩=some (.int .i64 a.next):=λs=>hcell i a ha s.val (av (av HB.out oU.out) s.prop) 1 (by omega);have p4:decide ((0:Int)<((i+1:Nat):Int))=true:=by rw[decide_eq_true_eq];omega
             have p5:((i+1:Nat):Int) - 1=(i:Int):=by omega
             have i1:(i:Int)<(O.length:Int):=by omega
             have Qf:=ah (λs:Bl Wa=>XW a ⟨br,bn⟩ s.val);have HY:Hid (decide (0<=Db a ⟨br,bn⟩)= !LH (some a) ⟨br,bn⟩):=aaj a ⟨br,bn⟩;generalize Db a ⟨br,bn⟩=y at Qf HY;clear ha hlast hcell
             focus
              cases q1:kE F br
              focus
               obtain rfl:E=false:=by rw[<-HE.out,HV.out,Jr.out,QZ.out,Q0.out,HST.out,q1];rfl
              rotate_left
              focus
               cases q2:kE F bn
               focus
                obtain rfl:E=false:=by rw[<-HE.out,HV.out,Jr.out,QZ.out,Q0.out,HST.out,q1,q2];rfl
               rotate_left
               focus
                cases q3:(br==bn)
                focus
                 cases q4:LH (some a) ⟨br,bn⟩
                 focus
                  have q5:decide (0<=y)=true:=by rw[HY.out,q4];rfl
                  obtain rfl:E=false:=by rw[<-HE.out,HV.out,Jr.out,QZ.out,Q0.out,HST.out,q1,q2,q3,q4];rfl
                 rotate_left
                 focus
                  have q5:decide (0<=y)=false:=by rw[HY.out,q4];rfl
                  have vC:Hid (oK F none O=oK F (some ⟨br,bn⟩) (O.drop ((i+1)+1))):=by show _=_;rw[HST.out,q1,q2,q3,q4];rfl
                  go_wp2;refine aI ?_;repeat(go_big_quiet_step (first|(go_at_call 34;exact Calls.dw (lit (Qf.out _) (by assumption)))|(go_at_call 34;exact Calls.dw (Qf.out _))))
                  refine aY ?_;rintro _ ⟨zq,rfl⟩;go_wp2
                  go_roundg (O.length - ((i+1)+1))
                  case measure=>have:=iw.out;omega
                  case rel=>exact⟨(i+1)+1,some ⟨br,bn⟩,⟨_,av oU.out (Bl.prop _)⟩,rfl,by omega,by go_num,rfl,.inr ⟨(i+1),_,rfl,HX.out,rfl⟩,vC.out⟩
                rotate_left
                focus
                 obtain rfl:E=false:=by rw[<-HE.out,HV.out,Jr.out,QZ.out,Q0.out,HST.out,q1,q2,q3];rfl
              all_goals
               go_wp2;refine aI ?_;repeat(go_big_quiet_step (first|(go_at_call 34;exact Calls.dw (lit (Qf.out _) (by assumption)))|(go_at_call 34;exact Calls.dw (Qf.out _))))
               refine aY ?_;rintro _ ⟨zq,rfl⟩;go_wp2;go_ret;exact⟨rfl,av HB.out (av oU.out (Bl.prop _))⟩
           .obtain rfl:j=O.length:=by omega
            obtain rfl:E=true:=by rw[<-HE.out,HV.out,Jr.out,QZ.out,Q0.out,hpre.out,List.drop_of_length_le (bJ _)];rfl
            go_wp2;go_ret;exact⟨rfl,av HB.out (Bl.prop _)⟩
end Go.Proofs.YtpmdedcnbockhaaGreatDoor
