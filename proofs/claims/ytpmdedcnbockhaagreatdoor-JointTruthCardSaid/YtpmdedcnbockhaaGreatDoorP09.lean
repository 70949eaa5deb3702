/-
  CsG; CsH; CsV
-/
import Derived.Test.YtpmdedcnbockhaaGreatDoorP06
import Derived.Test.YtpmdedcnbockhaaGreatDoorP08
import Derived.Test.YtpmdedcnbockhaaGreatDoorP02
set_option maxRecDepth 100000
set_option maxHeartbeats 8000000
namespace Go.Proofs.YtpmdedcnbockhaaGreatDoor
section
open Go.RowKit
theorem WO(a b:aX)(w:World):Calls Tryz.prog 34 #[.agg #[.int .i64 a.ref,.int .i64 a.next],.agg #[.int .i64 b.ref,.int .i64 b.next]] w (dx (.int .i64 (Ch a b)) w):=by
 obtain⟨ar,an⟩:=a;obtain⟨br,bn⟩:=b;simp only[Ch];have HO:=ah (λz:World=>Zc z.heap.size (kN ar br) (kN an bn) (z.alloc (.cells #[.int .i64 (kN ar br),.int .i64 (kN an bn)] 3)) ((aG _ _ 0 _ _ _ (bC z _)).trans rfl) ((aG _ _ 1 _ _ _ (bC z _)).trans rfl));have zK:=ah (λW:World=>wZ ar br W);have KH:=ah (λW:World=>wZ an bn W);generalize hx:kN ar br=x at HO zK⊢;generalize hy:kN an bn=y at HO KH⊢;generalize hE:cond (x==0) y x=E at HO⊢;clear hx hy hE;go_enter Tryz.func34,Tryz.ntmps34;go_upto_region 1 with(fail)
 generalize hW0:World.alloc _ _=W0;obtain⟨HB,hh0,g_⟩:=IQ hW0;clear hW0;obtain⟨jA,jB⟩:=kc2 hh0;clear hh0;obtain⟨o_,qy⟩:=kc2 g_;clear g_;change Code.wp _ _ _ _ (Bl.val (⟨W0,aD _ _⟩:Bl W0));generalize(⟨W0,aD _ _⟩:Bl W0)=s0;refine mU 10 (by simp) (by kernel_rfl) (by kernel_rfl) ?_;simp only[fK,bV,fT,cO];repeat(go_big_quiet_step (first|(go_at_call_of 60 (Value.int IntKind.i64 ar);exact Calls.bY (zK.out _))|(go_at_call_of 60 (Value.int IntKind.i64 an);exact Calls.bY (KH.out _))))
 refine aS ?_;rintro _ ⟨s1,rfl⟩;gi_wp2_with (fail);refine⟨trivial,rfl,(bQ.2 (HO.out _)).mono ?_⟩;rintro e z ⟨rfl,hz⟩;gi_wp2;go_wp2;go_ret;exact⟨rfl,ay HB.out (ay s1.prop (ay (aK (aD _ _) _) hz))⟩
theorem lt_of_cell{w:World}{b i:Nat}{u:Value}(h:w.cell? ⟨b,i,none⟩=some u):b<w.heap.size:=World.block_lt_of_cell? w ⟨b,i,none⟩ h
theorem Qd(re ac lo hi fi:Int)(se:Bool)(p:Nat)(r:Int)(w:World)(hp:w.cell? ⟨p,0,none⟩=some (.int .i64 r)):Calls Tryz.prog 59 #[.agg #[.int .i64 re,.int .i64 ac,.int .i64 lo,.int .i64 hi,.int .i64 fi,.bool se],.pointer (some ⟨p,0,none⟩)] w (dx (.int .i64 (kN re r)) w):=by
 have hpl:p<w.heap.size:=lt_of_cell hp;have HC:=ah (λW:World=>wZ re r W);generalize kN re r=y at HC⊢;go_enter Tryz.func59,Tryz.ntmps59;go_upto_region 1 with(fail)
 generalize hW0:World.alloc _ _=W0;obtain⟨HB,hh0⟩:=bx1 hW0;clear hW0;obtain⟨jA,jB,jK,j4,j5,kV⟩:=kc6 hh0;clear hh0;change Code.wp _ _ _ _ (Bl.val (⟨W0,aD _ _⟩:Bl W0));generalize(⟨W0,aD _ _⟩:Bl W0)=s0;have k2:∀z:Bl W0,z.val.cell? ⟨p,0,none⟩=some (.int .i64 r):=λz=>((ay HB.out z.prop).cell (p:=⟨p,0,none⟩) hpl).trans hp;go_wp2_with (go_at_call 60;refine(HC.out _).mono ?_;rintro e z ⟨rfl,hz⟩;obtain⟨z,rfl⟩:=Bl.on hz;clear hz;refine Hid.out ?_);refine ah ?_;go_wp2;go_ret;exact⟨rfl,ay HB.out (Bl.prop _)⟩
theorem Qe(re ac lo hi fi:Int)(se:Bool)(q p:Nat)(t r:Int)(w:World)(hq:w.cell? ⟨q,0,none⟩=some (.func (.func 59) #[] #[.pointer (some ⟨p,0,none⟩)]))(hp:w.cell? ⟨p,0,none⟩=some (.int .i64 r)):Calls Tryz.prog 91 #[.agg #[.int .i64 re,.int .i64 ac,.int .i64 lo,.int .i64 hi,.int .i64 fi,.bool se],.int .i64 t,.pointer (some ⟨q,0,none⟩)] w (dx (.int .i64 (kN re r)) w):=by
 have hpl:p<w.heap.size:=lt_of_cell hp;have WE:q<w.heap.size:=lt_of_cell hq;have TT:Hid (∀z:World,Below w.heap.size w z->Calls Tryz.prog 59 #[.agg #[.int .i64 re,.int .i64 ac,.int .i64 lo,.int .i64 hi,.int .i64 fi,.bool se],.pointer (some ⟨p,0,none⟩)] z (dx (.int .i64 (kN re r)) z)):=λz hz=>Qd re ac lo hi fi se p r z ((hz.cell (p:=⟨p,0,none⟩) hpl).trans hp);generalize kN re r=y at TT⊢;go_enter Tryz.func91,Tryz.ntmps91;go_upto_region 1 with(fail)
 generalize hW0:World.alloc _ _=W0;obtain⟨HB,hh0⟩:=bx1 hW0;clear hW0;obtain⟨jA,jB,jK,j4,j5,kV⟩:=kc6 hh0;clear hh0;change Code.wp _ _ _ _ (Bl.val (⟨W0,aD _ _⟩:Bl W0));generalize(⟨W0,aD _ _⟩:Bl W0)=s0;have k2:∀z:Bl W0,z.val.cell? ⟨q,0,none⟩=some (.func (.func 59) #[] #[.pointer (some ⟨p,0,none⟩)]):=λz=>((ay HB.out z.prop).cell (p:=⟨q,0,none⟩) WE).trans hq;have HC:=ah (λz:Bl W0=>TT.out z.val (ay HB.out z.prop));go_wp2_with (go_at_call 59;refine(HC.out _).mono ?_;rintro e z ⟨rfl,hz⟩;obtain⟨z,rfl⟩:=Bl.on hz;clear hz;refine Hid.out ?_);refine ah ?_;go_wp2;go_ret;exact⟨rfl,ay HB.out (Bl.prop _)⟩
def jT(F:List aB)(r:Int):Bool:=F.any (λx=>x.ref==r)
theorem TU{F:List aB}{r:Int}{i:Nat}(hd:bB F)(h1:∀(k:Nat)(x:aB),k<i->F[k]?=some x->x.ref<r)(h2:∀(k:Nat)(x:aB),i<=k->F[k]?=some x->r<=x.ref):jT F r=(match F[i]? with|some x=>x.ref==r|none=>false):=by
 unfold jT;cases e:F[i]? with
 |none=>
  simp only;rw[List.any_eq_false];intro x hx;obtain⟨k,hk⟩:=wF hx;have:k<i:=by
   have a1:=List.getElem?_eq_none_iff.1 e;have a2:=(aZ.1 hk).1;omega
  have:=h1 k x this hk;simp only[beq_iff_eq];omega
 |some y=>
  simp only;cases q:(y.ref==r)with
  |true=>rw[List.any_eq_true];exact⟨y,cK e,q⟩
  |false=>
   rw[beq_eq_false_iff_ne]at q;rw[List.any_eq_false];intro x hx;obtain⟨k,hk⟩:=wF hx;simp only[beq_iff_eq];intro hr;rcases Nat.lt_trichotomy k i with c|c|c
   .have:=h1 k x c hk;omega
   .subst c;rw[e]at hk;cases hk;exact q hr
   .have a1:=h2 i y (bH _) e
    obtain⟨b1,b2⟩:=aZ.1 e;obtain⟨b3,b4⟩:=aZ.1 hk;have a2:=(Du.1 hd) i k (by rw[eF];exact b1) (by rw[eF];exact b3) c;rw[List.getElem_map,List.getElem_map,b2,b4]at a2;omega
theorem TW{W:World}{b o:Nat}{L:List Value}{a0 a1 a2 a3 a4 a5:Value}(h:∀z,Below W.heap.size W z->∀j,j<6->z.cell? ⟨b,o+j,none⟩=L[j]?)(e:L=[a0,a1,a2,a3,a4,a5]):(∀z:Bl W,z.val.cell? ⟨b,o,none⟩=some a0)/\(∀z:Bl W,z.val.cell? ⟨b,o+1,none⟩=some a1)/\(∀z:Bl W,z.val.cell? ⟨b,o+2,none⟩=some a2)/\(∀z:Bl W,z.val.cell? ⟨b,o+3,none⟩=some a3)/\(∀z:Bl W,z.val.cell? ⟨b,o+4,none⟩=some a4)/\(∀z:Bl W,z.val.cell? ⟨b,o+5,none⟩=some a5):=by
 subst e;exact⟨λz=>h z.val z.prop 0 (by omega),λz=>h z.val z.prop 1 (by omega),λz=>h z.val z.prop 2 (by omega),λz=>h z.val z.prop 3 (by omega),λz=>h z.val z.prop 4 (by omega),λz=>h z.val z.prop 5 (by omega)⟩
def Cv(b:Bool)(w:World)(e:Ending)(w':World):Prop:=∃n:Int,e= .returned (.tuple #[.int .i64 n,.bool b])/\Below w.heap.size w w'
theorem Nb(F:List aB)(A:Option Addr)(c:Nat)(q p:Nat)(r:Int)(w:World)(hA:At w 6 A F.length c (bE F))(hn:F.length<=1000000)(hd:bB F)(hq:w.cell? ⟨q,0,none⟩=some (.func (.func 59) #[] #[.pointer (some ⟨p,0,none⟩)]))(hp:w.cell? ⟨p,0,none⟩=some (.int .i64 r)):
 Calls Tryz.prog 90 #[.slice A F.length c,.int .i64 0,.func (.func 91) #[] #[.pointer (some ⟨q,0,none⟩)]] w (Cv (jT F r) w):=by
 have hpl:p<w.heap.size:=lt_of_cell hp;have WE:q<w.heap.size:=lt_of_cell hq;have HC:=ah (λ(x:aB)(z:Bl w)=>Qe x.ref x.act x.low x.high x.filed x.secret q p 0 r z.val ((z.prop.cell (p:=⟨q,0,none⟩) WE).trans hq) ((z.prop.cell (p:=⟨p,0,none⟩) hpl).trans hp));have HA:=ah hA;clear hA;have HD:=ah hd;clear hd;clear hp hq;generalize hE:jT F r=E;have HE:=ah hE;clear hE;go_enter Tryz.func90,Tryz.ntmps90;go_wp2
 go_loopg [9,10] F.length (λgk v9 v10 wr=>∃(i j:Nat)(z:Bl w),gk=j - i/\i<=j/\j<=F.length/\v9= .int .i64 i/\v10= .int .i64 j/\wr=z.val/\Hid (∀(k:Nat)(x:aB),k<i->F[k]?=some x->x.ref<r)/\Hid (∀(k:Nat)(x:aB),j<=k->F[k]?=some x->r<=x.ref))
 case atStart=>exact⟨0,F.length,⟨w,aD _ _⟩,rfl,by omega,bH _,rfl,rfl,rfl,λk x h=>by omega,λk x h hk=>by have:=(aZ.1 hk).1;omega⟩
 case round=>
  obtain⟨i,j,z,eH,hij,hjn,rfl,rfl,rfl,hlo,hhi⟩:=hrel;have iB:=ah eH;clear eH;by_cases hlt:i<j
  .have j1:(i:Int)<(j:Int):=by omega
   obtain⟨h,hh⟩:∃h:Nat,h=(i+j)/2:=⟨_,rfl⟩;have hhj:h<j:=by omega
   have hih:i<=h:=by omega
   obtain⟨b,off,kI,hbl,hcell⟩:=HA.out.fact (by omega);subst kI;obtain⟨x,hx⟩:∃x,F[h]?=some x:=⟨F[h]'(by omega),aT _⟩;obtain⟨e0,e1,e2,e3,e4,e5⟩:=TW (λz hz=>hcell h x hx z hz) rfl;clear hcell;have hv:((i:Int)+(j:Int))/2=(h:Int):=by omega
   clear hh;have HX:=ah hx;clear hx;have g_:(h:Int)<(F.length:Int):=by omega
   have HQ:=ah (KN x.ref r);have zK:=ah (HC.out x);generalize kN x.ref r=y at zK HQ;cases q:decide (y<0)with
   |true=>
    rw[decide_eq_true_eq]at q;have hlt2:x.ref<r:=HQ.out.1 q;have Nc:=ah hlt2;clear hlt2;have q2:decide (y<0)=true:=by simpa using q
    go_wp2_with (go_at_call 91;refine(zK.out _).mono ?_;rintro e z1 ⟨rfl,hz⟩;obtain⟨z1,rfl⟩:=Bl.on hz;clear hz;refine Hid.out ?_);refine ah ?_;go_wp2
    go_roundg (j - (h+1))
    case measure=>have:=iB.out;omega
    case rel=>exact⟨h+1,j,z1,rfl,by omega,hjn,by go_num,rfl,rfl,λk u hk hu=>by
     obtain⟨b1,b2⟩:=aZ.1 hu;obtain⟨b3,b4⟩:=aZ.1 HX.out;have h9:=Nc.out;by_cases e:k=h
     .subst e;rw[HX.out]at hu;cases hu;exact h9
     .have a2:=(Du.1 HD.out) k h (by rw[eF];exact b1) (by rw[eF];exact b3) (by omega)
      rw[List.getElem_map,List.getElem_map,b2,b4]at a2;omega,hhi.out⟩
   |false=>
    rw[decide_eq_false_iff_not]at q;have hge:r<=x.ref:=by have:=HQ.out.2;omega
    have HGE:=ah hge;clear hge;have q2:decide (y<0)=false:=by simpa using q
    go_wp2_with (go_at_call 91;refine(zK.out _).mono ?_;rintro e z1 ⟨rfl,hz⟩;obtain⟨z1,rfl⟩:=Bl.on hz;clear hz;refine Hid.out ?_);refine ah ?_;go_wp2
    go_roundg (h - i)
    case measure=>have:=iB.out;omega
    case rel=>exact⟨i,h,z1,rfl,hih,by omega,rfl,by go_num,rfl,hlo.out,λk u hk hu=>by
     obtain⟨b1,b2⟩:=aZ.1 hu;obtain⟨b3,b4⟩:=aZ.1 HX.out;have h9:=HGE.out;by_cases e:k=h
     .subst e;rw[HX.out]at hu;cases hu;exact h9
     .have a2:=(Du.1 HD.out) h k (by rw[eF];exact b3) (by rw[eF];exact b1) (by omega)
      rw[List.getElem_map,List.getElem_map,b2,b4]at a2;omega⟩
  .obtain rfl:i=j:=by omega
   have hr:=TU HD.out hlo.out hhi.out;have HR:=ah hr;clear hr;by_cases hn2:i<F.length
   .have j1:(i:Int)<(F.length:Int):=by omega
    obtain⟨b,off,kI,hbl,hcell⟩:=HA.out.fact (by omega);subst kI;obtain⟨x,hx⟩:∃x,F[i]?=some x:=⟨F[i],aT hn2⟩;obtain⟨e0,e1,e2,e3,e4,e5⟩:=TW (λz hz=>hcell i x hx z hz) rfl;clear hcell;have HQ:Hid (E=(kN x.ref r==0)):=by show _=_;rw[<-HE.out,HR.out,hx,RV]
    clear hx;have zK:=ah (HC.out x);generalize kN x.ref r=y at zK HQ;clear HR HE;cases q:(y==0)with
    |true=>
     obtain rfl:E=true:=by rw[HQ.out,q]
     clear HQ;go_wp2_with (go_at_call 91;refine(zK.out _).mono ?_;rintro e z1 ⟨rfl,hz⟩;obtain⟨z1,rfl⟩:=Bl.on hz;clear hz;refine Hid.out ?_);refine ah ?_;go_wp2
     go_ret2
     exact⟨_,rfl,Bl.prop _⟩
    |false=>
     obtain rfl:E=false:=by rw[HQ.out,q]
     clear HQ;go_wp2_with (go_at_call 91;refine(zK.out _).mono ?_;rintro e z1 ⟨rfl,hz⟩;obtain⟨z1,rfl⟩:=Bl.on hz;clear hz;refine Hid.out ?_);refine ah ?_;go_wp2
     go_ret2
     exact⟨_,rfl,Bl.prop _⟩
   .obtain rfl:E=false:=by rw[<-HE.out,HR.out,lY (by omega)]
    have j1:decide ((i:Int)<(F.length:Int))=false:=by rw[decide_eq_false_iff_not];omega
    clear HR HE;go_wp2
    go_ret2
    exact⟨_,rfl,Bl.prop _⟩
end
section
open Go.RowKit
theorem TY(F:List aB)(A:Option Addr)(c:Nat)(p:Nat)(r:Int)(w:World)(hA:At w 6 A F.length c (bE F))(hn:F.length<=1000000)(hd:bB F)(hp:w.cell? ⟨p,0,none⟩=some (.int .i64 r)):
 Calls Tryz.prog 58 #[.slice A F.length c,.func (.func 59) #[] #[.pointer (some ⟨p,0,none⟩)]] w (Cv (jT F r) w):=by
 have hpl:p<w.heap.size:=lt_of_cell hp;have HA:=ah hA;clear hA;have HD:=ah hd;clear hd;have HP:=ah hp;clear hp;go_enter Tryz.func58,Tryz.ntmps58;go_upto_region 1 with(fail)
 generalize hW0:World.alloc _ _=W0;obtain⟨HB,hh0⟩:=bx1 hW0;clear hW0;have k0:=bW (i:=0) hh0 rfl;clear hh0;change Code.wp _ _ _ _ (Bl.val (⟨W0,aD _ _⟩:Bl W0));generalize(⟨W0,aD _ _⟩:Bl W0)=s0;have Pb:=ah (λz:Bl W0=>Nb F A c w.heap.size p r z.val (HA.out.below (by omega) (ay HB.out z.prop)) hn HD.out (k0 z) (((ay HB.out z.prop).cell (p:=⟨p,0,none⟩) hpl).trans HP.out));go_wp2_with (go_at_call 90;refine(Pb.out _).mono ?_;rintro e z ⟨n,rfl,hz⟩;obtain⟨z,rfl⟩:=Bl.on hz;clear hz;refine Hid.out ?_);refine ah ?_;go_wp2
 go_ret2
 exact⟨_,rfl,ay HB.out (Bl.prop _)⟩
theorem T9(F:List aB)(A:Option Addr)(c:Nat)(r:Int)(w:World)(hA:At w 6 A F.length c (bE F))(hn:F.length<=1000000)(hd:bB F):
 Calls Tryz.prog 33 #[.slice A F.length c,.int .i64 r] w (Cv (jT F r) w):=by
 have HA:=ah hA;clear hA;have HD:=ah hd;clear hd;go_enter Tryz.func33,Tryz.ntmps33;go_upto_region 1 with(fail)
 generalize hW0:World.alloc _ _=W0;obtain⟨HB,hh0⟩:=bx1 hW0;clear hW0;have k0:=bW (i:=0) hh0 rfl;clear hh0;change Code.wp _ _ _ _ (Bl.val (⟨W0,aD _ _⟩:Bl W0));generalize(⟨W0,aD _ _⟩:Bl W0)=s0;have Pb:=ah (λz:Bl W0=>TY F A c w.heap.size r z.val (HA.out.below (by omega) (ay HB.out z.prop)) hn HD.out (k0 z));go_wp2_with (go_at_call 58;refine(Pb.out _).mono ?_;rintro e z ⟨n,rfl,hz⟩;obtain⟨z,rfl⟩:=Bl.on hz;clear hz;refine Hid.out ?_);refine ah ?_;go_wp2
 go_ret2
 exact⟨_,rfl,ay HB.out (Bl.prop _)⟩
end
open Go.RowKit
def sK(C:au)(x:aB):Bool:=mR C x.ref x.act x.low x.high x.filed
def gY(C:au):Int->List aB->Bool
 |_,[]=>true
 |prev,x::l=>sK C x&&(decide (prev<x.ref)&&gY C x.ref l)
def KT:Option aX->aX->Bool
 |none,_=>true
 |some a,b=>decide (EO a b)
def nU(F:List aB):Option aX->List aX->Bool
 |_,[]=>true
 |p,b::l=>jT F b.ref&&(jT F b.next&&((!(b.ref==b.next))&&(KT p b&&nU F (some b) l)))
def fZ(C:au)(f:bR):Bool:=C.valid&&((!(decide (f.house<0)||decide (C.aF<=f.house)))&&((!(decide (4000<(f.facts.length:Int))||decide (4000<(f.orders.length:Int))))&&(gY C 0 f.facts&&nU f.facts none f.orders)))
theorem ku{C:au}:∀{prev:Int}{l:List aB},gY C prev l=true->∀x∈l,prev<x.ref/\sK C x=true
 |_,[],_,x,hx=>by cases hx
 |prev,y::l,h,x,hx=>by
  simp only[gY,bM,decide_eq_true_eq]at h;rcases d_.1 hx with e|e
  .subst e;exact⟨h.2.1,h.1⟩
  .have:=ku h.2.2 x e
   exact⟨by omega,this.2⟩
theorem iZ{C:au}:∀{prev:Int}{l:List aB},gY C prev l=true->bB l
 |_,[],_=>List.Pairwise.nil
 |prev,y::l,h=>by
  simp only[gY,bM,decide_eq_true_eq]at h;unfold bB;rw[l6,yX];refine⟨λr hr=>?_,iZ h.2.2⟩;obtain⟨x,hx,rfl⟩:=dU.1 hr;exact(ku h.2.2 x hx).1
theorem zw(v:CV)(C:au)(fv:FV)(f:bR)(w:World)(hC:bU w v C)(hF:fM w fv f):Calls Tryz.prog 12 #[v.val C,fv.val f] w (dx (.bool (fZ C f)) w):=by
 obtain⟨⟨dF,dG⟩,⟨dH,dK⟩,⟨dV,dn⟩,⟨dQ,dh⟩,⟨dz,dB⟩⟩:=v;obtain⟨⟨fA,fc⟩,⟨oA,oc⟩⟩:=fv;obtain⟨ho,F,O⟩:=f;obtain⟨hl1,hl2⟩:=hF.abz;obtain⟨hl3,hl4⟩:=hF.abA;simp only at hl1 hl2 hl3 hl4;have hfx:F.length<=9223372036854775807:=by omega
 have hox:O.length<=9223372036854775807:=by omega
 have Vt:Hid (At w 6 fA F.length fc (bE F)):=hF.facts;have HOS:Hid (At w 2 oA O.length oc (eB O)):=hF.orders;clear hF;have HC:=ah hC;clear hC;simp only[CV.val,CV.cells,FV.val,FV.cells];generalize hE:fZ C ⟨ho,F,O⟩=E;simp only[fZ]at hE;have HE:=ah hE;clear hE;go_enter Tryz.func12,Tryz.ntmps12;go_upto_region 1 with(fail)
 generalize hW0:World.alloc _ _=W0;obtain⟨HB,hh0,g_⟩:=IQ hW0;clear hW0;obtain⟨jA,jB,jK,j4,j5,kV,lT⟩:=Fg hh0;clear hh0;obtain⟨o_,qy,rQ⟩:=kc3 g_;clear g_;change Code.wp _ _ _ _ (Bl.val (⟨W0,aD _ _⟩:Bl W0));generalize(⟨W0,aD _ _⟩:Bl W0)=s0;have TI:=ah (λz:Bl W0=>uU (⟨⟨dF,dG⟩,⟨dH,dK⟩,⟨dV,dn⟩,⟨dQ,dh⟩,⟨dz,dB⟩⟩:CV) C z.val (HC.out.below (ay HB.out z.prop)));simp only[CV.val,CV.cells]at TI;go_wp2_with (go_at_call 31;refine(TI.out _).mono ?_;rintro e z ⟨n,rfl,hz⟩;obtain⟨z,rfl⟩:=Bl.on hz;clear hz;refine Hid.out ?_);refine ah ?_;clear TI;cases hv:C.valid with
 |false=>
  obtain⟨f1,f2⟩:=au.MI hv;obtain rfl:E=false:=by rw[<-HE.out,hv];rfl
  clear hv;go_wp2;go_ret;exact⟨rfl,ay HB.out (Bl.prop _)⟩
 |true=>
  rw[au.JC hv];have HV:=ah hv;clear hv;obtain⟨b1,mE,hE⟩:∃b,Hid ((!(decide (ho<0)||decide (C.aF<=ho)))=b)/\cond (!(decide (ho<0)||decide (C.aF<=ho))) true false=b:=⟨_,rfl,(iJ _).symm⟩;simp only[Me]at hE;repeat' (first|(replace hE:=uh hE (by assumption))|(replace hE:=uj hE (by assumption))|(replace hE:=l7 hE;rcases hE with⟨q,q',hE⟩|⟨q,q',hE⟩)|(replace hE:=jo hE;rcases hE with⟨q,hE⟩|⟨q,hE⟩)|fail)
  all_goals first
   |focus
    obtain rfl:b1=false:=hE.symm;clear hE
    as_aux_lemma=>
     obtain rfl:E=false:=by rw[<-HE.out,HV.out,mE.out];rfl
     go_wp2;go_ret;exact⟨rfl,ay HB.out (Bl.prop _)⟩
   |focus
    obtain rfl:b1=true:=hE.symm;clear hE
    as_aux_lemma=>
     have Mg:=mE;obtain⟨b2,Mf,hE⟩:∃b,Hid ((!(decide (4000<(F.length:Int))||decide (4000<(O.length:Int))))=b)/\cond (!(decide (4000<(F.length:Int))||decide (4000<(O.length:Int)))) true false=b:=⟨_,rfl,(iJ _).symm⟩;simp only[Me]at hE;repeat' (first|(replace hE:=uh hE (by assumption))|(replace hE:=uj hE (by assumption))|(replace hE:=l7 hE;rcases hE with⟨q,q',hE⟩|⟨q,q',hE⟩)|(replace hE:=jo hE;rcases hE with⟨q,hE⟩|⟨q,hE⟩)|fail)
     all_goals first
      |focus
       obtain rfl:b2=false:=hE.symm;clear hE
       as_aux_lemma=>
        obtain rfl:E=false:=by rw[<-HE.out,HV.out,Mg.out,Mf.out];rfl
        go_wp2;go_ret;exact⟨rfl,ay HB.out (Bl.prop _)⟩
      |focus
       obtain rfl:b2=true:=hE.symm;clear hE
       as_aux_lemma=>
        have Qf:=Mf;go_wp2
        go_loopg [47] F.length (λgk v47 wr=>∃(j:Nat)(prev:Int)(z:Bl W0),gk=F.length - j/\j<=F.length/\v47= .int .i64 j/\wr=z.val/\Hid ((j=0/\prev=0)\/∃(i:Nat)(y:aB),j=i+1/\F[i]?=some y/\y.ref=prev)/\Hid (gY C 0 F=gY C prev (F.drop j)))
        case atStart=>exact⟨0,0,_,rfl,aV _,rfl,rfl,.inl ⟨rfl,rfl⟩,rfl⟩
        case round=>
         obtain⟨j,prev,z,eH,hj,rfl,rfl,hlast,hpre⟩:=hrel;have iB:=ah eH;clear eH;by_cases hlt:j<F.length
         .obtain⟨fb,fo,kI,hfb,hcell⟩:=Vt.out.fact (by omega)
          subst kI;obtain⟨⟨re,ac,lo,hi,fi,se⟩,hx⟩:∃x,F[j]?=some x:=⟨F[j],aT hlt⟩;obtain⟨e0,e1,e2,e3,e4,e5⟩:=TW (λz hz=>hcell j _ hx z (ay HB.out hz)) rfl;have HST:Hid (gY C 0 F=(sK C ⟨re,ac,lo,hi,fi,se⟩&&(decide (prev<re)&&gY C re (F.drop (j+1))))):=by show _=_;rw[hpre.out,FB hx];rfl
          have HX:=ah hx;clear hx;have j1:(j:Int)<(F.length:Int):=by omega
          go_upto_region 9 with(fail)
          generalize hWa:World.alloc _ _=Wa;obtain⟨hba,hxa⟩:=bx1' hWa;clear hWa;have o9:Hid (Below W0.heap.size W0 Wa):=ay z.prop hba;obtain⟨d0,d1,d2,d3,d4,d5⟩:=kc6 hxa;have c0:=vW o9.out jA;have c1:=vW o9.out jB;have c2:=vW o9.out jK;have c3:=vW o9.out j4;have c4:=vW o9.out j5;have c5:=vW o9.out kV;have c6:=vW o9.out lT;have h0:=vW o9.out o_;have h1:=vW o9.out qy;have h2:=vW o9.out rQ;clear hxa hba;change Code.wp _ _ _ _ (Bl.val (⟨Wa,aD _ _⟩:Bl Wa));generalize(⟨Wa,aD _ _⟩:Bl Wa)=sa;have KU:=ah (λs:Bl Wa=>Jb (⟨⟨dF,dG⟩,⟨dH,dK⟩,⟨dV,dn⟩,⟨dQ,dh⟩,⟨dz,dB⟩⟩:CV) C re ac lo hi fi se s.val);simp only[CV.val,CV.cells]at KU;clear e0 e1 e2 e3 e4 e5 jA jB jK j4 j5 kV lT o_ qy rQ;rcases hlast.out with⟨hj0,hp0⟩|⟨i,y,rfl,hy,rfl⟩
          .have q4:decide ((0:Int)<(j:Int))=false:=by rw[decide_eq_false_iff_not];omega
           have q5:decide (0<j)=false:=by rw[decide_eq_false_iff_not];omega
           have q6:¬(0:Int)<(j:Int):=by omega
           have q7:¬0<j:=by omega
           have hpv:0=prev:=hp0.symm;subst hpv;clear hj0 hlast hcell;cases q1:sK C ⟨re,ac,lo,hi,fi,se⟩with
           |false=>
            obtain rfl:E=false:=by rw[<-HE.out,HV.out,Mg.out,Qf.out,HST.out,q1];rfl
            have VY:mR C re ac lo hi fi=false:=q1;rw[VY]at KU;go_wp2;refine aI (by kernel_rfl) (by kernel_rfl) ?_;repeat(go_big_quiet_step (first|(go_at_call 32;exact Calls.bY (lit (KU.out _) (by assumption)))|(go_at_call 32;exact Calls.bY (KU.out _))))
            refine aS ?_;rintro _ ⟨zq,rfl⟩;go_wp2;go_ret;exact⟨rfl,ay HB.out (ay o9.out (Bl.prop _))⟩
           |true=>
            have VY:mR C re ac lo hi fi=true:=q1;rw[VY]at KU;clear VY;have q3:decide ((0:Int)<re)=true:=by
             rw[decide_eq_true_eq];have h:=q1;unfold sK mR at h;simp only[bM,decide_eq_true_eq]at h;omega
            have Ev:=ah q3;have uT:=ah q1;clear q3 q1;have Ae:Hid (gY C 0 F=gY C re (F.drop (j+1))):=by show _=_;rw[HST.out,uT.out,Ev.out];rfl
            go_wp2;refine aI (by kernel_rfl) (by kernel_rfl) ?_;repeat(go_big_quiet_step (first|(go_at_call 32;exact Calls.bY (lit (KU.out _) (by assumption)))|(go_at_call 32;exact Calls.bY (KU.out _))))
            refine aS ?_;rintro _ ⟨zq,rfl⟩;go_wp2
            go_roundg (F.length - (j+1))
            case measure=>have:=iB.out;omega
            case rel=>exact⟨j+1,re,⟨_,ay o9.out (Bl.prop _)⟩,rfl,by omega,by go_num,rfl,.inr ⟨j,_,rfl,HX.out,rfl⟩,Ae.out⟩
          .have g0:∀s:Bl Wa,s.val.cell? ⟨fb,fo+i*6,none⟩=some (.int .i64 y.ref):=λs=>hcell i y hy s.val (ay (ay HB.out o9.out) s.prop) 0 (by omega)
           have q4:decide ((0:Int)<((i+1:Nat):Int))=true:=by rw[decide_eq_true_eq];omega
           have q5':((i+1:Nat):Int) - 1=(i:Int):=by omega
           have i1:(i:Int)<(F.length:Int):=by omega
           clear hy hlast hcell;generalize y.ref=prev at HST g0;cases q1:sK C ⟨re,ac,lo,hi,fi,se⟩with
           |false=>
            obtain rfl:E=false:=by rw[<-HE.out,HV.out,Mg.out,Qf.out,HST.out,q1];rfl
            have VY:mR C re ac lo hi fi=false:=q1;rw[VY]at KU;go_wp2;refine aI (by kernel_rfl) (by kernel_rfl) ?_;repeat(go_big_quiet_step (first|(go_at_call 32;exact Calls.bY (lit (KU.out _) (by assumption)))|(go_at_call 32;exact Calls.bY (KU.out _))))
            refine aS ?_;rintro _ ⟨zq,rfl⟩;go_wp2;go_ret;exact⟨rfl,ay HB.out (ay o9.out (Bl.prop _))⟩
           |true=>
            have VY:mR C re ac lo hi fi=true:=q1;rw[VY]at KU;clear VY;have uT:=ah q1;clear q1;cases q3:decide (prev<re)with
            |true=>
             have q5:decide (re<=prev)=false:=by rw[decide_eq_true_eq]at q3;rw[decide_eq_false_iff_not];omega
             have Ae:Hid (gY C 0 F=gY C re (F.drop (i+1+1))):=by show _=_;rw[HST.out,uT.out,q3];rfl
             go_wp2;refine aI (by kernel_rfl) (by kernel_rfl) ?_;repeat(go_big_quiet_step (first|(go_at_call 32;exact Calls.bY (lit (KU.out _) (by assumption)))|(go_at_call 32;exact Calls.bY (KU.out _))))
             refine aS ?_;rintro _ ⟨zq,rfl⟩;go_wp2
             go_roundg (F.length - (i+1+1))
             case measure=>have:=iB.out;omega
             case rel=>exact⟨i+1+1,re,⟨_,ay o9.out (Bl.prop _)⟩,rfl,by omega,by go_num,rfl,.inr ⟨i+1,_,rfl,HX.out,rfl⟩,Ae.out⟩
            |false=>
             have q5:decide (re<=prev)=true:=by rw[decide_eq_false_iff_not]at q3;rw[decide_eq_true_eq];omega
             obtain rfl:E=false:=by rw[<-HE.out,HV.out,Mg.out,Qf.out,HST.out,uT.out,q3];rfl
             go_wp2;refine aI (by kernel_rfl) (by kernel_rfl) ?_;repeat(go_big_quiet_step (first|(go_at_call 32;exact Calls.bY (lit (KU.out _) (by assumption)))|(go_at_call 32;exact Calls.bY (KU.out _))))
             refine aS ?_;rintro _ ⟨zq,rfl⟩;go_wp2;go_ret;exact⟨rfl,ay HB.out (ay o9.out (Bl.prop _))⟩
         .obtain rfl:j=F.length:=by omega
          have Vu:Hid (gY C 0 F=true):=by show _=_;rw[hpre.out,List.drop_of_length_le (bH _)];rfl
          clear hpre hlast iB;have HD:Hid (bB F):=iZ Vu.out;have R8:F.length<=1000000:=by
           have h:=Qf.out;simp only[iE,oH,decide_eq_false_iff_not]at h;omega
          go_wp2
          go_loopg [76] O.length (λgk v76 wr=>∃(j:Nat)(prev:Option aX)(z:Bl W0),gk=O.length - j/\j<=O.length/\v76= .int .i64 j/\wr=z.val/\Hid ((j=0/\prev=none)\/∃(i:Nat)(a:aX),j=i+1/\O[i]?=some a/\prev=some a)/\Hid (nU F none O=nU F prev (O.drop j)))
          case atStart=>exact⟨0,none,_,rfl,aV _,rfl,rfl,.inl ⟨rfl,rfl⟩,rfl⟩
          case round=>
           obtain⟨j,prev,z,eH,hj,rfl,rfl,hlast,hpre⟩:=hrel;have iB:=ah eH;clear eH;by_cases hlt:j<O.length
           .obtain⟨ob,oo,kI,hob,hcell⟩:=HOS.out.uQ (by omega)
            subst kI;obtain⟨⟨br,bn⟩,hx⟩:∃x,O[j]?=some x:=⟨O[j],aT hlt⟩;have e0:∀s:Bl W0,s.val.cell? ⟨ob,oo+j*2,none⟩=some (.int .i64 br):=λs=>hcell j _ hx s.val (ay HB.out s.prop) 0 (by omega);have e1:∀s:Bl W0,s.val.cell? ⟨ob,oo+j*2+1,none⟩=some (.int .i64 bn):=λs=>hcell j _ hx s.val (ay HB.out s.prop) 1 (by omega);have HST:Hid (nU F none O=(jT F br&&(jT F bn&&((!(br==bn))&&(KT prev ⟨br,bn⟩&&nU F (some ⟨br,bn⟩) (O.drop (j+1))))))):=by show _=_;rw[hpre.out,FB hx];rfl
            have HX:=ah hx;clear hx;have j1:(j:Int)<(O.length:Int):=by omega
            go_upto_region 15 with(fail)
            generalize hWa:World.alloc _ _=Wa;obtain⟨hba,hxa⟩:=bx1' hWa;clear hWa;have o9:Hid (Below W0.heap.size W0 Wa):=ay z.prop hba;obtain⟨d0,d1⟩:=kc2 hxa;have c0:=vW o9.out jA;have c1:=vW o9.out jB;have c2:=vW o9.out jK;have c3:=vW o9.out j4;have c4:=vW o9.out j5;have c5:=vW o9.out kV;have c6:=vW o9.out lT;have h0:=vW o9.out o_;have h1:=vW o9.out qy;have h2:=vW o9.out rQ;clear hxa hba;change Code.wp _ _ _ _ (Bl.val (⟨Wa,aD _ _⟩:Bl Wa));generalize(⟨Wa,aD _ _⟩:Bl Wa)=sa;have Zn:=ah (λ(r:Int)(s:Bl Wa)=>T9 F fA fc r s.val (Vt.out.below (by omega) (ay (ay HB.out o9.out) s.prop)) R8 HD.out);clear e0 e1 jA jB jK j4 j5 kV lT o_ qy rQ;go_wp2_with (go_at_call 33;refine(Zn.out br _).mono ?_;rintro e z ⟨n,rfl,hz⟩;obtain⟨z,rfl⟩:=Bl.on hz;clear hz;refine Hid.out ?_);refine ah ?_;go_wp2_with (go_at_call 33;refine(Zn.out bn _).mono ?_;rintro e z ⟨n,rfl,hz⟩;obtain⟨z,rfl⟩:=Bl.on hz;clear hz;refine Hid.out ?_);refine ah ?_;clear Zn;rcases hlast.out with⟨hj0,rfl⟩|⟨i,a,rfl,ha,rfl⟩
            .have p4:decide ((0:Int)<(j:Int))=false:=by rw[decide_eq_false_iff_not];omega
             have p5:decide (0<j)=false:=by rw[decide_eq_false_iff_not];omega
             have p6:¬(0:Int)<(j:Int):=by omega
             have p7:¬0<j:=by omega
             clear hj0 hlast hcell
             focus
              cases q1:jT F br
              focus
               obtain rfl:E=false:=by rw[<-HE.out,HV.out,Mg.out,Qf.out,Vu.out,HST.out,q1];rfl
              rotate_left
              focus
               cases q2:jT F bn
               focus
                obtain rfl:E=false:=by rw[<-HE.out,HV.out,Mg.out,Qf.out,Vu.out,HST.out,q1,q2];rfl
               rotate_left
               focus
                cases q3:(br==bn)
                focus
                 have Ae:Hid (nU F none O=nU F (some ⟨br,bn⟩) (O.drop (j+1))):=by show _=_;rw[HST.out,q1,q2,q3];rfl
                 go_wp2;refine aI (by kernel_rfl) (by kernel_rfl) ?_;repeat(go_big_quiet_step (first|fail))
                 refine aS ?_;rintro _ ⟨zq,rfl⟩;go_wp2
                 go_roundg (O.length - (j+1))
                 case measure=>have:=iB.out;omega
                 case rel=>exact⟨j+1,some ⟨br,bn⟩,⟨_,ay o9.out (Bl.prop _)⟩,rfl,by omega,by go_num,rfl,.inr ⟨j,_,rfl,HX.out,rfl⟩,Ae.out⟩
                focus
                 obtain rfl:E=false:=by rw[<-HE.out,HV.out,Mg.out,Qf.out,Vu.out,HST.out,q1,q2,q3];rfl
              all_goals
               go_wp2;refine aI (by kernel_rfl) (by kernel_rfl) ?_;repeat(go_big_quiet_step (first|fail))
               refine aS ?_;rintro _ ⟨zq,rfl⟩;go_wp2;go_ret;exact⟨rfl,ay HB.out (ay o9.out (Bl.prop _))⟩
            .have g0:∀s:Bl Wa,s.val.cell? ⟨ob,oo+i*2,none⟩=some (.int .i64 a.ref):=λs=>hcell i a ha s.val (ay (ay HB.out o9.out) s.prop) 0 (by omega)
             have g1:∀s:Bl Wa,s.val.cell? ⟨ob,oo+i*2+1,none⟩=some (.int .i64 a.next):=λs=>hcell i a ha s.val (ay (ay HB.out o9.out) s.prop) 1 (by omega);have p4:decide ((0:Int)<((i+1:Nat):Int))=true:=by rw[decide_eq_true_eq];omega
             have p5:((i+1:Nat):Int) - 1=(i:Int):=by omega
             have i1:(i:Int)<(O.length:Int):=by omega
             have Vv:=ah (λs:Bl Wa=>WO a ⟨br,bn⟩ s.val);have HY:Hid (decide (0<=Ch a ⟨br,bn⟩)= !KT (some a) ⟨br,bn⟩):=Ze a ⟨br,bn⟩;generalize Ch a ⟨br,bn⟩=y at Vv HY;clear ha hlast hcell
             focus
              cases q1:jT F br
              focus
               obtain rfl:E=false:=by rw[<-HE.out,HV.out,Mg.out,Qf.out,Vu.out,HST.out,q1];rfl
              rotate_left
              focus
               cases q2:jT F bn
               focus
                obtain rfl:E=false:=by rw[<-HE.out,HV.out,Mg.out,Qf.out,Vu.out,HST.out,q1,q2];rfl
               rotate_left
               focus
                cases q3:(br==bn)
                focus
                 cases q4:KT (some a) ⟨br,bn⟩
                 focus
                  have q5:decide (0<=y)=true:=by rw[HY.out,q4];rfl
                  obtain rfl:E=false:=by rw[<-HE.out,HV.out,Mg.out,Qf.out,Vu.out,HST.out,q1,q2,q3,q4];rfl
                 rotate_left
                 focus
                  have q5:decide (0<=y)=false:=by rw[HY.out,q4];rfl
                  have Ae:Hid (nU F none O=nU F (some ⟨br,bn⟩) (O.drop ((i+1)+1))):=by show _=_;rw[HST.out,q1,q2,q3,q4];rfl
                  go_wp2;refine aI (by kernel_rfl) (by kernel_rfl) ?_;repeat(go_big_quiet_step (first|(go_at_call 34;exact Calls.bY (lit (Vv.out _) (by assumption)))|(go_at_call 34;exact Calls.bY (Vv.out _))))
                  refine aS ?_;rintro _ ⟨zq,rfl⟩;go_wp2
                  go_roundg (O.length - ((i+1)+1))
                  case measure=>have:=iB.out;omega
                  case rel=>exact⟨(i+1)+1,some ⟨br,bn⟩,⟨_,ay o9.out (Bl.prop _)⟩,rfl,by omega,by go_num,rfl,.inr ⟨(i+1),_,rfl,HX.out,rfl⟩,Ae.out⟩
                rotate_left
                focus
                 obtain rfl:E=false:=by rw[<-HE.out,HV.out,Mg.out,Qf.out,Vu.out,HST.out,q1,q2,q3];rfl
              all_goals
               go_wp2;refine aI (by kernel_rfl) (by kernel_rfl) ?_;repeat(go_big_quiet_step (first|(go_at_call 34;exact Calls.bY (lit (Vv.out _) (by assumption)))|(go_at_call 34;exact Calls.bY (Vv.out _))))
               refine aS ?_;rintro _ ⟨zq,rfl⟩;go_wp2;go_ret;exact⟨rfl,ay HB.out (ay o9.out (Bl.prop _))⟩
           .obtain rfl:j=O.length:=by omega
            obtain rfl:E=true:=by rw[<-HE.out,HV.out,Mg.out,Qf.out,Vu.out,hpre.out,List.drop_of_length_le (bH _)];rfl
            go_wp2;go_ret;exact⟨rfl,ay HB.out (Bl.prop _)⟩
end Go.Proofs.YtpmdedcnbockhaaGreatDoor
