/-
  JwT
-/
import Derived.Test.YtpmdedcnbockhaaGreatDoorP38
import Derived.Test.YtpmdedcnbockhaaGreatDoorP40
set_option maxRecDepth 100000
set_option maxHeartbeats 8000000
namespace Go.Proofs.YtpmdedcnbockhaaGreatDoor
open Go.RowKit Go.Shelf
theorem Yr{a b:List UInt8}(h:a<b):Op.bytesLess (⟨a.toArray⟩:ByteArray).toList (⟨b.toArray⟩:ByteArray).toList=true:=by
 rw[bytesLess_eq,decide_eq_true_eq];simpa using h
structure Yt(W:World)(d:Int)(hA:Option Addr)(hn hc:Nat)(uA:Option Addr)(un uc:Nat)(mA:Option Addr)(mn mc:Nat)(x:ByteArray):Prop where
 mk::
 ex:∃(s:ak)(tv:TV),d=s.day/\(hA=tv.h.A/\hn=s.aj.length/\hc=tv.h.c)/\(uA=tv.u.A/\un=s.used.length/\uc=tv.u.c)/\(mA=tv.m.A/\mn=s.marks.length/\mc=tv.m.c)/\aW W tv s/\CK s/\x=⟨s.text.toArray⟩
theorem Yt.calls{W:World}{d:Int}{hA:Option Addr}{hn hc:Nat}{uA:Option Addr}{un uc:Nat}{mA:Option Addr}{mn mc:Nat}{x:ByteArray}(h:Yt W d hA hn hc uA un uc mA mn mc x)(z:Bl W)(hT:Tab z.val):Calls Tryz.prog 25 #[.agg #[.int .i64 d,.slice hA hn hc,.slice uA un uc,.slice mA mn mc]] z.val (dx (.string x) z.val):=by
 obtain⟨s,tv,rfl,⟨rfl,rfl,rfl⟩,⟨rfl,rfl,rfl⟩,⟨rfl,rfl,rfl⟩,h1,h2,rfl⟩:=h.ex;exact GN tv s z.val (h1.below z.prop) h2 hT
theorem Vm{C:au}{P:List Int}(h:jy C P=true):C.jU P=true:=by
 have h2:=zF h;unfold jy at h;simp only[bM,iE,decide_eq_false_iff_not]at h;unfold au.jU;simp only[bM,decide_eq_true_eq,fq];exact⟨by omega,by omega,λp hp=>h2 p hp⟩
theorem Vn{w:World}{v:SV}{r:List ak}(h:jL w v r):r.length<=9223372036854775807:=by
 obtain⟨_,_,h,_⟩:=h;exact oZ h
theorem Ms(v:CV)(C:au)(pv:SV)(P:List Int)(lv:SV)(l:List Int)(w:World)(hC:bU w v C)(hP:At w 1 pv.A P.length pv.c (aR P))(hL:At w 1 lv.A l.length lv.c (aR l))(hT:Tab w):
 Calls Tryz.prog 7 #[v.val C,.slice pv.A P.length pv.c,.slice lv.A l.length lv.c] w (dx (.bool true) w):=by
 obtain⟨⟨hA,hc⟩,⟨uA,uc⟩,⟨aA,ac⟩,⟨kA,kc⟩,⟨oA,oc⟩⟩:=v;obtain⟨pA,pc⟩:=pv;obtain⟨lA,lc⟩:=lv;have lp:=oZ hP;have ll:=oZ hL;have HC:=ah hC;clear hC;have HP:=ah hP;clear hP;have HL:=ah hL;clear hL;have HT:=ah hT;clear hT;simp only[CV.val,CV.cells];go_enter Tryz.func7,Tryz.ntmps7;go_upto_region 1 with(fail)
 generalize hW0:World.alloc _ _=W0;obtain⟨HB0,h0⟩:=bx1 hW0;have HX0:Hid (vK W0 w.heap.size ⟨⟨hA,hc⟩,⟨uA,uc⟩,⟨aA,ac⟩,⟨kA,kc⟩,⟨oA,oc⟩⟩ C):=⟨HC.out.below HB0.out,⟨[],by rw[b_];exact h0⟩⟩;clear hW0 h0 HC;have HH:=ah (Vh W0 (HT.out.below HB0.out));go_wp2_with (go_at_call 9;refine HH.out.mono ?_;rintro _ W1 ⟨rfl,hb⟩;refine Hid.out ?_);refine ah ?_;have oU:=ah (HX0.out.below hb);have HB1:Hid (Below w.heap.size w W1):=ay HB0.out hb;clear hb HX0 HB0 HH;obtain⟨c0,c1,c2,c3,c4,c5,c6⟩:=oU.out.cells;simp only at c0 c1 c2 c3 c4 c5 c6;have ho:=ado ⟨⟨hA,hc⟩,⟨uA,uc⟩,⟨aA,ac⟩,⟨kA,kc⟩,⟨oA,oc⟩⟩ C pA P.length pc lA l.length lc W1 oU.out.con lp ll;simp only[CV.val,CV.cells]at ho;have HO:=ah ho;clear ho;go_wp2_with (go_at_call 10;refine HO.out.mono ?_;rintro _ W2 ⟨x,rfl,_,hb⟩;refine Hid.out ?_);refine ah ?_;have uM:=ah (oU.out.below hb);have HB2:Hid (Below w.heap.size w W2):=ay HB1.out hb;clear hb oU HB1 HO c0 c1 c2 c3 c4 c5 c6;cases x with
 |false=>
  go_wp2;go_ret;exact⟨rfl,HB2.out⟩
 |true=>
  obtain⟨c0,c1,c2,c3,c4,c5,c6⟩:=uM.out.cells;simp only at c0 c1 c2 c3 c4 c5 c6;have hr:=Sl ⟨⟨hA,hc⟩,⟨uA,uc⟩,⟨aA,ac⟩,⟨kA,kc⟩,⟨oA,oc⟩⟩ C ⟨lA,lc⟩ l W2 uM.out.con (HL.out.below (by omega) HB2.out);simp only[CV.val,CV.cells]at hr;have HR:=ah hr;clear hr;go_wp2_with (go_at_call 15;refine HR.out.mono ?_;rintro _ W3 ⟨sA,sc,R,e1,rfl,hb,hcase⟩;refine Hid.out ?_);refine ah ?_;have rF:=ah (uM.out.below hb);have HB3:Hid (Below w.heap.size w W3):=ay HB2.out hb;have HR1:=ah hcase;clear hb hcase uM HB2 HR c0 c1 c2 c3 c4 c5 c6;obtain⟨c0,c1,c2,c3,c4,c5,c6⟩:=rF.out.cells;simp only at c0 c1 c2 c3 c4 c5 c6;have hj:=Vk ⟨⟨hA,hc⟩,⟨uA,uc⟩,⟨aA,ac⟩,⟨kA,kc⟩,⟨oA,oc⟩⟩ C ⟨lA,lc⟩ l ⟨pA,pc⟩ P W3 rF.out.con (HL.out.below (by omega) HB3.out) (HP.out.below (by omega) HB3.out);simp only[CV.val,CV.cells]at hj;have HJ:=ah hj;clear hj;go_wp2_with (go_at_call 22;refine HJ.out.mono ?_;rintro _ W4 ⟨vA,vc,V,e2,rfl,hb,hcase⟩;refine Hid.out ?_);refine ah ?_;have Ox:=ah (rF.out.below hb);have zU:Hid (Below w.heap.size w W4):=ay HB3.out hb;have HY4:=ah hb;have Yc:=ah hcase;have HVA:Hid (At W4 1 vA V.length vc (aR V)):=by
   rcases hcase with⟨_,_,_,_,h⟩|⟨_,rfl,rfl,rfl,_⟩
   .exact h
   .exact fD _ _
  clear hb hcase rF HB3 HJ c0 c1 c2 c3 c4 c5 c6;obtain⟨c0,c1,c2,c3,c4,c5,c6⟩:=Ox.out.cells;simp only at c0 c1 c2 c3 c4 c5 c6;have hj:=Ep ⟨⟨hA,hc⟩,⟨uA,uc⟩,⟨aA,ac⟩,⟨kA,kc⟩,⟨oA,oc⟩⟩ C pA pc P vA vc V W4 Ox.out.con (HP.out.below (by omega) zU.out) HVA.out (HT.out.below zU.out);simp only[CV.val,CV.cells]at hj;have HJ:=ah hj;clear hj;go_wp2_with (go_at_call 23;refine HJ.out.mono ?_;rintro _ W5 ⟨r,A,c,er,rfl,hb,hN,hcb⟩;refine Hid.out ?_);refine ah ?_;have GR:Hid (Below w.heap.size w W5):=ay zU.out hb;have HY5:Hid (Below W3.heap.size W3 W5):=ay HY4.out hb;have HN:=ah hN.at;have Vv:=ah hcb;clear hb hN hcb Ox zU HY4 HVA HJ c0 c1 c2 c3 c4 c5 c6;by_cases h1:e1=0
  .subst h1
   by_cases h2:e2=0
   .subst h2
    obtain⟨HG,HRR,UG⟩:Hid (Good C l)/\Hid (R=C.trail l l.length)/\Hid (jL W5 ⟨sA,sc⟩ R):=by
     rcases HR1.out with⟨_,h2,h3,h4⟩|⟨h1,_⟩
     .exact⟨h2,h3,h4.at.below HY5.out⟩
     .exact absurd rfl h1
    obtain⟨HGP,YW⟩:Hid (C.jU P=true)/\Hid (V=aN C l P l.length):=by
     rcases Yc.out with⟨_,_,h3,h4,_⟩|⟨h1,_⟩
     .exact⟨Vm h3,h4⟩
     .exact absurd rfl h1
    have hcv:=Vv.out;rw[YW.out]at hcv;have hcv:=Vl HG.out HGP.out hcv;clear HR1 Yc Vv YW HY5;rcases hcv with⟨rfl,rfl⟩|⟨rfl,r0,h0,hs⟩
    .simp only[jJ]
     go_wp2;go_ret;exact⟨rfl,GR.out⟩
    .have HTJ:Hid (L_ C l r):=L_.of HG.out HGP.out h0 hs
     clear h0 hs;have hrl:R.length=l.length+1:=by rw[HRR.out,CP]
     have Sw:Hid (R[l.length]?=some (C.sP l)):=by show _=_;rw[HRR.out,J8 (bH _),gV]
     obtain⟨b2,o2,hA2,_,hc2⟩:=UG.out.form (by omega);try simp only at hA2
     subst hA2;obtain⟨⟨⟨Tz,TB⟩,⟨TD,TF⟩,⟨smA,RO⟩⟩,hst,hcs⟩:=hc2 l.length _ Sw.out;generalize hls:C.sP l=s at hst hcs;have ZV:=ah hls;obtain⟨s0,s1,s2,s3⟩:=rz4 hcs rfl;have hin:=λz:Bl W5=>adG ⟨A,c⟩ r ⟨⟨Tz,TB⟩,⟨TD,TF⟩,⟨smA,RO⟩⟩ s z.val (HN.out.below z.prop) (hst.below z.prop) (ZV.out▸HTJ.out.has);simp only[TV.val,TV.cells,ak.cells]at hin;have qB:=ah hin;clear hc2 hst hcs hls hin Sw UG HRR ZV;have hr0:0<r.length:=List.length_pos_of_mem HTJ.out.has;have hrx:=Vn HN.out;obtain⟨b1,o1,hA1,_,hc1⟩:=HN.out.form hr0;try simp only at hA1
     subst hA1;have HF:=ah hc1;clear hc1;obtain⟨T,X6⟩:∃T,Hid ((jh l:Int)=T):=⟨_,rfl⟩;have htk:=λz:Bl W5=>Vo ⟨lA,lc⟩ l z.val (HL.out.below (by omega) (ay GR.out z.prop));rw[X6.out]at htk;have Z8:=ah htk;clear htk;have x1:((R.length:Int)==(l.length:Int)+1)=true:=by rw[beq_iff_eq];omega
     have x2:(l.length:Int)<(R.length:Int):=by omega
     have x3:(l.length:Int)+1<=9223372036854775807:=by have:=HG.out.len;omega
     clear hrl HN HG HGP;obtain⟨z0,hz0⟩:∃z:Bl W5,z.val=W5:=⟨⟨W5,aD _ _⟩,rfl⟩;rw[<-hz0];clear hz0;go_wp2
     go_loopw [14] (λv14 wr=>∃(j:Nat)(z:Bl W5),j<=r.length/\v14= .int .i64 j/\wr=z.val) (λv14 _=>r.length - (intOf v14).toNat)
     case atStart=>exact⟨0,_,aV _,rfl,rfl⟩
     case round=>
      obtain⟨j,z,hj,rfl,rfl⟩:=hrel;by_cases hlt:j<r.length
      .obtain⟨a,ha⟩:∃a,r[j]?=some a:=⟨_,aT hlt⟩
       obtain⟨⟨⟨fQ,eZ⟩,⟨gH,eX⟩,⟨h_,dW⟩⟩,hta,hca⟩:=HF.out j a ha;have RG:a.day=T:=by rw[<-X6.out];exact HTJ.out.day a (cK ha)
       have y0:∀z:Bl W5,z.val.cell? ⟨b1,o1+j*4,none⟩=some (.int .i64 T):=λz=>by rw[<-RG];exact hca z.val z.prop 0 (by omega)
       have y1:∀z:Bl W5,z.val.cell? ⟨b1,o1+j*4+1,none⟩=some (.slice fQ a.aj.length eZ):=λz=>hca z.val z.prop 1 (by omega);have y2:∀z:Bl W5,z.val.cell? ⟨b1,o1+j*4+2,none⟩=some (.slice gH a.used.length eX):=λz=>hca z.val z.prop 2 (by omega);have y3:∀z:Bl W5,z.val.cell? ⟨b1,o1+j*4+3,none⟩=some (.slice h_ a.marks.length dW):=λz=>hca z.val z.prop 3 (by omega);have es:Yt W5 T fQ a.aj.length eZ gH a.used.length eX h_ a.marks.length dW ⟨a.text.toArray⟩:=⟨⟨a,⟨⟨fQ,eZ⟩,⟨gH,eX⟩,⟨h_,dW⟩⟩,RG.symm,⟨rfl,rfl,rfl⟩,⟨rfl,rfl,rfl⟩,⟨rfl,rfl,rfl⟩,hta,(HTJ.out.ok a (cK ha)).ranged,rfl⟩⟩;have Li:Hid (∀(z:Bl W5)(d:Int)(hA:Option Addr)(hn hc:Nat)(uA:Option Addr)(un uc:Nat)(mA:Option Addr)(mn mc:Nat)(x:ByteArray),Yt W5 d hA hn hc uA un uc mA mn mc x->Calls Tryz.prog 25 #[.agg #[.int .i64 d,.slice hA hn hc,.slice uA un uc,.slice mA mn mc]] z.val (dx (.string x) z.val)):=λz d hA hn hc uA un uc mA mn mc x h=>h.calls z (HT.out.below (ay GR.out z.prop));have j1:(j:Int)<(r.length:Int):=by omega
       have HAJ:=ah ha;have HDA:=ah RG;clear ha hta hca RG;go_upto_region 14 with(fail)
       rcases Nat.eq_zero_or_pos j with hj0|hj0
       .subst hj0
        simp only[Nat.zero_mul,jW]at y0 y1 y2 y3;refine aI (by kernel_rfl) (by kernel_rfl) ?_;repeat(go_big_quiet_step ((first|(go_at_call 24;exact Calls.bY (Z8.out _))|(go_at_call 25;exact Calls.bY (Li.out _ _ _ _ _ _ _ _ _ _ _ _ (by first|exact es))))))
        refine aS ?_;rintro _ ⟨z,rfl⟩;go_wp2
        go_roundw
        case rel=>exact⟨0+1,z,by omega,by go_num,rfl⟩
        case measure=>simp[intOf];omega
       .obtain⟨k,hk⟩:∃k,j=k+1:=⟨j - 1,by omega⟩
        subst hk;obtain⟨sp,hsp⟩:∃s,r[k]?=some s:=⟨_,aT (by omega)⟩;obtain⟨⟨⟨phA,phc⟩,⟨puA,puc⟩,⟨pmA,pmc⟩⟩,hpt,hcp⟩:=HF.out k sp hsp;obtain⟨p0,p1,p2,p3⟩:=rz4 hcp rfl;have ep:Yt W5 sp.day phA sp.aj.length phc puA sp.used.length puc pmA sp.marks.length pmc ⟨sp.text.toArray⟩:=⟨⟨sp,⟨⟨phA,phc⟩,⟨puA,puc⟩,⟨pmA,pmc⟩⟩,rfl,⟨rfl,rfl,rfl⟩,⟨rfl,rfl,rfl⟩,⟨rfl,rfl,rfl⟩,hpt,(HTJ.out.ok sp (cK hsp)).ranged,rfl⟩⟩;have hless:=Yr (HTJ.out.less k _ _ hsp HAJ.out);generalize(⟨a.text.toArray⟩:ByteArray)=xs at es hless;generalize(⟨sp.text.toArray⟩:ByteArray)=xp at ep hless;clear hpt hcp hsp hj0;have k1:(k:Int)<(r.length:Int):=by omega
        have kx:max (k:Int) 0=(k:Int):=by omega
        refine aI (by kernel_rfl) (by kernel_rfl) ?_;repeat(go_big_quiet_step ((first|(go_at_call 24;exact Calls.bY (Z8.out _))|(go_at_call 25;exact Calls.bY (Li.out _ _ _ _ _ _ _ _ _ _ _ _ (by first|exact es|exact ep))))))
        refine aS ?_;rintro _ ⟨z,rfl⟩;go_wp2
        go_roundw
        case rel=>exact⟨k+1+1,z,by omega,by go_num,rfl⟩
        case measure=>simp[intOf];omega
      .obtain rfl:j=r.length:=by omega
       clear hlt hj Z8 HF;go_wp2_with (go_at_call 26;refine(qB.out _).mono ?_;rintro _ z ⟨rfl,hz⟩;obtain⟨z,rfl⟩:=Bl.on hz;clear hz);go_ret;exact⟨rfl,ay GR.out (Bl.prop _)⟩
   .have q2:(e2 !=0)=true:=by simp[h2]
    clear h2;go_wp2;go_ret;exact⟨rfl,GR.out⟩
  .have q1:(e1 !=0)=true:=by simp[h1]
   clear h1;go_wp2;go_ret;exact⟨rfl,GR.out⟩
end Go.Proofs.YtpmdedcnbockhaaGreatDoor
