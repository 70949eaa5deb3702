/- part -/
import Derived.Test.YtpmdedcnbockhaaGreatDoorS42
import Derived.Test.YtpmdedcnbockhaaGreatDoorS40
set_option maxRecDepth 100000
set_option maxHeartbeats 8000000
namespace Go.Proofs.YtpmdedcnbockhaaGreatDoor
open Go.RowKit Go.Shelf Tryz
theorem SS{w:World}{v:SV}{r:List ak}(h:iJ w v r):r.length<=9223372036854775807:=by
 obtain⟨_,_,h,_⟩:=h;exact tJ h
theorem Kj(sv uv:SV)(r:List ak)(w:World)(hS:iJ w sv r)(hT:iJ w uv r):Calls prog 28 #[.slice sv.A r.length sv.c,.slice uv.A r.length uv.c] w (dZ (.bool true) w):=by
 obtain⟨bA,bc⟩:=sv;obtain⟨dA,dc⟩:=uv;have hbx:=SS hS;have HS:=ah hS;clear hS;have HT:=ah hT;clear hT;go_enter func28,ntmps28;change Code.wp _ _ _ _ (Bl.val (⟨w,aC _ _⟩:Bl w));generalize(⟨w,aC _ _⟩:Bl w)=z0;go_wp2
 go_loopw [5] (λv5 wr=>∃(j:Nat)(z:Bl w),j<=r.length/\v5= .int .i64 j/\wr=z.val) (λv5 _=>r.length - (intOf v5).toNat)
 case atStart=>exact⟨0,z0,aU _,rfl,rfl⟩
 case round=>
  obtain⟨j,z,hj,rfl,rfl⟩:=hrel;by_cases hlt:j<r.length
  .obtain⟨a,ha⟩:∃a,r[j]?=some a:=⟨_,aS hlt⟩
   obtain⟨b1,o1,hA1,hl1,hc1⟩:=HS.out.form (by omega);obtain⟨uv,hu,hc⟩:=hc1 j a ha;obtain⟨b2,o2,hA2,hl2,hd1⟩:=HT.out.form (by omega);obtain⟨tv,ht,hd⟩:=hd1 j a ha;try simp only at hA1 hA2
   subst hA1 hA2;obtain⟨⟨Mi,Mj⟩,⟨Mk,Ml⟩,⟨Mq,Mr⟩⟩:=uv;obtain⟨⟨eu,dN⟩,⟨eH,dL⟩,⟨fF,bY⟩⟩:=tv;obtain⟨e0,e1,e2,e3⟩:=rz4 hc rfl;obtain⟨f0,f1,f2,f3⟩:=rz4 hd rfl;have Nh:=ah (λz:Bl w=>SF ⟨⟨Mi,Mj⟩,⟨Mk,Ml⟩,⟨Mq,Mr⟩⟩ ⟨⟨eu,dN⟩,⟨eH,dL⟩,⟨fF,bY⟩⟩ a a z.val (hu.below z.prop) (ht.below z.prop));simp only[TV.val,TV.cells,ak.cells,M5.2 rfl]at Nh;clear hc hc1 hu hd hd1 ht ha;have j1:(j:Int)<(r.length:Int):=by omega
   go_upto_region 6 with(fail)
   refine aI ?_;repeat(go_big_quiet_step ((go_at_call 52;exact Calls.dw (Nh.out _))))
   refine aY ?_;rintro _ ⟨z1,rfl⟩;go_wp2
   go_roundw
   case rel=>exact⟨j+1,z1,by omega,by go_num,rfl⟩
   case measure=>simp[intOf];omega
  .obtain rfl:j=r.length:=by omega
   go_wp2;go_ret;exact⟨rfl,Bl.prop _⟩
theorem Lc(v:CV)(C:au)(p:Int)(lv:SV)(l:List Int)(w:World)(hC:bO w v C)(hL:At w 1 lv.A l.length lv.c (aZ l))(hT:Tab w):
 Calls prog 8 #[v.val C,.int .i64 p,.slice lv.A l.length lv.c] w (dZ (.bool true) w):=by
 obtain⟨⟨hA,hc⟩,⟨uA,uc⟩,⟨aA,ac⟩,⟨kA,kc⟩,⟨oA,oc⟩⟩:=v;obtain⟨lA,lc⟩:=lv;have ll:=tJ hL;have HC:=ah hC;clear hC;have HL:=ah hL;clear hL;have HT:=ah hT;clear hT;simp only[CV.val,CV.cells];go_enter func8,ntmps8;go_upto_region 1 with(fail)
 generalize hW0:World.alloc _ _=W0;obtain⟨HB0,h0⟩:=bx1 hW0;have HX0:Hid (wh W0 w.heap.size ⟨⟨hA,hc⟩,⟨uA,uc⟩,⟨aA,ac⟩,⟨kA,kc⟩,⟨oA,oc⟩⟩ C):=⟨HC.out.below HB0.out,⟨[],by rw[bU];exact h0⟩⟩;clear hW0 h0 HC;have HH:=ah (Wp W0 (HT.out.below HB0.out));go_wp2_with (go_at_call 9;refine HH.out.mono ?_;rintro _ W1 ⟨rfl,hb⟩;refine Hid.out ?_);refine ah ?_;have q9:=ah (HX0.out.below hb);have HB1:Hid (Below w.heap.size w W1):=av HB0.out hb;clear hb HX0 HB0 HH;obtain⟨c0,c1,c2,c3,c4,c5,c6⟩:=q9.out.cells;simp only at c0 c1 c2 c3 c4 c5 c6;have ho:=aeD ⟨⟨hA,hc⟩,⟨uA,uc⟩,⟨aA,ac⟩,⟨kA,kc⟩,⟨oA,oc⟩⟩ C none 0 0 lA l.length lc W1 q9.out.con (by omega) ll;simp only[CV.val,CV.cells]at ho;have HO:=ah ho;clear ho;go_wp2_with (go_at_call 10;refine HO.out.mono ?_;rintro _ W2 ⟨x,rfl,hx,hb⟩;refine Hid.out ?_);refine ah ?_;have Bf:=ah (q9.out.below hb);have HB2:Hid (Below w.heap.size w W2):=av HB1.out hb;have HOX:=ah hx;clear hb hx q9 HB1 HO c0 c1 c2 c3 c4 c5 c6;cases x with
 |false=>
  go_wp2;go_ret;exact⟨rfl,HB2.out⟩
 |true=>
  have aiw:l.length<=30:=by first|exact(HOX.out rfl).2|exact(HOX.out trivial).2
  have ZN:=ah aiw;clear aiw HOX;obtain⟨c0,c1,c2,c3,c4,c5,c6⟩:=Bf.out.cells;simp only at c0 c1 c2 c3 c4 c5 c6;have zD:Hid (Below W2.heap.size W2 (W2.alloc (.cells #[.int .i64 p] 3))):=aJ (aC _ _) _;have hj:=EN ⟨⟨hA,hc⟩,⟨uA,uc⟩,⟨aA,ac⟩,⟨kA,kc⟩,⟨oA,oc⟩⟩ C (some ⟨W2.heap.size,0,none⟩) 1 [p] lA lc l (W2.alloc (.cells #[.int .i64 p] 3)) (Bf.out.con.below zD.out) (vZ (xs:=aZ [p]) (bK W2 _) rfl CQ (by unfold maxLen;exact(of_decide_eq_true rfl:(1:Nat)<=9223372036854775807))) (HL.out.below (by omega) (av HB2.out zD.out)) (HT.out.below (av HB2.out zD.out));simp only[CV.val,CV.cells,rP]at hj;have HJ:=ah hj;clear hj;go_wp2_with (go_at_call 23;refine HJ.out.mono ?_;rintro _ W3 ⟨r,A,c,er,rfl,hb,hN,hcb⟩;refine Hid.out ?_);refine ah ?_;have hb2:=av zD.out hb;have yR:=ah (Bf.out.below hb2);have HB3:Hid (Below w.heap.size w W3):=av HB2.out hb2;have HN:=ah hN.at;have Qf:=ah hcb;clear hb hb2 hN hcb Bf HB2 zD HJ c0 c1 c2 c3 c4 c5 c6;obtain⟨c0,c1,c2,c3,c4,c5,c6⟩:=yR.out.cells;simp only at c0 c1 c2 c3 c4 c5 c6;have hj:=Wv ⟨⟨hA,hc⟩,⟨uA,uc⟩,⟨aA,ac⟩,⟨kA,kc⟩,⟨oA,oc⟩⟩ C p ⟨lA,lc⟩ l W3 yR.out.con (HL.out.below (by omega) HB3.out) (HT.out.below HB3.out);simp only[CV.val,CV.cells]at hj;have HJ:=ah hj;clear hj;go_wp2_with (go_at_call 27;refine HJ.out.mono ?_;rintro _ W4 ⟨q,A',c',r',Ki,rfl,hb,hcase⟩;refine Hid.out ?_);refine ah ?_;have Ci:Hid (Below w.heap.size w W4):=av HB3.out hb;replace HN:=ah (HN.out.below hb);have HM:Hid (iJ W4 ⟨A',c'⟩ r'):=by
   rcases hcase with⟨_,_,h,_⟩|⟨_,_,rfl,rfl,rfl,_⟩
   .exact h.at
   .exact(aW.Wo W4).at
  have hpl:=M_ (by have:=ZN.out;omega) Qf.out (hcase.imp (λh=>⟨h.1,h.2.2.2⟩) (λh=>⟨h.1,h.2.2.2.2.1,h.2.2.2.2.2⟩));obtain⟨rfl,rfl⟩:=hpl;clear hb hcase yR HB3 HJ Qf ZN HL HT c0 c1 c2 c3 c4 c5 c6;go_upto_region 6 with(fail)
  generalize Js:World.alloc _ _=W5;obtain⟨Cj,h5⟩:=bx1 Js;have o5:Own W5 67 W4.heap.size [.int .i64 q,.slice A' r.length c']:=⟨[],by rw[bU];exact h5⟩;have d1:=o5.cell (i:=1) rfl;have hs:=Kj ⟨A,c⟩ ⟨A',c'⟩ r W5 (HN.out.below Cj.out) (HM.out.below Cj.out);have HS:=ah hs;have yL:Hid (Below w.heap.size w W5):=av Ci.out Cj.out;clear hs o5 h5 Js Cj HN HM Ci;go_wp2_with (go_at_call 28;refine HS.out.mono ?_;rintro _ W6 ⟨rfl,hb⟩;refine Hid.out ?_);refine ah ?_;go_wp2;go_ret;exact⟨rfl,av yL.out hb⟩
end Go.Proofs.YtpmdedcnbockhaaGreatDoor
