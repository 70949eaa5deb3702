/-
  JwF
-/
import Derived.Test.YtpmdedcnbockhaaGreatDoorM32
set_option maxRecDepth 100000
set_option maxHeartbeats 8000000
namespace Go.Proofs.YtpmdedcnbockhaaGreatDoor
open Go.RowKit Go.Shelf
theorem Nq(v:CV)(C:aB)(sv:SV)(fs:List aM)(e l:Int)(w:World)(hC:cK w v C)(hF:dP w sv fs)(hR:∀f∈fs,∀x∈f.facts,fD x.ref)(hT:Tab w):
 Calls Tryz.prog 5 #[v.val C,.slice sv.A fs.length sv.c,.int .i64 e,.int .i64 l] w (dX (.bool true) w):=by
 obtain⟨⟨hA,hc⟩,⟨uA,uc⟩,⟨aA,ac⟩,⟨kA,kc⟩,⟨oA,oc⟩⟩:=v;obtain⟨sA,sc⟩:=sv;have HC:=ah hC;clear hC;have HF:=ah hF;clear hF;have HT:=ah hT;clear hT;have HR:=ah hR;clear hR;simp only[CV.val,CV.cells];go_enter Tryz.func5,Tryz.ntmps5;go_upto_region 1 with(fail)
 generalize hW0:World.alloc _ _=W0;obtain⟨HB0,h0⟩:=bx1 hW0;have HX0:Hid (uV W0 w.heap.size ⟨⟨hA,hc⟩,⟨uA,uc⟩,⟨aA,ac⟩,⟨kA,kc⟩,⟨oA,oc⟩⟩ C):=⟨HC.out.below HB0.out,⟨[],by rw[bV];exact h0⟩⟩;clear hW0 h0 HC;have HH:=ah (zU W0 (HT.out.below HB0.out));go_wp2_with (go_at_call 9;refine HH.out.mono ?_;rintro _ W1 ⟨rfl,hb⟩;refine Hid.out ?_);refine ah ?_;have nY:=ah (HX0.out.below hb);have HB1:Hid (Below w.heap.size w W1):=ay HB0.out hb;clear hb HX0 HB0 HH;obtain⟨c0,c1,c2,c3,c4,c5,c6⟩:=nY.out.cells;simp only at c0 c1 c2 c3 c4 c5 c6;have ho:=Sn ⟨⟨hA,hc⟩,⟨uA,uc⟩,⟨aA,ac⟩,⟨kA,kc⟩,⟨oA,oc⟩⟩ C none 0 0 none 0 0 W1 nY.out.con (by omega) (by omega);simp only[CV.val,CV.cells]at ho;have HO:=ah ho;clear ho;go_wp2_with (go_at_call 10;refine HO.out.mono ?_;rintro _ W2 ⟨x,rfl,_,hb⟩;refine Hid.out ?_);refine ah ?_;have zn:=ah (nY.out.below hb);have HB2:Hid (Below w.heap.size w W2):=ay HB1.out hb;clear hb nY HB1 HO c0 c1 c2 c3 c4 c5 c6;cases x with
 |false=>
  go_wp2;go_ret;exact⟨rfl,HB2.out⟩
 |true=>
  have HS:=ah (EY fs ⟨sA,sc⟩ W2 (HF.out.below HB2.out));have hfl:fs.length<=9223372036854775807:=by have:=HF.out.len;omega
  go_wp2_with (go_at_call 18;refine HS.out.mono ?_;rintro _ W3 ⟨rfl,hb⟩;refine Hid.out ?_);refine ah ?_;have uj:=ah (zn.out.below hb);have HB3:Hid (Below w.heap.size w W3):=ay HB2.out hb;clear hb zn HB2 HS;cases hsm:zh fs with
  |false=>
   go_wp2;go_ret;exact⟨rfl,HB3.out⟩
  |true=>
   have hsl:=IL hsm;have hl5:=hsl.1;have hsf:=small_facts hsl.2 (by omega);have h70:(aG fs).length<=400:=by
    have h1:=IQ (l:=fs) (g:=λf=>f.facts.length) (λf hf=>(hsl.2 f hf).1);unfold aG;rw[List.length_flatMap];omega
   have Vx:Hid (∀x∈aG fs,fD x.ref):=λx hx=>by
    obtain⟨f,hf,hxf⟩:=mU.1 hx;exact HR.out f hf x hxf
   have P5:Hid ((aG fs).length<=400/\(aO fs).length<=4000):=⟨h70,hsf.2⟩;clear hsl hsf hsm h70 HR;by_cases hel:l<e
   .go_wp2
    go_ret;exact⟨rfl,HB3.out⟩
   .have HEL:=ah hel
    obtain⟨c0,c1,c2,c3,c4,c5,c6⟩:=uj.out.cells;simp only at c0 c1 c2 c3 c4 c5 c6;have hv:=lT ⟨⟨hA,hc⟩,⟨uA,uc⟩,⟨aA,ac⟩,⟨kA,kc⟩,⟨oA,oc⟩⟩ C ⟨sA,sc⟩ fs e W3 uj.out.con (HF.out.below HB3.out) (by omega) Vx.out P5.out.1 P5.out.2 (HT.out.below HB3.out);simp only[CV.val,CV.cells]at hv;have HV:=ah hv;clear hv;go_wp2_with (go_at_call 14;refine HV.out.mono ?_;rintro _ W4 ⟨A1,d1,V1,Ze,rfl,ha,hb,hj⟩;refine Hid.out ?_);refine ah ?_;have Bt:=ah (uj.out.below hb);have uN:Hid (Below w.heap.size w W4):=ay HB3.out hb;have UD:=ah ha;have JV1:=ah hj;clear ha hb hj uj HB3 HV c0 c1 c2 c3 c4 c5 c6;obtain⟨c0,c1,c2,c3,c4,c5,c6⟩:=Bt.out.cells;simp only at c0 c1 c2 c3 c4 c5 c6;have hv:=lT ⟨⟨hA,hc⟩,⟨uA,uc⟩,⟨aA,ac⟩,⟨kA,kc⟩,⟨oA,oc⟩⟩ C ⟨sA,sc⟩ fs l W4 Bt.out.con (HF.out.below uN.out) (by omega) Vx.out P5.out.1 P5.out.2 (HT.out.below uN.out);simp only[CV.val,CV.cells]at hv;have HV:=ah hv;clear hv;go_wp2_with (go_at_call 14;refine HV.out.mono ?_;rintro _ W5 ⟨A2,d2,V2,Ux,rfl,ha,hb,hj⟩;refine Hid.out ?_);refine ah ?_;have KW:=ah (Bt.out.below hb);have BH:Hid (Below w.heap.size w W5):=ay uN.out hb;have HV2:=ah ha;have JV2:=ah hj;replace UD:=ah (UD.out.below (by omega) hb);clear ha hb hj Bt KW uN HV c0 c1 c2 c3 c4 c5 c6 HF HT Vx P5;by_cases h1:Ze=0
    .subst h1
     by_cases h2:Ux=0
     .subst h2
      have hp:=PS JV1.out JV2.out (by omega);have hln:=hp.1;have HP:=ah hp.2;have hl1:=mH UD.out;have hl2:=mH HV2.out;clear hp JV1 JV2;have q0:((V1.length:Int)!=(V2.length:Int))=false:=by rw[hln];simp
      go_wp2;clear q0;change Code.wp _ _ _ _ (Bl.val (⟨W5,aC _ _⟩:Bl W5));generalize(⟨W5,aC _ _⟩:Bl W5)=z
      go_loopw [14] (λv14 wr=>∃(k:Nat)(z:Bl W5),k<=V1.length/\v14= .int .i64 k/\wr=z.val) (λv14 _=>V1.length - (intOf v14).toNat)
      case atStart=>exact⟨0,z,aZ _,rfl,rfl⟩
      case round=>
       obtain⟨k,z,hk,rfl,rfl⟩:=hrel;by_cases hlt:k<V1.length
       .obtain⟨x,hx⟩:∃x,V1[k]?=some x:=⟨_,aW hlt⟩
        obtain⟨y,hy⟩:∃y,V2[k]?=some y:=⟨_,aW (by omega)⟩;obtain⟨g1,o1,e1,hg1,hc1⟩:=UD.out.1.form (by omega) (by omega);obtain⟨g2,o2,e2,hg2,hc2⟩:=HV2.out.1.form (by omega) (by omega);subst e1 e2;have x0:∀s:Bl W5,s.val.cell? ⟨g1,o1+k,none⟩=some (.int .i64 x):=λs=>s.cell (by rw[hc1 k (by omega)];unfold aY;rw[fM,hx];rfl);have y0:∀s:Bl W5,s.val.cell? ⟨g2,o2+k,none⟩=some (.int .i64 y):=λs=>s.cell (by rw[hc2 k (by omega)];unfold aY;rw[fM,hy];rfl);have k1:(k:Int)<(V1.length:Int):=by omega
        have k2:(k:Int)<(V2.length:Int):=by omega
        have WI:Hid (x=1\/x=3->y=x):=λh=>by
         have h3:=HP.out k x hx h;rw[hy]at h3;exact Option.some.inj h3
        clear hx hy hc1 hc2;go_upto_region 13 with(fail)
        by_cases hx1:x=1
        .obtain rfl:y=x:=WI.out (.inl hx1)
         subst hx1;refine aI (by kernel_rfl) (by kernel_rfl) ?_;repeat(go_big_quiet_step (fail))
         refine aS ?_;rintro _ ⟨z,rfl⟩;go_wp2
         go_roundw
         case rel=>exact⟨k+1,z,by omega,by go_num,rfl⟩
         case measure=>simp[intOf];omega
        .have t1:(x==1)=false:=by simp[hx1]
         by_cases hx3:x=3
         .obtain rfl:y=x:=WI.out (.inr hx3)
          subst hx3;refine aI (by kernel_rfl) (by kernel_rfl) ?_;repeat(go_big_quiet_step (fail))
          refine aS ?_;rintro _ ⟨z,rfl⟩;go_wp2
          go_roundw
          case rel=>exact⟨k+1,z,by omega,by go_num,rfl⟩
          case measure=>simp[intOf];omega
         .have t3:(x==3)=false:=by simp[hx3]
          refine aI (by kernel_rfl) (by kernel_rfl) ?_;repeat(go_big_quiet_step (fail))
          refine aS ?_;rintro _ ⟨z,rfl⟩;go_wp2
          go_roundw
          case rel=>exact⟨k+1,z,by omega,by go_num,rfl⟩
          case measure=>simp[intOf];omega
       .obtain rfl:k=V1.length:=by omega
        go_wp2;go_ret;exact⟨rfl,ay BH.out (Bl.prop _)⟩
     .have q2:(Ux !=0)=true:=by simp[h2]
      clear h2;go_wp2;go_ret;exact⟨rfl,BH.out⟩
    .have q1:(Ze !=0)=true:=by simp[h1]
     clear h1;go_wp2;go_ret;exact⟨rfl,BH.out⟩
end Go.Proofs.YtpmdedcnbockhaaGreatDoor
