/-
  JwN
-/
import Derived.Test.YtpmdedcnbockhaaGreatDoorM32
set_option maxRecDepth 100000
set_option maxHeartbeats 8000000
namespace Go.Proofs.YtpmdedcnbockhaaGreatDoor
open Go.RowKit Go.Shelf
theorem uD{α:Type}{l:List α}{a:α}(h:l[0]?=some a):l.take 1=[a]:=by
 cases l with
 |nil=>cases h
 |cons b l=>simp at h;rw[h];rfl
def Qe(C:aB)(fs:List aM)(u:Int):bK:=
 ⟨λv=>∃(A:Option Addr)(n c:Nat)(er:Int),v= .tuple #[.slice A n c,.int .i64 er],
  λv z=>∃(A:Option Addr)(c:Nat)(V:List Int)(er:Int),v= .tuple #[.slice A V.length c,.int .i64 er]/\At z 1 A V.length c (aY V)/\dD C fs u V er⟩
theorem Jo(C:aB)(fs:List aM)(u:Int):(Qe C fs u).Keeps:=λ_ _ _ h hb=>by
 obtain⟨A,c,V,er,h1,h2,h3⟩:=h;exact⟨A,c,V,er,h1,h2.below (by omega) hb,h3⟩
attribute [local go_sem] jJ stillUpon bH
theorem JE(v:CV)(C:aB)(sv:SV)(fs:List aM)(u:Int)(w:World)(hC:cK w v C)(hF:dP w sv fs)(hR:∀f∈fs,∀x∈f.facts,fD x.ref)(hT:Tab w):
 Calls Tryz.prog 4 #[v.val C,.slice sv.A fs.length sv.c,.int .i64 u] w (dX (.bool true) w):=by
 obtain⟨⟨hA,hc⟩,⟨uA,uc⟩,⟨aA,ac⟩,⟨kA,kc⟩,⟨oA,oc⟩⟩:=v;obtain⟨sA,sc⟩:=sv;have HC:=ah hC;clear hC;have HF:=ah hF;clear hF;have HT:=ah hT;clear hT;have HR:=ah hR;clear hR;simp only[CV.val,CV.cells];go_enter Tryz.func4,Tryz.ntmps4;go_upto_region 1 with(fail)
 generalize hW0:World.alloc _ _=W0;obtain⟨HB0,h0⟩:=bx1 hW0;have HX0:Hid (uV W0 w.heap.size ⟨⟨hA,hc⟩,⟨uA,uc⟩,⟨aA,ac⟩,⟨kA,kc⟩,⟨oA,oc⟩⟩ C):=⟨HC.out.below HB0.out,⟨[],by rw[bV];exact h0⟩⟩;clear hW0 h0 HC;have HH:=ah (zU W0 (HT.out.below HB0.out));go_wp2_with (go_at_call 9;refine HH.out.mono ?_;rintro _ W1 ⟨rfl,hb⟩;refine Hid.out ?_);refine ah ?_;have nY:=ah (HX0.out.below hb);have HB1:Hid (Below w.heap.size w W1):=ay HB0.out hb;clear hb HX0 HB0 HH;obtain⟨c0,c1,c2,c3,c4,c5,c6⟩:=nY.out.cells;simp only at c0 c1 c2 c3 c4 c5 c6;have ho:=Sn ⟨⟨hA,hc⟩,⟨uA,uc⟩,⟨aA,ac⟩,⟨kA,kc⟩,⟨oA,oc⟩⟩ C none 0 0 none 0 0 W1 nY.out.con (by omega) (by omega);simp only[CV.val,CV.cells]at ho;have HO:=ah ho;clear ho;go_wp2_with (go_at_call 10;refine HO.out.mono ?_;rintro _ W2 ⟨x,rfl,_,hb⟩;refine Hid.out ?_);refine ah ?_;have zn:=ah (nY.out.below hb);have HB2:Hid (Below w.heap.size w W2):=ay HB1.out hb;clear hb nY HB1 HO c0 c1 c2 c3 c4 c5 c6;have HS:=ah (EY fs ⟨sA,sc⟩ W2 (HF.out.below HB2.out));have hfl:fs.length<=9223372036854775807:=by have:=HF.out.len;omega
 cases x with
 |false=>
  go_wp2;go_ret;exact⟨rfl,HB2.out⟩
 |true=>
 go_wp2_with (go_at_call 18;refine HS.out.mono ?_;rintro _ W3 ⟨rfl,hb⟩;refine Hid.out ?_);refine ah ?_;have uj:=ah (zn.out.below hb);have HB3:Hid (Below w.heap.size w W3):=ay HB2.out hb;clear hb zn HB2 HS;cases hsm:zh fs with
 |false=>
  go_wp2;go_ret;exact⟨rfl,HB3.out⟩
 |true=>
  by_cases hnil:fs.length=0
  .have q0:((fs.length:Int)==0)=true:=by simp[hnil]
   clear hnil;go_wp2;go_ret;exact⟨rfl,HB3.out⟩
  .have q0:((fs.length:Int)==0)=false:=by rw[beq_eq_false_iff_ne];omega
   have hpos:0<fs.length:=by omega
   clear hnil;have hsl:=IL hsm;have hl5:=hsl.1;have hsf:=small_facts hsl.2 (by omega);have HFE:=ah hsl.2;have Vx:Hid (∀x∈aG fs,fD x.ref):=λx hx=>by
    obtain⟨f,hf,hxf⟩:=mU.1 hx;exact HR.out f hf x hxf
   have P5:=ah hsf;obtain⟨f0,hf0⟩:∃x,fs[0]?=some x:=⟨fs[0],aW hpos⟩;have Zf:=ah hf0;clear hsf hsl hsm hf0;go_wp2;clear q0
   go_loopg [8] (fs.length - 1) (λgk v8 wr=>∃(i:Nat)(z:Bl W3),gk=fs.length - i/\1<=i/\i<=fs.length/\v8= .int .i64 i/\wr=z.val/\Hid (∀f∈fs.take i,∀x∈f.facts,∃y∈f0.facts,y.ref=x.ref))
   case atStart=>exact⟨1,⟨W3,aC _ _⟩,rfl,bJ _,by omega,rfl,rfl,λf hf x hx=>by
    rw[qM,Zf.out]at hf;simp at hf;exact⟨x,by rw[<-hf];exact hx,rfl⟩⟩
   case round=>
    obtain⟨i,z,eZ,hi1,hi,rfl,rfl,sV⟩:=hrel;have iL:=ah eZ;clear eZ;by_cases hlt:i<fs.length
    .have i0:(i:Int)<(fs.length:Int):=by omega
     obtain⟨f,hf⟩:∃x,fs[i]?=some x:=⟨fs[i],aW hlt⟩;have Yn:=ah hf;clear hf;obtain⟨fb,fo,jB,hfb,Cx⟩:=HF.out.form hpos;simp only at jB;subst jB;obtain⟨⟨⟨gA,gc⟩,⟨qA,qc⟩⟩,hfa,hcell⟩:=Cx i _ Yn.out;obtain⟨⟨⟨gA',gc'⟩,⟨qA',qc'⟩⟩,ah_,hcell'⟩:=Cx 0 _ Zf.out;have WC:=ah hfa;have alk:=ah ah_;have HCE:Hid (∀y:Bl W3,y.val.cell? ⟨fb,fo+i*3+1,none⟩=some (.slice gA f.facts.length gc)):=λy=>hcell y.val (ay HB3.out y.prop) 1 (by omega);have alm:Hid (∀y:Bl W3,y.val.cell? ⟨fb,fo+1,none⟩=some (.slice gA' f0.facts.length gc')):=λy=>by
      have h:=hcell' y.val (ay HB3.out y.prop) 1 (by omega);rw[Nat.zero_mul,kH]at h;exact h
     have ap7:=mH hfa.facts;clear hfa ah_ hcell hcell' Cx;go_wp2
     go_loopg [9] f.facts.length (λgk v9 wr=>∃(k:Nat)(z:Bl W3),gk=f.facts.length - k/\k<=f.facts.length/\v9= .int .i64 k/\wr=z.val/\Hid (∀x∈f.facts.take k,∃y∈f0.facts,y.ref=x.ref))
     case atStart=>exact⟨0,z,rfl,aZ _,rfl,rfl,λx hx=>by simp at hx⟩
     case round=>
      obtain⟨k,z,Ga,hk,rfl,rfl,HKN⟩:=hrel;have Nj:=ah Ga;clear Ga;have e1:=HCE.out z;by_cases hlk:k<f.facts.length
      .have k0:(k:Int)<(f.facts.length:Int):=by omega
       obtain⟨x,hx⟩:∃x,f.facts[k]?=some x:=⟨f.facts[k],aW hlk⟩;obtain⟨xb,xo,hA1,hxb,hxc⟩:=WC.out.facts.fact (by omega);subst hA1;have x0:∀y:Bl z.val,y.val.cell? ⟨xb,xo+k*6,none⟩=some (.int .i64 x.ref):=λy=>hxc k x hx y.val (ay (ay HB3.out z.prop) y.prop) 0 (by omega);have x1:∀y:Bl z.val,y.val.cell? ⟨fb,fo+i*3+1,none⟩=some (.slice (some ⟨xb,xo,none⟩) f.facts.length gc):=λy=>HCE.out ⟨y.val,ay z.prop y.prop⟩;have x2:∀y:Bl z.val,y.val.cell? ⟨fb,fo+1,none⟩=some (.slice gA' f0.facts.length gc'):=λy=>alm.out ⟨y.val,ay z.prop y.prop⟩;have HFN:=ah (λy:Bl z.val=>IZ f0.facts x.ref ⟨gA',gc'⟩ y.val (alk.out.facts.below (by omega) (ay (ay HB3.out z.prop) y.prop)));have Uy:=ah hx;obtain⟨p,hp⟩:∃p,kK f0.facts x.ref=p:=⟨_,rfl⟩;rw[hp]at HFN;have HPF:Hid (0<=p->∃y∈f0.facts,y.ref=x.ref):=λh=>by
        rw[<-hp]at h;obtain⟨y,hy,e⟩:=VY h;exact⟨y,bT hy,e⟩
       clear hx hxc hp;go_upto_region 10 with(fail)
       change Code.wp _ _ _ _ (Bl.val (⟨z.val,aC _ _⟩:Bl z.val));generalize(⟨z.val,aC _ _⟩:Bl z.val)=za;refine aI (by kernel_rfl) (by kernel_rfl) ?_;repeat(go_big_quiet_step ((go_at_call 19;exact Calls.dw (HFN.out _))))
       refine aS ?_;rintro _ ⟨zb,rfl⟩;have Vn:Hid (Below W3.heap.size W3 zb.val):=ay z.prop zb.prop;clear x0 x1 x2 e1 HFN;by_cases hp0:p<0
       .have BI:Hid (Below w.heap.size w zb.val):=ay HB3.out Vn.out
        go_wp2;go_ret;exact⟨rfl,BI.out⟩
       .have MP:Hid (∀x∈f.facts.take (k+1),∃y∈f0.facts,y.ref=x.ref):=λy hy=>by
         rw[qM,Uy.out]at hy;rcases dJ.1 hy with h|h
         .exact HKN.out y h
         .simp at h;rw[h];exact HPF.out (by omega)
        go_wp2
        go_roundg (f.facts.length - (k+1))
        case measure=>rw[Nj.out];omega
        case rel=>exact⟨k+1,⟨zb.val,Vn.out⟩,rfl,by omega,by go_num,rfl,MP⟩
      .have aaF:Hid (∀g∈fs.take (i+1),∀x∈g.facts,∃y∈f0.facts,y.ref=x.ref):=λg hg x hx=>by
        rw[qM,Yn.out]at hg;rcases dJ.1 hg with h|h
        .exact sV.out g h x hx
        .simp at h
         rw[h]at hx;refine HKN.out x ?_;rw[uY (by omega)];exact hx
       go_wp2
       go_roundg (fs.length - (i+1))
       case measure=>rw[iL.out];omega
       case rel=>exact⟨i+1,z,rfl,by omega,by omega,by go_num,rfl,aaF⟩
    .obtain rfl:i=fs.length:=by omega
     have alo:Hid (∀f∈fs,∀x∈f.facts,∃y∈f0.facts,y.ref=x.ref):=by
      have h:=sV.out;rw[gW]at h;exact h
     have Bt:=ah (uj.out.below z.prop);have uN:Hid (Below w.heap.size w z.val):=ay HB3.out z.prop;generalize z.val=W4 at Bt uN⊢;clear sV iL hlt hi hi1 uj HB3 z;have h70:(aG fs).length<=400:=by
      have h1:=IQ (l:=fs) (g:=λf=>f.facts.length) (λf hf=>(HFE.out f hf).1);unfold aG;rw[List.length_flatMap];omega
     have PN:Hid ((aG fs).length<=400/\(aO fs).length<=4000):=⟨h70,P5.out.2⟩;clear h70;have hv:=λy:Bl W4=>lT ⟨⟨hA,hc⟩,⟨uA,uc⟩,⟨aA,ac⟩,⟨kA,kc⟩,⟨oA,oc⟩⟩ C ⟨sA,sc⟩ (fs.take 1) u y.val (Bt.out.below y.prop).con ((HF.out.below (ay uN.out y.prop)).take (by omega)) (by rw[mV];omega) (λx hx=>Vx.out x (by rw[uD Zf.out]at hx;simp[aG]at hx;exact mU.2 ⟨f0,bT Zf.out,hx⟩)) (by have h1:=(HFE.out f0 (bT Zf.out)).1;rw[uD Zf.out];simp[aG];omega) (by have h1:=(HFE.out f0 (bT Zf.out)).2;rw[uD Zf.out];simp[aO];omega) (HT.out.below (ay uN.out y.prop));rw[uD Zf.out]at hv;simp only[CV.val,CV.cells,xS]at hv;have HV:=ah hv;clear hv;have c0:∀y:Bl W4,y.val.cell? ⟨w.heap.size,0,none⟩=some (.int .i64 C.aJ):=λy=>(Bt.out.below y.prop).kZ.cell rfl;have c1:∀y:Bl W4,y.val.cell? ⟨w.heap.size,1,none⟩=some (.slice hA C.aj.length hc):=λy=>(Bt.out.below y.prop).kZ.cell rfl;have c2:∀y:Bl W4,y.val.cell? ⟨w.heap.size,2,none⟩=some (.slice uA C.units.length uc):=λy=>(Bt.out.below y.prop).kZ.cell rfl;have c3:∀y:Bl W4,y.val.cell? ⟨w.heap.size,3,none⟩=some (.slice aA C.acts.length ac):=λy=>(Bt.out.below y.prop).kZ.cell rfl;have c4:∀y:Bl W4,y.val.cell? ⟨w.heap.size,4,none⟩=some (.slice kA C.clauses.length kc):=λy=>(Bt.out.below y.prop).kZ.cell rfl;have c5:∀y:Bl W4,y.val.cell? ⟨w.heap.size,5,none⟩=some (.int .i64 C.days):=λy=>(Bt.out.below y.prop).kZ.cell rfl;have c6:∀y:Bl W4,y.val.cell? ⟨w.heap.size,6,none⟩=some (.slice oA C.off.length oc):=λy=>(Bt.out.below y.prop).kZ.cell rfl;obtain⟨fb,fo,jB,hfb,_⟩:=HF.out.form hpos;simp only at jB;subst jB;have hsc:(1:Int)<=(sc:Int):=by have:=HF.out.len;simp only at this;omega
     have hsc2:sc<=9223372036854775807:=by have:=HF.out.len;simp only at this;omega
     go_upto_region 12 with(fail)
     refine sG (s:=(⟨W4,aC _ _⟩:Bl W4)) 8 (λi=>match i with
      |4=>some (Qe C [f0] u)
      |_=>none) (λ_=>[]) [] [7] (by simp) (by kernel_rfl) (by kernel_rfl) (by simp) ?panics (by kernel_rfl) ?bnd ?keeps ?_
     case panics=>
      intro e _ o v c a w _ h;revert h;cases o.dst<;>exact id
     case bnd=>
      intro p hp;cases hp
     case keeps=>
      intro i sp h;split at h
      .injection h with h;subst h;exact Jo _ _ _
      .cases h
     simp only[fP,bX,fZ,bY];repeat(refine vM rfl (λK hK=>?_);go_simp;refine hK _ ?_;clear hK K)
     refine Cb _ rfl rfl ?_ (λy hpre=>?_) ?_
     .exact⟨_,none,0,0,0,rfl⟩
     .go_simp
      refine(HV.out y).mono ?_;rintro e w' ⟨A5,d5,V1,Ze,rfl,ha,hb,hj⟩;exact⟨_,rfl,⟨A5,_,d5,Ze,rfl⟩,⟨A5,d5,V1,Ze,rfl,ha,hj⟩,hb⟩
     rintro _ ⟨rA,rn,rc,Ze,rfl⟩;repeat(refine vM rfl (λK hK=>?_);go_simp;refine hK _ ?_;clear hK K)
     refine L6 ?_;rintro y ⟨_,A5,d5,V1,er9,he3,ha,hj⟩;simp only[Value.tuple.injEq,List.cons.injEq,Array.mk.injEq,Value.int.injEq,Value.slice.injEq,true_and,and_true]at he3;obtain⟨⟨rfl,rfl,rfl⟩,rfl⟩:=he3;have hb:=y.prop;generalize y.val=W5 at ha hb⊢;have KW:=ah (Bt.out.below hb);have BH:Hid (Below w.heap.size w W5):=ay uN.out hb;have UD:=ah ha;have HJ1:=ah hj;clear ha hb hj HV Bt uN c0 c1 c2 c3 c4 c5 c6;gi_wp2;obtain⟨c0,c1,c2,c3,c4,c5,c6⟩:=KW.out.cells;simp only at c0 c1 c2 c3 c4 c5 c6;have hv:=lT ⟨⟨hA,hc⟩,⟨uA,uc⟩,⟨aA,ac⟩,⟨kA,kc⟩,⟨oA,oc⟩⟩ C ⟨some ⟨fb,fo,none⟩,sc⟩ fs u W5 KW.out.con (HF.out.below BH.out) (by omega) Vx.out PN.out.1 PN.out.2 (HT.out.below BH.out);simp only[CV.val,CV.cells]at hv;have HV:=ah hv;clear hv;go_wp2_with (go_at_call 14;refine HV.out.mono ?_;rintro _ W6 ⟨A6,d6,V2,Ux,rfl,ha,hb,hj⟩;refine Hid.out ?_);refine ah ?_;have DW:=ah (KW.out.below hb);have JA:Hid (Below w.heap.size w W6):=ay BH.out hb;replace UD:=ah (UD.out.below (by omega) hb);have HV2:=ah ha;have HJ2:=ah hj;clear ha hb hj HV KW BH c0 c1 c2 c3 c4 c5 c6;by_cases h2:Ux=0
     .subst h2
      have hne:=MX Zf.out HJ1.out HJ2.out;by_cases h1:Ze=0
      .subst h1
       obtain⟨hln,hnk⟩:=Jd Zf.out alo.out HJ1.out HJ2.out;have HNY:=ah (Fb UD.out HV2.out hnk);have q0:((V1.length:Int)==(C.clauses.length:Int))=true:=by rw[hln];simp
       have hl1:=mH UD.out;obtain⟨c0,c1,c2,c3,c4,c5,c6⟩:=DW.out.cells;simp only at c0 c1 c2 c3 c4 c5 c6;clear hne hnk HJ1 HJ2 hln;go_wp2_with (go_at_call 20;refine HNY.out.mono ?_;rintro _ W7 ⟨rfl,hb⟩;refine Hid.out ?_);refine ah ?_;have HB7:Hid (Below w.heap.size w W7):=ay JA.out hb;clear hb;go_wp2;go_ret;exact⟨rfl,HB7.out⟩
      .have q1:(Ze !=0)=true:=by simp[h1]
       have q2:(Ze !=23)=true:=by simp[hne]
       clear h1 hne;go_wp2;go_ret;exact⟨rfl,JA.out⟩
     .have q1:(Ux !=0)=true:=by simp[h2]
      clear h2;by_cases h1:Ze=0
      .subst h1
       go_wp2;go_ret;exact⟨rfl,JA.out⟩
      .have q2:(Ze !=0)=true:=by simp[h1]
       clear h1;go_wp2;go_ret;exact⟨rfl,JA.out⟩
end Go.Proofs.YtpmdedcnbockhaaGreatDoor
