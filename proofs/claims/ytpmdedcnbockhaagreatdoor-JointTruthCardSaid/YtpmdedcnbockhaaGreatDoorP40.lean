/-
  Same15
-/
import Derived.Test.YtpmdedcnbockhaaGreatDoorP32
set_option maxRecDepth 100000
set_option maxHeartbeats 8000000
namespace Go.Proofs.YtpmdedcnbockhaaGreatDoor
open Go.RowKit Go.Shelf
open Classical in
noncomputable def ssB (s t:ak):Bool:=decide (s=t)
theorem Ma{s t:ak}:ssB s t=true↔s=t:=by
 unfold ssB;exact@decide_eq_true_iff _ (Classical.propDecidable _)
theorem Ab{s t:ak}(h:s≠t):ssB s t=false:=by
 cases e:ssB s t with
 |false=>rfl
 |true=>exact absurd (Ma.1 e) h
theorem Mc{α:Type}{l m:List α}(hl:l.length=m.length)(h:∀(i:Nat)(a b:α),i<l.length->l[i]?=some a->m[i]?=some b->a=b):l=m:=
 List.ext_getElem hl (λi h1 h2=>h i _ _ h1 (aT h1) (aT h2))
theorem Dq{α:Type}{l m:List α}{j:Nat}{a b:α}(h:∀(i:Nat)(a b:α),i<j->l[i]?=some a->m[i]?=some b->a=b)(ha:l[j]?=some a)(hb:m[j]?=some b)(e:a=b):∀(i:Nat)(a b:α),i<j+1->l[i]?=some a->m[i]?=some b->a=b:=λi x y hi h1 h2=>by
 by_cases q:i=j
 .subst q
  rw[ha]at h1;rw[hb]at h2;cases h1;cases h2;exact e
 .exact h i x y (by omega) h1 h2
theorem Vp{s t:ak}(h0:s.day=t.day)(h1:s.aj=t.aj)(h2:s.used=t.used)(h3:s.marks=t.marks):s=t:=by
 cases s;cases t
 simp only at h0 h1 h2 h3;subst h0 h1 h2 h3;rfl
theorem Yu(w:World)(a0 a1 a2 a3 b0 b1 b2 b3:Int)(a4 b4:Bool)(h:(⟨a0,a1,a2,a3,a4⟩:aC)≠⟨b0,b1,b2,b3,b4⟩):(binOp .neq 51 (.agg #[.int .i64 a0,.int .i64 a1,.int .i64 a2,.int .i64 a3,.bool a4]) (.agg #[.int .i64 b0,.int .i64 b1,.int .i64 b2,.int .i64 b3,.bool b4])).run Tryz.prog w= .ok (.bool true) w:=by
 rw[run_neq_struct];go_simp;simp only[ne_eq,aC.mk.injEq]at h;by_cases h1:a0=b0<;>by_cases h2:a1=b1<;>by_cases h3:a2=b2<;>by_cases h4:a3=b3<;>cases a4<;>cases b4<;>simp_all
theorem RI(tv uv:TV)(s t:ak)(w:World)(hS:aW w tv s)(hT:aW w uv t):Calls Tryz.prog 52 #[tv.val s,uv.val t] w (dx (.bool (ssB s t)) w):=by
 obtain⟨⟨fQ,eZ⟩,⟨gH,eX⟩,⟨h_,dW⟩⟩:=tv;obtain⟨⟨S_,Ta⟩,⟨Tc,Td⟩,⟨Te,Tf⟩⟩:=uv;have l1:=oZ hS.aj;have l2:=oZ hS.used;have l3:=oZ hS.marks;have m1:=oZ hT.aj;have m2:=oZ hT.used;have m3:=oZ hT.marks;have HS:=ah hS;clear hS;have HT:=ah hT;clear hT;simp only[TV.val,TV.cells,ak.cells];generalize hE:ssB s t=E;have HE:=ah hE;clear hE;go_enter Tryz.func52,Tryz.ntmps52;go_upto_region 1 with(fail)
 generalize hW0:World.alloc _ _=W0;obtain⟨HB,h0,h1⟩:=IQ hW0;have OS:Own W0 48 w.heap.size [.int .i64 s.day,.slice fQ s.aj.length eZ,.slice gH s.used.length eX,.slice h_ s.marks.length dW]:=⟨[],by rw[b_];exact h0⟩;have OT:Own W0 48 (w.heap.size+1) [.int .i64 t.day,.slice S_ t.aj.length Ta,.slice Tc t.used.length Td,.slice Te t.marks.length Tf]:=⟨[],by rw[b_];exact h1⟩;have c0:=λz:Bl W0=>z.cell (OS.cell (i:=0) rfl);have c1:=λz:Bl W0=>z.cell (OS.cell (i:=1) rfl);have c2:=λz:Bl W0=>z.cell (OS.cell (i:=2) rfl);have c3:=λz:Bl W0=>z.cell (OS.cell (i:=3) rfl);have d0:=λz:Bl W0=>z.cell (OT.cell (i:=0) rfl);have d1:=λz:Bl W0=>z.cell (OT.cell (i:=1) rfl);have d2:=λz:Bl W0=>z.cell (OT.cell (i:=2) rfl);have d3:=λz:Bl W0=>z.cell (OT.cell (i:=3) rfl);clear OS OT h0 h1 hW0;change Code.wp _ _ _ _ (Bl.val (⟨W0,aD _ _⟩:Bl W0));generalize(⟨W0,aD _ _⟩:Bl W0)=z0;by_cases hq:¬(s.day=t.day)
 .have q0:(s.day !=t.day)=true:=by rw[bne_iff_ne];omega
  obtain rfl:E=false:=by rw[<-HE.out];exact Ab (λe=>hq (by rw[e]))
  go_wp2;go_ret;exact⟨rfl,ay HB.out (Bl.prop _)⟩
 have q0:(s.day !=t.day)=false:=by rw[bne_eq_false_iff_eq];omega
 have HD:Hid (s.day=t.day):=by show _=_;omega
 clear hq;by_cases hq:¬(s.aj.length=t.aj.length)
 .have q1:((s.aj.length:Int)!=(t.aj.length:Int))=true:=by rw[bne_iff_ne];omega
  obtain rfl:E=false:=by rw[<-HE.out];exact Ab (λe=>hq (by rw[e]))
  go_wp2;go_ret;exact⟨rfl,ay HB.out (Bl.prop _)⟩
 have q1:((s.aj.length:Int)!=(t.aj.length:Int))=false:=by rw[bne_eq_false_iff_eq];omega
 have n1:s.aj.length=t.aj.length:=by omega
 clear hq;by_cases hq:¬(s.used.length=t.used.length)
 .have q2:((s.used.length:Int)!=(t.used.length:Int))=true:=by rw[bne_iff_ne];omega
  obtain rfl:E=false:=by rw[<-HE.out];exact Ab (λe=>hq (by rw[e]))
  go_wp2;go_ret;exact⟨rfl,ay HB.out (Bl.prop _)⟩
 have q2:((s.used.length:Int)!=(t.used.length:Int))=false:=by rw[bne_eq_false_iff_eq];omega
 have n2:s.used.length=t.used.length:=by omega
 clear hq;by_cases hq:¬(s.marks.length=t.marks.length)
 .have q3:((s.marks.length:Int)!=(t.marks.length:Int))=true:=by rw[bne_iff_ne];omega
  obtain rfl:E=false:=by rw[<-HE.out];exact Ab (λe=>hq (by rw[e]))
  go_wp2;go_ret;exact⟨rfl,ay HB.out (Bl.prop _)⟩
 have q3:((s.marks.length:Int)!=(t.marks.length:Int))=false:=by rw[bne_eq_false_iff_eq];omega
 have n3:s.marks.length=t.marks.length:=by omega
 clear hq;go_wp2;clear q0 q1 q2 q3
 go_loopw [5] (λv5 wr=>∃(j:Nat)(z:Bl W0),j<=s.aj.length/\v5= .int .i64 j/\wr=z.val/\Hid (∀(i:Nat) a b,i<j->s.aj[i]?=some a->t.aj[i]?=some b->a=b)) (λv5 _=>s.aj.length - (intOf v5).toNat)
 case atStart=>exact⟨0,_,aV _,rfl,rfl,λi a b h=>by omega⟩
 case round=>
  obtain⟨j,z,hj,rfl,rfl,Qx⟩:=hrel;by_cases hlt:j<s.aj.length
  .obtain⟨a,ha⟩:∃a,s.aj[j]?=some a:=⟨_,aT hlt⟩
   obtain⟨b,hb⟩:∃b,t.aj[j]?=some b:=⟨_,aT (by omega)⟩;obtain⟨b1,o1,hA1,hl1,hc1⟩:=(HS.out.below HB.out).aj.1.form (by omega) (by omega);obtain⟨b2,o2,hA2,hl2,hc2⟩:=(HT.out.below HB.out).aj.1.form (by omega) (by omega);try simp only at hA1 hA2
   subst hA1 hA2;have k1:(j:Int)<(s.aj.length:Int):=by omega
   have k2:(j:Int)<(t.aj.length:Int):=by omega
   have YM:Hid (s=t->a=b):=λe=>by
    subst e;rw[ha]at hb;exact Option.some.inj hb
   have HPS:Hid (a=b->∀(i:Nat) a b,i<j+1->s.aj[i]?=some a->t.aj[i]?=some b->a=b):=Dq Qx.out ha hb;have e1:∀s:Bl W0,s.val.cell? ⟨b1,o1+j,none⟩=some (.int .i64 a):=λs=>s.cell (by rw[hc1 j (by omega)];unfold aR;rw[gG,ha];rfl);have e2:∀s:Bl W0,s.val.cell? ⟨b2,o2+j,none⟩=some (.int .i64 b):=λs=>s.cell (by rw[hc2 j (by omega)];unfold aR;rw[gG,hb];rfl);clear hc1 hc2 ha hb;go_upto_region 6 with(fail)
   by_cases hab:a=b
   .subst hab
    clear YM;refine aI (by kernel_rfl) (by kernel_rfl) ?_;repeat(go_big_quiet_step (fail))
    refine aS ?_;rintro _ ⟨z,rfl⟩;go_wp2
    go_roundw
    case rel=>exact⟨j+1,_,by omega,by go_num,rfl,HPS.out rfl⟩
    case measure=>simp[intOf];omega
   .have t1:(a !=b)=true:=by simpa using hab
    obtain rfl:E=false:=by rw[<-HE.out];exact Ab (λe=>hab (YM.out e))
    refine aI (by kernel_rfl) (by kernel_rfl) ?_;repeat(go_big_quiet_step (fail))
    refine aS ?_;rintro _ ⟨z,rfl⟩;go_wp2;go_ret;exact⟨rfl,ay HB.out (Bl.prop _)⟩
  .obtain rfl:j=s.aj.length:=by omega
   have Yv:Hid (s.aj=t.aj):=Mc (by omega) Qx.out;clear hlt hj Qx;go_wp2
   go_loopw [6] (λv6 wr=>∃(j:Nat)(z:Bl W0),j<=s.used.length/\v6= .int .i64 j/\wr=z.val/\Hid (∀(i:Nat) a b,i<j->s.used[i]?=some a->t.used[i]?=some b->a=b)) (λv6 _=>s.used.length - (intOf v6).toNat)
   case atStart=>exact⟨0,_,aV _,rfl,rfl,λi a b h=>by omega⟩
   case round=>
    obtain⟨j,z,hj,rfl,rfl,Qx⟩:=hrel;by_cases hlt:j<s.used.length
    .obtain⟨a,ha⟩:∃a,s.used[j]?=some a:=⟨_,aT hlt⟩
     obtain⟨b,hb⟩:∃b,t.used[j]?=some b:=⟨_,aT (by omega)⟩;obtain⟨b1,o1,hA1,hl1,hc1⟩:=(HS.out.below HB.out).used.1.form (by omega) (by omega);obtain⟨b2,o2,hA2,hl2,hc2⟩:=(HT.out.below HB.out).used.1.form (by omega) (by omega);try simp only at hA1 hA2
     subst hA1 hA2;have k1:(j:Int)<(s.used.length:Int):=by omega
     have k2:(j:Int)<(t.used.length:Int):=by omega
     have YM:Hid (s=t->a=b):=λe=>by
      subst e;rw[ha]at hb;exact Option.some.inj hb
     have HPS:Hid (a=b->∀(i:Nat) a b,i<j+1->s.used[i]?=some a->t.used[i]?=some b->a=b):=Dq Qx.out ha hb;have e1:∀s:Bl W0,s.val.cell? ⟨b1,o1+j,none⟩=some (.bool a):=λs=>s.cell (by rw[hc1 j (by omega)];unfold iG;rw[gG,ha];rfl);have e2:∀s:Bl W0,s.val.cell? ⟨b2,o2+j,none⟩=some (.bool b):=λs=>s.cell (by rw[hc2 j (by omega)];unfold iG;rw[gG,hb];rfl);clear hc1 hc2 ha hb;go_upto_region 11 with(fail)
     by_cases hab:a=b
     .subst hab
      clear YM;refine aI (by kernel_rfl) (by kernel_rfl) ?_;repeat(go_big_quiet_step (fail))
      refine aS ?_;rintro _ ⟨z,rfl⟩;go_wp2
      go_roundw
      case rel=>exact⟨j+1,_,by omega,by go_num,rfl,HPS.out rfl⟩
      case measure=>simp[intOf];omega
     .have t1:(!(a==b))=true:=by cases a<;>cases b<;>simp_all
      obtain rfl:E=false:=by rw[<-HE.out];exact Ab (λe=>hab (YM.out e))
      refine aI (by kernel_rfl) (by kernel_rfl) ?_;repeat(go_big_quiet_step (fail))
      refine aS ?_;rintro _ ⟨z,rfl⟩;go_wp2;go_ret;exact⟨rfl,ay HB.out (Bl.prop _)⟩
    .obtain rfl:j=s.used.length:=by omega
     have aha:Hid (s.used=t.used):=Mc (by omega) Qx.out;clear hlt hj Qx;go_wp2
     go_loopw [7] (λv7 wr=>∃(j:Nat)(z:Bl W0),j<=s.marks.length/\v7= .int .i64 j/\wr=z.val/\Hid (∀(i:Nat) a b,i<j->s.marks[i]?=some a->t.marks[i]?=some b->a=b)) (λv7 _=>s.marks.length - (intOf v7).toNat)
     case atStart=>exact⟨0,_,aV _,rfl,rfl,λi a b h=>by omega⟩
     case round=>
      obtain⟨j,z,hj,rfl,rfl,Qx⟩:=hrel;by_cases hlt:j<s.marks.length
      .obtain⟨a,ha⟩:∃a,s.marks[j]?=some a:=⟨_,aT hlt⟩
       obtain⟨b,hb⟩:∃b,t.marks[j]?=some b:=⟨_,aT (by omega)⟩;obtain⟨b1,o1,hA1,hl1,hc1⟩:=(HS.out.below HB.out).marks.1.form (by omega) (by omega);obtain⟨b2,o2,hA2,hl2,hc2⟩:=(HT.out.below HB.out).marks.1.form (by omega) (by omega);try simp only at hA1 hA2
       subst hA1 hA2;have k1:(j:Int)<(s.marks.length:Int):=by omega
       have k2:(j:Int)<(t.marks.length:Int):=by omega
       have YM:Hid (s=t->a=b):=λe=>by
        subst e;rw[ha]at hb;exact Option.some.inj hb
       have HPS:Hid (a=b->∀(i:Nat) a b,i<j+1->s.marks[i]?=some a->t.marks[i]?=some b->a=b):=Dq Qx.out ha hb;obtain⟨x0,x1,x2,x3,x4⟩:=a;obtain⟨y0,y1,y2,y3,y4⟩:=b;have apl:∀s:Bl W0,s.val.cell? ⟨b1,o1+j*5,none⟩=some (.int .i64 x0):=λs=>s.cell (by rw[hc1 _ (by omega)];exact bG aC.cells 5 (λ_=>rfl) _ j 0 _ ha (by omega));have apm:∀s:Bl W0,s.val.cell? ⟨b1,o1+j*5+1,none⟩=some (.int .i64 x1):=λs=>s.cell (by rw[iM];rw[hc1 _ (by omega)];exact bG aC.cells 5 (λ_=>rfl) _ j 1 _ ha (by omega));have apn:∀s:Bl W0,s.val.cell? ⟨b1,o1+j*5+2,none⟩=some (.int .i64 x2):=λs=>s.cell (by rw[iM];rw[hc1 _ (by omega)];exact bG aC.cells 5 (λ_=>rfl) _ j 2 _ ha (by omega));have apo:∀s:Bl W0,s.val.cell? ⟨b1,o1+j*5+3,none⟩=some (.int .i64 x3):=λs=>s.cell (by rw[iM];rw[hc1 _ (by omega)];exact bG aC.cells 5 (λ_=>rfl) _ j 3 _ ha (by omega));have apq:∀s:Bl W0,s.val.cell? ⟨b1,o1+j*5+4,none⟩=some (.bool x4):=λs=>s.cell (by rw[iM];rw[hc1 _ (by omega)];exact bG aC.cells 5 (λ_=>rfl) _ j 4 _ ha (by omega));have apr:∀s:Bl W0,s.val.cell? ⟨b2,o2+j*5,none⟩=some (.int .i64 y0):=λs=>s.cell (by rw[hc2 _ (by omega)];exact bG aC.cells 5 (λ_=>rfl) _ j 0 _ hb (by omega));have aps:∀s:Bl W0,s.val.cell? ⟨b2,o2+j*5+1,none⟩=some (.int .i64 y1):=λs=>s.cell (by rw[iM];rw[hc2 _ (by omega)];exact bG aC.cells 5 (λ_=>rfl) _ j 1 _ hb (by omega));have apt:∀s:Bl W0,s.val.cell? ⟨b2,o2+j*5+2,none⟩=some (.int .i64 y2):=λs=>s.cell (by rw[iM];rw[hc2 _ (by omega)];exact bG aC.cells 5 (λ_=>rfl) _ j 2 _ hb (by omega));have apu:∀s:Bl W0,s.val.cell? ⟨b2,o2+j*5+3,none⟩=some (.int .i64 y3):=λs=>s.cell (by rw[iM];rw[hc2 _ (by omega)];exact bG aC.cells 5 (λ_=>rfl) _ j 3 _ hb (by omega));have apv:∀s:Bl W0,s.val.cell? ⟨b2,o2+j*5+4,none⟩=some (.bool y4):=λs=>s.cell (by rw[iM];rw[hc2 _ (by omega)];exact bG aC.cells 5 (λ_=>rfl) _ j 4 _ hb (by omega));clear hc1 hc2 ha hb;go_upto_region 16 with(fail)
       by_cases hab:(⟨x0,x1,x2,x3,x4⟩:aC)=⟨y0,y1,y2,y3,y4⟩
       .cases hab
        clear YM;refine aI (by kernel_rfl) (by kernel_rfl) ?_;repeat(go_big_quiet_step (fail))
        refine aS ?_;rintro _ ⟨z,rfl⟩;go_wp2
        go_roundw
        case rel=>exact⟨j+1,_,by omega,by go_num,rfl,HPS.out rfl⟩
        case measure=>simp[intOf];omega
       .have heq:=λw:World=>Yu w _ _ _ _ _ _ _ _ _ _ hab
        obtain rfl:E=false:=by rw[<-HE.out];exact Ab (λe=>hab (YM.out e))
        refine aI (by kernel_rfl) (by kernel_rfl) ?_;repeat(go_big_quiet_step (fail))
        refine aS ?_;rintro _ ⟨z,rfl⟩;go_wp2;go_ret;exact⟨rfl,ay HB.out (Bl.prop _)⟩
      .obtain rfl:j=s.marks.length:=by omega
       have adI:Hid (s.marks=t.marks):=Mc (by omega) Qx.out;clear hlt hj Qx;obtain rfl:E=true:=by rw[<-HE.out];exact Ma.2 (Vp HD.out Yv.out aha.out adI.out)
       go_wp2;go_ret;exact⟨rfl,ay HB.out (Bl.prop _)⟩
theorem adG(sv:SV)(r:List ak)(tv:TV)(s:ak)(w:World)(hS:jL w sv r)(hT:aW w tv s)(hin:s∈r):Calls Tryz.prog 26 #[.slice sv.A r.length sv.c,tv.val s] w (dx (.bool true) w):=by
 obtain⟨⟨fQ,eZ⟩,⟨gH,eX⟩,⟨h_,dW⟩⟩:=tv;obtain⟨bA,bc⟩:=sv;have hbx:r.length<=9223372036854775807:=by obtain⟨_,_,h,_⟩:=hS;exact oZ h
 have HS:=ah hS;clear hS;have HT:=ah hT;clear hT;have qB:=ah hin;clear hin;simp only[TV.val,TV.cells,ak.cells];go_enter Tryz.func26,Tryz.ntmps26;go_upto_region 1 with(fail)
 generalize hW0:World.alloc _ _=W0;obtain⟨HB,h0⟩:=bx1 hW0;have OS:Own W0 48 w.heap.size [.int .i64 s.day,.slice fQ s.aj.length eZ,.slice gH s.used.length eX,.slice h_ s.marks.length dW]:=⟨[],by rw[b_];exact h0⟩;have c0:=λz:Bl W0=>z.cell (OS.cell (i:=0) rfl);have c1:=λz:Bl W0=>z.cell (OS.cell (i:=1) rfl);have c2:=λz:Bl W0=>z.cell (OS.cell (i:=2) rfl);have c3:=λz:Bl W0=>z.cell (OS.cell (i:=3) rfl);clear OS h0 hW0;change Code.wp _ _ _ _ (Bl.val (⟨W0,aD _ _⟩:Bl W0));generalize(⟨W0,aD _ _⟩:Bl W0)=z0;go_wp2
 go_loopw [5] (λv5 wr=>∃(j:Nat)(z:Bl W0),j<=r.length/\v5= .int .i64 j/\wr=z.val/\Hid (∀(i:Nat)(a:ak),i<j->r[i]?=some a->a≠s)) (λv5 _=>r.length - (intOf v5).toNat)
 case atStart=>exact⟨0,z0,aV _,rfl,rfl,λi a h=>by omega⟩
 case round=>
  obtain⟨j,z,hj,rfl,rfl,HN⟩:=hrel;by_cases hlt:j<r.length
  .obtain⟨a,ha⟩:∃a,r[j]?=some a:=⟨_,aT hlt⟩
   obtain⟨b1,o1,hA1,hl1,hc1⟩:=HS.out.form (by omega);obtain⟨uv,hu,hc⟩:=hc1 j a ha;try simp only at hA1
   subst hA1;obtain⟨⟨S_,Ta⟩,⟨Tc,Td⟩,⟨Te,Tf⟩⟩:=uv;have e0:∀z:Bl W0,z.val.cell? ⟨b1,o1+j*4,none⟩=some (.int .i64 a.day):=λz=>hc z.val (ay HB.out z.prop) 0 (by omega);have e1:∀z:Bl W0,z.val.cell? ⟨b1,o1+j*4+1,none⟩=some (.slice S_ a.aj.length Ta):=λz=>hc z.val (ay HB.out z.prop) 1 (by omega);have e2:∀z:Bl W0,z.val.cell? ⟨b1,o1+j*4+2,none⟩=some (.slice Tc a.used.length Td):=λz=>hc z.val (ay HB.out z.prop) 2 (by omega);have e3:∀z:Bl W0,z.val.cell? ⟨b1,o1+j*4+3,none⟩=some (.slice Te a.marks.length Tf):=λz=>hc z.val (ay HB.out z.prop) 3 (by omega);have SF:=ah (λz:Bl W0=>RI ⟨⟨S_,Ta⟩,⟨Tc,Td⟩,⟨Te,Tf⟩⟩ ⟨⟨fQ,eZ⟩,⟨gH,eX⟩,⟨h_,dW⟩⟩ a s z.val (hu.below (ay HB.out z.prop)) (HT.out.below (ay HB.out z.prop)));simp only[TV.val,TV.cells,ak.cells]at SF;clear hc hc1 hu;have HA:=ah ha;clear ha;have j1:(j:Int)<(r.length:Int):=by omega
   go_upto_region 4 with(fail)
   cases q1:ssB a s with
   |false=>
    rw[q1]at SF;refine aI (by kernel_rfl) (by kernel_rfl) ?_;repeat(go_big_quiet_step ((go_at_call 52;exact Calls.bY (SF.out _))))
    refine aS ?_;rintro _ ⟨z1,rfl⟩;go_wp2
    go_roundw
    case rel=>
     refine⟨j+1,z1,by omega,by go_num,rfl,λi a' hi h1 h2=>?_⟩;by_cases e:i=j
     .subst e
      rw[HA.out]at h1;cases h1
      rw[Ma.2 h2]at q1;cases q1
     .exact HN.out i a' (by omega) h1 h2
    case measure=>simp[intOf];omega
   |true=>
    rw[q1]at SF;refine aI (by kernel_rfl) (by kernel_rfl) ?_;repeat(go_big_quiet_step ((go_at_call 52;exact Calls.bY (SF.out _))))
    refine aS ?_;rintro _ ⟨z1,rfl⟩;go_wp2;go_ret;exact⟨rfl,ay HB.out (Bl.prop _)⟩
  .exfalso
   obtain⟨i,hi,he⟩:=List.mem_iff_getElem.1 qB.out;exact HN.out i _ (by omega) (aT hi) he
theorem Vo(lv:SV)(l:List Int)(w:World)(hL:At w 1 lv.A l.length lv.c (aR l)):Calls Tryz.prog 24 #[.slice lv.A l.length lv.c] w (dx (.int .i64 (jh l)) w):=by
 obtain⟨lA,lc⟩:=lv;have hlx:=oZ hL;have HL:=ah hL;clear hL;generalize hE:(jh l:Int)=E;have HE:=ah hE;clear hE;go_enter Tryz.func24,Tryz.ntmps24;change Code.wp _ _ _ _ (Bl.val (⟨w,aD _ _⟩:Bl w));generalize(⟨w,aD _ _⟩:Bl w)=z0;go_wp2
 go_loopw [3,4] (λv3 v4 wr=>∃(k n:Nat)(z:Bl w),k<=l.length/\n<=k/\v3= .int .i64 n/\v4= .int .i64 k/\wr=z.val/\Hid (n=jh (l.take k))) (λ_ v4 _=>l.length - (intOf v4).toNat)
 case atStart=>exact⟨0,0,z0,aV _,aV _,rfl,rfl,rfl,rfl⟩
 case round=>
  obtain⟨k,n,z,hk,hn,rfl,rfl,rfl,HN⟩:=hrel;by_cases hlt:k<l.length
  .obtain⟨x,hx⟩:∃x,l[k]?=some x:=⟨_,aT hlt⟩
   obtain⟨g,o,e,hg,hc⟩:=(HL.out.below (by omega) z.prop).1.form (by omega) (by omega);try simp only at e
   subst e;have x0:z.val.cell? ⟨g,o+k,none⟩=some (.int .i64 x):=by rw[hc k (by omega)];unfold aR;rw[gG,hx];rfl
   have k1:(k:Int)<(l.length:Int):=by omega
   have HT:Hid (jh (l.take (k+1))=n+jh [x]):=by
    show _=_;rw[take_snoc' hx,mD,HN.out]
   clear hx hc;by_cases h1:x= -1
   .subst h1
    go_wp2
    go_roundw
    case rel=>exact⟨k+1,n+1,z,by omega,by omega,by go_num,by go_num,rfl,by show _=_;rw[HT.out];rfl⟩
    case measure=>simp[intOf];omega
   .have t1:(x== -1)=false:=by simpa using h1
    have HT2:Hid (jh [x]=0):=og (λa h=>by rw[dZ.1 h];exact h1);go_wp2
    go_roundw
    case rel=>exact⟨k+1,n,z,by omega,by omega,rfl,by go_num,rfl,by show _=_;rw[HT.out,HT2.out];rfl⟩
    case measure=>simp[intOf];omega
  .obtain rfl:k=l.length:=by omega
   obtain rfl:E=(n:Int):=by rw[<-HE.out,HN.out,gV]
   go_wp2;go_ret;exact⟨rfl,Bl.prop _⟩
end Go.Proofs.YtpmdedcnbockhaaGreatDoor
