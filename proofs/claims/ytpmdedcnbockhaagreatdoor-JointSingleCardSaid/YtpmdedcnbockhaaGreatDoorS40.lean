/- part -/
import Derived.Test.YtpmdedcnbockhaaGreatDoorS32
set_option maxRecDepth 100000
set_option maxHeartbeats 8000000
namespace Go.Proofs.YtpmdedcnbockhaaGreatDoor
open Go.RowKit Go.Shelf Tryz
open Classical in
noncomputable def ssB (s t:ak):Bool:=decide (s=t)
theorem M5{s t:ak}:ssB s t=true↔s=t:=by
 unfold ssB;exact@decide_eq_true_iff _ (Classical.propDecidable _)
theorem Bj{s t:ak}(h:s≠t):ssB s t=false:=by
 cases e:ssB s t with
 |false=>rfl
 |true=>exact absurd (M5.1 e) h
theorem M6{α:Type}{l m:List α}(hl:l.length=m.length)(h:∀(i:Nat)(a b:α),i<l.length->l[i]?=some a->m[i]?=some b->a=b):l=m:=
 List.ext_getElem hl (λi h1 h2=>h i _ _ h1 (aS h1) (aS h2))
theorem D8{α:Type}{l m:List α}{j:Nat}{a b:α}(h:∀(i:Nat)(a b:α),i<j->l[i]?=some a->m[i]?=some b->a=b)(ha:l[j]?=some a)(hb:m[j]?=some b)(e:a=b):∀(i:Nat)(a b:α),i<j+1->l[i]?=some a->m[i]?=some b->a=b:=λi x y hi h1 h2=>by
 by_cases q:i=j
 .subst q
  rw[ha]at h1;rw[hb]at h2;cases h1;cases h2;exact e
 .exact h i x y (by omega) h1 h2
theorem Wq{s t:ak}(h0:s.day=t.day)(h1:s.aj=t.aj)(h2:s.used=t.used)(h3:s.marks=t.marks):s=t:=by
 cases s;cases t
 simp only at h0 h1 h2 h3;subst h0 h1 h2 h3;rfl
theorem ZA(w:World)(a0 a1 a2 a3 b0 b1 b2 b3:Int)(a4 b4:Bool)(h:(⟨a0,a1,a2,a3,a4⟩:aD)≠⟨b0,b1,b2,b3,b4⟩):(binOp .neq 51 (.agg #[.int .i64 a0,.int .i64 a1,.int .i64 a2,.int .i64 a3,.bool a4]) (.agg #[.int .i64 b0,.int .i64 b1,.int .i64 b2,.int .i64 b3,.bool b4])).run prog w= .ok (.bool true) w:=by
 rw[run_neq_struct];go_simp;simp only[ne_eq,aD.mk.injEq]at h;by_cases h1:a0=b0<;>by_cases h2:a1=b1<;>by_cases h3:a2=b2<;>by_cases h4:a3=b3<;>cases a4<;>cases b4<;>simp_all
theorem SF(tv uv:TV)(s t:ak)(w:World)(hS:aQ w tv s)(hT:aQ w uv t):Calls prog 52 #[tv.val s,uv.val t] w (dZ (.bool (ssB s t)) w):=by
 obtain⟨⟨eu,dN⟩,⟨eH,dL⟩,⟨fF,bY⟩⟩:=tv;obtain⟨⟨Mi,Mj⟩,⟨Mk,Ml⟩,⟨Mq,Mr⟩⟩:=uv;have l1:=tJ hS.aj;have l2:=tJ hS.used;have l3:=tJ hS.marks;have m1:=tJ hT.aj;have m2:=tJ hT.used;have m3:=tJ hT.marks;have HS:=ah hS;clear hS;have HT:=ah hT;clear hT;simp only[TV.val,TV.cells,ak.cells];generalize hE:ssB s t=E;have HE:=ah hE;clear hE;go_enter func52,ntmps52;go_upto_region 1 with(fail)
 generalize hW0:World.alloc _ _=W0;obtain⟨HB,h0,h1⟩:=F5 hW0;have OS:Own W0 48 w.heap.size [.int .i64 s.day,.slice eu s.aj.length dN,.slice eH s.used.length dL,.slice fF s.marks.length bY]:=⟨[],by rw[bU];exact h0⟩;have OT:Own W0 48 (w.heap.size+1) [.int .i64 t.day,.slice Mi t.aj.length Mj,.slice Mk t.used.length Ml,.slice Mq t.marks.length Mr]:=⟨[],by rw[bU];exact h1⟩;have c0:=λz:Bl W0=>z.cell (OS.cell (i:=0) rfl);have c1:=λz:Bl W0=>z.cell (OS.cell (i:=1) rfl);have c2:=λz:Bl W0=>z.cell (OS.cell (i:=2) rfl);have c3:=λz:Bl W0=>z.cell (OS.cell (i:=3) rfl);have d0:=λz:Bl W0=>z.cell (OT.cell (i:=0) rfl);have d1:=λz:Bl W0=>z.cell (OT.cell (i:=1) rfl);have d2:=λz:Bl W0=>z.cell (OT.cell (i:=2) rfl);have d3:=λz:Bl W0=>z.cell (OT.cell (i:=3) rfl);clear OS OT h0 h1 hW0;change Code.wp _ _ _ _ (Bl.val (⟨W0,aC _ _⟩:Bl W0));generalize(⟨W0,aC _ _⟩:Bl W0)=z0;by_cases hq:¬(s.day=t.day)
 .have q0:(s.day !=t.day)=true:=by rw[bne_iff_ne];omega
  obtain rfl:E=false:=by rw[<-HE.out];exact Bj (λe=>hq (by rw[e]))
  go_wp2;go_ret;exact⟨rfl,av HB.out (Bl.prop _)⟩
 have q0:(s.day !=t.day)=false:=by rw[bne_eq_false_iff_eq];omega
 have HD:Hid (s.day=t.day):=by show _=_;omega
 clear hq;by_cases hq:¬(s.aj.length=t.aj.length)
 .have q1:((s.aj.length:Int)!=(t.aj.length:Int))=true:=by rw[bne_iff_ne];omega
  obtain rfl:E=false:=by rw[<-HE.out];exact Bj (λe=>hq (by rw[e]))
  go_wp2;go_ret;exact⟨rfl,av HB.out (Bl.prop _)⟩
 have q1:((s.aj.length:Int)!=(t.aj.length:Int))=false:=by rw[bne_eq_false_iff_eq];omega
 have n1:s.aj.length=t.aj.length:=by omega
 clear hq;by_cases hq:¬(s.used.length=t.used.length)
 .have q2:((s.used.length:Int)!=(t.used.length:Int))=true:=by rw[bne_iff_ne];omega
  obtain rfl:E=false:=by rw[<-HE.out];exact Bj (λe=>hq (by rw[e]))
  go_wp2;go_ret;exact⟨rfl,av HB.out (Bl.prop _)⟩
 have q2:((s.used.length:Int)!=(t.used.length:Int))=false:=by rw[bne_eq_false_iff_eq];omega
 have n2:s.used.length=t.used.length:=by omega
 clear hq;by_cases hq:¬(s.marks.length=t.marks.length)
 .have q3:((s.marks.length:Int)!=(t.marks.length:Int))=true:=by rw[bne_iff_ne];omega
  obtain rfl:E=false:=by rw[<-HE.out];exact Bj (λe=>hq (by rw[e]))
  go_wp2;go_ret;exact⟨rfl,av HB.out (Bl.prop _)⟩
 have q3:((s.marks.length:Int)!=(t.marks.length:Int))=false:=by rw[bne_eq_false_iff_eq];omega
 have n3:s.marks.length=t.marks.length:=by omega
 clear hq;go_wp2;clear q0 q1 q2 q3
 go_loopw [5] (λv5 wr=>∃(j:Nat)(z:Bl W0),j<=s.aj.length/\v5= .int .i64 j/\wr=z.val/\Hid (∀(i:Nat) a b,i<j->s.aj[i]?=some a->t.aj[i]?=some b->a=b)) (λv5 _=>s.aj.length - (intOf v5).toNat)
 case atStart=>exact⟨0,_,aU _,rfl,rfl,λi a b h=>by omega⟩
 case round=>
  obtain⟨j,z,hj,rfl,rfl,Nf⟩:=hrel;by_cases hlt:j<s.aj.length
  .obtain⟨a,ha⟩:∃a,s.aj[j]?=some a:=⟨_,aS hlt⟩
   obtain⟨b,hb⟩:∃b,t.aj[j]?=some b:=⟨_,aS (by omega)⟩;obtain⟨b1,o1,hA1,hl1,hc1⟩:=(HS.out.below HB.out).aj.1.form (by omega) (by omega);obtain⟨b2,o2,hA2,hl2,hc2⟩:=(HT.out.below HB.out).aj.1.form (by omega) (by omega);try simp only at hA1 hA2
   subst hA1 hA2;have k1:(j:Int)<(s.aj.length:Int):=by omega
   have k2:(j:Int)<(t.aj.length:Int):=by omega
   have ZQ:Hid (s=t->a=b):=λe=>by
    subst e;rw[ha]at hb;exact Option.some.inj hb
   have HPS:Hid (a=b->∀(i:Nat) a b,i<j+1->s.aj[i]?=some a->t.aj[i]?=some b->a=b):=D8 Nf.out ha hb;have e1:∀s:Bl W0,s.val.cell? ⟨b1,o1+j,none⟩=some (.int .i64 a):=λs=>s.cell (by rw[hc1 j (by omega)];unfold aZ;rw[gK,ha];rfl);have e2:∀s:Bl W0,s.val.cell? ⟨b2,o2+j,none⟩=some (.int .i64 b):=λs=>s.cell (by rw[hc2 j (by omega)];unfold aZ;rw[gK,hb];rfl);clear hc1 hc2 ha hb;go_upto_region 6 with(fail)
   by_cases hab:a=b
   .subst hab
    clear ZQ;refine aI ?_;repeat(go_big_quiet_step (fail))
    refine aY ?_;rintro _ ⟨z,rfl⟩;go_wp2
    go_roundw
    case rel=>exact⟨j+1,_,by omega,by go_num,rfl,HPS.out rfl⟩
    case measure=>simp[intOf];omega
   .have t1:(a !=b)=true:=by simpa using hab
    obtain rfl:E=false:=by rw[<-HE.out];exact Bj (λe=>hab (ZQ.out e))
    refine aI ?_;repeat(go_big_quiet_step (fail))
    refine aY ?_;rintro _ ⟨z,rfl⟩;go_wp2;go_ret;exact⟨rfl,av HB.out (Bl.prop _)⟩
  .obtain rfl:j=s.aj.length:=by omega
   have ZB:Hid (s.aj=t.aj):=M6 (by omega) Nf.out;clear hlt hj Nf;go_wp2
   go_loopw [6] (λv6 wr=>∃(j:Nat)(z:Bl W0),j<=s.used.length/\v6= .int .i64 j/\wr=z.val/\Hid (∀(i:Nat) a b,i<j->s.used[i]?=some a->t.used[i]?=some b->a=b)) (λv6 _=>s.used.length - (intOf v6).toNat)
   case atStart=>exact⟨0,_,aU _,rfl,rfl,λi a b h=>by omega⟩
   case round=>
    obtain⟨j,z,hj,rfl,rfl,Nf⟩:=hrel;by_cases hlt:j<s.used.length
    .obtain⟨a,ha⟩:∃a,s.used[j]?=some a:=⟨_,aS hlt⟩
     obtain⟨b,hb⟩:∃b,t.used[j]?=some b:=⟨_,aS (by omega)⟩;obtain⟨b1,o1,hA1,hl1,hc1⟩:=(HS.out.below HB.out).used.1.form (by omega) (by omega);obtain⟨b2,o2,hA2,hl2,hc2⟩:=(HT.out.below HB.out).used.1.form (by omega) (by omega);try simp only at hA1 hA2
     subst hA1 hA2;have k1:(j:Int)<(s.used.length:Int):=by omega
     have k2:(j:Int)<(t.used.length:Int):=by omega
     have ZQ:Hid (s=t->a=b):=λe=>by
      subst e;rw[ha]at hb;exact Option.some.inj hb
     have HPS:Hid (a=b->∀(i:Nat) a b,i<j+1->s.used[i]?=some a->t.used[i]?=some b->a=b):=D8 Nf.out ha hb;have e1:∀s:Bl W0,s.val.cell? ⟨b1,o1+j,none⟩=some (.bool a):=λs=>s.cell (by rw[hc1 j (by omega)];unfold fM;rw[gK,ha];rfl);have e2:∀s:Bl W0,s.val.cell? ⟨b2,o2+j,none⟩=some (.bool b):=λs=>s.cell (by rw[hc2 j (by omega)];unfold fM;rw[gK,hb];rfl);clear hc1 hc2 ha hb;go_upto_region 11 with(fail)
     by_cases hab:a=b
     .subst hab
      clear ZQ;refine aI ?_;repeat(go_big_quiet_step (fail))
      refine aY ?_;rintro _ ⟨z,rfl⟩;go_wp2
      go_roundw
      case rel=>exact⟨j+1,_,by omega,by go_num,rfl,HPS.out rfl⟩
      case measure=>simp[intOf];omega
     .have t1:(!(a==b))=true:=by cases a<;>cases b<;>simp_all
      obtain rfl:E=false:=by rw[<-HE.out];exact Bj (λe=>hab (ZQ.out e))
      refine aI ?_;repeat(go_big_quiet_step (fail))
      refine aY ?_;rintro _ ⟨z,rfl⟩;go_wp2;go_ret;exact⟨rfl,av HB.out (Bl.prop _)⟩
    .obtain rfl:j=s.used.length:=by omega
     have ait:Hid (s.used=t.used):=M6 (by omega) Nf.out;clear hlt hj Nf;go_wp2
     go_loopw [7] (λv7 wr=>∃(j:Nat)(z:Bl W0),j<=s.marks.length/\v7= .int .i64 j/\wr=z.val/\Hid (∀(i:Nat) a b,i<j->s.marks[i]?=some a->t.marks[i]?=some b->a=b)) (λv7 _=>s.marks.length - (intOf v7).toNat)
     case atStart=>exact⟨0,_,aU _,rfl,rfl,λi a b h=>by omega⟩
     case round=>
      obtain⟨j,z,hj,rfl,rfl,Nf⟩:=hrel;by_cases hlt:j<s.marks.length
      .obtain⟨a,ha⟩:∃a,s.marks[j]?=some a:=⟨_,aS hlt⟩
       obtain⟨b,hb⟩:∃b,t.marks[j]?=some b:=⟨_,aS (by omega)⟩;obtain⟨b1,o1,hA1,hl1,hc1⟩:=(HS.out.below HB.out).marks.1.form (by omega) (by omega);obtain⟨b2,o2,hA2,hl2,hc2⟩:=(HT.out.below HB.out).marks.1.form (by omega) (by omega);try simp only at hA1 hA2
       subst hA1 hA2;have k1:(j:Int)<(s.marks.length:Int):=by omega
       have k2:(j:Int)<(t.marks.length:Int):=by omega
       have ZQ:Hid (s=t->a=b):=λe=>by
        subst e;rw[ha]at hb;exact Option.some.inj hb
       have HPS:Hid (a=b->∀(i:Nat) a b,i<j+1->s.marks[i]?=some a->t.marks[i]?=some b->a=b):=D8 Nf.out ha hb;obtain⟨x0,x1,x2,x3,x4⟩:=a;obtain⟨y0,y1,y2,y3,y4⟩:=b;have aqW:∀s:Bl W0,s.val.cell? ⟨b1,o1+j*5,none⟩=some (.int .i64 x0):=λs=>s.cell (by rw[hc1 _ (by omega)];exact bG aD.cells 5 (λ_=>rfl) _ j 0 _ ha (by omega));have aqX:∀s:Bl W0,s.val.cell? ⟨b1,o1+j*5+1,none⟩=some (.int .i64 x1):=λs=>s.cell (by rw[iR];rw[hc1 _ (by omega)];exact bG aD.cells 5 (λ_=>rfl) _ j 1 _ ha (by omega));have aqY:∀s:Bl W0,s.val.cell? ⟨b1,o1+j*5+2,none⟩=some (.int .i64 x2):=λs=>s.cell (by rw[iR];rw[hc1 _ (by omega)];exact bG aD.cells 5 (λ_=>rfl) _ j 2 _ ha (by omega));have aqZ:∀s:Bl W0,s.val.cell? ⟨b1,o1+j*5+3,none⟩=some (.int .i64 x3):=λs=>s.cell (by rw[iR];rw[hc1 _ (by omega)];exact bG aD.cells 5 (λ_=>rfl) _ j 3 _ ha (by omega));have aq0:∀s:Bl W0,s.val.cell? ⟨b1,o1+j*5+4,none⟩=some (.bool x4):=λs=>s.cell (by rw[iR];rw[hc1 _ (by omega)];exact bG aD.cells 5 (λ_=>rfl) _ j 4 _ ha (by omega));have aq1:∀s:Bl W0,s.val.cell? ⟨b2,o2+j*5,none⟩=some (.int .i64 y0):=λs=>s.cell (by rw[hc2 _ (by omega)];exact bG aD.cells 5 (λ_=>rfl) _ j 0 _ hb (by omega));have aq2:∀s:Bl W0,s.val.cell? ⟨b2,o2+j*5+1,none⟩=some (.int .i64 y1):=λs=>s.cell (by rw[iR];rw[hc2 _ (by omega)];exact bG aD.cells 5 (λ_=>rfl) _ j 1 _ hb (by omega));have aq3:∀s:Bl W0,s.val.cell? ⟨b2,o2+j*5+2,none⟩=some (.int .i64 y2):=λs=>s.cell (by rw[iR];rw[hc2 _ (by omega)];exact bG aD.cells 5 (λ_=>rfl) _ j 2 _ hb (by omega));have aq4:∀s:Bl W0,s.val.cell? ⟨b2,o2+j*5+3,none⟩=some (.int .i64 y3):=λs=>s.cell (by rw[iR];rw[hc2 _ (by omega)];exact bG aD.cells 5 (λ_=>rfl) _ j 3 _ hb (by omega));have aq5:∀s:Bl W0,s.val.cell? ⟨b2,o2+j*5+4,none⟩=some (.bool y4):=λs=>s.cell (by rw[iR];rw[hc2 _ (by omega)];exact bG aD.cells 5 (λ_=>rfl) _ j 4 _ hb (by omega));clear hc1 hc2 ha hb;go_upto_region 16 with(fail)
       by_cases hab:(⟨x0,x1,x2,x3,x4⟩:aD)=⟨y0,y1,y2,y3,y4⟩
       .cases hab
        clear ZQ;refine aI ?_;repeat(go_big_quiet_step (fail))
        refine aY ?_;rintro _ ⟨z,rfl⟩;go_wp2
        go_roundw
        case rel=>exact⟨j+1,_,by omega,by go_num,rfl,HPS.out rfl⟩
        case measure=>simp[intOf];omega
       .have heq:=λw:World=>ZA w _ _ _ _ _ _ _ _ _ _ hab
        obtain rfl:E=false:=by rw[<-HE.out];exact Bj (λe=>hab (ZQ.out e))
        refine aI ?_;repeat(go_big_quiet_step (fail))
        refine aY ?_;rintro _ ⟨z,rfl⟩;go_wp2;go_ret;exact⟨rfl,av HB.out (Bl.prop _)⟩
      .obtain rfl:j=s.marks.length:=by omega
       have aeQ:Hid (s.marks=t.marks):=M6 (by omega) Nf.out;clear hlt hj Nf;obtain rfl:E=true:=by rw[<-HE.out];exact M5.2 (Wq HD.out ZB.out ait.out aeQ.out)
       go_wp2;go_ret;exact⟨rfl,av HB.out (Bl.prop _)⟩
end Go.Proofs.YtpmdedcnbockhaaGreatDoor
