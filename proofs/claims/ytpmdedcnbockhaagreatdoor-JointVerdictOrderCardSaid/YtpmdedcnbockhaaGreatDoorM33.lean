/-
  JwO
-/
import Derived.Test.YtpmdedcnbockhaaGreatDoorM32
set_option maxRecDepth 100000
set_option maxHeartbeats 8000000
namespace Go.Proofs.YtpmdedcnbockhaaGreatDoor
open Go.RowKit Go.Shelf
open Classical in
noncomputable def nkB (l m:List Int):Bool:=decide (dH l m)
theorem pI{l m:List Int}{b:Bool}(h:nkB l m=b):b=true↔dH l m:=by
 subst h;unfold nkB;exact@decide_eq_true_iff _ (Classical.propDecidable _)
theorem Db{w:World}{A B:Option Addr}{c d:Nat}{l m:List Int}(hl:At w 1 A l.length c (aY l))(hm:At w 1 B m.length d (aY m)){b:Bool}(hb:nkB l m=b):Calls Tryz.prog 20 #[.slice A l.length c,.slice B m.length d] w (dX (.bool b) w):=
 (zi l m ⟨A,c⟩ ⟨B,d⟩ w hl hm).mono λ_ _ ⟨x,he,hx,hz⟩=>by
  have:x=b:=by
   have h:=pI hb;cases x<;>cases b<;>simp_all
  subst this;exact⟨he,hz⟩
theorem Qu(av bv dv:SV)(a b d:List Int)(w:World)(hA:At w 1 av.A a.length av.c (aY a))(hB:At w 1 bv.A b.length bv.c (aY b))(hD:At w 1 dv.A d.length dv.c (aY d))(hT:Tab w):
 Calls Tryz.prog 6 #[.slice av.A a.length av.c,.slice bv.A b.length bv.c,.slice dv.A d.length dv.c] w (dX (.bool true) w):=by
 obtain⟨aA,ac⟩:=av;obtain⟨bA,bc⟩:=bv;obtain⟨dA,dc⟩:=dv;have la:=mH hA;have lb:=mH hB;have ld:=mH hD;have HA:=ah hA;clear hA;have HB:=ah hB;clear hB;have HD:=ah hD;clear hD;have HH:=ah (zU w hT);clear hT;go_enter Tryz.func6,Tryz.ntmps6;go_wp2_with (go_at_call 9;refine HH.out.mono ?_;rintro _ W1 ⟨rfl,hb⟩;refine Hid.out ?_);refine ah ?_;replace HA:=ah (HA.out.below (by omega) hb);replace HB:=ah (HB.out.below (by omega) hb);replace HD:=ah (HD.out.below (by omega) hb);have HW:=ah hb;clear hb HH;obtain⟨one,hab⟩:∃x,nkB a b=x:=⟨_,rfl⟩;obtain⟨bd,hbd⟩:∃x,nkB b d=x:=⟨_,rfl⟩;obtain⟨ad,had⟩:∃x,nkB a d=x:=⟨_,rfl⟩;obtain⟨ba,hba⟩:∃x,nkB b a=x:=⟨_,rfl⟩;obtain⟨same,hs⟩:∃x,decide (a=b)=x:=⟨_,rfl⟩;have haa:nkB a a=true:=(pI rfl).2 (dH.refl a);have HAB:=ah (λz:Bl W1=>Db (HA.out.below (by omega) z.prop) (HB.out.below (by omega) z.prop) hab);have HAA:=ah (λz:Bl W1=>Db (HA.out.below (by omega) z.prop) (HA.out.below (by omega) z.prop) haa);have HBD:=ah (λz:Bl W1=>Db (HB.out.below (by omega) z.prop) (HD.out.below (by omega) z.prop) hbd);have HAD:=ah (λz:Bl W1=>Db (HA.out.below (by omega) z.prop) (HD.out.below (by omega) z.prop) had);have WE:=ah (λz:Bl W1=>Db (HB.out.below (by omega) z.prop) (HA.out.below (by omega) z.prop) hba);have hsc:=λz:Bl W1=>Pv a b ⟨aA,ac⟩ ⟨bA,bc⟩ z.val (HA.out.below (by omega) z.prop) (HB.out.below (by omega) z.prop);rw[hs]at hsc;have HS:=ah hsc;clear hsc;have P1:Hid (one=true->bd=true->ad=true):=λh1 h2=>(pI had).2 (((pI hab).1 h1).trans ((pI hbd).1 h2));have P2:Hid (one=true->ba=true->same=true):=λh1 h2=>by
  rw[<-hs];exact decide_eq_true (((pI hab).1 h1).anti ((pI hba).1 h2))
 have P3:Hid ((∀x∈a,x≠0)->same=one):=λh=>by
  rw[<-hs];cases h1:one with
  |true=>exact decide_eq_true (((pI hab).1 h1).akY h)
  |false=>
   refine decide_eq_false (λe=>?_);have h2:=(pI hab).2 (by rw[<-e];exact dH.refl a);rw[h1]at h2;cases h2
 have P4:Hid ((∀x∈a,x=0)->((a.length:Int)==(b.length:Int))=one):=λh=>by
  have h2:=(pI hab).trans (dH.free (b:=b) h);cases h1:one with
  |true=>
   have h3:=h2.1 h1;rw[h3];exact beq_self_eq_true _
  |false=>
   rw[beq_eq_false_iff_ne];intro h3;have h4:=h2.2 (by omega);rw[h1]at h4;cases h4
 clear hab hbd had hba hs haa;obtain⟨z,hz⟩:∃z:Bl W1,z.val=W1:=⟨⟨W1,aC _ _⟩,rfl⟩;rw[<-hz];clear hz;by_cases q1:40<a.length
 .go_wp2
  go_ret;exact⟨rfl,ay HW.out (Bl.prop _)⟩
 by_cases q2:40<b.length
 .go_wp2
  go_ret;exact⟨rfl,ay HW.out (Bl.prop _)⟩
 by_cases q3:40<d.length
 .go_wp2
  go_ret;exact⟨rfl,ay HW.out (Bl.prop _)⟩
 have r1:¬(40:Int)<(a.length:Int):=by omega
 have r2:¬(40:Int)<(b.length:Int):=by omega
 have r3:¬(40:Int)<(d.length:Int):=by omega
 clear q1 q2 q3;go_wp2_with (go_at_call 20;refine(HAB.out _).mono ?_;rintro e z ⟨rfl,hz⟩;obtain⟨z,rfl⟩:=Bl.on hz;clear hz;refine Hid.out ?_);refine ah ?_;clear r1 r2 r3;go_upto_region 5 with(fail)
 go_cut [48] (λc wx=>c= .bool false/\∃z:Bl W1,wx=z.val)
 case first=>
  go_wp2_with (go_at_call 20;refine(HAA.out _).mono ?_;rintro e z ⟨rfl,hz⟩;obtain⟨z,rfl⟩:=Bl.on hz;clear hz;refine Hid.out ?_);refine ah ?_;cases one with
  |false=>
   go_wp2
   go_meet
   exact⟨rfl,_,rfl⟩
  |true=>
   go_wp2_with (go_at_call 20;refine(HBD.out _).mono ?_;rintro e z ⟨rfl,hz⟩;obtain⟨z,rfl⟩:=Bl.on hz;clear hz;refine Hid.out ?_);refine ah ?_;cases bd with
   |false=>
    go_wp2
    go_meet
    exact⟨rfl,_,rfl⟩
   |true=>
    obtain rfl:ad=true:=P1.out trivial rfl;go_wp2_with (go_at_call 20;refine(HAD.out _).mono ?_;rintro e z ⟨rfl,hz⟩;obtain⟨z,rfl⟩:=Bl.on hz;clear hz;refine Hid.out ?_);refine ah ?_;go_wp2
    go_meet
    exact⟨rfl,_,rfl⟩
 case rest=>
 obtain⟨rfl,z,rfl⟩:=hcut;clear HAA HBD HAD P1;go_wp2_with (go_at_call 21;refine(HS.out _).mono ?_;rintro e z ⟨rfl,hz⟩;obtain⟨z,rfl⟩:=Bl.on hz;clear hz;refine Hid.out ?_);refine ah ?_;go_upto_region 8 with(fail)
 go_cut [61] (λc wx=>c= .bool false/\∃z:Bl W1,wx=z.val)
 case first=>
  cases one with
  |false=>
   go_wp2
   go_meet
   exact⟨rfl,_,rfl⟩
  |true=>
   go_wp2_with (go_at_call 20;refine(WE.out _).mono ?_;rintro e z ⟨rfl,hz⟩;obtain⟨z,rfl⟩:=Bl.on hz;clear hz;refine Hid.out ?_);refine ah ?_;cases ba with
   |false=>
    go_wp2
    go_meet
    exact⟨rfl,_,rfl⟩
   |true=>
    obtain rfl:same=true:=P2.out trivial rfl;go_wp2
    go_meet
    exact⟨rfl,_,rfl⟩
 case rest=>
 obtain⟨rfl,z,rfl⟩:=hcut;clear WE P2 HAB HS;go_wp2
 go_loopw [10,11,12] (λv10 v11 v12 wr=>∃(k:Nat)(z:Bl W1)(p q:Bool),k<=a.length/\v10= .bool p/\v11= .bool q/\v12= .int .i64 k/\wr=z.val/\Hid (p=true↔∀x∈a.take k,x≠0)/\Hid (q=true↔∀x∈a.take k,x=0)) (λ_ _ v12 _=>a.length - (intOf v12).toNat)
 case atStart=>exact⟨0,z,true,true,aZ _,rfl,rfl,rfl,rfl,by show _↔_;simp,by show _↔_;simp⟩
 case round=>
  obtain⟨k,z,p,q,hk,rfl,rfl,rfl,rfl,HP,HQ⟩:=hrel;by_cases hlt:k<a.length
  .obtain⟨x,hx⟩:∃x,a[k]?=some x:=⟨_,aW hlt⟩
   obtain⟨g,o,e,hg,hc⟩:=(HA.out.below (by omega) z.prop).1.form (by omega) (by omega);subst e;have x0:z.val.cell? ⟨g,o+k,none⟩=some (.int .i64 x):=by rw[hc k (by omega)];unfold aY;rw[fM,hx];rfl
   have k1:(k:Int)<(a.length:Int):=by omega
   have Ju:Hid ((p&&x !=0)=true↔∀y∈a.take (k+1),y≠0):=by
    show _↔_;rw[qM,hx,bP,HP.out];simp only[Option.toList,dJ,d_,bne_iff_ne];exact⟨λh y hy=>hy.elim (h.1 y) (λe=>by rw[e];exact h.2),λh=>⟨λy hy=>h y (.inl hy),h x (.inr rfl)⟩⟩
   have FD:Hid ((q&&x==0)=true↔∀y∈a.take (k+1),y=0):=by
    show _↔_;rw[qM,hx,bP,HQ.out];simp only[Option.toList,dJ,d_,beq_iff_eq];exact⟨λh y hy=>hy.elim (h.1 y) (λe=>by rw[e];exact h.2),λh=>⟨λy hy=>h y (.inl hy),h x (.inr rfl)⟩⟩
   clear hx hc HP HQ;cases p<;>cases q
   all_goals
    by_cases hx0:x=0
    .subst hx0
     go_wp2
     go_roundw
     case rel=>exact⟨k+1,z,_,_,by omega,rfl,rfl,by go_num,rfl,Ju,FD⟩
     case measure=>simp[intOf];omega
    .have t1:(x !=0)=true:=by simp[hx0]
     have t2:(x==0)=false:=by simp[hx0]
     rw[t1]at Ju;rw[t2]at FD;go_wp2
     go_roundw
     case rel=>exact⟨k+1,z,_,_,by omega,rfl,rfl,by go_num,rfl,Ju,FD⟩
     case measure=>simp[intOf];omega
  .obtain rfl:k=a.length:=by omega
   rw[gW]at HP HQ;have R1:Hid (p=true->same=one):=λh=>P3.out (HP.out.1 h);have R2:Hid (q=true->((a.length:Int)==(b.length:Int))=one):=λh=>P4.out (HQ.out.1 h);clear HP HQ P3 P4 hlt hk;cases p with
   |false=>
    cases q with
    |false=>
     go_wp2;go_ret;exact⟨rfl,ay HW.out (Bl.prop _)⟩
    |true=>
     have e:=R2.out rfl;cases one with
     |false=>
      go_wp2;go_ret;exact⟨rfl,ay HW.out (Bl.prop _)⟩
     |true=>
      go_wp2;go_ret;exact⟨rfl,ay HW.out (Bl.prop _)⟩
   |true=>
    obtain rfl:same=one:=R1.out rfl;cases q with
    |false=>
     cases same with
     |false=>
      go_wp2;go_ret;exact⟨rfl,ay HW.out (Bl.prop _)⟩
     |true=>
      go_wp2;go_ret;exact⟨rfl,ay HW.out (Bl.prop _)⟩
    |true=>
     have e:=R2.out rfl;cases same with
     |false=>
      go_wp2;go_ret;exact⟨rfl,ay HW.out (Bl.prop _)⟩
     |true=>
      go_wp2;go_ret;exact⟨rfl,ay HW.out (Bl.prop _)⟩
end Go.Proofs.YtpmdedcnbockhaaGreatDoor
