/- part -/
import Derived.Test.YtpmdedcnbockhaaGreatDoorS24
set_option maxRecDepth 100000
set_option maxHeartbeats 8000000
namespace Go.Proofs.YtpmdedcnbockhaaGreatDoor
section
open Go.RowKit Go.Shelf Tryz
attribute [local go_sem] kD stillUpon bM
def sF(w:World)(v:SV)(L:List (List Int)):Prop:=
 ∃ts:List SV,ts.length=L.length/\At w 1 v.A L.length v.c ((L.zip ts).map (λp=>Value.slice p.2.A p.1.length p.2.c))/\∀(i:Nat)(l:List Int)(t:SV),L[i]?=some l->ts[i]?=some t->At w 1 t.A l.length t.c (aZ l)
theorem sF.below{w w':World}{v:SV}{L:List (List Int)}(h:sF w v L)(hb:Below w.heap.size w w'):sF w' v L:=by
 obtain⟨ts,h1,h2,h3⟩:=h;exact⟨ts,h1,h2.below (by omega) hb,λi l t hl ht=>(h3 i l t hl ht).below (by omega) hb⟩
theorem sF.len{w:World}{v:SV}{L:List (List Int)}(h:sF w v L):L.length<=v.c/\v.c<=9223372036854775807:=by
 obtain⟨ts,h1,h2,h3⟩:=h;have h4:=h2.2.2.1;have h5:=h2.2.2.2;unfold maxLen at h5;omega
theorem sF.form{w:World}{v:SV}{L:List (List Int)}(h:sF w v L)(hl:0<L.length):
 ∃b off,v.A=some ⟨b,off,none⟩/\b<w.heap.size/\∀(i:Nat)(l:List Int),L[i]?=some l->∃t:SV,At w 1 t.A l.length t.c (aZ l)/\∀W,Below w.heap.size w W->W.cell? ⟨b,off+i,none⟩=some (.slice t.A l.length t.c):=by
 obtain⟨ts,h1,h2,h3⟩:=h;obtain⟨b,off,hA,hb,hc⟩:=h2.1.form hl (by omega);refine⟨b,off,hA,hb,λi l hi=>?_⟩;have hil:i<L.length:=(bB.1 hi).1;have ht:ts[i]?=some (ts[i]'(by omega)):=aS _;refine⟨ts[i]'(by omega),h3 i l _ hi ht,λW hW=>?_⟩;rw[hW.cell (p:=⟨b,off+i,none⟩) hb,hc _ (by omega),gK];have hz:(L.zip ts)[i]?=some (l,ts[i]'(by omega)):=by rw[Kk];exact⟨hi,ht⟩
 rw[hz];rfl
theorem tJ{w:World}{size:Nat}{A:Option Addr}{n c:Nat}{xs:List Value}(h:At w size A n c xs):n<=9223372036854775807:=nZ h
theorem aei{α:Type}{l m:List α}{k:Nat}{x:α}(h:l.take k=m.take k)(h1:l[k]?=some x)(h2:m[k]?=some x):l.take (k+1)=m.take (k+1):=by
 rw[D_,D_,h,h1,h2]
theorem Y9(l m:List Int)(a b:SV)(w:World)(hl:At w 1 a.A l.length a.c (aZ l))(hm:At w 1 b.A m.length b.c (aZ m)):
 Calls prog 21 #[.slice a.A l.length a.c,.slice b.A m.length b.c] w (dZ (.bool (decide (l=m))) w):=by
 obtain⟨aA,ac⟩:=a;obtain⟨bA,bc⟩:=b;have hlx:=tJ hl;have hmx:=tJ hm;have HL:=ah hl;clear hl;have HM:=ah hm;clear hm;obtain⟨E,HE⟩:∃E,Hid (decide (l=m)=E):=⟨_,rfl⟩;rw[HE.out];by_cases hlen:l.length=m.length
 .have q1:((l.length:Int)!=(m.length:Int))=false:=by simp[hlen]
  have HLEN:=ah hlen;clear hlen;go_enter func21,ntmps21;go_wp2
  go_loopw [5] (λv wr=>∃k:Nat,k<=l.length/\v= .int .i64 k/\Hid (l.take k=m.take k)/\Hid (Below w.heap.size w wr)) (λv _=>l.length - (intOf v).toNat)
  case atStart=>exact⟨0,aU _,rfl,rfl,aC _ _⟩
  case round=>
   obtain⟨k,hk,rfl,HT,vE⟩:=hrel;by_cases hlt:k<l.length
   .have hlt2:k<m.length:=by rw[<-HLEN.out];exact hlt
    obtain⟨x,hx⟩:∃x,l[k]?=some x:=⟨_,aS hlt⟩;obtain⟨y,hy⟩:∃y,m[k]?=some y:=⟨_,aS hlt2⟩;obtain⟨g1,o1,e1,hg1,hc1⟩:=HL.out.1.form (by omega) (by omega);obtain⟨g2,o2,e2,hg2,hc2⟩:=HM.out.1.form (by omega) (by omega);subst e1 e2;have x0:∀z:Bl wr,z.val.cell? ⟨g1,o1+k,none⟩=some (.int .i64 x):=λz=>((av vE.out z.prop).cell (p:=⟨g1,o1+k,none⟩) hg1).trans ((hc1 k (by omega)).trans (ig hx));have y0:∀z:Bl wr,z.val.cell? ⟨g2,o2+k,none⟩=some (.int .i64 y):=λz=>((av vE.out z.prop).cell (p:=⟨g2,o2+k,none⟩) hg2).trans ((hc2 k (by omega)).trans (ig hy));have k1:(k:Int)<(l.length:Int):=by omega
    have k2:(k:Int)<(m.length:Int):=by omega
    have HX:=ah hx;have HY:=ah hy;clear hx hy hc1 hc2 q1;go_upto_region 6 with(fail)
    by_cases he:x=y
    .have HXY:=ah he
     subst he;change Code.wp _ _ _ _ (Bl.val (⟨wr,aC _ _⟩:Bl wr));generalize(⟨wr,aC _ _⟩:Bl wr)=za;refine aI ?_;repeat(go_big_quiet_step (fail))
     refine aY ?_;rintro _ ⟨zb,rfl⟩;have J7:=ah (av vE.out zb.prop);have HTN:=ah (aei HT.out HX.out HY.out);clear x0 y0 vE;generalize zb.val=Wd at J7⊢;go_wp2
     go_roundw
     case rel=>exact⟨k+1,by omega,by go_num,HTN,J7⟩
     case measure=>simp[intOf];omega
    .obtain rfl:E=false:=by
      rw[<-HE.out];refine decide_eq_false (λh=>he ?_);have h1:=HX.out;rw[h,HY.out]at h1;exact(Option.some.inj h1).symm
     have q2:(x !=y)=true:=by simp[he]
     change Code.wp _ _ _ _ (Bl.val (⟨wr,aC _ _⟩:Bl wr));generalize(⟨wr,aC _ _⟩:Bl wr)=za;refine aI ?_;repeat(go_big_quiet_step (fail))
     refine aY ?_;rintro _ ⟨zb,rfl⟩;have J7:=ah (av vE.out zb.prop);go_wp2;go_ret;exact⟨rfl,J7.out⟩
   .obtain rfl:k=l.length:=by omega
    obtain rfl:E=true:=by
     rw[<-HE.out];refine decide_eq_true ?_;have h:=HT.out;rw[iG,HLEN.out,iG]at h;exact h
    go_wp2;go_ret;exact⟨rfl,vE.out⟩
 .have q1:((l.length:Int)!=(m.length:Int))=true:=by simp;omega
  obtain rfl:E=false:=by
   rw[<-HE.out];exact decide_eq_false (λh=>hlen (by rw[h]))
  go_enter func21,ntmps21;go_wp2;go_ret;exact⟨rfl,aC _ _⟩
end
section
open Go.RowKit Go.Shelf Tryz
attribute [local go_sem] kD stillUpon bM
instance:DecidableEq ay:=λa b=>by
 obtain⟨a1,a2,a3,a4,a5,a6⟩:=a;obtain⟨b1,b2,b3,b4,b5,b6⟩:=b;exact decidable_of_iff (a1=b1/\a2=b2/\a3=b3/\a4=b4/\a5=b5/\a6=b6) (by simp)
instance:DecidableEq bR:=λa b=>by
 obtain⟨a1,a2,a3⟩:=a;obtain⟨b1,b2,b3⟩:=b;exact decidable_of_iff (a1=b1/\a2=b2/\a3=b3) (by simp)
end
section
open Go.RowKit Go.Shelf Tryz
def Y_(w:World)(e:Ending)(w':World):Prop:=∃x:Bool,e= .returned (.bool x)/\Below w.heap.size w w'
theorem VR(v:CV)(C:au)(n:Int)(w:World)(hC:bO w v C):Calls prog 55 #[v.val C,.int .i64 n] w (Y_ w):=by
 obtain⟨⟨dV,dW⟩,⟨dX,dY⟩,⟨fB,dH⟩,⟨eZ,dM⟩,⟨dQ,dR⟩⟩:=v;have hx1:C.aj.length<=9223372036854775807:=nZ hC.aj;have hx2:C.units.length<=9223372036854775807:=nZ hC.units;have hx3:C.acts.length<=9223372036854775807:=nZ hC.acts;have hx6:C.off.length<=9223372036854775807:=nZ hC.off;have hx4:C.clauses.length<=9223372036854775807:=by
  obtain⟨ss,g1,g2,g3⟩:=hC.clauses;have h1:=g2.2.2.1;have h2:=g2.2.2.2;unfold maxLen at h2;omega
 have HC:=ah hC;clear hC;simp only[CV.val,CV.cells];go_enter func55,ntmps55;go_upto_region 1 with(fail)
 generalize hW0:World.alloc _ _=W0;obtain⟨HB,hh0⟩:=bx1 hW0;clear hW0;obtain⟨iC,iD,iI,iy,iP,jc,jA⟩:=CS hh0;clear hh0;change Code.wp _ _ _ _ (Bl.val (⟨W0,aC _ _⟩:Bl W0));generalize(⟨W0,aC _ _⟩:Bl W0)=s0;cases q0:decide (20<(C.aj.length:Int))with
 |true=>
  go_wp2;go_ret;exact⟨false,rfl,av HB.out (Bl.prop _)⟩
 |false=>
  cases q1:decide (30<(C.units.length:Int))with
  |true=>
   go_wp2;go_ret;exact⟨false,rfl,av HB.out (Bl.prop _)⟩
  |false=>
   cases q2:decide (70<(C.acts.length:Int))with
   |true=>
    go_wp2;go_ret;exact⟨false,rfl,av HB.out (Bl.prop _)⟩
   |false=>
    cases q3:decide (n<(C.clauses.length:Int))with
    |true=>
     go_wp2;go_ret;exact⟨false,rfl,av HB.out (Bl.prop _)⟩
    |false=>
     cases q4:decide (100<(C.off.length:Int))with
     |true=>
      go_wp2;go_ret;exact⟨false,rfl,av HB.out (Bl.prop _)⟩
     |false=>
      go_wp2
      go_loopg [5] C.clauses.length (λgk v5 wr=>∃(j:Nat)(z:Bl W0),gk=C.clauses.length - j/\j<=C.clauses.length/\v5= .int .i64 j/\wr=z.val)
      case atStart=>exact⟨0,_,rfl,aU _,rfl,rfl⟩
      case round=>
       obtain⟨j,z,eO,hj,rfl,rfl⟩:=hrel;have iw:=ah eO;clear eO;by_cases hlt:j<C.clauses.length
       .obtain⟨k,hk⟩:∃k,C.clauses[j]?=some k:=⟨_,aS hlt⟩
        obtain⟨kb,kK,st,hKA,hkb,hkc,hsa⟩:=(HC.out.below (av HB.out z.prop)).clause hk;simp only at hKA;subst hKA;have hsl:k.start.length<=9223372036854775807:=nZ hsa;have x4:z.val.cell? ⟨kb,kK+j*16+4,none⟩=some (.slice st.A k.start.length st.c):=hkc z.val (aC _ _) 4 (by omega);clear hkc hsa hk;have j0:(0:Int)<=(j:Int):=by omega
        have j1:(j:Int)<(C.clauses.length:Int):=by omega
        cases qs:decide (20<(k.start.length:Int))with
        |true=>
         go_wp2;go_ret;exact⟨false,rfl,av HB.out (Bl.prop _)⟩
        |false=>
         go_wp2
         go_roundg (C.clauses.length - (j+1))
         case measure=>rw[iw.out];omega
         case rel=>exact⟨j+1,z,rfl,by omega,by go_num,rfl⟩
       .obtain rfl:j=C.clauses.length:=by omega
        go_wp2;go_ret;exact⟨true,rfl,av HB.out (Bl.prop _)⟩
end
open Go.RowKit Go.Shelf Tryz
def nW(l m:List Int):Prop:=l.length=m.length/\∀(k:Nat)(x:Int),l[k]?=some x->x=0\/m[k]?=some x
theorem EJ{l m:List Int}{k:Nat}{x:Int}(hx:l[k]?=some x)(h:∀(j:Nat)(y:Int),j<k->l[j]?=some y->y=0\/m[j]?=some y)(h2:x=0\/m[k]?=some x):∀(j:Nat)(y:Int),j<k+1->l[j]?=some y->y=0\/m[j]?=some y:=λj y hj hy=>by
 by_cases e:j=k
 .subst e
  rw[hx]at hy;cases hy
  exact h2
 .exact h j y (by omega) hy
def Pt(l m:List Int)(w:World)(e:Ending)(w':World):Prop:=∃b:Bool,e= .returned (.bool b)/\(b=true↔nW l m)/\Below w.heap.size w w'
theorem EK(l m:List Int)(a b:SV)(w:World)(hl:At w 1 a.A l.length a.c (aZ l))(hm:At w 1 b.A m.length b.c (aZ m)):
 Calls prog 20 #[.slice a.A l.length a.c,.slice b.A m.length b.c] w (Pt l m w):=by
 obtain⟨aA,ac⟩:=a;obtain⟨bA,bc⟩:=b;have hlx:=tJ hl;have hmx:=tJ hm;have HL:=ah hl;clear hl;have HM:=ah hm;clear hm;by_cases hlen:l.length=m.length
 .have q1:((l.length:Int)!=(m.length:Int))=false:=by simp[hlen]
  have HLEN:=ah hlen;clear hlen;go_enter func20,ntmps20;go_wp2
  go_loopg [14] l.length (λgk v14 wr=>∃k:Nat,gk=l.length - k/\k<=l.length/\v14= .int .i64 k/\Hid (∀(j:Nat)(y:Int),j<k->l[j]?=some y->y=0\/m[j]?=some y)/\Hid (Below w.heap.size w wr))
  case atStart=>exact⟨0,rfl,aU _,rfl,(λj y h=>absurd h (Nat.not_lt_zero _)),aC _ _⟩
  case round=>
   obtain⟨k,eO,hk,rfl,HT,vE⟩:=hrel;have iw:=ah eO;clear eO;by_cases hlt:k<l.length
   .have hlt2:k<m.length:=by rw[<-HLEN.out];exact hlt
    obtain⟨x,hx⟩:∃x,l[k]?=some x:=⟨_,aS hlt⟩;obtain⟨y,hy⟩:∃y,m[k]?=some y:=⟨_,aS hlt2⟩;obtain⟨g1,o1,e1,hg1,hc1⟩:=HL.out.1.form (by omega) (by omega);obtain⟨g2,o2,e2,hg2,hc2⟩:=HM.out.1.form (by omega) (by omega);subst e1 e2;have x0:wr.cell? ⟨g1,o1+k,none⟩=some (.int .i64 x):=(vE.out.cell (p:=⟨g1,o1+k,none⟩) hg1).trans ((hc1 k (by omega)).trans (ig hx));have y0:wr.cell? ⟨g2,o2+k,none⟩=some (.int .i64 y):=(vE.out.cell (p:=⟨g2,o2+k,none⟩) hg2).trans ((hc2 k (by omega)).trans (ig hy));have k1:(k:Int)<(l.length:Int):=by omega
    have k2:(k:Int)<(m.length:Int):=by omega
    have HX:=ah hx;have HY:=ah hy;clear hx hy hc1 hc2 q1;by_cases he:x=0
    .have HTN:=ah (EJ HX.out HT.out (.inl he))
     have q2:(x !=0)=false:=by simp[he]
     clear he;go_wp2
     go_roundg (l.length - (k+1))
     case measure=>rw[iw.out];omega
     case rel=>exact⟨k+1,rfl,by omega,by go_num,HTN,vE⟩
    .have q2:(x !=0)=true:=by simp[he]
     by_cases hxy:x=y
     .have HTN:=ah (EJ HX.out HT.out (.inr (by rw[hxy];exact HY.out)))
      have q3:(x !=y)=false:=by simp[hxy]
      clear he hxy;go_wp2
      go_roundg (l.length - (k+1))
      case measure=>rw[iw.out];omega
      case rel=>exact⟨k+1,rfl,by omega,by go_num,HTN,vE⟩
     .have FL:Hid (¬nW l m):=λh=>by
       rcases h.2 k x HX.out with h|h
       .exact he h
       .rw[HY.out]at h
        exact hxy (Option.some.inj h).symm
      have q3:(x !=y)=true:=by simp[hxy]
      clear he hxy;go_wp2;go_ret;exact⟨false,rfl,⟨λh=>(by cases h),λh=>absurd h FL.out⟩,vE.out⟩
   .obtain rfl:k=l.length:=by omega
    have alx:Hid (nW l m):=⟨HLEN.out,λk x hx=>HT.out k x (bB.1 hx).1 hx⟩;go_wp2;go_ret;exact⟨true,rfl,⟨λ_=>alx.out,λ_=>rfl⟩,vE.out⟩
 .have q1:((l.length:Int)!=(m.length:Int))=true:=by rw[bne_iff_ne];omega
  have FL:Hid (¬nW l m):=λh=>hlen h.1;clear hlen;go_enter func20,ntmps20;go_wp2;go_ret;exact⟨false,rfl,⟨λh=>(by cases h),λh=>absurd h FL.out⟩,aC _ _⟩
def vY(s:Int):Int:=cond ((s==3)||(s==5)) 1 (cond (s==4) 3 2)
theorem MJ(s:Int)(w:World):Calls prog 37 #[.int .i64 s] w (dZ (.int .i64 (vY s)) w):=by
 cases q3:(s==3)<;>cases q5:(s==5)<;>cases q4:(s==4)
 all_goals
  rw[show vY s=_ by unfold vY;rw[q3,q5,q4]];go_enter func37,ntmps37;go_wp2;go_ret;exact⟨rfl,aC _ _⟩
end Go.Proofs.YtpmdedcnbockhaaGreatDoor
