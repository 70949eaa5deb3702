/-
  CuA; CuB; CuC; JtA
-/
import Derived.Test.YtpmdedcnbockhaaGreatDoorM24
set_option maxRecDepth 100000
set_option maxHeartbeats 8000000
namespace Go.Proofs.YtpmdedcnbockhaaGreatDoor
section
open Go.RowKit Go.Shelf
attribute [local go_sem] jJ stillUpon bH
def sO(w:World)(v:SV)(L:List (List Int)):Prop:=
 ∃ts:List SV,ts.length=L.length/\At w 1 v.A L.length v.c ((L.zip ts).map (λp=>Value.slice p.2.A p.1.length p.2.c))/\∀(i:Nat)(l:List Int)(t:SV),L[i]?=some l->ts[i]?=some t->At w 1 t.A l.length t.c (aY l)
theorem sO.below{w w':World}{v:SV}{L:List (List Int)}(h:sO w v L)(hb:Below w.heap.size w w'):sO w' v L:=by
 obtain⟨ts,h1,h2,h3⟩:=h;exact⟨ts,h1,h2.below (by omega) hb,λi l t hl ht=>(h3 i l t hl ht).below (by omega) hb⟩
theorem sO.len{w:World}{v:SV}{L:List (List Int)}(h:sO w v L):L.length<=v.c/\v.c<=9223372036854775807:=by
 obtain⟨ts,h1,h2,h3⟩:=h;have h4:=h2.2.2.1;have h5:=h2.2.2.2;unfold maxLen at h5;omega
theorem sO.form{w:World}{v:SV}{L:List (List Int)}(h:sO w v L)(hl:0<L.length):
 ∃b off,v.A=some ⟨b,off,none⟩/\b<w.heap.size/\∀(i:Nat)(l:List Int),L[i]?=some l->∃t:SV,At w 1 t.A l.length t.c (aY l)/\∀W,Below w.heap.size w W->W.cell? ⟨b,off+i,none⟩=some (.slice t.A l.length t.c):=by
 obtain⟨ts,h1,h2,h3⟩:=h;obtain⟨b,off,hA,hb,hc⟩:=h2.1.form hl (by omega);refine⟨b,off,hA,hb,λi l hi=>?_⟩;have hil:i<L.length:=(bC.1 hi).1;have ht:ts[i]?=some (ts[i]'(by omega)):=aW _;refine⟨ts[i]'(by omega),h3 i l _ hi ht,λW hW=>?_⟩;rw[hW.cell (p:=⟨b,off+i,none⟩) hb,hc _ (by omega),fM];have hz:(L.zip ts)[i]?=some (l,ts[i]'(by omega)):=by rw[Ei];exact⟨hi,ht⟩
 rw[hz];rfl
theorem mH{w:World}{size:Nat}{A:Option Addr}{n c:Nat}{xs:List Value}(h:At w size A n c xs):n<=9223372036854775807:=by
 have h1:=h.2.2.1;have h2:=h.2.2.2;unfold maxLen at h2;omega
theorem ad7{α:Type}{l m:List α}{k:Nat}{x:α}(h:l.take k=m.take k)(h1:l[k]?=some x)(h2:m[k]?=some x):l.take (k+1)=m.take (k+1):=by
 rw[qM,qM,h,h1,h2]
theorem Pv(l m:List Int)(a b:SV)(w:World)(hl:At w 1 a.A l.length a.c (aY l))(hm:At w 1 b.A m.length b.c (aY m)):
 Calls Tryz.prog 21 #[.slice a.A l.length a.c,.slice b.A m.length b.c] w (dX (.bool (decide (l=m))) w):=by
 obtain⟨aA,ac⟩:=a;obtain⟨bA,bc⟩:=b;have hlx:=mH hl;have hmx:=mH hm;have HL:=ah hl;clear hl;have HM:=ah hm;clear hm;obtain⟨E,HE⟩:∃E,Hid (decide (l=m)=E):=⟨_,rfl⟩;rw[HE.out];by_cases hlen:l.length=m.length
 .have q1:((l.length:Int)!=(m.length:Int))=false:=by simp[hlen]
  have HLEN:=ah hlen;clear hlen;go_enter Tryz.func21,Tryz.ntmps21;go_wp2
  go_loopw [5] (λv wr=>∃k:Nat,k<=l.length/\v= .int .i64 k/\Hid (l.take k=m.take k)/\Hid (Below w.heap.size w wr)) (λv _=>l.length - (intOf v).toNat)
  case atStart=>exact⟨0,aZ _,rfl,rfl,aC _ _⟩
  case round=>
   obtain⟨k,hk,rfl,HT,kL⟩:=hrel;by_cases hlt:k<l.length
   .have hlt2:k<m.length:=by rw[<-HLEN.out];exact hlt
    obtain⟨x,hx⟩:∃x,l[k]?=some x:=⟨_,aW hlt⟩;obtain⟨y,hy⟩:∃y,m[k]?=some y:=⟨_,aW hlt2⟩;obtain⟨g1,o1,e1,hg1,hc1⟩:=HL.out.1.form (by omega) (by omega);obtain⟨g2,o2,e2,hg2,hc2⟩:=HM.out.1.form (by omega) (by omega);subst e1 e2;have x0:∀z:Bl wr,z.val.cell? ⟨g1,o1+k,none⟩=some (.int .i64 x):=λz=>((ay kL.out z.prop).cell (p:=⟨g1,o1+k,none⟩) hg1).trans ((hc1 k (by omega)).trans (fI hx));have y0:∀z:Bl wr,z.val.cell? ⟨g2,o2+k,none⟩=some (.int .i64 y):=λz=>((ay kL.out z.prop).cell (p:=⟨g2,o2+k,none⟩) hg2).trans ((hc2 k (by omega)).trans (fI hy));have k1:(k:Int)<(l.length:Int):=by omega
    have k2:(k:Int)<(m.length:Int):=by omega
    have HX:=ah hx;have HY:=ah hy;clear hx hy hc1 hc2 q1;go_upto_region 6 with(fail)
    by_cases he:x=y
    .have WI:=ah he
     subst he;change Code.wp _ _ _ _ (Bl.val (⟨wr,aC _ _⟩:Bl wr));generalize(⟨wr,aC _ _⟩:Bl wr)=za;refine aI (by kernel_rfl) (by kernel_rfl) ?_;repeat(go_big_quiet_step (fail))
     refine aS ?_;rintro _ ⟨zb,rfl⟩;have uR:=ah (ay kL.out zb.prop);have Nl:=ah (ad7 HT.out HX.out HY.out);clear x0 y0 kL;generalize zb.val=Wd at uR⊢;go_wp2
     go_roundw
     case rel=>exact⟨k+1,by omega,by go_num,Nl,uR⟩
     case measure=>simp[intOf];omega
    .obtain rfl:E=false:=by
      rw[<-HE.out];refine decide_eq_false (λh=>he ?_);have h1:=HX.out;rw[h,HY.out]at h1;exact(Option.some.inj h1).symm
     have q2:(x !=y)=true:=by simp[he]
     change Code.wp _ _ _ _ (Bl.val (⟨wr,aC _ _⟩:Bl wr));generalize(⟨wr,aC _ _⟩:Bl wr)=za;refine aI (by kernel_rfl) (by kernel_rfl) ?_;repeat(go_big_quiet_step (fail))
     refine aS ?_;rintro _ ⟨zb,rfl⟩;have uR:=ah (ay kL.out zb.prop);go_wp2;go_ret;exact⟨rfl,uR.out⟩
   .obtain rfl:k=l.length:=by omega
    obtain rfl:E=true:=by
     rw[<-HE.out];refine decide_eq_true ?_;have h:=HT.out;rw[gW,HLEN.out,gW]at h;exact h
    go_wp2;go_ret;exact⟨rfl,kL.out⟩
 .have q1:((l.length:Int)!=(m.length:Int))=true:=by simp;omega
  obtain rfl:E=false:=by
   rw[<-HE.out];exact decide_eq_false (λh=>hlen (by rw[h]))
  go_enter Tryz.func21,Tryz.ntmps21;go_wp2;go_ret;exact⟨rfl,aC _ _⟩
def kK(F:List au)(r:Int):Int:=match F.findIdx? (λx=>x.ref==r)with|some i=>i|none=> -1
theorem YG(F:List au)(r:Int)(a:SV)(w:World)(hF:At w 6 a.A F.length a.c (bE F)):
 Calls Tryz.prog 19 #[.slice a.A F.length a.c,.int .i64 r] w (λe w'=>∃i:Int,e= .returned (.int .i64 i)/\Below w.heap.size w w'/\((i= -1/\∀x∈F,x.ref≠r)\/∃(k:Nat)(x:au),i=k/\F[k]?=some x/\x.ref=r/\∀y∈F.take k,y.ref≠r)):=by
 obtain⟨aA,ac⟩:=a;have hlx:=mH hF;have HF:=ah hF;clear hF;go_enter Tryz.func19,Tryz.ntmps19;go_wp2
 go_loopw [5] (λv wr=>∃k:Nat,k<=F.length/\v= .int .i64 k/\Hid (∀y∈F.take k,y.ref≠r)/\Hid (Below w.heap.size w wr)) (λv _=>F.length - (intOf v).toNat)
 case atStart=>exact⟨0,aZ _,rfl,(λy hy=>by simp at hy),aC _ _⟩
 case round=>
  obtain⟨k,hk,rfl,HT,kL⟩:=hrel;by_cases hlt:k<F.length
  .obtain⟨x,hx⟩:∃x,F[k]?=some x:=⟨_,aW hlt⟩
   obtain⟨g1,o1,e1,hg1,hc1⟩:=HF.out.fact (by omega);subst e1;have x0:wr.cell? ⟨g1,o1+k*6,none⟩=some (.int .i64 x.ref):=hc1 k x hx wr kL.out 0 (by omega);have k1:(k:Int)<(F.length:Int):=by omega
   have HX:=ah hx;clear hx hc1;by_cases he:x.ref=r
   .have q1:(x.ref==r)=true:=by simp[he]
    have HE:=ah he;clear he;go_wp2;go_ret;exact⟨_,rfl,kL.out,.inr ⟨k,x,rfl,HX.out,HE.out,HT.out⟩⟩
   .have q1:(x.ref==r)=false:=by simp[he]
    have Nl:Hid (∀y∈F.take (k+1),y.ref≠r):=by
     intro y hy;rw[qM,HX.out]at hy;rcases dJ.1 hy with h|h
     .exact HT.out y h
     .simp at h;rw[h];exact he
    go_wp2
    go_roundw
    case rel=>exact⟨k+1,by omega,by go_num,Nl,kL⟩
    case measure=>simp[intOf];omega
  .obtain rfl:k=F.length:=by omega
   rw[gW]at HT;go_wp2;go_ret;exact⟨_,rfl,kL.out,.inl ⟨rfl,HT.out⟩⟩
end
section
open Go.RowKit Go.Shelf
attribute [local go_sem] jJ stillUpon bH
instance:DecidableEq au:=λa b=>by
 obtain⟨a1,a2,a3,a4,a5,a6⟩:=a;obtain⟨b1,b2,b3,b4,b5,b6⟩:=b;exact decidable_of_iff (a1=b1/\a2=b2/\a3=b3/\a4=b4/\a5=b5/\a6=b6) (by simp)
instance:DecidableEq aM:=λa b=>by
 obtain⟨a1,a2,a3⟩:=a;obtain⟨b1,b2,b3⟩:=b;exact decidable_of_iff (a1=b1/\a2=b2/\a3=b3) (by simp)
def Kg(f:aM)(n:Int):Bool:=decide ((f.facts.length:Int)<=n)&&decide ((f.orders.length:Int)<=n)
theorem EX(f:aM)(a:FV)(n:Int)(w:World)(hf:dB w a f):
 Calls Tryz.prog 11 #[a.val f,.int .i64 n] w (dX (.bool (Kg f n)) w):=by
 obtain⟨⟨aA,ac⟩,⟨pA,pc⟩⟩:=a;obtain⟨hx,F,O⟩:=f;have l1:=mH hf.facts;have l2:=mH hf.orders;simp only at l1 l2;clear hf;obtain⟨E,HE⟩:∃E,Hid (Kg (⟨hx,F,O⟩:aM) n=E):=⟨_,rfl⟩;rw[HE.out];simp only[FV.val,FV.cells];go_enter Tryz.func11,Tryz.ntmps11;go_upto_region 1 with(fail)
 generalize hW0:World.alloc _ _=W0;obtain⟨HB,hh0⟩:=bx1 hW0;clear hW0;have O0:Own W0 31 w.heap.size [.int .i64 hx,.slice aA F.length ac,.slice pA O.length pc]:=⟨[],by rw[bV];exact hh0⟩;have e1:=O0.cell (i:=1) rfl;have e2:=O0.cell (i:=2) rfl;clear hh0 O0;have hq:Kg (⟨hx,F,O⟩:aM) n=(decide ((F.length:Int)<=n)&&decide ((O.length:Int)<=n)):=rfl;cases q1:decide ((F.length:Int)<=n)<;>cases q2:decide ((O.length:Int)<=n)<;>(
  rw[q1,q2]at hq;obtain rfl:=HE.out.symm.trans hq;clear hq;go_wp2;go_ret;exact⟨rfl,HB.out⟩)
end
section
open Go.RowKit Go.Shelf
def YH(w:World)(e:Ending)(w':World):Prop:=∃x:Bool,e= .returned (.bool x)/\Below w.heap.size w w'
theorem VR(v:CV)(C:aB)(n:Int)(w:World)(hC:cK w v C):Calls Tryz.prog 55 #[v.val C,.int .i64 n] w (YH w):=by
 obtain⟨⟨g_,h_⟩,⟨ig,iq⟩,⟨jk,gD⟩,⟨iM,gB⟩,⟨gT,gU⟩⟩:=v;have hx1:C.aj.length<=9223372036854775807:=by have h1:=hC.aj.2.2.1;have h2:=hC.aj.2.2.2;unfold maxLen at h2;omega
 have hx2:C.units.length<=9223372036854775807:=by have h1:=hC.units.2.2.1;have h2:=hC.units.2.2.2;unfold maxLen at h2;omega
 have hx3:C.acts.length<=9223372036854775807:=by have h1:=hC.acts.2.2.1;have h2:=hC.acts.2.2.2;unfold maxLen at h2;omega
 have hx6:C.off.length<=9223372036854775807:=by have h1:=hC.off.2.2.1;have h2:=hC.off.2.2.2;unfold maxLen at h2;omega
 have hx4:C.clauses.length<=9223372036854775807:=by
  obtain⟨ss,g1,g2,g3⟩:=hC.clauses;have h1:=g2.2.2.1;have h2:=g2.2.2.2;unfold maxLen at h2;omega
 have HC:=ah hC;clear hC;simp only[CV.val,CV.cells];go_enter Tryz.func55,Tryz.ntmps55;go_upto_region 1 with(fail)
 generalize hW0:World.alloc _ _=W0;obtain⟨HB,hh0⟩:=bx1 hW0;clear hW0;obtain⟨j5,j6,kE,lg,lq,l7,ny⟩:=Jt hh0;clear hh0;change Code.wp _ _ _ _ (Bl.val (⟨W0,aC _ _⟩:Bl W0));generalize(⟨W0,aC _ _⟩:Bl W0)=s0;cases q0:decide (20<(C.aj.length:Int))with
 |true=>
  go_wp2;go_ret;exact⟨false,rfl,ay HB.out (Bl.prop _)⟩
 |false=>
  cases q1:decide (30<(C.units.length:Int))with
  |true=>
   go_wp2;go_ret;exact⟨false,rfl,ay HB.out (Bl.prop _)⟩
  |false=>
   cases q2:decide (70<(C.acts.length:Int))with
   |true=>
    go_wp2;go_ret;exact⟨false,rfl,ay HB.out (Bl.prop _)⟩
   |false=>
    cases q3:decide (n<(C.clauses.length:Int))with
    |true=>
     go_wp2;go_ret;exact⟨false,rfl,ay HB.out (Bl.prop _)⟩
    |false=>
     cases q4:decide (100<(C.off.length:Int))with
     |true=>
      go_wp2;go_ret;exact⟨false,rfl,ay HB.out (Bl.prop _)⟩
     |false=>
      go_wp2
      go_loopg [5] C.clauses.length (λgk v5 wr=>∃(j:Nat)(z:Bl W0),gk=C.clauses.length - j/\j<=C.clauses.length/\v5= .int .i64 j/\wr=z.val)
      case atStart=>exact⟨0,_,rfl,aZ _,rfl,rfl⟩
      case round=>
       obtain⟨j,z,eZ,hj,rfl,rfl⟩:=hrel;have iL:=ah eZ;clear eZ;by_cases hlt:j<C.clauses.length
       .obtain⟨k,hk⟩:∃k,C.clauses[j]?=some k:=⟨_,aW hlt⟩
        obtain⟨kb,lF,st,hKA,hkb,hkc,hsa⟩:=(HC.out.below (ay HB.out z.prop)).clause hk;simp only at hKA;subst hKA;have hsl:k.start.length<=9223372036854775807:=by have h1:=hsa.2.2.1;have h2:=hsa.2.2.2;unfold maxLen at h2;omega
        have x4:z.val.cell? ⟨kb,lF+j*16+4,none⟩=some (.slice st.A k.start.length st.c):=hkc z.val (aC _ _) 4 (by omega);clear hkc hsa hk;have j0:(0:Int)<=(j:Int):=by omega
        have j1:(j:Int)<(C.clauses.length:Int):=by omega
        cases qs:decide (20<(k.start.length:Int))with
        |true=>
         go_wp2;go_ret;exact⟨false,rfl,ay HB.out (Bl.prop _)⟩
        |false=>
         go_wp2
         go_roundg (C.clauses.length - (j+1))
         case measure=>rw[iL.out];omega
         case rel=>exact⟨j+1,z,rfl,by omega,by go_num,rfl⟩
       .obtain rfl:j=C.clauses.length:=by omega
        go_wp2;go_ret;exact⟨true,rfl,ay HB.out (Bl.prop _)⟩
def zh(fs:List aM):Bool:=fs.all (λf=>Kg f 14)&&decide ((fs.length:Int)<=5)
theorem IL{fs:List aM}(h:zh fs=true):fs.length<=5/\∀f∈fs,f.facts.length<=14/\f.orders.length<=14:=by
 simp only[zh,Kg,bP,fE,decide_eq_true_eq]at h;exact⟨by omega,λf hf=>by have:=h.1 f hf;omega⟩
theorem IQ{α:Type}{g:α->Nat}{c:Nat}:∀{l:List α},(∀a∈l,g a<=c)->(l.map g).sum<=c*l.length
 |[],_=>by simp
 |a::l,h=>by
  have h1:=h a List.mem_cons_self;have h2:=IQ (l:=l) (λb hb=>h b (jf _ hb));rw[kN,List.sum_cons,iN,Nat.mul_add];omega
theorem small_facts{fs:List aM}(h:∀f∈fs,f.facts.length<=14/\f.orders.length<=14)(hl:fs.length<=100):(aG fs).length<=4000/\(aO fs).length<=4000:=by
 unfold aG aO;rw[List.length_flatMap,List.length_flatMap];have h1:=IQ (l:=fs) (g:=λf=>f.facts.length) (λf hf=>(h f hf).1);have h2:=IQ (l:=fs) (g:=λf=>f.orders.length) (λf hf=>(h f hf).2);exact⟨by omega,by omega⟩
theorem EY(fs:List aM)(a:SV)(w:World)(hf:dP w a fs):Calls Tryz.prog 18 #[.slice a.A fs.length a.c] w (dX (.bool (zh fs)) w):=by
 obtain⟨aA,ac⟩:=a;have hlx:fs.length<=9223372036854775807:=by have:=hf.len;omega
 have HF:=ah hf;clear hf;obtain⟨E,HE⟩:∃E,Hid (zh fs=E):=⟨_,rfl⟩;rw[HE.out];go_enter Tryz.func18,Tryz.ntmps18;go_wp2
 go_loopw [3] (λv wr=>∃k:Nat,k<=fs.length/\v= .int .i64 k/\Hid (∀f∈fs.take k,Kg f 14=true)/\Hid (Below w.heap.size w wr)) (λv _=>fs.length - (intOf v).toNat)
 case atStart=>exact⟨0,aZ _,rfl,(λf hf=>by simp at hf),aC _ _⟩
 case round=>
  obtain⟨k,hk,rfl,HT,kL⟩:=hrel;by_cases hlt:k<fs.length
  .obtain⟨f,hf⟩:∃f,fs[k]?=some f:=⟨_,aW hlt⟩
   obtain⟨g1,o1,e1,hg1,hc1⟩:=HF.out.form (by omega);simp only at e1;subst e1;obtain⟨t,ht,hct⟩:=hc1 k f hf;have x0:wr.cell? ⟨g1,o1+k*3,none⟩=some (.int .i64 f.house):=hct wr kL.out 0 (by omega);have x1:wr.cell? ⟨g1,o1+k*3+1,none⟩=some (.slice t.f.A f.facts.length t.f.c):=hct wr kL.out 1 (by omega);have x2:wr.cell? ⟨g1,o1+k*3+2,none⟩=some (.slice t.o.A f.orders.length t.o.c):=hct wr kL.out 2 (by omega);have k1:(k:Int)<(fs.length:Int):=by omega
   have hs:=EX f t 14 wr (ht.below kL.out);simp only[FV.val,FV.cells]at hs;have HX:=ah hf;clear hf hc1 ht hct;cases q:Kg f 14 with
   |false=>
    obtain rfl:E=false:=by
     rw[<-HE.out];unfold zh;rw[Bool.and_eq_false_iff];left;rw[List.all_eq_false];exact⟨f,bT HX.out,by rw[q];decide⟩
    rw[q]at hs;have HS:=ah hs;clear hs q;go_wp2_with (go_at_call 11;refine HS.out.mono ?_;rintro e z ⟨rfl,hz⟩;refine Hid.out ?_);refine ah ?_;have uR:=ah (ay kL.out hz);clear hz;go_wp2;go_ret;exact⟨rfl,uR.out⟩
   |true=>
    have Nl:Hid (∀f∈fs.take (k+1),Kg f 14=true):=λy hy=>by
     rw[qM,HX.out]at hy;rcases dJ.1 hy with h|h
     .exact HT.out y h
     .simp at h;rw[h];exact q
    rw[q]at hs;have HS:=ah hs;clear hs q;go_wp2_with (go_at_call 11;refine HS.out.mono ?_;rintro e z ⟨rfl,hz⟩;refine Hid.out ?_);refine ah ?_;have uR:=ah (ay kL.out hz);clear hz x0 x1 x2;go_wp2
    go_roundw
    case rel=>exact⟨k+1,by omega,by go_num,Nl,uR⟩
    case measure=>simp[intOf];omega
  .obtain rfl:k=fs.length:=by omega
   have HEE:Hid (decide ((fs.length:Int)<=5)=E):=by
    show _=_;rw[<-HE.out];unfold zh;have h:=HT.out;rw[gW]at h;rw[fE.2 h,Bool.true_and]
   cases q:decide ((fs.length:Int)<=5)<;>(
    rw[q]at HEE;obtain rfl:=HEE.out;go_wp2;go_ret;exact⟨rfl,kL.out⟩)
end
open Go.RowKit Go.Shelf
def dH(l m:List Int):Prop:=l.length=m.length/\∀(k:Nat)(x:Int),l[k]?=some x->x=0\/m[k]?=some x
theorem EZ{l m:List Int}{k:Nat}{x:Int}(hx:l[k]?=some x)(h:∀(j:Nat)(y:Int),j<k->l[j]?=some y->y=0\/m[j]?=some y)(h2:x=0\/m[k]?=some x):∀(j:Nat)(y:Int),j<k+1->l[j]?=some y->y=0\/m[j]?=some y:=λj y hj hy=>by
 by_cases e:j=k
 .subst e
  rw[hx]at hy;cases hy
  exact h2
 .exact h j y (by omega) hy
def Pw(l m:List Int)(w:World)(e:Ending)(w':World):Prop:=∃b:Bool,e= .returned (.bool b)/\(b=true↔dH l m)/\Below w.heap.size w w'
theorem zi(l m:List Int)(a b:SV)(w:World)(hl:At w 1 a.A l.length a.c (aY l))(hm:At w 1 b.A m.length b.c (aY m)):
 Calls Tryz.prog 20 #[.slice a.A l.length a.c,.slice b.A m.length b.c] w (Pw l m w):=by
 obtain⟨aA,ac⟩:=a;obtain⟨bA,bc⟩:=b;have hlx:=mH hl;have hmx:=mH hm;have HL:=ah hl;clear hl;have HM:=ah hm;clear hm;by_cases hlen:l.length=m.length
 .have q1:((l.length:Int)!=(m.length:Int))=false:=by simp[hlen]
  have HLEN:=ah hlen;clear hlen;go_enter Tryz.func20,Tryz.ntmps20;go_wp2
  go_loopg [14] l.length (λgk v14 wr=>∃k:Nat,gk=l.length - k/\k<=l.length/\v14= .int .i64 k/\Hid (∀(j:Nat)(y:Int),j<k->l[j]?=some y->y=0\/m[j]?=some y)/\Hid (Below w.heap.size w wr))
  case atStart=>exact⟨0,rfl,aZ _,rfl,(λj y h=>absurd h (Nat.not_lt_zero _)),aC _ _⟩
  case round=>
   obtain⟨k,eZ,hk,rfl,HT,kL⟩:=hrel;have iL:=ah eZ;clear eZ;by_cases hlt:k<l.length
   .have hlt2:k<m.length:=by rw[<-HLEN.out];exact hlt
    obtain⟨x,hx⟩:∃x,l[k]?=some x:=⟨_,aW hlt⟩;obtain⟨y,hy⟩:∃y,m[k]?=some y:=⟨_,aW hlt2⟩;obtain⟨g1,o1,e1,hg1,hc1⟩:=HL.out.1.form (by omega) (by omega);obtain⟨g2,o2,e2,hg2,hc2⟩:=HM.out.1.form (by omega) (by omega);subst e1 e2;have x0:wr.cell? ⟨g1,o1+k,none⟩=some (.int .i64 x):=(kL.out.cell (p:=⟨g1,o1+k,none⟩) hg1).trans ((hc1 k (by omega)).trans (fI hx));have y0:wr.cell? ⟨g2,o2+k,none⟩=some (.int .i64 y):=(kL.out.cell (p:=⟨g2,o2+k,none⟩) hg2).trans ((hc2 k (by omega)).trans (fI hy));have k1:(k:Int)<(l.length:Int):=by omega
    have k2:(k:Int)<(m.length:Int):=by omega
    have HX:=ah hx;have HY:=ah hy;clear hx hy hc1 hc2 q1;by_cases he:x=0
    .have Nl:=ah (EZ HX.out HT.out (.inl he))
     have q2:(x !=0)=false:=by simp[he]
     clear he;go_wp2
     go_roundg (l.length - (k+1))
     case measure=>rw[iL.out];omega
     case rel=>exact⟨k+1,rfl,by omega,by go_num,Nl,kL⟩
    .have q2:(x !=0)=true:=by simp[he]
     by_cases hxy:x=y
     .have Nl:=ah (EZ HX.out HT.out (.inr (by rw[hxy];exact HY.out)))
      have q3:(x !=y)=false:=by simp[hxy]
      clear he hxy;go_wp2
      go_roundg (l.length - (k+1))
      case measure=>rw[iL.out];omega
      case rel=>exact⟨k+1,rfl,by omega,by go_num,Nl,kL⟩
     .have Ru:Hid (¬dH l m):=λh=>by
       rcases h.2 k x HX.out with h|h
       .exact he h
       .rw[HY.out]at h
        exact hxy (Option.some.inj h).symm
      have q3:(x !=y)=true:=by simp[hxy]
      clear he hxy;go_wp2;go_ret;exact⟨false,rfl,⟨λh=>(by cases h),λh=>absurd h Ru.out⟩,kL.out⟩
   .obtain rfl:k=l.length:=by omega
    have akF:Hid (dH l m):=⟨HLEN.out,λk x hx=>HT.out k x (bC.1 hx).1 hx⟩;go_wp2;go_ret;exact⟨true,rfl,⟨λ_=>akF.out,λ_=>rfl⟩,kL.out⟩
 .have q1:((l.length:Int)!=(m.length:Int))=true:=by rw[bne_iff_ne];omega
  have Ru:Hid (¬dH l m):=λh=>hlen h.1;clear hlen;go_enter Tryz.func20,Tryz.ntmps20;go_wp2;go_ret;exact⟨false,rfl,⟨λh=>(by cases h),λh=>absurd h Ru.out⟩,aC _ _⟩
def jX(s:Int):Int:=cond ((s==3)||(s==5)) 1 (cond (s==4) 3 2)
theorem ML(s:Int)(w:World):Calls Tryz.prog 37 #[.int .i64 s] w (dX (.int .i64 (jX s)) w):=by
 cases q3:(s==3)<;>cases q5:(s==5)<;>cases q4:(s==4)
 all_goals
  rw[show jX s=_ by unfold jX;rw[q3,q5,q4]];go_enter Tryz.func37,Tryz.ntmps37;go_wp2;go_ret;exact⟨rfl,aC _ _⟩
end Go.Proofs.YtpmdedcnbockhaaGreatDoor
