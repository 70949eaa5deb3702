/-
  JwE
-/
import Derived.Test.YtpmdedcnbockhaaGreatDoorM32
set_option maxRecDepth 100000
set_option maxHeartbeats 8000000
namespace Go.Proofs.YtpmdedcnbockhaaGreatDoor
open Go.RowKit Go.Shelf
theorem Ws(s:Int)(w:World):Calls Tryz.prog 17 #[.int .i64 s] w (dX (.int .i64 (jX s)) w):=by
 cases q3:(s==3)<;>cases q5:(s==5)<;>cases q4:(s==4)
 all_goals
  rw[show jX s=_ by unfold jX;rw[q3,q5,q4]];go_enter Tryz.func17,Tryz.ntmps17;go_wp2;go_ret;exact⟨rfl,aC _ _⟩
def abe(C:aB)(f:aM)(u:Int)(W:World)(e:Ending)(w':World):Prop:=
 ∃(A:Option Addr)(c:Nat)(V:List Int)(er:Int),e= .returned (.tuple #[.slice A V.length c,.int .i64 er])/\At w' 1 A V.length c (aY V)/\Below W.heap.size W w'/\dD C [f] u V er
theorem Zg{W:World}{v:CV}{C:aB}{t:FV}{f:aM}{u:Int}(hC:cK W v C)(hF:dB W t f)(hR:∀x∈f.facts,fD x.ref)(h1:f.facts.length<=14)(h2:f.orders.length<=14)(hT:Tab W):
 Calls Tryz.prog 14 #[.agg #[.int .i64 C.aJ,.slice v.h.A C.aj.length v.h.c,.slice v.u.A C.units.length v.u.c,.slice v.a.A C.acts.length v.a.c,.slice v.k.A C.clauses.length v.k.c,.int .i64 C.days,.slice v.o.A C.off.length v.o.c],.slice (some ⟨W.heap.size,0,none⟩) 1 1,.int .i64 u]
  (W.alloc (.cells #[.int .i64 f.house,.slice t.f.A f.facts.length t.f.c,.slice t.o.A f.orders.length t.o.c] 31)) (abe C f u W):=by
 have hb:Below W.heap.size W (W.alloc (.cells #[.int .i64 f.house,.slice t.f.A f.facts.length t.f.c,.slice t.o.A f.orders.length t.o.c] 31)):=aN (aC _ _) _;refine(lT v C ⟨some ⟨W.heap.size,0,none⟩,1⟩ [f] u _ (hC.below hb) (aaP hF) (by simp) (by rw[rQ];exact hR) (by rw[rQ];omega) (by rw[sQ];omega) (hT.below hb)).mono ?_;rintro e w' ⟨A,c,V,er,rfl,hA,hb2,hj⟩;exact⟨A,c,V,er,rfl,hA,ay hb hb2,hj⟩
theorem S_(C:aB)(l:List Int):(C.trail l l.length)[l.length]?=some (C.DU l):=by
 unfold aB.trail;rw[fM,Ab (by omega)];simp
def Jp(l:List Int):bK:=
 ⟨λv=>∃(A:Option Addr)(n c:Nat),v= .slice A n c,
  λv z=>∃(A:Option Addr)(c:Nat),v= .slice A l.length c/\At z 1 A l.length c (aY l)⟩
theorem Jq(l:List Int):(Jp l).Keeps:=λ_ _ _ h hb=>by
 obtain⟨A,c,h1,h2⟩:=h;exact⟨A,c,h1,h2.below (by omega) hb⟩
def Ur(C:aB)(l:List Int)(A:Option Addr)(c:Nat)(R:List ak)(er:Int)(z:World):Prop:=(er=0/\R=C.trail l l.length/\jI z ⟨A,c⟩ R)\/¬Good C l
theorem Ur.below{C:aB}{l:List Int}{A:Option Addr}{c:Nat}{R:List ak}{er:Int}{z z':World}(h:Ur C l A c R er z)(hb:Below z.heap.size z z'):Ur C l A c R er z':=by
 rcases h with⟨h1,h2,h3⟩|h
 .exact .inl ⟨h1,h2,h3.below hb⟩
 .exact .inr h
def Qf(C:aB)(l:List Int):bK:=
 ⟨λv=>∃(A:Option Addr)(n c:Nat)(er:Int),v= .tuple #[.slice A n c,.int .i64 er],
  λv z=>∃(A:Option Addr)(c:Nat)(R:List ak)(er:Int),v= .tuple #[.slice A R.length c,.int .i64 er]/\Ur C l A c R er z⟩
theorem Jr(C:aB)(l:List Int):(Qf C l).Keeps:=λ_ _ _ h hb=>by
 obtain⟨A,c,R,er,h1,h2⟩:=h;exact⟨A,c,R,er,h1,h2.below hb⟩
attribute [local go_sem] jJ stillUpon bH
theorem F7(v:CV)(C:aB)(t:FV)(f:aM)(dv:SV)(D:List Int)(u:Int)(w:World)(hC:cK w v C)(hF:dB w t f)(hR:∀x∈f.facts,fD x.ref)(hD:At w 1 dv.A D.length dv.c (aY D))(hT:Tab w):
 Calls Tryz.prog 3 #[v.val C,t.val f,.slice dv.A D.length dv.c,.int .i64 u] w (dX (.bool true) w):=by
 obtain⟨⟨hA,hc⟩,⟨uA,uc⟩,⟨aA,ac⟩,⟨kA,kc⟩,⟨oA,oc⟩⟩:=v;obtain⟨⟨fA,fc⟩,⟨pA,pc⟩⟩:=t;obtain⟨dA,dc⟩:=dv;have HC:=ah hC;clear hC;have HF:=ah hF;clear hF;have HD:=ah hD;clear hD;have HT:=ah hT;clear hT;have HR:=ah hR;clear hR;simp only[CV.val,CV.cells,FV.val,FV.cells];go_enter Tryz.func3,Tryz.ntmps3;go_upto_region 1 with(fail)
 generalize hW0:World.alloc _ _=W0;obtain⟨HB0,h0,h1⟩:=Ko hW0;have HX0:Hid (uV W0 w.heap.size ⟨⟨hA,hc⟩,⟨uA,uc⟩,⟨aA,ac⟩,⟨kA,kc⟩,⟨oA,oc⟩⟩ C):=⟨HC.out.below HB0.out,⟨[],by rw[bV];exact h0⟩⟩;have HY0:Hid (Si W0 (w.heap.size+1) ⟨⟨fA,fc⟩,⟨pA,pc⟩⟩ f):=⟨HF.out.below HB0.out,⟨[],by rw[bV];exact h1⟩⟩;clear hW0 h0 h1 HC HF;have HH:=ah (zU W0 (HT.out.below HB0.out));go_wp2_with (go_at_call 9;refine HH.out.mono ?_;rintro _ W1 ⟨rfl,hb⟩;refine Hid.out ?_);refine ah ?_;have nY:=ah (HX0.out.below hb);have HY1:=ah (HY0.out.below hb);have HB1:Hid (Below w.heap.size w W1):=ay HB0.out hb;clear hb HX0 HY0 HB0 HH;obtain⟨c0,c1,c2,c3,c4,c5,c6⟩:=nY.out.cells;simp only at c0 c1 c2 c3 c4 c5 c6;have ho:=Sn ⟨⟨hA,hc⟩,⟨uA,uc⟩,⟨aA,ac⟩,⟨kA,kc⟩,⟨oA,oc⟩⟩ C none 0 0 none 0 0 W1 nY.out.con (by omega) (by omega);simp only[CV.val,CV.cells]at ho;have HO:=ah ho;clear ho;go_wp2_with (go_at_call 10;refine HO.out.mono ?_;rintro _ W2 ⟨x,rfl,_,hb⟩;refine Hid.out ?_);refine ah ?_;have zn:=ah (nY.out.below hb);have Qr:=ah (HY1.out.below hb);have HB2:Hid (Below w.heap.size w W2):=ay HB1.out hb;clear hb nY HY1 HB1 HO c0 c1 c2 c3 c4 c5 c6;cases x with
 |false=>
  go_wp2;go_ret;exact⟨rfl,HB2.out⟩
 |true=>
 obtain⟨f0,f1,f2⟩:=Qr.out.cells;simp only at f0 f1 f2;have h3:=EX f ⟨⟨fA,fc⟩,⟨pA,pc⟩⟩ 14 W2 Qr.out.file;simp only[FV.val,FV.cells]at h3;cases hfe:Kg f 14 with
 |false=>
  rw[hfe]at h3;have H3:=ah h3;clear h3 hfe;go_wp2_with (go_at_call 11;refine H3.out.mono ?_;rintro _ W3 ⟨rfl,hb⟩;refine Hid.out ?_);refine ah ?_;have HB3:Hid (Below w.heap.size w W3):=ay HB2.out hb;clear hb;go_wp2;go_ret;exact⟨rfl,HB3.out⟩
 |true=>
 rw[hfe]at h3;have H3:=ah h3;clear h3;have hsm:f.facts.length<=14/\f.orders.length<=14:=by
  unfold Kg at hfe;rw[bP,decide_eq_true_eq,decide_eq_true_eq]at hfe;omega
 clear hfe;go_wp2_with (go_at_call 11;refine H3.out.mono ?_;rintro _ W3 ⟨rfl,hb⟩;refine Hid.out ?_);refine ah ?_;have uj:=ah (zn.out.below hb);have HY3:=ah (Qr.out.below hb);have HB3:Hid (Below w.heap.size w W3):=ay HB2.out hb;clear hb zn Qr HB2 H3 f0 f1 f2;obtain⟨c0,c1,c2,c3,c4,c5,c6⟩:=uj.out.cells;obtain⟨f0,f1,f2⟩:=HY3.out.cells;simp only at c0 c1 c2 c3 c4 c5 c6 f0 f1 f2;have hv:=uK ⟨⟨hA,hc⟩,⟨uA,uc⟩,⟨aA,ac⟩,⟨kA,kc⟩,⟨oA,oc⟩⟩ C ⟨⟨fA,fc⟩,⟨pA,pc⟩⟩ f W3 uj.out.con HY3.out.file;simp only[CV.val,CV.cells,FV.val,FV.cells]at hv;cases hok:dU C f with
 |false=>
  rw[hok]at hv;have HV:=ah hv;clear hv hok;go_wp2_with (go_at_call 12;refine HV.out.mono ?_;rintro _ W4 ⟨rfl,hb⟩;refine Hid.out ?_);refine ah ?_;have uN:Hid (Below w.heap.size w W4):=ay HB3.out hb;clear hb;go_wp2;go_ret;exact⟨rfl,uN.out⟩
 |true=>
 rw[hok]at hv;have HV:=ah hv;clear hv;have En:=ah hok;clear hok;go_wp2_with (go_at_call 12;refine HV.out.mono ?_;rintro _ W4 ⟨rfl,hb⟩;refine Hid.out ?_);refine ah ?_;have Bt:=ah (uj.out.below hb);have HY4:=ah (HY3.out.below hb);have uN:Hid (Below w.heap.size w W4):=ay HB3.out hb;clear hb uj HY3 HB3 HV c0 c1 c2 c3 c4 c5 c6 f0 f1 f2;obtain⟨f0,f1,f2⟩:=HY4.out.cells;simp only at f0 f1 f2;have hm:=aaO f D ⟨⟨fA,fc⟩,⟨pA,pc⟩⟩ dA dc W4 HY4.out.file (HD.out.below (by omega) uN.out);simp only[FV.val,FV.cells]at hm;have HM:=ah hm;clear hm;go_wp2_with (go_at_call 13;refine HM.out.mono ?_;rintro _ W5 ⟨x,rfl,hmx,hb⟩;refine Hid.out ?_);refine ah ?_;have KW:=ah (Bt.out.below hb);have HY5:=ah (HY4.out.below hb);have BH:Hid (Below w.heap.size w W5):=ay uN.out hb;have o_:=ah hmx;clear hb hmx Bt HY4 uN HM f0 f1 f2;cases x with
 |false=>
  go_wp2;go_ret;exact⟨rfl,BH.out⟩
 |true=>
 obtain⟨c0,c1,c2,c3,c4,c5,c6⟩:=KW.out.cells;obtain⟨f0,f1,f2⟩:=HY5.out.cells;simp only at c0 c1 c2 c3 c4 c5 c6 f0 f1 f2;have FR:=ah (Zg (u:=u) KW.out.con HY5.out.file HR.out hsm.1 hsm.2 (HT.out.below BH.out));go_wp2_with (go_at_call 14;refine FR.out.mono ?_;rintro _ W6 ⟨A6,d6,V,er,rfl,ha,hb,hj⟩;refine Hid.out ?_);refine ah ?_;have DW:=ah (KW.out.below hb);have HY6:=ah (HY5.out.below hb);have JA:Hid (Below w.heap.size w W6):=ay BH.out hb;have HV:=ah ha;have HP:=ah (Je En.out (o_.out trivial) hsm.1 hsm.2 hj);clear ha hb hj KW HY5 BH FR c0 c1 c2 c3 c4 c5 c6 f0 f1 f2;by_cases her:er=0
 .subst her
  obtain⟨hgood,hvl,hrow⟩:=HP.out.2 rfl;have HTR:=ah (λy:Bl W6=>KY fA fc dA dc f.facts D u y.val (HY6.out.below y.prop).file.facts (HD.out.below (by omega) (ay JA.out y.prop)) HR.out (by omega));generalize bW f.facts D u=l at hgood hrow HTR;have HGD:=ah hgood;have HRW:=ah hrow;have Wi:=ah hvl;have hvx:=mH HV.out;clear hgood hrow hvl HP o_ En;have c0:∀y:Bl W6,y.val.cell? ⟨w.heap.size,0,none⟩=some (.int .i64 C.aJ):=λy=>(DW.out.below y.prop).kZ.cell rfl;have c1:∀y:Bl W6,y.val.cell? ⟨w.heap.size,1,none⟩=some (.slice hA C.aj.length hc):=λy=>(DW.out.below y.prop).kZ.cell rfl;have c2:∀y:Bl W6,y.val.cell? ⟨w.heap.size,2,none⟩=some (.slice uA C.units.length uc):=λy=>(DW.out.below y.prop).kZ.cell rfl;have c3:∀y:Bl W6,y.val.cell? ⟨w.heap.size,3,none⟩=some (.slice aA C.acts.length ac):=λy=>(DW.out.below y.prop).kZ.cell rfl;have c4:∀y:Bl W6,y.val.cell? ⟨w.heap.size,4,none⟩=some (.slice kA C.clauses.length kc):=λy=>(DW.out.below y.prop).kZ.cell rfl;have c5:∀y:Bl W6,y.val.cell? ⟨w.heap.size,5,none⟩=some (.int .i64 C.days):=λy=>(DW.out.below y.prop).kZ.cell rfl;have c6:∀y:Bl W6,y.val.cell? ⟨w.heap.size,6,none⟩=some (.slice oA C.off.length oc):=λy=>(DW.out.below y.prop).kZ.cell rfl;have f1:∀y:Bl W6,y.val.cell? ⟨w.heap.size+1,1,none⟩=some (.slice fA f.facts.length fc):=λy=>(HY6.out.below y.prop).CQ.cell rfl;go_upto_region 7 with(fail)
  refine sG (s:=(⟨W6,aC _ _⟩:Bl W6)) 10 (λi=>match i with
   |5=>some (Jp l)
   |6=>some (Qf C l)
   |_=>none) (λi=>match i with
   |6=>[5]
   |_=>[]) [5] [9] (by simp) (by kernel_rfl) (by kernel_rfl) (by simp) ?panics (by kernel_rfl) ?bnd ?keeps ?_
  case panics=>
   intro e _ o v c a w _ h;revert h;cases o.dst<;>exact id
  case bnd=>
   intro p hp o t ho ht;simp only[d_]at hp;subst hp;simp only[List.getElem?_toArray,List.getElem?_cons_succ,Aa,Option.some.injEq]at ho;subst ho;simp only[Option.some.injEq]at ht;subst ht;simp
  case keeps=>
   intro i sp h;split at h
   .injection h with h;subst h;exact Jq _
   .injection h with h;subst h;exact Jr _ _
   .cases h
  simp only[fP,bX,fZ,bY];repeat(refine vM rfl (λK hK=>?_);go_simp;refine hK _ ?_;clear hK K)
  refine Cb _ rfl rfl ?_ (λy hpre=>?_) ?_
  .exact⟨_,none,0,0,rfl⟩
  .go_simp
   refine(HTR.out y).mono ?_;rintro e w' ⟨A7,d7,rfl,h7,hb⟩;exact⟨_,rfl,⟨A7,_,d7,rfl⟩,⟨A7,d7,rfl,zP h7 (zO l)⟩,hb⟩
  rintro _ ⟨gA7,gn7,gc7,rfl⟩;refine Cb _ rfl rfl ?_ (λy hpre=>?_) ?_
  .exact⟨_,none,0,0,0,rfl⟩
  .go_simp
   have hp:=hpre 5 (by simp) (Jp l) rfl _ _ rfl rfl;obtain⟨A7,d7,he7,h7⟩:=hp;simp only at he7;obtain⟨rfl,rfl,rfl⟩:=he7;have hr:=TI ⟨⟨hA,hc⟩,⟨uA,uc⟩,⟨aA,ac⟩,⟨kA,kc⟩,⟨oA,oc⟩⟩ C ⟨_,_⟩ l y.val (DW.out.below y.prop).con h7;simp only[CV.val,CV.cells]at hr;refine hr.mono ?_;rintro e w' ⟨A8,d8,R,Ux,rfl,hb,hrun⟩;exact⟨_,rfl,⟨A8,_,d8,Ux,rfl⟩,⟨A8,d8,R,Ux,rfl,by
    rcases hrun with⟨h1,_,h2,h3⟩|⟨_,h1,_⟩
    .exact .inl ⟨h1,h2,h3.at⟩
    .exact .inr h1⟩,hb⟩
  rintro _ ⟨gA8,gn8,gc8,Ux,rfl⟩;repeat(refine vM rfl (λK hK=>?_);go_simp;refine hK _ ?_;clear hK K)
  refine L6 ?_;rintro y ⟨_,A8,d8,R,er9,he3,hrun⟩;simp only[Value.tuple.injEq,List.cons.injEq,Array.mk.injEq,Value.int.injEq,Value.slice.injEq,true_and,and_true]at he3;obtain⟨⟨rfl,rfl,rfl⟩,rfl⟩:=he3;have hb:=y.prop;generalize y.val=W8 at hrun hb⊢;obtain⟨rfl,uf,hRe⟩:Ux=0/\Hid (jI W8 ⟨gA8,gc8⟩ R)/\R=C.trail l l.length:=by
   rcases hrun with⟨h1,h2,h3⟩|h1
   .exact⟨h1,h3,h2⟩
   .exact absurd HGD.out h1
  have HX7:=DW;have HB7:=JA;have HX8:=ah (HX7.out.below hb);have HB8:Hid (Below w.heap.size w W8):=ay HB7.out hb;replace HV:=ah (HV.out.below (by omega) hb);have hRl:R.length=l.length+1:=by rw[hRe];exact DV C l l.length
  have alq:=hRl;have hRz:R[l.length]?=some (C.DU l):=by rw[hRe];exact S_ C l
  have hlx:l.length<=4000:=HGD.out.len;obtain⟨gb,go,e8,hgb,hst⟩:=uf.out.form (by omega);simp only at e8;subst e8;obtain⟨⟨⟨jw,iJ⟩,⟨jN,iC⟩,⟨kP,fK⟩⟩,Ta,hcell⟩:=hst _ _ hRz;obtain⟨s,hs⟩:∃s,C.DU l=s:=⟨_,rfl⟩;have hml:s.marks.length=C.clauses.length:=by
   have h1:=(HGD.out.ok l.length (bJ _)).lm;rw[gW,hs]at h1;exact h1
  have alr:Hid (∀(i:Nat)(x:Int),V[i]?=some x->x=0\/(s.marks.map (λm=>jX m.status))[i]?=some x):=by
   rw[<-hs];exact HRW.out
  rw[hs]at Ta hcell;have HST:=ah Ta;have hcl:=hcell W8 (aC _ _);obtain⟨x0,x1,x2,x3⟩:=rw4 hcl rfl;have HML:=ah hml;have n0:((R.length:Int)==0)=false:=by rw[beq_eq_false_iff_ne];omega
  have n1:((V.length:Int)!=(C.clauses.length:Int))=false:=by rw[Wi.out];simp
  have n2:(R.length:Int) - 1=(l.length:Int):=by omega
  have n3:(0:Int)<=(l.length:Int):=by omega
  have n4:(l.length:Int)<(R.length:Int):=by omega
  have n5:R.length<=9223372036854775807:=by omega
  rw[hRl];clear hrun hb hRe hRl hRz hst Ta hcell hcl hs HRW uf HX7 HB7 DW HY6 JA HTR HGD hml n2 n3 n4 n5 c0 c1 c2 c3 c4 c5 c6 f1;have n2:((l.length+1:Nat):Int) - 1=(l.length:Int):=by omega
  have n6:((l.length+1:Nat):Int)=(l.length:Int)+1:=by omega
  have n7:((l.length:Int)+1==0)=false:=by rw[beq_eq_false_iff_ne];omega
  rw[alq]at n0;gi_wp2;obtain⟨c0,c1,c2,c3,c4,c5,c6⟩:=HX8.out.cells;simp only at c0 c1 c2 c3 c4 c5 c6;go_upto_region 11 with(fail)
  generalize hW9:World.alloc _ _=W9;obtain⟨hb9,hh9⟩:=bx1' hW9;have HO9:Hid (Own W9 48 W8.heap.size [.int .i64 s.day,.slice jw s.aj.length iJ,.slice jN s.used.length iC,.slice kP s.marks.length fK]):=⟨[],by rw[bV];exact hh9⟩;have Qs:Hid (Below w.heap.size w W9):=ay HB8.out hb9;replace HV:=ah (HV.out.below (by omega) hb9);have HM9:=ah (HST.out.marks.below (by omega) hb9);clear hW9 hb9 hh9 HX8 HB8 HST c0 c1 c2 c3 c4 c5 c6 x0 x1 x2 x3 n0 n1 n2 n6 n7;generalize W8.heap.size=q9 at HO9⊢;change Code.wp _ _ _ _ (Bl.val (⟨W9,aC _ _⟩:Bl W9));generalize(⟨W9,aC _ _⟩:Bl W9)=z;go_wp2
  go_loopw [15] (λv15 wr=>∃(k:Nat)(z:Bl W9),k<=V.length/\v15= .int .i64 k/\wr=z.val) (λv15 _=>V.length - (intOf v15).toNat)
  case atStart=>exact⟨0,z,aZ _,rfl,rfl⟩
  case round=>
   obtain⟨k,z,hk,rfl,rfl⟩:=hrel;by_cases hlt:k<V.length
   .obtain⟨x,hx⟩:∃x,V[k]?=some x:=⟨_,aW hlt⟩
    have hvl:=Wi.out;have hml:=HML.out;have hmx:=mH HM9.out;obtain⟨m,hm⟩:∃m,s.marks[k]?=some m:=⟨_,aW (by omega)⟩;obtain⟨g1,o1,e1,hg1,hc1⟩:=HV.out.1.form (by omega) (by omega);obtain⟨g2,o2,e2,hg2,hc2⟩:=HM9.out.1.form (by omega) (by omega);subst e1 e2;have x0:∀y:Bl W9,y.val.cell? ⟨g1,o1+k,none⟩=some (.int .i64 x):=λy=>y.cell (by rw[hc1 k (by omega)];unfold aY;rw[fM,hx];rfl);have x1:∀y:Bl W9,y.val.cell? ⟨q9,3,none⟩=some (.slice (some ⟨g2,o2,none⟩) s.marks.length fK):=λy=>(HO9.out.below y.prop).cell (i:=3) rfl;have x2:∀y:Bl W9,y.val.cell? ⟨g2,o2+k*5,none⟩=some (.int .i64 m.status):=λy=>y.cell (by
     have h:=hc2 (k*5) (by omega);rw[h];exact(dh aD.cells 5 (λ_=>rfl) s.marks k 0 m hm (by omega)))
    have k1:(k:Int)<(V.length:Int):=by omega
    have k2:(k:Int)<(s.marks.length:Int):=by omega
    have HME:=ah (λy:Bl W9=>Ws m.status y.val);have HXM:Hid (x=0\/jX m.status=x):=by
     rcases alr.out k x hx with h|h
     .exact .inl h
     .rw[fM,hm]at h
      exact .inr (Option.some.inj h)
    clear hx hc1 hc2 hm hvl hml;generalize jX m.status=y at HME HXM;go_upto_region 14 with(fail)
    by_cases hx0:x=0
    .subst hx0
     refine aI (by kernel_rfl) (by kernel_rfl) ?_;repeat(go_big_quiet_step (fail))
     refine aS ?_;rintro _ ⟨z,rfl⟩;go_wp2
     go_roundw
     case rel=>exact⟨k+1,z,by omega,by go_num,rfl⟩
     case measure=>simp[intOf];omega
    .obtain rfl:y=x:=HXM.out.resolve_left hx0
     have t1:(y !=0)=true:=by simp[hx0]
     clear hx0;refine aI (by kernel_rfl) (by kernel_rfl) ?_;repeat(go_big_quiet_step ((go_at_call 17;exact Calls.dw (HME.out _))))
     refine aS ?_;rintro _ ⟨z,rfl⟩;go_wp2
     go_roundw
     case rel=>exact⟨k+1,z,by omega,by go_num,rfl⟩
     case measure=>simp[intOf];omega
   .obtain rfl:k=V.length:=by omega
    go_wp2;go_ret;exact⟨rfl,ay Qs.out (Bl.prop _)⟩
 .have HNZ:=ah (HP.out.1 her)
  have q0:(er !=0)=true:=by simp[her]
  have c5:=DW.out.cells.2.2.2.2.2.1;clear HP her;rcases HNZ.out with rfl|⟨rfl,hu⟩
  .go_wp2
   go_ret;exact⟨rfl,JA.out⟩
  .cases q4:decide (u<0)with
   |true=>
    go_wp2;go_ret;exact⟨rfl,JA.out⟩
   |false=>
    have q5:C.days<u:=by
     have:=of_decide_eq_false q4;omega
    clear hu;go_wp2;go_ret;exact⟨rfl,JA.out⟩
end Go.Proofs.YtpmdedcnbockhaaGreatDoor
