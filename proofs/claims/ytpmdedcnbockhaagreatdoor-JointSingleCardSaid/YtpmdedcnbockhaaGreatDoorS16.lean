/- part -/
import Derived.Test.YtpmdedcnbockhaaGreatDoorS15
set_option maxRecDepth 100000
set_option maxHeartbeats 8000000
namespace Go.Proofs.YtpmdedcnbockhaaGreatDoor
section
open Go.RowKit Go.Shelf Tryz
attribute [local go_sem] Oper.semAt_some AA kT
theorem ac7{w0 w:World}{g:Nat}{v:CV}{C:au}{t:TV}{s:ak}{gh gu gm:Nat}(h:aH w0 w g v C t s gh gu gm)(i:Nat)(a:jy)(ha:C.acts[i]?=some a)(hk1:a.kind=1)(hlen:s.marks.length=C.clauses.length)
 (hin:∀k∈C.clauses,∀c∈k.start,0<=c.clause/\c.clause<C.clauses.length)(hro:∀k∈C.clauses,k.kind≠4->0<=k.role/\k.role<s.aj.length)
 (hki:∀k∈C.clauses,1<=k.kind/\k.kind<=4)(har:a.role≠ -1->0<=a.role/\a.role<s.aj.length)(hgo:∀m∈s.marks,m.runs=true->0<=m.got/\m.got<=1000000):
 Calls prog 70 #[.pointer (some ⟨g,0,none⟩),.int .i64 i] w (xE w0 g v C t (C.act i a s) gh gu gm w):=by
 have hia:i<C.acts.length:=(bB.1 ha).1;obtain⟨b,mO,hA,hbl,hac⟩:=h.con.act ha;obtain⟨⟨dV,dW⟩,⟨dX,dY⟩,⟨fB,dH⟩,⟨eZ,dM⟩,⟨dQ,dR⟩⟩:=v;simp only at hA;subst hA;obtain⟨eP,Jp,_⟩:=h.marks.Qb;obtain⟨⟨eu,dN⟩,⟨eH,dL⟩,⟨fF,bY⟩⟩:=t;simp only at Jp;subst Jp;obtain⟨day,aj,used,ms⟩:=s;simp only at hlen hro har hgo;obtain⟨ki,ro,gi,tg,un,⟨ln,ld⟩⟩:=a;simp only at hk1 har;subst hk1;have g3:w.cell? ⟨g,3,none⟩=some (.slice (some ⟨b,mO,none⟩) C.acts.length dH):=h.cell 3;have BX:=hac w h.below;obtain⟨a0,a1,a2,a3,a4,a5,a6⟩:=rw7 BX rfl;clear hac BX;have hgl:=aB h.head;have dh:b<w.heap.size:=uH hbl h.below.size;have i0:(0:Int)<=(i:Int):=by omega
 have i1:(i:Int)<(C.acts.length:Int):=by omega
 have H:=ah h;clear h;have HA:=ah ha;clear ha;have HL:=ah hlen;clear hlen;have uE:=ah hin;clear hin;have rT:=ah hro;clear hro;have Tz:=ah hki;clear hki;have HAR:=ah har;clear har;have HGO:=ah hgo;clear hgo;refine(fq (n:=3)).1 ?_;refine callsIn_of_wp_marks func70 rfl trivial ?_ rfl;simp only[ntmps70,uF,gV,kM,Nat.reduceAdd,Nat.reduceSub,wz,wB,wE,wC,pE,wD];gi_wp2;obtain⟨W0,HW0⟩:∃W0,Hid (W0=(w.alloc (.cells #[.pointer (some ⟨g,0,none⟩)] 126)).alloc (.cells #[.int .i64 i] 3)):=⟨_,rfl⟩;rw[<-HW0.out];have HB0:Hid (Below w.heap.size w W0):=by
  show Below _ _ _;rw[HW0.out];exact aJ (aJ (aC _ _) _) _
 have hs0:W0.heap.size=w.heap.size+2:=by rw[HW0.out];simp
 have o0:W0.cell? ⟨w.heap.size,0,none⟩=some (.pointer (some ⟨g,0,none⟩)):=by
  have h:W0.heap[w.heap.size]?=some (.cells #[.pointer (some ⟨g,0,none⟩)] 126 (0,0)):=by
   rw[HW0.out];exact(Below.heap_alloc _ _ _ (by simp)).trans (bK w _)
  exact(aK W0 _ 0 _ _ _ h).trans rfl
 have o1:W0.cell? ⟨w.heap.size+1,0,none⟩=some (.int .i64 i):=by
  have h:W0.heap[w.heap.size+1]?=some (.cells #[.int .i64 i] 3 (0,0)):=by
   rw[HW0.out];have h:=bK (w.alloc (.cells #[.pointer (some ⟨g,0,none⟩)] 126)) (.cells #[.int .i64 i] 3);rw[aT]at h;exact h
  exact(aK W0 _ 0 _ _ _ h).trans rfl
 have g3':=((aL HB0.out).1 _ _ hgl).trans g3;have a0':=((aL HB0.out).1 _ _ dh).trans a0;have a1':=((aL HB0.out).1 _ _ dh).trans a1;have a2':=((aL HB0.out).1 _ _ dh).trans a2;have a3':=((aL HB0.out).1 _ _ dh).trans a3;have a4':=((aL HB0.out).1 _ _ dh).trans a4;have a5':=((aL HB0.out).1 _ _ dh).trans a5;have a6':=((aL HB0.out).1 _ _ dh).trans a6;have X_:g<W0.heap.size:=by omega
 have Ya:b<W0.heap.size:=by omega
 have Ol:w.heap.size<W0.heap.size:=by omega
 have Om:w.heap.size+1<W0.heap.size:=by omega
 clear g3 a0 a1 a2 a3 a4 a5 a6;have zR:=ah hs0;clear hs0
 gi_region
 obtain⟨W1,HW1⟩:∃W1,Hid (W1=(W0.alloc (.cells #[.int .i64 1,.int .i64 ro,.int .i64 gi,.int .i64 tg,.int .i64 un,.int .i64 ln,.int .i64 ld] 109)).drew):=⟨_,rfl⟩;rw[<-HW1.out];have HB1:Hid (Below w.heap.size w W1):=by
  show Below _ _ _;rw[HW1.out];exact(aJ HB0.out _).drew
 have H7:Below W0.heap.size W0 W1:=by
  rw[HW1.out];exact(aJ (aC _ _) _).drew
 have hs0:=zR.out;have hW1:aH w0 W1 g ⟨⟨dV,dW⟩,⟨dX,dY⟩,⟨some ⟨b,mO,none⟩,dH⟩,⟨eZ,dM⟩,⟨dQ,dR⟩⟩ C ⟨⟨eu,dN⟩,⟨eH,dL⟩,⟨some ⟨gm,eP,none⟩,bY⟩⟩ ⟨day,aj,used,ms⟩ gh gu gm:=H.out.on HB1.out;have hs1:W1.heap.size=w.heap.size+3:=by rw[HW1.out];simp[hs0]
 have p0:=((aL H7).1 _ _ Ol).trans o0;have p1:=((aL H7).1 _ _ Om).trans o1;have p2:W1.cell? ⟨w.heap.size+2,0,none⟩=some (.int .i64 1):=by
  have h:W1.heap[w.heap.size+2]?=some (.cells #[.int .i64 1,.int .i64 ro,.int .i64 gi,.int .i64 tg,.int .i64 un,.int .i64 ln,.int .i64 ld] 109 (0,0)):=by
   have h:=bK W0 (.cells #[.int .i64 1,.int .i64 ro,.int .i64 gi,.int .i64 tg,.int .i64 un,.int .i64 ln,.int .i64 ld] 109);rw[hs0]at h;rw[HW1.out];exact h
  exact(aK W1 _ 0 _ _ _ h).trans rfl
 rw[hs0];clear g3' a0' a1' a2' a3' a4' a5' a6' o0 o1 X_ Ya Ol Om H7 HW0 HB0 zR hs0;clear i0 i1;gi_wp2;refine aR 12 (jV.wide _) ?_;simp only[gF,bW,gI,b_];repeat(go_big_quiet_step (fail))
 refine aY ?_;rintro _ ⟨mq,rfl⟩;gi_wp2_with (refine⟨trivial,?_⟩;gi_at_call 110;refine(fq.2 (jP _ _)).mono ?_;rintro e z2 ⟨rfl,rfl⟩);obtain⟨W2,HW2⟩:∃W2,Hid (W2=(W1.drewN mq).alloc (.cells #[.pointer (some ⟨g,0,none⟩)] 126)):=⟨_,rfl⟩;rw[show(W1.drewN mq).alloc (.cells #[.pointer (some ⟨g,0,none⟩)] 126)=W2 from HW2.out.symm];have HB2:Hid (Below W1.heap.size W1 W2):=by
  show Below _ _ _;rw[HW2.out];exact(below_drewN _ _).alloc (bJ _) _
 have hW2:aH w0 W2 g ⟨⟨dV,dW⟩,⟨dX,dY⟩,⟨some ⟨b,mO,none⟩,dH⟩,⟨eZ,dM⟩,⟨dQ,dR⟩⟩ C ⟨⟨eu,dN⟩,⟨eH,dL⟩,⟨some ⟨gm,eP,none⟩,bY⟩⟩ ⟨day,aj,used,ms⟩ gh gu gm:=hW1.on HB2.out;have hs2:W2.heap.size=w.heap.size+4:=by rw[HW2.out];simp[hs1]
 have x0:=((aL HB2.out).1 w.heap.size 0 (by omega)).trans p0;have x1:=((aL HB2.out).1 (w.heap.size+1) 0 (by omega)).trans p1;have x2:=((aL HB2.out).1 (w.heap.size+2) 0 (by omega)).trans p2;have x3:W2.cell? ⟨w.heap.size+3,0,none⟩=some (.pointer (some ⟨g,0,none⟩)):=by
  have h:=bK (W1.drewN mq) (.cells #[.pointer (some ⟨g,0,none⟩)] 126);rw[show(W1.drewN mq).heap.size=w.heap.size+3 from hs1,show(W1.drewN mq).alloc (.cells #[.pointer (some ⟨g,0,none⟩)] 126)=W2 from HW2.out.symm]at h;exact(aK W2 _ 0 _ _ _ h).trans rfl
 have hn0:=H.out.gZ (k:=w.heap.size) (bJ _);have hn1:=H.out.gZ (k:=w.heap.size+1) (by omega);have hn2:=H.out.gZ (k:=w.heap.size+2) (by omega);have hn3:=H.out.gZ (k:=w.heap.size+3) (by omega);clear p0 p1 p2 HW1 HW2 hW1;rw[show w.heap.size+1+1+1=w.heap.size+3 by omega];refine uR (ms0:=ms) (Bw:=w.heap.size+3) (gQ C i) (λi' ms j h=>qC C i i' ms j h) (λi' ms=>Aj C i i' ms) (by omega) rfl rfl hW2 x3 (by omega) hn3 ?a1 ?assign ?body ?done
 case assign=>
  intro l x W K hK;gi_wp2;exact hK
 case body=>
  as_aux_lemma=>
   intro l x m M W hm hrun hml hmx hW hU;have y0:=(hU.cell (o:=0) (by omega) hn0).trans x0;have y1:=(hU.cell (o:=0) (by omega) hn1).trans x1;have hxl:x<ms.length:=by exact(bB.1 hm).1
   have hxc:x<C.clauses.length:=by rw[<-HL.out];exact hxl
   obtain⟨k,hk⟩:∃k,C.clauses[x]?=some k:=⟨C.clauses[x],aS hxc⟩;have hkm:=cK hk;have hki:=Tz.out k hkm;obtain⟨kb,kK,st,hK,hkb,hkc,_⟩:=hW.con.clause hk;simp only at hK;subst hK;have mJ:=hkc _ hW.below;have aaB:kb≠gm:=λe=>by have h1:=hW.uL;omega
   obtain⟨k0,AO,ac,ne,start,af,gr,bu,fi,pa,re,⟨vn,vd⟩,Dt,Du,wa⟩:=k;obtain⟨stA,wQ⟩:=st;simp only at hki;obtain⟨c0,c1,c2,c3,c4,c5,c6,c7,c8,c9,c10,c11,c12,c13,c14,c15⟩:=EP mJ rfl;clear mJ hkc;obtain⟨Gq,rV,Gr,hcell',hfz'⟩:=hW.oD hmx;simp only[Option.some.injEq,Addr.mk.injEq,true_and,and_true]at rV;subst rV;obtain⟨m0,m1,m2,m3,m4⟩:=m;have d4:W.cell? ⟨gm,eP+x*5+4,none⟩=some (.bool m4):=hcell' 4 (by omega);have f4:=hfz' (eP+x*5+4);clear hcell' hfz';have k4:W.cell? ⟨g,4,none⟩=some (.slice (some ⟨kb,kK,none⟩) C.clauses.length dM):=hW.cell 4;have k10:W.cell? ⟨g,10,none⟩=some (.slice (some ⟨gm,eP,none⟩) M.length bY):=hW.cell 10;have HW:=ah hW;clear hW;have HK:=ah hk;clear hk;have qB:=ah hmx;clear hmx;have x00:(0:Int)<=(x:Int):=by omega
   have x01:(x:Int)<(C.clauses.length:Int):=by omega
   have x02:(x:Int)<(M.length:Int):=by rw[hml,HL.out];exact x01
   have HF:Hid (gQ C i x M=cond ((i:Int)==pa) (M.set x ⟨m0,m1,m2,m3,true⟩) (cond ((i:Int)==re) (M.set x ⟨m0,m1,m2,m3,false⟩) M)):=by
    show _=_;simp only[gQ,HK.out,qB.out]
   clear x0 x1 x2 x3 hn0 hn1 hn2 hn3 hW2 HB2 hs2 HB1 hs1 hm hrun hml hxl hxc hkm Tz uE rT HAR HGO H HA hU hgl hbl dh hia hki;cases q1:((i:Int)==pa)with
   |true=>
    gi_wp2;refine⟨?_,(aG.refl _ _).setCell (.inl (.inr (.inr (.inr rfl)))) _⟩;rw[HF.out,q1];exact HW.out.gL (j:=4) (m':=⟨m0,m1,m2,m3,true⟩) qB.out (by omega) rfl
   |false=>
    cases q2:((i:Int)==re)with
    |true=>
     gi_wp2;refine⟨?_,(aG.refl _ _).setCell (.inl (.inr (.inr (.inr rfl)))) _⟩;rw[HF.out,q1,q2];exact HW.out.gL (j:=4) (m':=⟨m0,m1,m2,m3,false⟩) qB.out (by omega) rfl
    |false=>
     gi_wp2;refine⟨?_,aG.refl _ _⟩;rw[HF.out,q1,q2];exact HW.out
 case done=>
  as_aux_lemma=>
   intro D1 W3 hD1 hW3 TB hK1;generalize hP:(gP ms ms.length).foldl (λms i'=>gQ C i i' ms) ms=ms1 at hW3;have HP:Hid (C.paused i ms=ms1):=hP;clear hP;have hpl:ms1.length=ms.length:=by rw[<-HP.out];exact AU _ _ _
   have y0:=(TB.cell (o:=0) (by omega) hn0).trans x0;have y1:=(TB.cell (o:=0) (by omega) hn1).trans x1;have y2:=(TB.cell (o:=0) (by omega) hn2).trans x2;have hs3:=TB.size;have ac9:=aB hK1;have Rb:¬gX g gh gu gm D1:=H.out.gZ (by omega);clear x0 x1 x2 x3 hn3 hW2 TB HB2;have CX:=ah hpl;clear hpl;gi_wp2;obtain⟨W4,Oo⟩:∃W4,Hid (W4=W3.alloc (.cells #[.nilFunc,.func (.func 111) #[] #[],.func (.func 112) #[] #[],.func (.func 107) #[] #[],.func (.func 107) #[] #[]] 186)):=⟨_,rfl⟩;rw[<-Oo.out];have Ci:Hid (Below W3.heap.size W3 W4):=by
    show Below _ _ _;rw[Oo.out];exact aJ (aC _ _) _
   have hs4:W4.heap.size=W3.heap.size+1:=by rw[Oo.out];simp
   have Qh:W4.heap[W3.heap.size]?=some (.cells #[.nilFunc,.func (.func 111) #[] #[],.func (.func 112) #[] #[],.func (.func 107) #[] #[],.func (.func 107) #[] #[]] 186 (0,0)):=by
    rw[Oo.out];exact bK W3 _
   have kL:Hid (∀z:Bl W4,aH w0 z.val g ⟨⟨dV,dW⟩,⟨dX,dY⟩,⟨some ⟨b,mO,none⟩,dH⟩,⟨eZ,dM⟩,⟨dQ,dR⟩⟩ C ⟨⟨eu,dN⟩,⟨eH,dL⟩,⟨some ⟨gm,eP,none⟩,bY⟩⟩ ⟨day,aj,used,ms1⟩ gh gu gm):=λz=>hW3.on (av Ci.out z.prop);have b0:∀z:Bl W4,z.val.cell? ⟨w.heap.size,0,none⟩=some (.pointer (some ⟨g,0,none⟩)):=λz=>z.cell (((aL Ci.out).1 _ _ (by omega)).trans y0);have b1:∀z:Bl W4,z.val.cell? ⟨w.heap.size+1,0,none⟩=some (.int .i64 i):=λz=>z.cell (((aL Ci.out).1 _ _ (by omega)).trans y1);have B2:Hid (∀z:Bl W4,z.val.cell? ⟨w.heap.size+2,0,none⟩=some (.int .i64 1)):=λz=>z.cell (((aL Ci.out).1 _ _ (by omega)).trans y2);have HD1:Hid (∀z:Bl W4,z.val.heap[D1]?=some (.deferred (some []))):=λz=>(z.prop.block D1 (by omega)).trans ((Ci.out.block D1 (by omega)).trans hK1);have g0:∀z:Bl W4,z.val.cell? ⟨g,0,none⟩=some (.int .i64 C.aF):=λz=>(kL.out z).cell 0;have g1:∀z:Bl W4,z.val.cell? ⟨g,1,none⟩=some (.slice dV C.aj.length dW):=λz=>(kL.out z).cell 1;have g2:∀z:Bl W4,z.val.cell? ⟨g,2,none⟩=some (.slice dX C.units.length dY):=λz=>(kL.out z).cell 2;have g3:∀z:Bl W4,z.val.cell? ⟨g,3,none⟩=some (.slice (some ⟨b,mO,none⟩) C.acts.length dH):=λz=>(kL.out z).cell 3;have g4:∀z:Bl W4,z.val.cell? ⟨g,4,none⟩=some (.slice eZ C.clauses.length dM):=λz=>(kL.out z).cell 4;have g5:∀z:Bl W4,z.val.cell? ⟨g,5,none⟩=some (.int .i64 C.days):=λz=>(kL.out z).cell 5;have g6:∀z:Bl W4,z.val.cell? ⟨g,6,none⟩=some (.slice dQ C.off.length dR):=λz=>(kL.out z).cell 6;have g7:∀z:Bl W4,z.val.cell? ⟨g,7,none⟩=some (.int .i64 day):=λz=>(kL.out z).cell 7;have g8:∀z:Bl W4,z.val.cell? ⟨g,8,none⟩=some (.slice eu aj.length dN):=λz=>(kL.out z).cell 8;have g9:∀z:Bl W4,z.val.cell? ⟨g,9,none⟩=some (.slice eH used.length dL):=λz=>(kL.out z).cell 9;have g10:∀z:Bl W4,z.val.cell? ⟨g,10,none⟩=some (.slice (some ⟨gm,eP,none⟩) ms1.length bY):=λz=>(kL.out z).cell 10;have HDO:Hid (∀z:Bl W4,Calls prog 113 #[.agg #[.int .i64 C.aF,.slice dV C.aj.length dW,.slice dX C.units.length dY,.slice (some ⟨b,mO,none⟩) C.acts.length dH,.slice eZ C.clauses.length dM,.int .i64 C.days,.slice dQ C.off.length dR],.agg #[.int .i64 day,.slice eu aj.length dN,.slice eH used.length dL,.slice (some ⟨gm,eP,none⟩) ms1.length bY],.int .i64 i] z.val (dZ (.int .i64 (qg aj ⟨1,ro,gi,tg,un,⟨ln,ld⟩⟩)) z.val)):=λz=>
    NJ ⟨⟨dV,dW⟩,⟨dX,dY⟩,⟨some ⟨b,mO,none⟩,dH⟩,⟨eZ,dM⟩,⟨dQ,dR⟩⟩ C ⟨⟨eu,dN⟩,⟨eH,dL⟩,⟨some ⟨gm,eP,none⟩,bY⟩⟩ ⟨day,aj,used,ms1⟩ i ⟨1,ro,gi,tg,un,⟨ln,ld⟩⟩ z.val ((kL.out z).con.below (kL.out z).below) (kL.out z).state HA.out HAR.out
   generalize hby:qg aj ⟨1,ro,gi,tg,un,⟨ln,ld⟩⟩=who at HDO;have HBY:=ah hby;clear hby;clear y0 y1 y2 hW3 hK1;refine nK (s:=(⟨W4,aC _ _⟩:Bl W4)) 11 10 _ (.cells #[.int .i64 0] 3) (jV.wide _) (by simp) (by kernel_rfl) (by kernel_rfl) rfl (by kernel_rfl) (λa w=>by go_simp) ?_;simp only[gF,bW,gI,b_,List.eraseIdx_cons_succ,List.eraseIdx_cons_zero];repeat(refine t_ (λK hK=>?_);go_simp;first|(refine hK _ ?_;clear hK K)|(apply Exists.intro;refine⟨λz=>?_,hK _ ?_⟩;(go_at_call 113;exact HDO.out z);clear hK K))
   refine vO ?_;intro bx z hbx hzx;have hbc:z.val.cell? ⟨bx,0,none⟩=some (.int .i64 0):=(aK z.val _ 0 _ _ _ hzx).trans rfl;have hbf:z.val.frozen? ⟨bx,0,none⟩=false:=by simp[World.frozen?,hzx]
   have hbn:¬gX g gh gu gm bx:=H.out.gZ (by omega);have hWz:=kL.out z;have hszz:=z.prop.size;have hbz:=aB hzx;have hb1:∀o,z.val.cell? ⟨W3.heap.size,o,none⟩=W4.cell? ⟨W3.heap.size,o,none⟩:=λo=>z.prop.cell (p:=⟨W3.heap.size,o,none⟩) (by show W3.heap.size<W4.heap.size;omega);have e1:z.val.cell? ⟨W3.heap.size,1,none⟩=some (.func (.func 111) #[] #[]):=(hb1 1).trans ((aK W4 _ 1 _ _ _ Qh).trans rfl);have e2:z.val.cell? ⟨W3.heap.size,2,none⟩=some (.func (.func 112) #[] #[]):=(hb1 2).trans ((aK W4 _ 2 _ _ _ Qh).trans rfl);have e3:z.val.cell? ⟨W3.heap.size,3,none⟩=some (.func (.func 107) #[] #[]):=(hb1 3).trans ((aK W4 _ 3 _ _ _ Qh).trans rfl);have e4:z.val.cell? ⟨W3.heap.size,4,none⟩=some (.func (.func 107) #[] #[]):=(hb1 4).trans ((aK W4 _ 4 _ _ _ Qh).trans rfl);have b0z:=b0 z;have b1z:=b1 z;have b2z:=B2.out z;have Yb:=HD1.out z;have hne0:w.heap.size≠bx:=by omega
   have hne1:w.heap.size+1≠bx:=by omega
   have hne2:w.heap.size+2≠bx:=by omega
   have BZ:W3.heap.size≠bx:=by omega
   have LM:D1≠bx:=by omega
   clear hb1 hzx b0 b1 B2 HD1 HDO Qh g0 g1 g2 g3 g4 g5 g6 g7 g8 g9 g10;gi_wp2_with (refine⟨trivial,?_⟩;gi_at_call 110;refine(fq.2 (jP _ _)).mono ?_;rintro e z2 ⟨rfl,rfl⟩);obtain⟨W5,og⟩:∃W5,Hid (W5=(z.val.setCell ⟨bx,0,none⟩ (.int .i64 who)).alloc (.cells #[.pointer (some ⟨g,0,none⟩)] 126)):=⟨_,rfl⟩;rw[<-og.out];have Js:aH w0 W5 g ⟨⟨dV,dW⟩,⟨dX,dY⟩,⟨some ⟨b,mO,none⟩,dH⟩,⟨eZ,dM⟩,⟨dQ,dR⟩⟩ C ⟨⟨eu,dN⟩,⟨eH,dL⟩,⟨some ⟨gm,eP,none⟩,bY⟩⟩ ⟨day,aj,used,ms1⟩ gh gu gm:=by
    rw[og.out];refine(hWz.X7 (S:=λk=>k=bx) ((aG.refl (λk=>k=bx) z.val).setCell (p:=⟨bx,0,none⟩) (.inl rfl) _) ?_).on (aJ (aC _ _) _);rintro k rfl;exact⟨hbn,by have h1:=H.out.below.size;omega⟩
   have hs5:W5.heap.size=z.val.heap.size+1:=by rw[og.out];simp[World.setCell]
   have L8:aG (λk=>k=bx) z.val W5:=by
    rw[og.out];exact((aG.refl (λk=>k=bx) z.val).setCell (p:=⟨bx,0,none⟩) (.inl rfl) _).alloc _
   have x0:=(L8.cell (o:=0) (by omega) hne0).trans b0z;have x1:=(L8.cell (o:=0) (by omega) hne1).trans b1z;have x2:=(L8.cell (o:=0) (by omega) hne2).trans b2z;have q1:=(L8.cell (o:=1) (by omega) BZ).trans e1;have q2:=(L8.cell (o:=2) (by omega) BZ).trans e2;have q3:=(L8.cell (o:=3) (by omega) BZ).trans e3;have q4:=(L8.cell (o:=4) (by omega) BZ).trans e4;have hd1:=L8.keep Yb LM;have x5:W5.cell? ⟨bx,0,none⟩=some (.int .i64 who):=by
    have hb:Below z.val.heap.size (z.val.setCell ⟨bx,0,none⟩ (.int .i64 who)) W5:=by rw[og.out];exact Below.mono (aJ (aC _ _) _) (by simp[World.setCell])
    rw[hb.cell (p:=⟨bx,0,none⟩) hbz];exact World.cell?_setCell_same' _ _ _ (by rw[hbc];rfl)
   have x6:W5.cell? ⟨z.val.heap.size,0,none⟩=some (.pointer (some ⟨g,0,none⟩)):=by
    have h:=bK (z.val.setCell ⟨bx,0,none⟩ (.int .i64 who)) (.cells #[.pointer (some ⟨g,0,none⟩)] 126);rw[show(z.val.setCell ⟨bx,0,none⟩ (.int .i64 who)).heap.size=z.val.heap.size by simp[World.setCell],<-og.out]at h;exact(aK W5 _ 0 _ _ _ h).trans rfl
   have hn5:=H.out.gZ (k:=z.val.heap.size) (by omega);have Tt:=H.out.gZ (k:=W3.heap.size) (by omega);clear b0z b1z b2z Yb e1 e2 e3 e4 hbc hbf L8 og hWz kL Oo Ci;refine uR (ms0:=ms1) (Bw:=z.val.heap.size) (j4 C i who) (λi' ms j h=>uj C i who i' ms j h) (λi' ms=>Ev C i who i' ms) (by omega) rfl rfl Js x6 (by omega) hn5 ?a2 ?assign2 ?Yc ?Yd
   case assign2=>
    intro l x W K hK;gi_wp2;exact hK
   case Yc=>
    as_aux_lemma=>
     intro l x m M W hm hrun hml hmx hW hU;have hgo:0<=m.got/\m.got<=1000000:=by
      obtain⟨m',h1,h2,h3⟩:=Hf (C:=C) (act:=i) (ms:=ms) (j:=x) (m:=m) (by rw[HP.out];exact hm);rw[h2];exact HGO.out m' (cK h1) (by rw[<-h3];exact hrun)
     have hpl:=CX.out;have y0:=(hU.cell (o:=0) (by omega) hn0).trans x0;have y1:=(hU.cell (o:=0) (by omega) hn1).trans x1;have r1:=(hU.cell (o:=1) (by omega) Tt).trans q1;have r2:=(hU.cell (o:=2) (by omega) Tt).trans q2;have r3:=(hU.cell (o:=3) (by omega) Tt).trans q3;have r4:=(hU.cell (o:=4) (by omega) Tt).trans q4;have y5:=(hU.cell (o:=0) (by omega) hbn).trans x5;have hsW:=hU.size;have hxl:x<ms.length:=by rw[<-hpl];exact(bB.1 hm).1
     have hxc:x<C.clauses.length:=by rw[<-HL.out];exact hxl
     obtain⟨k,hk⟩:∃k,C.clauses[x]?=some k:=⟨C.clauses[x],aS hxc⟩;have hkm:=cK hk;have hki:=Tz.out k hkm;obtain⟨kb,kK,st,hK,hkb,hkc,_⟩:=hW.con.clause hk;simp only at hK;subst hK;have mJ:=hkc _ hW.below;have aaB:kb≠gm:=λe=>by have h1:=hW.uL;omega
     obtain⟨k0,AO,ac,ne,start,af,gr,bu,fi,pa,re,⟨vn,vd⟩,Dt,Du,wa⟩:=k;obtain⟨stA,wQ⟩:=st;simp only at hki;obtain⟨c0,c1,c2,c3,c4,c5,c6,c7,c8,c9,c10,c11,c12,c13,c14,c15⟩:=EP mJ rfl;clear mJ hkc;obtain⟨Gq,rV,Gr,hcell',hfz'⟩:=hW.oD hmx;simp only[Option.some.injEq,Addr.mk.injEq,true_and,and_true]at rV;subst rV;obtain⟨m0,m1,m2,m3,m4⟩:=m;simp only at hgo;have d3:W.cell? ⟨gm,eP+x*5+3,none⟩=some (.int .i64 m3):=hcell' 3 (by omega);clear hcell' hfz';have k4:W.cell? ⟨g,4,none⟩=some (.slice (some ⟨kb,kK,none⟩) C.clauses.length dM):=hW.cell 4;have k10:W.cell? ⟨g,10,none⟩=some (.slice (some ⟨gm,eP,none⟩) M.length bY):=hW.cell 10;have hgW:=aB hW.head;obtain⟨hg1,hg2⟩:=hgo;obtain⟨hq1,hq2⟩:=hki;have HW:=ah hW;clear hW;have HK:=ah hk;clear hk;have qB:=ah hmx;clear hmx;have x00:(0:Int)<=(x:Int):=by omega
     have x01:(x:Int)<(C.clauses.length:Int):=by omega
     have x02:(x:Int)<(M.length:Int):=by rw[hml,hpl,HL.out];exact x01
     have HF:Hid (j4 C i who x M=cond ((ac==(i:Int))&&((k0==4)||(m3==who))) (M.set x (aD.hit ⟨m0,m1,m2,m3,m4⟩ ⟨k0,AO,ac,ne,start,af,gr,bu,fi,pa,re,⟨vn,vd⟩,Dt,Du,wa⟩)) M):=by
      show _=_;simp only[j4,HK.out,qB.out]
     have l0:w.heap.size<W.heap.size:=by omega
     have l1:w.heap.size+1<W.heap.size:=by omega
     have l2:W3.heap.size<W.heap.size:=by omega
     have l3:bx<W.heap.size:=by omega
     have hpm:gm<W.heap.size:=Gr;clear hd1 x0 x1 x2 q1 q2 q3 q4 x5 x6 hn0 hn1 hn2 Tt hn5 Js hs5 hs4 hs3 hs2 hs1 HB1 hm hrun hml hxl hxc hkm Tz uE rT HAR HGO H HA hU hgl hbl dh hia hbn hbx hszz hbz hne0 hne1 hne2 BZ LM HP CX hpl ac9 Rb hD1;gi_wp2_with fail;obtain⟨Wc,wU⟩:∃Wc,Hid (Wc=W.alloc (.cells #[.int .i64 k0,.int .i64 AO,.int .i64 ac,.int .i64 ne,.slice stA start.length wQ,.int .i64 af,.int .i64 gr,.bool bu,.bool fi,.int .i64 pa,.int .i64 re,.int .i64 vn,.int .i64 vd,.int .i64 Dt,.int .i64 Du,.bool wa] 112)):=⟨_,rfl⟩;rw[<-wU.out];have HBc:Hid (Below W.heap.size W Wc):=by
      show Below _ _ _;rw[wU.out];exact aJ (aC _ _) _
     have vR:Hid (aG (gX g gh gu gm) W Wc):=(aG.refl _ _).on HBc.out;have Dy:Hid (∀z:Bl Wc,aH w0 z.val g ⟨⟨dV,dW⟩,⟨dX,dY⟩,⟨some ⟨b,mO,none⟩,dH⟩,⟨some ⟨kb,kK,none⟩,dM⟩,⟨dQ,dR⟩⟩ C ⟨⟨eu,dN⟩,⟨eH,dL⟩,⟨some ⟨gm,eP,none⟩,bY⟩⟩ ⟨day,aj,used,M⟩ gh gu gm):=λz=>HW.out.on (av HBc.out z.prop);have hkc:∀(p o:Nat)(u:Value),p<W.heap.size->W.cell? ⟨p,o,none⟩=some u->∀z:Bl Wc,z.val.cell? ⟨p,o,none⟩=some u:=λp o u h2 h3 z=>((aL (av HBc.out z.prop)).1 _ _ h2).trans h3;have hcn:∀(o:Nat)(u:Value),(Array.mk [.int .i64 k0,.int .i64 AO,.int .i64 ac,.int .i64 ne,.slice stA start.length wQ,.int .i64 af,.int .i64 gr,.bool bu,.bool fi,.int .i64 pa,.int .i64 re,.int .i64 vn,.int .i64 vd,.int .i64 Dt,.int .i64 Du,.bool wa])[o]?=some u->∀z:Bl Wc,z.val.cell? ⟨W.heap.size,o,none⟩=some u:=λo u hu z=>by
      have h:=bK W (.cells #[.int .i64 k0,.int .i64 AO,.int .i64 ac,.int .i64 ne,.slice stA start.length wQ,.int .i64 af,.int .i64 gr,.bool bu,.bool fi,.int .i64 pa,.int .i64 re,.int .i64 vn,.int .i64 vd,.int .i64 Dt,.int .i64 Du,.bool wa] 112);rw[<-wU.out]at h;exact z.cell ((aK Wc _ o _ _ _ h).trans hu)
     have v0:=hkc _ _ _ l0 y0;have v1:=hkc _ _ _ l1 y1;have w1:=hkc _ _ _ l2 r1;have w2:=hkc _ _ _ l2 r2;have w3:=hkc _ _ _ l2 r3;have w4:=hkc _ _ _ l2 r4;have v5:=hkc _ _ _ l3 y5;have v6:=hkc _ _ _ hgW k10;have v7:=hkc _ _ _ hpm d3;have v8:∀z:Bl Wc,z.val.cell? ⟨W.heap.size,0,none⟩=some (.int .i64 k0):=hcn 0 _ rfl;have v9:∀z:Bl Wc,z.val.cell? ⟨W.heap.size,2,none⟩=some (.int .i64 ac):=hcn 2 _ rfl;clear y0 y1 r1 r2 r3 r4 y5 k10 d3 c0 c1 c2 c3 c4 c5 c6 c7 c8 c9 c10 c11 c12 c13 c14 c15 k4 hkc hcn l0 l1 l2 l3 hpm wU HBc hsW;have hkk:k0=1\/k0=2\/k0=3\/k0=4:=by omega
     clear hq1 hq2;cases qa:(ac==(i:Int))with
     |false=>
      as_aux_lemma=>
       clear hkk;refine aN (s:=(⟨Wc,aC _ _⟩:Bl Wc)) 21 (jV.round _ _) ?_;simp only[gF,bW,gI,b_];repeat(go_big_quiet_step (fail))
       refine aY ?_;rintro _ ⟨z1,rfl⟩;gi_wp2_with fail;refine⟨?_,vR.out.on z1.prop⟩;rw[HF.out,qa,Bool.false_and,cond_false];exact Dy.out z1
     |true=>
      rcases hkk with rfl|hkk
      .cases qb:(m3==who)with
       |true=>
        as_aux_lemma=>
         refine aN (s:=(⟨Wc,aC _ _⟩:Bl Wc)) 21 (jV.round _ _) ?_;simp only[gF,bW,gI,b_];repeat(go_big_quiet_step (fail))
         refine aY ?_;rintro _ ⟨z1,rfl⟩;gi_wp2_with fail;have HC:Hid (∀z:Bl Wc,Calls prog 111 #[.pointer (some ⟨g,0,none⟩),.int .i64 x] z.val _):=λz=>Ef (Dy.out z) x _ qB.out _ HK.out hg1 hg2;refine aN (s:=z1) 6 (jV.round _ _) ?_;simp only[gF,bW,gI,b_];repeat(go_big_quiet_step (fail))
         refine aY ?_;rintro _ ⟨z3,rfl⟩;gi_wp2_with (refine⟨trivial,?_⟩;gi_at_call 111;refine(CallsIn.inRound l (fq.2 (HC.out z3))).mono ?_;rintro e zc ⟨rfl,hz1,hz2⟩);refine⟨?_,(vR.out.on z3.prop).trans hz2 (λ_ _ h=>h)⟩;rw[HF.out,qa,qb,Bool.or_true,Bool.and_true,cond_true];exact hz1
       |false=>
        as_aux_lemma=>
         refine aN (s:=(⟨Wc,aC _ _⟩:Bl Wc)) 21 (jV.round _ _) ?_;simp only[gF,bW,gI,b_];repeat(go_big_quiet_step (fail))
         refine aY ?_;rintro _ ⟨z1,rfl⟩;gi_wp2_with fail;refine⟨?_,vR.out.on z1.prop⟩;rw[HF.out,qa,qb,show((1:Int)==4)=false from rfl,Bool.or_false,Bool.and_false,cond_false];exact Dy.out z1
      rcases hkk with rfl|hkk
      .cases qb:(m3==who)with
       |true=>
        as_aux_lemma=>
         refine aN (s:=(⟨Wc,aC _ _⟩:Bl Wc)) 21 (jV.round _ _) ?_;simp only[gF,bW,gI,b_];repeat(go_big_quiet_step (fail))
         refine aY ?_;rintro _ ⟨z1,rfl⟩;gi_wp2_with fail;have HC:Hid (∀z:Bl Wc,Calls prog 112 #[.pointer (some ⟨g,0,none⟩),.int .i64 x] z.val _):=λz=>Ee (Dy.out z) x _ qB.out;refine aN (s:=z1) 6 (jV.round _ _) ?_;simp only[gF,bW,gI,b_];repeat(go_big_quiet_step (fail))
         refine aY ?_;rintro _ ⟨z3,rfl⟩;gi_wp2_with (refine⟨trivial,?_⟩;gi_at_call 112;refine(CallsIn.inRound l (fq.2 (HC.out z3))).mono ?_;rintro e zc ⟨rfl,hz1,hz2⟩);refine⟨?_,(vR.out.on z3.prop).trans hz2 (λ_ _ h=>h)⟩;rw[HF.out,qa,qb,Bool.or_true,Bool.and_true,cond_true];exact hz1
       |false=>
        as_aux_lemma=>
         refine aN (s:=(⟨Wc,aC _ _⟩:Bl Wc)) 21 (jV.round _ _) ?_;simp only[gF,bW,gI,b_];repeat(go_big_quiet_step (fail))
         refine aY ?_;rintro _ ⟨z1,rfl⟩;gi_wp2_with fail;refine⟨?_,vR.out.on z1.prop⟩;rw[HF.out,qa,qb,show((2:Int)==4)=false from rfl,Bool.or_false,Bool.and_false,cond_false];exact Dy.out z1
      rcases hkk with rfl|hkk
      .cases qb:(m3==who)with
       |true=>
        as_aux_lemma=>
         refine aN (s:=(⟨Wc,aC _ _⟩:Bl Wc)) 21 (jV.round _ _) ?_;simp only[gF,bW,gI,b_];repeat(go_big_quiet_step (fail))
         refine aY ?_;rintro _ ⟨z1,rfl⟩;gi_wp2_with fail;have HC:Hid (∀z:Bl Wc,Calls prog 107 #[.pointer (some ⟨g,0,none⟩),.int .i64 x] z.val _):=λz=>uM (Dy.out z) x _ qB.out;refine aN (s:=z1) 6 (jV.round _ _) ?_;simp only[gF,bW,gI,b_];repeat(go_big_quiet_step (fail))
         refine aY ?_;rintro _ ⟨z3,rfl⟩;gi_wp2_with (refine⟨trivial,?_⟩;gi_at_call 107;refine(CallsIn.inRound l (fq.2 (HC.out z3))).mono ?_;rintro e zc ⟨rfl,hz1,hz2⟩);refine⟨?_,(vR.out.on z3.prop).trans hz2 (λ_ _ h=>h)⟩;rw[HF.out,qa,qb,Bool.or_true,Bool.and_true,cond_true];exact hz1
       |false=>
        as_aux_lemma=>
         refine aN (s:=(⟨Wc,aC _ _⟩:Bl Wc)) 21 (jV.round _ _) ?_;simp only[gF,bW,gI,b_];repeat(go_big_quiet_step (fail))
         refine aY ?_;rintro _ ⟨z1,rfl⟩;gi_wp2_with fail;refine⟨?_,vR.out.on z1.prop⟩;rw[HF.out,qa,qb,show((3:Int)==4)=false from rfl,Bool.or_false,Bool.and_false,cond_false];exact Dy.out z1
      .subst hkk
       as_aux_lemma=>
        refine aN (s:=(⟨Wc,aC _ _⟩:Bl Wc)) 21 (jV.round _ _) ?_;simp only[gF,bW,gI,b_];repeat(go_big_quiet_step (fail))
        refine aY ?_;rintro _ ⟨z1,rfl⟩;gi_wp2_with fail;have HC:Hid (∀z:Bl Wc,Calls prog 107 #[.pointer (some ⟨g,0,none⟩),.int .i64 x] z.val _):=λz=>uM (Dy.out z) x _ qB.out;refine aN (s:=z1) 6 (jV.round _ _) ?_;simp only[gF,bW,gI,b_];repeat(go_big_quiet_step (fail))
        refine aY ?_;rintro _ ⟨z3,rfl⟩;gi_wp2_with (refine⟨trivial,?_⟩;gi_at_call 107;refine(CallsIn.inRound l (fq.2 (HC.out z3))).mono ?_;rintro e zc ⟨rfl,hz1,hz2⟩);refine⟨?_,(vR.out.on z3.prop).trans hz2 (λ_ _ h=>h)⟩;rw[HF.out,qa,show((4:Int)==4)=true from rfl,Bool.true_or,Bool.and_true,cond_true];exact hz1
   case Yd=>
    as_aux_lemma=>
     intro D2 W6 hD2 ZJ Dz hK2;generalize hQ:(gP ms1 ms1.length).foldl (λms i'=>j4 C i who i' ms) ms1=ms2 at ZJ;have HQ:Hid (C.Ew i who ms1=ms2):=hQ;clear hQ;have HQL:Hid (ms2.length=C.clauses.length):=by
      show _=_;rw[<-HQ.out,Dv,CX.out,HL.out]
     have y0:=(Dz.cell (o:=0) (by omega) hn0).trans x0;have y1:=(Dz.cell (o:=0) (by omega) hn1).trans x1;have y2:=(Dz.cell (o:=0) (by omega) hn2).trans x2;have hd2:=Dz.keep hd1 Rb;have ac_:¬gX g gh gu gm D2:=H.out.gZ (by omega);have hs6:=Dz.size;have ajW:D1<D2:=by omega
     have vS:=ah Dz;clear Dz;have zC:=ah ZJ;clear ZJ;have hwW:w.heap.size<=W6.heap.size:=by omega
     have hw0:w0.heap.size<=w.heap.size:=H.out.below.size;have HST:=ah (zu zC.out HQL.out uE.out rT.out);clear x0 x1 x2 q1 q2 q3 q4 x5 x6 Js;gi_wp2_with (refine⟨trivial,?_⟩;gi_at_call 67;refine(fq.2 HST.out).mono ?_;rintro e zc ⟨rfl,hz1,hz2⟩);have hU8:aG (gX g gh gu gm) W6 zc:=hz2;have hKa:=hU8.keep hK2 ac_;have hKb:=hU8.keep hd2 Rb;have Rc:=grownBy_putObj' zc D2 (.deferred none);have hKc:=(Rc.block D1 (aB hKb) (by simp;omega)).trans hKb;have Ye:=grownBy_putObj' (zc.putObj D2 (.deferred none)) D1 (.deferred none);refine⟨by simp,.inl ⟨_,_,rfl,run_takeDeferred hKa,?_⟩⟩;refine⟨by simp,.inl ⟨_,_,rfl,run_takeDeferred hKc,?_⟩⟩;have hr1:∀r,some D2=some r->w0.heap.size<=r/\∃o,zc.heap[r]?=some o/\o.isCells=false:=λr e=>by
      injection e with e
      subst e;exact⟨by omega,_,hKa,rfl⟩
     have hr2:∀r,some D1=some r->w0.heap.size<=r/\∃o,(zc.putObj D2 (.deferred none)).heap[r]?=some o/\o.isCells=false:=λr e=>by
      injection e with e
      subst e;exact⟨by omega,_,hKc,rfl⟩
     have h8:=aH.mG (β:=Unit) (λ_=>(⟨day,aj,used,C.begin aj ms2⟩:ak)) _ (bJ _) () zc _ _ hz1 Rc hr1;have h9:=aH.mG (β:=Unit) (λ_=>(⟨day,aj,used,C.begin aj ms2⟩:ak)) _ (bJ _) () _ _ _ h8 Ye hr2;refine⟨_,results_none rfl _ _ _,rfl,?_,bI (bI (bI hwW hU8.size) Rc.size) Ye.size⟩;simp only[au.act,show((1:Int)!=1)=false from rfl,Bool.false_and,cond_false,HP.out,HBY.out,HQ.out];exact h9
end
open Go.RowKit Go.Shelf Tryz
attribute [local go_sem] Oper.semAt_some AA kT
theorem ada{w0 w:World}{g:Nat}{v:CV}{C:au}{t:TV}{s:ak}{gh gu gm:Nat}(h:aH w0 w g v C t s gh gu gm)(i:Nat)(a:jy)(ha:C.acts[i]?=some a)(hk1:(a.kind !=1)=true)(Rf:s.used[i]?=some false)(hgi:0<=a.give/\a.give<s.aj.length)(hlen:s.marks.length=C.clauses.length)
 (hin:∀k∈C.clauses,∀c∈k.start,0<=c.clause/\c.clause<C.clauses.length)(hro:∀k∈C.clauses,k.kind≠4->0<=k.role/\k.role<s.aj.length)
 (hki:∀k∈C.clauses,1<=k.kind/\k.kind<=4)(har:a.role≠ -1->0<=a.role/\a.role<s.aj.length)(hgo:∀m∈s.marks,m.runs=true->0<=m.got/\m.got<=1000000):
 Calls prog 70 #[.pointer (some ⟨g,0,none⟩),.int .i64 i] w (xE w0 g v C t (C.act i a s) gh gu gm w):=by
 have hia:i<C.acts.length:=(bB.1 ha).1;obtain⟨b,mO,hA,hbl,hac⟩:=h.con.act ha;obtain⟨⟨dV,dW⟩,⟨dX,dY⟩,⟨fB,dH⟩,⟨eZ,dM⟩,⟨dQ,dR⟩⟩:=v;simp only at hA;subst hA;obtain⟨eP,Jp,_⟩:=h.marks.Qb;obtain⟨n_,huA,huc⟩:∃off,t.u.A=some ⟨gu,off,none⟩/\w.cell? ⟨gu,off+i,none⟩=some (.bool false):=by
  obtain⟨off,h1,_,_,h2,h3,h4⟩:=h.used.Qb;have hi2:i<s.used.length:=(bB.1 Rf).1;exact⟨off,h1,by rw[h3 i (by omega)];simp[fM,Rf]⟩
 obtain⟨⟨eu,dN⟩,⟨eH,dL⟩,⟨fF,bY⟩⟩:=t;simp only at Jp;subst Jp;simp only at huA;subst huA;obtain⟨day,aj,used,ms⟩:=s;simp only at hlen hro har hgo;obtain⟨ki,ro,gi,tg,un,⟨ln,ld⟩⟩:=a;simp only at hk1 har;simp only at Rf hgi;have hiu:i<used.length:=(bB.1 Rf).1;have g3:w.cell? ⟨g,3,none⟩=some (.slice (some ⟨b,mO,none⟩) C.acts.length dH):=h.cell 3;have BX:=hac w h.below;obtain⟨a0,a1,a2,a3,a4,a5,a6⟩:=rw7 BX rfl;clear hac BX;have hgl:=aB h.head;have dh:b<w.heap.size:=uH hbl h.below.size;have i0:(0:Int)<=(i:Int):=by omega
 have i1:(i:Int)<(C.acts.length:Int):=by omega
 have H:=ah h;clear h;have HA:=ah ha;clear ha;have HL:=ah hlen;clear hlen;have uE:=ah hin;clear hin;have rT:=ah hro;clear hro;have Tz:=ah hki;clear hki;have HAR:=ah har;clear har;have HGO:=ah hgo;clear hgo;have HUS:=ah Rf;clear Rf;have Yf:=ah hgi;clear hgi;have HK1:=ah hk1;clear hk1;have i2:(i:Int)<(used.length:Int):=by omega
 refine(fq (n:=3)).1 ?_;refine callsIn_of_wp_marks func70 rfl trivial ?_ rfl;simp only[ntmps70,uF,gV,kM,Nat.reduceAdd,Nat.reduceSub,wz,wB,wE,wC,pE,wD];gi_wp2;obtain⟨W0,HW0⟩:∃W0,Hid (W0=(w.alloc (.cells #[.pointer (some ⟨g,0,none⟩)] 126)).alloc (.cells #[.int .i64 i] 3)):=⟨_,rfl⟩;rw[<-HW0.out];have HB0:Hid (Below w.heap.size w W0):=by
  show Below _ _ _;rw[HW0.out];exact aJ (aJ (aC _ _) _) _
 have hs0:W0.heap.size=w.heap.size+2:=by rw[HW0.out];simp
 have o0:W0.cell? ⟨w.heap.size,0,none⟩=some (.pointer (some ⟨g,0,none⟩)):=by
  have h:W0.heap[w.heap.size]?=some (.cells #[.pointer (some ⟨g,0,none⟩)] 126 (0,0)):=by
   rw[HW0.out];exact(Below.heap_alloc _ _ _ (by simp)).trans (bK w _)
  exact(aK W0 _ 0 _ _ _ h).trans rfl
 have o1:W0.cell? ⟨w.heap.size+1,0,none⟩=some (.int .i64 i):=by
  have h:W0.heap[w.heap.size+1]?=some (.cells #[.int .i64 i] 3 (0,0)):=by
   rw[HW0.out];have h:=bK (w.alloc (.cells #[.pointer (some ⟨g,0,none⟩)] 126)) (.cells #[.int .i64 i] 3);rw[aT]at h;exact h
  exact(aK W0 _ 0 _ _ _ h).trans rfl
 have g3':=((aL HB0.out).1 _ _ hgl).trans g3;have a0':=((aL HB0.out).1 _ _ dh).trans a0;have a1':=((aL HB0.out).1 _ _ dh).trans a1;have a2':=((aL HB0.out).1 _ _ dh).trans a2;have a3':=((aL HB0.out).1 _ _ dh).trans a3;have a4':=((aL HB0.out).1 _ _ dh).trans a4;have a5':=((aL HB0.out).1 _ _ dh).trans a5;have a6':=((aL HB0.out).1 _ _ dh).trans a6;have X_:g<W0.heap.size:=by omega
 have Ya:b<W0.heap.size:=by omega
 have Ol:w.heap.size<W0.heap.size:=by omega
 have Om:w.heap.size+1<W0.heap.size:=by omega
 clear g3 a0 a1 a2 a3 a4 a5 a6;have zR:=ah hs0;clear hs0
 gi_region
 obtain⟨W1,HW1⟩:∃W1,Hid (W1=(W0.alloc (.cells #[.int .i64 ki,.int .i64 ro,.int .i64 gi,.int .i64 tg,.int .i64 un,.int .i64 ln,.int .i64 ld] 109)).drew):=⟨_,rfl⟩;rw[<-HW1.out];have HB1:Hid (Below w.heap.size w W1):=by
  show Below _ _ _;rw[HW1.out];exact(aJ HB0.out _).drew
 have H7:Below W0.heap.size W0 W1:=by
  rw[HW1.out];exact(aJ (aC _ _) _).drew
 have hs0:=zR.out;have hW1:aH w0 W1 g ⟨⟨dV,dW⟩,⟨dX,dY⟩,⟨some ⟨b,mO,none⟩,dH⟩,⟨eZ,dM⟩,⟨dQ,dR⟩⟩ C ⟨⟨eu,dN⟩,⟨some ⟨gu,n_,none⟩,dL⟩,⟨some ⟨gm,eP,none⟩,bY⟩⟩ ⟨day,aj,used,ms⟩ gh gu gm:=H.out.on HB1.out;have hs1:W1.heap.size=w.heap.size+3:=by rw[HW1.out];simp[hs0]
 have p0:=((aL H7).1 _ _ Ol).trans o0;have p1:=((aL H7).1 _ _ Om).trans o1;have p2:W1.cell? ⟨w.heap.size+2,0,none⟩=some (.int .i64 ki):=by
  have h:W1.heap[w.heap.size+2]?=some (.cells #[.int .i64 ki,.int .i64 ro,.int .i64 gi,.int .i64 tg,.int .i64 un,.int .i64 ln,.int .i64 ld] 109 (0,0)):=by
   have h:=bK W0 (.cells #[.int .i64 ki,.int .i64 ro,.int .i64 gi,.int .i64 tg,.int .i64 un,.int .i64 ln,.int .i64 ld] 109);rw[hs0]at h;rw[HW1.out];exact h
  exact(aK W1 _ 0 _ _ _ h).trans rfl
 rw[hs0];clear g3' a0' a1' a2' a3' a4' a5' a6' o0 o1 X_ Ya Ol Om H7 HW0 HB0 zR hs0;have u0:W1.cell? ⟨gu,n_+i,none⟩=some (.bool false):=by
  obtain⟨cur,hcur⟩:=H.out.used.fC;rw[(aL HB1.out).1 _ _ (aB hcur)];exact huc
 have k9:W1.cell? ⟨g,9,none⟩=some (.slice (some ⟨gu,n_,none⟩) used.length dL):=hW1.cell 9;have hk1:=HK1.out;clear huc;clear i0 i1;gi_wp2;refine aR 12 (jV.wide _) ?_;simp only[gF,bW,gI,b_];repeat(go_big_quiet_step (fail))
 refine aY ?_;rintro _ ⟨mq,rfl⟩;gi_wp2_with (refine⟨trivial,?_⟩;gi_at_call 110;refine(fq.2 (jP _ _)).mono ?_;rintro e z2 ⟨rfl,rfl⟩);obtain⟨W2,HW2⟩:∃W2,Hid (W2=(W1.drewN mq).alloc (.cells #[.pointer (some ⟨g,0,none⟩)] 126)):=⟨_,rfl⟩;rw[show(W1.drewN mq).alloc (.cells #[.pointer (some ⟨g,0,none⟩)] 126)=W2 from HW2.out.symm];have HB2:Hid (Below W1.heap.size W1 W2):=by
  show Below _ _ _;rw[HW2.out];exact(below_drewN _ _).alloc (bJ _) _
 have hW2:aH w0 W2 g ⟨⟨dV,dW⟩,⟨dX,dY⟩,⟨some ⟨b,mO,none⟩,dH⟩,⟨eZ,dM⟩,⟨dQ,dR⟩⟩ C ⟨⟨eu,dN⟩,⟨some ⟨gu,n_,none⟩,dL⟩,⟨some ⟨gm,eP,none⟩,bY⟩⟩ ⟨day,aj,used,ms⟩ gh gu gm:=hW1.on HB2.out;have hs2:W2.heap.size=w.heap.size+4:=by rw[HW2.out];simp[hs1]
 have x0:=((aL HB2.out).1 w.heap.size 0 (by omega)).trans p0;have x1:=((aL HB2.out).1 (w.heap.size+1) 0 (by omega)).trans p1;have x2:=((aL HB2.out).1 (w.heap.size+2) 0 (by omega)).trans p2;have x3:W2.cell? ⟨w.heap.size+3,0,none⟩=some (.pointer (some ⟨g,0,none⟩)):=by
  have h:=bK (W1.drewN mq) (.cells #[.pointer (some ⟨g,0,none⟩)] 126);rw[show(W1.drewN mq).heap.size=w.heap.size+3 from hs1,show(W1.drewN mq).alloc (.cells #[.pointer (some ⟨g,0,none⟩)] 126)=W2 from HW2.out.symm]at h;exact(aK W2 _ 0 _ _ _ h).trans rfl
 have hn0:=H.out.gZ (k:=w.heap.size) (bJ _);have hn1:=H.out.gZ (k:=w.heap.size+1) (by omega);have hn2:=H.out.gZ (k:=w.heap.size+2) (by omega);have hn3:=H.out.gZ (k:=w.heap.size+3) (by omega);clear p0 p1 p2 HW1 HW2 hW1 u0 k9 hk1;rw[show w.heap.size+1+1+1=w.heap.size+3 by omega];refine uR (ms0:=ms) (Bw:=w.heap.size+3) (gQ C i) (λi' ms j h=>qC C i i' ms j h) (λi' ms=>Aj C i i' ms) (by omega) rfl rfl hW2 x3 (by omega) hn3 ?a1 ?assign ?body ?done
 case assign=>
  intro l x W K hK;gi_wp2;exact hK
 case body=>
  as_aux_lemma=>
   intro l x m M W hm hrun hml hmx hW hU;have y0:=(hU.cell (o:=0) (by omega) hn0).trans x0;have y1:=(hU.cell (o:=0) (by omega) hn1).trans x1;have hxl:x<ms.length:=by exact(bB.1 hm).1
   have hxc:x<C.clauses.length:=by rw[<-HL.out];exact hxl
   obtain⟨k,hk⟩:∃k,C.clauses[x]?=some k:=⟨C.clauses[x],aS hxc⟩;have hkm:=cK hk;have hki:=Tz.out k hkm;obtain⟨kb,kK,st,hK,hkb,hkc,_⟩:=hW.con.clause hk;simp only at hK;subst hK;have mJ:=hkc _ hW.below;have aaB:kb≠gm:=λe=>by have h1:=hW.uL;omega
   obtain⟨k0,AO,ac,ne,start,af,gr,bu,fi,pa,re,⟨vn,vd⟩,Dt,Du,wa⟩:=k;obtain⟨stA,wQ⟩:=st;simp only at hki;obtain⟨c0,c1,c2,c3,c4,c5,c6,c7,c8,c9,c10,c11,c12,c13,c14,c15⟩:=EP mJ rfl;clear mJ hkc;obtain⟨Gq,rV,Gr,hcell',hfz'⟩:=hW.oD hmx;simp only[Option.some.injEq,Addr.mk.injEq,true_and,and_true]at rV;subst rV;obtain⟨m0,m1,m2,m3,m4⟩:=m;have d4:W.cell? ⟨gm,eP+x*5+4,none⟩=some (.bool m4):=hcell' 4 (by omega);have f4:=hfz' (eP+x*5+4);clear hcell' hfz';have k4:W.cell? ⟨g,4,none⟩=some (.slice (some ⟨kb,kK,none⟩) C.clauses.length dM):=hW.cell 4;have k10:W.cell? ⟨g,10,none⟩=some (.slice (some ⟨gm,eP,none⟩) M.length bY):=hW.cell 10;have HW:=ah hW;clear hW;have HK:=ah hk;clear hk;have qB:=ah hmx;clear hmx;have x00:(0:Int)<=(x:Int):=by omega
   have x01:(x:Int)<(C.clauses.length:Int):=by omega
   have x02:(x:Int)<(M.length:Int):=by rw[hml,HL.out];exact x01
   have HF:Hid (gQ C i x M=cond ((i:Int)==pa) (M.set x ⟨m0,m1,m2,m3,true⟩) (cond ((i:Int)==re) (M.set x ⟨m0,m1,m2,m3,false⟩) M)):=by
    show _=_;simp only[gQ,HK.out,qB.out]
   clear x0 x1 x2 x3 hn0 hn1 hn2 hn3 hW2 HB2 hs2 HB1 hs1 hm hrun hml hxl hxc hkm Tz uE rT HAR HGO H HA hU hgl hbl dh hia hki;cases q1:((i:Int)==pa)with
   |true=>
    gi_wp2;refine⟨?_,(aG.refl _ _).setCell (.inl (.inr (.inr (.inr rfl)))) _⟩;rw[HF.out,q1];exact HW.out.gL (j:=4) (m':=⟨m0,m1,m2,m3,true⟩) qB.out (by omega) rfl
   |false=>
    cases q2:((i:Int)==re)with
    |true=>
     gi_wp2;refine⟨?_,(aG.refl _ _).setCell (.inl (.inr (.inr (.inr rfl)))) _⟩;rw[HF.out,q1,q2];exact HW.out.gL (j:=4) (m':=⟨m0,m1,m2,m3,false⟩) qB.out (by omega) rfl
    |false=>
     gi_wp2;refine⟨?_,aG.refl _ _⟩;rw[HF.out,q1,q2];exact HW.out
 case done=>
  as_aux_lemma=>
   intro D1 W3 hD1 hW3 TB hK1;generalize hP:(gP ms ms.length).foldl (λms i'=>gQ C i i' ms) ms=ms1 at hW3;have HP:Hid (C.paused i ms=ms1):=hP;clear hP;have hpl:ms1.length=ms.length:=by rw[<-HP.out];exact AU _ _ _
   have y0:=(TB.cell (o:=0) (by omega) hn0).trans x0;have y1:=(TB.cell (o:=0) (by omega) hn1).trans x1;have y2:=(TB.cell (o:=0) (by omega) hn2).trans x2;have hs3:=TB.size;have ac9:=aB hK1;have Rb:¬gX g gh gu gm D1:=H.out.gZ (by omega);clear x0 x1 x2 x3 hn3 hW2 TB HB2;have CX:=ah hpl;clear hpl;gi_wp2;obtain⟨W4,Oo⟩:∃W4,Hid (W4=W3.alloc (.cells #[.nilFunc,.func (.func 111) #[] #[],.func (.func 112) #[] #[],.func (.func 107) #[] #[],.func (.func 107) #[] #[]] 186)):=⟨_,rfl⟩;rw[<-Oo.out];have Ci:Hid (Below W3.heap.size W3 W4):=by
    show Below _ _ _;rw[Oo.out];exact aJ (aC _ _) _
   have hs4:W4.heap.size=W3.heap.size+1:=by rw[Oo.out];simp
   have Qh:W4.heap[W3.heap.size]?=some (.cells #[.nilFunc,.func (.func 111) #[] #[],.func (.func 112) #[] #[],.func (.func 107) #[] #[],.func (.func 107) #[] #[]] 186 (0,0)):=by
    rw[Oo.out];exact bK W3 _
   have kL:Hid (∀z:Bl W4,aH w0 z.val g ⟨⟨dV,dW⟩,⟨dX,dY⟩,⟨some ⟨b,mO,none⟩,dH⟩,⟨eZ,dM⟩,⟨dQ,dR⟩⟩ C ⟨⟨eu,dN⟩,⟨some ⟨gu,n_,none⟩,dL⟩,⟨some ⟨gm,eP,none⟩,bY⟩⟩ ⟨day,aj,used,ms1⟩ gh gu gm):=λz=>hW3.on (av Ci.out z.prop);have b0:∀z:Bl W4,z.val.cell? ⟨w.heap.size,0,none⟩=some (.pointer (some ⟨g,0,none⟩)):=λz=>z.cell (((aL Ci.out).1 _ _ (by omega)).trans y0);have b1:∀z:Bl W4,z.val.cell? ⟨w.heap.size+1,0,none⟩=some (.int .i64 i):=λz=>z.cell (((aL Ci.out).1 _ _ (by omega)).trans y1);have B2:Hid (∀z:Bl W4,z.val.cell? ⟨w.heap.size+2,0,none⟩=some (.int .i64 ki)):=λz=>z.cell (((aL Ci.out).1 _ _ (by omega)).trans y2);have HD1:Hid (∀z:Bl W4,z.val.heap[D1]?=some (.deferred (some []))):=λz=>(z.prop.block D1 (by omega)).trans ((Ci.out.block D1 (by omega)).trans hK1);have g0:∀z:Bl W4,z.val.cell? ⟨g,0,none⟩=some (.int .i64 C.aF):=λz=>(kL.out z).cell 0;have g1:∀z:Bl W4,z.val.cell? ⟨g,1,none⟩=some (.slice dV C.aj.length dW):=λz=>(kL.out z).cell 1;have g2:∀z:Bl W4,z.val.cell? ⟨g,2,none⟩=some (.slice dX C.units.length dY):=λz=>(kL.out z).cell 2;have g3:∀z:Bl W4,z.val.cell? ⟨g,3,none⟩=some (.slice (some ⟨b,mO,none⟩) C.acts.length dH):=λz=>(kL.out z).cell 3;have g4:∀z:Bl W4,z.val.cell? ⟨g,4,none⟩=some (.slice eZ C.clauses.length dM):=λz=>(kL.out z).cell 4;have g5:∀z:Bl W4,z.val.cell? ⟨g,5,none⟩=some (.int .i64 C.days):=λz=>(kL.out z).cell 5;have g6:∀z:Bl W4,z.val.cell? ⟨g,6,none⟩=some (.slice dQ C.off.length dR):=λz=>(kL.out z).cell 6;have g7:∀z:Bl W4,z.val.cell? ⟨g,7,none⟩=some (.int .i64 day):=λz=>(kL.out z).cell 7;have g8:∀z:Bl W4,z.val.cell? ⟨g,8,none⟩=some (.slice eu aj.length dN):=λz=>(kL.out z).cell 8;have g9:∀z:Bl W4,z.val.cell? ⟨g,9,none⟩=some (.slice (some ⟨gu,n_,none⟩) used.length dL):=λz=>(kL.out z).cell 9;have g10:∀z:Bl W4,z.val.cell? ⟨g,10,none⟩=some (.slice (some ⟨gm,eP,none⟩) ms1.length bY):=λz=>(kL.out z).cell 10;have HDO:Hid (∀z:Bl W4,Calls prog 113 #[.agg #[.int .i64 C.aF,.slice dV C.aj.length dW,.slice dX C.units.length dY,.slice (some ⟨b,mO,none⟩) C.acts.length dH,.slice eZ C.clauses.length dM,.int .i64 C.days,.slice dQ C.off.length dR],.agg #[.int .i64 day,.slice eu aj.length dN,.slice (some ⟨gu,n_,none⟩) used.length dL,.slice (some ⟨gm,eP,none⟩) ms1.length bY],.int .i64 i] z.val (dZ (.int .i64 (qg aj ⟨ki,ro,gi,tg,un,⟨ln,ld⟩⟩)) z.val)):=λz=>
    NJ ⟨⟨dV,dW⟩,⟨dX,dY⟩,⟨some ⟨b,mO,none⟩,dH⟩,⟨eZ,dM⟩,⟨dQ,dR⟩⟩ C ⟨⟨eu,dN⟩,⟨some ⟨gu,n_,none⟩,dL⟩,⟨some ⟨gm,eP,none⟩,bY⟩⟩ ⟨day,aj,used,ms1⟩ i ⟨ki,ro,gi,tg,un,⟨ln,ld⟩⟩ z.val ((kL.out z).con.below (kL.out z).below) (kL.out z).state HA.out HAR.out
   generalize hby:qg aj ⟨ki,ro,gi,tg,un,⟨ln,ld⟩⟩=who at HDO;have HBY:=ah hby;clear hby;clear y0 y1 y2 hW3 hK1;refine nK (s:=(⟨W4,aC _ _⟩:Bl W4)) 11 10 _ (.cells #[.int .i64 0] 3) (jV.wide _) (by simp) (by kernel_rfl) (by kernel_rfl) rfl (by kernel_rfl) (λa w=>by go_simp) ?_;simp only[gF,bW,gI,b_,List.eraseIdx_cons_succ,List.eraseIdx_cons_zero];repeat(refine t_ (λK hK=>?_);go_simp;first|(refine hK _ ?_;clear hK K)|(apply Exists.intro;refine⟨λz=>?_,hK _ ?_⟩;(go_at_call 113;exact HDO.out z);clear hK K))
   refine vO ?_;intro bx z hbx hzx;have hbc:z.val.cell? ⟨bx,0,none⟩=some (.int .i64 0):=(aK z.val _ 0 _ _ _ hzx).trans rfl;have hbf:z.val.frozen? ⟨bx,0,none⟩=false:=by simp[World.frozen?,hzx]
   have hbn:¬gX g gh gu gm bx:=H.out.gZ (by omega);have hWz:=kL.out z;have hszz:=z.prop.size;have hbz:=aB hzx;have hb1:∀o,z.val.cell? ⟨W3.heap.size,o,none⟩=W4.cell? ⟨W3.heap.size,o,none⟩:=λo=>z.prop.cell (p:=⟨W3.heap.size,o,none⟩) (by show W3.heap.size<W4.heap.size;omega);have e1:z.val.cell? ⟨W3.heap.size,1,none⟩=some (.func (.func 111) #[] #[]):=(hb1 1).trans ((aK W4 _ 1 _ _ _ Qh).trans rfl);have e2:z.val.cell? ⟨W3.heap.size,2,none⟩=some (.func (.func 112) #[] #[]):=(hb1 2).trans ((aK W4 _ 2 _ _ _ Qh).trans rfl);have e3:z.val.cell? ⟨W3.heap.size,3,none⟩=some (.func (.func 107) #[] #[]):=(hb1 3).trans ((aK W4 _ 3 _ _ _ Qh).trans rfl);have e4:z.val.cell? ⟨W3.heap.size,4,none⟩=some (.func (.func 107) #[] #[]):=(hb1 4).trans ((aK W4 _ 4 _ _ _ Qh).trans rfl);have b0z:=b0 z;have b1z:=b1 z;have b2z:=B2.out z;have Yb:=HD1.out z;have hne0:w.heap.size≠bx:=by omega
   have hne1:w.heap.size+1≠bx:=by omega
   have hne2:w.heap.size+2≠bx:=by omega
   have BZ:W3.heap.size≠bx:=by omega
   have LM:D1≠bx:=by omega
   clear hb1 hzx b0 b1 B2 HD1 HDO Qh g0 g1 g2 g3 g4 g5 g6 g7 g8 g9 g10;gi_wp2_with (refine⟨trivial,?_⟩;gi_at_call 110;refine(fq.2 (jP _ _)).mono ?_;rintro e z2 ⟨rfl,rfl⟩);obtain⟨W5,og⟩:∃W5,Hid (W5=(z.val.setCell ⟨bx,0,none⟩ (.int .i64 who)).alloc (.cells #[.pointer (some ⟨g,0,none⟩)] 126)):=⟨_,rfl⟩;rw[<-og.out];have Js:aH w0 W5 g ⟨⟨dV,dW⟩,⟨dX,dY⟩,⟨some ⟨b,mO,none⟩,dH⟩,⟨eZ,dM⟩,⟨dQ,dR⟩⟩ C ⟨⟨eu,dN⟩,⟨some ⟨gu,n_,none⟩,dL⟩,⟨some ⟨gm,eP,none⟩,bY⟩⟩ ⟨day,aj,used,ms1⟩ gh gu gm:=by
    rw[og.out];refine(hWz.X7 (S:=λk=>k=bx) ((aG.refl (λk=>k=bx) z.val).setCell (p:=⟨bx,0,none⟩) (.inl rfl) _) ?_).on (aJ (aC _ _) _);rintro k rfl;exact⟨hbn,by have h1:=H.out.below.size;omega⟩
   have hs5:W5.heap.size=z.val.heap.size+1:=by rw[og.out];simp[World.setCell]
   have L8:aG (λk=>k=bx) z.val W5:=by
    rw[og.out];exact((aG.refl (λk=>k=bx) z.val).setCell (p:=⟨bx,0,none⟩) (.inl rfl) _).alloc _
   have x0:=(L8.cell (o:=0) (by omega) hne0).trans b0z;have x1:=(L8.cell (o:=0) (by omega) hne1).trans b1z;have x2:=(L8.cell (o:=0) (by omega) hne2).trans b2z;have q1:=(L8.cell (o:=1) (by omega) BZ).trans e1;have q2:=(L8.cell (o:=2) (by omega) BZ).trans e2;have q3:=(L8.cell (o:=3) (by omega) BZ).trans e3;have q4:=(L8.cell (o:=4) (by omega) BZ).trans e4;have hd1:=L8.keep Yb LM;have x5:W5.cell? ⟨bx,0,none⟩=some (.int .i64 who):=by
    have hb:Below z.val.heap.size (z.val.setCell ⟨bx,0,none⟩ (.int .i64 who)) W5:=by rw[og.out];exact Below.mono (aJ (aC _ _) _) (by simp[World.setCell])
    rw[hb.cell (p:=⟨bx,0,none⟩) hbz];exact World.cell?_setCell_same' _ _ _ (by rw[hbc];rfl)
   have x6:W5.cell? ⟨z.val.heap.size,0,none⟩=some (.pointer (some ⟨g,0,none⟩)):=by
    have h:=bK (z.val.setCell ⟨bx,0,none⟩ (.int .i64 who)) (.cells #[.pointer (some ⟨g,0,none⟩)] 126);rw[show(z.val.setCell ⟨bx,0,none⟩ (.int .i64 who)).heap.size=z.val.heap.size by simp[World.setCell],<-og.out]at h;exact(aK W5 _ 0 _ _ _ h).trans rfl
   have hn5:=H.out.gZ (k:=z.val.heap.size) (by omega);have Tt:=H.out.gZ (k:=W3.heap.size) (by omega);clear b0z b1z b2z Yb e1 e2 e3 e4 hbc hbf L8 og hWz kL Oo Ci;refine uR (ms0:=ms1) (Bw:=z.val.heap.size) (j4 C i who) (λi' ms j h=>uj C i who i' ms j h) (λi' ms=>Ev C i who i' ms) (by omega) rfl rfl Js x6 (by omega) hn5 ?a2 ?assign2 ?Yc ?Yd
   case assign2=>
    intro l x W K hK;gi_wp2;exact hK
   case Yc=>
    as_aux_lemma=>
     intro l x m M W hm hrun hml hmx hW hU;have hgo:0<=m.got/\m.got<=1000000:=by
      obtain⟨m',h1,h2,h3⟩:=Hf (C:=C) (act:=i) (ms:=ms) (j:=x) (m:=m) (by rw[HP.out];exact hm);rw[h2];exact HGO.out m' (cK h1) (by rw[<-h3];exact hrun)
     have hpl:=CX.out;have y0:=(hU.cell (o:=0) (by omega) hn0).trans x0;have y1:=(hU.cell (o:=0) (by omega) hn1).trans x1;have r1:=(hU.cell (o:=1) (by omega) Tt).trans q1;have r2:=(hU.cell (o:=2) (by omega) Tt).trans q2;have r3:=(hU.cell (o:=3) (by omega) Tt).trans q3;have r4:=(hU.cell (o:=4) (by omega) Tt).trans q4;have y5:=(hU.cell (o:=0) (by omega) hbn).trans x5;have hsW:=hU.size;have hxl:x<ms.length:=by rw[<-hpl];exact(bB.1 hm).1
     have hxc:x<C.clauses.length:=by rw[<-HL.out];exact hxl
     obtain⟨k,hk⟩:∃k,C.clauses[x]?=some k:=⟨C.clauses[x],aS hxc⟩;have hkm:=cK hk;have hki:=Tz.out k hkm;obtain⟨kb,kK,st,hK,hkb,hkc,_⟩:=hW.con.clause hk;simp only at hK;subst hK;have mJ:=hkc _ hW.below;have aaB:kb≠gm:=λe=>by have h1:=hW.uL;omega
     obtain⟨k0,AO,ac,ne,start,af,gr,bu,fi,pa,re,⟨vn,vd⟩,Dt,Du,wa⟩:=k;obtain⟨stA,wQ⟩:=st;simp only at hki;obtain⟨c0,c1,c2,c3,c4,c5,c6,c7,c8,c9,c10,c11,c12,c13,c14,c15⟩:=EP mJ rfl;clear mJ hkc;obtain⟨Gq,rV,Gr,hcell',hfz'⟩:=hW.oD hmx;simp only[Option.some.injEq,Addr.mk.injEq,true_and,and_true]at rV;subst rV;obtain⟨m0,m1,m2,m3,m4⟩:=m;simp only at hgo;have d3:W.cell? ⟨gm,eP+x*5+3,none⟩=some (.int .i64 m3):=hcell' 3 (by omega);clear hcell' hfz';have k4:W.cell? ⟨g,4,none⟩=some (.slice (some ⟨kb,kK,none⟩) C.clauses.length dM):=hW.cell 4;have k10:W.cell? ⟨g,10,none⟩=some (.slice (some ⟨gm,eP,none⟩) M.length bY):=hW.cell 10;have hgW:=aB hW.head;obtain⟨hg1,hg2⟩:=hgo;obtain⟨hq1,hq2⟩:=hki;have HW:=ah hW;clear hW;have HK:=ah hk;clear hk;have qB:=ah hmx;clear hmx;have x00:(0:Int)<=(x:Int):=by omega
     have x01:(x:Int)<(C.clauses.length:Int):=by omega
     have x02:(x:Int)<(M.length:Int):=by rw[hml,hpl,HL.out];exact x01
     have HF:Hid (j4 C i who x M=cond ((ac==(i:Int))&&((k0==4)||(m3==who))) (M.set x (aD.hit ⟨m0,m1,m2,m3,m4⟩ ⟨k0,AO,ac,ne,start,af,gr,bu,fi,pa,re,⟨vn,vd⟩,Dt,Du,wa⟩)) M):=by
      show _=_;simp only[j4,HK.out,qB.out]
     have l0:w.heap.size<W.heap.size:=by omega
     have l1:w.heap.size+1<W.heap.size:=by omega
     have l2:W3.heap.size<W.heap.size:=by omega
     have l3:bx<W.heap.size:=by omega
     have hpm:gm<W.heap.size:=Gr;clear hd1 x0 x1 x2 q1 q2 q3 q4 x5 x6 hn0 hn1 hn2 Tt hn5 Js hs5 hs4 hs3 hs2 hs1 HB1 hm hrun hml hxl hxc hkm Tz uE rT HAR HGO H HA hU hgl hbl dh hia hbn hbx hszz hbz hne0 hne1 hne2 BZ LM HP CX hpl ac9 Rb hD1;gi_wp2_with fail;obtain⟨Wc,wU⟩:∃Wc,Hid (Wc=W.alloc (.cells #[.int .i64 k0,.int .i64 AO,.int .i64 ac,.int .i64 ne,.slice stA start.length wQ,.int .i64 af,.int .i64 gr,.bool bu,.bool fi,.int .i64 pa,.int .i64 re,.int .i64 vn,.int .i64 vd,.int .i64 Dt,.int .i64 Du,.bool wa] 112)):=⟨_,rfl⟩;rw[<-wU.out];have HBc:Hid (Below W.heap.size W Wc):=by
      show Below _ _ _;rw[wU.out];exact aJ (aC _ _) _
     have vR:Hid (aG (gX g gh gu gm) W Wc):=(aG.refl _ _).on HBc.out;have Dy:Hid (∀z:Bl Wc,aH w0 z.val g ⟨⟨dV,dW⟩,⟨dX,dY⟩,⟨some ⟨b,mO,none⟩,dH⟩,⟨some ⟨kb,kK,none⟩,dM⟩,⟨dQ,dR⟩⟩ C ⟨⟨eu,dN⟩,⟨some ⟨gu,n_,none⟩,dL⟩,⟨some ⟨gm,eP,none⟩,bY⟩⟩ ⟨day,aj,used,M⟩ gh gu gm):=λz=>HW.out.on (av HBc.out z.prop);have hkc:∀(p o:Nat)(u:Value),p<W.heap.size->W.cell? ⟨p,o,none⟩=some u->∀z:Bl Wc,z.val.cell? ⟨p,o,none⟩=some u:=λp o u h2 h3 z=>((aL (av HBc.out z.prop)).1 _ _ h2).trans h3;have hcn:∀(o:Nat)(u:Value),(Array.mk [.int .i64 k0,.int .i64 AO,.int .i64 ac,.int .i64 ne,.slice stA start.length wQ,.int .i64 af,.int .i64 gr,.bool bu,.bool fi,.int .i64 pa,.int .i64 re,.int .i64 vn,.int .i64 vd,.int .i64 Dt,.int .i64 Du,.bool wa])[o]?=some u->∀z:Bl Wc,z.val.cell? ⟨W.heap.size,o,none⟩=some u:=λo u hu z=>by
      have h:=bK W (.cells #[.int .i64 k0,.int .i64 AO,.int .i64 ac,.int .i64 ne,.slice stA start.length wQ,.int .i64 af,.int .i64 gr,.bool bu,.bool fi,.int .i64 pa,.int .i64 re,.int .i64 vn,.int .i64 vd,.int .i64 Dt,.int .i64 Du,.bool wa] 112);rw[<-wU.out]at h;exact z.cell ((aK Wc _ o _ _ _ h).trans hu)
     have v0:=hkc _ _ _ l0 y0;have v1:=hkc _ _ _ l1 y1;have w1:=hkc _ _ _ l2 r1;have w2:=hkc _ _ _ l2 r2;have w3:=hkc _ _ _ l2 r3;have w4:=hkc _ _ _ l2 r4;have v5:=hkc _ _ _ l3 y5;have v6:=hkc _ _ _ hgW k10;have v7:=hkc _ _ _ hpm d3;have v8:∀z:Bl Wc,z.val.cell? ⟨W.heap.size,0,none⟩=some (.int .i64 k0):=hcn 0 _ rfl;have v9:∀z:Bl Wc,z.val.cell? ⟨W.heap.size,2,none⟩=some (.int .i64 ac):=hcn 2 _ rfl;clear y0 y1 r1 r2 r3 r4 y5 k10 d3 c0 c1 c2 c3 c4 c5 c6 c7 c8 c9 c10 c11 c12 c13 c14 c15 k4 hkc hcn l0 l1 l2 l3 hpm wU HBc hsW;have hkk:k0=1\/k0=2\/k0=3\/k0=4:=by omega
     clear hq1 hq2;cases qa:(ac==(i:Int))with
     |false=>
      as_aux_lemma=>
       clear hkk;refine aN (s:=(⟨Wc,aC _ _⟩:Bl Wc)) 21 (jV.round _ _) ?_;simp only[gF,bW,gI,b_];repeat(go_big_quiet_step (fail))
       refine aY ?_;rintro _ ⟨z1,rfl⟩;gi_wp2_with fail;refine⟨?_,vR.out.on z1.prop⟩;rw[HF.out,qa,Bool.false_and,cond_false];exact Dy.out z1
     |true=>
      rcases hkk with rfl|hkk
      .cases qb:(m3==who)with
       |true=>
        as_aux_lemma=>
         refine aN (s:=(⟨Wc,aC _ _⟩:Bl Wc)) 21 (jV.round _ _) ?_;simp only[gF,bW,gI,b_];repeat(go_big_quiet_step (fail))
         refine aY ?_;rintro _ ⟨z1,rfl⟩;gi_wp2_with fail;have HC:Hid (∀z:Bl Wc,Calls prog 111 #[.pointer (some ⟨g,0,none⟩),.int .i64 x] z.val _):=λz=>Ef (Dy.out z) x _ qB.out _ HK.out hg1 hg2;refine aN (s:=z1) 6 (jV.round _ _) ?_;simp only[gF,bW,gI,b_];repeat(go_big_quiet_step (fail))
         refine aY ?_;rintro _ ⟨z3,rfl⟩;gi_wp2_with (refine⟨trivial,?_⟩;gi_at_call 111;refine(CallsIn.inRound l (fq.2 (HC.out z3))).mono ?_;rintro e zc ⟨rfl,hz1,hz2⟩);refine⟨?_,(vR.out.on z3.prop).trans hz2 (λ_ _ h=>h)⟩;rw[HF.out,qa,qb,Bool.or_true,Bool.and_true,cond_true];exact hz1
       |false=>
        as_aux_lemma=>
         refine aN (s:=(⟨Wc,aC _ _⟩:Bl Wc)) 21 (jV.round _ _) ?_;simp only[gF,bW,gI,b_];repeat(go_big_quiet_step (fail))
         refine aY ?_;rintro _ ⟨z1,rfl⟩;gi_wp2_with fail;refine⟨?_,vR.out.on z1.prop⟩;rw[HF.out,qa,qb,show((1:Int)==4)=false from rfl,Bool.or_false,Bool.and_false,cond_false];exact Dy.out z1
      rcases hkk with rfl|hkk
      .cases qb:(m3==who)with
       |true=>
        as_aux_lemma=>
         refine aN (s:=(⟨Wc,aC _ _⟩:Bl Wc)) 21 (jV.round _ _) ?_;simp only[gF,bW,gI,b_];repeat(go_big_quiet_step (fail))
         refine aY ?_;rintro _ ⟨z1,rfl⟩;gi_wp2_with fail;have HC:Hid (∀z:Bl Wc,Calls prog 112 #[.pointer (some ⟨g,0,none⟩),.int .i64 x] z.val _):=λz=>Ee (Dy.out z) x _ qB.out;refine aN (s:=z1) 6 (jV.round _ _) ?_;simp only[gF,bW,gI,b_];repeat(go_big_quiet_step (fail))
         refine aY ?_;rintro _ ⟨z3,rfl⟩;gi_wp2_with (refine⟨trivial,?_⟩;gi_at_call 112;refine(CallsIn.inRound l (fq.2 (HC.out z3))).mono ?_;rintro e zc ⟨rfl,hz1,hz2⟩);refine⟨?_,(vR.out.on z3.prop).trans hz2 (λ_ _ h=>h)⟩;rw[HF.out,qa,qb,Bool.or_true,Bool.and_true,cond_true];exact hz1
       |false=>
        as_aux_lemma=>
         refine aN (s:=(⟨Wc,aC _ _⟩:Bl Wc)) 21 (jV.round _ _) ?_;simp only[gF,bW,gI,b_];repeat(go_big_quiet_step (fail))
         refine aY ?_;rintro _ ⟨z1,rfl⟩;gi_wp2_with fail;refine⟨?_,vR.out.on z1.prop⟩;rw[HF.out,qa,qb,show((2:Int)==4)=false from rfl,Bool.or_false,Bool.and_false,cond_false];exact Dy.out z1
      rcases hkk with rfl|hkk
      .cases qb:(m3==who)with
       |true=>
        as_aux_lemma=>
         refine aN (s:=(⟨Wc,aC _ _⟩:Bl Wc)) 21 (jV.round _ _) ?_;simp only[gF,bW,gI,b_];repeat(go_big_quiet_step (fail))
         refine aY ?_;rintro _ ⟨z1,rfl⟩;gi_wp2_with fail;have HC:Hid (∀z:Bl Wc,Calls prog 107 #[.pointer (some ⟨g,0,none⟩),.int .i64 x] z.val _):=λz=>uM (Dy.out z) x _ qB.out;refine aN (s:=z1) 6 (jV.round _ _) ?_;simp only[gF,bW,gI,b_];repeat(go_big_quiet_step (fail))
         refine aY ?_;rintro _ ⟨z3,rfl⟩;gi_wp2_with (refine⟨trivial,?_⟩;gi_at_call 107;refine(CallsIn.inRound l (fq.2 (HC.out z3))).mono ?_;rintro e zc ⟨rfl,hz1,hz2⟩);refine⟨?_,(vR.out.on z3.prop).trans hz2 (λ_ _ h=>h)⟩;rw[HF.out,qa,qb,Bool.or_true,Bool.and_true,cond_true];exact hz1
       |false=>
        as_aux_lemma=>
         refine aN (s:=(⟨Wc,aC _ _⟩:Bl Wc)) 21 (jV.round _ _) ?_;simp only[gF,bW,gI,b_];repeat(go_big_quiet_step (fail))
         refine aY ?_;rintro _ ⟨z1,rfl⟩;gi_wp2_with fail;refine⟨?_,vR.out.on z1.prop⟩;rw[HF.out,qa,qb,show((3:Int)==4)=false from rfl,Bool.or_false,Bool.and_false,cond_false];exact Dy.out z1
      .subst hkk
       as_aux_lemma=>
        refine aN (s:=(⟨Wc,aC _ _⟩:Bl Wc)) 21 (jV.round _ _) ?_;simp only[gF,bW,gI,b_];repeat(go_big_quiet_step (fail))
        refine aY ?_;rintro _ ⟨z1,rfl⟩;gi_wp2_with fail;have HC:Hid (∀z:Bl Wc,Calls prog 107 #[.pointer (some ⟨g,0,none⟩),.int .i64 x] z.val _):=λz=>uM (Dy.out z) x _ qB.out;refine aN (s:=z1) 6 (jV.round _ _) ?_;simp only[gF,bW,gI,b_];repeat(go_big_quiet_step (fail))
        refine aY ?_;rintro _ ⟨z3,rfl⟩;gi_wp2_with (refine⟨trivial,?_⟩;gi_at_call 107;refine(CallsIn.inRound l (fq.2 (HC.out z3))).mono ?_;rintro e zc ⟨rfl,hz1,hz2⟩);refine⟨?_,(vR.out.on z3.prop).trans hz2 (λ_ _ h=>h)⟩;rw[HF.out,qa,show((4:Int)==4)=true from rfl,Bool.true_or,Bool.and_true,cond_true];exact hz1
   case Yd=>
    as_aux_lemma=>
     intro D2 W6 hD2 ZJ Dz hK2;generalize hQ:(gP ms1 ms1.length).foldl (λms i'=>j4 C i who i' ms) ms1=ms2 at ZJ;have HQ:Hid (C.Ew i who ms1=ms2):=hQ;clear hQ;have HQL:Hid (ms2.length=C.clauses.length):=by
      show _=_;rw[<-HQ.out,Dv,CX.out,HL.out]
     have y0:=(Dz.cell (o:=0) (by omega) hn0).trans x0;have y1:=(Dz.cell (o:=0) (by omega) hn1).trans x1;have y2:=(Dz.cell (o:=0) (by omega) hn2).trans x2;have hd2:=Dz.keep hd1 Rb;have ac_:¬gX g gh gu gm D2:=H.out.gZ (by omega);have hs6:=Dz.size;have ajW:D1<D2:=by omega
     have vS:=ah Dz;clear Dz;have zC:=ah ZJ;clear ZJ;have hwW:w.heap.size<=W6.heap.size:=by omega
     have hw0:w0.heap.size<=w.heap.size:=H.out.below.size;have HSH:=ah (UY zC.out i ⟨ki,ro,gi,tg,un,⟨ln,ld⟩⟩ HA.out hiu Yf.out.1 Yf.out.2 HQL.out);have hk1:=HK1.out;have l0:w.heap.size<W6.heap.size:=by omega
     clear x0 x1 x2 q1 q2 q3 q4 x5 x6 Js;gi_wp2_with (refine⟨trivial,?_⟩;gi_at_call 114;refine(fq.2 HSH.out).mono ?_;rintro e zs ⟨rfl,hs1,hs2⟩;refine Hid.out ?_);refine ah ?_;have y0':=(hs2.cell (o:=0) l0 hn0).trans y0;have EZ:Hid (aG (gX g gh gu gm) W6 zs):=hs2;have HST:=ah (zu hs1 (by
      show List.length _=_;simp only[au.shift];cases (ki !=3:Bool)
      .simp only[cond_false]
       rw[rF _ (λi' ms=>oV C gi tg i' ms)];exact HQL.out
      .exact HQL.out) uE.out (by
      show∀k∈C.clauses,k.kind≠4->0<=k.role/\k.role<List.length _;simp only[au.shift,List.length_set];exact rT.out))
     clear hs2 hs1 y0 y1 y2;gi_wp2_with (refine⟨trivial,?_⟩;gi_at_call 67;refine(fq.2 HST.out).mono ?_;rintro e zc ⟨rfl,hz1,hz2⟩);have hU8:aG (gX g gh gu gm) W6 zc:=EZ.out.trans hz2 (λ_ _ h=>h);have hKa:=hU8.keep hK2 ac_;have hKb:=hU8.keep hd2 Rb;have Rc:=grownBy_putObj' zc D2 (.deferred none);have hKc:=(Rc.block D1 (aB hKb) (by simp;omega)).trans hKb;have Ye:=grownBy_putObj' (zc.putObj D2 (.deferred none)) D1 (.deferred none);refine⟨by simp,.inl ⟨_,_,rfl,run_takeDeferred hKa,?_⟩⟩;refine⟨by simp,.inl ⟨_,_,rfl,run_takeDeferred hKc,?_⟩⟩;have hr1:∀r,some D2=some r->w0.heap.size<=r/\∃o,zc.heap[r]?=some o/\o.isCells=false:=λr e=>by
      injection e with e
      subst e;exact⟨by omega,_,hKa,rfl⟩
     have hr2:∀r,some D1=some r->w0.heap.size<=r/\∃o,(zc.putObj D2 (.deferred none)).heap[r]?=some o/\o.isCells=false:=λr e=>by
      injection e with e
      subst e;exact⟨by omega,_,hKc,rfl⟩
     have h8:=aH.mG (β:=Unit) (λ_=>(let s3:=C.shift i ⟨ki,ro,gi,tg,un,⟨ln,ld⟩⟩ ⟨day,aj,used,ms2⟩;(⟨s3.day,s3.aj,s3.used,C.begin s3.aj s3.marks⟩:ak))) _ (bJ _) () zc _ _ hz1 Rc hr1;have h9:=aH.mG (β:=Unit) (λ_=>(let s3:=C.shift i ⟨ki,ro,gi,tg,un,⟨ln,ld⟩⟩ ⟨day,aj,used,ms2⟩;(⟨s3.day,s3.aj,s3.used,C.begin s3.aj s3.marks⟩:ak))) _ (bJ _) () _ _ _ h8 Ye hr2;refine⟨_,results_none rfl _ _ _,rfl,?_,bI (bI (bI hwW hU8.size) Rc.size) Ye.size⟩;simp only[au.act,HK1.out,Bool.true_and,show used.getD i false=false by rw[F3,HUS.out];rfl,cond_false,cond_true,HP.out,HBY.out,HQ.out];exact h9
end Go.Proofs.YtpmdedcnbockhaaGreatDoor
