/-
  Act1; Act2
-/
import Derived.Test.YtpmdedcnbockhaaGreatDoorP15
set_option maxRecDepth 100000
set_option maxHeartbeats 8000000
namespace Go.Proofs.YtpmdedcnbockhaaGreatDoor
section
open Go.RowKit Go.Shelf
attribute [local go_sem] Oper.semAt_some zO ko
theorem abP{w0 w:World}{g:Nat}{v:CV}{C:au}{t:TV}{s:ak}{gh gu gm:Nat}(h:aJ w0 w g v C t s gh gu gm)(i:Nat)(a:iO)(ha:C.acts[i]?=some a)(hk1:a.kind=1)(hlen:s.marks.length=C.clauses.length)
 (hin:∀k∈C.clauses,∀c∈k.start,0<=c.clause/\c.clause<C.clauses.length)(hro:∀k∈C.clauses,k.kind≠4->0<=k.role/\k.role<s.aj.length)
 (hki:∀k∈C.clauses,1<=k.kind/\k.kind<=4)(har:a.role≠ -1->0<=a.role/\a.role<s.aj.length)(hgo:∀m∈s.marks,m.runs=true->0<=m.got/\m.got<=1000000):
 Calls Tryz.prog 70 #[.pointer (some ⟨g,0,none⟩),.int .i64 i] w (wP w0 g v C t (C.act i a s) gh gu gm w):=by
 have hia:i<C.acts.length:=(aZ.1 ha).1;obtain⟨b,mF,hA,hbl,hac⟩:=h.con.act ha;obtain⟨⟨dF,dG⟩,⟨dH,dK⟩,⟨dV,dn⟩,⟨dQ,dh⟩,⟨dz,dB⟩⟩:=v;simp only at hA;subst hA;obtain⟨eu,IE,_⟩:=h.marks.O8;obtain⟨⟨fQ,eZ⟩,⟨gH,eX⟩,⟨h_,dW⟩⟩:=t;simp only at IE;subst IE;obtain⟨day,aj,used,ms⟩:=s;simp only at hlen hro har hgo;obtain⟨ki,ro,gi,tg,un,⟨ln,ld⟩⟩:=a;simp only at hk1 har;subst hk1;have g3:w.cell? ⟨g,3,none⟩=some (.slice (some ⟨b,mF,none⟩) C.acts.length dn):=h.cell 3;have Gj:=hac w h.below;obtain⟨a0,a1,a2,a3,a4,a5,a6⟩:=rw7 Gj rfl;clear hac Gj;have hgl:=av h.head;have dw:b<w.heap.size:=jX hbl h.below.size;have i0:(0:Int)<=(i:Int):=by omega
 have i1:(i:Int)<(C.acts.length:Int):=by omega
 have H:=ah h;clear h;have HA:=ah ha;clear ha;have HL:=ah hlen;clear hlen;have qB:=ah hin;clear hin;have qW:=ah hro;clear hro;have Sc:=ah hki;clear hki;have HAR:=ah har;clear har;have HGO:=ah hgo;clear hgo;refine(bQ (n:=3)).1 ?_;refine callsIn_of_wp_marks Tryz.func70 rfl trivial ?_ rfl;simp only[Tryz.ntmps70,qU,iy,jJ,Nat.reduceAdd,Nat.reduceSub,rX,rY,r_,rZ,mI,r9];gi_wp2;obtain⟨W0,HW0⟩:∃W0,Hid (W0=(w.alloc (.cells #[.pointer (some ⟨g,0,none⟩)] 126)).alloc (.cells #[.int .i64 i] 3)):=⟨_,rfl⟩;rw[<-HW0.out];have HB0:Hid (Below w.heap.size w W0):=by
  show Below _ _ _;rw[HW0.out];exact aK (aK (aD _ _) _) _
 have hs0:W0.heap.size=w.heap.size+2:=by rw[HW0.out];simp
 have o0:W0.cell? ⟨w.heap.size,0,none⟩=some (.pointer (some ⟨g,0,none⟩)):=by
  have h:W0.heap[w.heap.size]?=some (.cells #[.pointer (some ⟨g,0,none⟩)] 126 (0,0)):=by
   rw[HW0.out];exact(Below.heap_alloc _ _ _ (by simp)).trans (bC w _)
  exact(aG W0 _ 0 _ _ _ h).trans rfl
 have o1:W0.cell? ⟨w.heap.size+1,0,none⟩=some (.int .i64 i):=by
  have h:W0.heap[w.heap.size+1]?=some (.cells #[.int .i64 i] 3 (0,0)):=by
   rw[HW0.out];have h:=bC (w.alloc (.cells #[.pointer (some ⟨g,0,none⟩)] 126)) (.cells #[.int .i64 i] 3);rw[aM]at h;exact h
  exact(aG W0 _ 0 _ _ _ h).trans rfl
 have g3':=((aY HB0.out).1 _ _ hgl).trans g3;have a0':=((aY HB0.out).1 _ _ dw).trans a0;have a1':=((aY HB0.out).1 _ _ dw).trans a1;have a2':=((aY HB0.out).1 _ _ dw).trans a2;have a3':=((aY HB0.out).1 _ _ dw).trans a3;have a4':=((aY HB0.out).1 _ _ dw).trans a4;have a5':=((aY HB0.out).1 _ _ dw).trans a5;have a6':=((aY HB0.out).1 _ _ dw).trans a6;have Xc:g<W0.heap.size:=by omega
 have Xd:b<W0.heap.size:=by omega
 have Ns:w.heap.size<W0.heap.size:=by omega
 have Nt:w.heap.size+1<W0.heap.size:=by omega
 clear g3 a0 a1 a2 a3 a4 a5 a6;have yR:=ah hs0;clear hs0
 gi_region
 obtain⟨W1,HW1⟩:∃W1,Hid (W1=(W0.alloc (.cells #[.int .i64 1,.int .i64 ro,.int .i64 gi,.int .i64 tg,.int .i64 un,.int .i64 ln,.int .i64 ld] 109)).drew):=⟨_,rfl⟩;rw[<-HW1.out];have HB1:Hid (Below w.heap.size w W1):=by
  show Below _ _ _;rw[HW1.out];exact(aK HB0.out _).drew
 have GI:Below W0.heap.size W0 W1:=by
  rw[HW1.out];exact(aK (aD _ _) _).drew
 have hs0:=yR.out;have hW1:aJ w0 W1 g ⟨⟨dF,dG⟩,⟨dH,dK⟩,⟨some ⟨b,mF,none⟩,dn⟩,⟨dQ,dh⟩,⟨dz,dB⟩⟩ C ⟨⟨fQ,eZ⟩,⟨gH,eX⟩,⟨some ⟨gm,eu,none⟩,dW⟩⟩ ⟨day,aj,used,ms⟩ gh gu gm:=H.out.on HB1.out;have hs1:W1.heap.size=w.heap.size+3:=by rw[HW1.out];simp[hs0]
 have p0:=((aY GI).1 _ _ Ns).trans o0;have p1:=((aY GI).1 _ _ Nt).trans o1;have p2:W1.cell? ⟨w.heap.size+2,0,none⟩=some (.int .i64 1):=by
  have h:W1.heap[w.heap.size+2]?=some (.cells #[.int .i64 1,.int .i64 ro,.int .i64 gi,.int .i64 tg,.int .i64 un,.int .i64 ln,.int .i64 ld] 109 (0,0)):=by
   have h:=bC W0 (.cells #[.int .i64 1,.int .i64 ro,.int .i64 gi,.int .i64 tg,.int .i64 un,.int .i64 ln,.int .i64 ld] 109);rw[hs0]at h;rw[HW1.out];exact h
  exact(aG W1 _ 0 _ _ _ h).trans rfl
 rw[hs0];clear g3' a0' a1' a2' a3' a4' a5' a6' o0 o1 Xc Xd Ns Nt GI HW0 HB0 yR hs0;clear i0 i1;gi_wp2;refine aU 12 (jH.wide _) (by simp) (by kernel_rfl) (by kernel_rfl) ?_;simp only[fK,bV,fT,cO];repeat(go_big_quiet_step (fail))
 refine aS ?_;rintro _ ⟨mq,rfl⟩;gi_wp2_with (refine⟨trivial,?_⟩;gi_at_call 110;refine(bQ.2 (jr _ _)).mono ?_;rintro e z2 ⟨rfl,rfl⟩);obtain⟨W2,HW2⟩:∃W2,Hid (W2=(W1.drewN mq).alloc (.cells #[.pointer (some ⟨g,0,none⟩)] 126)):=⟨_,rfl⟩;rw[show(W1.drewN mq).alloc (.cells #[.pointer (some ⟨g,0,none⟩)] 126)=W2 from HW2.out.symm];have HB2:Hid (Below W1.heap.size W1 W2):=by
  show Below _ _ _;rw[HW2.out];exact(below_drewN _ _).alloc (bH _) _
 have hW2:aJ w0 W2 g ⟨⟨dF,dG⟩,⟨dH,dK⟩,⟨some ⟨b,mF,none⟩,dn⟩,⟨dQ,dh⟩,⟨dz,dB⟩⟩ C ⟨⟨fQ,eZ⟩,⟨gH,eX⟩,⟨some ⟨gm,eu,none⟩,dW⟩⟩ ⟨day,aj,used,ms⟩ gh gu gm:=hW1.on HB2.out;have hs2:W2.heap.size=w.heap.size+4:=by rw[HW2.out];simp[hs1]
 have x0:=((aY HB2.out).1 w.heap.size 0 (by omega)).trans p0;have x1:=((aY HB2.out).1 (w.heap.size+1) 0 (by omega)).trans p1;have x2:=((aY HB2.out).1 (w.heap.size+2) 0 (by omega)).trans p2;have x3:W2.cell? ⟨w.heap.size+3,0,none⟩=some (.pointer (some ⟨g,0,none⟩)):=by
  have h:=bC (W1.drewN mq) (.cells #[.pointer (some ⟨g,0,none⟩)] 126);rw[show(W1.drewN mq).heap.size=w.heap.size+3 from hs1,show(W1.drewN mq).alloc (.cells #[.pointer (some ⟨g,0,none⟩)] 126)=W2 from HW2.out.symm]at h;exact(aG W2 _ 0 _ _ _ h).trans rfl
 have hn0:=H.out.gN (k:=w.heap.size) (bH _);have hn1:=H.out.gN (k:=w.heap.size+1) (by omega);have hn2:=H.out.gN (k:=w.heap.size+2) (by omega);have hn3:=H.out.gN (k:=w.heap.size+3) (by omega);clear p0 p1 p2 HW1 HW2 hW1;rw[show w.heap.size+1+1+1=w.heap.size+3 by omega];refine uF (ms0:=ms) (Bw:=w.heap.size+3) (gy C i) (λi' ms j h=>pR C i i' ms j h) (λi' ms=>zx C i i' ms) (by omega) rfl rfl hW2 x3 (by omega) hn3 ?a1 ?assign ?body ?done
 case assign=>
  intro l x W K hK;gi_wp2;exact hK
 case body=>
  as_aux_lemma=>
   intro l x m M W hm hrun hml hmx hW hU;have y0:=(hU.cell (o:=0) (by omega) hn0).trans x0;have y1:=(hU.cell (o:=0) (by omega) hn1).trans x1;have hxl:x<ms.length:=by exact(aZ.1 hm).1
   have hxc:x<C.clauses.length:=by rw[<-HL.out];exact hxl
   obtain⟨k,hk⟩:∃k,C.clauses[x]?=some k:=⟨C.clauses[x],aT hxc⟩;have hkm:=cK hk;have hki:=Sc.out k hkm;obtain⟨kb,kL,st,hK,hkb,hkc,_⟩:=hW.con.clause hk;simp only at hK;subst hK;have nN:=hkc _ hW.below;have Zu:kb≠gm:=λe=>by have h1:=hW.uq;omega
   obtain⟨k0,EU,ac,ne,start,af,gr,bu,fi,pa,re,⟨vn,vd⟩,JR,JU,wa⟩:=k;obtain⟨stA,Ac⟩:=st;simp only at hki;obtain⟨c0,c1,c2,c3,c4,c5,c6,c7,c8,c9,c10,c11,c12,c13,c14,c15⟩:=Fh nN rfl;clear nN hkc;obtain⟨FL,qY,FM,hcell',hfz'⟩:=hW.nM hmx;simp only[Option.some.injEq,Addr.mk.injEq,true_and,and_true]at qY;subst qY;obtain⟨m0,m1,m2,m3,m4⟩:=m;have d4:W.cell? ⟨gm,eu+x*5+4,none⟩=some (.bool m4):=hcell' 4 (by omega);have f4:=hfz' (eu+x*5+4);clear hcell' hfz';have k4:W.cell? ⟨g,4,none⟩=some (.slice (some ⟨kb,kL,none⟩) C.clauses.length dh):=hW.cell 4;have k10:W.cell? ⟨g,10,none⟩=some (.slice (some ⟨gm,eu,none⟩) M.length dW):=hW.cell 10;have HW:=ah hW;clear hW;have HK:=ah hk;clear hk;have pQ:=ah hmx;clear hmx;have x00:(0:Int)<=(x:Int):=by omega
   have x01:(x:Int)<(C.clauses.length:Int):=by omega
   have x02:(x:Int)<(M.length:Int):=by rw[hml,HL.out];exact x01
   have HF:Hid (gy C i x M=cond ((i:Int)==pa) (M.set x ⟨m0,m1,m2,m3,true⟩) (cond ((i:Int)==re) (M.set x ⟨m0,m1,m2,m3,false⟩) M)):=by
    show _=_;simp only[gy,HK.out,pQ.out]
   clear x0 x1 x2 x3 hn0 hn1 hn2 hn3 hW2 HB2 hs2 HB1 hs1 hm hrun hml hxl hxc hkm Sc qB qW HAR HGO H HA hU hgl hbl dw hia hki;cases q1:((i:Int)==pa)with
   |true=>
    gi_wp2;refine⟨?_,(aH.refl _ _).setCell (.inl (.inr (.inr (.inr rfl)))) _⟩;rw[HF.out,q1];exact HW.out.fU (j:=4) (m':=⟨m0,m1,m2,m3,true⟩) pQ.out (by omega) rfl
   |false=>
    cases q2:((i:Int)==re)with
    |true=>
     gi_wp2;refine⟨?_,(aH.refl _ _).setCell (.inl (.inr (.inr (.inr rfl)))) _⟩;rw[HF.out,q1,q2];exact HW.out.fU (j:=4) (m':=⟨m0,m1,m2,m3,false⟩) pQ.out (by omega) rfl
    |false=>
     gi_wp2;refine⟨?_,aH.refl _ _⟩;rw[HF.out,q1,q2];exact HW.out
 case done=>
  as_aux_lemma=>
   intro D1 W3 hD1 hW3 Sd hK1;generalize hP:(f_ ms ms.length).foldl (λms i'=>gy C i i' ms) ms=ms1 at hW3;have HP:Hid (C.paused i ms=ms1):=hP;clear hP;have hpl:ms1.length=ms.length:=by rw[<-HP.out];exact zT _ _ _
   have y0:=(Sd.cell (o:=0) (by omega) hn0).trans x0;have y1:=(Sd.cell (o:=0) (by omega) hn1).trans x1;have y2:=(Sd.cell (o:=0) (by omega) hn2).trans x2;have hs3:=Sd.size;have abR:=av hK1;have Qp:¬gL g gh gu gm D1:=H.out.gN (by omega);clear x0 x1 x2 x3 hn3 hW2 Sd HB2;have vY:=ah hpl;clear hpl;gi_wp2;obtain⟨W4,K8⟩:∃W4,Hid (W4=W3.alloc (.cells #[.nilFunc,.func (.func 111) #[] #[],.func (.func 112) #[] #[],.func (.func 107) #[] #[],.func (.func 107) #[] #[]] 186)):=⟨_,rfl⟩;rw[<-K8.out];have zU:Hid (Below W3.heap.size W3 W4):=by
    show Below _ _ _;rw[K8.out];exact aK (aD _ _) _
   have hs4:W4.heap.size=W3.heap.size+1:=by rw[K8.out];simp
   have K9:W4.heap[W3.heap.size]?=some (.cells #[.nilFunc,.func (.func 111) #[] #[],.func (.func 112) #[] #[],.func (.func 107) #[] #[],.func (.func 107) #[] #[]] 186 (0,0)):=by
    rw[K8.out];exact bC W3 _
   have lq:Hid (∀z:Bl W4,aJ w0 z.val g ⟨⟨dF,dG⟩,⟨dH,dK⟩,⟨some ⟨b,mF,none⟩,dn⟩,⟨dQ,dh⟩,⟨dz,dB⟩⟩ C ⟨⟨fQ,eZ⟩,⟨gH,eX⟩,⟨some ⟨gm,eu,none⟩,dW⟩⟩ ⟨day,aj,used,ms1⟩ gh gu gm):=λz=>hW3.on (ay zU.out z.prop);have b0:∀z:Bl W4,z.val.cell? ⟨w.heap.size,0,none⟩=some (.pointer (some ⟨g,0,none⟩)):=λz=>z.cell (((aY zU.out).1 _ _ (by omega)).trans y0);have b1:∀z:Bl W4,z.val.cell? ⟨w.heap.size+1,0,none⟩=some (.int .i64 i):=λz=>z.cell (((aY zU.out).1 _ _ (by omega)).trans y1);have B2:Hid (∀z:Bl W4,z.val.cell? ⟨w.heap.size+2,0,none⟩=some (.int .i64 1)):=λz=>z.cell (((aY zU.out).1 _ _ (by omega)).trans y2);have HD1:Hid (∀z:Bl W4,z.val.heap[D1]?=some (.deferred (some []))):=λz=>(z.prop.block D1 (by omega)).trans ((zU.out.block D1 (by omega)).trans hK1);have g0:∀z:Bl W4,z.val.cell? ⟨g,0,none⟩=some (.int .i64 C.aF):=λz=>(lq.out z).cell 0;have g1:∀z:Bl W4,z.val.cell? ⟨g,1,none⟩=some (.slice dF C.aj.length dG):=λz=>(lq.out z).cell 1;have g2:∀z:Bl W4,z.val.cell? ⟨g,2,none⟩=some (.slice dH C.units.length dK):=λz=>(lq.out z).cell 2;have g3:∀z:Bl W4,z.val.cell? ⟨g,3,none⟩=some (.slice (some ⟨b,mF,none⟩) C.acts.length dn):=λz=>(lq.out z).cell 3;have g4:∀z:Bl W4,z.val.cell? ⟨g,4,none⟩=some (.slice dQ C.clauses.length dh):=λz=>(lq.out z).cell 4;have g5:∀z:Bl W4,z.val.cell? ⟨g,5,none⟩=some (.int .i64 C.days):=λz=>(lq.out z).cell 5;have g6:∀z:Bl W4,z.val.cell? ⟨g,6,none⟩=some (.slice dz C.off.length dB):=λz=>(lq.out z).cell 6;have g7:∀z:Bl W4,z.val.cell? ⟨g,7,none⟩=some (.int .i64 day):=λz=>(lq.out z).cell 7;have g8:∀z:Bl W4,z.val.cell? ⟨g,8,none⟩=some (.slice fQ aj.length eZ):=λz=>(lq.out z).cell 8;have g9:∀z:Bl W4,z.val.cell? ⟨g,9,none⟩=some (.slice gH used.length eX):=λz=>(lq.out z).cell 9;have g10:∀z:Bl W4,z.val.cell? ⟨g,10,none⟩=some (.slice (some ⟨gm,eu,none⟩) ms1.length dW):=λz=>(lq.out z).cell 10;have Zv:Hid (∀z:Bl W4,Calls Tryz.prog 113 #[.agg #[.int .i64 C.aF,.slice dF C.aj.length dG,.slice dH C.units.length dK,.slice (some ⟨b,mF,none⟩) C.acts.length dn,.slice dQ C.clauses.length dh,.int .i64 C.days,.slice dz C.off.length dB],.agg #[.int .i64 day,.slice fQ aj.length eZ,.slice gH used.length eX,.slice (some ⟨gm,eu,none⟩) ms1.length dW],.int .i64 i] z.val (dx (.int .i64 (nP aj ⟨1,ro,gi,tg,un,⟨ln,ld⟩⟩)) z.val)):=λz=>
    MR ⟨⟨dF,dG⟩,⟨dH,dK⟩,⟨some ⟨b,mF,none⟩,dn⟩,⟨dQ,dh⟩,⟨dz,dB⟩⟩ C ⟨⟨fQ,eZ⟩,⟨gH,eX⟩,⟨some ⟨gm,eu,none⟩,dW⟩⟩ ⟨day,aj,used,ms1⟩ i ⟨1,ro,gi,tg,un,⟨ln,ld⟩⟩ z.val ((lq.out z).con.below (lq.out z).below) (lq.out z).state HA.out HAR.out
   generalize hby:nP aj ⟨1,ro,gi,tg,un,⟨ln,ld⟩⟩=who at Zv;have HBY:=ah hby;clear hby;clear y0 y1 y2 hW3 hK1;refine mW (s:=(⟨W4,aD _ _⟩:Bl W4)) 11 10 _ (.cells #[.int .i64 0] 3) (jH.wide _) (by simp) (by kernel_rfl) (by kernel_rfl) rfl (by kernel_rfl) (λa w=>by go_simp) ?_;simp only[fK,bV,fT,cO,List.eraseIdx_cons_succ,List.eraseIdx_cons_zero];repeat(refine tH (λK hK=>?_);go_simp;first|(refine hK _ ?_;clear hK K)|(apply Exists.intro;refine⟨λz=>?_,hK _ ?_⟩;(go_at_call 113;exact Zv.out z);clear hK K))
   refine u6 ?_;intro bx z hbx hzx;have hbc:z.val.cell? ⟨bx,0,none⟩=some (.int .i64 0):=(aG z.val _ 0 _ _ _ hzx).trans rfl;have hbf:z.val.frozen? ⟨bx,0,none⟩=false:=by simp[World.frozen?,hzx]
   have hbn:¬gL g gh gu gm bx:=H.out.gN (by omega);have Zt:=lq.out z;have hszz:=z.prop.size;have hbz:=av hzx;have hb1:∀o,z.val.cell? ⟨W3.heap.size,o,none⟩=W4.cell? ⟨W3.heap.size,o,none⟩:=λo=>z.prop.cell (p:=⟨W3.heap.size,o,none⟩) (by show W3.heap.size<W4.heap.size;omega);have e1:z.val.cell? ⟨W3.heap.size,1,none⟩=some (.func (.func 111) #[] #[]):=(hb1 1).trans ((aG W4 _ 1 _ _ _ K9).trans rfl);have e2:z.val.cell? ⟨W3.heap.size,2,none⟩=some (.func (.func 112) #[] #[]):=(hb1 2).trans ((aG W4 _ 2 _ _ _ K9).trans rfl);have e3:z.val.cell? ⟨W3.heap.size,3,none⟩=some (.func (.func 107) #[] #[]):=(hb1 3).trans ((aG W4 _ 3 _ _ _ K9).trans rfl);have e4:z.val.cell? ⟨W3.heap.size,4,none⟩=some (.func (.func 107) #[] #[]):=(hb1 4).trans ((aG W4 _ 4 _ _ _ K9).trans rfl);have b0z:=b0 z;have b1z:=b1 z;have b2z:=B2.out z;have Xe:=HD1.out z;have hne0:w.heap.size≠bx:=by omega
   have hne1:w.heap.size+1≠bx:=by omega
   have hne2:w.heap.size+2≠bx:=by omega
   have Ba:W3.heap.size≠bx:=by omega
   have KW:D1≠bx:=by omega
   clear hb1 hzx b0 b1 B2 HD1 Zv K9 g0 g1 g2 g3 g4 g5 g6 g7 g8 g9 g10;gi_wp2_with (refine⟨trivial,?_⟩;gi_at_call 110;refine(bQ.2 (jr _ _)).mono ?_;rintro e z2 ⟨rfl,rfl⟩);obtain⟨W5,nW⟩:∃W5,Hid (W5=(z.val.setCell ⟨bx,0,none⟩ (.int .i64 who)).alloc (.cells #[.pointer (some ⟨g,0,none⟩)] 126)):=⟨_,rfl⟩;rw[<-nW.out];have K_:aJ w0 W5 g ⟨⟨dF,dG⟩,⟨dH,dK⟩,⟨some ⟨b,mF,none⟩,dn⟩,⟨dQ,dh⟩,⟨dz,dB⟩⟩ C ⟨⟨fQ,eZ⟩,⟨gH,eX⟩,⟨some ⟨gm,eu,none⟩,dW⟩⟩ ⟨day,aj,used,ms1⟩ gh gu gm:=by
    rw[nW.out];refine(Zt.W_ (S:=λk=>k=bx) ((aH.refl (λk=>k=bx) z.val).setCell (p:=⟨bx,0,none⟩) (.inl rfl) _) ?_).on (aK (aD _ _) _);rintro k rfl;exact⟨hbn,by have h1:=H.out.below.size;omega⟩
   have hs5:W5.heap.size=z.val.heap.size+1:=by rw[nW.out];simp[World.setCell]
   have Lc:aH (λk=>k=bx) z.val W5:=by
    rw[nW.out];exact((aH.refl (λk=>k=bx) z.val).setCell (p:=⟨bx,0,none⟩) (.inl rfl) _).alloc _
   have x0:=(Lc.cell (o:=0) (by omega) hne0).trans b0z;have x1:=(Lc.cell (o:=0) (by omega) hne1).trans b1z;have x2:=(Lc.cell (o:=0) (by omega) hne2).trans b2z;have q1:=(Lc.cell (o:=1) (by omega) Ba).trans e1;have q2:=(Lc.cell (o:=2) (by omega) Ba).trans e2;have q3:=(Lc.cell (o:=3) (by omega) Ba).trans e3;have q4:=(Lc.cell (o:=4) (by omega) Ba).trans e4;have hd1:=Lc.keep Xe KW;have x5:W5.cell? ⟨bx,0,none⟩=some (.int .i64 who):=by
    have hb:Below z.val.heap.size (z.val.setCell ⟨bx,0,none⟩ (.int .i64 who)) W5:=by rw[nW.out];exact Below.mono (aK (aD _ _) _) (by simp[World.setCell])
    rw[hb.cell (p:=⟨bx,0,none⟩) hbz];exact World.cell?_setCell_same' _ _ _ (by rw[hbc];rfl)
   have x6:W5.cell? ⟨z.val.heap.size,0,none⟩=some (.pointer (some ⟨g,0,none⟩)):=by
    have h:=bC (z.val.setCell ⟨bx,0,none⟩ (.int .i64 who)) (.cells #[.pointer (some ⟨g,0,none⟩)] 126);rw[show(z.val.setCell ⟨bx,0,none⟩ (.int .i64 who)).heap.size=z.val.heap.size by simp[World.setCell],<-nW.out]at h;exact(aG W5 _ 0 _ _ _ h).trans rfl
   have hn5:=H.out.gN (k:=z.val.heap.size) (by omega);have R8:=H.out.gN (k:=W3.heap.size) (by omega);clear b0z b1z b2z Xe e1 e2 e3 e4 hbc hbf Lc nW Zt lq K8 zU;refine uF (ms0:=ms1) (Bw:=z.val.heap.size) (jE C i who) (λi' ms j h=>tL C i who i' ms j h) (λi' ms=>DX C i who i' ms) (by omega) rfl rfl K_ x6 (by omega) hn5 ?a2 ?assign2 ?Xf ?Xg
   case assign2=>
    intro l x W K hK;gi_wp2;exact hK
   case Xf=>
    as_aux_lemma=>
     intro l x m M W hm hrun hml hmx hW hU;have hgo:0<=m.got/\m.got<=1000000:=by
      obtain⟨m',h1,h2,h3⟩:=Gq (C:=C) (act:=i) (ms:=ms) (j:=x) (m:=m) (by rw[HP.out];exact hm);rw[h2];exact HGO.out m' (cK h1) (by rw[<-h3];exact hrun)
     have hpl:=vY.out;have y0:=(hU.cell (o:=0) (by omega) hn0).trans x0;have y1:=(hU.cell (o:=0) (by omega) hn1).trans x1;have r1:=(hU.cell (o:=1) (by omega) R8).trans q1;have r2:=(hU.cell (o:=2) (by omega) R8).trans q2;have r3:=(hU.cell (o:=3) (by omega) R8).trans q3;have r4:=(hU.cell (o:=4) (by omega) R8).trans q4;have y5:=(hU.cell (o:=0) (by omega) hbn).trans x5;have hsW:=hU.size;have hxl:x<ms.length:=by rw[<-hpl];exact(aZ.1 hm).1
     have hxc:x<C.clauses.length:=by rw[<-HL.out];exact hxl
     obtain⟨k,hk⟩:∃k,C.clauses[x]?=some k:=⟨C.clauses[x],aT hxc⟩;have hkm:=cK hk;have hki:=Sc.out k hkm;obtain⟨kb,kL,st,hK,hkb,hkc,_⟩:=hW.con.clause hk;simp only at hK;subst hK;have nN:=hkc _ hW.below;have Zu:kb≠gm:=λe=>by have h1:=hW.uq;omega
     obtain⟨k0,EU,ac,ne,start,af,gr,bu,fi,pa,re,⟨vn,vd⟩,JR,JU,wa⟩:=k;obtain⟨stA,Ac⟩:=st;simp only at hki;obtain⟨c0,c1,c2,c3,c4,c5,c6,c7,c8,c9,c10,c11,c12,c13,c14,c15⟩:=Fh nN rfl;clear nN hkc;obtain⟨FL,qY,FM,hcell',hfz'⟩:=hW.nM hmx;simp only[Option.some.injEq,Addr.mk.injEq,true_and,and_true]at qY;subst qY;obtain⟨m0,m1,m2,m3,m4⟩:=m;simp only at hgo;have d3:W.cell? ⟨gm,eu+x*5+3,none⟩=some (.int .i64 m3):=hcell' 3 (by omega);clear hcell' hfz';have k4:W.cell? ⟨g,4,none⟩=some (.slice (some ⟨kb,kL,none⟩) C.clauses.length dh):=hW.cell 4;have k10:W.cell? ⟨g,10,none⟩=some (.slice (some ⟨gm,eu,none⟩) M.length dW):=hW.cell 10;have hgW:=av hW.head;obtain⟨hg1,hg2⟩:=hgo;obtain⟨hq1,hq2⟩:=hki;have HW:=ah hW;clear hW;have HK:=ah hk;clear hk;have pQ:=ah hmx;clear hmx;have x00:(0:Int)<=(x:Int):=by omega
     have x01:(x:Int)<(C.clauses.length:Int):=by omega
     have x02:(x:Int)<(M.length:Int):=by rw[hml,hpl,HL.out];exact x01
     have HF:Hid (jE C i who x M=cond ((ac==(i:Int))&&((k0==4)||(m3==who))) (M.set x (aC.hit ⟨m0,m1,m2,m3,m4⟩ ⟨k0,EU,ac,ne,start,af,gr,bu,fi,pa,re,⟨vn,vd⟩,JR,JU,wa⟩)) M):=by
      show _=_;simp only[jE,HK.out,pQ.out]
     have l0:w.heap.size<W.heap.size:=by omega
     have l1:w.heap.size+1<W.heap.size:=by omega
     have l2:W3.heap.size<W.heap.size:=by omega
     have l3:bx<W.heap.size:=by omega
     have hpm:gm<W.heap.size:=FM;clear hd1 x0 x1 x2 q1 q2 q3 q4 x5 x6 hn0 hn1 hn2 R8 hn5 K_ hs5 hs4 hs3 hs2 hs1 HB1 hm hrun hml hxl hxc hkm Sc qB qW HAR HGO H HA hU hgl hbl dw hia hbn hbx hszz hbz hne0 hne1 hne2 Ba KW HP vY hpl abR Qp hD1;gi_wp2_with fail;obtain⟨Wc,DZ⟩:∃Wc,Hid (Wc=W.alloc (.cells #[.int .i64 k0,.int .i64 EU,.int .i64 ac,.int .i64 ne,.slice stA start.length Ac,.int .i64 af,.int .i64 gr,.bool bu,.bool fi,.int .i64 pa,.int .i64 re,.int .i64 vn,.int .i64 vd,.int .i64 JR,.int .i64 JU,.bool wa] 112)):=⟨_,rfl⟩;rw[<-DZ.out];have Zx:Hid (Below W.heap.size W Wc):=by
      show Below _ _ _;rw[DZ.out];exact aK (aD _ _) _
     have vB:Hid (aH (gL g gh gu gm) W Wc):=(aH.refl _ _).on Zx.out;have CG:Hid (∀z:Bl Wc,aJ w0 z.val g ⟨⟨dF,dG⟩,⟨dH,dK⟩,⟨some ⟨b,mF,none⟩,dn⟩,⟨some ⟨kb,kL,none⟩,dh⟩,⟨dz,dB⟩⟩ C ⟨⟨fQ,eZ⟩,⟨gH,eX⟩,⟨some ⟨gm,eu,none⟩,dW⟩⟩ ⟨day,aj,used,M⟩ gh gu gm):=λz=>HW.out.on (ay Zx.out z.prop);have hkc:∀(p o:Nat)(u:Value),p<W.heap.size->W.cell? ⟨p,o,none⟩=some u->∀z:Bl Wc,z.val.cell? ⟨p,o,none⟩=some u:=λp o u h2 h3 z=>((aY (ay Zx.out z.prop)).1 _ _ h2).trans h3;have hcn:∀(o:Nat)(u:Value),(Array.mk [.int .i64 k0,.int .i64 EU,.int .i64 ac,.int .i64 ne,.slice stA start.length Ac,.int .i64 af,.int .i64 gr,.bool bu,.bool fi,.int .i64 pa,.int .i64 re,.int .i64 vn,.int .i64 vd,.int .i64 JR,.int .i64 JU,.bool wa])[o]?=some u->∀z:Bl Wc,z.val.cell? ⟨W.heap.size,o,none⟩=some u:=λo u hu z=>by
      have h:=bC W (.cells #[.int .i64 k0,.int .i64 EU,.int .i64 ac,.int .i64 ne,.slice stA start.length Ac,.int .i64 af,.int .i64 gr,.bool bu,.bool fi,.int .i64 pa,.int .i64 re,.int .i64 vn,.int .i64 vd,.int .i64 JR,.int .i64 JU,.bool wa] 112);rw[<-DZ.out]at h;exact z.cell ((aG Wc _ o _ _ _ h).trans hu)
     have v0:=hkc _ _ _ l0 y0;have v1:=hkc _ _ _ l1 y1;have w1:=hkc _ _ _ l2 r1;have w2:=hkc _ _ _ l2 r2;have w3:=hkc _ _ _ l2 r3;have w4:=hkc _ _ _ l2 r4;have v5:=hkc _ _ _ l3 y5;have v6:=hkc _ _ _ hgW k10;have v7:=hkc _ _ _ hpm d3;have v8:∀z:Bl Wc,z.val.cell? ⟨W.heap.size,0,none⟩=some (.int .i64 k0):=hcn 0 _ rfl;have v9:∀z:Bl Wc,z.val.cell? ⟨W.heap.size,2,none⟩=some (.int .i64 ac):=hcn 2 _ rfl;clear y0 y1 r1 r2 r3 r4 y5 k10 d3 c0 c1 c2 c3 c4 c5 c6 c7 c8 c9 c10 c11 c12 c13 c14 c15 k4 hkc hcn l0 l1 l2 l3 hpm DZ Zx hsW;have hkk:k0=1\/k0=2\/k0=3\/k0=4:=by omega
     clear hq1 hq2;cases qa:(ac==(i:Int))with
     |false=>
      as_aux_lemma=>
       clear hkk;refine aO (s:=(⟨Wc,aD _ _⟩:Bl Wc)) 21 (jH.round _ _) (by simp) (by kernel_rfl) (by kernel_rfl) ?_;simp only[fK,bV,fT,cO];repeat(go_big_quiet_step (fail))
       refine aS ?_;rintro _ ⟨z1,rfl⟩;gi_wp2_with fail;refine⟨?_,vB.out.on z1.prop⟩;rw[HF.out,qa,Bool.false_and,cond_false];exact CG.out z1
     |true=>
      rcases hkk with rfl|hkk
      .cases qb:(m3==who)with
       |true=>
        as_aux_lemma=>
         refine aO (s:=(⟨Wc,aD _ _⟩:Bl Wc)) 21 (jH.round _ _) (by simp) (by kernel_rfl) (by kernel_rfl) ?_;simp only[fK,bV,fT,cO];repeat(go_big_quiet_step (fail))
         refine aS ?_;rintro _ ⟨z1,rfl⟩;gi_wp2_with fail;have HC:Hid (∀z:Bl Wc,Calls Tryz.prog 111 #[.pointer (some ⟨g,0,none⟩),.int .i64 x] z.val _):=λz=>Dz (CG.out z) x _ pQ.out _ HK.out hg1 hg2;refine aO (s:=z1) 6 (jH.round _ _) (by simp) (by kernel_rfl) (by kernel_rfl) ?_;simp only[fK,bV,fT,cO];repeat(go_big_quiet_step (fail))
         refine aS ?_;rintro _ ⟨z3,rfl⟩;gi_wp2_with (refine⟨trivial,?_⟩;gi_at_call 111;refine(CallsIn.inRound l (bQ.2 (HC.out z3))).mono ?_;rintro e zc ⟨rfl,hz1,hz2⟩);refine⟨?_,(vB.out.on z3.prop).trans hz2 (λ_ _ h=>h)⟩;rw[HF.out,qa,qb,Bool.or_true,Bool.and_true,cond_true];exact hz1
       |false=>
        as_aux_lemma=>
         refine aO (s:=(⟨Wc,aD _ _⟩:Bl Wc)) 21 (jH.round _ _) (by simp) (by kernel_rfl) (by kernel_rfl) ?_;simp only[fK,bV,fT,cO];repeat(go_big_quiet_step (fail))
         refine aS ?_;rintro _ ⟨z1,rfl⟩;gi_wp2_with fail;refine⟨?_,vB.out.on z1.prop⟩;rw[HF.out,qa,qb,show((1:Int)==4)=false from rfl,Bool.or_false,Bool.and_false,cond_false];exact CG.out z1
      rcases hkk with rfl|hkk
      .cases qb:(m3==who)with
       |true=>
        as_aux_lemma=>
         refine aO (s:=(⟨Wc,aD _ _⟩:Bl Wc)) 21 (jH.round _ _) (by simp) (by kernel_rfl) (by kernel_rfl) ?_;simp only[fK,bV,fT,cO];repeat(go_big_quiet_step (fail))
         refine aS ?_;rintro _ ⟨z1,rfl⟩;gi_wp2_with fail;have HC:Hid (∀z:Bl Wc,Calls Tryz.prog 112 #[.pointer (some ⟨g,0,none⟩),.int .i64 x] z.val _):=λz=>Dy (CG.out z) x _ pQ.out;refine aO (s:=z1) 6 (jH.round _ _) (by simp) (by kernel_rfl) (by kernel_rfl) ?_;simp only[fK,bV,fT,cO];repeat(go_big_quiet_step (fail))
         refine aS ?_;rintro _ ⟨z3,rfl⟩;gi_wp2_with (refine⟨trivial,?_⟩;gi_at_call 112;refine(CallsIn.inRound l (bQ.2 (HC.out z3))).mono ?_;rintro e zc ⟨rfl,hz1,hz2⟩);refine⟨?_,(vB.out.on z3.prop).trans hz2 (λ_ _ h=>h)⟩;rw[HF.out,qa,qb,Bool.or_true,Bool.and_true,cond_true];exact hz1
       |false=>
        as_aux_lemma=>
         refine aO (s:=(⟨Wc,aD _ _⟩:Bl Wc)) 21 (jH.round _ _) (by simp) (by kernel_rfl) (by kernel_rfl) ?_;simp only[fK,bV,fT,cO];repeat(go_big_quiet_step (fail))
         refine aS ?_;rintro _ ⟨z1,rfl⟩;gi_wp2_with fail;refine⟨?_,vB.out.on z1.prop⟩;rw[HF.out,qa,qb,show((2:Int)==4)=false from rfl,Bool.or_false,Bool.and_false,cond_false];exact CG.out z1
      rcases hkk with rfl|hkk
      .cases qb:(m3==who)with
       |true=>
        as_aux_lemma=>
         refine aO (s:=(⟨Wc,aD _ _⟩:Bl Wc)) 21 (jH.round _ _) (by simp) (by kernel_rfl) (by kernel_rfl) ?_;simp only[fK,bV,fT,cO];repeat(go_big_quiet_step (fail))
         refine aS ?_;rintro _ ⟨z1,rfl⟩;gi_wp2_with fail;have HC:Hid (∀z:Bl Wc,Calls Tryz.prog 107 #[.pointer (some ⟨g,0,none⟩),.int .i64 x] z.val _):=λz=>uw (CG.out z) x _ pQ.out;refine aO (s:=z1) 6 (jH.round _ _) (by simp) (by kernel_rfl) (by kernel_rfl) ?_;simp only[fK,bV,fT,cO];repeat(go_big_quiet_step (fail))
         refine aS ?_;rintro _ ⟨z3,rfl⟩;gi_wp2_with (refine⟨trivial,?_⟩;gi_at_call 107;refine(CallsIn.inRound l (bQ.2 (HC.out z3))).mono ?_;rintro e zc ⟨rfl,hz1,hz2⟩);refine⟨?_,(vB.out.on z3.prop).trans hz2 (λ_ _ h=>h)⟩;rw[HF.out,qa,qb,Bool.or_true,Bool.and_true,cond_true];exact hz1
       |false=>
        as_aux_lemma=>
         refine aO (s:=(⟨Wc,aD _ _⟩:Bl Wc)) 21 (jH.round _ _) (by simp) (by kernel_rfl) (by kernel_rfl) ?_;simp only[fK,bV,fT,cO];repeat(go_big_quiet_step (fail))
         refine aS ?_;rintro _ ⟨z1,rfl⟩;gi_wp2_with fail;refine⟨?_,vB.out.on z1.prop⟩;rw[HF.out,qa,qb,show((3:Int)==4)=false from rfl,Bool.or_false,Bool.and_false,cond_false];exact CG.out z1
      .subst hkk
       as_aux_lemma=>
        refine aO (s:=(⟨Wc,aD _ _⟩:Bl Wc)) 21 (jH.round _ _) (by simp) (by kernel_rfl) (by kernel_rfl) ?_;simp only[fK,bV,fT,cO];repeat(go_big_quiet_step (fail))
        refine aS ?_;rintro _ ⟨z1,rfl⟩;gi_wp2_with fail;have HC:Hid (∀z:Bl Wc,Calls Tryz.prog 107 #[.pointer (some ⟨g,0,none⟩),.int .i64 x] z.val _):=λz=>uw (CG.out z) x _ pQ.out;refine aO (s:=z1) 6 (jH.round _ _) (by simp) (by kernel_rfl) (by kernel_rfl) ?_;simp only[fK,bV,fT,cO];repeat(go_big_quiet_step (fail))
        refine aS ?_;rintro _ ⟨z3,rfl⟩;gi_wp2_with (refine⟨trivial,?_⟩;gi_at_call 107;refine(CallsIn.inRound l (bQ.2 (HC.out z3))).mono ?_;rintro e zc ⟨rfl,hz1,hz2⟩);refine⟨?_,(vB.out.on z3.prop).trans hz2 (λ_ _ h=>h)⟩;rw[HF.out,qa,show((4:Int)==4)=true from rfl,Bool.true_or,Bool.and_true,cond_true];exact hz1
   case Xg=>
    as_aux_lemma=>
     intro D2 W6 hD2 YG Jk hK2;generalize hQ:(f_ ms1 ms1.length).foldl (λms i'=>jE C i who i' ms) ms1=ms2 at YG;have HQ:Hid (C.Bc i who ms1=ms2):=hQ;clear hQ;have HQL:Hid (ms2.length=C.clauses.length):=by
      show _=_;rw[<-HQ.out,Cy,vY.out,HL.out]
     have y0:=(Jk.cell (o:=0) (by omega) hn0).trans x0;have y1:=(Jk.cell (o:=0) (by omega) hn1).trans x1;have y2:=(Jk.cell (o:=0) (by omega) hn2).trans x2;have hd2:=Jk.keep hd1 Qp;have abS:¬gL g gh gu gm D2:=H.out.gN (by omega);have hs6:=Jk.size;have aiI:D1<D2:=by omega
     have vC:=ah Jk;clear Jk;have yG:=ah YG;clear YG;have hwW:w.heap.size<=W6.heap.size:=by omega
     have hw0:w0.heap.size<=w.heap.size:=H.out.below.size;have HST:=ah (yB yG.out HQL.out qB.out qW.out);clear x0 x1 x2 q1 q2 q3 q4 x5 x6 K_;gi_wp2_with (refine⟨trivial,?_⟩;gi_at_call 67;refine(bQ.2 HST.out).mono ?_;rintro e zc ⟨rfl,hz1,hz2⟩);have hU8:aH (gL g gh gu gm) W6 zc:=hz2;have hKa:=hU8.keep hK2 abS;have hKb:=hU8.keep hd2 Qp;have Qq:=grownBy_putObj' zc D2 (.deferred none);have hKc:=(Qq.block D1 (av hKb) (by simp;omega)).trans hKb;have Xh:=grownBy_putObj' (zc.putObj D2 (.deferred none)) D1 (.deferred none);refine⟨by simp,.inl ⟨_,_,rfl,run_takeDeferred hKa,?_⟩⟩;refine⟨by simp,.inl ⟨_,_,rfl,run_takeDeferred hKc,?_⟩⟩;have hr1:∀r,some D2=some r->w0.heap.size<=r/\∃o,zc.heap[r]?=some o/\o.isCells=false:=λr e=>by
      injection e with e
      subst e;exact⟨by omega,_,hKa,rfl⟩
     have hr2:∀r,some D1=some r->w0.heap.size<=r/\∃o,(zc.putObj D2 (.deferred none)).heap[r]?=some o/\o.isCells=false:=λr e=>by
      injection e with e
      subst e;exact⟨by omega,_,hKc,rfl⟩
     have h8:=aJ.lM (β:=Unit) (λ_=>(⟨day,aj,used,C.begin aj ms2⟩:ak)) _ (bH _) () zc _ _ hz1 Qq hr1;have h9:=aJ.lM (β:=Unit) (λ_=>(⟨day,aj,used,C.begin aj ms2⟩:ak)) _ (bH _) () _ _ _ h8 Xh hr2;refine⟨_,results_none rfl _ _ _,rfl,?_,bF (bF (bF hwW hU8.size) Qq.size) Xh.size⟩;simp only[au.act,show((1:Int)!=1)=false from rfl,Bool.false_and,cond_false,HP.out,HBY.out,HQ.out];exact h9
end
open Go.RowKit Go.Shelf
attribute [local go_sem] Oper.semAt_some zO ko
theorem abT{w0 w:World}{g:Nat}{v:CV}{C:au}{t:TV}{s:ak}{gh gu gm:Nat}(h:aJ w0 w g v C t s gh gu gm)(i:Nat)(a:iO)(ha:C.acts[i]?=some a)(hk1:(a.kind !=1)=true)(Qr:s.used[i]?=some false)(hgi:0<=a.give/\a.give<s.aj.length)(hlen:s.marks.length=C.clauses.length)
 (hin:∀k∈C.clauses,∀c∈k.start,0<=c.clause/\c.clause<C.clauses.length)(hro:∀k∈C.clauses,k.kind≠4->0<=k.role/\k.role<s.aj.length)
 (hki:∀k∈C.clauses,1<=k.kind/\k.kind<=4)(har:a.role≠ -1->0<=a.role/\a.role<s.aj.length)(hgo:∀m∈s.marks,m.runs=true->0<=m.got/\m.got<=1000000):
 Calls Tryz.prog 70 #[.pointer (some ⟨g,0,none⟩),.int .i64 i] w (wP w0 g v C t (C.act i a s) gh gu gm w):=by
 have hia:i<C.acts.length:=(aZ.1 ha).1;obtain⟨b,mF,hA,hbl,hac⟩:=h.con.act ha;obtain⟨⟨dF,dG⟩,⟨dH,dK⟩,⟨dV,dn⟩,⟨dQ,dh⟩,⟨dz,dB⟩⟩:=v;simp only at hA;subst hA;obtain⟨eu,IE,_⟩:=h.marks.O8;obtain⟨nI,huA,huc⟩:∃off,t.u.A=some ⟨gu,off,none⟩/\w.cell? ⟨gu,off+i,none⟩=some (.bool false):=by
  obtain⟨off,h1,_,_,h2,h3,h4⟩:=h.used.O8;have hi2:i<s.used.length:=(aZ.1 Qr).1;exact⟨off,h1,by rw[h3 i (by omega)];simp[iG,Qr]⟩
 obtain⟨⟨fQ,eZ⟩,⟨gH,eX⟩,⟨h_,dW⟩⟩:=t;simp only at IE;subst IE;simp only at huA;subst huA;obtain⟨day,aj,used,ms⟩:=s;simp only at hlen hro har hgo;obtain⟨ki,ro,gi,tg,un,⟨ln,ld⟩⟩:=a;simp only at hk1 har;simp only at Qr hgi;have hiu:i<used.length:=(aZ.1 Qr).1;have g3:w.cell? ⟨g,3,none⟩=some (.slice (some ⟨b,mF,none⟩) C.acts.length dn):=h.cell 3;have Gj:=hac w h.below;obtain⟨a0,a1,a2,a3,a4,a5,a6⟩:=rw7 Gj rfl;clear hac Gj;have hgl:=av h.head;have dw:b<w.heap.size:=jX hbl h.below.size;have i0:(0:Int)<=(i:Int):=by omega
 have i1:(i:Int)<(C.acts.length:Int):=by omega
 have H:=ah h;clear h;have HA:=ah ha;clear ha;have HL:=ah hlen;clear hlen;have qB:=ah hin;clear hin;have qW:=ah hro;clear hro;have Sc:=ah hki;clear hki;have HAR:=ah har;clear har;have HGO:=ah hgo;clear hgo;have HUS:=ah Qr;clear Qr;have Xi:=ah hgi;clear hgi;have HK1:=ah hk1;clear hk1;have i2:(i:Int)<(used.length:Int):=by omega
 refine(bQ (n:=3)).1 ?_;refine callsIn_of_wp_marks Tryz.func70 rfl trivial ?_ rfl;simp only[Tryz.ntmps70,qU,iy,jJ,Nat.reduceAdd,Nat.reduceSub,rX,rY,r_,rZ,mI,r9];gi_wp2;obtain⟨W0,HW0⟩:∃W0,Hid (W0=(w.alloc (.cells #[.pointer (some ⟨g,0,none⟩)] 126)).alloc (.cells #[.int .i64 i] 3)):=⟨_,rfl⟩;rw[<-HW0.out];have HB0:Hid (Below w.heap.size w W0):=by
  show Below _ _ _;rw[HW0.out];exact aK (aK (aD _ _) _) _
 have hs0:W0.heap.size=w.heap.size+2:=by rw[HW0.out];simp
 have o0:W0.cell? ⟨w.heap.size,0,none⟩=some (.pointer (some ⟨g,0,none⟩)):=by
  have h:W0.heap[w.heap.size]?=some (.cells #[.pointer (some ⟨g,0,none⟩)] 126 (0,0)):=by
   rw[HW0.out];exact(Below.heap_alloc _ _ _ (by simp)).trans (bC w _)
  exact(aG W0 _ 0 _ _ _ h).trans rfl
 have o1:W0.cell? ⟨w.heap.size+1,0,none⟩=some (.int .i64 i):=by
  have h:W0.heap[w.heap.size+1]?=some (.cells #[.int .i64 i] 3 (0,0)):=by
   rw[HW0.out];have h:=bC (w.alloc (.cells #[.pointer (some ⟨g,0,none⟩)] 126)) (.cells #[.int .i64 i] 3);rw[aM]at h;exact h
  exact(aG W0 _ 0 _ _ _ h).trans rfl
 have g3':=((aY HB0.out).1 _ _ hgl).trans g3;have a0':=((aY HB0.out).1 _ _ dw).trans a0;have a1':=((aY HB0.out).1 _ _ dw).trans a1;have a2':=((aY HB0.out).1 _ _ dw).trans a2;have a3':=((aY HB0.out).1 _ _ dw).trans a3;have a4':=((aY HB0.out).1 _ _ dw).trans a4;have a5':=((aY HB0.out).1 _ _ dw).trans a5;have a6':=((aY HB0.out).1 _ _ dw).trans a6;have Xc:g<W0.heap.size:=by omega
 have Xd:b<W0.heap.size:=by omega
 have Ns:w.heap.size<W0.heap.size:=by omega
 have Nt:w.heap.size+1<W0.heap.size:=by omega
 clear g3 a0 a1 a2 a3 a4 a5 a6;have yR:=ah hs0;clear hs0
 gi_region
 obtain⟨W1,HW1⟩:∃W1,Hid (W1=(W0.alloc (.cells #[.int .i64 ki,.int .i64 ro,.int .i64 gi,.int .i64 tg,.int .i64 un,.int .i64 ln,.int .i64 ld] 109)).drew):=⟨_,rfl⟩;rw[<-HW1.out];have HB1:Hid (Below w.heap.size w W1):=by
  show Below _ _ _;rw[HW1.out];exact(aK HB0.out _).drew
 have GI:Below W0.heap.size W0 W1:=by
  rw[HW1.out];exact(aK (aD _ _) _).drew
 have hs0:=yR.out;have hW1:aJ w0 W1 g ⟨⟨dF,dG⟩,⟨dH,dK⟩,⟨some ⟨b,mF,none⟩,dn⟩,⟨dQ,dh⟩,⟨dz,dB⟩⟩ C ⟨⟨fQ,eZ⟩,⟨some ⟨gu,nI,none⟩,eX⟩,⟨some ⟨gm,eu,none⟩,dW⟩⟩ ⟨day,aj,used,ms⟩ gh gu gm:=H.out.on HB1.out;have hs1:W1.heap.size=w.heap.size+3:=by rw[HW1.out];simp[hs0]
 have p0:=((aY GI).1 _ _ Ns).trans o0;have p1:=((aY GI).1 _ _ Nt).trans o1;have p2:W1.cell? ⟨w.heap.size+2,0,none⟩=some (.int .i64 ki):=by
  have h:W1.heap[w.heap.size+2]?=some (.cells #[.int .i64 ki,.int .i64 ro,.int .i64 gi,.int .i64 tg,.int .i64 un,.int .i64 ln,.int .i64 ld] 109 (0,0)):=by
   have h:=bC W0 (.cells #[.int .i64 ki,.int .i64 ro,.int .i64 gi,.int .i64 tg,.int .i64 un,.int .i64 ln,.int .i64 ld] 109);rw[hs0]at h;rw[HW1.out];exact h
  exact(aG W1 _ 0 _ _ _ h).trans rfl
 rw[hs0];clear g3' a0' a1' a2' a3' a4' a5' a6' o0 o1 Xc Xd Ns Nt GI HW0 HB0 yR hs0;have u0:W1.cell? ⟨gu,nI+i,none⟩=some (.bool false):=by
  obtain⟨cur,hcur⟩:=H.out.used.eO;rw[(aY HB1.out).1 _ _ (av hcur)];exact huc
 have k9:W1.cell? ⟨g,9,none⟩=some (.slice (some ⟨gu,nI,none⟩) used.length eX):=hW1.cell 9;have hk1:=HK1.out;clear huc;clear i0 i1;gi_wp2;refine aU 12 (jH.wide _) (by simp) (by kernel_rfl) (by kernel_rfl) ?_;simp only[fK,bV,fT,cO];repeat(go_big_quiet_step (fail))
 refine aS ?_;rintro _ ⟨mq,rfl⟩;gi_wp2_with (refine⟨trivial,?_⟩;gi_at_call 110;refine(bQ.2 (jr _ _)).mono ?_;rintro e z2 ⟨rfl,rfl⟩);obtain⟨W2,HW2⟩:∃W2,Hid (W2=(W1.drewN mq).alloc (.cells #[.pointer (some ⟨g,0,none⟩)] 126)):=⟨_,rfl⟩;rw[show(W1.drewN mq).alloc (.cells #[.pointer (some ⟨g,0,none⟩)] 126)=W2 from HW2.out.symm];have HB2:Hid (Below W1.heap.size W1 W2):=by
  show Below _ _ _;rw[HW2.out];exact(below_drewN _ _).alloc (bH _) _
 have hW2:aJ w0 W2 g ⟨⟨dF,dG⟩,⟨dH,dK⟩,⟨some ⟨b,mF,none⟩,dn⟩,⟨dQ,dh⟩,⟨dz,dB⟩⟩ C ⟨⟨fQ,eZ⟩,⟨some ⟨gu,nI,none⟩,eX⟩,⟨some ⟨gm,eu,none⟩,dW⟩⟩ ⟨day,aj,used,ms⟩ gh gu gm:=hW1.on HB2.out;have hs2:W2.heap.size=w.heap.size+4:=by rw[HW2.out];simp[hs1]
 have x0:=((aY HB2.out).1 w.heap.size 0 (by omega)).trans p0;have x1:=((aY HB2.out).1 (w.heap.size+1) 0 (by omega)).trans p1;have x2:=((aY HB2.out).1 (w.heap.size+2) 0 (by omega)).trans p2;have x3:W2.cell? ⟨w.heap.size+3,0,none⟩=some (.pointer (some ⟨g,0,none⟩)):=by
  have h:=bC (W1.drewN mq) (.cells #[.pointer (some ⟨g,0,none⟩)] 126);rw[show(W1.drewN mq).heap.size=w.heap.size+3 from hs1,show(W1.drewN mq).alloc (.cells #[.pointer (some ⟨g,0,none⟩)] 126)=W2 from HW2.out.symm]at h;exact(aG W2 _ 0 _ _ _ h).trans rfl
 have hn0:=H.out.gN (k:=w.heap.size) (bH _);have hn1:=H.out.gN (k:=w.heap.size+1) (by omega);have hn2:=H.out.gN (k:=w.heap.size+2) (by omega);have hn3:=H.out.gN (k:=w.heap.size+3) (by omega);clear p0 p1 p2 HW1 HW2 hW1 u0 k9 hk1;rw[show w.heap.size+1+1+1=w.heap.size+3 by omega];refine uF (ms0:=ms) (Bw:=w.heap.size+3) (gy C i) (λi' ms j h=>pR C i i' ms j h) (λi' ms=>zx C i i' ms) (by omega) rfl rfl hW2 x3 (by omega) hn3 ?a1 ?assign ?body ?done
 case assign=>
  intro l x W K hK;gi_wp2;exact hK
 case body=>
  as_aux_lemma=>
   intro l x m M W hm hrun hml hmx hW hU;have y0:=(hU.cell (o:=0) (by omega) hn0).trans x0;have y1:=(hU.cell (o:=0) (by omega) hn1).trans x1;have hxl:x<ms.length:=by exact(aZ.1 hm).1
   have hxc:x<C.clauses.length:=by rw[<-HL.out];exact hxl
   obtain⟨k,hk⟩:∃k,C.clauses[x]?=some k:=⟨C.clauses[x],aT hxc⟩;have hkm:=cK hk;have hki:=Sc.out k hkm;obtain⟨kb,kL,st,hK,hkb,hkc,_⟩:=hW.con.clause hk;simp only at hK;subst hK;have nN:=hkc _ hW.below;have Zu:kb≠gm:=λe=>by have h1:=hW.uq;omega
   obtain⟨k0,EU,ac,ne,start,af,gr,bu,fi,pa,re,⟨vn,vd⟩,JR,JU,wa⟩:=k;obtain⟨stA,Ac⟩:=st;simp only at hki;obtain⟨c0,c1,c2,c3,c4,c5,c6,c7,c8,c9,c10,c11,c12,c13,c14,c15⟩:=Fh nN rfl;clear nN hkc;obtain⟨FL,qY,FM,hcell',hfz'⟩:=hW.nM hmx;simp only[Option.some.injEq,Addr.mk.injEq,true_and,and_true]at qY;subst qY;obtain⟨m0,m1,m2,m3,m4⟩:=m;have d4:W.cell? ⟨gm,eu+x*5+4,none⟩=some (.bool m4):=hcell' 4 (by omega);have f4:=hfz' (eu+x*5+4);clear hcell' hfz';have k4:W.cell? ⟨g,4,none⟩=some (.slice (some ⟨kb,kL,none⟩) C.clauses.length dh):=hW.cell 4;have k10:W.cell? ⟨g,10,none⟩=some (.slice (some ⟨gm,eu,none⟩) M.length dW):=hW.cell 10;have HW:=ah hW;clear hW;have HK:=ah hk;clear hk;have pQ:=ah hmx;clear hmx;have x00:(0:Int)<=(x:Int):=by omega
   have x01:(x:Int)<(C.clauses.length:Int):=by omega
   have x02:(x:Int)<(M.length:Int):=by rw[hml,HL.out];exact x01
   have HF:Hid (gy C i x M=cond ((i:Int)==pa) (M.set x ⟨m0,m1,m2,m3,true⟩) (cond ((i:Int)==re) (M.set x ⟨m0,m1,m2,m3,false⟩) M)):=by
    show _=_;simp only[gy,HK.out,pQ.out]
   clear x0 x1 x2 x3 hn0 hn1 hn2 hn3 hW2 HB2 hs2 HB1 hs1 hm hrun hml hxl hxc hkm Sc qB qW HAR HGO H HA hU hgl hbl dw hia hki;cases q1:((i:Int)==pa)with
   |true=>
    gi_wp2;refine⟨?_,(aH.refl _ _).setCell (.inl (.inr (.inr (.inr rfl)))) _⟩;rw[HF.out,q1];exact HW.out.fU (j:=4) (m':=⟨m0,m1,m2,m3,true⟩) pQ.out (by omega) rfl
   |false=>
    cases q2:((i:Int)==re)with
    |true=>
     gi_wp2;refine⟨?_,(aH.refl _ _).setCell (.inl (.inr (.inr (.inr rfl)))) _⟩;rw[HF.out,q1,q2];exact HW.out.fU (j:=4) (m':=⟨m0,m1,m2,m3,false⟩) pQ.out (by omega) rfl
    |false=>
     gi_wp2;refine⟨?_,aH.refl _ _⟩;rw[HF.out,q1,q2];exact HW.out
 case done=>
  as_aux_lemma=>
   intro D1 W3 hD1 hW3 Sd hK1;generalize hP:(f_ ms ms.length).foldl (λms i'=>gy C i i' ms) ms=ms1 at hW3;have HP:Hid (C.paused i ms=ms1):=hP;clear hP;have hpl:ms1.length=ms.length:=by rw[<-HP.out];exact zT _ _ _
   have y0:=(Sd.cell (o:=0) (by omega) hn0).trans x0;have y1:=(Sd.cell (o:=0) (by omega) hn1).trans x1;have y2:=(Sd.cell (o:=0) (by omega) hn2).trans x2;have hs3:=Sd.size;have abR:=av hK1;have Qp:¬gL g gh gu gm D1:=H.out.gN (by omega);clear x0 x1 x2 x3 hn3 hW2 Sd HB2;have vY:=ah hpl;clear hpl;gi_wp2;obtain⟨W4,K8⟩:∃W4,Hid (W4=W3.alloc (.cells #[.nilFunc,.func (.func 111) #[] #[],.func (.func 112) #[] #[],.func (.func 107) #[] #[],.func (.func 107) #[] #[]] 186)):=⟨_,rfl⟩;rw[<-K8.out];have zU:Hid (Below W3.heap.size W3 W4):=by
    show Below _ _ _;rw[K8.out];exact aK (aD _ _) _
   have hs4:W4.heap.size=W3.heap.size+1:=by rw[K8.out];simp
   have K9:W4.heap[W3.heap.size]?=some (.cells #[.nilFunc,.func (.func 111) #[] #[],.func (.func 112) #[] #[],.func (.func 107) #[] #[],.func (.func 107) #[] #[]] 186 (0,0)):=by
    rw[K8.out];exact bC W3 _
   have lq:Hid (∀z:Bl W4,aJ w0 z.val g ⟨⟨dF,dG⟩,⟨dH,dK⟩,⟨some ⟨b,mF,none⟩,dn⟩,⟨dQ,dh⟩,⟨dz,dB⟩⟩ C ⟨⟨fQ,eZ⟩,⟨some ⟨gu,nI,none⟩,eX⟩,⟨some ⟨gm,eu,none⟩,dW⟩⟩ ⟨day,aj,used,ms1⟩ gh gu gm):=λz=>hW3.on (ay zU.out z.prop);have b0:∀z:Bl W4,z.val.cell? ⟨w.heap.size,0,none⟩=some (.pointer (some ⟨g,0,none⟩)):=λz=>z.cell (((aY zU.out).1 _ _ (by omega)).trans y0);have b1:∀z:Bl W4,z.val.cell? ⟨w.heap.size+1,0,none⟩=some (.int .i64 i):=λz=>z.cell (((aY zU.out).1 _ _ (by omega)).trans y1);have B2:Hid (∀z:Bl W4,z.val.cell? ⟨w.heap.size+2,0,none⟩=some (.int .i64 ki)):=λz=>z.cell (((aY zU.out).1 _ _ (by omega)).trans y2);have HD1:Hid (∀z:Bl W4,z.val.heap[D1]?=some (.deferred (some []))):=λz=>(z.prop.block D1 (by omega)).trans ((zU.out.block D1 (by omega)).trans hK1);have g0:∀z:Bl W4,z.val.cell? ⟨g,0,none⟩=some (.int .i64 C.aF):=λz=>(lq.out z).cell 0;have g1:∀z:Bl W4,z.val.cell? ⟨g,1,none⟩=some (.slice dF C.aj.length dG):=λz=>(lq.out z).cell 1;have g2:∀z:Bl W4,z.val.cell? ⟨g,2,none⟩=some (.slice dH C.units.length dK):=λz=>(lq.out z).cell 2;have g3:∀z:Bl W4,z.val.cell? ⟨g,3,none⟩=some (.slice (some ⟨b,mF,none⟩) C.acts.length dn):=λz=>(lq.out z).cell 3;have g4:∀z:Bl W4,z.val.cell? ⟨g,4,none⟩=some (.slice dQ C.clauses.length dh):=λz=>(lq.out z).cell 4;have g5:∀z:Bl W4,z.val.cell? ⟨g,5,none⟩=some (.int .i64 C.days):=λz=>(lq.out z).cell 5;have g6:∀z:Bl W4,z.val.cell? ⟨g,6,none⟩=some (.slice dz C.off.length dB):=λz=>(lq.out z).cell 6;have g7:∀z:Bl W4,z.val.cell? ⟨g,7,none⟩=some (.int .i64 day):=λz=>(lq.out z).cell 7;have g8:∀z:Bl W4,z.val.cell? ⟨g,8,none⟩=some (.slice fQ aj.length eZ):=λz=>(lq.out z).cell 8;have g9:∀z:Bl W4,z.val.cell? ⟨g,9,none⟩=some (.slice (some ⟨gu,nI,none⟩) used.length eX):=λz=>(lq.out z).cell 9;have g10:∀z:Bl W4,z.val.cell? ⟨g,10,none⟩=some (.slice (some ⟨gm,eu,none⟩) ms1.length dW):=λz=>(lq.out z).cell 10;have Zv:Hid (∀z:Bl W4,Calls Tryz.prog 113 #[.agg #[.int .i64 C.aF,.slice dF C.aj.length dG,.slice dH C.units.length dK,.slice (some ⟨b,mF,none⟩) C.acts.length dn,.slice dQ C.clauses.length dh,.int .i64 C.days,.slice dz C.off.length dB],.agg #[.int .i64 day,.slice fQ aj.length eZ,.slice (some ⟨gu,nI,none⟩) used.length eX,.slice (some ⟨gm,eu,none⟩) ms1.length dW],.int .i64 i] z.val (dx (.int .i64 (nP aj ⟨ki,ro,gi,tg,un,⟨ln,ld⟩⟩)) z.val)):=λz=>
    MR ⟨⟨dF,dG⟩,⟨dH,dK⟩,⟨some ⟨b,mF,none⟩,dn⟩,⟨dQ,dh⟩,⟨dz,dB⟩⟩ C ⟨⟨fQ,eZ⟩,⟨some ⟨gu,nI,none⟩,eX⟩,⟨some ⟨gm,eu,none⟩,dW⟩⟩ ⟨day,aj,used,ms1⟩ i ⟨ki,ro,gi,tg,un,⟨ln,ld⟩⟩ z.val ((lq.out z).con.below (lq.out z).below) (lq.out z).state HA.out HAR.out
   generalize hby:nP aj ⟨ki,ro,gi,tg,un,⟨ln,ld⟩⟩=who at Zv;have HBY:=ah hby;clear hby;clear y0 y1 y2 hW3 hK1;refine mW (s:=(⟨W4,aD _ _⟩:Bl W4)) 11 10 _ (.cells #[.int .i64 0] 3) (jH.wide _) (by simp) (by kernel_rfl) (by kernel_rfl) rfl (by kernel_rfl) (λa w=>by go_simp) ?_;simp only[fK,bV,fT,cO,List.eraseIdx_cons_succ,List.eraseIdx_cons_zero];repeat(refine tH (λK hK=>?_);go_simp;first|(refine hK _ ?_;clear hK K)|(apply Exists.intro;refine⟨λz=>?_,hK _ ?_⟩;(go_at_call 113;exact Zv.out z);clear hK K))
   refine u6 ?_;intro bx z hbx hzx;have hbc:z.val.cell? ⟨bx,0,none⟩=some (.int .i64 0):=(aG z.val _ 0 _ _ _ hzx).trans rfl;have hbf:z.val.frozen? ⟨bx,0,none⟩=false:=by simp[World.frozen?,hzx]
   have hbn:¬gL g gh gu gm bx:=H.out.gN (by omega);have Zt:=lq.out z;have hszz:=z.prop.size;have hbz:=av hzx;have hb1:∀o,z.val.cell? ⟨W3.heap.size,o,none⟩=W4.cell? ⟨W3.heap.size,o,none⟩:=λo=>z.prop.cell (p:=⟨W3.heap.size,o,none⟩) (by show W3.heap.size<W4.heap.size;omega);have e1:z.val.cell? ⟨W3.heap.size,1,none⟩=some (.func (.func 111) #[] #[]):=(hb1 1).trans ((aG W4 _ 1 _ _ _ K9).trans rfl);have e2:z.val.cell? ⟨W3.heap.size,2,none⟩=some (.func (.func 112) #[] #[]):=(hb1 2).trans ((aG W4 _ 2 _ _ _ K9).trans rfl);have e3:z.val.cell? ⟨W3.heap.size,3,none⟩=some (.func (.func 107) #[] #[]):=(hb1 3).trans ((aG W4 _ 3 _ _ _ K9).trans rfl);have e4:z.val.cell? ⟨W3.heap.size,4,none⟩=some (.func (.func 107) #[] #[]):=(hb1 4).trans ((aG W4 _ 4 _ _ _ K9).trans rfl);have b0z:=b0 z;have b1z:=b1 z;have b2z:=B2.out z;have Xe:=HD1.out z;have hne0:w.heap.size≠bx:=by omega
   have hne1:w.heap.size+1≠bx:=by omega
   have hne2:w.heap.size+2≠bx:=by omega
   have Ba:W3.heap.size≠bx:=by omega
   have KW:D1≠bx:=by omega
   clear hb1 hzx b0 b1 B2 HD1 Zv K9 g0 g1 g2 g3 g4 g5 g6 g7 g8 g9 g10;gi_wp2_with (refine⟨trivial,?_⟩;gi_at_call 110;refine(bQ.2 (jr _ _)).mono ?_;rintro e z2 ⟨rfl,rfl⟩);obtain⟨W5,nW⟩:∃W5,Hid (W5=(z.val.setCell ⟨bx,0,none⟩ (.int .i64 who)).alloc (.cells #[.pointer (some ⟨g,0,none⟩)] 126)):=⟨_,rfl⟩;rw[<-nW.out];have K_:aJ w0 W5 g ⟨⟨dF,dG⟩,⟨dH,dK⟩,⟨some ⟨b,mF,none⟩,dn⟩,⟨dQ,dh⟩,⟨dz,dB⟩⟩ C ⟨⟨fQ,eZ⟩,⟨some ⟨gu,nI,none⟩,eX⟩,⟨some ⟨gm,eu,none⟩,dW⟩⟩ ⟨day,aj,used,ms1⟩ gh gu gm:=by
    rw[nW.out];refine(Zt.W_ (S:=λk=>k=bx) ((aH.refl (λk=>k=bx) z.val).setCell (p:=⟨bx,0,none⟩) (.inl rfl) _) ?_).on (aK (aD _ _) _);rintro k rfl;exact⟨hbn,by have h1:=H.out.below.size;omega⟩
   have hs5:W5.heap.size=z.val.heap.size+1:=by rw[nW.out];simp[World.setCell]
   have Lc:aH (λk=>k=bx) z.val W5:=by
    rw[nW.out];exact((aH.refl (λk=>k=bx) z.val).setCell (p:=⟨bx,0,none⟩) (.inl rfl) _).alloc _
   have x0:=(Lc.cell (o:=0) (by omega) hne0).trans b0z;have x1:=(Lc.cell (o:=0) (by omega) hne1).trans b1z;have x2:=(Lc.cell (o:=0) (by omega) hne2).trans b2z;have q1:=(Lc.cell (o:=1) (by omega) Ba).trans e1;have q2:=(Lc.cell (o:=2) (by omega) Ba).trans e2;have q3:=(Lc.cell (o:=3) (by omega) Ba).trans e3;have q4:=(Lc.cell (o:=4) (by omega) Ba).trans e4;have hd1:=Lc.keep Xe KW;have x5:W5.cell? ⟨bx,0,none⟩=some (.int .i64 who):=by
    have hb:Below z.val.heap.size (z.val.setCell ⟨bx,0,none⟩ (.int .i64 who)) W5:=by rw[nW.out];exact Below.mono (aK (aD _ _) _) (by simp[World.setCell])
    rw[hb.cell (p:=⟨bx,0,none⟩) hbz];exact World.cell?_setCell_same' _ _ _ (by rw[hbc];rfl)
   have x6:W5.cell? ⟨z.val.heap.size,0,none⟩=some (.pointer (some ⟨g,0,none⟩)):=by
    have h:=bC (z.val.setCell ⟨bx,0,none⟩ (.int .i64 who)) (.cells #[.pointer (some ⟨g,0,none⟩)] 126);rw[show(z.val.setCell ⟨bx,0,none⟩ (.int .i64 who)).heap.size=z.val.heap.size by simp[World.setCell],<-nW.out]at h;exact(aG W5 _ 0 _ _ _ h).trans rfl
   have hn5:=H.out.gN (k:=z.val.heap.size) (by omega);have R8:=H.out.gN (k:=W3.heap.size) (by omega);clear b0z b1z b2z Xe e1 e2 e3 e4 hbc hbf Lc nW Zt lq K8 zU;refine uF (ms0:=ms1) (Bw:=z.val.heap.size) (jE C i who) (λi' ms j h=>tL C i who i' ms j h) (λi' ms=>DX C i who i' ms) (by omega) rfl rfl K_ x6 (by omega) hn5 ?a2 ?assign2 ?Xf ?Xg
   case assign2=>
    intro l x W K hK;gi_wp2;exact hK
   case Xf=>
    as_aux_lemma=>
     intro l x m M W hm hrun hml hmx hW hU;have hgo:0<=m.got/\m.got<=1000000:=by
      obtain⟨m',h1,h2,h3⟩:=Gq (C:=C) (act:=i) (ms:=ms) (j:=x) (m:=m) (by rw[HP.out];exact hm);rw[h2];exact HGO.out m' (cK h1) (by rw[<-h3];exact hrun)
     have hpl:=vY.out;have y0:=(hU.cell (o:=0) (by omega) hn0).trans x0;have y1:=(hU.cell (o:=0) (by omega) hn1).trans x1;have r1:=(hU.cell (o:=1) (by omega) R8).trans q1;have r2:=(hU.cell (o:=2) (by omega) R8).trans q2;have r3:=(hU.cell (o:=3) (by omega) R8).trans q3;have r4:=(hU.cell (o:=4) (by omega) R8).trans q4;have y5:=(hU.cell (o:=0) (by omega) hbn).trans x5;have hsW:=hU.size;have hxl:x<ms.length:=by rw[<-hpl];exact(aZ.1 hm).1
     have hxc:x<C.clauses.length:=by rw[<-HL.out];exact hxl
     obtain⟨k,hk⟩:∃k,C.clauses[x]?=some k:=⟨C.clauses[x],aT hxc⟩;have hkm:=cK hk;have hki:=Sc.out k hkm;obtain⟨kb,kL,st,hK,hkb,hkc,_⟩:=hW.con.clause hk;simp only at hK;subst hK;have nN:=hkc _ hW.below;have Zu:kb≠gm:=λe=>by have h1:=hW.uq;omega
     obtain⟨k0,EU,ac,ne,start,af,gr,bu,fi,pa,re,⟨vn,vd⟩,JR,JU,wa⟩:=k;obtain⟨stA,Ac⟩:=st;simp only at hki;obtain⟨c0,c1,c2,c3,c4,c5,c6,c7,c8,c9,c10,c11,c12,c13,c14,c15⟩:=Fh nN rfl;clear nN hkc;obtain⟨FL,qY,FM,hcell',hfz'⟩:=hW.nM hmx;simp only[Option.some.injEq,Addr.mk.injEq,true_and,and_true]at qY;subst qY;obtain⟨m0,m1,m2,m3,m4⟩:=m;simp only at hgo;have d3:W.cell? ⟨gm,eu+x*5+3,none⟩=some (.int .i64 m3):=hcell' 3 (by omega);clear hcell' hfz';have k4:W.cell? ⟨g,4,none⟩=some (.slice (some ⟨kb,kL,none⟩) C.clauses.length dh):=hW.cell 4;have k10:W.cell? ⟨g,10,none⟩=some (.slice (some ⟨gm,eu,none⟩) M.length dW):=hW.cell 10;have hgW:=av hW.head;obtain⟨hg1,hg2⟩:=hgo;obtain⟨hq1,hq2⟩:=hki;have HW:=ah hW;clear hW;have HK:=ah hk;clear hk;have pQ:=ah hmx;clear hmx;have x00:(0:Int)<=(x:Int):=by omega
     have x01:(x:Int)<(C.clauses.length:Int):=by omega
     have x02:(x:Int)<(M.length:Int):=by rw[hml,hpl,HL.out];exact x01
     have HF:Hid (jE C i who x M=cond ((ac==(i:Int))&&((k0==4)||(m3==who))) (M.set x (aC.hit ⟨m0,m1,m2,m3,m4⟩ ⟨k0,EU,ac,ne,start,af,gr,bu,fi,pa,re,⟨vn,vd⟩,JR,JU,wa⟩)) M):=by
      show _=_;simp only[jE,HK.out,pQ.out]
     have l0:w.heap.size<W.heap.size:=by omega
     have l1:w.heap.size+1<W.heap.size:=by omega
     have l2:W3.heap.size<W.heap.size:=by omega
     have l3:bx<W.heap.size:=by omega
     have hpm:gm<W.heap.size:=FM;clear hd1 x0 x1 x2 q1 q2 q3 q4 x5 x6 hn0 hn1 hn2 R8 hn5 K_ hs5 hs4 hs3 hs2 hs1 HB1 hm hrun hml hxl hxc hkm Sc qB qW HAR HGO H HA hU hgl hbl dw hia hbn hbx hszz hbz hne0 hne1 hne2 Ba KW HP vY hpl abR Qp hD1;gi_wp2_with fail;obtain⟨Wc,DZ⟩:∃Wc,Hid (Wc=W.alloc (.cells #[.int .i64 k0,.int .i64 EU,.int .i64 ac,.int .i64 ne,.slice stA start.length Ac,.int .i64 af,.int .i64 gr,.bool bu,.bool fi,.int .i64 pa,.int .i64 re,.int .i64 vn,.int .i64 vd,.int .i64 JR,.int .i64 JU,.bool wa] 112)):=⟨_,rfl⟩;rw[<-DZ.out];have Zx:Hid (Below W.heap.size W Wc):=by
      show Below _ _ _;rw[DZ.out];exact aK (aD _ _) _
     have vB:Hid (aH (gL g gh gu gm) W Wc):=(aH.refl _ _).on Zx.out;have CG:Hid (∀z:Bl Wc,aJ w0 z.val g ⟨⟨dF,dG⟩,⟨dH,dK⟩,⟨some ⟨b,mF,none⟩,dn⟩,⟨some ⟨kb,kL,none⟩,dh⟩,⟨dz,dB⟩⟩ C ⟨⟨fQ,eZ⟩,⟨some ⟨gu,nI,none⟩,eX⟩,⟨some ⟨gm,eu,none⟩,dW⟩⟩ ⟨day,aj,used,M⟩ gh gu gm):=λz=>HW.out.on (ay Zx.out z.prop);have hkc:∀(p o:Nat)(u:Value),p<W.heap.size->W.cell? ⟨p,o,none⟩=some u->∀z:Bl Wc,z.val.cell? ⟨p,o,none⟩=some u:=λp o u h2 h3 z=>((aY (ay Zx.out z.prop)).1 _ _ h2).trans h3;have hcn:∀(o:Nat)(u:Value),(Array.mk [.int .i64 k0,.int .i64 EU,.int .i64 ac,.int .i64 ne,.slice stA start.length Ac,.int .i64 af,.int .i64 gr,.bool bu,.bool fi,.int .i64 pa,.int .i64 re,.int .i64 vn,.int .i64 vd,.int .i64 JR,.int .i64 JU,.bool wa])[o]?=some u->∀z:Bl Wc,z.val.cell? ⟨W.heap.size,o,none⟩=some u:=λo u hu z=>by
      have h:=bC W (.cells #[.int .i64 k0,.int .i64 EU,.int .i64 ac,.int .i64 ne,.slice stA start.length Ac,.int .i64 af,.int .i64 gr,.bool bu,.bool fi,.int .i64 pa,.int .i64 re,.int .i64 vn,.int .i64 vd,.int .i64 JR,.int .i64 JU,.bool wa] 112);rw[<-DZ.out]at h;exact z.cell ((aG Wc _ o _ _ _ h).trans hu)
     have v0:=hkc _ _ _ l0 y0;have v1:=hkc _ _ _ l1 y1;have w1:=hkc _ _ _ l2 r1;have w2:=hkc _ _ _ l2 r2;have w3:=hkc _ _ _ l2 r3;have w4:=hkc _ _ _ l2 r4;have v5:=hkc _ _ _ l3 y5;have v6:=hkc _ _ _ hgW k10;have v7:=hkc _ _ _ hpm d3;have v8:∀z:Bl Wc,z.val.cell? ⟨W.heap.size,0,none⟩=some (.int .i64 k0):=hcn 0 _ rfl;have v9:∀z:Bl Wc,z.val.cell? ⟨W.heap.size,2,none⟩=some (.int .i64 ac):=hcn 2 _ rfl;clear y0 y1 r1 r2 r3 r4 y5 k10 d3 c0 c1 c2 c3 c4 c5 c6 c7 c8 c9 c10 c11 c12 c13 c14 c15 k4 hkc hcn l0 l1 l2 l3 hpm DZ Zx hsW;have hkk:k0=1\/k0=2\/k0=3\/k0=4:=by omega
     clear hq1 hq2;cases qa:(ac==(i:Int))with
     |false=>
      as_aux_lemma=>
       clear hkk;refine aO (s:=(⟨Wc,aD _ _⟩:Bl Wc)) 21 (jH.round _ _) (by simp) (by kernel_rfl) (by kernel_rfl) ?_;simp only[fK,bV,fT,cO];repeat(go_big_quiet_step (fail))
       refine aS ?_;rintro _ ⟨z1,rfl⟩;gi_wp2_with fail;refine⟨?_,vB.out.on z1.prop⟩;rw[HF.out,qa,Bool.false_and,cond_false];exact CG.out z1
     |true=>
      rcases hkk with rfl|hkk
      .cases qb:(m3==who)with
       |true=>
        as_aux_lemma=>
         refine aO (s:=(⟨Wc,aD _ _⟩:Bl Wc)) 21 (jH.round _ _) (by simp) (by kernel_rfl) (by kernel_rfl) ?_;simp only[fK,bV,fT,cO];repeat(go_big_quiet_step (fail))
         refine aS ?_;rintro _ ⟨z1,rfl⟩;gi_wp2_with fail;have HC:Hid (∀z:Bl Wc,Calls Tryz.prog 111 #[.pointer (some ⟨g,0,none⟩),.int .i64 x] z.val _):=λz=>Dz (CG.out z) x _ pQ.out _ HK.out hg1 hg2;refine aO (s:=z1) 6 (jH.round _ _) (by simp) (by kernel_rfl) (by kernel_rfl) ?_;simp only[fK,bV,fT,cO];repeat(go_big_quiet_step (fail))
         refine aS ?_;rintro _ ⟨z3,rfl⟩;gi_wp2_with (refine⟨trivial,?_⟩;gi_at_call 111;refine(CallsIn.inRound l (bQ.2 (HC.out z3))).mono ?_;rintro e zc ⟨rfl,hz1,hz2⟩);refine⟨?_,(vB.out.on z3.prop).trans hz2 (λ_ _ h=>h)⟩;rw[HF.out,qa,qb,Bool.or_true,Bool.and_true,cond_true];exact hz1
       |false=>
        as_aux_lemma=>
         refine aO (s:=(⟨Wc,aD _ _⟩:Bl Wc)) 21 (jH.round _ _) (by simp) (by kernel_rfl) (by kernel_rfl) ?_;simp only[fK,bV,fT,cO];repeat(go_big_quiet_step (fail))
         refine aS ?_;rintro _ ⟨z1,rfl⟩;gi_wp2_with fail;refine⟨?_,vB.out.on z1.prop⟩;rw[HF.out,qa,qb,show((1:Int)==4)=false from rfl,Bool.or_false,Bool.and_false,cond_false];exact CG.out z1
      rcases hkk with rfl|hkk
      .cases qb:(m3==who)with
       |true=>
        as_aux_lemma=>
         refine aO (s:=(⟨Wc,aD _ _⟩:Bl Wc)) 21 (jH.round _ _) (by simp) (by kernel_rfl) (by kernel_rfl) ?_;simp only[fK,bV,fT,cO];repeat(go_big_quiet_step (fail))
         refine aS ?_;rintro _ ⟨z1,rfl⟩;gi_wp2_with fail;have HC:Hid (∀z:Bl Wc,Calls Tryz.prog 112 #[.pointer (some ⟨g,0,none⟩),.int .i64 x] z.val _):=λz=>Dy (CG.out z) x _ pQ.out;refine aO (s:=z1) 6 (jH.round _ _) (by simp) (by kernel_rfl) (by kernel_rfl) ?_;simp only[fK,bV,fT,cO];repeat(go_big_quiet_step (fail))
         refine aS ?_;rintro _ ⟨z3,rfl⟩;gi_wp2_with (refine⟨trivial,?_⟩;gi_at_call 112;refine(CallsIn.inRound l (bQ.2 (HC.out z3))).mono ?_;rintro e zc ⟨rfl,hz1,hz2⟩);refine⟨?_,(vB.out.on z3.prop).trans hz2 (λ_ _ h=>h)⟩;rw[HF.out,qa,qb,Bool.or_true,Bool.and_true,cond_true];exact hz1
       |false=>
        as_aux_lemma=>
         refine aO (s:=(⟨Wc,aD _ _⟩:Bl Wc)) 21 (jH.round _ _) (by simp) (by kernel_rfl) (by kernel_rfl) ?_;simp only[fK,bV,fT,cO];repeat(go_big_quiet_step (fail))
         refine aS ?_;rintro _ ⟨z1,rfl⟩;gi_wp2_with fail;refine⟨?_,vB.out.on z1.prop⟩;rw[HF.out,qa,qb,show((2:Int)==4)=false from rfl,Bool.or_false,Bool.and_false,cond_false];exact CG.out z1
      rcases hkk with rfl|hkk
      .cases qb:(m3==who)with
       |true=>
        as_aux_lemma=>
         refine aO (s:=(⟨Wc,aD _ _⟩:Bl Wc)) 21 (jH.round _ _) (by simp) (by kernel_rfl) (by kernel_rfl) ?_;simp only[fK,bV,fT,cO];repeat(go_big_quiet_step (fail))
         refine aS ?_;rintro _ ⟨z1,rfl⟩;gi_wp2_with fail;have HC:Hid (∀z:Bl Wc,Calls Tryz.prog 107 #[.pointer (some ⟨g,0,none⟩),.int .i64 x] z.val _):=λz=>uw (CG.out z) x _ pQ.out;refine aO (s:=z1) 6 (jH.round _ _) (by simp) (by kernel_rfl) (by kernel_rfl) ?_;simp only[fK,bV,fT,cO];repeat(go_big_quiet_step (fail))
         refine aS ?_;rintro _ ⟨z3,rfl⟩;gi_wp2_with (refine⟨trivial,?_⟩;gi_at_call 107;refine(CallsIn.inRound l (bQ.2 (HC.out z3))).mono ?_;rintro e zc ⟨rfl,hz1,hz2⟩);refine⟨?_,(vB.out.on z3.prop).trans hz2 (λ_ _ h=>h)⟩;rw[HF.out,qa,qb,Bool.or_true,Bool.and_true,cond_true];exact hz1
       |false=>
        as_aux_lemma=>
         refine aO (s:=(⟨Wc,aD _ _⟩:Bl Wc)) 21 (jH.round _ _) (by simp) (by kernel_rfl) (by kernel_rfl) ?_;simp only[fK,bV,fT,cO];repeat(go_big_quiet_step (fail))
         refine aS ?_;rintro _ ⟨z1,rfl⟩;gi_wp2_with fail;refine⟨?_,vB.out.on z1.prop⟩;rw[HF.out,qa,qb,show((3:Int)==4)=false from rfl,Bool.or_false,Bool.and_false,cond_false];exact CG.out z1
      .subst hkk
       as_aux_lemma=>
        refine aO (s:=(⟨Wc,aD _ _⟩:Bl Wc)) 21 (jH.round _ _) (by simp) (by kernel_rfl) (by kernel_rfl) ?_;simp only[fK,bV,fT,cO];repeat(go_big_quiet_step (fail))
        refine aS ?_;rintro _ ⟨z1,rfl⟩;gi_wp2_with fail;have HC:Hid (∀z:Bl Wc,Calls Tryz.prog 107 #[.pointer (some ⟨g,0,none⟩),.int .i64 x] z.val _):=λz=>uw (CG.out z) x _ pQ.out;refine aO (s:=z1) 6 (jH.round _ _) (by simp) (by kernel_rfl) (by kernel_rfl) ?_;simp only[fK,bV,fT,cO];repeat(go_big_quiet_step (fail))
        refine aS ?_;rintro _ ⟨z3,rfl⟩;gi_wp2_with (refine⟨trivial,?_⟩;gi_at_call 107;refine(CallsIn.inRound l (bQ.2 (HC.out z3))).mono ?_;rintro e zc ⟨rfl,hz1,hz2⟩);refine⟨?_,(vB.out.on z3.prop).trans hz2 (λ_ _ h=>h)⟩;rw[HF.out,qa,show((4:Int)==4)=true from rfl,Bool.true_or,Bool.and_true,cond_true];exact hz1
   case Xg=>
    as_aux_lemma=>
     intro D2 W6 hD2 YG Jk hK2;generalize hQ:(f_ ms1 ms1.length).foldl (λms i'=>jE C i who i' ms) ms1=ms2 at YG;have HQ:Hid (C.Bc i who ms1=ms2):=hQ;clear hQ;have HQL:Hid (ms2.length=C.clauses.length):=by
      show _=_;rw[<-HQ.out,Cy,vY.out,HL.out]
     have y0:=(Jk.cell (o:=0) (by omega) hn0).trans x0;have y1:=(Jk.cell (o:=0) (by omega) hn1).trans x1;have y2:=(Jk.cell (o:=0) (by omega) hn2).trans x2;have hd2:=Jk.keep hd1 Qp;have abS:¬gL g gh gu gm D2:=H.out.gN (by omega);have hs6:=Jk.size;have aiI:D1<D2:=by omega
     have vC:=ah Jk;clear Jk;have yG:=ah YG;clear YG;have hwW:w.heap.size<=W6.heap.size:=by omega
     have hw0:w0.heap.size<=w.heap.size:=H.out.below.size;have HSH:=ah (Ua yG.out i ⟨ki,ro,gi,tg,un,⟨ln,ld⟩⟩ HA.out hiu Xi.out.1 Xi.out.2 HQL.out);have hk1:=HK1.out;have l0:w.heap.size<W6.heap.size:=by omega
     clear x0 x1 x2 q1 q2 q3 q4 x5 x6 K_;gi_wp2_with (refine⟨trivial,?_⟩;gi_at_call 114;refine(bQ.2 HSH.out).mono ?_;rintro e zs ⟨rfl,hs1,hs2⟩;refine Hid.out ?_);refine ah ?_;have y0':=(hs2.cell (o:=0) l0 hn0).trans y0;have EA:Hid (aH (gL g gh gu gm) W6 zs):=hs2;have HST:=ah (yB hs1 (by
      show List.length _=_;simp only[au.shift];cases (ki !=3:Bool)
      .simp only[cond_false]
       rw[qO _ (λi' ms=>ow C gi tg i' ms)];exact HQL.out
      .exact HQL.out) qB.out (by
      show∀k∈C.clauses,k.kind≠4->0<=k.role/\k.role<List.length _;simp only[au.shift,List.length_set];exact qW.out))
     clear hs2 hs1 y0 y1 y2;gi_wp2_with (refine⟨trivial,?_⟩;gi_at_call 67;refine(bQ.2 HST.out).mono ?_;rintro e zc ⟨rfl,hz1,hz2⟩);have hU8:aH (gL g gh gu gm) W6 zc:=EA.out.trans hz2 (λ_ _ h=>h);have hKa:=hU8.keep hK2 abS;have hKb:=hU8.keep hd2 Qp;have Qq:=grownBy_putObj' zc D2 (.deferred none);have hKc:=(Qq.block D1 (av hKb) (by simp;omega)).trans hKb;have Xh:=grownBy_putObj' (zc.putObj D2 (.deferred none)) D1 (.deferred none);refine⟨by simp,.inl ⟨_,_,rfl,run_takeDeferred hKa,?_⟩⟩;refine⟨by simp,.inl ⟨_,_,rfl,run_takeDeferred hKc,?_⟩⟩;have hr1:∀r,some D2=some r->w0.heap.size<=r/\∃o,zc.heap[r]?=some o/\o.isCells=false:=λr e=>by
      injection e with e
      subst e;exact⟨by omega,_,hKa,rfl⟩
     have hr2:∀r,some D1=some r->w0.heap.size<=r/\∃o,(zc.putObj D2 (.deferred none)).heap[r]?=some o/\o.isCells=false:=λr e=>by
      injection e with e
      subst e;exact⟨by omega,_,hKc,rfl⟩
     have h8:=aJ.lM (β:=Unit) (λ_=>(let s3:=C.shift i ⟨ki,ro,gi,tg,un,⟨ln,ld⟩⟩ ⟨day,aj,used,ms2⟩;(⟨s3.day,s3.aj,s3.used,C.begin s3.aj s3.marks⟩:ak))) _ (bH _) () zc _ _ hz1 Qq hr1;have h9:=aJ.lM (β:=Unit) (λ_=>(let s3:=C.shift i ⟨ki,ro,gi,tg,un,⟨ln,ld⟩⟩ ⟨day,aj,used,ms2⟩;(⟨s3.day,s3.aj,s3.used,C.begin s3.aj s3.marks⟩:ak))) _ (bH _) () _ _ _ h8 Xh hr2;refine⟨_,results_none rfl _ _ _,rfl,?_,bF (bF (bF hwW hU8.size) Qq.size) Xh.size⟩;simp only[au.act,HK1.out,Bool.true_and,show used.getD i false=false by rw[Fe,HUS.out];rfl,cond_false,cond_true,HP.out,HBY.out,HQ.out];exact h9
end Go.Proofs.YtpmdedcnbockhaaGreatDoor
