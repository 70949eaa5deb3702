/- part -/
import Derived.Test.YtpmdedcnbockhaaGreatDoorS11
import Derived.Test.YtpmdedcnbockhaaGreatDoorS13
import Derived.Laws.EntriesVeiled
set_option maxRecDepth 100000
set_option maxHeartbeats 8000000
namespace Go.Proofs
open Go.RowKit Go.Lib Tryz
end Go.Proofs
namespace Go.Proofs.YtpmdedcnbockhaaGreatDoor
section
open Go.RowKit Go.Shelf Tryz
theorem At.GL{w:World}{A:Option Addr}{c:Nat}{l:List Int}(h:At w 1 A l.length c (aZ l))(h0:0<l.length):∃b off,A=some ⟨b,off,none⟩/\∀j,j<l.length->w.cell? ⟨b,off+j,none⟩=some (.int .i64 (l.getD j 0)):=by
 obtain⟨ad,hA,hc⟩:=h.1.2.2 h0;have hx:∀j,j<l.length->w.cell? (ad.add j)=some (.int .i64 (l.getD j 0)):=λj hj=>hc j _ (by simp[aZ,hj]);obtain⟨b,off,r⟩:=ad;have h1:=hx 0 h0;obtain rfl:r=none:=by
  cases r with
  |none=>rfl
  |some r=>
   simp only[Addr.add,World.cell?]at h1;split at h1<;>simp at h1
 exact⟨b,off,hA,λj hj=>by have h2:=hx j hj;simp only[Addr.add]at h2;split at h2<;>simp_all⟩
theorem Ra{w:World}{A:Option Addr}{c:Nat}{l:List Int}(h:At w 1 A l.length c (aZ l))(hs:l.Pairwise (·<=·))(hl:l.length<4611686018427387904)(x:Int):
 Calls prog 109 #[.slice A l.length c,.int .i64 x] w (dZ (.tuple #[.int .i64 (l.countP (· <x):Nat),.bool (l.contains x)]) w):=by
 cases l with
 |nil=>
  refine(Any.slices_BinarySearch_int_empty Tryz.laysSearch A c x w).mono ?_;rintro e w' ⟨rfl,rfl⟩;exact⟨rfl,Below.refl _ _⟩
 |cons y l=>
  obtain⟨b,off,rfl,hc⟩:=h.GL (by simp);refine(Any.slices_BinarySearch_int Tryz.laysSearch b off (y::l).length c (y::l) x w (Nat.le_refl _) hl hc (by rw[List.take_length];exact hs)).mono ?_;rintro e w' ⟨rfl,q,rfl⟩;rw[List.take_length];exact⟨rfl,below_drewN _ _⟩
end
open Go.RowKit Go.Shelf Tryz
attribute [local go_sem] Oper.semAt_some AA kT
theorem aH.X7{S:Nat->Prop}{w0 w w':World}{g:Nat}{v:CV}{C:au}{t:TV}{s:ak}{gh gu gm:Nat}(h:aH w0 w g v C t s gh gu gm)(hu:aG S w w')(hS:∀k,S k->¬gX g gh gu gm k/\w0.heap.size<=k):aH w0 w' g v C t s gh gu gm:=
 ⟨hu.keep h.head (λe=>(hS _ e).1 (.inl rfl)),h.con,h.below.trans (hu.below h.below.size (λk hk=>(hS k hk).2)),
  h.aj.keep hu (λk hk e=>by injection hk with hk;subst hk;exact(hS _ e).1 (.inr (.inl rfl))),
  h.used.keep hu (λk hk e=>by injection hk with hk;subst hk;exact(hS _ e).1 (.inr (.inr (.inl rfl)))),
  h.marks.keep hu (λk hk e=>by injection hk with hk;subst hk;exact(hS _ e).1 (.inr (.inr (.inr rfl)))),h.newG,h.newH,h.Aw,h.uL⟩
theorem X8{w0 w:World}{g:Nat}{v:CV}{C:au}{t:TV}{s:ak}{gh gu gm:Nat}(h:aH w0 w g v C t s gh gu gm)(hlen:s.marks.length=C.clauses.length)
 (hin:∀k∈C.clauses,∀c∈k.start,0<=c.clause/\c.clause<C.clauses.length)(hro:∀k∈C.clauses,k.kind≠4->0<=k.role/\k.role<s.aj.length)
 (hki:∀k∈C.clauses,1<=k.kind/\k.kind<=4)(hof:C.off.Pairwise (·<=·))(hol:C.off.length<4611686018427387904)(hd0:0<=s.day)(hd1:s.day<=1000000)(hle:∀m∈s.marks,m.runs=true->1<=m.left/\m.left<=1000000):
 Calls prog 69 #[.pointer (some ⟨g,0,none⟩)] w (xE w0 g v C t (C.tick s) gh gu gm w):=by
 obtain⟨⟨dV,dW⟩,⟨dX,dY⟩,⟨fB,dH⟩,⟨eZ,dM⟩,⟨dQ,dR⟩⟩:=v;obtain⟨eP,Jp,_⟩:=h.marks.Qb;obtain⟨⟨eu,dN⟩,⟨eH,dL⟩,⟨fF,bY⟩⟩:=t;simp only at Jp;subst Jp;obtain⟨day,aj,used,ms⟩:=s;simp only at hlen hro hd0 hd1 hle;have g6:w.cell? ⟨g,6,none⟩=some (.slice dQ C.off.length dR):=h.cell 6;have g7:w.cell? ⟨g,7,none⟩=some (.int .i64 day):=h.cell 7;have hgl:=aB h.head;have X9:=h.con.off;have H:=Lib.hid h;clear h;have HL:=Lib.hid hlen;clear hlen;have uE:=Lib.hid hin;clear hin;have rT:=Lib.hid hro;clear hro;have Tz:=Lib.hid hki;clear hki;have HOF:=Lib.hid hof;clear hof;have WE:=Lib.hid hle;clear hle;have HOA:=Lib.hid X9;clear X9;refine(callsIn_wide (n:=3)).1 ?_;refine callsIn_of_wp_marks func69 rfl trivial ?_ rfl;simp only[ntmps69,List.size_toArray,List.length_cons,List.length_nil,Nat.reduceAdd,Nat.reduceSub,Array.replicate_succ,Array.replicate_zero,List.push_toArray,List.append_toArray,List.nil_append,List.cons_append];gi_wp2;obtain⟨W0,HW0⟩:∃W0,Hid (W0=(w.alloc (.cells #[.pointer (some ⟨g,0,none⟩)] 126)).alloc (.cells #[.nilFunc,.func (.func 106) #[] #[],.func (.func 107) #[] #[],.func (.func 108) #[] #[],.func (.func 108) #[] #[]] 186)):=⟨_,rfl⟩;have hh0:W0.heap[w.heap.size]?=some (.cells #[.pointer (some ⟨g,0,none⟩)] 126 (0,0)):=by
  rw[HW0.out];exact(Below.heap_alloc _ _ _ (by simp)).trans (heap_alloc_new w _)
 have HB0:Hid (Below w.heap.size w W0):=by
  show Below _ _ _;rw[HW0.out];exact Below.jX (Below.jX (Below.refl _ _) _) _
 have hs0:W0.heap.size=w.heap.size+2:=by rw[HW0.out];simp
 have gG:W0.heap[w.heap.size+1]?=some (.cells #[.nilFunc,.func (.func 106) #[] #[],.func (.func 107) #[] #[],.func (.func 108) #[] #[],.func (.func 108) #[] #[]] 186 (0,0)):=by
  rw[HW0.out];have h:=heap_alloc_new (w.alloc (.cells #[.pointer (some ⟨g,0,none⟩)] 126)) (.cells #[.nilFunc,.func (.func 106) #[] #[],.func (.func 107) #[] #[],.func (.func 108) #[] #[],.func (.func 108) #[] #[]] 186);rw[World.size_alloc]at h;exact h
 rw[<-HW0.out];have kL:Hid (∀z:Bl W0,aH w0 z.val g ⟨⟨dV,dW⟩,⟨dX,dY⟩,⟨fB,dH⟩,⟨eZ,dM⟩,⟨dQ,dR⟩⟩ C ⟨⟨eu,dN⟩,⟨eH,dL⟩,⟨some ⟨gm,eP,none⟩,bY⟩⟩ ⟨day,aj,used,ms⟩ gh gu gm):=λz=>H.out.on (Below.step HB0.out z.prop);have b0:∀z:Bl W0,z.val.cell? ⟨w.heap.size,0,none⟩=some (.pointer (some ⟨g,0,none⟩)):=λz=>z.cell ((cell_of_row W0 _ 0 _ _ _ hh0).trans rfl);have g6':∀z:Bl W0,z.val.cell? ⟨g,6,none⟩=some (.slice dQ C.off.length dR):=λz=>(kL.out z).cell 6;have g7':∀z:Bl W0,z.val.cell? ⟨g,7,none⟩=some (.int .i64 day):=λz=>(kL.out z).cell 7;have S_:Hid (∀z:Bl W0,Calls prog 109 #[.slice dQ C.off.length dR,.int .i64 day] z.val (dZ (.tuple #[.int .i64 (C.off.countP (· <day):Nat),.bool (C.off.contains day)]) z.val)):=λz=>
  Ra (HOA.out.below (by omega) ((kL.out z).below)) HOF.out hol day
 generalize hfr:C.off.contains day=free at S_;generalize hcn:C.off.countP (· <day)=cnt at S_;have HFR:=Lib.hid hfr;clear hfr hcn;clear g6 g7;refine nK (s:=(⟨W0,Below.refl _ _⟩:Bl W0)) 16 14 _ (.cells #[.bool false] 4) (jV.wide _) (by simp) (by kernel_rfl) (by kernel_rfl) rfl (by kernel_rfl) (λa w=>by go_simp) ?_;simp only[List.take_succ_cons,List.take_zero,List.drop_succ_cons,List.drop_zero,List.eraseIdx_cons_succ,List.eraseIdx_cons_zero];repeat(refine t_ (λK hK=>?_);go_simp;first|(refine hK _ ?_;clear hK K)|(apply Exists.intro;refine⟨λz=>?_,hK _ ?_⟩;(go_at_call 109;exact S_.out z);clear hK K))
 refine vO ?_;intro bx z hbx hzx;have hbc:z.val.cell? ⟨bx,0,none⟩=some (.bool false):=(cell_of_row z.val _ 0 _ _ _ hzx).trans rfl;have hbf:z.val.frozen? ⟨bx,0,none⟩=false:=by simp[World.frozen?,hzx]
 have hbn:¬gX g gh gu gm bx:=H.out.gZ (by omega);have hWz:=kL.out z;have hszz:=z.prop.size;have hbz:=aB hzx;have hb1:∀o,z.val.cell? ⟨w.heap.size+1,o,none⟩=W0.cell? ⟨w.heap.size+1,o,none⟩:=λo=>z.prop.cell (p:=⟨w.heap.size+1,o,none⟩) (by show w.heap.size+1<W0.heap.size;omega);have e1:z.val.cell? ⟨w.heap.size+1,1,none⟩=some (.func (.func 106) #[] #[]):=(hb1 1).trans ((cell_of_row W0 _ 1 _ _ _ gG).trans rfl);have e2:z.val.cell? ⟨w.heap.size+1,2,none⟩=some (.func (.func 107) #[] #[]):=(hb1 2).trans ((cell_of_row W0 _ 2 _ _ _ gG).trans rfl);have e3:z.val.cell? ⟨w.heap.size+1,3,none⟩=some (.func (.func 108) #[] #[]):=(hb1 3).trans ((cell_of_row W0 _ 3 _ _ _ gG).trans rfl);have e4:z.val.cell? ⟨w.heap.size+1,4,none⟩=some (.func (.func 108) #[] #[]):=(hb1 4).trans ((cell_of_row W0 _ 4 _ _ _ gG).trans rfl);have b0z:=b0 z;have hne0:w.heap.size≠bx:=by omega
 have hne1:w.heap.size+1≠bx:=by omega
 clear hb1 hzx g6' g7' b0 S_ hh0 gG HOA;gi_wp2_with (refine⟨trivial,?_⟩;gi_at_call 110;refine(callsIn_wide.2 (jP _ _)).mono ?_;rintro e z2 ⟨rfl,rfl⟩);obtain⟨W2,HW2⟩:∃W2,Hid (W2=(z.val.setCell ⟨bx,0,none⟩ (.bool free)).alloc (.cells #[.pointer (some ⟨g,0,none⟩)] 126)):=⟨_,rfl⟩;rw[<-HW2.out];have hW2:aH w0 W2 g ⟨⟨dV,dW⟩,⟨dX,dY⟩,⟨fB,dH⟩,⟨eZ,dM⟩,⟨dQ,dR⟩⟩ C ⟨⟨eu,dN⟩,⟨eH,dL⟩,⟨some ⟨gm,eP,none⟩,bY⟩⟩ ⟨day,aj,used,ms⟩ gh gu gm:=by
  rw[HW2.out];refine(hWz.X7 (S:=λk=>k=bx) ((aG.refl (λk=>k=bx) z.val).setCell (p:=⟨bx,0,none⟩) (.inl rfl) _) ?_).on (Below.jX (Below.refl _ _) _);rintro k rfl;exact⟨hbn,by have h1:=H.out.below.size;omega⟩
 have hs2:W2.heap.size=z.val.heap.size+1:=by rw[HW2.out];simp[World.setCell]
 have hk2:∀(p o:Nat)(u:Value),p≠bx->p<z.val.heap.size->z.val.cell? ⟨p,o,none⟩=some u->W2.cell? ⟨p,o,none⟩=some u:=λp o u h1 h2 h3=>by
  have hb:Below z.val.heap.size (z.val.setCell ⟨bx,0,none⟩ (.bool free)) W2:=by rw[HW2.out];exact Below.mono (Below.jX (Below.refl _ _) _) (by simp[World.setCell])
  rw[hb.cell (p:=⟨p,o,none⟩) h2,World.cell?_setCell_other _ _ _ _ (λe=>h1 (by first|exact congrArg Addr.block e|exact(congrArg Addr.block e).symm))];exact h3
 have x0:=hk2 _ _ _ hne0 (by omega) b0z;have x1:=hk2 _ _ _ hne1 (by omega) e1;have x2:=hk2 _ _ _ hne1 (by omega) e2;have x3:=hk2 _ _ _ hne1 (by omega) e3;have x4:=hk2 _ _ _ hne1 (by omega) e4;have x5:W2.cell? ⟨bx,0,none⟩=some (.bool free):=by
  have hb:Below z.val.heap.size (z.val.setCell ⟨bx,0,none⟩ (.bool free)) W2:=by rw[HW2.out];exact Below.mono (Below.jX (Below.refl _ _) _) (by simp[World.setCell])
  rw[hb.cell (p:=⟨bx,0,none⟩) hbz];exact World.cell?_setCell_same' _ _ _ (by rw[hbc];rfl)
 have x6:W2.cell? ⟨z.val.heap.size,0,none⟩=some (.pointer (some ⟨g,0,none⟩)):=by
  have h:=heap_alloc_new (z.val.setCell ⟨bx,0,none⟩ (.bool free)) (.cells #[.pointer (some ⟨g,0,none⟩)] 126);rw[show(z.val.setCell ⟨bx,0,none⟩ (.bool free)).heap.size=z.val.heap.size by simp[World.setCell],<-HW2.out]at h;exact(cell_of_row W2 _ 0 _ _ _ h).trans rfl
 have hn0:=H.out.gZ (k:=w.heap.size) (Nat.le_refl _);have hn1:=H.out.gZ (k:=w.heap.size+1) (by omega);have hn2:=H.out.gZ (k:=z.val.heap.size) (by omega);have ac6:W0.heap.size<=W2.heap.size:=by omega
 clear hk2 b0z e1 e2 e3 e4 hbc hbf;refine uR (ms0:=ms) (kW C free) (λi ms j h=>xZ C free i ms j h) (λi ms=>B_ C free i ms) (by omega) rfl rfl hW2 x6 (by omega) hn2 ?a1 ?assign ?body ?done
 case assign=>
  intro l x W K hK;gi_wp2;exact hK
 case body=>
  as_aux_lemma=>
   intro l x m M W hm hrun hml hmx hW hU;have hxl:x<ms.length:=(List.getElem?_eq_some_iff.1 hm).1;have hxc:x<C.clauses.length:=by rw[<-HL.out];exact hxl
   obtain⟨k,hk⟩:∃k,C.clauses[x]?=some k:=⟨C.clauses[x],List.getElem?_eq_getElem hxc⟩;have hkm:=List.mem_of_getElem? hk;have hki:=Tz.out k hkm;have hle:=WE.out m (List.mem_of_getElem? hm) hrun;have y0:=(hU.cell (o:=0) (by omega) hn0).trans x0;have y1:=(hU.cell (o:=1) (by omega) hn1).trans x1;have y2:=(hU.cell (o:=2) (by omega) hn1).trans x2;have y3:=(hU.cell (o:=3) (by omega) hn1).trans x3;have y4:=(hU.cell (o:=4) (by omega) hn1).trans x4;have y5:=(hU.cell (o:=0) (by omega) hbn).trans x5;have hsW:=hU.size;have l0:w.heap.size<W.heap.size:=by omega
   have l1:w.heap.size+1<W.heap.size:=by omega
   have l2:bx<W.heap.size:=by omega
   have nm0:w.heap.size≠gm:=λe=>hn0 (.inr (.inr (.inr e)));have ZI:w.heap.size+1≠gm:=λe=>hn1 (.inr (.inr (.inr e)));have nm2:bx≠gm:=λe=>hbn (.inr (.inr (.inr e)));have nm3:g≠gm:=hW.Kr;obtain⟨kb,kK,st,hK,hkb,hkc,_⟩:=hW.con.clause hk;simp only at hK;subst hK;have mJ:=hkc _ hW.below;have aaB:kb≠gm:=λe=>by have h1:=hW.uL;omega
   obtain⟨ki,ro,ac,ne,start,af,gr,bu,fi,pa,re,⟨vn,vd⟩,un,tg,wa⟩:=k;obtain⟨stA,wQ⟩:=st;simp only at hki;obtain⟨c0,c1,c2,c3,c4,c5,c6,c7,c8,c9,c10,c11,c12,c13,c14,c15⟩:=EP mJ rfl;clear mJ hkc;obtain⟨Gq,rV,Gr,hcell',hfz'⟩:=hW.oD hmx;simp only[Option.some.injEq,Addr.mk.injEq,true_and,and_true]at rV;subst rV;obtain⟨m0,m1,m2,m3,m4⟩:=m;simp only at hle;have d1:W.cell? ⟨gm,eP+x*5+1,none⟩=some (.int .i64 m1):=hcell' 1 (by omega);have d4:W.cell? ⟨gm,eP+x*5+4,none⟩=some (.bool m4):=hcell' 4 (by omega);have f1:=hfz' (eP+x*5+1);clear hcell' hfz';have k4:W.cell? ⟨g,4,none⟩=some (.slice (some ⟨kb,kK,none⟩) C.clauses.length dM):=hW.cell 4;have k10:W.cell? ⟨g,10,none⟩=some (.slice (some ⟨gm,eP,none⟩) M.length bY):=hW.cell 10;have hgW:=aB hW.head;obtain⟨hl1,hl2⟩:=hle;obtain⟨hq1,hq2⟩:=hki;have HW:=Lib.hid hW;clear hW;have HU:=Lib.hid hU;clear hU;have HK:=Lib.hid hk;clear hk;have qB:=Lib.hid hmx;clear hmx;have x00:(0:Int)<=(x:Int):=by omega
   have x01:(x:Int)<(C.clauses.length:Int):=by omega
   have x02:(x:Int)<(M.length:Int):=by rw[hml,HL.out];exact x01
   have HF:Hid (kW C free x M=cond (m4||(bu&&free)) M (M.set x (aD.xY ⟨m0,m1,m2,m3,m4⟩ ⟨ki,ro,ac,ne,start,af,gr,bu,fi,pa,re,⟨vn,vd⟩,un,tg,wa⟩))):=by
    show _=_;simp only[kW,HK.out,qB.out]
   clear HW2 HW0 HB0 hs0 kL hbx hbn hszz hbz hne0 hne1 hW2 hs2 x0 x1 x2 x3 x4 x5 x6 hn0 hn1 hn2 ac6 hm hrun hml hxl hxc hkm Tz WE hWz HOF hol uE rT hd0 hd1 HFR H;cases m4 with
   |true=>
    as_aux_lemma=>
     gi_wp2_with fail;refine⟨?_,(aG.refl _ _).alloc _⟩;rw[HF.out];exact HW.out.on (Below.jX (Below.refl _ _) _)
   |false=>
    cases bu with
    |false=>
     as_aux_lemma=>
      gi_wp2_with fail
      .rename_i hz
       obtain⟨Wc,wU⟩:∃Wc,Hid (Wc=(W.setCell ⟨gm,eP+x*5+1,none⟩ (.int .i64 (m1 - 1))).alloc (.cells #[.int .i64 ki,.int .i64 ro,.int .i64 ac,.int .i64 ne,.slice stA start.length wQ,.int .i64 af,.int .i64 gr,.bool false,.bool fi,.int .i64 pa,.int .i64 re,.int .i64 vn,.int .i64 vd,.int .i64 un,.int .i64 tg,.bool wa] 112)):=⟨_,rfl⟩;rw[<-wU.out];have hWc:aH w0 Wc g ⟨⟨dV,dW⟩,⟨dX,dY⟩,⟨fB,dH⟩,⟨some ⟨kb,kK,none⟩,dM⟩,⟨dQ,dR⟩⟩ C ⟨⟨eu,dN⟩,⟨eH,dL⟩,⟨some ⟨gm,eP,none⟩,bY⟩⟩ ⟨day,aj,used,M.set x ⟨m0,m1 - 1,m2,m3,false⟩⟩ gh gu gm:=by
        rw[wU.out];exact(HW.out.gL (j:=1) (m':=⟨m0,m1 - 1,m2,m3,false⟩) qB.out (by omega) rfl).on (Below.jX (Below.refl _ _) _)
       have vR:Hid (aG (gX g gh gu gm) W Wc):=by
        show aG _ _ _;rw[wU.out];exact((aG.refl _ _).setCell (.inl (.inr (.inr (.inr rfl)))) _).alloc _
       have hkc:∀(p o:Nat)(u:Value),p≠gm->p<W.heap.size->W.cell? ⟨p,o,none⟩=some u->Wc.cell? ⟨p,o,none⟩=some u:=λp o u h1 h2 h3=>by
        have hb:Below W.heap.size (W.setCell ⟨gm,eP+x*5+1,none⟩ (.int .i64 (m1 - 1))) Wc:=by rw[wU.out];exact Below.mono (Below.jX (Below.refl _ _) _) (by simp[World.setCell])
        rw[hb.cell (p:=⟨p,o,none⟩) h2,World.cell?_setCell_other _ _ _ _ (λe=>h1 (by first|exact congrArg Addr.block e|exact(congrArg Addr.block e).symm))];exact h3
       have v0:=hkc _ _ _ nm0 l0 y0;have v1:=hkc _ _ _ ZI l1 y1;have v2:=hkc _ _ _ ZI l1 y2;have v3:=hkc _ _ _ ZI l1 y3;have v4:=hkc _ _ _ ZI l1 y4;have v5:Wc.cell? ⟨W.heap.size,0,none⟩=some (.int .i64 ki):=by
        have h:=heap_alloc_new (W.setCell ⟨gm,eP+x*5+1,none⟩ (.int .i64 (m1 - 1))) (.cells #[.int .i64 ki,.int .i64 ro,.int .i64 ac,.int .i64 ne,.slice stA start.length wQ,.int .i64 af,.int .i64 gr,.bool false,.bool fi,.int .i64 pa,.int .i64 re,.int .i64 vn,.int .i64 vd,.int .i64 un,.int .i64 tg,.bool wa] 112);rw[show(W.setCell ⟨gm,eP+x*5+1,none⟩ (.int .i64 (m1 - 1))).heap.size=W.heap.size by simp[World.setCell],<-wU.out]at h;exact(cell_of_row Wc _ 0 _ _ _ h).trans rfl
       have Dy:=Lib.hid hWc;clear hWc;have hmc:(M.set x ⟨m0,m1 - 1,m2,m3,false⟩)[x]?=some ⟨m0,m1 - 1,m2,m3,false⟩:=by rw[List.getElem?_set_self (List.getElem?_eq_some_iff.1 qB.out).1]
       have Au:=Lib.hid hmc;clear hmc;clear y0 y1 y2 y3 y4 y5 c0 c1 c2 c3 c4 c5 c6 c7 c8 c9 c10 c11 c12 c13 c14 c15 d1 d4 f1 k4 k10 hkc l0 l1 l2 nm0 ZI nm2 nm3;have hkk:ki=1\/ki=2\/ki=3\/ki=4:=by omega
       clear hq1 hq2;rcases hkk with rfl|hkk
       .have hc:∀mq,Calls prog 106 #[.pointer (some ⟨g,0,none⟩),.int .i64 x] (Wc.drewN mq) _:=λmq=>Gm (Dy.out.keep ((aG.refl _ _).drewN mq)) x _ Au.out _ HK.out
        have HC:=Lib.hid hc;clear hc;refine aR 6 (jV.round _ _) ?_;simp only[List.take_succ_cons,List.take_zero,List.drop_succ_cons,List.drop_zero];repeat(go_big_quiet_step (fail))
        refine wpQuiet_nil ?_;rintro _ ⟨mq,rfl⟩;gi_wp2_with (refine⟨trivial,?_⟩;gi_at_call 106;refine(CallsIn.inRound l (callsIn_wide.2 (HC.out mq))).mono ?_;rintro e zc ⟨rfl,hz1,hz2⟩);refine⟨?_,(vR.out.drewN mq).trans hz2 (λ_ _ h=>h)⟩;rw[HF.out];simp only[List.set_set]at hz1;simp only[aD.xY,hz,cond_true,aD.due];exact hz1
       rcases hkk with rfl|hkk
       .have hc:∀mq,Calls prog 107 #[.pointer (some ⟨g,0,none⟩),.int .i64 x] (Wc.drewN mq) _:=λmq=>uM (Dy.out.keep ((aG.refl _ _).drewN mq)) x _ Au.out
        have HC:=Lib.hid hc;clear hc;refine aR 6 (jV.round _ _) ?_;simp only[List.take_succ_cons,List.take_zero,List.drop_succ_cons,List.drop_zero];repeat(go_big_quiet_step (fail))
        refine wpQuiet_nil ?_;rintro _ ⟨mq,rfl⟩;gi_wp2_with (refine⟨trivial,?_⟩;gi_at_call 107;refine(CallsIn.inRound l (callsIn_wide.2 (HC.out mq))).mono ?_;rintro e zc ⟨rfl,hz1,hz2⟩);refine⟨?_,(vR.out.drewN mq).trans hz2 (λ_ _ h=>h)⟩;rw[HF.out];simp only[List.set_set]at hz1;simp only[aD.xY,hz,cond_true,aD.due];exact hz1
       rcases hkk with rfl|hkk
       .have hc:∀mq,Calls prog 108 #[.pointer (some ⟨g,0,none⟩),.int .i64 x] (Wc.drewN mq) _:=λmq=>zo (Dy.out.keep ((aG.refl _ _).drewN mq)) x _ Au.out
        have HC:=Lib.hid hc;clear hc;refine aR 6 (jV.round _ _) ?_;simp only[List.take_succ_cons,List.take_zero,List.drop_succ_cons,List.drop_zero];repeat(go_big_quiet_step (fail))
        refine wpQuiet_nil ?_;rintro _ ⟨mq,rfl⟩;gi_wp2_with (refine⟨trivial,?_⟩;gi_at_call 108;refine(CallsIn.inRound l (callsIn_wide.2 (HC.out mq))).mono ?_;rintro e zc ⟨rfl,hz1,hz2⟩);refine⟨?_,(vR.out.drewN mq).trans hz2 (λ_ _ h=>h)⟩;rw[HF.out];simp only[List.set_set]at hz1;simp only[aD.xY,hz,cond_true,aD.due];exact hz1
       .subst hkk
        have hc:∀mq,Calls prog 108 #[.pointer (some ⟨g,0,none⟩),.int .i64 x] (Wc.drewN mq) _:=λmq=>zo (Dy.out.keep ((aG.refl _ _).drewN mq)) x _ Au.out;have HC:=Lib.hid hc;clear hc;refine aR 6 (jV.round _ _) ?_;simp only[List.take_succ_cons,List.take_zero,List.drop_succ_cons,List.drop_zero];repeat(go_big_quiet_step (fail))
        refine wpQuiet_nil ?_;rintro _ ⟨mq,rfl⟩;gi_wp2_with (refine⟨trivial,?_⟩;gi_at_call 108;refine(CallsIn.inRound l (callsIn_wide.2 (HC.out mq))).mono ?_;rintro e zc ⟨rfl,hz1,hz2⟩);refine⟨?_,(vR.out.drewN mq).trans hz2 (λ_ _ h=>h)⟩;rw[HF.out];simp only[List.set_set]at hz1;simp only[aD.xY,hz,cond_true,aD.due];exact hz1
      .rename_i hz
       refine⟨?_,((aG.refl _ _).setCell (.inl (.inr (.inr (.inr rfl)))) _).alloc _⟩;rw[HF.out];simp only[aD.xY,hz,cond_false];exact(HW.out.gL (j:=1) (m':=⟨m0,m1 - 1,m2,m3,false⟩) qB.out (by omega) rfl).on (Below.jX (Below.refl _ _) _)
    |true=>
     cases free with
     |true=>
      as_aux_lemma=>
       gi_wp2_with fail;refine⟨?_,(aG.refl _ _).alloc _⟩;rw[HF.out];exact HW.out.on (Below.jX (Below.refl _ _) _)
     |false=>
      as_aux_lemma=>
       gi_wp2_with fail
       .rename_i hz
        obtain⟨Wc,wU⟩:∃Wc,Hid (Wc=(W.setCell ⟨gm,eP+x*5+1,none⟩ (.int .i64 (m1 - 1))).alloc (.cells #[.int .i64 ki,.int .i64 ro,.int .i64 ac,.int .i64 ne,.slice stA start.length wQ,.int .i64 af,.int .i64 gr,.bool true,.bool fi,.int .i64 pa,.int .i64 re,.int .i64 vn,.int .i64 vd,.int .i64 un,.int .i64 tg,.bool wa] 112)):=⟨_,rfl⟩;rw[<-wU.out];have hWc:aH w0 Wc g ⟨⟨dV,dW⟩,⟨dX,dY⟩,⟨fB,dH⟩,⟨some ⟨kb,kK,none⟩,dM⟩,⟨dQ,dR⟩⟩ C ⟨⟨eu,dN⟩,⟨eH,dL⟩,⟨some ⟨gm,eP,none⟩,bY⟩⟩ ⟨day,aj,used,M.set x ⟨m0,m1 - 1,m2,m3,false⟩⟩ gh gu gm:=by
         rw[wU.out];exact(HW.out.gL (j:=1) (m':=⟨m0,m1 - 1,m2,m3,false⟩) qB.out (by omega) rfl).on (Below.jX (Below.refl _ _) _)
        have vR:Hid (aG (gX g gh gu gm) W Wc):=by
         show aG _ _ _;rw[wU.out];exact((aG.refl _ _).setCell (.inl (.inr (.inr (.inr rfl)))) _).alloc _
        have hkc:∀(p o:Nat)(u:Value),p≠gm->p<W.heap.size->W.cell? ⟨p,o,none⟩=some u->Wc.cell? ⟨p,o,none⟩=some u:=λp o u h1 h2 h3=>by
         have hb:Below W.heap.size (W.setCell ⟨gm,eP+x*5+1,none⟩ (.int .i64 (m1 - 1))) Wc:=by rw[wU.out];exact Below.mono (Below.jX (Below.refl _ _) _) (by simp[World.setCell])
         rw[hb.cell (p:=⟨p,o,none⟩) h2,World.cell?_setCell_other _ _ _ _ (λe=>h1 (by first|exact congrArg Addr.block e|exact(congrArg Addr.block e).symm))];exact h3
        have v0:=hkc _ _ _ nm0 l0 y0;have v1:=hkc _ _ _ ZI l1 y1;have v2:=hkc _ _ _ ZI l1 y2;have v3:=hkc _ _ _ ZI l1 y3;have v4:=hkc _ _ _ ZI l1 y4;have v5:Wc.cell? ⟨W.heap.size,0,none⟩=some (.int .i64 ki):=by
         have h:=heap_alloc_new (W.setCell ⟨gm,eP+x*5+1,none⟩ (.int .i64 (m1 - 1))) (.cells #[.int .i64 ki,.int .i64 ro,.int .i64 ac,.int .i64 ne,.slice stA start.length wQ,.int .i64 af,.int .i64 gr,.bool true,.bool fi,.int .i64 pa,.int .i64 re,.int .i64 vn,.int .i64 vd,.int .i64 un,.int .i64 tg,.bool wa] 112);rw[show(W.setCell ⟨gm,eP+x*5+1,none⟩ (.int .i64 (m1 - 1))).heap.size=W.heap.size by simp[World.setCell],<-wU.out]at h;exact(cell_of_row Wc _ 0 _ _ _ h).trans rfl
        have Dy:=Lib.hid hWc;clear hWc;have hmc:(M.set x ⟨m0,m1 - 1,m2,m3,false⟩)[x]?=some ⟨m0,m1 - 1,m2,m3,false⟩:=by rw[List.getElem?_set_self (List.getElem?_eq_some_iff.1 qB.out).1]
        have Au:=Lib.hid hmc;clear hmc;clear y0 y1 y2 y3 y4 y5 c0 c1 c2 c3 c4 c5 c6 c7 c8 c9 c10 c11 c12 c13 c14 c15 d1 d4 f1 k4 k10 hkc l0 l1 l2 nm0 ZI nm2 nm3;have hkk:ki=1\/ki=2\/ki=3\/ki=4:=by omega
        clear hq1 hq2;rcases hkk with rfl|hkk
        .have hc:∀mq,Calls prog 106 #[.pointer (some ⟨g,0,none⟩),.int .i64 x] (Wc.drewN mq) _:=λmq=>Gm (Dy.out.keep ((aG.refl _ _).drewN mq)) x _ Au.out _ HK.out
         have HC:=Lib.hid hc;clear hc;refine aR 6 (jV.round _ _) ?_;simp only[List.take_succ_cons,List.take_zero,List.drop_succ_cons,List.drop_zero];repeat(go_big_quiet_step (fail))
         refine wpQuiet_nil ?_;rintro _ ⟨mq,rfl⟩;gi_wp2_with (refine⟨trivial,?_⟩;gi_at_call 106;refine(CallsIn.inRound l (callsIn_wide.2 (HC.out mq))).mono ?_;rintro e zc ⟨rfl,hz1,hz2⟩);refine⟨?_,(vR.out.drewN mq).trans hz2 (λ_ _ h=>h)⟩;rw[HF.out];simp only[List.set_set]at hz1;simp only[aD.xY,hz,cond_true,aD.due];exact hz1
        rcases hkk with rfl|hkk
        .have hc:∀mq,Calls prog 107 #[.pointer (some ⟨g,0,none⟩),.int .i64 x] (Wc.drewN mq) _:=λmq=>uM (Dy.out.keep ((aG.refl _ _).drewN mq)) x _ Au.out
         have HC:=Lib.hid hc;clear hc;refine aR 6 (jV.round _ _) ?_;simp only[List.take_succ_cons,List.take_zero,List.drop_succ_cons,List.drop_zero];repeat(go_big_quiet_step (fail))
         refine wpQuiet_nil ?_;rintro _ ⟨mq,rfl⟩;gi_wp2_with (refine⟨trivial,?_⟩;gi_at_call 107;refine(CallsIn.inRound l (callsIn_wide.2 (HC.out mq))).mono ?_;rintro e zc ⟨rfl,hz1,hz2⟩);refine⟨?_,(vR.out.drewN mq).trans hz2 (λ_ _ h=>h)⟩;rw[HF.out];simp only[List.set_set]at hz1;simp only[aD.xY,hz,cond_true,aD.due];exact hz1
        rcases hkk with rfl|hkk
        .have hc:∀mq,Calls prog 108 #[.pointer (some ⟨g,0,none⟩),.int .i64 x] (Wc.drewN mq) _:=λmq=>zo (Dy.out.keep ((aG.refl _ _).drewN mq)) x _ Au.out
         have HC:=Lib.hid hc;clear hc;refine aR 6 (jV.round _ _) ?_;simp only[List.take_succ_cons,List.take_zero,List.drop_succ_cons,List.drop_zero];repeat(go_big_quiet_step (fail))
         refine wpQuiet_nil ?_;rintro _ ⟨mq,rfl⟩;gi_wp2_with (refine⟨trivial,?_⟩;gi_at_call 108;refine(CallsIn.inRound l (callsIn_wide.2 (HC.out mq))).mono ?_;rintro e zc ⟨rfl,hz1,hz2⟩);refine⟨?_,(vR.out.drewN mq).trans hz2 (λ_ _ h=>h)⟩;rw[HF.out];simp only[List.set_set]at hz1;simp only[aD.xY,hz,cond_true,aD.due];exact hz1
        .subst hkk
         have hc:∀mq,Calls prog 108 #[.pointer (some ⟨g,0,none⟩),.int .i64 x] (Wc.drewN mq) _:=λmq=>zo (Dy.out.keep ((aG.refl _ _).drewN mq)) x _ Au.out;have HC:=Lib.hid hc;clear hc;refine aR 6 (jV.round _ _) ?_;simp only[List.take_succ_cons,List.take_zero,List.drop_succ_cons,List.drop_zero];repeat(go_big_quiet_step (fail))
         refine wpQuiet_nil ?_;rintro _ ⟨mq,rfl⟩;gi_wp2_with (refine⟨trivial,?_⟩;gi_at_call 108;refine(CallsIn.inRound l (callsIn_wide.2 (HC.out mq))).mono ?_;rintro e zc ⟨rfl,hz1,hz2⟩);refine⟨?_,(vR.out.drewN mq).trans hz2 (λ_ _ h=>h)⟩;rw[HF.out];simp only[List.set_set]at hz1;simp only[aD.xY,hz,cond_true,aD.due];exact hz1
       .rename_i hz
        refine⟨?_,((aG.refl _ _).setCell (.inl (.inr (.inr (.inr rfl)))) _).alloc _⟩;rw[HF.out];simp only[aD.xY,hz,cond_false];exact(HW.out.gL (j:=1) (m':=⟨m0,m1 - 1,m2,m3,false⟩) qB.out (by omega) rfl).on (Below.jX (Below.refl _ _) _)
 case done=>
  as_aux_lemma=>
   intro D W hD hW hU hK;have y0:=(hU.cell (o:=0) (by omega) hn0).trans x0;have k7:W.cell? ⟨g,7,none⟩=some (.int .i64 day):=hW.cell 7;have f7:W.frozen? ⟨g,7,none⟩=false:=by simp[World.frozen?,hW.head]
   have hng:w.heap.size≠g:=by omega
   have hst:=zu (hW.ac1 (day+1)) (by
    show List.length _=_;rw[rF (kW C free) (λi ms=>B_ C free i ms),HL.out]) uE.out rT.out
   have HST:=Lib.hid hst;clear hst;have HW:=Lib.hid hW;clear hW;have HU:=Lib.hid hU;clear hU;have hwD:w.heap.size<=D:=by omega
   have hDn:¬gX g gh gu gm D:=H.out.gZ hwD;have hwW:w.heap.size<=W.heap.size:=by have h1:=HU.out.size;omega
   clear HW2 HW0 HB0 hs0 kL hszz hbz hne0 hne1 hW2 x0 x1 x2 x3 x4 x5 x6 hn0 hn1 hn2 hWz HOF hol uE rT Tz WE;gi_wp2_with (refine⟨trivial,?_⟩;gi_at_call 67;refine(callsIn_wide.2 HST.out).mono ?_;rintro e zc ⟨rfl,hz1,hz2⟩);have TB:aG (gX g gh gu gm) W zc:=((aG.refl (gX g gh gu gm) W).setCell (p:=⟨g,7,none⟩) (.inl (.inl rfl)) (.int .i64 (day+1))).trans hz2 (λ_ _ h=>h);have hK2:=TB.keep hK hDn;refine⟨by simp,.inl ⟨_,_,rfl,run_takeDeferred hK2,?_⟩⟩;have hgr:=grownBy_putObj' zc D (.deferred none);have hro:∀r,some D=some r->w0.heap.size<=r/\∃o,zc.heap[r]?=some o/\o.isCells=false:=λr e=>by
    injection e with e
    subst e;exact⟨by have h1:=H.out.below.size;omega,_,hK2,rfl⟩
   have h8:=aH.mG (β:=Unit) (λ_=>(⟨day+1,aj,used,C.begin aj (C.G7 free ms)⟩:ak)) _ (Nat.le_refl _) () zc _ _ hz1 hgr hro;refine⟨_,results_none rfl _ _ _,rfl,?_,Nat.le_trans (Nat.le_trans hwW TB.size) hgr.size⟩;simp only[au.tick,HFR.out];exact h8
end Go.Proofs.YtpmdedcnbockhaaGreatDoor
