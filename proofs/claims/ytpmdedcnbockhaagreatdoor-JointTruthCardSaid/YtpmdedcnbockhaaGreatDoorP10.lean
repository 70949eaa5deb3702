/-
  Iter; Shift0; Seq; Shift1
-/
import Derived.Test.YtpmdedcnbockhaaGreatDoorP08
import Derived.Test.YtpmdedcnbockhaaGreatDoorP04
set_option maxRecDepth 100000
set_option maxHeartbeats 8000000
namespace Go.Proofs.YtpmdedcnbockhaaGreatDoor
section
open Go.RowKit Go.Shelf
attribute [local go_sem] Oper.semAt_some
def f_(ms:List aC):Nat->List Nat
 |0=>[]
 |k+1=>match ms[k]? with|some m=>cond m.runs (f_ ms k++[k]) (f_ ms k)|none=>f_ ms k
theorem qN(ms:List aC):∀(k:Nat)(x:Nat),x∈f_ ms k->x<k
 |0,x,h=>by cases h
 |k+1,x,h=>by
  unfold f_ at h;cases hm:ms[k]? with
  |none=>rw[hm]at h;have:=qN ms k x h;omega
  |some m=>
   rw[hm]at h;cases hr:m.runs with
   |false=>simp only[hr,cond_false]at h;have:=qN ms k x h;omega
   |true=>
    simp only[hr,cond_true,jZ,dZ]at h;rcases h with h|h
    .have:=qN ms k x h;omega
    .omega
theorem u_(upd:Nat->List aC->List aC)(hu:∀i ms j,j≠i->(upd i ms)[j]?=ms[j]?)(k:Nat):∀(l:List Nat)(ms:List aC),(∀x∈l,x<k)->(l.foldl (λms i=>upd i ms) ms)[k]?=ms[k]?
 |[],ms,_=>rfl
 |x::l,ms,h=>by
  rw[List.foldl_cons,u_ upd hu k l _ (λy hy=>h y (kT _ hy)),hu x ms k (by have:=h x (List.mem_cons_self ..);omega)]
theorem xw{w z:World}(h:Below w.heap.size w z):w.grownBy z none:=⟨h.os,h.tape,h.output,h.size,λk hk _=>h.block k hk⟩
theorem A_{w0:World}{g Bw:Nat}{v:CV}{C:au}{t:TV}{day:Int}{aj:List Int}{used:List Bool}{ms0:List aC}{gh gu gm:Nat}(upd:Nat->List aC->List aC)
 (hu:∀i ms j,j≠i->(upd i ms)[j]?=ms[j]?)(Zo:∀i ms,(upd i ms).length=ms.length)(n:Nat)(hn:1<=n)(I:List Nat->World->Prop)
 (hI:∀pre W,I pre W->aJ w0 W g v C t ⟨day,aj,used,pre.foldl (λms i=>upd i ms) ms0⟩ gh gu gm/\W.cell? ⟨Bw,0,none⟩=some (.pointer (some ⟨g,0,none⟩))):
 Wt Fence.wide n Tryz.prog 146 #[.pointer (some ⟨Bw,0,none⟩)] (λi:Nat=>#[.int .i64 i]) I (λpre x=>pre=f_ ms0 x/\∃m,ms0[x]?=some m/\m.runs=true) (λxs=>xs=f_ ms0 ms0.length):=by
 intro l J W Qg hJA hY h0;have hlen:∀(l:List Nat)(ms:List aC),(l.foldl (λms i=>upd i ms) ms).length=ms.length:=by
  intro l;induction l with
  |nil=>intro ms;rfl
  |cons x l ih=>intro ms;rw[List.foldl_cons,ih,Zo]
 have HL:=ah hlen;clear hlen;have HU:=ah hu;clear hu;have HI:=ah hI;clear hI;have HJI:=ah Qg;clear Qg;have YD:=ah hJA;clear hJA;have HY:=ah hY;clear hY;have KV:=ah h0;clear h0;obtain⟨hW0,hB0⟩:=HI.out _ _ (HJI.out _ _ KV.out);have Zp:=hW0.cell 10;obtain⟨eu,IE,hc1,hc2,abI⟩:=hW0.marks.O8;clear abI;obtain⟨th,tu,⟨h_,dW⟩⟩:=t;simp only at IE Zp hc1 hc2;subst IE;rw[HL.out]at Zp hc1;unfold maxLen at hc2;have hmx:ms0.length<=9223372036854775807:=by omega
 have akT:W.cell? ⟨g,10,none⟩=some (.slice (some ⟨gm,eu,none⟩) ms0.length dW):=Zp;clear Zp hW0;refine callsIn_of_wp Tryz.func146 rfl trivial ?_ rfl;simp only[Tryz.ntmps146,qU,iy,jJ,Nat.reduceAdd,Nat.reduceSub,rX,rY,r_,rZ,mI,r9];gi_wp2
 gi_loopw [10] (λi wr=>∃k:Nat,k<=ms0.length/\i= .int .i64 k/\Hid (J (f_ ms0 k) wr)) (λi _=>ms0.length - (intOf i).toNat)
 case atStart=>exact⟨0,aV _,rfl,KV⟩
 case round=>
  obtain⟨k,hk,rfl,HJ⟩:=hrel;by_cases hlt:k<ms0.length
  .obtain⟨m,hm⟩:∃m,ms0[k]?=some m:=⟨ms0[k],aT hlt⟩
   obtain⟨hW1,hB1⟩:=HI.out _ _ (HJI.out _ _ HJ.out);have hmk:((f_ ms0 k).foldl (λms i=>upd i ms) ms0)[k]?=some m:=by rw[u_ upd HU.out k _ _ (qN ms0 k)];exact hm
   obtain⟨off',hA',_,hcell',_⟩:=hW1.nM hmk;simp only[Option.some.injEq,Addr.mk.injEq,true_and,and_true]at hA';subst hA';have k10:=hW1.cell 10;have ail:wr.cell? ⟨g,10,none⟩=some (.slice (some ⟨gm,eu,none⟩) ms0.length dW):=by have h:=k10;simp only[HL.out]at h;exact h
   obtain⟨m0,m1,m2,m3,m4⟩:=rw5 hcell' rfl;clear hcell' hmk k10 hW1;have hrun:=MP m wr;have HM:=ah hm;clear hm;have k0:(0:Int)<=(k:Int):=by omega
   have k1:(k:Int)<(ms0.length:Int):=by omega
   cases hr:m.runs with
   |false=>
    rw[hr]at hrun;have HR:=ah hr;clear hr;have abJ:=ah hrun;clear hrun;gi_wp2_with (refine⟨trivial,?_⟩;gi_at_call 147;refine(bQ.2 abJ.out).mono ?_;rintro e z ⟨rfl,hz⟩);refine⟨λ_ h=>(by cases h),?_⟩;gi_wp2
    go_roundw
    case rel=>exact⟨k+1,by omega,by go_num,by
     show J _ _;simp only[f_,HM.out,HR.out,cond_false];exact YD.out _ wr _ none HJ.out (xw hz) (λr e=>by cases e)⟩
    case measure=>simp[intOf];omega
   |true=>
    rw[hr]at hrun;have HR:=ah hr;clear hr;have abJ:=ah hrun;clear hrun;gi_wp2_with (refine⟨trivial,?_⟩;gi_at_call 147;refine(bQ.2 abJ.out).mono ?_;rintro e z ⟨rfl,hz⟩;obtain⟨fn,tmps,assign,body,hy,hR⟩:=HY.out _ k z (YD.out _ wr z none HJ.out (xw hz) (λr e=>by cases e)) ⟨rfl,m,HM.out,HR.out⟩);refine hR.mono ?_;rintro e W3 ⟨rfl,hJ3⟩;gi_wp2
    go_roundw
    case rel=>exact⟨k+1,by omega,by go_num,by
     show J _ _;simp only[f_,HM.out,HR.out,cond_true];exact hJ3⟩
    case measure=>simp[intOf];omega
  .obtain rfl:k=ms0.length:=by omega
   gi_wp2
   go_end0
   exact⟨⟨_,rfl⟩,_,rfl,HJ.out⟩
end
section
open Go.RowKit
theorem aJ.R9{w0 w:World}{g:Nat}{v:CV}{C:au}{t:TV}{s:ak}{gh gu gm:Nat}(h:aJ w0 w g v C t s gh gu gm):g≠gh:=λe=>by
 subst e;obtain⟨cur,hc⟩:=h.aj.eO;have h2:=h.head.symm.trans hc;simp at h2
theorem aJ.R_{w0 w:World}{g:Nat}{v:CV}{C:au}{t:TV}{s:ak}{gh gu gm:Nat}(h:aJ w0 w g v C t s gh gu gm):g≠gu:=λe=>by
 subst e;obtain⟨cur,hc⟩:=h.used.eO;have h2:=h.head.symm.trans hc;simp at h2
theorem aJ.T_{w0 w:World}{g:Nat}{v:CV}{C:au}{off eZ:Nat}{tu tm:SV}{s:ak}{gh gu gm:Nat}(h:aJ w0 w g v C ⟨⟨some ⟨gh,off,none⟩,eZ⟩,tu,tm⟩ s gh gu gm){i:Nat}(hi:i<s.aj.length)(x:Int):
 aJ w0 (w.setCell ⟨gh,off+i,none⟩ (.int .i64 x)) g v C ⟨⟨some ⟨gh,off,none⟩,eZ⟩,tu,tm⟩ ⟨s.day,s.aj.set i x,s.used,s.marks⟩ gh gu gm:=by
 have hr:=h.aj.store (k:=i) (by omega) (.int .i64 x);have hu:aH (λk=>k=gh) w (w.setCell ⟨gh,off+i,none⟩ (.int .i64 x)):=(aH.refl (λk=>k=gh) w).setCell (.inl rfl) _;rw[show(aR s.aj).set i (.int .i64 x)=aR (s.aj.set i x) by simp[aR,List.map_set]]at hr;exact⟨by simpa using hu.keep h.head h.R9,h.con,h.below.trans (hu.below h.below.size (λk hk=>by rw[hk];exact h.newH)),
  by simpa using hr,
  h.used.keep hu (λk hk e=>by injection hk with hk;subst hk;exact h.used.jQ h.aj (by decide) e),
  h.marks.keep hu (λk hk e=>by injection hk with hk;subst hk;exact h.marks.jQ h.aj (by decide) e),h.newG,h.newH,h.zL,h.uq⟩
theorem aJ.usedSet{w0 w:World}{g:Nat}{v:CV}{C:au}{off eX:Nat}{th tm:SV}{s:ak}{gh gu gm:Nat}(h:aJ w0 w g v C ⟨th,⟨some ⟨gu,off,none⟩,eX⟩,tm⟩ s gh gu gm){i:Nat}(hi:i<s.used.length)(x:Bool):
 aJ w0 (w.setCell ⟨gu,off+i,none⟩ (.bool x)) g v C ⟨th,⟨some ⟨gu,off,none⟩,eX⟩,tm⟩ ⟨s.day,s.aj,s.used.set i x,s.marks⟩ gh gu gm:=by
 have hr:=h.used.store (k:=i) (by omega) (.bool x);have hu:aH (λk=>k=gu) w (w.setCell ⟨gu,off+i,none⟩ (.bool x)):=(aH.refl (λk=>k=gu) w).setCell (.inl rfl) _;rw[show(iG s.used).set i (.bool x)=iG (s.used.set i x) by simp[iG,List.map_set]]at hr;exact⟨by simpa using hu.keep h.head h.R_,h.con,h.below.trans (hu.below h.below.size (λk hk=>by rw[hk];exact h.zL)),
  h.aj.keep hu (λk hk e=>by injection hk with hk;subst hk;exact h.aj.jQ h.used (by decide) e),
  by simpa using hr,
  h.marks.keep hu (λk hk e=>by injection hk with hk;subst hk;exact h.marks.jQ h.used (by decide) e),h.newG,h.newH,h.zL,h.uq⟩
theorem aJ.abK{w0 w:World}{g:Nat}{v:CV}{C:au}{t:TV}{s:ak}{gh gu gm:Nat}(h:aJ w0 w g v C t s gh gu gm)(x:Int):
 aJ w0 (w.setCell ⟨g,7,none⟩ (.int .i64 x)) g v C t ⟨x,s.aj,s.used,s.marks⟩ gh gu gm:=by
 have hu:aH (λk=>k=g) w (w.setCell ⟨g,7,none⟩ (.int .i64 x)):=(aH.refl (λk=>k=g) w).setCell (.inl rfl) _;exact⟨by have h2:=heap_setCell_same (i:=7) h.head (.int .i64 x);simpa using h2,h.con,h.below.trans (hu.below h.below.size (λk hk=>by rw[hk];exact h.newG)),
  h.aj.keep hu (λk hk e=>by injection hk with hk;subst hk;exact h.R9 e.symm),
  h.used.keep hu (λk hk e=>by injection hk with hk;subst hk;exact h.R_ e.symm),
  h.marks.keep hu (λk hk e=>by injection hk with hk;subst hk;exact h.JE e.symm),h.newG,h.newH,h.zL,h.uq⟩
theorem aJ.lM{β:Type}{w0:World}{g:Nat}{v:CV}{C:au}{t:TV}{gh gu gm:Nat}(f:β->ak)(B:Nat)(hB:w0.heap.size<=B):OwnFrom B (λ(s:β) W=>aJ w0 W g v C t (f s) gh gu gm):=by
 intro s W W' row h hg hr;have hne:∀(k:Nat)(cur:Array Value)(e:TypeId),W.heap[k]?=some (.cells cur e (0,0))->row≠some k:=λk cur e hk er=>by
  obtain⟨_,o,ho,hc⟩:=hr k er;rw[hk]at ho;injection ho with ho
  subst ho;simp[Obj.isCells]at hc
 have hu:=aH.jm hg;obtain⟨c1,h1⟩:=h.aj.eO;obtain⟨c2,h2⟩:=h.used.eO;obtain⟨c3,h3⟩:=h.marks.eO;exact⟨hu.keep h.head (hne _ _ _ h.head),h.con,h.below.trans (hu.below h.below.size (λk hk=>bF hB (hr k hk).1)),
  h.aj.keep hu (λk hk=>by injection hk with hk;subst hk;exact hne _ _ _ h1),
  h.used.keep hu (λk hk=>by injection hk with hk;subst hk;exact hne _ _ _ h2),
  h.marks.keep hu (λk hk=>by injection hk with hk;subst hk;exact hne _ _ _ h3),h.newG,h.newH,h.zL,h.uq⟩
theorem aH.lM{β:Type}{S:Nat->Prop}{w0:World}(B:Nat)(hB:w0.heap.size<=B):OwnFrom B (λ(_:β) W=>aH S w0 W):=by
 intro s W W' row h hg hr;refine h.trans (aH.jm hg) (λi hi e=>?_);have h1:=(hr i e).1;omega
theorem aH.cell{S:Nat->Prop}{w w':World}(h:aH S w w'){b o:Nat}(hb:b<w.heap.size)(hn:¬S b):w'.cell? ⟨b,o,none⟩=w.cell? ⟨b,o,none⟩:=by
 simp only[World.cell?,h.block b hb hn]
theorem aJ.keeps{w0 w w':World}{g:Nat}{v:CV}{C:au}{t:TV}{s:ak}{gh gu gm:Nat}(h:aJ w0 w g v C t s gh gu gm)(hu:aH (gL g gh gu gm) w w'):KeepsOthers w w':=by
 obtain⟨c1,h1⟩:=h.aj.eO;obtain⟨c2,h2⟩:=h.used.eO;obtain⟨c3,h3⟩:=h.marks.eO;have hne:∀(k:Nat)(cur:Array Value)(e:TypeId)(o:Obj),w.heap[k]?=some (.cells cur e (0,0))->w.heap[k]?=some o->o.isCells=false->False:=λk cur e o hk ho hc=>by
  rw[hk]at ho;injection ho with ho
  subst ho;simp[Obj.isCells]at hc
 refine⟨hu.size,λk o hk ho=>hu.keep hk (λe=>?_)⟩;rcases e with rfl|rfl|rfl|rfl
 .exact hne _ _ _ _ h.head hk ho
 .exact hne _ _ _ _ h1 hk ho
 .exact hne _ _ _ _ h2 hk ho
 .exact hne _ _ _ _ h3 hk ho
theorem aJ.gN{w0 w:World}{g:Nat}{v:CV}{C:au}{t:TV}{s:ak}{gh gu gm:Nat}(h:aJ w0 w g v C t s gh gu gm){k:Nat}(hk:w.heap.size<=k):¬gL g gh gu gm k:=by
 obtain⟨c1,h1⟩:=h.aj.eO;obtain⟨c2,h2⟩:=h.used.eO;obtain⟨c3,h3⟩:=h.marks.eO;have e0:=av h.head;have e1:=av h1;have e2:=av h2;have e3:=av h3;rintro(e|e|e|e)<;>omega
end
section
open Go.RowKit
theorem jr(A:Option Addr)(w:World):Calls Tryz.prog 110 #[.pointer A] w (λe w'=>e= .returned (.func (.func 146) #[] #[.pointer (some ⟨w.heap.size,0,none⟩)])/\w'=w.alloc (.cells #[.pointer A] 126)):=by
 go_enter Tryz.func110,Tryz.ntmps110;go_wp2;go_ret;exact⟨rfl,rfl⟩
end
open Go.RowKit Go.Shelf
attribute [local go_sem] Oper.semAt_some
def eU(C:au)(give tgt:Int)(i:Nat)(ms:List aC):List aC:=
 match C.clauses[i]?,ms[i]? with
 |some k,some m=>cond ((k.kind !=4)&&(k.role==give)) (ms.set i ⟨m.status,m.left,m.got,tgt,m.paused⟩) ms
 |_,_=>ms
theorem ow(C:au)(give tgt:Int)(i:Nat)(ms:List aC):(eU C give tgt i ms).length=ms.length:=by
 unfold eU;split
 .rename_i k m _ _
  cases ((k.kind !=4)&&(k.role==give))<;>simp
 .rfl
theorem pO(C:au)(give tgt:Int)(i:Nat)(ms:List aC)(j:Nat)(h:j≠i):(eU C give tgt i ms)[j]?=ms[j]?:=by
 unfold eU;split
 .rename_i k m _ _
  cases ((k.kind !=4)&&(k.role==give))
  .rfl
  .simp only[cond_true]
   rw[jI,if_neg (λe=>h e.symm)]
 .rfl
def au.shift(C:au)(i:Nat)(a:iO)(s:ak):ak:=
 ⟨s.day,s.aj.set a.give.toNat a.tgt,s.used.set i true,cond (a.kind !=3) s.marks ((f_ s.marks s.marks.length).foldl (λms j=>eU C a.give a.tgt j ms) s.marks)⟩
theorem qO(upd:Nat->List aC->List aC)(Zo:∀i ms,(upd i ms).length=ms.length):∀(l:List Nat)(ms:List aC),(l.foldl (λms i=>upd i ms) ms).length=ms.length
 |[],_=>rfl
 |x::l,ms=>by rw[List.foldl_cons,qO upd Zo l,Zo]
theorem Ua{w0 w:World}{g:Nat}{v:CV}{C:au}{t:TV}{s:ak}{gh gu gm:Nat}(h:aJ w0 w g v C t s gh gu gm)(i:Nat)(a:iO)(ha:C.acts[i]?=some a)(hiu:i<s.used.length)(hg0:0<=a.give)(hg1:a.give<s.aj.length)(hlen:s.marks.length=C.clauses.length):
 Calls Tryz.prog 114 #[.pointer (some ⟨g,0,none⟩),.int .i64 i] w (kK w0 g v C t (C.shift i a s) gh gu gm w):=by
 have hia:i<C.acts.length:=(aZ.1 ha).1;obtain⟨hoff,hhA,hhl,Y8,hhf⟩:∃off,t.h.A=some ⟨gh,off,none⟩/\gh<w.heap.size/\(∀j,j<s.aj.length->w.cell? ⟨gh,off+j,none⟩=(aR s.aj)[j]?)/\(∀j,w.frozen? ⟨gh,j,none⟩=false):=by
  obtain⟨off,h1,_,_,h2,h3,h4⟩:=h.aj.O8;exact⟨off,h1,h2,λj hj=>h3 j (by omega),h4⟩
 obtain⟨nI,huA,Zo,huc,huf⟩:∃off,t.u.A=some ⟨gu,off,none⟩/\gu<w.heap.size/\(∀j,j<s.used.length->w.cell? ⟨gu,off+j,none⟩=(iG s.used)[j]?)/\(∀j,w.frozen? ⟨gu,j,none⟩=false):=by
  obtain⟨off,h1,_,_,h2,h3,h4⟩:=h.used.O8;exact⟨off,h1,h2,λj hj=>h3 j (by omega),h4⟩
 obtain⟨b,mF,hA,hbl,hac⟩:=h.con.act ha;obtain⟨eu,IE,_⟩:=h.marks.O8;obtain⟨⟨fQ,eZ⟩,⟨gH,eX⟩,⟨h_,dW⟩⟩:=t;obtain⟨vh,vu,⟨dV,dn⟩,⟨dQ,dh⟩,vo⟩:=v;simp only at hhA huA hA IE;subst hhA huA hA IE;obtain⟨ki,ro,gi,tg,un,⟨ln,ld⟩⟩:=a;simp only at hg0 hg1;have k3:w.cell? ⟨g,3,none⟩=some (.slice (some ⟨b,mF,none⟩) C.acts.length dn):=h.cell 3;have k8:w.cell? ⟨g,8,none⟩=some (.slice (some ⟨gh,hoff,none⟩) s.aj.length eZ):=h.cell 8;have k9:w.cell? ⟨g,9,none⟩=some (.slice (some ⟨gu,nI,none⟩) s.used.length eX):=h.cell 9;have Gj:=hac w h.below;obtain⟨a0,a1,a2,a3,a4,a5,a6⟩:=rw7 Gj rfl;clear hac Gj;have i0:(0:Int)<=(i:Int):=by omega
 have i1:(i:Int)<(C.acts.length:Int):=by omega
 have i2:(i:Int)<(s.used.length:Int):=by omega
 have hgl:=av h.head;have dw:b<w.heap.size:=jX hbl h.below.size;have H:=ah h;clear h;have HA:=ah ha;clear ha;have HL:=ah hlen;clear hlen;refine(bQ (n:=3)).1 ?_;refine callsIn_of_wp_marks Tryz.func114 rfl trivial ?_ rfl;simp only[Tryz.ntmps114,qU,iy,jJ,Nat.reduceAdd,Nat.reduceSub,rX,rY,r_,rZ,mI,r9];have hx:gi.toNat<s.aj.length:=by omega
 have y0:w.cell? ⟨gh,hoff+gi.toNat,none⟩=some (.int .i64 (fu s.aj gi)):=by rw[Y8 _ hx];simp[aR,fu,hx]
 have yf:=hhf (hoff+gi.toNat);have z0:w.cell? ⟨gu,nI+i,none⟩=some (.bool s.used[i]):=by rw[huc _ hiu];simp[iG,hiu]
 have zf:=huf (nI+i);have hne1:=H.out.R9;have hne2:=H.out.R_;clear Y8 hhf huc huf;gi_wp2
 gi_region
 obtain⟨W1,HW1⟩:∃W1,Hid (W1=(((w.setCell ⟨gh,hoff+gi.toNat,none⟩ (.int .i64 tg)).alloc (.cells #[.pointer (some ⟨g,0,none⟩)] 126)).alloc (.cells #[.int .i64 ki,.int .i64 ro,.int .i64 gi,.int .i64 tg,.int .i64 un,.int .i64 ln,.int .i64 ld] 109)).drew):=⟨_,rfl⟩;rw[<-HW1.out];have hW1:aJ w0 W1 g ⟨vh,vu,⟨some ⟨b,mF,none⟩,dn⟩,⟨dQ,dh⟩,vo⟩ C ⟨⟨some ⟨gh,hoff,none⟩,eZ⟩,⟨some ⟨gu,nI,none⟩,eX⟩,⟨some ⟨gm,eu,none⟩,dW⟩⟩ ⟨s.day,s.aj.set gi.toNat tg,s.used,s.marks⟩ gh gu gm:=by
  rw[HW1.out];exact(((H.out.T_ hx tg).on (aK (aD _ _) _)).on (aK (aD _ _) _)).keep ((aH.refl _ _).drew)
 have Af:Hid (aH (gL g gh gu gm) w W1):=by
  show aH _ _ _;rw[HW1.out];exact((((aH.refl _ _).setCell (.inl (.inr (.inl rfl))) _).alloc _).alloc _).drew
 have hsz:W1.heap.size=w.heap.size+2:=by rw[HW1.out];simp[World.setCell]
 have hh0:W1.heap[w.heap.size]?=some (.cells #[.pointer (some ⟨g,0,none⟩)] 126 (0,0)):=by
  rw[HW1.out];refine(Below.heap_alloc _ _ _ (by simp[World.setCell])).trans ?_;have h:=bC (w.setCell ⟨gh,hoff+gi.toNat,none⟩ (.int .i64 tg)) (.cells #[.pointer (some ⟨g,0,none⟩)] 126);simpa [World.setCell]using h
 have g_:W1.heap[w.heap.size+1]?=some (.cells #[.int .i64 ki,.int .i64 ro,.int .i64 gi,.int .i64 tg,.int .i64 un,.int .i64 ln,.int .i64 ld] 109 (0,0)):=by
  rw[HW1.out];have h:=bC ((w.setCell ⟨gh,hoff+gi.toNat,none⟩ (.int .i64 tg)).alloc (.cells #[.pointer (some ⟨g,0,none⟩)] 126)) (.cells #[.int .i64 ki,.int .i64 ro,.int .i64 gi,.int .i64 tg,.int .i64 un,.int .i64 ln,.int .i64 ld] 109);rw[show((w.setCell ⟨gh,hoff+gi.toNat,none⟩ (.int .i64 tg)).alloc (.cells #[.pointer (some ⟨g,0,none⟩)] 126)).heap.size=w.heap.size+1 by simp[World.setCell]]at h;exact h
 have p0:W1.cell? ⟨w.heap.size,0,none⟩=some (.pointer (some ⟨g,0,none⟩)):=(aG W1 _ 0 _ _ _ hh0).trans rfl;have q0:W1.cell? ⟨w.heap.size+1,0,none⟩=some (.int .i64 ki):=(aG W1 _ 0 _ _ _ g_).trans rfl;have q2:W1.cell? ⟨w.heap.size+1,2,none⟩=some (.int .i64 gi):=(aG W1 _ 2 _ _ _ g_).trans rfl;have q3:W1.cell? ⟨w.heap.size+1,3,none⟩=some (.int .i64 tg):=(aG W1 _ 3 _ _ _ g_).trans rfl;have k9':W1.cell? ⟨g,9,none⟩=some (.slice (some ⟨gu,nI,none⟩) s.used.length eX):=hW1.cell 9;obtain⟨zc,zf'⟩:W1.cell? ⟨gu,nI+i,none⟩=some (.bool s.used[i])/\W1.frozen? ⟨gu,nI+i,none⟩=false:=by
  obtain⟨off,h1,_,_,h2,h3,h4⟩:=hW1.used.O8;simp only[Option.some.injEq,Addr.mk.injEq,true_and,and_true]at h1;subst h1;refine⟨?_,h4 _⟩;rw[h3 _ (by simpa using hiu)];simp[iG,hiu]
 have Ba:w.heap.size≠gu:=by omega
 have KW:w.heap.size+1≠gu:=by omega
 have HW2:=hW1.usedSet (i:=i) hiu true;have HH:=ah HW2;clear HW2 hW1 hh0 g_ k3 k8 k9 a0 a1 a2 a3 a4 a5 a6 y0 yf z0 zf;cases q:(ki !=3)with
 |true=>
  gi_wp2;refine⟨_,results_none rfl _ _ _,rfl,?_,Af.out.setCell (.inl (.inr (.inr (.inl rfl)))) _⟩;simp only[au.shift,q,cond_true];exact HH.out
 |false=>
  gi_wp2_with (refine⟨trivial,?_⟩;gi_at_call 110;refine(bQ.2 (jr _ _)).mono ?_;rintro e z ⟨rfl,rfl⟩);obtain⟨W2,HW2⟩:∃W2,Hid (W2=(W1.setCell ⟨gu,nI+i,none⟩ (.bool true)).alloc (.cells #[.pointer (some ⟨g,0,none⟩)] 126)):=⟨_,rfl⟩;rw[<-HW2.out];have hW2:aJ w0 W2 g ⟨vh,vu,⟨some ⟨b,mF,none⟩,dn⟩,⟨dQ,dh⟩,vo⟩ C ⟨⟨some ⟨gh,hoff,none⟩,eZ⟩,⟨some ⟨gu,nI,none⟩,eX⟩,⟨some ⟨gm,eu,none⟩,dW⟩⟩ ⟨s.day,s.aj.set gi.toNat tg,s.used.set i true,s.marks⟩ gh gu gm:=by
   rw[HW2.out];exact HH.out.on (aK (aD _ _) _)
  have uR:Hid (aH (gL g gh gu gm) w W2):=by
   show aH _ _ _;rw[HW2.out];exact(Af.out.setCell (.inl (.inr (.inr (.inl rfl)))) _).alloc _
  have hs2:W2.heap.size=w.heap.size+3:=by rw[HW2.out];simp[World.setCell,hsz]
  have hn0:=H.out.gN (k:=w.heap.size) (bH _);have hn1:=H.out.gN (k:=w.heap.size+1) (by omega);have hn2:=H.out.gN (k:=w.heap.size+2) (by omega);have hc2:∀(p o:Nat)(u:Value),p≠gu->p<W1.heap.size->W1.cell? ⟨p,o,none⟩=some u->W2.cell? ⟨p,o,none⟩=some u:=λp o u h1 h2 h3=>by
   have hb:Below W1.heap.size (W1.setCell ⟨gu,nI+i,none⟩ (.bool true)) W2:=by rw[HW2.out];exact Below.mono (aK (aD _ _) _) (by simp[World.setCell])
   rw[hb.cell (p:=⟨p,o,none⟩) h2,World.cell?_setCell_other _ _ _ _ (λe=>h1 (by first|exact congrArg Addr.block e|exact(congrArg Addr.block e).symm))];exact h3
  have x0:=hc2 _ _ _ Ba (by omega) p0;have x2:=hc2 _ _ _ KW (by omega) q2;have x3:=hc2 _ _ _ KW (by omega) q3;have x4:W2.cell? ⟨w.heap.size+2,0,none⟩=some (.pointer (some ⟨g,0,none⟩)):=by
   have h:=bC (W1.setCell ⟨gu,nI+i,none⟩ (.bool true)) (.cells #[.pointer (some ⟨g,0,none⟩)] 126);rw[show(W1.setCell ⟨gu,nI+i,none⟩ (.bool true)).heap.size=w.heap.size+2 by simp[World.setCell,hsz],<-HW2.out]at h;exact(aG W2 _ 0 _ _ _ h).trans rfl
  clear hc2;refine w_ (α:=Nat) rfl (by omega) (gf:=146) rfl trivial (enters_of Tryz.func146 (by kernel_rfl) rfl)
   (A_ (Bw:=w.heap.size+2) (ms0:=s.marks) (eU C gi tg) (λi ms j h=>pO C gi tg i ms j h) (λi ms=>ow C gi tg i ms) _ (by omega)
    (λpre W=>aJ w0 W g ⟨vh,vu,⟨some ⟨b,mF,none⟩,dn⟩,⟨dQ,dh⟩,vo⟩ C ⟨⟨some ⟨gh,hoff,none⟩,eZ⟩,⟨some ⟨gu,nI,none⟩,eX⟩,⟨some ⟨gm,eu,none⟩,dW⟩⟩ ⟨s.day,s.aj.set gi.toNat tg,s.used.set i true,pre.foldl (λms i=>eU C gi tg i ms) s.marks⟩ gh gu gm/\aH (gL g gh gu gm) W2 W)
    (λpre W h=>⟨h.1,(h.2.cell (by omega) hn2).trans x4⟩)) (λ_=>rfl) ?own ?start ?a1 ?assign ?body ?done
  case assign=>
   intro l x W K hK;gi_wp2;exact hK
  case own=>
   refine OwnFrom.and (aJ.lM (λpre:List Nat=>(⟨s.day,s.aj.set gi.toNat tg,s.used.set i true,pre.foldl (λms i=>eU C gi tg i ms) s.marks⟩:ak)) _ ?_) (aH.lM _ (bH _));exact hW2.below.size
  case start=>exact⟨hW2,aH.refl _ _⟩
  case body=>
   as_aux_lemma=>
    intro l pre x W hI WQ;obtain⟨hW,hU⟩:=hI;obtain⟨hpre,m,hm,hrun⟩:=WQ;have hxl:x<s.marks.length:=(aZ.1 hm).1;have hxc:x<C.clauses.length:=by rw[<-HL.out];exact hxl
    obtain⟨k,hk⟩:∃k,C.clauses[x]?=some k:=⟨C.clauses[x],aT hxc⟩;have hmx:(pre.foldl (λms i=>eU C gi tg i ms) s.marks)[x]?=some m:=by
     rw[hpre,u_ (eU C gi tg) (λi ms j h=>pO C gi tg i ms j h) x _ _ (qN s.marks x)];exact hm
    generalize hM:pre.foldl (λms i=>eU C gi tg i ms) s.marks=M at hW hmx;have y0:=(hU.cell (o:=0) (by omega) hn0).trans x0;have y2:=(hU.cell (o:=2) (by omega) hn1).trans x2;have y3:=(hU.cell (o:=3) (by omega) hn1).trans x3;obtain⟨kb,kL,st,hK,hkb,hkc,_⟩:=hW.con.clause hk;simp only at hK;subst hK;have nN:=hkc _ hW.below;obtain⟨ki2,EU,ac,ne,start,af,gr,bu,fi,pa,re,⟨vn,vd⟩,JR,JU,wa⟩:=k;obtain⟨stA,Ac⟩:=st;obtain⟨c0,c1,c2,c3,c4,c5,c6,c7,c8,c9,c10,c11,c12,c13,c14,c15⟩:=Fh nN rfl;clear nN hkc;obtain⟨FL,qY,FM,hcell',hfz'⟩:=hW.nM hmx;simp only[Option.some.injEq,Addr.mk.injEq,true_and,and_true]at qY;subst qY;obtain⟨m0,m1,m2,m3,m4⟩:=m;have d3:W.cell? ⟨gm,eu+x*5+3,none⟩=some (.int .i64 m3):=hcell' 3 (by omega);have f3:=hfz' (eu+x*5+3);clear hcell' hfz';have k4:W.cell? ⟨g,4,none⟩=some (.slice (some ⟨kb,kL,none⟩) C.clauses.length dh):=hW.cell 4;have k10:W.cell? ⟨g,10,none⟩=some (.slice (some ⟨gm,eu,none⟩) M.length dW):=hW.cell 10;have hml:M.length=s.marks.length:=by
     rw[<-hM];exact qO _ (λi ms=>ow C gi tg i ms) _ _
    have HW:=ah hW;clear hW;have HU:=ah hU;clear hU;have HM:=ah hM;clear hM;have HK:=ah hk;clear hk;have pQ:=ah hmx;clear hmx;have HX:Hid (x<s.marks.length):=hxl;clear hxl hm hrun hpre;have x00:(0:Int)<=(x:Int):=by omega
    have x01:(x:Int)<(C.clauses.length:Int):=by omega
    have x02:(x:Int)<(M.length:Int):=by rw[hml,HL.out];exact x01
    have hsW:W2.heap.size<=W.heap.size:=HU.out.size;have anw:=av (HW.out.marks.eO).choose_spec;have hgW:=av HW.out.head;have anx:w.heap.size<W.heap.size:=by omega
    have anz:w.heap.size+1<W.heap.size:=by omega
    clear hml;clear HW1 Af p0 q0 q2 q3 k9' zc zf' hne1 hne2 Ba KW HH H HA x0 x2 x3 x4 hn0 hn1 hn2 hW2 HW2 uR hx hbl dw hgl hhl Zo hia hiu hg0 hg1 i0 i1 i2 hsz q hkb FM hxc;have HF:Hid (eU C gi tg x M=cond ((ki2 !=4)&&(EU==gi)) (M.set x ⟨m0,m1,m2,tg,m4⟩) M):=by
     show _=_;simp only[eU,HK.out,pQ.out]
    gi_wp2_with fail
    .as_aux_lemma=>
     rename_i hk4;refine⟨(KeepsOthers.alloc _ _).from _,?_,HU.out.alloc _⟩;rw[HM.out,HF.out,show((ki2 !=4)&&(EU==gi))=false by simp[hk4]];exact HW.out.on (aK (aD _ _) _)
    .as_aux_lemma=>
     rename_i hk4 hkr;refine aU 8 (jH.round _ _) (by simp) (by kernel_rfl) (by kernel_rfl) ?_;simp only[fK,bV,fT,cO];repeat(go_big_quiet_step (fail))
     refine aS ?_;rintro _ ⟨mq,rfl⟩;gi_wp2;have hu:aH (gL g gh gu gm) W (((W.alloc (.cells #[.int .i64 ki2,.int .i64 EU,.int .i64 ac,.int .i64 ne,.slice stA start.length Ac,.int .i64 af,.int .i64 gr,.bool bu,.bool fi,.int .i64 pa,.int .i64 re,.int .i64 vn,.int .i64 vd,.int .i64 JR,.int .i64 JU,.bool wa] 112)).drewN mq).setCell ⟨gm,eu+x*5+3,none⟩ (.int .i64 tg)):=(((aH.refl _ _).alloc _).drewN _).setCell (.inl (.inr (.inr (.inr rfl)))) _;refine⟨(HW.out.keeps hu).from _,?_,HU.out.trans hu (λ_ _ h=>h)⟩;rw[HM.out,HF.out,show((ki2 !=4)&&(EU==gi))=true by simp[hkr.1,hkr.2]];exact((HW.out.on (aK (aD _ _) _)).keep ((aH.refl _ _).drewN mq)).fU (m':=⟨m0,m1,m2,tg,m4⟩) pQ.out (by omega) rfl
    .as_aux_lemma=>
     rename_i hk4 hkr;refine⟨(KeepsOthers.alloc _ _).from _,?_,HU.out.alloc _⟩;rw[HM.out,HF.out,show((ki2 !=4)&&(EU==gi))=false by rcases hkr with h|h<;>simp[h]];exact HW.out.on (aK (aD _ _) _)
  case done=>
   rintro D xs W hD rfl ⟨hW,hU⟩ hK;gi_wp2;refine⟨by simp,.inl ⟨_,_,rfl,run_takeDeferred hK,?_⟩⟩;have hgr:=grownBy_putObj' W D (.deferred none);have hro:∀r,some D=some r->W2.heap.size<=r/\∃o,W.heap[r]?=some o/\o.isCells=false:=λr e=>by
    injection e with e
    subst e;exact⟨hD,_,hK,rfl⟩
   refine⟨_,results_none rfl _ _ _,rfl,?_,uR.out.trans (aH.lM (β:=Unit) _ (bH _) () W _ _ hU hgr hro) (λ_ _ h=>h)⟩;have h8:=aJ.lM (β:=Unit) (λ_=>(⟨s.day,s.aj.set gi.toNat tg,s.used.set i true,(f_ s.marks s.marks.length).foldl (λms i=>eU C gi tg i ms) s.marks⟩:ak)) _ hW2.below.size () W _ _ hW hgr hro;simp only[au.shift,q,cond_false];exact h8
end Go.Proofs.YtpmdedcnbockhaaGreatDoor
