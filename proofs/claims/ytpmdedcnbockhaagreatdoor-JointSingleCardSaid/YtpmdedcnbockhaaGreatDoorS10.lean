/- part -/
import Derived.Test.YtpmdedcnbockhaaGreatDoorS08
import Derived.Test.YtpmdedcnbockhaaGreatDoorS04
set_option maxRecDepth 100000
set_option maxHeartbeats 8000000
namespace Go.Proofs.YtpmdedcnbockhaaGreatDoor
section
open Go.RowKit Go.Shelf Tryz
attribute [local go_sem] Oper.semAt_some
def gP(ms:List aD):Nat->List Nat
 |0=>[]
 |k+1=>match ms[k]? with|some m=>cond m.runs (gP ms k++[k]) (gP ms k)|none=>gP ms k
theorem rE(ms:List aD):∀(k:Nat)(x:Nat),x∈gP ms k->x<k
 |0,x,h=>by cases h
 |k+1,x,h=>by
  unfold gP at h;cases hm:ms[k]? with
  |none=>rw[hm]at h;have:=rE ms k x h;omega
  |some m=>
   rw[hm]at h;cases hr:m.runs with
   |false=>simp only[hr,cond_false]at h;have:=rE ms k x h;omega
   |true=>
    simp only[hr,cond_true,jU,eB]at h;rcases h with h|h
    .have:=rE ms k x h;omega
    .omega
theorem vP(upd:Nat->List aD->List aD)(hu:∀i ms j,j≠i->(upd i ms)[j]?=ms[j]?)(k:Nat):∀(l:List Nat)(ms:List aD),(∀x∈l,x<k)->(l.foldl (λms i=>upd i ms) ms)[k]?=ms[k]?
 |[],ms,_=>rfl
 |x::l,ms,h=>by
  rw[List.foldl_cons,vP upd hu k l _ (λy hy=>h y (kG _ hy)),hu x ms k (by have:=h x (List.mem_cons_self ..);omega)]
theorem xX{w z:World}(h:Below w.heap.size w z):w.grownBy z none:=⟨h.os,h.tape,h.output,h.size,λk hk _=>h.block k hk⟩
theorem BU{w0:World}{g Bw:Nat}{v:CV}{C:au}{t:TV}{day:Int}{aj:List Int}{used:List Bool}{ms0:List aD}{gh gu gm:Nat}(upd:Nat->List aD->List aD)
 (hu:∀i ms j,j≠i->(upd i ms)[j]?=ms[j]?)(hul:∀i ms,(upd i ms).length=ms.length)(n:Nat)(hn:1<=n)(I:List Nat->World->Prop)
 (hI:∀pre W,I pre W->aH w0 W g v C t ⟨day,aj,used,pre.foldl (λms i=>upd i ms) ms0⟩ gh gu gm/\W.cell? ⟨Bw,0,none⟩=some (.pointer (some ⟨g,0,none⟩))):
 Xz Fence.wide n prog 146 #[.pointer (some ⟨Bw,0,none⟩)] (λi:Nat=>#[.int .i64 i]) I (λpre x=>pre=gP ms0 x/\∃m,ms0[x]?=some m/\m.runs=true) (λxs=>xs=gP ms0 ms0.length):=by
 intro l J W WC hJA hY h0;have hlen:∀(l:List Nat)(ms:List aD),(l.foldl (λms i=>upd i ms) ms).length=ms.length:=by
  intro l;induction l with
  |nil=>intro ms;rfl
  |cons x l ih=>intro ms;rw[List.foldl_cons,ih,hul]
 have HL:=ah hlen;clear hlen;have HU:=ah hu;clear hu;have HI:=ah hI;clear hI;have HJI:=ah WC;clear WC;have HJA:=ah hJA;clear hJA;have HY:=ah hY;clear hY;have Qg:=ah h0;clear h0;obtain⟨hW0,hB0⟩:=HI.out _ _ (HJI.out _ _ Qg.out);have aaw:=hW0.cell 10;obtain⟨eP,Jp,hc1,hc2,acZ⟩:=hW0.marks.Qb;clear acZ;obtain⟨th,tu,⟨fF,bY⟩⟩:=t;simp only at Jp aaw hc1 hc2;subst Jp;rw[HL.out]at aaw hc1;unfold maxLen at hc2;have hmx:ms0.length<=9223372036854775807:=by omega
 have amx:W.cell? ⟨g,10,none⟩=some (.slice (some ⟨gm,eP,none⟩) ms0.length bY):=aaw;clear aaw hW0;refine callsIn_of_wp func146 rfl trivial ?_ rfl;simp only[ntmps146,uF,gV,kM,Nat.reduceAdd,Nat.reduceSub,wz,wB,wE,wC,pE,wD];gi_wp2
 gi_loopw [10] (λi wr=>∃k:Nat,k<=ms0.length/\i= .int .i64 k/\Hid (J (gP ms0 k) wr)) (λi _=>ms0.length - (intOf i).toNat)
 case atStart=>exact⟨0,aU _,rfl,Qg⟩
 case round=>
  obtain⟨k,hk,rfl,HJ⟩:=hrel;by_cases hlt:k<ms0.length
  .obtain⟨m,hm⟩:∃m,ms0[k]?=some m:=⟨ms0[k],aS hlt⟩
   obtain⟨hW1,hB1⟩:=HI.out _ _ (HJI.out _ _ HJ.out);have hmk:((gP ms0 k).foldl (λms i=>upd i ms) ms0)[k]?=some m:=by rw[vP upd HU.out k _ _ (rE ms0 k)];exact hm
   obtain⟨off',hA',_,hcell',_⟩:=hW1.oD hmk;simp only[Option.some.injEq,Addr.mk.injEq,true_and,and_true]at hA';subst hA';have k10:=hW1.cell 10;have ajy:wr.cell? ⟨g,10,none⟩=some (.slice (some ⟨gm,eP,none⟩) ms0.length bY):=by have h:=k10;simp only[HL.out]at h;exact h
   obtain⟨m0,m1,m2,m3,m4⟩:=rw5 hcell' rfl;clear hcell' hmk k10 hW1;have hrun:=NG m wr;have HM:=ah hm;clear hm;have k0:(0:Int)<=(k:Int):=by omega
   have k1:(k:Int)<(ms0.length:Int):=by omega
   cases hr:m.runs with
   |false=>
    rw[hr]at hrun;have HR:=ah hr;clear hr;have ac0:=ah hrun;clear hrun;gi_wp2_with (refine⟨trivial,?_⟩;gi_at_call 147;refine(fq.2 ac0.out).mono ?_;rintro e z ⟨rfl,hz⟩);refine⟨λ_ h=>(by cases h),?_⟩;gi_wp2
    go_roundw
    case rel=>exact⟨k+1,by omega,by go_num,by
     show J _ _;simp only[gP,HM.out,HR.out,cond_false];exact HJA.out _ wr _ none HJ.out (xX hz) (λr e=>by cases e)⟩
    case measure=>simp[intOf];omega
   |true=>
    rw[hr]at hrun;have HR:=ah hr;clear hr;have ac0:=ah hrun;clear hrun;gi_wp2_with (refine⟨trivial,?_⟩;gi_at_call 147;refine(fq.2 ac0.out).mono ?_;rintro e z ⟨rfl,hz⟩;obtain⟨fn,tmps,assign,body,hy,hR⟩:=HY.out _ k z (HJA.out _ wr z none HJ.out (xX hz) (λr e=>by cases e)) ⟨rfl,m,HM.out,HR.out⟩);refine hR.mono ?_;rintro e W3 ⟨rfl,hJ3⟩;gi_wp2
    go_roundw
    case rel=>exact⟨k+1,by omega,by go_num,by
     show J _ _;simp only[gP,HM.out,HR.out,cond_true];exact hJ3⟩
    case measure=>simp[intOf];omega
  .obtain rfl:k=ms0.length:=by omega
   gi_wp2
   go_end0
   exact⟨⟨_,rfl⟩,_,rfl,HJ.out⟩
end
section
open Go.RowKit Tryz
theorem aH.Tv{w0 w:World}{g:Nat}{v:CV}{C:au}{t:TV}{s:ak}{gh gu gm:Nat}(h:aH w0 w g v C t s gh gu gm):g≠gh:=λe=>by
 subst e;obtain⟨cur,hc⟩:=h.aj.fC;have h2:=h.head.symm.trans hc;simp at h2
theorem aH.Tw{w0 w:World}{g:Nat}{v:CV}{C:au}{t:TV}{s:ak}{gh gu gm:Nat}(h:aH w0 w g v C t s gh gu gm):g≠gu:=λe=>by
 subst e;obtain⟨cur,hc⟩:=h.used.fC;have h2:=h.head.symm.trans hc;simp at h2
theorem aH.UW{w0 w:World}{g:Nat}{v:CV}{C:au}{off dN:Nat}{tu tm:SV}{s:ak}{gh gu gm:Nat}(h:aH w0 w g v C ⟨⟨some ⟨gh,off,none⟩,dN⟩,tu,tm⟩ s gh gu gm){i:Nat}(hi:i<s.aj.length)(x:Int):
 aH w0 (w.setCell ⟨gh,off+i,none⟩ (.int .i64 x)) g v C ⟨⟨some ⟨gh,off,none⟩,dN⟩,tu,tm⟩ ⟨s.day,s.aj.set i x,s.used,s.marks⟩ gh gu gm:=by
 have hr:=h.aj.store (k:=i) (by omega) (.int .i64 x);have hu:aG (λk=>k=gh) w (w.setCell ⟨gh,off+i,none⟩ (.int .i64 x)):=(aG.refl (λk=>k=gh) w).setCell (.inl rfl) _;rw[show(aZ s.aj).set i (.int .i64 x)=aZ (s.aj.set i x) by simp[aZ,List.map_set]]at hr;exact⟨by simpa using hu.keep h.head h.Tv,h.con,h.below.trans (hu.below h.below.size (λk hk=>by rw[hk];exact h.newH)),
  by simpa using hr,
  h.used.keep hu (λk hk e=>by injection hk with hk;subst hk;exact h.used.kC h.aj (by decide) e),
  h.marks.keep hu (λk hk e=>by injection hk with hk;subst hk;exact h.marks.kC h.aj (by decide) e),h.newG,h.newH,h.Aw,h.uL⟩
theorem aH.usedSet{w0 w:World}{g:Nat}{v:CV}{C:au}{off dL:Nat}{th tm:SV}{s:ak}{gh gu gm:Nat}(h:aH w0 w g v C ⟨th,⟨some ⟨gu,off,none⟩,dL⟩,tm⟩ s gh gu gm){i:Nat}(hi:i<s.used.length)(x:Bool):
 aH w0 (w.setCell ⟨gu,off+i,none⟩ (.bool x)) g v C ⟨th,⟨some ⟨gu,off,none⟩,dL⟩,tm⟩ ⟨s.day,s.aj,s.used.set i x,s.marks⟩ gh gu gm:=by
 have hr:=h.used.store (k:=i) (by omega) (.bool x);have hu:aG (λk=>k=gu) w (w.setCell ⟨gu,off+i,none⟩ (.bool x)):=(aG.refl (λk=>k=gu) w).setCell (.inl rfl) _;rw[show(fM s.used).set i (.bool x)=fM (s.used.set i x) by simp[fM,List.map_set]]at hr;exact⟨by simpa using hu.keep h.head h.Tw,h.con,h.below.trans (hu.below h.below.size (λk hk=>by rw[hk];exact h.Aw)),
  h.aj.keep hu (λk hk e=>by injection hk with hk;subst hk;exact h.aj.kC h.used (by decide) e),
  by simpa using hr,
  h.marks.keep hu (λk hk e=>by injection hk with hk;subst hk;exact h.marks.kC h.used (by decide) e),h.newG,h.newH,h.Aw,h.uL⟩
theorem aH.ac1{w0 w:World}{g:Nat}{v:CV}{C:au}{t:TV}{s:ak}{gh gu gm:Nat}(h:aH w0 w g v C t s gh gu gm)(x:Int):
 aH w0 (w.setCell ⟨g,7,none⟩ (.int .i64 x)) g v C t ⟨x,s.aj,s.used,s.marks⟩ gh gu gm:=by
 have hu:aG (λk=>k=g) w (w.setCell ⟨g,7,none⟩ (.int .i64 x)):=(aG.refl (λk=>k=g) w).setCell (.inl rfl) _;exact⟨by have h2:=heap_setCell_same (i:=7) h.head (.int .i64 x);simpa using h2,h.con,h.below.trans (hu.below h.below.size (λk hk=>by rw[hk];exact h.newG)),
  h.aj.keep hu (λk hk e=>by injection hk with hk;subst hk;exact h.Tv e.symm),
  h.used.keep hu (λk hk e=>by injection hk with hk;subst hk;exact h.Tw e.symm),
  h.marks.keep hu (λk hk e=>by injection hk with hk;subst hk;exact h.Kr e.symm),h.newG,h.newH,h.Aw,h.uL⟩
theorem aH.mG{β:Type}{w0:World}{g:Nat}{v:CV}{C:au}{t:TV}{gh gu gm:Nat}(f:β->ak)(B:Nat)(hB:w0.heap.size<=B):OwnFrom B (λ(s:β) W=>aH w0 W g v C t (f s) gh gu gm):=by
 intro s W W' row h hg hr;have hne:∀(k:Nat)(cur:Array Value)(e:TypeId),W.heap[k]?=some (.cells cur e (0,0))->row≠some k:=λk cur e hk er=>by
  obtain⟨_,o,ho,hc⟩:=hr k er;rw[hk]at ho;injection ho with ho
  subst ho;simp[Obj.isCells]at hc
 have hu:=aG.jK hg;obtain⟨c1,h1⟩:=h.aj.fC;obtain⟨c2,h2⟩:=h.used.fC;obtain⟨c3,h3⟩:=h.marks.fC;exact⟨hu.keep h.head (hne _ _ _ h.head),h.con,h.below.trans (hu.below h.below.size (λk hk=>bI hB (hr k hk).1)),
  h.aj.keep hu (λk hk=>by injection hk with hk;subst hk;exact hne _ _ _ h1),
  h.used.keep hu (λk hk=>by injection hk with hk;subst hk;exact hne _ _ _ h2),
  h.marks.keep hu (λk hk=>by injection hk with hk;subst hk;exact hne _ _ _ h3),h.newG,h.newH,h.Aw,h.uL⟩
theorem aG.mG{β:Type}{S:Nat->Prop}{w0:World}(B:Nat)(hB:w0.heap.size<=B):OwnFrom B (λ(_:β) W=>aG S w0 W):=by
 intro s W W' row h hg hr;refine h.trans (aG.jK hg) (λi hi e=>?_);have h1:=(hr i e).1;omega
theorem aG.cell{S:Nat->Prop}{w w':World}(h:aG S w w'){b o:Nat}(hb:b<w.heap.size)(hn:¬S b):w'.cell? ⟨b,o,none⟩=w.cell? ⟨b,o,none⟩:=by
 simp only[World.cell?,h.block b hb hn]
theorem aH.keeps{w0 w w':World}{g:Nat}{v:CV}{C:au}{t:TV}{s:ak}{gh gu gm:Nat}(h:aH w0 w g v C t s gh gu gm)(hu:aG (gX g gh gu gm) w w'):KeepsOthers w w':=by
 obtain⟨c1,h1⟩:=h.aj.fC;obtain⟨c2,h2⟩:=h.used.fC;obtain⟨c3,h3⟩:=h.marks.fC;have hne:∀(k:Nat)(cur:Array Value)(e:TypeId)(o:Obj),w.heap[k]?=some (.cells cur e (0,0))->w.heap[k]?=some o->o.isCells=false->False:=λk cur e o hk ho hc=>by
  rw[hk]at ho;injection ho with ho
  subst ho;simp[Obj.isCells]at hc
 refine⟨hu.size,λk o hk ho=>hu.keep hk (λe=>?_)⟩;rcases e with rfl|rfl|rfl|rfl
 .exact hne _ _ _ _ h.head hk ho
 .exact hne _ _ _ _ h1 hk ho
 .exact hne _ _ _ _ h2 hk ho
 .exact hne _ _ _ _ h3 hk ho
theorem aH.gZ{w0 w:World}{g:Nat}{v:CV}{C:au}{t:TV}{s:ak}{gh gu gm:Nat}(h:aH w0 w g v C t s gh gu gm){k:Nat}(hk:w.heap.size<=k):¬gX g gh gu gm k:=by
 obtain⟨c1,h1⟩:=h.aj.fC;obtain⟨c2,h2⟩:=h.used.fC;obtain⟨c3,h3⟩:=h.marks.fC;have e0:=aB h.head;have e1:=aB h1;have e2:=aB h2;have e3:=aB h3;rintro(e|e|e|e)<;>omega
end
section
open Go.RowKit Tryz
theorem jP(A:Option Addr)(w:World):Calls prog 110 #[.pointer A] w (λe w'=>e= .returned (.func (.func 146) #[] #[.pointer (some ⟨w.heap.size,0,none⟩)])/\w'=w.alloc (.cells #[.pointer A] 126)):=by
 go_enter func110,ntmps110;go_wp2;go_ret;exact⟨rfl,rfl⟩
end
open Go.RowKit Go.Shelf Tryz
attribute [local go_sem] Oper.semAt_some
def fH(C:au)(give tgt:Int)(i:Nat)(ms:List aD):List aD:=
 match C.clauses[i]?,ms[i]? with
 |some k,some m=>cond ((k.kind !=4)&&(k.role==give)) (ms.set i ⟨m.status,m.left,m.got,tgt,m.paused⟩) ms
 |_,_=>ms
theorem oV(C:au)(give tgt:Int)(i:Nat)(ms:List aD):(fH C give tgt i ms).length=ms.length:=by
 unfold fH;split
 .rename_i k m _ _
  cases ((k.kind !=4)&&(k.role==give))<;>simp
 .rfl
theorem qz(C:au)(give tgt:Int)(i:Nat)(ms:List aD)(j:Nat)(h:j≠i):(fH C give tgt i ms)[j]?=ms[j]?:=by
 unfold fH;split
 .rename_i k m _ _
  cases ((k.kind !=4)&&(k.role==give))
  .rfl
  .simp only[cond_true]
   rw[j_,if_neg (λe=>h e.symm)]
 .rfl
def au.shift(C:au)(i:Nat)(a:jy)(s:ak):ak:=
 ⟨s.day,s.aj.set a.give.toNat a.tgt,s.used.set i true,cond (a.kind !=3) s.marks ((gP s.marks s.marks.length).foldl (λms j=>fH C a.give a.tgt j ms) s.marks)⟩
theorem rF(upd:Nat->List aD->List aD)(hul:∀i ms,(upd i ms).length=ms.length):∀(l:List Nat)(ms:List aD),(l.foldl (λms i=>upd i ms) ms).length=ms.length
 |[],_=>rfl
 |x::l,ms=>by rw[List.foldl_cons,rF upd hul l,hul]
theorem UY{w0 w:World}{g:Nat}{v:CV}{C:au}{t:TV}{s:ak}{gh gu gm:Nat}(h:aH w0 w g v C t s gh gu gm)(i:Nat)(a:jy)(ha:C.acts[i]?=some a)(hiu:i<s.used.length)(hg0:0<=a.give)(hg1:a.give<s.aj.length)(hlen:s.marks.length=C.clauses.length):
 Calls prog 114 #[.pointer (some ⟨g,0,none⟩),.int .i64 i] w (lI w0 g v C t (C.shift i a s) gh gu gm w):=by
 have hia:i<C.acts.length:=(bB.1 ha).1;obtain⟨hoff,hhA,hhl,hhc,hhf⟩:∃off,t.h.A=some ⟨gh,off,none⟩/\gh<w.heap.size/\(∀j,j<s.aj.length->w.cell? ⟨gh,off+j,none⟩=(aZ s.aj)[j]?)/\(∀j,w.frozen? ⟨gh,j,none⟩=false):=by
  obtain⟨off,h1,_,_,h2,h3,h4⟩:=h.aj.Qb;exact⟨off,h1,h2,λj hj=>h3 j (by omega),h4⟩
 obtain⟨n_,huA,hul,huc,huf⟩:∃off,t.u.A=some ⟨gu,off,none⟩/\gu<w.heap.size/\(∀j,j<s.used.length->w.cell? ⟨gu,off+j,none⟩=(fM s.used)[j]?)/\(∀j,w.frozen? ⟨gu,j,none⟩=false):=by
  obtain⟨off,h1,_,_,h2,h3,h4⟩:=h.used.Qb;exact⟨off,h1,h2,λj hj=>h3 j (by omega),h4⟩
 obtain⟨b,mO,hA,hbl,hac⟩:=h.con.act ha;obtain⟨eP,Jp,_⟩:=h.marks.Qb;obtain⟨⟨eu,dN⟩,⟨eH,dL⟩,⟨fF,bY⟩⟩:=t;obtain⟨vh,vu,⟨fB,dH⟩,⟨eZ,dM⟩,vo⟩:=v;simp only at hhA huA hA Jp;subst hhA huA hA Jp;obtain⟨ki,ro,gi,tg,un,⟨ln,ld⟩⟩:=a;simp only at hg0 hg1;have k3:w.cell? ⟨g,3,none⟩=some (.slice (some ⟨b,mO,none⟩) C.acts.length dH):=h.cell 3;have k8:w.cell? ⟨g,8,none⟩=some (.slice (some ⟨gh,hoff,none⟩) s.aj.length dN):=h.cell 8;have k9:w.cell? ⟨g,9,none⟩=some (.slice (some ⟨gu,n_,none⟩) s.used.length dL):=h.cell 9;have BX:=hac w h.below;obtain⟨a0,a1,a2,a3,a4,a5,a6⟩:=rw7 BX rfl;clear hac BX;have i0:(0:Int)<=(i:Int):=by omega
 have i1:(i:Int)<(C.acts.length:Int):=by omega
 have i2:(i:Int)<(s.used.length:Int):=by omega
 have hgl:=aB h.head;have dh:b<w.heap.size:=uH hbl h.below.size;have H:=ah h;clear h;have HA:=ah ha;clear ha;have HL:=ah hlen;clear hlen;refine(fq (n:=3)).1 ?_;refine callsIn_of_wp_marks func114 rfl trivial ?_ rfl;simp only[ntmps114,uF,gV,kM,Nat.reduceAdd,Nat.reduceSub,wz,wB,wE,wC,pE,wD];have hx:gi.toNat<s.aj.length:=by omega
 have y0:w.cell? ⟨gh,hoff+gi.toNat,none⟩=some (.int .i64 (fP s.aj gi)):=by rw[hhc _ hx];simp[aZ,fP,hx]
 have yf:=hhf (hoff+gi.toNat);have z0:w.cell? ⟨gu,n_+i,none⟩=some (.bool s.used[i]):=by rw[huc _ hiu];simp[fM,hiu]
 have zf:=huf (n_+i);have hne1:=H.out.Tv;have hne2:=H.out.Tw;clear hhc hhf huc huf;gi_wp2
 gi_region
 obtain⟨W1,HW1⟩:∃W1,Hid (W1=(((w.setCell ⟨gh,hoff+gi.toNat,none⟩ (.int .i64 tg)).alloc (.cells #[.pointer (some ⟨g,0,none⟩)] 126)).alloc (.cells #[.int .i64 ki,.int .i64 ro,.int .i64 gi,.int .i64 tg,.int .i64 un,.int .i64 ln,.int .i64 ld] 109)).drew):=⟨_,rfl⟩;rw[<-HW1.out];have hW1:aH w0 W1 g ⟨vh,vu,⟨some ⟨b,mO,none⟩,dH⟩,⟨eZ,dM⟩,vo⟩ C ⟨⟨some ⟨gh,hoff,none⟩,dN⟩,⟨some ⟨gu,n_,none⟩,dL⟩,⟨some ⟨gm,eP,none⟩,bY⟩⟩ ⟨s.day,s.aj.set gi.toNat tg,s.used,s.marks⟩ gh gu gm:=by
  rw[HW1.out];exact(((H.out.UW hx tg).on (aJ (aC _ _) _)).on (aJ (aC _ _) _)).keep ((aG.refl _ _).drew)
 have zQ:Hid (aG (gX g gh gu gm) w W1):=by
  show aG _ _ _;rw[HW1.out];exact((((aG.refl _ _).setCell (.inl (.inr (.inl rfl))) _).alloc _).alloc _).drew
 have hsz:W1.heap.size=w.heap.size+2:=by rw[HW1.out];simp[World.setCell]
 have hh0:W1.heap[w.heap.size]?=some (.cells #[.pointer (some ⟨g,0,none⟩)] 126 (0,0)):=by
  rw[HW1.out];refine(Below.heap_alloc _ _ _ (by simp[World.setCell])).trans ?_;have h:=bK (w.setCell ⟨gh,hoff+gi.toNat,none⟩ (.int .i64 tg)) (.cells #[.pointer (some ⟨g,0,none⟩)] 126);simpa [World.setCell]using h
 have gG:W1.heap[w.heap.size+1]?=some (.cells #[.int .i64 ki,.int .i64 ro,.int .i64 gi,.int .i64 tg,.int .i64 un,.int .i64 ln,.int .i64 ld] 109 (0,0)):=by
  rw[HW1.out];have h:=bK ((w.setCell ⟨gh,hoff+gi.toNat,none⟩ (.int .i64 tg)).alloc (.cells #[.pointer (some ⟨g,0,none⟩)] 126)) (.cells #[.int .i64 ki,.int .i64 ro,.int .i64 gi,.int .i64 tg,.int .i64 un,.int .i64 ln,.int .i64 ld] 109);rw[show((w.setCell ⟨gh,hoff+gi.toNat,none⟩ (.int .i64 tg)).alloc (.cells #[.pointer (some ⟨g,0,none⟩)] 126)).heap.size=w.heap.size+1 by simp[World.setCell]]at h;exact h
 have p0:W1.cell? ⟨w.heap.size,0,none⟩=some (.pointer (some ⟨g,0,none⟩)):=(aK W1 _ 0 _ _ _ hh0).trans rfl;have q0:W1.cell? ⟨w.heap.size+1,0,none⟩=some (.int .i64 ki):=(aK W1 _ 0 _ _ _ gG).trans rfl;have q2:W1.cell? ⟨w.heap.size+1,2,none⟩=some (.int .i64 gi):=(aK W1 _ 2 _ _ _ gG).trans rfl;have q3:W1.cell? ⟨w.heap.size+1,3,none⟩=some (.int .i64 tg):=(aK W1 _ 3 _ _ _ gG).trans rfl;have k9':W1.cell? ⟨g,9,none⟩=some (.slice (some ⟨gu,n_,none⟩) s.used.length dL):=hW1.cell 9;obtain⟨zc,zf'⟩:W1.cell? ⟨gu,n_+i,none⟩=some (.bool s.used[i])/\W1.frozen? ⟨gu,n_+i,none⟩=false:=by
  obtain⟨off,h1,_,_,h2,h3,h4⟩:=hW1.used.Qb;simp only[Option.some.injEq,Addr.mk.injEq,true_and,and_true]at h1;subst h1;refine⟨?_,h4 _⟩;rw[h3 _ (by simpa using hiu)];simp[fM,hiu]
 have BZ:w.heap.size≠gu:=by omega
 have LM:w.heap.size+1≠gu:=by omega
 have HW2:=hW1.usedSet (i:=i) hiu true;have HH:=ah HW2;clear HW2 hW1 hh0 gG k3 k8 k9 a0 a1 a2 a3 a4 a5 a6 y0 yf z0 zf;cases q:(ki !=3)with
 |true=>
  gi_wp2;refine⟨_,results_none rfl _ _ _,rfl,?_,zQ.out.setCell (.inl (.inr (.inr (.inl rfl)))) _⟩;simp only[au.shift,q,cond_true];exact HH.out
 |false=>
  gi_wp2_with (refine⟨trivial,?_⟩;gi_at_call 110;refine(fq.2 (jP _ _)).mono ?_;rintro e z ⟨rfl,rfl⟩);obtain⟨W2,HW2⟩:∃W2,Hid (W2=(W1.setCell ⟨gu,n_+i,none⟩ (.bool true)).alloc (.cells #[.pointer (some ⟨g,0,none⟩)] 126)):=⟨_,rfl⟩;rw[<-HW2.out];have hW2:aH w0 W2 g ⟨vh,vu,⟨some ⟨b,mO,none⟩,dH⟩,⟨eZ,dM⟩,vo⟩ C ⟨⟨some ⟨gh,hoff,none⟩,dN⟩,⟨some ⟨gu,n_,none⟩,dL⟩,⟨some ⟨gm,eP,none⟩,bY⟩⟩ ⟨s.day,s.aj.set gi.toNat tg,s.used.set i true,s.marks⟩ gh gu gm:=by
   rw[HW2.out];exact HH.out.on (aJ (aC _ _) _)
  have vD:Hid (aG (gX g gh gu gm) w W2):=by
   show aG _ _ _;rw[HW2.out];exact(zQ.out.setCell (.inl (.inr (.inr (.inl rfl)))) _).alloc _
  have hs2:W2.heap.size=w.heap.size+3:=by rw[HW2.out];simp[World.setCell,hsz]
  have hn0:=H.out.gZ (k:=w.heap.size) (bJ _);have hn1:=H.out.gZ (k:=w.heap.size+1) (by omega);have hn2:=H.out.gZ (k:=w.heap.size+2) (by omega);have hc2:∀(p o:Nat)(u:Value),p≠gu->p<W1.heap.size->W1.cell? ⟨p,o,none⟩=some u->W2.cell? ⟨p,o,none⟩=some u:=λp o u h1 h2 h3=>by
   have hb:Below W1.heap.size (W1.setCell ⟨gu,n_+i,none⟩ (.bool true)) W2:=by rw[HW2.out];exact Below.mono (aJ (aC _ _) _) (by simp[World.setCell])
   rw[hb.cell (p:=⟨p,o,none⟩) h2,World.cell?_setCell_other _ _ _ _ (λe=>h1 (by first|exact congrArg Addr.block e|exact(congrArg Addr.block e).symm))];exact h3
  have x0:=hc2 _ _ _ BZ (by omega) p0;have x2:=hc2 _ _ _ LM (by omega) q2;have x3:=hc2 _ _ _ LM (by omega) q3;have x4:W2.cell? ⟨w.heap.size+2,0,none⟩=some (.pointer (some ⟨g,0,none⟩)):=by
   have h:=bK (W1.setCell ⟨gu,n_+i,none⟩ (.bool true)) (.cells #[.pointer (some ⟨g,0,none⟩)] 126);rw[show(W1.setCell ⟨gu,n_+i,none⟩ (.bool true)).heap.size=w.heap.size+2 by simp[World.setCell,hsz],<-HW2.out]at h;exact(aK W2 _ 0 _ _ _ h).trans rfl
  clear hc2;refine xR (α:=Nat) rfl (by omega) (gf:=146) rfl trivial (enters_of func146 (by kernel_rfl) rfl)
   (BU (Bw:=w.heap.size+2) (ms0:=s.marks) (fH C gi tg) (λi ms j h=>qz C gi tg i ms j h) (λi ms=>oV C gi tg i ms) _ (by omega)
    (λpre W=>aH w0 W g ⟨vh,vu,⟨some ⟨b,mO,none⟩,dH⟩,⟨eZ,dM⟩,vo⟩ C ⟨⟨some ⟨gh,hoff,none⟩,dN⟩,⟨some ⟨gu,n_,none⟩,dL⟩,⟨some ⟨gm,eP,none⟩,bY⟩⟩ ⟨s.day,s.aj.set gi.toNat tg,s.used.set i true,pre.foldl (λms i=>fH C gi tg i ms) s.marks⟩ gh gu gm/\aG (gX g gh gu gm) W2 W)
    (λpre W h=>⟨h.1,(h.2.cell (by omega) hn2).trans x4⟩)) (λ_=>rfl) ?own ?start ?a1 ?assign ?body ?done
  case assign=>
   intro l x W K hK;gi_wp2;exact hK
  case own=>
   refine OwnFrom.and (aH.mG (λpre:List Nat=>(⟨s.day,s.aj.set gi.toNat tg,s.used.set i true,pre.foldl (λms i=>fH C gi tg i ms) s.marks⟩:ak)) _ ?_) (aG.mG _ (bJ _));exact hW2.below.size
  case start=>exact⟨hW2,aG.refl _ _⟩
  case body=>
   as_aux_lemma=>
    intro l pre x W hI hOk;obtain⟨hW,hU⟩:=hI;obtain⟨hpre,m,hm,hrun⟩:=hOk;have hxl:x<s.marks.length:=(bB.1 hm).1;have hxc:x<C.clauses.length:=by rw[<-HL.out];exact hxl
    obtain⟨k,hk⟩:∃k,C.clauses[x]?=some k:=⟨C.clauses[x],aS hxc⟩;have hmx:(pre.foldl (λms i=>fH C gi tg i ms) s.marks)[x]?=some m:=by
     rw[hpre,vP (fH C gi tg) (λi ms j h=>qz C gi tg i ms j h) x _ _ (rE s.marks x)];exact hm
    generalize hM:pre.foldl (λms i=>fH C gi tg i ms) s.marks=M at hW hmx;have y0:=(hU.cell (o:=0) (by omega) hn0).trans x0;have y2:=(hU.cell (o:=2) (by omega) hn1).trans x2;have y3:=(hU.cell (o:=3) (by omega) hn1).trans x3;obtain⟨kb,kK,st,hK,hkb,hkc,_⟩:=hW.con.clause hk;simp only at hK;subst hK;have mJ:=hkc _ hW.below;obtain⟨ki2,AO,ac,ne,start,af,gr,bu,fi,pa,re,⟨vn,vd⟩,Dt,Du,wa⟩:=k;obtain⟨stA,wQ⟩:=st;obtain⟨c0,c1,c2,c3,c4,c5,c6,c7,c8,c9,c10,c11,c12,c13,c14,c15⟩:=EP mJ rfl;clear mJ hkc;obtain⟨Gq,rV,Gr,hcell',hfz'⟩:=hW.oD hmx;simp only[Option.some.injEq,Addr.mk.injEq,true_and,and_true]at rV;subst rV;obtain⟨m0,m1,m2,m3,m4⟩:=m;have d3:W.cell? ⟨gm,eP+x*5+3,none⟩=some (.int .i64 m3):=hcell' 3 (by omega);have f3:=hfz' (eP+x*5+3);clear hcell' hfz';have k4:W.cell? ⟨g,4,none⟩=some (.slice (some ⟨kb,kK,none⟩) C.clauses.length dM):=hW.cell 4;have k10:W.cell? ⟨g,10,none⟩=some (.slice (some ⟨gm,eP,none⟩) M.length bY):=hW.cell 10;have hml:M.length=s.marks.length:=by
     rw[<-hM];exact rF _ (λi ms=>oV C gi tg i ms) _ _
    have HW:=ah hW;clear hW;have HU:=ah hU;clear hU;have HM:=ah hM;clear hM;have HK:=ah hk;clear hk;have qB:=ah hmx;clear hmx;have HX:Hid (x<s.marks.length):=hxl;clear hxl hm hrun hpre;have x00:(0:Int)<=(x:Int):=by omega
    have x01:(x:Int)<(C.clauses.length:Int):=by omega
    have x02:(x:Int)<(M.length:Int):=by rw[hml,HL.out];exact x01
    have hsW:W2.heap.size<=W.heap.size:=HU.out.size;have aoY:=aB (HW.out.marks.fC).choose_spec;have hgW:=aB HW.out.head;have aoZ:w.heap.size<W.heap.size:=by omega
    have ao0:w.heap.size+1<W.heap.size:=by omega
    clear hml;clear HW1 zQ p0 q0 q2 q3 k9' zc zf' hne1 hne2 BZ LM HH H HA x0 x2 x3 x4 hn0 hn1 hn2 hW2 HW2 vD hx hbl dh hgl hhl hul hia hiu hg0 hg1 i0 i1 i2 hsz q hkb Gr hxc;have HF:Hid (fH C gi tg x M=cond ((ki2 !=4)&&(AO==gi)) (M.set x ⟨m0,m1,m2,tg,m4⟩) M):=by
     show _=_;simp only[fH,HK.out,qB.out]
    gi_wp2_with fail
    .as_aux_lemma=>
     rename_i hk4;refine⟨(KeepsOthers.alloc _ _).from _,?_,HU.out.alloc _⟩;rw[HM.out,HF.out,show((ki2 !=4)&&(AO==gi))=false by simp[hk4]];exact HW.out.on (aJ (aC _ _) _)
    .as_aux_lemma=>
     rename_i hk4 hkr;refine aR 8 (jV.round _ _) ?_;simp only[gF,bW,gI,b_];repeat(go_big_quiet_step (fail))
     refine aY ?_;rintro _ ⟨mq,rfl⟩;gi_wp2;have hu:aG (gX g gh gu gm) W (((W.alloc (.cells #[.int .i64 ki2,.int .i64 AO,.int .i64 ac,.int .i64 ne,.slice stA start.length wQ,.int .i64 af,.int .i64 gr,.bool bu,.bool fi,.int .i64 pa,.int .i64 re,.int .i64 vn,.int .i64 vd,.int .i64 Dt,.int .i64 Du,.bool wa] 112)).drewN mq).setCell ⟨gm,eP+x*5+3,none⟩ (.int .i64 tg)):=(((aG.refl _ _).alloc _).drewN _).setCell (.inl (.inr (.inr (.inr rfl)))) _;refine⟨(HW.out.keeps hu).from _,?_,HU.out.trans hu (λ_ _ h=>h)⟩;rw[HM.out,HF.out,show((ki2 !=4)&&(AO==gi))=true by simp[hkr.1,hkr.2]];exact((HW.out.on (aJ (aC _ _) _)).keep ((aG.refl _ _).drewN mq)).gL (m':=⟨m0,m1,m2,tg,m4⟩) qB.out (by omega) rfl
    .as_aux_lemma=>
     rename_i hk4 hkr;refine⟨(KeepsOthers.alloc _ _).from _,?_,HU.out.alloc _⟩;rw[HM.out,HF.out,show((ki2 !=4)&&(AO==gi))=false by rcases hkr with h|h<;>simp[h]];exact HW.out.on (aJ (aC _ _) _)
  case done=>
   rintro D xs W hD rfl ⟨hW,hU⟩ hK;gi_wp2;refine⟨by simp,.inl ⟨_,_,rfl,run_takeDeferred hK,?_⟩⟩;have hgr:=grownBy_putObj' W D (.deferred none);have hro:∀r,some D=some r->W2.heap.size<=r/\∃o,W.heap[r]?=some o/\o.isCells=false:=λr e=>by
    injection e with e
    subst e;exact⟨hD,_,hK,rfl⟩
   refine⟨_,results_none rfl _ _ _,rfl,?_,vD.out.trans (aG.mG (β:=Unit) _ (bJ _) () W _ _ hU hgr hro) (λ_ _ h=>h)⟩;have h8:=aH.mG (β:=Unit) (λ_=>(⟨s.day,s.aj.set gi.toNat tg,s.used.set i true,(gP s.marks s.marks.length).foldl (λms i=>fH C gi tg i ms) s.marks⟩:ak)) _ hW2.below.size () W _ _ hW hgr hro;simp only[au.shift,q,cond_false];exact h8
end Go.Proofs.YtpmdedcnbockhaaGreatDoor
