/-
  CtG; CtH; CtI
-/
import Derived.Test.YtpmdedcnbockhaaGreatDoorM24
set_option maxRecDepth 100000
set_option maxHeartbeats 8000000
namespace Go.Proofs.YtpmdedcnbockhaaGreatDoor
section
open Go.RowKit Go.Shelf
theorem Po(H:List (Nat×Int×Int))(f:Nat->Int):qg H f=H.reverse.foldl (λf c=>setAt f c.1 c.2.1) f:=by
 rw[List.foldl_reverse];induction H with
 |nil=>rfl
 |cons c H ih=>show setAt (qg H f) c.1 c.2.1=_;rw[ih];rfl
theorem Pp(H:List (Nat×Int×Int))(f:Nat->Int):qh H f=H.reverse.foldl (λf c=>setAt f c.1 c.2.2) f:=by
 rw[List.foldl_reverse];induction H with
 |nil=>rfl
 |cons c H ih=>show setAt (qh H f) c.1 c.2.2=_;rw[ih];rfl
theorem aR.caps{w:World}{X:SX}{lo hi:Nat->Int}{A:Option Addr}{oc:Nat}{H:List (Nat×Int×Int)}(h:aR w X lo hi A oc H):H.length<=oc/\oc<=maxLen:=by
 rcases h.old.2 with⟨h1,h2⟩|⟨g,cap,cur,h1,_,_,h3,h4,_⟩
 .simp only[Value.slice.injEq]at h1
  rw[h2,h1.2.2];exact⟨bJ _,aZ _⟩
 .simp only[Value.slice.injEq]at h1
  rw[h1.2.2];exact⟨h3,h4⟩
theorem aR.ad2{w:World}{X:SX}{lo hi:Nat->Int}{A:Option Addr}{oc:Nat}{H H2:List (Nat×Int×Int)}(h:aR w X lo hi A oc (H++H2)):At w 3 (if oc=H.length then A else A.map (·.add (H.length*3))) H2.length (oc - H.length) (H2.flatMap p8):=by
 have hfl:(H.flatMap p8).length=H.length*3:=f_ p8 3 (λ_=>rfl) H;have hl:(H++H2).length=H.length+H2.length:=pJ;have hcap:=h.caps;rcases sJ h.old with⟨h0,hA,hc⟩|⟨g,hA,_,ho⟩
 .have e1:H=[]:=BJ (by omega)
  have e2:H2=[]:=BJ (by omega);subst e1 e2 hA hc;exact fJ _ _
 .subst hA
  refine⟨⟨f_ p8 3 (λ_=>rfl) H2,Yt _,λhpos=>?_⟩,λe=>?_,by omega,by have:=hcap.2;omega⟩
  .rw[if_neg (by omega)]
   refine⟨⟨g,H.length*3,none⟩,by show some (Addr.add ⟨g,0,none⟩ (H.length*3))=_;rw[Addr.add_lit,qN],λj u hj=>?_⟩;rw[Addr.add_lit];refine ho.cell ?_;rw[Ef,qL (by omega),hfl,Nat.add_sub_cancel_left];exact hj
  .split at e<;>simp at e
theorem cZ.turn{S:Nat->Prop}{w w':World}{B rb k:Nat}{vs:List Value}{L:List (List Int)}(h:cZ w B rb vs L k)(ht:fU S w w'):cZ w' B rb vs L k:=
 ⟨h.own.turn ht,h.len,λi v l hk hv hl=>rD (h.row i v l hk hv hl) ht,h.sep,λv hv b hb=>⟨(h.low v hv b hb).1,uZ (h.low v hv b hb).2.1 ht.size,(h.low v hv b hb).2.2⟩⟩
theorem aR.turn{S:Nat->Prop}{w w':World}{X:SX}{lo hi:Nat->Int}{A:Option Addr}{oc:Nat}{H:List (Nat×Int×Int)}(h:aR w X lo hi A oc H)(ht:fU S w w'):aR w' X lo hi A oc H:=
 ⟨h.vI.turn ht,h.xP.turn ht,h.Iw,h.Iy,h.box.turn ht,h.bnd.turn ht,rD h.old ht,h.low⟩
theorem Pq{w:World}{B oc:Nat}{A:Option Addr}{H H2:List (Nat×Int×Int)}(h:w.ownsRow B 222 3 (.slice A (H++H2).length oc) (H++H2).length ((H++H2).flatMap p8)):w.ownsRow B 222 3 (.slice A H.length oc) H.length (H.flatMap p8):=by
 have hfl:(H.flatMap p8).length=H.length*3:=f_ p8 3 (λ_=>rfl) H;have hl:(H++H2).length=H.length+H2.length:=pJ;refine⟨hfl,?_⟩;rcases h.2 with⟨h1,h2⟩|⟨g,cap,cur,h1,h2,h3,h4,h5,h6,h7⟩
 .simp only[Value.slice.injEq]at h1
  have e:H.length=0:=by omega
  exact .inl ⟨by rw[h1.1,h1.2.2,e],e⟩
 .simp only[Value.slice.injEq]at h1
  obtain⟨rfl,_,rfl⟩:=h1;refine .inr ⟨g,oc,cur,rfl,h2,h3,by omega,h5,h6,?_⟩;have h8:=congrArg (List.take (H.length*3)) h7;rw[List.take_take,Nat.min_eq_left (by omega),Ef]at h8;rw[h8,<-hfl,List.take_left]
theorem ag5(w:World):(zeroValue 222).run Tryz.prog w= .ok (.agg #[.int .i64 0,.int .i64 0,.int .i64 0]) w:=by kernel_rfl
attribute [local go_sem] ag5 Oper.semAt_some
theorem YA(X:SX)(lo hi:Nat->Int)(A:Option Addr)(oc:Nat)(H H2:List (Nat×Int×Int))(w:World)(hS:aR w X lo hi A oc (H++H2))(hin:∀c∈H2,c.1<X.n):
 Calls Tryz.prog 103 #[.pointer (some ⟨X.sb,0,none⟩),.int .i64 H.length] w (λe w'=>e= .returned (.tuple #[])/\aR w' X (qg H2 lo) (qh H2 hi) A oc H/\oQ X w w'):=by
 have HS:=ah hS;clear hS;have sV:=ah hin;clear hin;have hl:(H++H2).length=H.length+H2.length:=pJ;refine(b_ (n:=4)).1 ?_;refine callsIn_of_wp_marks Tryz.func103 rfl trivial ?_ rfl;simp only[Tryz.ntmps103,uX,iN,mW,Nat.reduceAdd,Nat.reduceSub,wV,wW,wY,wX,pO,tH]
 gi_upto_region 1 with(fail)
 generalize hW0:World.alloc _ _=W0;obtain⟨HB,hh0⟩:=bx1 hW0;have KS:Hid (Own W0 122 w.heap.size [.pointer (some ⟨X.sb,0,none⟩)]):=⟨[],by rw[bV];exact hh0⟩;have zZ:=ah (HS.out.below HB.out);have b0:=KS.out.cell (i:=0) rfl;have s3:=zZ.out.box.cell (i:=3) rfl;clear hW0 hh0;have hcap:=zZ.out.caps;have h4:oc<=9223372036854775807:=by have:=hcap.2;unfold maxLen at this;omega
 have h5:=hcap.1;rw[hl]at h5 s3;obtain⟨A2,c2,hrun,hAt⟩:∃(A2:Option Addr)(c2:Nat),(∀w:World,(Instr.slice 173 (.slice A (H.length+H2.length) oc) (some (.int .i64 (H.length:Int))) none none).run Tryz.prog w= .ok (.slice A2 H2.length c2) w)/\∀(V:World)(lo hi:Nat->Int),aR V X lo hi A oc (H++H2)->At V 3 A2 H2.length c2 (H2.flatMap p8):=by
  refine⟨if oc=H.length then A else A.map (·.add (H.length*3)),oc - H.length,λw=>?_,?_⟩
  .rw[run_slice_l w 173 A (H.length+H2.length) oc (by kernel_rfl) .i64 H.length (by omega) (by omega)]
   have hs:(sizeOf (Tryz.prog.elem 173)).run Tryz.prog w= .ok 3 w:=by kernel_rfl
   rw[hs];simp[sliced]
  .exactλV lo hi h=>h.ad2
 have hcc:=ah hAt;clear hAt;gi_wp2_with (refine⟨trivial,?_⟩;gi_at_call 142;refine(b_.2 (J6 _ _ _ _)).mono ?_;rintro e z ⟨rfl,rfl⟩);generalize hW2:World.alloc _ _=W2;obtain⟨hb2,zV⟩:=bx1' hW2;have LD:Hid (Own W2 173 W0.heap.size [.slice A2 H2.length c2]):=⟨[],by rw[bV];exact zV⟩;have ag6:=ah (KS.out.below hb2);have HS2:=ah (zZ.out.below hb2);have BF:Hid (oQ X w W2):=(oQ.of_below HB.out).trans (oQ.of_below hb2);clear hW2 hb2 zV b0 s3;have akz:Hid (∀(pre:List (Nat×Nat×Int×Int))(V:World),aR V X ((pre.map Prod.snd).foldl (λf c=>setAt f c.1 c.2.1) lo) ((pre.map Prod.snd).foldl (λf c=>setAt f c.1 c.2.2) hi) A oc (H++H2)/\oQ X W2 V->V.cell? ⟨W0.heap.size,0,none⟩=some (.slice A2 H2.length c2)/\At V 3 A2 H2.length c2 (H2.flatMap p8)):=
  λpre V h=>⟨(LD.out.FT h.2 (by unfold DZ;decide)).cell rfl,hcc.out V _ _ h.1⟩
 refine nU (α:=Nat×(Nat×Int×Int)) rfl (by omega) (gf:=164) rfl trivial (enters_of Tryz.func164 (by kernel_rfl) rfl)
  (λW1 _ _=>Hy (Bw:=W0.heap.size) (A:=A2) (c:=c2) (P:=H2) _ (by omega)
   (λ_ pre V=>aR V X ((pre.map Prod.snd).foldl (λf c=>setAt f c.1 c.2.1) lo) ((pre.map Prod.snd).foldl (λf c=>setAt f c.1 c.2.2) hi) A oc (H++H2)/\oQ X W2 V) W1
   (λ_ pre V h=>akz.out pre V h)) (λ_ _=>rfl)
  (λ_ _ _=>True) (λ_ _ _ _ h ht=>⟨h.1.turn ht,Mf h.2 ht (λk hk=>by omega)⟩) (λ_ _ _ _ h _=>h) (λ_ _ _ _ _ h _=>h) (λ_ _ _ _ _ h _=>h) (λ_ _ _ _ _ _ _ h _=>h)
  (λ_ _ _ _ _ _ h=>h.elim) (λ_ _ _ _ _ _ h=>h.elim) (λ_ _ _ _ _ _ h=>h.elim)
  (λx=>[.cells (p8 x.2).toArray 222]) (λ_ V hV _=>⟨HS2.out.below hV,oQ.of_below hV⟩) ?a1 ?assign ?body (λ_ _ _ _ _ _ _ _ h=>h.elim) ?done (λ_ _ _ _ _ _ h=>h.elim)
 case assign=>
  intro l b x W k K hk hK;simp only[p8];gi_wp2;try rw[hk]
  exact hK
 case body=>
  rintro l b0 pre ⟨i,a,l1,u1⟩ W k hb ⟨hSx,hMx⟩ ⟨hpm,hxi,hx⟩ hk hbx;have hq:=hbx 0 _ rfl;rw[kH]at hq;simp only at hx hq;have ha:=sV.out _ (bT hx);simp only at ha;have q0:W.cell? ⟨k,0,none⟩=some (.int .i64 a):=(aL W _ 0 _ _ _ hq).trans rfl;have q1:W.cell? ⟨k,1,none⟩=some (.int .i64 l1):=(aL W _ 1 _ _ _ hq).trans rfl;have q2:W.cell? ⟨k,2,none⟩=some (.int .i64 u1):=(aL W _ 2 _ _ _ hq).trans rfl;have b1:W.cell? ⟨w.heap.size,0,none⟩=some (.pointer (some ⟨X.sb,0,none⟩)):=(ag6.out.FT hMx (by unfold DZ;decide)).cell rfl;have s0:W.cell? ⟨X.sb,0,none⟩=some (.slice (some ⟨X.bb,0,none⟩) X.n X.n):=hSx.box.cell rfl;have c0:=hSx.bnd.cell (dV _ _ ha (j:=0) (by omega));have c1:=hSx.bnd.cell (dV _ _ ha (j:=1) (by omega));rw[kH]at c0;have f0:=hSx.bnd.frozen (a*2);have f1:=hSx.bnd.frozen (a*2+1);have an:(a:Int)<(X.n:Int):=by omega
  have FK:=ah hSx;clear hSx;have o_:=ah hMx;clear hMx;clear hx hq hbx hpm hxi;dsimp only
  gi_upto_region 3 with(fail)
  refine aV 8 (jZ.round _ _) (by simp) (by kernel_rfl) (by kernel_rfl) ?_;simp only[fP,bX,fZ,bY];repeat(go_big_quiet_step (fail))
  refine aS ?_;rintro _ ⟨mq,rfl⟩;gi_wp2;have hset:=FK.out.Yr mq ha l1 u1;have hu:aH (λq=>q=X.bb) W (((W.drewN mq).setCell ⟨X.bb,a*2,none⟩ (.int .i64 l1)).setCell ⟨X.bb,a*2+1,none⟩ (.int .i64 u1)):=
   (((aH.refl (λq=>q=X.bb) W).drewN mq).setCell (p:=⟨X.bb,a*2,none⟩) (.inl rfl) _).setCell (p:=⟨X.bb,a*2+1,none⟩) (.inl rfl) _
  exact⟨pz _ hu (λq o (e:q=X.bb) h=>FK.out.bnd.isCells (e▸h)),hset.1,o_.out.trans hset.2⟩
 case done=>
  rintro D b0 xs W hD hb hS ⟨hS3,hM3⟩ hK;rw[hS,<-Po,<-Pp]at hS3;have FK:=ah hS3;clear hS3;have o_:=ah hM3;clear hM3;have HK:=ah hK;clear hK;have b1:W.cell? ⟨w.heap.size,0,none⟩=some (.pointer (some ⟨X.sb,0,none⟩)):=(ag6.out.FT o_.out (by unfold DZ;decide)).cell rfl;have s3:W.cell? ⟨X.sb,3,none⟩=some (.slice A (H.length+H2.length) oc):=by
   have h:=FK.out.box.cell (i:=3) rfl;rw[hl]at h;exact h
  have f3:=FK.out.box.frozen 3;have amC:∀w:World,(Instr.slice 173 (.slice A (H.length+H2.length) oc) none (some (.int .i64 (H.length:Int))) none).run Tryz.prog w= .ok (.slice A H.length oc) w:=λw=>by
   rw[run_slice_h w 173 A (H.length+H2.length) oc (by kernel_rfl) .i64 H.length (by omega) (by omega)];have hs:(sizeOf (Tryz.prog.elem 173)).run Tryz.prog w= .ok 3 w:=by kernel_rfl
   rw[hs];simp only[sliced,Result.andThen_ok,xg,Nat.zero_mul,Nat.sub_zero];rcases sJ zZ.out.old with⟨_,hA,_⟩|⟨g,hA,_⟩
   .subst hA;simp
   .subst hA
    have e:(Addr.add ⟨g,0,none⟩ 0)=⟨g,0,none⟩:=by rw[Addr.add_lit]
    simp[e]
  clear hrun
  gi_upto_region 4 with(fail)
  refine aV 7 (jZ.wide _) (by simp) (by kernel_rfl) (by kernel_rfl) ?_;simp only[fP,bX,fZ,bY];repeat(go_big_quiet_step (fail))
  refine aS ?_;rintro _ ⟨mq,rfl⟩;gi_wp2;have hsD:X.sb≠D:=by have h1:=HS2.out.box.lt;omega
  have hu:aH (λq=>q=X.sb) W ((W.drewN mq).setCell ⟨X.sb,3,none⟩ (.slice A H.length oc)):=((aH.refl (λq=>q=X.sb) W).drewN mq).setCell (p:=⟨X.sb,3,none⟩) (.inl rfl) _;have hud:aH (λ_=>False) W (W.drewN mq):=(aH.refl _ _).drewN mq;have hmv:oQ X W ((W.drewN mq).setCell ⟨X.sb,3,none⟩ (.slice A H.length oc)):=oQ.MG hu (λq hq _=>by subst hq;exact FK.out.box.sset FK.out.low.1 (.inl rfl) (.inl rfl));have hSF:aR ((W.drewN mq).setCell ⟨X.sb,3,none⟩ (.slice A H.length oc)) X (qg H2 lo) (qh H2 hi) A oc H:=
   ⟨FK.out.vI.FT hmv,FK.out.xP.FT hmv,FK.out.Iw,FK.out.Iy,(FK.out.box.keep hud (λh=>h)).set (i:=3) (by simp) _,FK.out.bnd.keep hu (λe=>FK.out.bnd.ne FK.out.box (by decide) e),bZ (Pq FK.out.old) hu (λb hb e=>by
    subst e;obtain⟨tl,Iz⟩:=FK.out.box;exact dz (Pq FK.out.old) Iz (by decide) hb),FK.out.low⟩
  have hK2:=hu.keep HK.out (λe=>hsD e.symm);refine⟨by simp,.inl ⟨_,_,rfl,run_takeDeferred hK2,?_⟩⟩;have ht:=fU.putObj (S:=λk=>k=D) (.deferred none) rfl hK2 rfl;refine⟨_,results_none rfl _ _ _,rfl,hSF.turn ht,?_⟩;exact Mf (BF.out.trans (o_.out.trans hmv)) ht (λq hq=>by have h1:=BF.out.size;omega)
end
section
open Go.RowKit Go.Shelf
theorem YieldAt.depth{F:Fence}{m m':Nat}{P:Program}{l:Nat}{args:Array Value}{W:World}{R:Ending->World->Prop}(hF:F.depth=none)(h:YieldAt F m P l args W R):YieldAt F m' P l args W R:=by
 obtain⟨fn,tmps,assign,body,h1,h2,h3⟩:=h;exact⟨fn,tmps,assign,body,h1,h2,λc cs _=>h3 c cs (λd hd=>by rw[hF]at hd;cases hd)⟩
def JC(X:SX)(b:Nat×Nat)(V V':World):Prop:=aH (λk=>(b.1<=k/\k<b.2)\/SSet X V k) V V'
theorem JC.refl(X:SX)(b:Nat×Nat)(V:World):JC X b V V:=aH.refl _ _
theorem JC.trans{X:SX}{b:Nat×Nat}{x y z:World}(h:JC X b x y)(k:JC X b y z):JC X b x z:=by
 refine aH.trans h k (λi hi hs=>?_);by_cases hz:(b.1<=i/\i<b.2)\/SSet X x i
 .exact hz
 .rcases hs with hs|⟨h1,cs,t,fz,h2,h3⟩
  .exact .inl hs
  .rw[h.block i hi hz]at h2
   exact .inr ⟨h1,cs,t,fz,h2,h3⟩
theorem JC.MK{X:SX}{b:Nat×Nat}{V V':World}(h:oQ X V V'):JC X b V V':=h.mono (λ_ _ h=>.inr h)
theorem JC.of_below{X:SX}{b:Nat×Nat}{V V':World}(h:Below V.heap.size V V'):JC X b V V':=JC.MK (oQ.of_below h)
def StX(X:SX)(Bs k:Nat):Prop:=k=X.rb\/k=X.ab\/k=Bs\/∃v,(v∈X.vb\/v∈X.va)/\v.ownBlock=some k
def Zv(X:SX)(Bs:Nat)(b:Nat×Nat)(V V':World):Prop:=V.heap.size<=V'.heap.size/\∀(k:Nat)(cs:Array Value)(t:TypeId)(fz:Nat×Nat),V.heap[k]?=some (.cells cs t fz)->(StX X Bs k\/(b.1<=k/\k<b.2)\/DZ t)->V'.heap[k]?=some (.cells cs t fz)
theorem Own.kp{X:SX}{Bs:Nat}{b':Nat×Nat}{w w':World}{t:TypeId}{b:Nat}{cs:List Value}(h:Own w t b cs)(hk:Zv X Bs b' w w')(hs:StX X Bs b\/(b'.1<=b/\b<b'.2)\/DZ t):Own w' t b cs:=by
 obtain⟨tl,h⟩:=h;exact⟨tl,hk.2 _ _ _ _ h hs⟩
theorem cZ.typed{w:World}{B rb:Nat}{vs:List Value}{L:List (List Int)}(h:cZ w B rb vs L 0):∀v∈vs,∀b,v.ownBlock=some b->∃cs fz,w.heap[b]?=some (.cells cs 3 fz):=λv hv b hb=>by
 obtain⟨i,hi⟩:=j3.1 hv;have hl:i<L.length:=by rw[<-h.len];exact(bC.1 hi).1
 exact iK (h.row i v _ (aZ _) hi (aW hl)) b hb
theorem Own.same{w w':World}{t:TypeId}{b:Nat}{cs:List Value}(h:Own w t b cs)(e:w'.heap[b]?=w.heap[b]?):Own w' t b cs:=by
 obtain⟨tl,h⟩:=h;exact⟨tl,e.trans h⟩
theorem CP{w w':World}{B:Nat}{e:TypeId}{size n:Nat}{v:Value}{xs:List Value}(h:w.ownsRow B e size v n xs)(hs:∀k,v.ownBlock=some k->w'.heap[k]?=w.heap[k]?):w'.ownsRow B e size v n xs:=by
 refine⟨h.1,?_⟩;rcases h.2 with h0|⟨g,cap,cur,rfl,hB,hg,r⟩
 .exact .inl h0
 .exact .inr ⟨g,cap,cur,rfl,hB,(hs g rfl).trans hg,r⟩
theorem cZ.same{w w':World}{B rb k:Nat}{vs:List Value}{L:List (List Int)}(h:cZ w B rb vs L k)(hz:w.heap.size<=w'.heap.size)(hr:w'.heap[rb]?=w.heap[rb]?)(hs:∀v∈vs,∀b,v.ownBlock=some b->w'.heap[b]?=w.heap[b]?):cZ w' B rb vs L k:=
 ⟨h.own.same hr,h.len,λi v l hk hv hl=>CP (h.row i v l hk hv hl) (hs v (bT hv)),h.sep,λv hv b hb=>⟨(h.low v hv b hb).1,uZ (h.low v hv b hb).2.1 hz,(h.low v hv b hb).2.2⟩⟩
theorem aR.kp{V V':World}{X:SX}{Bs:Nat}{b:Nat×Nat}{lo hi:Nat->Int}{A:Option Addr}{oc:Nat}{H:List (Nat×Int×Int)}(h:aR V X lo hi A oc H)(hk:Zv X Bs b V V'):aR V' X lo hi A oc H:=by
 have rw':∀{w:World}{B rb:Nat}{vs:List Value}{L:List (List Int)},cZ V B rb vs L 0->(∀v∈vs,v∈X.vb\/v∈X.va)->(rb=X.rb\/rb=X.ab)->cZ V' B rb vs L 0:=λh1 h2 h3=>by
  obtain⟨tl,ho⟩:=h1.own;refine h1.same hk.1 ((hk.2 _ _ _ _ ho (.inl ?_)).trans ho.symm) (λv hv q hq=>?_)
  .rcases h3 with e|e
   .exact .inl e
   .exact .inr (.inl e)
  .obtain⟨cs,fz,h4⟩:=h1.typed v hv q hq
   exact(hk.2 _ _ _ _ h4 (.inl (.inr (.inr (.inr ⟨v,h2 v hv,hq⟩))))).trans h4.symm
 refine⟨rw' (w:=V) h.vI (λv hv=>.inl hv) (.inl rfl),rw' (w:=V) h.xP (λv hv=>.inr hv) (.inr rfl),
  h.Iw,h.Iy,h.box.kp hk (.inr (.inr (.inl rfl))),h.bnd.kp hk (.inr (.inr (.inr (.inl rfl)))),CP h.old (λq hq=>?_),h.low⟩
 obtain⟨cs,fz,h1⟩:=iK h.old q hq;exact(hk.2 _ _ _ _ h1 (.inr (.inr (.inr (.inr rfl))))).trans h1.symm
structure IX where
 nb:Nat
 yb:Nat
 xb:Nat
 vb:Nat
structure D6(V:World)(X:SX)(Bs:Nat)(b:Nat×Nat)(l:Nat)(I:IX):Prop where
 win:∀k,(k=I.nb\/k=I.yb\/k=I.xb\/k=I.vb)->b.1<=k/\k<b.2
 VN:Own V 181 I.yb [.func (.yield l) #[] #[]]
 vU:Own V 22 I.xb [.slice (some ⟨I.nb,0,none⟩) X.n X.n]
 VO:Own V 92 I.vb [.func (.func 101) #[] #[.pointer (some ⟨I.xb,0,none⟩),.pointer (some ⟨Bs,0,none⟩),.pointer (some ⟨I.yb,0,none⟩),.pointer (some ⟨I.vb,0,none⟩)]]
 Ke:Own V 122 Bs [.pointer (some ⟨X.sb,0,none⟩)]
 num:∃N:List Int,N.length=X.n/\Own V 3 I.nb (aY N)
 sep:∀v,v∈X.vb\/v∈X.va->∀q,v.ownBlock=some q->q<b.1
 sz:b.2<=V.heap.size
theorem D6.below{V V':World}{X:SX}{Bs l:Nat}{b:Nat×Nat}{I:IX}(h:D6 V X Bs b l I)(hb:Below V.heap.size V V'):D6 V' X Bs b l I:=by
 obtain⟨N,h1,h2⟩:=h.num;exact⟨h.win,h.VN.below hb,h.vU.below hb,h.VO.below hb,h.Ke.below hb,⟨N,h1,h2.below hb⟩,h.sep,bL h.sz hb.size⟩
theorem D6.FT{V V':World}{X:SX}{Bs l:Nat}{b:Nat×Nat}{I:IX}(h:D6 V X Bs b l I)(hm:oQ X V V'):D6 V' X Bs b l I:=by
 obtain⟨N,h1,h2⟩:=h.num;have nt:∀{t:TypeId},t≠175->t≠177->t≠222->¬DZ t:=λa b c h=>by
  rcases h with h|h|h
  .exact a h
  .exact b h
  .exact c h
 exact⟨h.win,h.VN.FT hm (nt (by decide) (by decide) (by decide)),h.vU.FT hm (nt (by decide) (by decide) (by decide)),h.VO.FT hm (nt (by decide) (by decide) (by decide)),h.Ke.FT hm (nt (by decide) (by decide) (by decide)),⟨N,h1,h2.FT hm (nt (by decide) (by decide) (by decide))⟩,h.sep,bL h.sz hm.size⟩
theorem D6.kp{V V':World}{X:SX}{Bs l:Nat}{b:Nat×Nat}{I:IX}(h:D6 V X Bs b l I)(hk:Zv X Bs b V V'):D6 V' X Bs b l I:=by
 obtain⟨N,h1,h2⟩:=h.num;exact⟨h.win,h.VN.kp hk (.inr (.inl (h.win _ (.inr (.inl rfl))))),h.vU.kp hk (.inr (.inl (h.win _ (.inr (.inr (.inl rfl)))))),h.VO.kp hk (.inr (.inl (h.win _ (.inr (.inr (.inr rfl)))))),h.Ke.kp hk (.inl (.inr (.inr (.inl rfl)))),⟨N,h1,h2.kp hk (.inr (.inl (h.win _ (.inl rfl))))⟩,h.sep,bL h.sz hk.1⟩
end
open Go.RowKit Go.Shelf
attribute [local go_sem] Oper.semAt_some
def YOk(n:Nat)(b:Nat×Nat)(nb:Nat)(pre:List (List Int))(x:List Int)(V:World):Prop:=pre.length<400/\x.length=n/\Own V 3 nb (aY x)/\b.2<=V.heap.size
def akB(n:Nat)(b:Nat×Nat)(nb:Nat)(pre:List (List Int))(x:List Int)(V:World):Prop:=pre.length=400/\x.length=n/\Own V 3 nb (aY x)/\b.2<=V.heap.size
structure FX(X:SX)(Bs:Nat)(b:Nat×Nat)(l nb:Nat)(J JL:List (List Int)->World->Prop):Prop where
 go:∀pre x V,J pre V->YOk X.n b nb pre x V->YieldAt Fence.wide 0 Tryz.prog l #[.slice (some ⟨nb,0,none⟩) X.n X.n] V λe V'=>e= .returned (.bool true)/\J (pre++[x]) V'/\Zv X Bs b V V'
 stop:∀pre x V,J pre V->akB X.n b nb pre x V->YieldAt Fence.wide 0 Tryz.prog l #[.slice (some ⟨nb,0,none⟩) X.n X.n] V λe V'=>e= .returned (.bool false)/\JL (pre++[x]) V'/\Zv X Bs b V V'
 mv:∀pre V V',J pre V->JC X b V V'->J pre V'
 mvL:∀pre V V',JL pre V->JC X b V V'->JL pre V'
def iG(X:SX)(V V':World):Prop:=∀(k:Nat)(cs:Array Value)(fz:Nat×Nat),V.heap[k]?=some (.cells cs 177 fz)->k≠X.bb->k≠X.sb->V'.heap[k]?=some (.cells cs 177 fz)
theorem iG.refl(X:SX)(V:World):iG X V V:=λ_ _ _ h _ _=>h
theorem iG.trans{X:SX}{a b c:World}(h:iG X a b)(k:iG X b c):iG X a c:=λi cs fz h1 h2 h3=>k i cs fz (h i cs fz h1 h2 h3) h2 h3
theorem iG.FT{X:SX}{V V':World}(h:oQ X V V'):iG X V V':=λi cs fz h1 h2 h3=>h.keep h1 (λ⟨_,cs',t',fz',h4,_,h5⟩=>by
 rw[h1]at h4;cases h4
 rcases h5 with h5|h5|h5
 .exact h3 h5
 .exact h2 h5
 .revert h5;decide)
theorem iG.below{X:SX}{V V':World}(h:Below V.heap.size V V'):iG X V V':=iG.FT (oQ.of_below h)
theorem iG.kp{X:SX}{Bs:Nat}{b:Nat×Nat}{V V':World}(h:Zv X Bs b V V'):iG X V V':=λi cs fz h1 _ _=>h.2 i cs _ fz h1 (.inr (.inr (.inr (.inl rfl))))
theorem iG.int{X:SX}{S:Nat->Prop}{V V':World}(h:aH S V V')(hS:∀k,S k->∃cs fz,V.heap[k]?=some (.cells cs 3 fz)):iG X V V':=λi cs fz h1 _ _=>h.keep h1 (λhs=>by
 obtain⟨cs',fz',h2⟩:=hS i hs;rw[h1]at h2;injection h2 with h2
 injection h2 with _ h2 _
 revert h2;decide)
def VP(X:SX)(P:List (Nat×Nat))(Bs:Nat)(b:Nat×Nat)(l:Nat)(I:IX)(lo hi:Nat->Int)(H:List (Nat×Int×Int))(J JL:List (List Int)->World->Prop)(pre:List (List Int))(V:World)(e:Ending)(V':World):Prop:=
 ∃(more:Bool)(Y:List (List Int))(A:Option Addr)(oc:Nat),e= .returned (.bool more)/\kS X.n lo hi P Y/\V.heap.size<=V'.heap.size/\iG X V V'/\D6 V' X Bs b l I/\aR V' X lo hi A oc H/\
  (more=true->(pre++Y).length<=400/\J (pre++Y) V')/\(more=false->400<(pre++Y).length/\∃Y1,JL (pre++Y1) V')
structure WH(V:World)(X:SX)(Bs:Nat)(b:Nat×Nat)(l:Nat)(I:IX)(lo hi:Nat->Int)(A:Option Addr)(oc:Nat)(H:List (Nat×Int×Int))(J:List (List Int)->World->Prop)(pre:List (List Int)):Prop where
 s:aR V X lo hi A oc H
 it:D6 V X Bs b l I
 j:J pre V
theorem WH.below{V V':World}{X:SX}{Bs l nb:Nat}{b:Nat×Nat}{I:IX}{lo hi:Nat->Int}{A:Option Addr}{oc:Nat}{H:List (Nat×Int×Int)}{J JL:List (List Int)->World->Prop}{pre:List (List Int)}(h:WH V X Bs b l I lo hi A oc H J pre)(hY:FX X Bs b l nb J JL)(hb:Below V.heap.size V V'):WH V' X Bs b l I lo hi A oc H J pre:=
 ⟨h.s.below hb,h.it.below hb,hY.mv _ _ _ h.j (JC.of_below hb)⟩
def Pt(lo:Nat->Int)(n j:Nat)(N:List Int):Prop:=N.length=n/\∀i,i<j->N.getD i 0=lo i
theorem Pt.step{lo:Nat->Int}{n j:Nat}{N:List Int}(h:Pt lo n j N)(hj:j<n):Pt lo n (j+1) (N.set j (lo j)):=by
 refine⟨by rw[List.length_set];exact h.1,λi hi=>?_⟩;rw[F5,j4];by_cases e:j=i
 .subst e
  rw[if_pos rfl,if_pos (by rw[h.1];exact hj)];rfl
 .rw[if_neg e,<-F5]
  exact h.2 i (by omega)
theorem ints_set(N:List Int)(j:Nat)(v:Int):(aY N).set j (.int .i64 v)=aY (N.set j v):=by simp[aY,List.map_set]
theorem WH.num{V V':World}{X:SX}{Bs l:Nat}{b:Nat×Nat}{I:IX}{lo hi:Nat->Int}{A:Option Addr}{oc:Nat}{H:List (Nat×Int×Int)}{J JL:List (List Int)->World->Prop}{pre:List (List Int)}(h:WH V X Bs b l I lo hi A oc H J pre)(hY:FX X Bs b l I.nb J JL)(hu:aH (λk=>k=I.nb) V V'){N:List Int}(hN:N.length=X.n)(ho:Own V' 3 I.nb (aY N)):WH V' X Bs b l I lo hi A oc H J pre/\iG X V V':=by
 obtain⟨N0,hN0,ho0⟩:=h.it.num;have hT:∀k,k=I.nb->∃cs fz,V.heap[k]?=some (.cells cs 3 fz):=λk e=>by
  obtain⟨tl,ho0⟩:=ho0;exact⟨_,_,by rw[e];exact ho0⟩
 have hne:∀{t:TypeId}{q:Nat}{cs:List Value},Own V t q cs->t≠3->q≠I.nb:=λh1 h2 e=>h1.ne ho0 h2 e;refine⟨⟨h.s.RZ hu hT (λv hv q hq e=>?_),⟨h.it.win,h.it.VN.keep hu (hne h.it.VN (by decide)),h.it.vU.keep hu (hne h.it.vU (by decide)),h.it.VO.keep hu (hne h.it.VO (by decide)),h.it.Ke.keep hu (hne h.it.Ke (by decide)),⟨N,hN,ho⟩,h.it.sep,bL h.it.sz hu.size⟩,hY.mv _ _ _ h.j (hu.mono (λk _ e=>.inl (by rw[e];exact h.it.win _ (.inl rfl))))⟩,iG.int hu hT⟩;have h1:=h.it.sep v hv q hq;have h2:=h.it.win _ (.inl rfl);omega
theorem iG.own{X:SX}{V V':World}{k:Nat}{cs:List Value}(h:iG X V V')(ho:Own V 177 k cs)(h1:k≠X.bb)(h2:k≠X.sb):Own V' 177 k cs:=by
 obtain⟨tl,ho⟩:=ho;exact⟨tl,h k _ _ ho h1 h2⟩
theorem VQ{X:SX}{P:List (Nat×Nat)}{Bs l:Nat}{b:Nat×Nat}{I:IX}{J JL:List (List Int)->World->Prop}(YB:Hid (FX X Bs b l I.nb J JL))(HLB:Hid (X.Lb=oz P X.n P.length))(HLA:Hid (X.La=oC P X.n P.length))(hn:X.n<=400)(hP:P.length<=4000):
 ∀(m fr:Nat),fr+m=X.n->∀(lo hi:Nat->Int)(A:Option Addr)(oc:Nat)(H:List (Nat×Int×Int))(pre:List (List Int))(V:World),aR V X lo hi A oc H->Qh X.n lo hi P->(∀i,i<fr->lo i=hi i)->(∀i,i<X.n-> -1000000<=lo i/\hi i<=1000000)->D6 V X Bs b l I->J pre V->pre.length<=400->H.length<=fr*(2*X.n+1)->
  Calls Tryz.prog 101 #[.int .i64 fr,.pointer (some ⟨I.xb,0,none⟩),.pointer (some ⟨Bs,0,none⟩),.pointer (some ⟨I.yb,0,none⟩),.pointer (some ⟨I.vb,0,none⟩)] V (VP X P Bs b l I lo hi H J JL pre V):=by
 intro m;induction m using Nat.strongRecOn with
 |_ m ih=>
  intro fr hfm lo hi A oc H pre V hS hB hone hrg hIt hJ hpl hHl;have HIH:=ah ih;clear ih;have HV:Hid (WH V X Bs b l I lo hi A oc H J pre):=⟨hS,hIt,hJ⟩;clear hS hIt hJ;have HB:=ah hB;clear hB;have HO:=ah hone;clear hone;have YC:=ah hrg;clear hrg;have Dh:=ah hpl;clear hpl;have HHL:=ah hHl;clear hHl;have HFM:=ah hfm;clear hfm;have hfr:fr<=X.n:=by have:=HFM.out;omega
  refine(b_ (n:=4)).1 ?_;refine callsIn_of_wp Tryz.func101 rfl trivial ?_ rfl;simp only[Tryz.ntmps101,uX,iN,mW,Nat.reduceAdd,Nat.reduceSub,wV,wW,wY,wX,pO,tH];gi_wp2
  gi_loopw [0] (λv wr=>∃k:Nat,fr<=k/\k<=X.n/\v= .int .i64 k/\Hid (∀i,i<k->lo i=hi i)/\Hid (V.heap.size<=wr.heap.size)/\Hid (iG X V wr)/\Hid (WH wr X Bs b l I lo hi A oc H J pre)) (λv _=>X.n - (intOf v).toNat)
  case atStart=>exact⟨fr,bJ _,hfr,rfl,HO,bJ _,iG.refl _ _,HV⟩
  case round=>
   obtain⟨k,hfk,hkn,rfl,En,zW,xD,xR⟩:=hrel;clear HV HO;have c1:wr.cell? ⟨I.xb,0,none⟩=some (.slice (some ⟨I.nb,0,none⟩) X.n X.n):=xR.out.it.vU.cell rfl;have c2:wr.cell? ⟨Bs,0,none⟩=some (.pointer (some ⟨X.sb,0,none⟩)):=xR.out.it.Ke.cell rfl;have s0:wr.cell? ⟨X.sb,0,none⟩=some (.slice (some ⟨X.bb,0,none⟩) X.n X.n):=xR.out.s.box.cell rfl;by_cases hlt:k<X.n
   .have d0:=xR.out.s.bnd.cell (dV lo hi hlt (j:=0) (by omega))
    have d1:=xR.out.s.bnd.cell (dV lo hi hlt (j:=1) (by omega));rw[kH]at d0;have k1:(k:Int)<(X.n:Int):=by omega
    gi_upto_region 1 with(fail)
    by_cases he:lo k=hi k
    .have q1:(lo k==hi k)=true:=by simp[he]
     have HE:=ah he;clear he;refine aV 22 (jZ.wide _) (by simp) (by kernel_rfl) (by kernel_rfl) ?_;simp only[fP,bX,fZ,bY];repeat(go_big_quiet_step (fail))
     refine aS ?_;rintro _ ⟨mq,rfl⟩;have Es:=below_drewN wr mq;have IK:=ah (xD.out.trans (iG.below Es));have sN:=ah (xR.out.below YB.out Es);have Bn:Hid (V.heap.size<=(wr.drewN mq).heap.size):=bL zW.out Es.size;have akC:Hid (∀i,i<k+1->lo i=hi i):=λi hi'=>by
      by_cases e:i=k
      .rw[e];exact HE.out
      .exact En.out i (by omega)
     clear Es c1 c2 s0 d0 d1 xD xR zW En HE;gi_wp2
     go_roundw
     case rel=>exact⟨k+1,by omega,by omega,by go_num,akC,Bn,IK,sN⟩
     case measure=>simp[intOf];omega
    .have q1:(lo k==hi k)=false:=by simp[he]
     clear he;refine aV 22 (jZ.wide _) (by simp) (by kernel_rfl) (by kernel_rfl) ?_;simp only[fP,bX,fZ,bY];repeat(go_big_quiet_step (fail))
     refine aS ?_;rintro _ ⟨mq,rfl⟩;have Es:=below_drewN wr mq;have IK:=ah (xD.out.trans (iG.below Es));have sN:=ah (xR.out.below YB.out Es);have Bn:Hid (V.heap.size<=(wr.drewN mq).heap.size):=bL zW.out Es.size;have HRK:=ah (YC.out k hlt);clear Es c1 c2 s0 d0 d1 xD xR zW;generalize wr.drewN mq=W1 at IK sN Bn⊢;have c1:W1.cell? ⟨I.xb,0,none⟩=some (.slice (some ⟨I.nb,0,none⟩) X.n X.n):=sN.out.it.vU.cell rfl;have c2:W1.cell? ⟨Bs,0,none⟩=some (.pointer (some ⟨X.sb,0,none⟩)):=sN.out.it.Ke.cell rfl;have s0:W1.cell? ⟨X.sb,0,none⟩=some (.slice (some ⟨X.bb,0,none⟩) X.n X.n):=sN.out.s.box.cell rfl;have d0:=sN.out.s.bnd.cell (dV lo hi hlt (j:=0) (by omega));have d1:=sN.out.s.bnd.cell (dV lo hi hlt (j:=1) (by omega));rw[kH]at d0;have q2:((k:Int)==(X.n:Int))=false:=by simp;omega
     gi_upto_region 11 with(fail)
     clear q2;generalize hWa:World.alloc _ _=Wa;obtain⟨hba,hxa⟩:=bx1' hWa;have KS:Hid (Own Wa 177 W1.heap.size [.int .i64 (lo k),.int .i64 (hi k)]):=⟨[],by rw[bV];exact hxa⟩;have ag9:=ah (IK.out.trans (iG.below hba));have ag_:=ah (sN.out.below YB.out hba);have aha:Hid (V.heap.size<=Wa.heap.size):=bL Bn.out hba.size;have Nf:Hid (W1.heap.size≠X.bb/\W1.heap.size≠X.sb):=⟨by have:=sN.out.s.bnd.lt;omega,by have:=sN.out.s.box.lt;omega⟩;have b0:=KS.out.cell (i:=0) rfl;obtain⟨xb,hxb⟩:∃xb,xb=W1.heap.size:=⟨_,rfl⟩;rw[<-hxb]at b0 KS Nf⊢;clear hWa hba hxa c1 c2 s0 d0 d1 IK sN Bn hxb;have Oj:Hid (fr*(2*X.n+1)<=k*(2*X.n+1)/\(k+1)*(2*X.n+1)=k*(2*X.n+1)+(2*X.n+1)/\(k+1)*(2*X.n+1)<=400*801):=⟨Nat.mul_le_mul_right _ hfk,Nat.succ_mul _ _,Nat.mul_le_mul (by omega) (by omega)⟩;have r1: -1000000<=lo k:=HRK.out.1;have r2:hi k<=1000000:=HRK.out.2;gi_wp2
     gi_loopw [10] (λv wr=>∃(x:Int)(Y:List (List Int))(A2:Option Addr)(Yz:Nat),lo k<=x/\x<=hi k+1/\v= .int .i64 x/\Hid (qy X.n lo hi P k x Y)/\Hid ((pre++Y).length<=400)/\Hid (V.heap.size<=wr.heap.size)/\Hid (Own wr 177 xb [.int .i64 (lo k),.int .i64 (hi k)])/\Hid (iG X V wr)/\Hid (WH wr X Bs b l I lo hi A2 Yz H J (pre++Y))) (λv _=>(hi k+1 - intOf v).toNat)
     case atStart=>exact⟨lo k,[],A,oc,iI _,by have:=HB.out.le k hlt;omega,rfl,qy.start _ _ _ _ hlt,by show _;rw[bV];exact Dh.out,aha,KS,ag9,by show _;rw[bV];exact ag_.out⟩
     case round=>
      clear b0 KS ag9 ag_ aha;obtain⟨x,Y,A2,Yz,hx0,hx1,rfl,Qp,HYL,zW,KS,xD,xR⟩:=hrel;have b1:=KS.out.cell (i:=1) rfl;by_cases hxh:x<=hi k
      .have c2:wr.cell? ⟨Bs,0,none⟩=some (.pointer (some ⟨X.sb,0,none⟩)):=xR.out.it.Ke.cell rfl
       have s3:wr.cell? ⟨X.sb,3,none⟩=some (.slice A2 H.length Yz):=xR.out.s.box.cell rfl;have HCH:=ah (R6 X P lo hi A2 Yz H k x wr xR.out.s HB.out HLB.out HLA.out hlt hx0 hxh (by omega) hP (by have h1:=Oj.out;have h2:=HHL.out;omega));gi_wp2_with (refine⟨trivial,?_⟩;gi_at_call 102;refine(b_.2 HCH.out).mono ?_;rintro e W4 ⟨lo',hi',A4,oc4,H2,rfl,hs4,YD,hl2,hbl,hbh,hin2,⟨later,hup,hud⟩,earlier,hwn,hwd⟩;refine Hid.out ?_);refine ah ?_;have HC:=ah (chosen HB.out hlt hup hud hwn hwd);have HV4:Hid (WH W4 X Bs b l I lo' hi' A4 oc4 (H++H2) J (pre++Y)):=⟨hs4,xR.out.it.FT YD,YB.out.mv _ _ _ xR.out.j (JC.MK YD)⟩;have ahb:=ah (xD.out.trans (iG.FT YD));have ahd:=ah (KS.out.agP YD Nf.out.2 Nf.out.1 (by decide));have ahe:Hid (V.heap.size<=W4.heap.size):=bL zW.out YD.size;have aaF:=ah hin2;have HBL:Hid (qg H2 lo'=lo/\qh H2 hi'=hi):=⟨hbl,hbh⟩;have HL2:Hid ((H++H2).length<=(k+1)*(2*X.n+1)):=by show _<=_;rw[pJ];have h1:=Oj.out;have h2:=HHL.out;omega
       have hrec:=HIH.out (X.n - (k+1)) (by have:=HFM.out;omega) (k+1) (by omega) lo' hi' A4 oc4 (H++H2) (pre++Y) W4 HV4.out.s HC.out.1 (λi hi0=>by
        have h1:=HC.out.2.2.2.2 i;have h2:=HC.out.1.le i (by omega);by_cases e:i=k
        .rw[e,HC.out.2.2.1,HC.out.2.2.2.1]
        .have h3:=En.out i (by omega);omega) (λi hi0=>by
        have h1:=HC.out.2.2.2.2 i;have h2:=YC.out i hi0;omega) HV4.out.it HV4.out.j HYL.out HL2.out
       rw[show(((k+1:Nat)):Int)=(k:Int)+1 by omega]at hrec;have ahf:=ah hrec;have c4:W4.cell? ⟨I.vb,0,none⟩=some (.func (.func 101) #[] #[.pointer (some ⟨I.xb,0,none⟩),.pointer (some ⟨Bs,0,none⟩),.pointer (some ⟨I.yb,0,none⟩),.pointer (some ⟨I.vb,0,none⟩)]):=HV4.out.it.VO.cell rfl;clear hs4 YD hl2 hbl hbh hin2 hup hud hwn hwd hrec HCH c2 s3 b1 xR xD KS zW later earlier;have hk9:(k:Int)+1<=9223372036854775807:=by omega
       gi_wp2_with (refine⟨trivial,?_⟩;gi_at_call 101;refine(b_.2 ahf.out).mono ?_;rintro e W5 ⟨more,Z,A5,VK,rfl,hz,hsz5,YE,aaG,hs5,hmt,xO⟩;refine Hid.out ?_);refine ah ?_;have WG:=ah hs5;have ad4:=ah aaG;have ahg:=ah (ahb.out.trans YE);have ahh:=ah (YE.own ahd.out Nf.out.1 Nf.out.2);have ahi:Hid (V.heap.size<=W5.heap.size):=bL ahe.out hsz5;have HMT:=ah hmt;have O_:=ah xO;have HZ:Hid (qy X.n lo hi P k (x+1) (Y++Z)):=Qp.out.step hlt En.out hz HC.out.2.1;have c5:W5.cell? ⟨Bs,0,none⟩=some (.pointer (some ⟨X.sb,0,none⟩)):=ad4.out.Ke.cell rfl;have ZF:=ah (YA X lo' hi' A5 VK H H2 W5 WG.out aaF.out);clear hz hsz5 YE aaG hs5 hmt xO ahf c4 HV4 ahb ahd ahe Qp aaF;gi_wp2_with (refine⟨trivial,?_⟩;gi_at_call 103;refine(b_.2 ZF.out).mono ?_;rintro e W6 ⟨rfl,hs6,hm6⟩;refine Hid.out ?_);refine ah ?_;rw[HBL.out.1,HBL.out.2]at hs6;have HS6:=ah hs6;have HM6:=ah hm6;have ahk:=ah (ad4.out.FT hm6);have ahl:=ah (ahg.out.trans (iG.FT hm6));have akD:=ah (ahh.out.agP hm6 Nf.out.2 Nf.out.1 (by decide));have ahm:Hid (V.heap.size<=W6.heap.size):=bL ahi.out hm6.size;clear hs6 hm6 c5 ZF ad4 ahg ahh ahi WG;cases more with
       |true=>
        obtain⟨h7,h8⟩:=HMT.out rfl;rw[uW]at h7 h8;have TR:Hid (WH W6 X Bs b l I lo hi A5 VK H J (pre++(Y++Z))):=⟨HS6.out,ahk.out,YB.out.mv _ _ _ h8 (JC.MK HM6.out)⟩;have Yy:=ah h7;clear h7 h8 HMT O_ HM6;have hx9:x+1<=9223372036854775807:=by omega
        gi_wp2
        go_roundw
        case rel=>exact⟨x+1,Y++Z,A5,VK,by omega,by omega,by go_num,HZ,Yy,ahm,akD,ahl,TR⟩
        case measure=>simp[intOf];omega
       |false=>
        obtain⟨h7,Y1,h8⟩:=O_.out rfl;obtain⟨YF,hYF⟩:=kS.ex X.n lo hi P;have Yy:Hid (400<(pre++YF).length):=by
         have h9:=HZ.out.len hYF;show _<_;simp only[pJ]at h7 h9⊢;omega
        have HJ6:Hid (∃Y1,JL (pre++Y1) W6):=⟨Y++Y1,by rw[<-uW];exact YB.out.mvL _ _ _ h8 (JC.MK HM6.out)⟩;have HYF:=ah hYF;clear h7 h8 HMT O_ hYF;gi_wp2;go_ret;exact⟨false,YF,A5,VK,rfl,HYF.out,ahm.out,ahl.out,ahk.out,HS6.out,(λh=>by cases h),λ_=>⟨Yy.out,HJ6.out⟩⟩
      .obtain rfl:x=hi k+1:=by omega
       have HED:=ah (Qp.out.done hlt);gi_wp2;go_ret;exact⟨true,Y,A2,Yz,rfl,HED.out,zW.out,xD.out,xR.out.it,xR.out.s,λ_=>⟨HYL.out,xR.out.j⟩,λh=>by cases h⟩
   .obtain rfl:k=X.n:=by omega
    gi_upto_region 1 with(fail)
    refine aV 22 (jZ.wide _) (by simp) (by kernel_rfl) (by kernel_rfl) ?_;simp only[fP,bX,fZ,bY];repeat(go_big_quiet_step (fail))
    refine aS ?_;rintro _ ⟨mq,rfl⟩;have Es:=below_drewN wr mq;have IK:=ah (xD.out.trans (iG.below Es));have sN:=ah (xR.out.below YB.out Es);have Bn:Hid (V.heap.size<=(wr.drewN mq).heap.size):=bL zW.out Es.size;clear Es c1 c2 s0 xD xR zW;generalize wr.drewN mq=W1 at IK sN Bn⊢;have c1:W1.cell? ⟨I.xb,0,none⟩=some (.slice (some ⟨I.nb,0,none⟩) X.n X.n):=sN.out.it.vU.cell rfl;have c2:W1.cell? ⟨Bs,0,none⟩=some (.pointer (some ⟨X.sb,0,none⟩)):=sN.out.it.Ke.cell rfl;have s0:W1.cell? ⟨X.sb,0,none⟩=some (.slice (some ⟨X.bb,0,none⟩) X.n X.n):=sN.out.s.box.cell rfl;have HN0:Hid (∃N,Pt lo X.n 0 N/\Own W1 3 I.nb (aY N)):=by
     obtain⟨N,h1,h2⟩:=sN.out.it.num;exact⟨N,⟨h1,λi hi'=>absurd hi' (Nat.not_lt_zero _)⟩,h2⟩
    gi_wp2
    gi_loopw [47] (λv wr=>∃(j:Nat)(N:List Int),j<=X.n/\v= .int .i64 j/\Hid (Pt lo X.n j N)/\Hid (Own wr 3 I.nb (aY N))/\Hid (V.heap.size<=wr.heap.size)/\Hid (iG X V wr)/\Hid (WH wr X Bs b l I lo hi A oc H J pre)) (λv _=>X.n - (intOf v).toNat)
    case atStart=>
     obtain⟨N,h1,h2⟩:=HN0.out;exact⟨0,N,aZ _,rfl,h1,h2,Bn,IK,sN⟩
    case round=>
     clear c1 c2 s0 HN0 Bn IK sN;obtain⟨j,N,hj,rfl,Qo,Zx,zW,xD,xR⟩:=hrel;by_cases ad5:j<X.n
     .have d0:=xR.out.s.bnd.cell (dV lo hi ad5 (j:=0) (by omega))
      have d1:=xR.out.s.bnd.cell (dV lo hi ad5 (j:=1) (by omega));rw[kH]at d0;have j1:(j:Int)<(X.n:Int):=by omega
      gi_upto_region 7 with(fail)
      generalize hWa:World.alloc _ _=Wa;obtain⟨hba,hxa⟩:=bx1' hWa;have q0:Wa.cell? ⟨wr.heap.size,0,none⟩=some (.int .i64 (lo j)):=(aL Wa _ 0 _ _ _ hxa).trans rfl;have IK:=ah (xD.out.trans (iG.below hba));have sN:=ah (xR.out.below YB.out hba);have ad6:=ah (Zx.out.below hba);have Bn:Hid (V.heap.size<=Wa.heap.size):=bL zW.out hba.size;have c1:Wa.cell? ⟨I.xb,0,none⟩=some (.slice (some ⟨I.nb,0,none⟩) X.n X.n):=sN.out.it.vU.cell rfl;have hNl:=Qo.out.1;obtain⟨y,hy⟩:∃y,N[j]?=some y:=⟨_,aW (by omega)⟩;have y0:=ad6.out.cell (fI hy);have f0:=ad6.out.frozen j;have TF:=ah hNl;clear hWa hba hxa d0 d1 xD xR Zx zW hy hNl;gi_wp2
      go_roundw
      case rel=>
       have hu:aH (λq=>q=I.nb) Wa (Wa.setCell ⟨I.nb,j,none⟩ (.int .i64 (lo j))):=(aH.refl (λq=>q=I.nb) Wa).setCell (p:=⟨I.nb,j,none⟩) (.inl rfl) _;have ho:=ad6.out.set (i:=j) (by have:=TF.out;simp[aY];omega) (.int .i64 (lo j));rw[ints_set]at ho;have hv:=sN.out.num YB.out hu (by rw[List.length_set];exact TF.out) ho;exact⟨j+1,N.set j (lo j),by omega,by go_num,Qo.out.step ad5,ho,bL Bn.out hu.size,IK.out.trans hv.2,hv.1⟩
      case measure=>simp[intOf];omega
     .obtain rfl:j=X.n:=by omega
      have Qp:Hid (kS X.n lo hi P [N]):=kS.one HB.out En.out Qo.out.1 Qo.out.2;have c1:wr.cell? ⟨I.xb,0,none⟩=some (.slice (some ⟨I.nb,0,none⟩) X.n X.n):=xR.out.it.vU.cell rfl;have c3:wr.cell? ⟨I.yb,0,none⟩=some (.func (.yield l) #[] #[]):=xR.out.it.VN.cell rfl;by_cases hp:pre.length<400
      .obtain⟨fn,tmps,assign,body,hy,hR⟩:=YieldAt.depth (m':=3) rfl (YB.out.go pre N wr xR.out.j ⟨hp,Qo.out.1,Zx.out,xR.out.it.sz⟩)
       have HP:=ah hp;gi_wp2;refine hR.mono ?_;rintro e W3 ⟨rfl,hJ3,hkp⟩;have HJ3:=ah hJ3;have HKP:=ah hkp;clear hJ3 hkp hy hR c1 c3;gi_wp2;go_ret;exact⟨true,[N],A,oc,rfl,Qp.out,bL zW.out HKP.out.1,xD.out.trans (iG.kp HKP.out),xR.out.it.kp HKP.out,xR.out.s.kp HKP.out,λ_=>⟨by have:=HP.out;simp;omega,HJ3.out⟩,λh=>by cases h⟩
      .have hp2:pre.length=400:=by have:=Dh.out;omega
       obtain⟨fn,tmps,assign,body,hy,hR⟩:=YieldAt.depth (m':=3) rfl (YB.out.stop pre N wr xR.out.j ⟨hp2,Qo.out.1,Zx.out,xR.out.it.sz⟩);have HP:=ah hp2;clear hp hp2;gi_wp2;refine hR.mono ?_;rintro e W3 ⟨rfl,hJ3,hkp⟩;have HJ3:=ah hJ3;have HKP:=ah hkp;clear hJ3 hkp hy hR c1 c3;gi_wp2;go_ret;exact⟨false,[N],A,oc,rfl,Qp.out,bL zW.out HKP.out.1,xD.out.trans (iG.kp HKP.out),xR.out.it.kp HKP.out,xR.out.s.kp HKP.out,(λh=>by cases h),λ_=>⟨by have:=HP.out;simp;omega,[N],HJ3.out⟩⟩
end Go.Proofs.YtpmdedcnbockhaaGreatDoor
