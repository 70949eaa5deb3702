/-
  CtG; CtH; CtI
-/
import Derived.Test.YtpmdedcnbockhaaGreatDoorP24
set_option maxRecDepth 100000
set_option maxHeartbeats 8000000
namespace Go.Proofs.YtpmdedcnbockhaaGreatDoor
section
open Go.RowKit Go.Shelf
theorem Oe(H:List (Nat×Int×Int))(f:Nat->Int):oV H f=H.reverse.foldl (λf c=>setAt f c.1 c.2.1) f:=by
 rw[List.foldl_reverse];induction H with
 |nil=>rfl
 |cons c H ih=>show setAt (oV H f) c.1 c.2.1=_;rw[ih];rfl
theorem Og(H:List (Nat×Int×Int))(f:Nat->Int):oW H f=H.reverse.foldl (λf c=>setAt f c.1 c.2.2) f:=by
 rw[List.foldl_reverse];induction H with
 |nil=>rfl
 |cons c H ih=>show setAt (oW H f) c.1 c.2.2=_;rw[ih];rfl
theorem aP.caps{w:World}{X:SX}{lo hi:Nat->Int}{A:Option Addr}{oc:Nat}{H:List (Nat×Int×Int)}(h:aP w X lo hi A oc H):H.length<=oc/\oc<=maxLen:=by
 rcases h.old.2 with⟨h1,h2⟩|⟨g,cap,cur,h1,_,_,h3,h4,_⟩
 .simp only[Value.slice.injEq]at h1
  rw[h2,h1.2.2];exact⟨bH _,aV _⟩
 .simp only[Value.slice.injEq]at h1
  rw[h1.2.2];exact⟨h3,h4⟩
theorem aP.acY{w:World}{X:SX}{lo hi:Nat->Int}{A:Option Addr}{oc:Nat}{H H2:List (Nat×Int×Int)}(h:aP w X lo hi A oc (H++H2)):At w 3 (if oc=H.length then A else A.map (·.add (H.length*3))) H2.length (oc - H.length) (H2.flatMap oO):=by
 have hfl:(H.flatMap oO).length=H.length*3:=gK oO 3 (λ_=>rfl) H;have hl:(H++H2).length=H.length+H2.length:=lS;have hcap:=h.caps;rcases rE h.old with⟨h0,hA,hc⟩|⟨g,hA,_,ho⟩
 .have e1:H=[]:=Dr (by omega)
  have e2:H2=[]:=Dr (by omega);subst e1 e2 hA hc;exact fD _ _
 .subst hA
  refine⟨⟨gK oO 3 (λ_=>rfl) H2,XH _,λhpos=>?_⟩,λe=>?_,by omega,by have:=hcap.2;omega⟩
  .rw[if_neg (by omega)]
   refine⟨⟨g,H.length*3,none⟩,by show some (Addr.add ⟨g,0,none⟩ (H.length*3))=_;rw[Addr.add_lit,nJ],λj u hj=>?_⟩;rw[Addr.add_lit];refine ho.cell ?_;rw[Fb,oG (by omega),hfl,Nat.add_sub_cancel_left];exact hj
  .split at e<;>simp at e
theorem bZ.turn{S:Nat->Prop}{w w':World}{B rb k:Nat}{vs:List Value}{L:List (List Int)}(h:bZ w B rb vs L k)(ht:fI S w w'):bZ w' B rb vs L k:=
 ⟨h.own.turn ht,h.len,λi v l hk hv hl=>qI (h.row i v l hk hv hl) ht,h.sep,λv hv b hb=>⟨(h.low v hv b hb).1,jX (h.low v hv b hb).2.1 ht.size,(h.low v hv b hb).2.2⟩⟩
theorem aP.turn{S:Nat->Prop}{w w':World}{X:SX}{lo hi:Nat->Int}{A:Option Addr}{oc:Nat}{H:List (Nat×Int×Int)}(h:aP w X lo hi A oc H)(ht:fI S w w'):aP w' X lo hi A oc H:=
 ⟨h.uQ.turn ht,h.wB.turn ht,h.Hr,h.Ht,h.box.turn ht,h.bnd.turn ht,qI h.old ht,h.low⟩
theorem Oh{w:World}{B oc:Nat}{A:Option Addr}{H H2:List (Nat×Int×Int)}(h:w.ownsRow B 222 3 (.slice A (H++H2).length oc) (H++H2).length ((H++H2).flatMap oO)):w.ownsRow B 222 3 (.slice A H.length oc) H.length (H.flatMap oO):=by
 have hfl:(H.flatMap oO).length=H.length*3:=gK oO 3 (λ_=>rfl) H;have hl:(H++H2).length=H.length+H2.length:=lS;refine⟨hfl,?_⟩;rcases h.2 with⟨h1,h2⟩|⟨g,cap,cur,h1,h2,h3,h4,h5,h6,h7⟩
 .simp only[Value.slice.injEq]at h1
  have e:H.length=0:=by omega
  exact .inl ⟨by rw[h1.1,h1.2.2,e],e⟩
 .simp only[Value.slice.injEq]at h1
  obtain⟨rfl,_,rfl⟩:=h1;refine .inr ⟨g,oc,cur,rfl,h2,h3,by omega,h5,h6,?_⟩;have h8:=congrArg (List.take (H.length*3)) h7;rw[List.take_take,Nat.min_eq_left (by omega),Fb]at h8;rw[h8,<-hfl,List.take_left]
theorem af5(w:World):(zeroValue 222).run Tryz.prog w= .ok (.agg #[.int .i64 0,.int .i64 0,.int .i64 0]) w:=by kernel_rfl
attribute [local go_sem] af5 Oper.semAt_some
theorem XR(X:SX)(lo hi:Nat->Int)(A:Option Addr)(oc:Nat)(H H2:List (Nat×Int×Int))(w:World)(hS:aP w X lo hi A oc (H++H2))(hin:∀c∈H2,c.1<X.n):
 Calls Tryz.prog 103 #[.pointer (some ⟨X.sb,0,none⟩),.int .i64 H.length] w (λe w'=>e= .returned (.tuple #[])/\aP w' X (oV H2 lo) (oW H2 hi) A oc H/\pV X w w'):=by
 have HS:=ah hS;clear hS;have qB:=ah hin;clear hin;have hl:(H++H2).length=H.length+H2.length:=lS;refine(bQ (n:=4)).1 ?_;refine callsIn_of_wp_marks Tryz.func103 rfl trivial ?_ rfl;simp only[Tryz.ntmps103,qU,iy,jJ,Nat.reduceAdd,Nat.reduceSub,rX,rY,r_,rZ,mI,r9]
 gi_upto_region 1 with(fail)
 generalize hW0:World.alloc _ _=W0;obtain⟨HB,hh0⟩:=bx1 hW0;have J5:Hid (Own W0 122 w.heap.size [.pointer (some ⟨X.sb,0,none⟩)]):=⟨[],by rw[b_];exact hh0⟩;have yR:=ah (HS.out.below HB.out);have b0:=J5.out.cell (i:=0) rfl;have s3:=yR.out.box.cell (i:=3) rfl;clear hW0 hh0;have hcap:=yR.out.caps;have h4:oc<=9223372036854775807:=by have:=hcap.2;unfold maxLen at this;omega
 have h5:=hcap.1;rw[hl]at h5 s3;obtain⟨A2,c2,hrun,hAt⟩:∃(A2:Option Addr)(c2:Nat),(∀w:World,(Instr.slice 173 (.slice A (H.length+H2.length) oc) (some (.int .i64 (H.length:Int))) none none).run Tryz.prog w= .ok (.slice A2 H2.length c2) w)/\∀(V:World)(lo hi:Nat->Int),aP V X lo hi A oc (H++H2)->At V 3 A2 H2.length c2 (H2.flatMap oO):=by
  refine⟨if oc=H.length then A else A.map (·.add (H.length*3)),oc - H.length,λw=>?_,?_⟩
  .rw[run_slice_l w 173 A (H.length+H2.length) oc (by kernel_rfl) .i64 H.length (by omega) (by omega)]
   have hs:(sizeOf (Tryz.prog.elem 173)).run Tryz.prog w= .ok 3 w:=by kernel_rfl
   rw[hs];simp[sliced]
  .exactλV lo hi h=>h.acY
 have hcc:=ah hAt;clear hAt;gi_wp2_with (refine⟨trivial,?_⟩;gi_at_call 142;refine(bQ.2 (Jh _ _ _ _)).mono ?_;rintro e z ⟨rfl,rfl⟩);generalize hW2:World.alloc _ _=W2;obtain⟨hb2,wu⟩:=bx1' hW2;have KH:Hid (Own W2 173 W0.heap.size [.slice A2 H2.length c2]):=⟨[],by rw[b_];exact wu⟩;have af6:=ah (J5.out.below hb2);have HS2:=ah (yR.out.below hb2);have Ag:Hid (pV X w W2):=(pV.of_below HB.out).trans (pV.of_below hb2);clear hW2 hb2 wu b0 s3;have ajx:Hid (∀(pre:List (Nat×Nat×Int×Int))(V:World),aP V X ((pre.map Prod.snd).foldl (λf c=>setAt f c.1 c.2.1) lo) ((pre.map Prod.snd).foldl (λf c=>setAt f c.1 c.2.2) hi) A oc (H++H2)/\pV X W2 V->V.cell? ⟨W0.heap.size,0,none⟩=some (.slice A2 H2.length c2)/\At V 3 A2 H2.length c2 (H2.flatMap oO)):=
  λpre V h=>⟨(KH.out.EZ h.2 (by unfold Dc;decide)).cell rfl,hcc.out V _ _ h.1⟩
 refine m_ (α:=Nat×(Nat×Int×Int)) rfl (by omega) (gf:=164) rfl trivial (enters_of Tryz.func164 (by kernel_rfl) rfl)
  (λW1 _ _=>GA (Bw:=W0.heap.size) (A:=A2) (c:=c2) (P:=H2) _ (by omega)
   (λ_ pre V=>aP V X ((pre.map Prod.snd).foldl (λf c=>setAt f c.1 c.2.1) lo) ((pre.map Prod.snd).foldl (λf c=>setAt f c.1 c.2.2) hi) A oc (H++H2)/\pV X W2 V) W1
   (λ_ pre V h=>ajx.out pre V h)) (λ_ _=>rfl)
  (λ_ _ _=>True) (λ_ _ _ _ h ht=>⟨h.1.turn ht,K4 h.2 ht (λk hk=>by omega)⟩) (λ_ _ _ _ h _=>h) (λ_ _ _ _ _ h _=>h) (λ_ _ _ _ _ h _=>h) (λ_ _ _ _ _ _ _ h _=>h)
  (λ_ _ _ _ _ _ h=>h.elim) (λ_ _ _ _ _ _ h=>h.elim) (λ_ _ _ _ _ _ h=>h.elim)
  (λx=>[.cells (oO x.2).toArray 222]) (λ_ V hV _=>⟨HS2.out.below hV,pV.of_below hV⟩) ?a1 ?assign ?body (λ_ _ _ _ _ _ _ _ h=>h.elim) ?done (λ_ _ _ _ _ _ h=>h.elim)
 case assign=>
  intro l b x W k K hk hK;simp only[oO];gi_wp2;try rw[hk]
  exact hK
 case body=>
  rintro l b0 pre ⟨i,a,l1,u1⟩ W k hb ⟨hSx,hMx⟩ ⟨hpm,hxi,hx⟩ hk hbx;have hq:=hbx 0 _ rfl;rw[jW]at hq;simp only at hx hq;have ha:=qB.out _ (cK hx);simp only at ha;have q0:W.cell? ⟨k,0,none⟩=some (.int .i64 a):=(aG W _ 0 _ _ _ hq).trans rfl;have q1:W.cell? ⟨k,1,none⟩=some (.int .i64 l1):=(aG W _ 1 _ _ _ hq).trans rfl;have q2:W.cell? ⟨k,2,none⟩=some (.int .i64 u1):=(aG W _ 2 _ _ _ hq).trans rfl;have b1:W.cell? ⟨w.heap.size,0,none⟩=some (.pointer (some ⟨X.sb,0,none⟩)):=(af6.out.EZ hMx (by unfold Dc;decide)).cell rfl;have s0:W.cell? ⟨X.sb,0,none⟩=some (.slice (some ⟨X.bb,0,none⟩) X.n X.n):=hSx.box.cell rfl;have c0:=hSx.bnd.cell (dR _ _ ha (j:=0) (by omega));have c1:=hSx.bnd.cell (dR _ _ ha (j:=1) (by omega));rw[jW]at c0;have f0:=hSx.bnd.frozen (a*2);have f1:=hSx.bnd.frozen (a*2+1);have an:(a:Int)<(X.n:Int):=by omega
  have Av:=ah hSx;clear hSx;have pQ:=ah hMx;clear hMx;clear hx hq hbx hpm hxi;dsimp only
  gi_upto_region 3 with(fail)
  refine aU 8 (jH.round _ _) (by simp) (by kernel_rfl) (by kernel_rfl) ?_;simp only[fK,bV,fT,cO];repeat(go_big_quiet_step (fail))
  refine aS ?_;rintro _ ⟨mq,rfl⟩;gi_wp2;have hset:=Av.out.XG mq ha l1 u1;have hu:aH (λq=>q=X.bb) W (((W.drewN mq).setCell ⟨X.bb,a*2,none⟩ (.int .i64 l1)).setCell ⟨X.bb,a*2+1,none⟩ (.int .i64 u1)):=
   (((aH.refl (λq=>q=X.bb) W).drewN mq).setCell (p:=⟨X.bb,a*2,none⟩) (.inl rfl) _).setCell (p:=⟨X.bb,a*2+1,none⟩) (.inl rfl) _
  exact⟨oC _ hu (λq o (e:q=X.bb) h=>Av.out.bnd.isCells (e▸h)),hset.1,pQ.out.trans hset.2⟩
 case done=>
  rintro D b0 xs W hD hb hS ⟨hS3,hM3⟩ hK;rw[hS,<-Oe,<-Og]at hS3;have Av:=ah hS3;clear hS3;have pQ:=ah hM3;clear hM3;have HK:=ah hK;clear hK;have b1:W.cell? ⟨w.heap.size,0,none⟩=some (.pointer (some ⟨X.sb,0,none⟩)):=(af6.out.EZ pQ.out (by unfold Dc;decide)).cell rfl;have s3:W.cell? ⟨X.sb,3,none⟩=some (.slice A (H.length+H2.length) oc):=by
   have h:=Av.out.box.cell (i:=3) rfl;rw[hl]at h;exact h
  have f3:=Av.out.box.frozen 3;have alG:∀w:World,(Instr.slice 173 (.slice A (H.length+H2.length) oc) none (some (.int .i64 (H.length:Int))) none).run Tryz.prog w= .ok (.slice A H.length oc) w:=λw=>by
   rw[run_slice_h w 173 A (H.length+H2.length) oc (by kernel_rfl) .i64 H.length (by omega) (by omega)];have hs:(sizeOf (Tryz.prog.elem 173)).run Tryz.prog w= .ok 3 w:=by kernel_rfl
   rw[hs];simp only[sliced,Result.andThen_ok,su,Nat.zero_mul,Nat.sub_zero];rcases rE yR.out.old with⟨_,hA,_⟩|⟨g,hA,_⟩
   .subst hA;simp
   .subst hA
    have e:(Addr.add ⟨g,0,none⟩ 0)=⟨g,0,none⟩:=by rw[Addr.add_lit]
    simp[e]
  clear hrun
  gi_upto_region 4 with(fail)
  refine aU 7 (jH.wide _) (by simp) (by kernel_rfl) (by kernel_rfl) ?_;simp only[fK,bV,fT,cO];repeat(go_big_quiet_step (fail))
  refine aS ?_;rintro _ ⟨mq,rfl⟩;gi_wp2;have hsD:X.sb≠D:=by have h1:=HS2.out.box.lt;omega
  have hu:aH (λq=>q=X.sb) W ((W.drewN mq).setCell ⟨X.sb,3,none⟩ (.slice A H.length oc)):=((aH.refl (λq=>q=X.sb) W).drewN mq).setCell (p:=⟨X.sb,3,none⟩) (.inl rfl) _;have hud:aH (λ_=>False) W (W.drewN mq):=(aH.refl _ _).drewN mq;have hmv:pV X W ((W.drewN mq).setCell ⟨X.sb,3,none⟩ (.slice A H.length oc)):=pV.xU hu (λq hq _=>by subst hq;exact Av.out.box.sset Av.out.low.1 (.inl rfl) (.inl rfl));have hSF:aP ((W.drewN mq).setCell ⟨X.sb,3,none⟩ (.slice A H.length oc)) X (oV H2 lo) (oW H2 hi) A oc H:=
   ⟨Av.out.uQ.EZ hmv,Av.out.wB.EZ hmv,Av.out.Hr,Av.out.Ht,(Av.out.box.keep hud (λh=>h)).set (i:=3) (by simp) _,Av.out.bnd.keep hu (λe=>Av.out.bnd.ne Av.out.box (by decide) e),bX (Oh Av.out.old) hu (λb hb e=>by
    subst e;obtain⟨tl,Hu⟩:=Av.out.box;exact cZ (Oh Av.out.old) Hu (by decide) hb),Av.out.low⟩
  have hK2:=hu.keep HK.out (λe=>hsD e.symm);refine⟨by simp,.inl ⟨_,_,rfl,run_takeDeferred hK2,?_⟩⟩;have ht:=fI.putObj (S:=λk=>k=D) (.deferred none) rfl hK2 rfl;refine⟨_,results_none rfl _ _ _,rfl,hSF.turn ht,?_⟩;exact K4 (Ag.out.trans (pQ.out.trans hmv)) ht (λq hq=>by have h1:=Ag.out.size;omega)
end
section
open Go.RowKit Go.Shelf
theorem YieldAt.depth{F:Fence}{m m':Nat}{P:Program}{l:Nat}{args:Array Value}{W:World}{R:Ending->World->Prop}(hF:F.depth=none)(h:YieldAt F m P l args W R):YieldAt F m' P l args W R:=by
 obtain⟨fn,tmps,assign,body,h1,h2,h3⟩:=h;exact⟨fn,tmps,assign,body,h1,h2,λc cs _=>h3 c cs (λd hd=>by rw[hF]at hd;cases hd)⟩
def Po(X:SX)(b:Nat×Nat)(V V':World):Prop:=aH (λk=>(b.1<=k/\k<b.2)\/SSet X V k) V V'
theorem Po.LA{X:SX}{b:Nat×Nat}{V V':World}(h:pV X V V'):Po X b V V':=h.mono (λ_ _ h=>.inr h)
theorem Po.of_below{X:SX}{b:Nat×Nat}{V V':World}(h:Below V.heap.size V V'):Po X b V V':=Po.LA (pV.of_below h)
def StX(X:SX)(Bs k:Nat):Prop:=k=X.rb\/k=X.ab\/k=Bs\/∃v,(v∈X.vb\/v∈X.va)/\v.ownBlock=some k
def YQ(X:SX)(Bs:Nat)(b:Nat×Nat)(V V':World):Prop:=V.heap.size<=V'.heap.size/\∀(k:Nat)(cs:Array Value)(t:TypeId)(fz:Nat×Nat),V.heap[k]?=some (.cells cs t fz)->(StX X Bs k\/(b.1<=k/\k<b.2)\/Dc t)->V'.heap[k]?=some (.cells cs t fz)
theorem Own.kp{X:SX}{Bs:Nat}{b':Nat×Nat}{w w':World}{t:TypeId}{b:Nat}{cs:List Value}(h:Own w t b cs)(hk:YQ X Bs b' w w')(hs:StX X Bs b\/(b'.1<=b/\b<b'.2)\/Dc t):Own w' t b cs:=by
 obtain⟨tl,h⟩:=h;exact⟨tl,hk.2 _ _ _ _ h hs⟩
theorem bZ.typed{w:World}{B rb:Nat}{vs:List Value}{L:List (List Int)}(h:bZ w B rb vs L 0):∀v∈vs,∀b,v.ownBlock=some b->∃cs fz,w.heap[b]?=some (.cells cs 3 fz):=λv hv b hb=>by
 obtain⟨i,hi⟩:=jV.1 hv;have hl:i<L.length:=by rw[<-h.len];exact(aZ.1 hi).1
 exact iD (h.row i v _ (aV _) hi (aT hl)) b hb
theorem Own.same{w w':World}{t:TypeId}{b:Nat}{cs:List Value}(h:Own w t b cs)(e:w'.heap[b]?=w.heap[b]?):Own w' t b cs:=by
 obtain⟨tl,h⟩:=h;exact⟨tl,e.trans h⟩
theorem BK{w w':World}{B:Nat}{e:TypeId}{size n:Nat}{v:Value}{xs:List Value}(h:w.ownsRow B e size v n xs)(hs:∀k,v.ownBlock=some k->w'.heap[k]?=w.heap[k]?):w'.ownsRow B e size v n xs:=by
 refine⟨h.1,?_⟩;rcases h.2 with h0|⟨g,cap,cur,rfl,hB,hg,r⟩
 .exact .inl h0
 .exact .inr ⟨g,cap,cur,rfl,hB,(hs g rfl).trans hg,r⟩
theorem bZ.same{w w':World}{B rb k:Nat}{vs:List Value}{L:List (List Int)}(h:bZ w B rb vs L k)(hz:w.heap.size<=w'.heap.size)(hr:w'.heap[rb]?=w.heap[rb]?)(hs:∀v∈vs,∀b,v.ownBlock=some b->w'.heap[b]?=w.heap[b]?):bZ w' B rb vs L k:=
 ⟨h.own.same hr,h.len,λi v l hk hv hl=>BK (h.row i v l hk hv hl) (hs v (cK hv)),h.sep,λv hv b hb=>⟨(h.low v hv b hb).1,jX (h.low v hv b hb).2.1 hz,(h.low v hv b hb).2.2⟩⟩
theorem aP.kp{V V':World}{X:SX}{Bs:Nat}{b:Nat×Nat}{lo hi:Nat->Int}{A:Option Addr}{oc:Nat}{H:List (Nat×Int×Int)}(h:aP V X lo hi A oc H)(hk:YQ X Bs b V V'):aP V' X lo hi A oc H:=by
 have rw':∀{w:World}{B rb:Nat}{vs:List Value}{L:List (List Int)},bZ V B rb vs L 0->(∀v∈vs,v∈X.vb\/v∈X.va)->(rb=X.rb\/rb=X.ab)->bZ V' B rb vs L 0:=λh1 h2 h3=>by
  obtain⟨tl,ho⟩:=h1.own;refine h1.same hk.1 ((hk.2 _ _ _ _ ho (.inl ?_)).trans ho.symm) (λv hv q hq=>?_)
  .rcases h3 with e|e
   .exact .inl e
   .exact .inr (.inl e)
  .obtain⟨cs,fz,h4⟩:=h1.typed v hv q hq
   exact(hk.2 _ _ _ _ h4 (.inl (.inr (.inr (.inr ⟨v,h2 v hv,hq⟩))))).trans h4.symm
 refine⟨rw' (w:=V) h.uQ (λv hv=>.inl hv) (.inl rfl),rw' (w:=V) h.wB (λv hv=>.inr hv) (.inr rfl),
  h.Hr,h.Ht,h.box.kp hk (.inr (.inr (.inl rfl))),h.bnd.kp hk (.inr (.inr (.inr (.inl rfl)))),BK h.old (λq hq=>?_),h.low⟩
 obtain⟨cs,fz,h1⟩:=iD h.old q hq;exact(hk.2 _ _ _ _ h1 (.inr (.inr (.inr (.inr rfl))))).trans h1.symm
structure IX where
 nb:Nat
 yb:Nat
 xb:Nat
 vb:Nat
structure Dh(V:World)(X:SX)(Bs:Nat)(b:Nat×Nat)(l:Nat)(I:IX):Prop where
 win:∀k,(k=I.nb\/k=I.yb\/k=I.xb\/k=I.vb)->b.1<=k/\k<b.2
 UY:Own V 181 I.yb [.func (.yield l) #[] #[]]
 uJ:Own V 22 I.xb [.slice (some ⟨I.nb,0,none⟩) X.n X.n]
 UZ:Own V 92 I.vb [.func (.func 101) #[] #[.pointer (some ⟨I.xb,0,none⟩),.pointer (some ⟨Bs,0,none⟩),.pointer (some ⟨I.yb,0,none⟩),.pointer (some ⟨I.vb,0,none⟩)]]
 Jq:Own V 122 Bs [.pointer (some ⟨X.sb,0,none⟩)]
 num:∃N:List Int,N.length=X.n/\Own V 3 I.nb (aR N)
 sep:∀v,v∈X.vb\/v∈X.va->∀q,v.ownBlock=some q->q<b.1
 sz:b.2<=V.heap.size
theorem Dh.below{V V':World}{X:SX}{Bs l:Nat}{b:Nat×Nat}{I:IX}(h:Dh V X Bs b l I)(hb:Below V.heap.size V V'):Dh V' X Bs b l I:=by
 obtain⟨N,h1,h2⟩:=h.num;exact⟨h.win,h.UY.below hb,h.uJ.below hb,h.UZ.below hb,h.Jq.below hb,⟨N,h1,h2.below hb⟩,h.sep,bF h.sz hb.size⟩
theorem Dh.EZ{V V':World}{X:SX}{Bs l:Nat}{b:Nat×Nat}{I:IX}(h:Dh V X Bs b l I)(hm:pV X V V'):Dh V' X Bs b l I:=by
 obtain⟨N,h1,h2⟩:=h.num;have nt:∀{t:TypeId},t≠175->t≠177->t≠222->¬Dc t:=λa b c h=>by
  rcases h with h|h|h
  .exact a h
  .exact b h
  .exact c h
 exact⟨h.win,h.UY.EZ hm (nt (by decide) (by decide) (by decide)),h.uJ.EZ hm (nt (by decide) (by decide) (by decide)),h.UZ.EZ hm (nt (by decide) (by decide) (by decide)),h.Jq.EZ hm (nt (by decide) (by decide) (by decide)),⟨N,h1,h2.EZ hm (nt (by decide) (by decide) (by decide))⟩,h.sep,bF h.sz hm.size⟩
theorem Dh.kp{V V':World}{X:SX}{Bs l:Nat}{b:Nat×Nat}{I:IX}(h:Dh V X Bs b l I)(hk:YQ X Bs b V V'):Dh V' X Bs b l I:=by
 obtain⟨N,h1,h2⟩:=h.num;exact⟨h.win,h.UY.kp hk (.inr (.inl (h.win _ (.inr (.inl rfl))))),h.uJ.kp hk (.inr (.inl (h.win _ (.inr (.inr (.inl rfl)))))),h.UZ.kp hk (.inr (.inl (h.win _ (.inr (.inr (.inr rfl)))))),h.Jq.kp hk (.inl (.inr (.inr (.inl rfl)))),⟨N,h1,h2.kp hk (.inr (.inl (h.win _ (.inl rfl))))⟩,h.sep,bF h.sz hk.1⟩
end
open Go.RowKit Go.Shelf
attribute [local go_sem] Oper.semAt_some
def YOk(n:Nat)(b:Nat×Nat)(nb:Nat)(pre:List (List Int))(x:List Int)(V:World):Prop:=pre.length<400/\x.length=n/\Own V 3 nb (aR x)/\b.2<=V.heap.size
def ajz(n:Nat)(b:Nat×Nat)(nb:Nat)(pre:List (List Int))(x:List Int)(V:World):Prop:=pre.length=400/\x.length=n/\Own V 3 nb (aR x)/\b.2<=V.heap.size
structure E8(X:SX)(Bs:Nat)(b:Nat×Nat)(l nb:Nat)(J JL:List (List Int)->World->Prop):Prop where
 go:∀pre x V,J pre V->YOk X.n b nb pre x V->YieldAt Fence.wide 0 Tryz.prog l #[.slice (some ⟨nb,0,none⟩) X.n X.n] V λe V'=>e= .returned (.bool true)/\J (pre++[x]) V'/\YQ X Bs b V V'
 stop:∀pre x V,J pre V->ajz X.n b nb pre x V->YieldAt Fence.wide 0 Tryz.prog l #[.slice (some ⟨nb,0,none⟩) X.n X.n] V λe V'=>e= .returned (.bool false)/\JL (pre++[x]) V'/\YQ X Bs b V V'
 mv:∀pre V V',J pre V->Po X b V V'->J pre V'
 mvL:∀pre V V',JL pre V->Po X b V V'->JL pre V'
def gZ(X:SX)(V V':World):Prop:=∀(k:Nat)(cs:Array Value)(fz:Nat×Nat),V.heap[k]?=some (.cells cs 177 fz)->k≠X.bb->k≠X.sb->V'.heap[k]?=some (.cells cs 177 fz)
theorem gZ.refl(X:SX)(V:World):gZ X V V:=λ_ _ _ h _ _=>h
theorem gZ.trans{X:SX}{a b c:World}(h:gZ X a b)(k:gZ X b c):gZ X a c:=λi cs fz h1 h2 h3=>k i cs fz (h i cs fz h1 h2 h3) h2 h3
theorem gZ.EZ{X:SX}{V V':World}(h:pV X V V'):gZ X V V':=λi cs fz h1 h2 h3=>h.keep h1 (λ⟨_,cs',t',fz',h4,_,h5⟩=>by
 rw[h1]at h4;cases h4
 rcases h5 with h5|h5|h5
 .exact h3 h5
 .exact h2 h5
 .revert h5;decide)
theorem gZ.below{X:SX}{V V':World}(h:Below V.heap.size V V'):gZ X V V':=gZ.EZ (pV.of_below h)
theorem gZ.kp{X:SX}{Bs:Nat}{b:Nat×Nat}{V V':World}(h:YQ X Bs b V V'):gZ X V V':=λi cs fz h1 _ _=>h.2 i cs _ fz h1 (.inr (.inr (.inr (.inl rfl))))
theorem gZ.int{X:SX}{S:Nat->Prop}{V V':World}(h:aH S V V')(hS:∀k,S k->∃cs fz,V.heap[k]?=some (.cells cs 3 fz)):gZ X V V':=λi cs fz h1 _ _=>h.keep h1 (λhs=>by
 obtain⟨cs',fz',h2⟩:=hS i hs;rw[h1]at h2;injection h2 with h2
 injection h2 with _ h2 _
 revert h2;decide)
def U0(X:SX)(P:List (Nat×Nat))(Bs:Nat)(b:Nat×Nat)(l:Nat)(I:IX)(lo hi:Nat->Int)(H:List (Nat×Int×Int))(J JL:List (List Int)->World->Prop)(pre:List (List Int))(V:World)(e:Ending)(V':World):Prop:=
 ∃(more:Bool)(Y:List (List Int))(A:Option Addr)(oc:Nat),e= .returned (.bool more)/\j_ X.n lo hi P Y/\V.heap.size<=V'.heap.size/\gZ X V V'/\Dh V' X Bs b l I/\aP V' X lo hi A oc H/\
  (more=true->(pre++Y).length<=400/\J (pre++Y) V')/\(more=false->400<(pre++Y).length/\∃Y1,JL (pre++Y1) V')
structure VA(V:World)(X:SX)(Bs:Nat)(b:Nat×Nat)(l:Nat)(I:IX)(lo hi:Nat->Int)(A:Option Addr)(oc:Nat)(H:List (Nat×Int×Int))(J:List (List Int)->World->Prop)(pre:List (List Int)):Prop where
 s:aP V X lo hi A oc H
 it:Dh V X Bs b l I
 j:J pre V
theorem VA.below{V V':World}{X:SX}{Bs l nb:Nat}{b:Nat×Nat}{I:IX}{lo hi:Nat->Int}{A:Option Addr}{oc:Nat}{H:List (Nat×Int×Int)}{J JL:List (List Int)->World->Prop}{pre:List (List Int)}(h:VA V X Bs b l I lo hi A oc H J pre)(hY:E8 X Bs b l nb J JL)(hb:Below V.heap.size V V'):VA V' X Bs b l I lo hi A oc H J pre:=
 ⟨h.s.below hb,h.it.below hb,hY.mv _ _ _ h.j (Po.of_below hb)⟩
def Oi(lo:Nat->Int)(n j:Nat)(N:List Int):Prop:=N.length=n/\∀i,i<j->N.getD i 0=lo i
theorem Oi.step{lo:Nat->Int}{n j:Nat}{N:List Int}(h:Oi lo n j N)(hj:j<n):Oi lo n (j+1) (N.set j (lo j)):=by
 refine⟨by rw[List.length_set];exact h.1,λi hi=>?_⟩;rw[Fe,jI];by_cases e:j=i
 .subst e
  rw[if_pos rfl,if_pos (by rw[h.1];exact hj)];rfl
 .rw[if_neg e,<-Fe]
  exact h.2 i (by omega)
theorem ints_set(N:List Int)(j:Nat)(v:Int):(aR N).set j (.int .i64 v)=aR (N.set j v):=by simp[aR,List.map_set]
theorem VA.num{V V':World}{X:SX}{Bs l:Nat}{b:Nat×Nat}{I:IX}{lo hi:Nat->Int}{A:Option Addr}{oc:Nat}{H:List (Nat×Int×Int)}{J JL:List (List Int)->World->Prop}{pre:List (List Int)}(h:VA V X Bs b l I lo hi A oc H J pre)(hY:E8 X Bs b l I.nb J JL)(hu:aH (λk=>k=I.nb) V V'){N:List Int}(hN:N.length=X.n)(ho:Own V' 3 I.nb (aR N)):VA V' X Bs b l I lo hi A oc H J pre/\gZ X V V':=by
 obtain⟨N0,hN0,ho0⟩:=h.it.num;have hT:∀k,k=I.nb->∃cs fz,V.heap[k]?=some (.cells cs 3 fz):=λk e=>by
  obtain⟨tl,ho0⟩:=ho0;exact⟨_,_,by rw[e];exact ho0⟩
 have hne:∀{t:TypeId}{q:Nat}{cs:List Value},Own V t q cs->t≠3->q≠I.nb:=λh1 h2 e=>h1.ne ho0 h2 e;refine⟨⟨h.s.QX hu hT (λv hv q hq e=>?_),⟨h.it.win,h.it.UY.keep hu (hne h.it.UY (by decide)),h.it.uJ.keep hu (hne h.it.uJ (by decide)),h.it.UZ.keep hu (hne h.it.UZ (by decide)),h.it.Jq.keep hu (hne h.it.Jq (by decide)),⟨N,hN,ho⟩,h.it.sep,bF h.it.sz hu.size⟩,hY.mv _ _ _ h.j (hu.mono (λk _ e=>.inl (by rw[e];exact h.it.win _ (.inl rfl))))⟩,gZ.int hu hT⟩;have h1:=h.it.sep v hv q hq;have h2:=h.it.win _ (.inl rfl);omega
theorem gZ.own{X:SX}{V V':World}{k:Nat}{cs:List Value}(h:gZ X V V')(ho:Own V 177 k cs)(h1:k≠X.bb)(h2:k≠X.sb):Own V' 177 k cs:=by
 obtain⟨tl,ho⟩:=ho;exact⟨tl,h k _ _ ho h1 h2⟩
theorem U1{X:SX}{P:List (Nat×Nat)}{Bs l:Nat}{b:Nat×Nat}{I:IX}{J JL:List (List Int)->World->Prop}(XT:Hid (E8 X Bs b l I.nb J JL))(HLB:Hid (X.Lb=nK P X.n P.length))(ZV:Hid (X.La=nL P X.n P.length))(hn:X.n<=400)(hP:P.length<=4000):
 ∀(m fr:Nat),fr+m=X.n->∀(lo hi:Nat->Int)(A:Option Addr)(oc:Nat)(H:List (Nat×Int×Int))(pre:List (List Int))(V:World),aP V X lo hi A oc H->O9 X.n lo hi P->(∀i,i<fr->lo i=hi i)->(∀i,i<X.n-> -1000000<=lo i/\hi i<=1000000)->Dh V X Bs b l I->J pre V->pre.length<=400->H.length<=fr*(2*X.n+1)->
  Calls Tryz.prog 101 #[.int .i64 fr,.pointer (some ⟨I.xb,0,none⟩),.pointer (some ⟨Bs,0,none⟩),.pointer (some ⟨I.yb,0,none⟩),.pointer (some ⟨I.vb,0,none⟩)] V (U0 X P Bs b l I lo hi H J JL pre V):=by
 intro m;induction m using Nat.strongRecOn with
 |_ m ih=>
  intro fr hfm lo hi A oc H pre V hS hB hone hrg hIt hJ hpl hHl;have HIH:=ah ih;clear ih;have HV:Hid (VA V X Bs b l I lo hi A oc H J pre):=⟨hS,hIt,hJ⟩;clear hS hIt hJ;have HB:=ah hB;clear hB;have HO:=ah hone;clear hone;have SG:=ah hrg;clear hrg;have vY:=ah hpl;clear hpl;have HHL:=ah hHl;clear hHl;have HFM:=ah hfm;clear hfm;have hfr:fr<=X.n:=by have:=HFM.out;omega
  refine(bQ (n:=4)).1 ?_;refine callsIn_of_wp Tryz.func101 rfl trivial ?_ rfl;simp only[Tryz.ntmps101,qU,iy,jJ,Nat.reduceAdd,Nat.reduceSub,rX,rY,r_,rZ,mI,r9];gi_wp2
  gi_loopw [0] (λv wr=>∃k:Nat,fr<=k/\k<=X.n/\v= .int .i64 k/\Hid (∀i,i<k->lo i=hi i)/\Hid (V.heap.size<=wr.heap.size)/\Hid (gZ X V wr)/\Hid (VA wr X Bs b l I lo hi A oc H J pre)) (λv _=>X.n - (intOf v).toNat)
  case atStart=>exact⟨fr,bH _,hfr,rfl,HO,bH _,gZ.refl _ _,HV⟩
  case round=>
   obtain⟨k,hfk,hkn,rfl,Fy,rT,vV,wD⟩:=hrel;clear HV HO;have c1:wr.cell? ⟨I.xb,0,none⟩=some (.slice (some ⟨I.nb,0,none⟩) X.n X.n):=wD.out.it.uJ.cell rfl;have c2:wr.cell? ⟨Bs,0,none⟩=some (.pointer (some ⟨X.sb,0,none⟩)):=wD.out.it.Jq.cell rfl;have s0:wr.cell? ⟨X.sb,0,none⟩=some (.slice (some ⟨X.bb,0,none⟩) X.n X.n):=wD.out.s.box.cell rfl;by_cases hlt:k<X.n
   .have d0:=wD.out.s.bnd.cell (dR lo hi hlt (j:=0) (by omega))
    have d1:=wD.out.s.bnd.cell (dR lo hi hlt (j:=1) (by omega));rw[jW]at d0;have k1:(k:Int)<(X.n:Int):=by omega
    gi_upto_region 1 with(fail)
    by_cases he:lo k=hi k
    .have q1:(lo k==hi k)=true:=by simp[he]
     have HE:=ah he;clear he;refine aU 22 (jH.wide _) (by simp) (by kernel_rfl) (by kernel_rfl) ?_;simp only[fK,bV,fT,cO];repeat(go_big_quiet_step (fail))
     refine aS ?_;rintro _ ⟨mq,rfl⟩;have DC:=below_drewN wr mq;have H9:=ah (vV.out.trans (gZ.below DC));have rH:=ah (wD.out.below XT.out DC);have zY:Hid (V.heap.size<=(wr.drewN mq).heap.size):=bF rT.out DC.size;have ajA:Hid (∀i,i<k+1->lo i=hi i):=λi hi'=>by
      by_cases e:i=k
      .rw[e];exact HE.out
      .exact Fy.out i (by omega)
     clear DC c1 c2 s0 d0 d1 vV wD rT Fy HE;gi_wp2
     go_roundw
     case rel=>exact⟨k+1,by omega,by omega,by go_num,ajA,zY,H9,rH⟩
     case measure=>simp[intOf];omega
    .have q1:(lo k==hi k)=false:=by simp[he]
     clear he;refine aU 22 (jH.wide _) (by simp) (by kernel_rfl) (by kernel_rfl) ?_;simp only[fK,bV,fT,cO];repeat(go_big_quiet_step (fail))
     refine aS ?_;rintro _ ⟨mq,rfl⟩;have DC:=below_drewN wr mq;have H9:=ah (vV.out.trans (gZ.below DC));have rH:=ah (wD.out.below XT.out DC);have zY:Hid (V.heap.size<=(wr.drewN mq).heap.size):=bF rT.out DC.size;have HRK:=ah (SG.out k hlt);clear DC c1 c2 s0 d0 d1 vV wD rT;generalize wr.drewN mq=W1 at H9 rH zY⊢;have c1:W1.cell? ⟨I.xb,0,none⟩=some (.slice (some ⟨I.nb,0,none⟩) X.n X.n):=rH.out.it.uJ.cell rfl;have c2:W1.cell? ⟨Bs,0,none⟩=some (.pointer (some ⟨X.sb,0,none⟩)):=rH.out.it.Jq.cell rfl;have s0:W1.cell? ⟨X.sb,0,none⟩=some (.slice (some ⟨X.bb,0,none⟩) X.n X.n):=rH.out.s.box.cell rfl;have d0:=rH.out.s.bnd.cell (dR lo hi hlt (j:=0) (by omega));have d1:=rH.out.s.bnd.cell (dR lo hi hlt (j:=1) (by omega));rw[jW]at d0;have q2:((k:Int)==(X.n:Int))=false:=by simp;omega
     gi_upto_region 11 with(fail)
     clear q2;generalize hWa:World.alloc _ _=Wa;obtain⟨hba,hxa⟩:=bx1' hWa;have J5:Hid (Own Wa 177 W1.heap.size [.int .i64 (lo k),.int .i64 (hi k)]):=⟨[],by rw[b_];exact hxa⟩;have af9:=ah (H9.out.trans (gZ.below hba));have af_:=ah (rH.out.below XT.out hba);have aga:Hid (V.heap.size<=Wa.heap.size):=bF zY.out hba.size;have JZ:Hid (W1.heap.size≠X.bb/\W1.heap.size≠X.sb):=⟨by have:=rH.out.s.bnd.lt;omega,by have:=rH.out.s.box.lt;omega⟩;have b0:=J5.out.cell (i:=0) rfl;obtain⟨xb,hxb⟩:∃xb,xb=W1.heap.size:=⟨_,rfl⟩;rw[<-hxb]at b0 J5 JZ⊢;clear hWa hba hxa c1 c2 s0 d0 d1 H9 rH zY hxb;have Nc:Hid (fr*(2*X.n+1)<=k*(2*X.n+1)/\(k+1)*(2*X.n+1)=k*(2*X.n+1)+(2*X.n+1)/\(k+1)*(2*X.n+1)<=400*801):=⟨Nat.mul_le_mul_right _ hfk,Nat.succ_mul _ _,Nat.mul_le_mul (by omega) (by omega)⟩;have r1: -1000000<=lo k:=HRK.out.1;have r2:hi k<=1000000:=HRK.out.2;gi_wp2
     gi_loopw [10] (λv wr=>∃(x:Int)(Y:List (List Int))(A2:Option Addr)(XQ:Nat),lo k<=x/\x<=hi k+1/\v= .int .i64 x/\Hid (pE X.n lo hi P k x Y)/\Hid ((pre++Y).length<=400)/\Hid (V.heap.size<=wr.heap.size)/\Hid (Own wr 177 xb [.int .i64 (lo k),.int .i64 (hi k)])/\Hid (gZ X V wr)/\Hid (VA wr X Bs b l I lo hi A2 XQ H J (pre++Y))) (λv _=>(hi k+1 - intOf v).toNat)
     case atStart=>exact⟨lo k,[],A,oc,iL _,by have:=HB.out.le k hlt;omega,rfl,pE.start _ _ _ _ hlt,by show _;rw[b_];exact vY.out,aga,J5,af9,by show _;rw[b_];exact af_.out⟩
     case round=>
      clear b0 J5 af9 af_ aga;obtain⟨x,Y,A2,XQ,hx0,hx1,rfl,Li,HYL,rT,J5,vV,wD⟩:=hrel;have b1:=J5.out.cell (i:=1) rfl;by_cases hxh:x<=hi k
      .have c2:wr.cell? ⟨Bs,0,none⟩=some (.pointer (some ⟨X.sb,0,none⟩)):=wD.out.it.Jq.cell rfl
       have s3:wr.cell? ⟨X.sb,3,none⟩=some (.slice A2 H.length XQ):=wD.out.s.box.cell rfl;have HCH:=ah (QZ X P lo hi A2 XQ H k x wr wD.out.s HB.out HLB.out ZV.out hlt hx0 hxh (by omega) hP (by have h1:=Nc.out;have h2:=HHL.out;omega));gi_wp2_with (refine⟨trivial,?_⟩;gi_at_call 102;refine(bQ.2 HCH.out).mono ?_;rintro e W4 ⟨lo',hi',A4,oc4,H2,rfl,hs4,XU,hl2,hbl,hbh,hin2,⟨later,hup,hud⟩,earlier,hwn,hwd⟩;refine Hid.out ?_);refine ah ?_;have HC:=ah (chosen HB.out hlt hup hud hwn hwd);have VB:Hid (VA W4 X Bs b l I lo' hi' A4 oc4 (H++H2) J (pre++Y)):=⟨hs4,wD.out.it.EZ XU,XT.out.mv _ _ _ wD.out.j (Po.LA XU)⟩;have agb:=ah (vV.out.trans (gZ.EZ XU));have agc:=ah (J5.out.afO XU JZ.out.2 JZ.out.1 (by decide));have agd:Hid (V.heap.size<=W4.heap.size):=bF rT.out XU.size;have agf:=ah hin2;have HBL:Hid (oV H2 lo'=lo/\oW H2 hi'=hi):=⟨hbl,hbh⟩;have HL2:Hid ((H++H2).length<=(k+1)*(2*X.n+1)):=by show _<=_;rw[lS];have h1:=Nc.out;have h2:=HHL.out;omega
       have hrec:=HIH.out (X.n - (k+1)) (by have:=HFM.out;omega) (k+1) (by omega) lo' hi' A4 oc4 (H++H2) (pre++Y) W4 VB.out.s HC.out.1 (λi hi0=>by
        have h1:=HC.out.2.2.2.2 i;have h2:=HC.out.1.le i (by omega);by_cases e:i=k
        .rw[e,HC.out.2.2.1,HC.out.2.2.2.1]
        .have h3:=Fy.out i (by omega);omega) (λi hi0=>by
        have h1:=HC.out.2.2.2.2 i;have h2:=SG.out i hi0;omega) VB.out.it VB.out.j HYL.out HL2.out
       rw[show(((k+1:Nat)):Int)=(k:Int)+1 by omega]at hrec;have agh:=ah hrec;have c4:W4.cell? ⟨I.vb,0,none⟩=some (.func (.func 101) #[] #[.pointer (some ⟨I.xb,0,none⟩),.pointer (some ⟨Bs,0,none⟩),.pointer (some ⟨I.yb,0,none⟩),.pointer (some ⟨I.vb,0,none⟩)]):=VB.out.it.UZ.cell rfl;clear hs4 XU hl2 hbl hbh hin2 hup hud hwn hwd hrec HCH c2 s3 b1 wD vV J5 rT later earlier;have hk9:(k:Int)+1<=9223372036854775807:=by omega
       gi_wp2_with (refine⟨trivial,?_⟩;gi_at_call 101;refine(bQ.2 agh.out).mono ?_;rintro e W5 ⟨more,Z,A5,UU,rfl,hz,hsz5,XV,ZW,hs5,hmt,wz⟩;refine Hid.out ?_);refine ah ?_;have Vz:=ah hs5;have ac0:=ah ZW;have agi:=ah (agb.out.trans XV);have agj:=ah (XV.own agc.out JZ.out.1 JZ.out.2);have agk:Hid (V.heap.size<=W5.heap.size):=bF agd.out hsz5;have HMT:=ah hmt;have NW:=ah wz;have HZ:Hid (pE X.n lo hi P k (x+1) (Y++Z)):=Li.out.step hlt Fy.out hz HC.out.2.1;have c5:W5.cell? ⟨Bs,0,none⟩=some (.pointer (some ⟨X.sb,0,none⟩)):=ac0.out.Jq.cell rfl;have Y5:=ah (XR X lo' hi' A5 UU H H2 W5 Vz.out agf.out);clear hz hsz5 XV ZW hs5 hmt wz agh c4 VB agb agc agd Li agf;gi_wp2_with (refine⟨trivial,?_⟩;gi_at_call 103;refine(bQ.2 Y5.out).mono ?_;rintro e W6 ⟨rfl,hs6,hm6⟩;refine Hid.out ?_);refine ah ?_;rw[HBL.out.1,HBL.out.2]at hs6;have HS6:=ah hs6;have HM6:=ah hm6;have agm:=ah (ac0.out.EZ hm6);have agn:=ah (agi.out.trans (gZ.EZ hm6));have ajB:=ah (agj.out.afO hm6 JZ.out.2 JZ.out.1 (by decide));have agp:Hid (V.heap.size<=W6.heap.size):=bF agk.out hm6.size;clear hs6 hm6 c5 Y5 ac0 agi agj agk Vz;cases more with
       |true=>
        obtain⟨h7,h8⟩:=HMT.out rfl;rw[wE]at h7 h8;have Sq:Hid (VA W6 X Bs b l I lo hi A5 UU H J (pre++(Y++Z))):=⟨HS6.out,agm.out,XT.out.mv _ _ _ h8 (Po.LA HM6.out)⟩;have XP:=ah h7;clear h7 h8 HMT NW HM6;have hx9:x+1<=9223372036854775807:=by omega
        gi_wp2
        go_roundw
        case rel=>exact⟨x+1,Y++Z,A5,UU,by omega,by omega,by go_num,HZ,XP,agp,ajB,agn,Sq⟩
        case measure=>simp[intOf];omega
       |false=>
        obtain⟨h7,Y1,h8⟩:=NW.out rfl;obtain⟨YF,hYF⟩:=j_.ex X.n lo hi P;have XP:Hid (400<(pre++YF).length):=by
         have h9:=HZ.out.len hYF;show _<_;simp only[lS]at h7 h9⊢;omega
        have HJ6:Hid (∃Y1,JL (pre++Y1) W6):=⟨Y++Y1,by rw[<-wE];exact XT.out.mvL _ _ _ h8 (Po.LA HM6.out)⟩;have HYF:=ah hYF;clear h7 h8 HMT NW hYF;gi_wp2;go_ret;exact⟨false,YF,A5,UU,rfl,HYF.out,agp.out,agn.out,agm.out,HS6.out,(λh=>by cases h),λ_=>⟨XP.out,HJ6.out⟩⟩
      .obtain rfl:x=hi k+1:=by omega
       have HED:=ah (Li.out.done hlt);gi_wp2;go_ret;exact⟨true,Y,A2,XQ,rfl,HED.out,rT.out,vV.out,wD.out.it,wD.out.s,λ_=>⟨HYL.out,wD.out.j⟩,λh=>by cases h⟩
   .obtain rfl:k=X.n:=by omega
    gi_upto_region 1 with(fail)
    refine aU 22 (jH.wide _) (by simp) (by kernel_rfl) (by kernel_rfl) ?_;simp only[fK,bV,fT,cO];repeat(go_big_quiet_step (fail))
    refine aS ?_;rintro _ ⟨mq,rfl⟩;have DC:=below_drewN wr mq;have H9:=ah (vV.out.trans (gZ.below DC));have rH:=ah (wD.out.below XT.out DC);have zY:Hid (V.heap.size<=(wr.drewN mq).heap.size):=bF rT.out DC.size;clear DC c1 c2 s0 vV wD rT;generalize wr.drewN mq=W1 at H9 rH zY⊢;have c1:W1.cell? ⟨I.xb,0,none⟩=some (.slice (some ⟨I.nb,0,none⟩) X.n X.n):=rH.out.it.uJ.cell rfl;have c2:W1.cell? ⟨Bs,0,none⟩=some (.pointer (some ⟨X.sb,0,none⟩)):=rH.out.it.Jq.cell rfl;have s0:W1.cell? ⟨X.sb,0,none⟩=some (.slice (some ⟨X.bb,0,none⟩) X.n X.n):=rH.out.s.box.cell rfl;have HN0:Hid (∃N,Oi lo X.n 0 N/\Own W1 3 I.nb (aR N)):=by
     obtain⟨N,h1,h2⟩:=rH.out.it.num;exact⟨N,⟨h1,λi hi'=>absurd hi' (Nat.not_lt_zero _)⟩,h2⟩
    gi_wp2
    gi_loopw [47] (λv wr=>∃(j:Nat)(N:List Int),j<=X.n/\v= .int .i64 j/\Hid (Oi lo X.n j N)/\Hid (Own wr 3 I.nb (aR N))/\Hid (V.heap.size<=wr.heap.size)/\Hid (gZ X V wr)/\Hid (VA wr X Bs b l I lo hi A oc H J pre)) (λv _=>X.n - (intOf v).toNat)
    case atStart=>
     obtain⟨N,h1,h2⟩:=HN0.out;exact⟨0,N,aV _,rfl,h1,h2,zY,H9,rH⟩
    case round=>
     clear c1 c2 s0 HN0 zY H9 rH;obtain⟨j,N,hj,rfl,Lg,YR,rT,vV,wD⟩:=hrel;by_cases ac1:j<X.n
     .have d0:=wD.out.s.bnd.cell (dR lo hi ac1 (j:=0) (by omega))
      have d1:=wD.out.s.bnd.cell (dR lo hi ac1 (j:=1) (by omega));rw[jW]at d0;have j1:(j:Int)<(X.n:Int):=by omega
      gi_upto_region 7 with(fail)
      generalize hWa:World.alloc _ _=Wa;obtain⟨hba,hxa⟩:=bx1' hWa;have q0:Wa.cell? ⟨wr.heap.size,0,none⟩=some (.int .i64 (lo j)):=(aG Wa _ 0 _ _ _ hxa).trans rfl;have H9:=ah (vV.out.trans (gZ.below hba));have rH:=ah (wD.out.below XT.out hba);have ac2:=ah (YR.out.below hba);have zY:Hid (V.heap.size<=Wa.heap.size):=bF rT.out hba.size;have c1:Wa.cell? ⟨I.xb,0,none⟩=some (.slice (some ⟨I.nb,0,none⟩) X.n X.n):=rH.out.it.uJ.cell rfl;have hNl:=Lg.out.1;obtain⟨y,hy⟩:∃y,N[j]?=some y:=⟨_,aT (by omega)⟩;have y0:=ac2.out.cell (gQ hy);have f0:=ac2.out.frozen j;have Sk:=ah hNl;clear hWa hba hxa d0 d1 vV wD YR rT hy hNl;gi_wp2
      go_roundw
      case rel=>
       have hu:aH (λq=>q=I.nb) Wa (Wa.setCell ⟨I.nb,j,none⟩ (.int .i64 (lo j))):=(aH.refl (λq=>q=I.nb) Wa).setCell (p:=⟨I.nb,j,none⟩) (.inl rfl) _;have ho:=ac2.out.set (i:=j) (by have:=Sk.out;simp[aR];omega) (.int .i64 (lo j));rw[ints_set]at ho;have hv:=rH.out.num XT.out hu (by rw[List.length_set];exact Sk.out) ho;exact⟨j+1,N.set j (lo j),by omega,by go_num,Lg.out.step ac1,ho,bF zY.out hu.size,H9.out.trans hv.2,hv.1⟩
      case measure=>simp[intOf];omega
     .obtain rfl:j=X.n:=by omega
      have Li:Hid (j_ X.n lo hi P [N]):=j_.one HB.out Fy.out Lg.out.1 Lg.out.2;have c1:wr.cell? ⟨I.xb,0,none⟩=some (.slice (some ⟨I.nb,0,none⟩) X.n X.n):=wD.out.it.uJ.cell rfl;have c3:wr.cell? ⟨I.yb,0,none⟩=some (.func (.yield l) #[] #[]):=wD.out.it.UY.cell rfl;by_cases hp:pre.length<400
      .obtain⟨fn,tmps,assign,body,hy,hR⟩:=YieldAt.depth (m':=3) rfl (XT.out.go pre N wr wD.out.j ⟨hp,Lg.out.1,YR.out,wD.out.it.sz⟩)
       have HP:=ah hp;gi_wp2;refine hR.mono ?_;rintro e W3 ⟨rfl,hJ3,hkp⟩;have Vy:=ah hJ3;have ZX:=ah hkp;clear hJ3 hkp hy hR c1 c3;gi_wp2;go_ret;exact⟨true,[N],A,oc,rfl,Li.out,bF rT.out ZX.out.1,vV.out.trans (gZ.kp ZX.out),wD.out.it.kp ZX.out,wD.out.s.kp ZX.out,λ_=>⟨by have:=HP.out;simp;omega,Vy.out⟩,λh=>by cases h⟩
      .have hp2:pre.length=400:=by have:=vY.out;omega
       obtain⟨fn,tmps,assign,body,hy,hR⟩:=YieldAt.depth (m':=3) rfl (XT.out.stop pre N wr wD.out.j ⟨hp2,Lg.out.1,YR.out,wD.out.it.sz⟩);have HP:=ah hp2;clear hp hp2;gi_wp2;refine hR.mono ?_;rintro e W3 ⟨rfl,hJ3,hkp⟩;have Vy:=ah hJ3;have ZX:=ah hkp;clear hJ3 hkp hy hR c1 c3;gi_wp2;go_ret;exact⟨false,[N],A,oc,rfl,Li.out,bF rT.out ZX.out.1,vV.out.trans (gZ.kp ZX.out),wD.out.it.kp ZX.out,wD.out.s.kp ZX.out,(λh=>by cases h),λ_=>⟨by have:=HP.out;simp;omega,[N],Vy.out⟩⟩
end Go.Proofs.YtpmdedcnbockhaaGreatDoor
