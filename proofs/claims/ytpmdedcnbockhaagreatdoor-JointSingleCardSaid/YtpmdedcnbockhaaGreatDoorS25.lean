/- part -/
import Derived.Test.YtpmdedcnbockhaaGreatDoorS24
set_option maxRecDepth 100000
set_option maxHeartbeats 8000000
namespace Go.Proofs.YtpmdedcnbockhaaGreatDoor
section
open Go.RowKit Go.Shelf Tryz
theorem Pn(H:List (Nat×Int×Int))(f:Nat->Int):pX H f=H.reverse.foldl (λf c=>setAt f c.1 c.2.1) f:=by
 rw[List.foldl_reverse];induction H with
 |nil=>rfl
 |cons c H ih=>show setAt (pX H f) c.1 c.2.1=_;rw[ih];rfl
theorem Po(H:List (Nat×Int×Int))(f:Nat->Int):pY H f=H.reverse.foldl (λf c=>setAt f c.1 c.2.2) f:=by
 rw[List.foldl_reverse];induction H with
 |nil=>rfl
 |cons c H ih=>show setAt (pY H f) c.1 c.2.2=_;rw[ih];rfl
theorem aO.caps{w:World}{X:SX}{lo hi:Nat->Int}{A:Option Addr}{oc:Nat}{H:List (Nat×Int×Int)}(h:aO w X lo hi A oc H):H.length<=oc/\oc<=maxLen:=by
 rcases h.old.2 with⟨h1,h2⟩|⟨g,cap,cur,h1,_,_,h3,h4,_⟩
 .simp only[Value.slice.injEq]at h1
  rw[h2,h1.2.2];exact⟨bJ _,aU _⟩
 .simp only[Value.slice.injEq]at h1
  rw[h1.2.2];exact⟨h3,h4⟩
theorem aO.aed{w:World}{X:SX}{lo hi:Nat->Int}{A:Option Addr}{oc:Nat}{H H2:List (Nat×Int×Int)}(h:aO w X lo hi A oc (H++H2)):At w 3 (if oc=H.length then A else A.map (·.add (H.length*3))) H2.length (oc - H.length) (H2.flatMap pV):=by
 have hfl:(H.flatMap pV).length=H.length*3:=gW pV 3 (λ_=>rfl) H;have hl:(H++H2).length=H.length+H2.length:=mU;have hcap:=h.caps;rcases su h.old with⟨h0,hA,hc⟩|⟨g,hA,_,ho⟩
 .have e1:H=[]:=wZ (by omega)
  have e2:H2=[]:=wZ (by omega);subst e1 e2 hA hc;exact gD _ _
 .subst hA
  refine⟨⟨gW pV 3 (λ_=>rfl) H2,YS _,λhpos=>?_⟩,λe=>?_,by omega,by have:=hcap.2;omega⟩
  .rw[if_neg (by omega)]
   refine⟨⟨g,H.length*3,none⟩,by show some (Addr.add ⟨g,0,none⟩ (H.length*3))=_;rw[Addr.add_lit,pF],λj u hj=>?_⟩;rw[Addr.add_lit];refine ho.cell ?_;rw[Bt,lW (by omega),hfl,Nat.add_sub_cancel_left];exact hj
  .split at e<;>simp at e
theorem bZ.turn{S:Nat->Prop}{w w':World}{B rb k:Nat}{vs:List Value}{L:List (List Int)}(h:bZ w B rb vs L k)(ht:gB S w w'):bZ w' B rb vs L k:=
 ⟨h.own.turn ht,h.len,λi v l hk hv hl=>qZ (h.row i v l hk hv hl) ht,h.sep,λv hv b hb=>⟨(h.low v hv b hb).1,uH (h.low v hv b hb).2.1 ht.size,(h.low v hv b hb).2.2⟩⟩
theorem aO.turn{S:Nat->Prop}{w w':World}{X:SX}{lo hi:Nat->Int}{A:Option Addr}{oc:Nat}{H:List (Nat×Int×Int)}(h:aO w X lo hi A oc H)(ht:gB S w w'):aO w' X lo hi A oc H:=
 ⟨h.vB.turn ht,h.wW.turn ht,h.IL,h.IQ,h.box.turn ht,h.bnd.turn ht,qZ h.old ht,h.low⟩
theorem Pp{w:World}{B oc:Nat}{A:Option Addr}{H H2:List (Nat×Int×Int)}(h:w.ownsRow B 222 3 (.slice A (H++H2).length oc) (H++H2).length ((H++H2).flatMap pV)):w.ownsRow B 222 3 (.slice A H.length oc) H.length (H.flatMap pV):=by
 have hfl:(H.flatMap pV).length=H.length*3:=gW pV 3 (λ_=>rfl) H;have hl:(H++H2).length=H.length+H2.length:=mU;refine⟨hfl,?_⟩;rcases h.2 with⟨h1,h2⟩|⟨g,cap,cur,h1,h2,h3,h4,h5,h6,h7⟩
 .simp only[Value.slice.injEq]at h1
  have e:H.length=0:=by omega
  exact .inl ⟨by rw[h1.1,h1.2.2,e],e⟩
 .simp only[Value.slice.injEq]at h1
  obtain⟨rfl,_,rfl⟩:=h1;refine .inr ⟨g,oc,cur,rfl,h2,h3,by omega,h5,h6,?_⟩;have h8:=congrArg (List.take (H.length*3)) h7;rw[List.take_take,Nat.min_eq_left (by omega),Bt]at h8;rw[h8,<-hfl,List.take_left]
theorem ahs(w:World):(zeroValue 222).run prog w= .ok (.agg #[.int .i64 0,.int .i64 0,.int .i64 0]) w:=by kernel_rfl
attribute [local go_sem] ahs Oper.semAt_some
theorem Y3(X:SX)(lo hi:Nat->Int)(A:Option Addr)(oc:Nat)(H H2:List (Nat×Int×Int))(w:World)(hS:aO w X lo hi A oc (H++H2))(hin:∀c∈H2,c.1<X.n):
 Calls prog 103 #[.pointer (some ⟨X.sb,0,none⟩),.int .i64 H.length] w (λe w'=>e= .returned (.tuple #[])/\aO w' X (pX H2 lo) (pY H2 hi) A oc H/\qE X w w'):=by
 have HS:=ah hS;clear hS;have uE:=ah hin;clear hin;have hl:(H++H2).length=H.length+H2.length:=mU;refine(fq (n:=4)).1 ?_;refine callsIn_of_wp_marks func103 rfl trivial ?_ rfl;simp only[ntmps103,uF,gV,kM,Nat.reduceAdd,Nat.reduceSub,wz,wB,wE,wC,pE,wD]
 gi_upto_region 1 with(fail)
 generalize hW0:World.alloc _ _=W0;obtain⟨HB,hh0⟩:=bx1 hW0;have zD:Hid (Own W0 122 w.heap.size [.pointer (some ⟨X.sb,0,none⟩)]):=⟨[],by rw[bU];exact hh0⟩;have zR:=ah (HS.out.below HB.out);have b0:=zD.out.cell (i:=0) rfl;have s3:=zR.out.box.cell (i:=3) rfl;clear hW0 hh0;have hcap:=zR.out.caps;have h4:oc<=9223372036854775807:=by have:=hcap.2;unfold maxLen at this;omega
 have h5:=hcap.1;rw[hl]at h5 s3;obtain⟨A2,c2,hrun,hAt⟩:∃(A2:Option Addr)(c2:Nat),(∀w:World,(Instr.slice 173 (.slice A (H.length+H2.length) oc) (some (.int .i64 (H.length:Int))) none none).run prog w= .ok (.slice A2 H2.length c2) w)/\∀(V:World)(lo hi:Nat->Int),aO V X lo hi A oc (H++H2)->At V 3 A2 H2.length c2 (H2.flatMap pV):=by
  refine⟨if oc=H.length then A else A.map (·.add (H.length*3)),oc - H.length,λw=>?_,?_⟩
  .rw[run_slice_l w 173 A (H.length+H2.length) oc (by kernel_rfl) .i64 H.length (by omega) (by omega)]
   have hs:(sizeOf (prog.elem 173)).run prog w= .ok 3 w:=by kernel_rfl
   rw[hs];simp[sliced]
  .exactλV lo hi h=>h.aed
 have hcc:=ah hAt;clear hAt;gi_wp2_with (refine⟨trivial,?_⟩;gi_at_call 142;refine(fq.2 (JW _ _ _ _)).mono ?_;rintro e z ⟨rfl,rfl⟩);generalize hW2:World.alloc _ _=W2;obtain⟨hb2,qd⟩:=bx1' hW2;have Jo:Hid (Own W2 173 W0.heap.size [.slice A2 H2.length c2]):=⟨[],by rw[bU];exact qd⟩;have Y4:=ah (zD.out.below hb2);have HS2:=ah (zR.out.below hb2);have Bo:Hid (qE X w W2):=(qE.of_below HB.out).trans (qE.of_below hb2);clear hW2 hb2 qd b0 s3;have alp:Hid (∀(pre:List (Nat×Nat×Int×Int))(V:World),aO V X ((pre.map Prod.snd).foldl (λf c=>setAt f c.1 c.2.1) lo) ((pre.map Prod.snd).foldl (λf c=>setAt f c.1 c.2.2) hi) A oc (H++H2)/\qE X W2 V->V.cell? ⟨W0.heap.size,0,none⟩=some (.slice A2 H2.length c2)/\At V 3 A2 H2.length c2 (H2.flatMap pV)):=
  λpre V h=>⟨(Jo.out.FR h.2 (by unfold DT;decide)).cell rfl,hcc.out V _ _ h.1⟩
 refine nN (α:=Nat×(Nat×Int×Int)) rfl (by omega) (gf:=164) rfl trivial (enters_of func164 (by kernel_rfl) rfl)
  (λW1 _ _=>Hy (Bw:=W0.heap.size) (A:=A2) (c:=c2) (P:=H2) _ (by omega)
   (λ_ pre V=>aO V X ((pre.map Prod.snd).foldl (λf c=>setAt f c.1 c.2.1) lo) ((pre.map Prod.snd).foldl (λf c=>setAt f c.1 c.2.2) hi) A oc (H++H2)/\qE X W2 V) W1
   (λ_ pre V h=>alp.out pre V h)) (λ_ _=>rfl)
  (λ_ _ _=>True) (λ_ _ _ _ h ht=>⟨h.1.turn ht,LX h.2 ht (λk hk=>by omega)⟩) (λ_ _ _ _ h _=>h) (λ_ _ _ _ _ h _=>h) (λ_ _ _ _ _ h _=>h) (λ_ _ _ _ _ _ _ h _=>h)
  (λ_ _ _ _ _ _ h=>h.elim) (λ_ _ _ _ _ _ h=>h.elim) (λ_ _ _ _ _ _ h=>h.elim)
  (λx=>[.cells (pV x.2).toArray 222]) (λ_ V hV _=>⟨HS2.out.below hV,qE.of_below hV⟩) ?a1 ?assign ?body (λ_ _ _ _ _ _ _ _ h=>h.elim) ?done (λ_ _ _ _ _ _ h=>h.elim)
 case assign=>
  intro l b x W k K hk hK;simp only[pV];gi_wp2;try rw[hk]
  exact hK
 case body=>
  rintro l b0 pre ⟨i,a,l1,u1⟩ W k hb ⟨hSx,hMx⟩ ⟨hpm,hxi,hx⟩ hk hbx;have hq:=hbx 0 _ rfl;rw[kP]at hq;simp only at hx hq;have ha:=uE.out _ (cK hx);simp only at ha;have q0:W.cell? ⟨k,0,none⟩=some (.int .i64 a):=(aK W _ 0 _ _ _ hq).trans rfl;have q1:W.cell? ⟨k,1,none⟩=some (.int .i64 l1):=(aK W _ 1 _ _ _ hq).trans rfl;have q2:W.cell? ⟨k,2,none⟩=some (.int .i64 u1):=(aK W _ 2 _ _ _ hq).trans rfl;have b1:W.cell? ⟨w.heap.size,0,none⟩=some (.pointer (some ⟨X.sb,0,none⟩)):=(Y4.out.FR hMx (by unfold DT;decide)).cell rfl;have s0:W.cell? ⟨X.sb,0,none⟩=some (.slice (some ⟨X.bb,0,none⟩) X.n X.n):=hSx.box.cell rfl;have c0:=hSx.bnd.cell (dO _ _ ha (j:=0) (by omega));have c1:=hSx.bnd.cell (dO _ _ ha (j:=1) (by omega));rw[kP]at c0;have f0:=hSx.bnd.frozen (a*2);have f1:=hSx.bnd.frozen (a*2+1);have an:(a:Int)<(X.n:Int):=by omega
  have FC:=ah hSx;clear hSx;have qB:=ah hMx;clear hMx;clear hx hq hbx hpm hxi;dsimp only
  gi_upto_region 3 with(fail)
  refine aR 8 (jV.round _ _) ?_;simp only[gF,bW,gI,b_];repeat(go_big_quiet_step (fail))
  refine aY ?_;rintro _ ⟨mq,rfl⟩;gi_wp2;have hset:=FC.out.YR mq ha l1 u1;have hu:aG (λq=>q=X.bb) W (((W.drewN mq).setCell ⟨X.bb,a*2,none⟩ (.int .i64 l1)).setCell ⟨X.bb,a*2+1,none⟩ (.int .i64 u1)):=
   (((aG.refl (λq=>q=X.bb) W).drewN mq).setCell (p:=⟨X.bb,a*2,none⟩) (.inl rfl) _).setCell (p:=⟨X.bb,a*2+1,none⟩) (.inl rfl) _
  exact⟨oZ _ hu (λq o (e:q=X.bb) h=>FC.out.bnd.isCells (e▸h)),hset.1,qB.out.trans hset.2⟩
 case done=>
  rintro D b0 xs W hD hb hS ⟨hS3,hM3⟩ hK;rw[hS,<-Pn,<-Po]at hS3;have FC:=ah hS3;clear hS3;have qB:=ah hM3;clear hM3;have HK:=ah hK;clear hK;have b1:W.cell? ⟨w.heap.size,0,none⟩=some (.pointer (some ⟨X.sb,0,none⟩)):=(Y4.out.FR qB.out (by unfold DT;decide)).cell rfl;have s3:W.cell? ⟨X.sb,3,none⟩=some (.slice A (H.length+H2.length) oc):=by
   have h:=FC.out.box.cell (i:=3) rfl;rw[hl]at h;exact h
  have f3:=FC.out.box.frozen 3;have anH:∀w:World,(Instr.slice 173 (.slice A (H.length+H2.length) oc) none (some (.int .i64 (H.length:Int))) none).run prog w= .ok (.slice A H.length oc) w:=λw=>by
   rw[run_slice_h w 173 A (H.length+H2.length) oc (by kernel_rfl) .i64 H.length (by omega) (by omega)];have hs:(sizeOf (prog.elem 173)).run prog w= .ok 3 w:=by kernel_rfl
   rw[hs];simp only[sliced,Result.andThen_ok,sM,Nat.zero_mul,Nat.sub_zero];rcases su zR.out.old with⟨_,hA,_⟩|⟨g,hA,_⟩
   .subst hA;simp
   .subst hA
    have e:(Addr.add ⟨g,0,none⟩ 0)=⟨g,0,none⟩:=by rw[Addr.add_lit]
    simp[e]
  clear hrun
  gi_upto_region 4 with(fail)
  refine aR 7 (jV.wide _) ?_;simp only[gF,bW,gI,b_];repeat(go_big_quiet_step (fail))
  refine aY ?_;rintro _ ⟨mq,rfl⟩;gi_wp2;have hsD:X.sb≠D:=by have h1:=HS2.out.box.lt;omega
  have hu:aG (λq=>q=X.sb) W ((W.drewN mq).setCell ⟨X.sb,3,none⟩ (.slice A H.length oc)):=((aG.refl (λq=>q=X.sb) W).drewN mq).setCell (p:=⟨X.sb,3,none⟩) (.inl rfl) _;have hud:aG (λ_=>False) W (W.drewN mq):=(aG.refl _ _).drewN mq;have hmv:qE X W ((W.drewN mq).setCell ⟨X.sb,3,none⟩ (.slice A H.length oc)):=qE.ME hu (λq hq _=>by subst hq;exact FC.out.box.sset FC.out.low.1 (.inl rfl) (.inl rfl));have hSF:aO ((W.drewN mq).setCell ⟨X.sb,3,none⟩ (.slice A H.length oc)) X (pX H2 lo) (pY H2 hi) A oc H:=
   ⟨FC.out.vB.FR hmv,FC.out.wW.FR hmv,FC.out.IL,FC.out.IQ,(FC.out.box.keep hud (λh=>h)).set (i:=3) (by simp) _,FC.out.bnd.keep hu (λe=>FC.out.bnd.ne FC.out.box (by decide) e),bV (Pp FC.out.old) hu (λb hb e=>by
    subst e;obtain⟨tl,IU⟩:=FC.out.box;exact cO (Pp FC.out.old) IU (by decide) hb),FC.out.low⟩
  have hK2:=hu.keep HK.out (λe=>hsD e.symm);refine⟨by simp,.inl ⟨_,_,rfl,run_takeDeferred hK2,?_⟩⟩;have ht:=gB.putObj (S:=λk=>k=D) (.deferred none) rfl hK2 rfl;refine⟨_,results_none rfl _ _ _,rfl,hSF.turn ht,?_⟩;exact LX (Bo.out.trans (qB.out.trans hmv)) ht (λq hq=>by have h1:=Bo.out.size;omega)
end
section
open Go.RowKit Go.Shelf Tryz
theorem YieldAt.depth{F:Fence}{m m':Nat}{P:Program}{l:Nat}{args:Array Value}{W:World}{R:Ending->World->Prop}(hF:F.depth=none)(h:YieldAt F m P l args W R):YieldAt F m' P l args W R:=by
 obtain⟨fn,tmps,assign,body,h1,h2,h3⟩:=h;exact⟨fn,tmps,assign,body,h1,h2,λc cs _=>h3 c cs (λd hd=>by rw[hF]at hd;cases hd)⟩
def Qo(X:SX)(b:Nat×Nat)(V V':World):Prop:=aG (λk=>(b.1<=k/\k<b.2)\/SSet X V k) V V'
theorem Qo.MI{X:SX}{b:Nat×Nat}{V V':World}(h:qE X V V'):Qo X b V V':=h.mono (λ_ _ h=>.inr h)
theorem Qo.of_below{X:SX}{b:Nat×Nat}{V V':World}(h:Below V.heap.size V V'):Qo X b V V':=Qo.MI (qE.of_below h)
def StX(X:SX)(Bs k:Nat):Prop:=k=X.rb\/k=X.ab\/k=Bs\/∃v,(v∈X.vb\/v∈X.va)/\v.ownBlock=some k
def ZT(X:SX)(Bs:Nat)(b:Nat×Nat)(V V':World):Prop:=V.heap.size<=V'.heap.size/\∀(k:Nat)(cs:Array Value)(t:TypeId)(fz:Nat×Nat),V.heap[k]?=some (.cells cs t fz)->(StX X Bs k\/(b.1<=k/\k<b.2)\/DT t)->V'.heap[k]?=some (.cells cs t fz)
theorem Own.kp{X:SX}{Bs:Nat}{b':Nat×Nat}{w w':World}{t:TypeId}{b:Nat}{cs:List Value}(h:Own w t b cs)(hk:ZT X Bs b' w w')(hs:StX X Bs b\/(b'.1<=b/\b<b'.2)\/DT t):Own w' t b cs:=by
 obtain⟨tl,h⟩:=h;exact⟨tl,hk.2 _ _ _ _ h hs⟩
theorem bZ.typed{w:World}{B rb:Nat}{vs:List Value}{L:List (List Int)}(h:bZ w B rb vs L 0):∀v∈vs,∀b,v.ownBlock=some b->∃cs fz,w.heap[b]?=some (.cells cs 3 fz):=λv hv b hb=>by
 obtain⟨i,hi⟩:=jW.1 hv;have hl:i<L.length:=by rw[<-h.len];exact(bB.1 hi).1
 exact iO (h.row i v _ (aU _) hi (aS hl)) b hb
theorem Own.same{w w':World}{t:TypeId}{b:Nat}{cs:List Value}(h:Own w t b cs)(e:w'.heap[b]?=w.heap[b]?):Own w' t b cs:=by
 obtain⟨tl,h⟩:=h;exact⟨tl,e.trans h⟩
theorem Cy{w w':World}{B:Nat}{e:TypeId}{size n:Nat}{v:Value}{xs:List Value}(h:w.ownsRow B e size v n xs)(hs:∀k,v.ownBlock=some k->w'.heap[k]?=w.heap[k]?):w'.ownsRow B e size v n xs:=by
 refine⟨h.1,?_⟩;rcases h.2 with h0|⟨g,cap,cur,rfl,hB,hg,r⟩
 .exact .inl h0
 .exact .inr ⟨g,cap,cur,rfl,hB,(hs g rfl).trans hg,r⟩
theorem bZ.same{w w':World}{B rb k:Nat}{vs:List Value}{L:List (List Int)}(h:bZ w B rb vs L k)(hz:w.heap.size<=w'.heap.size)(hr:w'.heap[rb]?=w.heap[rb]?)(hs:∀v∈vs,∀b,v.ownBlock=some b->w'.heap[b]?=w.heap[b]?):bZ w' B rb vs L k:=
 ⟨h.own.same hr,h.len,λi v l hk hv hl=>Cy (h.row i v l hk hv hl) (hs v (cK hv)),h.sep,λv hv b hb=>⟨(h.low v hv b hb).1,uH (h.low v hv b hb).2.1 hz,(h.low v hv b hb).2.2⟩⟩
theorem aO.kp{V V':World}{X:SX}{Bs:Nat}{b:Nat×Nat}{lo hi:Nat->Int}{A:Option Addr}{oc:Nat}{H:List (Nat×Int×Int)}(h:aO V X lo hi A oc H)(hk:ZT X Bs b V V'):aO V' X lo hi A oc H:=by
 have rw':∀{w:World}{B rb:Nat}{vs:List Value}{L:List (List Int)},bZ V B rb vs L 0->(∀v∈vs,v∈X.vb\/v∈X.va)->(rb=X.rb\/rb=X.ab)->bZ V' B rb vs L 0:=λh1 h2 h3=>by
  obtain⟨tl,ho⟩:=h1.own;refine h1.same hk.1 ((hk.2 _ _ _ _ ho (.inl ?_)).trans ho.symm) (λv hv q hq=>?_)
  .rcases h3 with e|e
   .exact .inl e
   .exact .inr (.inl e)
  .obtain⟨cs,fz,h4⟩:=h1.typed v hv q hq
   exact(hk.2 _ _ _ _ h4 (.inl (.inr (.inr (.inr ⟨v,h2 v hv,hq⟩))))).trans h4.symm
 refine⟨rw' (w:=V) h.vB (λv hv=>.inl hv) (.inl rfl),rw' (w:=V) h.wW (λv hv=>.inr hv) (.inr rfl),
  h.IL,h.IQ,h.box.kp hk (.inr (.inr (.inl rfl))),h.bnd.kp hk (.inr (.inr (.inr (.inl rfl)))),Cy h.old (λq hq=>?_),h.low⟩
 obtain⟨cs,fz,h1⟩:=iO h.old q hq;exact(hk.2 _ _ _ _ h1 (.inr (.inr (.inr (.inr rfl))))).trans h1.symm
structure IX where
 nb:Nat
 yb:Nat
 xb:Nat
 vb:Nat
structure DV(V:World)(X:SX)(Bs:Nat)(b:Nat×Nat)(l:Nat)(I:IX):Prop where
 win:∀k,(k=I.nb\/k=I.yb\/k=I.xb\/k=I.vb)->b.1<=k/\k<b.2
 VN:Own V 181 I.yb [.func (.yield l) #[] #[]]
 u6:Own V 22 I.xb [.slice (some ⟨I.nb,0,none⟩) X.n X.n]
 VO:Own V 92 I.vb [.func (.func 101) #[] #[.pointer (some ⟨I.xb,0,none⟩),.pointer (some ⟨Bs,0,none⟩),.pointer (some ⟨I.yb,0,none⟩),.pointer (some ⟨I.vb,0,none⟩)]]
 J_:Own V 122 Bs [.pointer (some ⟨X.sb,0,none⟩)]
 num:∃N:List Int,N.length=X.n/\Own V 3 I.nb (aZ N)
 sep:∀v,v∈X.vb\/v∈X.va->∀q,v.ownBlock=some q->q<b.1
 sz:b.2<=V.heap.size
theorem DV.below{V V':World}{X:SX}{Bs l:Nat}{b:Nat×Nat}{I:IX}(h:DV V X Bs b l I)(hb:Below V.heap.size V V'):DV V' X Bs b l I:=by
 obtain⟨N,h1,h2⟩:=h.num;exact⟨h.win,h.VN.below hb,h.u6.below hb,h.VO.below hb,h.J_.below hb,⟨N,h1,h2.below hb⟩,h.sep,bI h.sz hb.size⟩
theorem DV.FR{V V':World}{X:SX}{Bs l:Nat}{b:Nat×Nat}{I:IX}(h:DV V X Bs b l I)(hm:qE X V V'):DV V' X Bs b l I:=by
 obtain⟨N,h1,h2⟩:=h.num;have nt:∀{t:TypeId},t≠175->t≠177->t≠222->¬DT t:=λa b c h=>by
  rcases h with h|h|h
  .exact a h
  .exact b h
  .exact c h
 exact⟨h.win,h.VN.FR hm (nt (by decide) (by decide) (by decide)),h.u6.FR hm (nt (by decide) (by decide) (by decide)),h.VO.FR hm (nt (by decide) (by decide) (by decide)),h.J_.FR hm (nt (by decide) (by decide) (by decide)),⟨N,h1,h2.FR hm (nt (by decide) (by decide) (by decide))⟩,h.sep,bI h.sz hm.size⟩
theorem DV.kp{V V':World}{X:SX}{Bs l:Nat}{b:Nat×Nat}{I:IX}(h:DV V X Bs b l I)(hk:ZT X Bs b V V'):DV V' X Bs b l I:=by
 obtain⟨N,h1,h2⟩:=h.num;exact⟨h.win,h.VN.kp hk (.inr (.inl (h.win _ (.inr (.inl rfl))))),h.u6.kp hk (.inr (.inl (h.win _ (.inr (.inr (.inl rfl)))))),h.VO.kp hk (.inr (.inl (h.win _ (.inr (.inr (.inr rfl)))))),h.J_.kp hk (.inl (.inr (.inr (.inl rfl)))),⟨N,h1,h2.kp hk (.inr (.inl (h.win _ (.inl rfl))))⟩,h.sep,bI h.sz hk.1⟩
end
open Go.RowKit Go.Shelf Tryz
attribute [local go_sem] Oper.semAt_some
def YOk(n:Nat)(b:Nat×Nat)(nb:Nat)(pre:List (List Int))(x:List Int)(V:World):Prop:=pre.length<400/\x.length=n/\Own V 3 nb (aZ x)/\b.2<=V.heap.size
def alr(n:Nat)(b:Nat×Nat)(nb:Nat)(pre:List (List Int))(x:List Int)(V:World):Prop:=pre.length=400/\x.length=n/\Own V 3 nb (aZ x)/\b.2<=V.heap.size
structure FU(X:SX)(Bs:Nat)(b:Nat×Nat)(l nb:Nat)(J JL:List (List Int)->World->Prop):Prop where
 go:∀pre x V,J pre V->YOk X.n b nb pre x V->YieldAt Fence.wide 0 prog l #[.slice (some ⟨nb,0,none⟩) X.n X.n] V λe V'=>e= .returned (.bool true)/\J (pre++[x]) V'/\ZT X Bs b V V'
 stop:∀pre x V,J pre V->alr X.n b nb pre x V->YieldAt Fence.wide 0 prog l #[.slice (some ⟨nb,0,none⟩) X.n X.n] V λe V'=>e= .returned (.bool false)/\JL (pre++[x]) V'/\ZT X Bs b V V'
 mv:∀pre V V',J pre V->Qo X b V V'->J pre V'
 mvL:∀pre V V',JL pre V->Qo X b V V'->JL pre V'
def iM(X:SX)(V V':World):Prop:=∀(k:Nat)(cs:Array Value)(fz:Nat×Nat),V.heap[k]?=some (.cells cs 177 fz)->k≠X.bb->k≠X.sb->V'.heap[k]?=some (.cells cs 177 fz)
theorem iM.refl(X:SX)(V:World):iM X V V:=λ_ _ _ h _ _=>h
theorem iM.trans{X:SX}{a b c:World}(h:iM X a b)(k:iM X b c):iM X a c:=λi cs fz h1 h2 h3=>k i cs fz (h i cs fz h1 h2 h3) h2 h3
theorem iM.FR{X:SX}{V V':World}(h:qE X V V'):iM X V V':=λi cs fz h1 h2 h3=>h.keep h1 (λ⟨_,cs',t',fz',h4,_,h5⟩=>by
 rw[h1]at h4;cases h4
 rcases h5 with h5|h5|h5
 .exact h3 h5
 .exact h2 h5
 .revert h5;decide)
theorem iM.below{X:SX}{V V':World}(h:Below V.heap.size V V'):iM X V V':=iM.FR (qE.of_below h)
theorem iM.kp{X:SX}{Bs:Nat}{b:Nat×Nat}{V V':World}(h:ZT X Bs b V V'):iM X V V':=λi cs fz h1 _ _=>h.2 i cs _ fz h1 (.inr (.inr (.inr (.inl rfl))))
theorem iM.int{X:SX}{S:Nat->Prop}{V V':World}(h:aG S V V')(hS:∀k,S k->∃cs fz,V.heap[k]?=some (.cells cs 3 fz)):iM X V V':=λi cs fz h1 _ _=>h.keep h1 (λhs=>by
 obtain⟨cs',fz',h2⟩:=hS i hs;rw[h1]at h2;injection h2 with h2
 injection h2 with _ h2 _
 revert h2;decide)
def VP(X:SX)(P:List (Nat×Nat))(Bs:Nat)(b:Nat×Nat)(l:Nat)(I:IX)(lo hi:Nat->Int)(H:List (Nat×Int×Int))(J JL:List (List Int)->World->Prop)(pre:List (List Int))(V:World)(e:Ending)(V':World):Prop:=
 ∃(more:Bool)(Y:List (List Int))(A:Option Addr)(oc:Nat),e= .returned (.bool more)/\kQ X.n lo hi P Y/\V.heap.size<=V'.heap.size/\iM X V V'/\DV V' X Bs b l I/\aO V' X lo hi A oc H/\
  (more=true->(pre++Y).length<=400/\J (pre++Y) V')/\(more=false->400<(pre++Y).length/\∃Y1,JL (pre++Y1) V')
structure WR(V:World)(X:SX)(Bs:Nat)(b:Nat×Nat)(l:Nat)(I:IX)(lo hi:Nat->Int)(A:Option Addr)(oc:Nat)(H:List (Nat×Int×Int))(J:List (List Int)->World->Prop)(pre:List (List Int)):Prop where
 s:aO V X lo hi A oc H
 it:DV V X Bs b l I
 j:J pre V
theorem WR.below{V V':World}{X:SX}{Bs l nb:Nat}{b:Nat×Nat}{I:IX}{lo hi:Nat->Int}{A:Option Addr}{oc:Nat}{H:List (Nat×Int×Int)}{J JL:List (List Int)->World->Prop}{pre:List (List Int)}(h:WR V X Bs b l I lo hi A oc H J pre)(hY:FU X Bs b l nb J JL)(hb:Below V.heap.size V V'):WR V' X Bs b l I lo hi A oc H J pre:=
 ⟨h.s.below hb,h.it.below hb,hY.mv _ _ _ h.j (Qo.of_below hb)⟩
def Pq(lo:Nat->Int)(n j:Nat)(N:List Int):Prop:=N.length=n/\∀i,i<j->N.getD i 0=lo i
theorem Pq.step{lo:Nat->Int}{n j:Nat}{N:List Int}(h:Pq lo n j N)(hj:j<n):Pq lo n (j+1) (N.set j (lo j)):=by
 refine⟨by rw[List.length_set];exact h.1,λi hi=>?_⟩;rw[F3,j_];by_cases e:j=i
 .subst e
  rw[if_pos rfl,if_pos (by rw[h.1];exact hj)];rfl
 .rw[if_neg e,<-F3]
  exact h.2 i (by omega)
theorem ints_set(N:List Int)(j:Nat)(v:Int):(aZ N).set j (.int .i64 v)=aZ (N.set j v):=by simp[aZ,List.map_set]
theorem WR.num{V V':World}{X:SX}{Bs l:Nat}{b:Nat×Nat}{I:IX}{lo hi:Nat->Int}{A:Option Addr}{oc:Nat}{H:List (Nat×Int×Int)}{J JL:List (List Int)->World->Prop}{pre:List (List Int)}(h:WR V X Bs b l I lo hi A oc H J pre)(hY:FU X Bs b l I.nb J JL)(hu:aG (λk=>k=I.nb) V V'){N:List Int}(hN:N.length=X.n)(ho:Own V' 3 I.nb (aZ N)):WR V' X Bs b l I lo hi A oc H J pre/\iM X V V':=by
 obtain⟨N0,hN0,ho0⟩:=h.it.num;have hT:∀k,k=I.nb->∃cs fz,V.heap[k]?=some (.cells cs 3 fz):=λk e=>by
  obtain⟨tl,ho0⟩:=ho0;exact⟨_,_,by rw[e];exact ho0⟩
 have hne:∀{t:TypeId}{q:Nat}{cs:List Value},Own V t q cs->t≠3->q≠I.nb:=λh1 h2 e=>h1.ne ho0 h2 e;refine⟨⟨h.s.RS hu hT (λv hv q hq e=>?_),⟨h.it.win,h.it.VN.keep hu (hne h.it.VN (by decide)),h.it.u6.keep hu (hne h.it.u6 (by decide)),h.it.VO.keep hu (hne h.it.VO (by decide)),h.it.J_.keep hu (hne h.it.J_ (by decide)),⟨N,hN,ho⟩,h.it.sep,bI h.it.sz hu.size⟩,hY.mv _ _ _ h.j (hu.mono (λk _ e=>.inl (by rw[e];exact h.it.win _ (.inl rfl))))⟩,iM.int hu hT⟩;have h1:=h.it.sep v hv q hq;have h2:=h.it.win _ (.inl rfl);omega
theorem iM.own{X:SX}{V V':World}{k:Nat}{cs:List Value}(h:iM X V V')(ho:Own V 177 k cs)(h1:k≠X.bb)(h2:k≠X.sb):Own V' 177 k cs:=by
 obtain⟨tl,ho⟩:=ho;exact⟨tl,h k _ _ ho h1 h2⟩
theorem VQ{X:SX}{P:List (Nat×Nat)}{Bs l:Nat}{b:Nat×Nat}{I:IX}{J JL:List (List Int)->World->Prop}(Y5:Hid (FU X Bs b l I.nb J JL))(HLB:Hid (X.Lb=oz P X.n P.length))(HLA:Hid (X.La=oC P X.n P.length))(hn:X.n<=400)(hP:P.length<=4000):
 ∀(m fr:Nat),fr+m=X.n->∀(lo hi:Nat->Int)(A:Option Addr)(oc:Nat)(H:List (Nat×Int×Int))(pre:List (List Int))(V:World),aO V X lo hi A oc H->Qc X.n lo hi P->(∀i,i<fr->lo i=hi i)->(∀i,i<X.n-> -1000000<=lo i/\hi i<=1000000)->DV V X Bs b l I->J pre V->pre.length<=400->H.length<=fr*(2*X.n+1)->
  Calls prog 101 #[.int .i64 fr,.pointer (some ⟨I.xb,0,none⟩),.pointer (some ⟨Bs,0,none⟩),.pointer (some ⟨I.yb,0,none⟩),.pointer (some ⟨I.vb,0,none⟩)] V (VP X P Bs b l I lo hi H J JL pre V):=by
 intro m;induction m using Nat.strongRecOn with
 |_ m ih=>
  intro fr hfm lo hi A oc H pre V hS hB hone hrg hIt hJ hpl hHl;have HIH:=ah ih;clear ih;have HV:Hid (WR V X Bs b l I lo hi A oc H J pre):=⟨hS,hIt,hJ⟩;clear hS hIt hJ;have HB:=ah hB;clear hB;have HO:=ah hone;clear hone;have Y6:=ah hrg;clear hrg;have CX:=ah hpl;clear hpl;have HHL:=ah hHl;clear hHl;have HFM:=ah hfm;clear hfm;have hfr:fr<=X.n:=by have:=HFM.out;omega
  refine(fq (n:=4)).1 ?_;refine callsIn_of_wp func101 rfl trivial ?_ rfl;simp only[ntmps101,uF,gV,kM,Nat.reduceAdd,Nat.reduceSub,wz,wB,wE,wC,pE,wD];gi_wp2
  gi_loopw [0] (λv wr=>∃k:Nat,fr<=k/\k<=X.n/\v= .int .i64 k/\Hid (∀i,i<k->lo i=hi i)/\Hid (V.heap.size<=wr.heap.size)/\Hid (iM X V wr)/\Hid (WR wr X Bs b l I lo hi A oc H J pre)) (λv _=>X.n - (intOf v).toNat)
  case atStart=>exact⟨fr,bJ _,hfr,rfl,HO,bJ _,iM.refl _ _,HV⟩
  case round=>
   obtain⟨k,hfk,hkn,rfl,Gf,zN,wO,wY⟩:=hrel;clear HV HO;have c1:wr.cell? ⟨I.xb,0,none⟩=some (.slice (some ⟨I.nb,0,none⟩) X.n X.n):=wY.out.it.u6.cell rfl;have c2:wr.cell? ⟨Bs,0,none⟩=some (.pointer (some ⟨X.sb,0,none⟩)):=wY.out.it.J_.cell rfl;have s0:wr.cell? ⟨X.sb,0,none⟩=some (.slice (some ⟨X.bb,0,none⟩) X.n X.n):=wY.out.s.box.cell rfl;by_cases hlt:k<X.n
   .have d0:=wY.out.s.bnd.cell (dO lo hi hlt (j:=0) (by omega))
    have d1:=wY.out.s.bnd.cell (dO lo hi hlt (j:=1) (by omega));rw[kP]at d0;have k1:(k:Int)<(X.n:Int):=by omega
    gi_upto_region 1 with(fail)
    by_cases he:lo k=hi k
    .have q1:(lo k==hi k)=true:=by simp[he]
     have HE:=ah he;clear he;refine aR 22 (jV.wide _) ?_;simp only[gF,bW,gI,b_];repeat(go_big_quiet_step (fail))
     refine aY ?_;rintro _ ⟨mq,rfl⟩;have Eh:=below_drewN wr mq;have I6:=ah (wO.out.trans (iM.below Eh));have sD:=ah (wY.out.below Y5.out Eh);have Ba:Hid (V.heap.size<=(wr.drewN mq).heap.size):=bI zN.out Eh.size;have als:Hid (∀i,i<k+1->lo i=hi i):=λi hi'=>by
      by_cases e:i=k
      .rw[e];exact HE.out
      .exact Gf.out i (by omega)
     clear Eh c1 c2 s0 d0 d1 wO wY zN Gf HE;gi_wp2
     go_roundw
     case rel=>exact⟨k+1,by omega,by omega,by go_num,als,Ba,I6,sD⟩
     case measure=>simp[intOf];omega
    .have q1:(lo k==hi k)=false:=by simp[he]
     clear he;refine aR 22 (jV.wide _) ?_;simp only[gF,bW,gI,b_];repeat(go_big_quiet_step (fail))
     refine aY ?_;rintro _ ⟨mq,rfl⟩;have Eh:=below_drewN wr mq;have I6:=ah (wO.out.trans (iM.below Eh));have sD:=ah (wY.out.below Y5.out Eh);have Ba:Hid (V.heap.size<=(wr.drewN mq).heap.size):=bI zN.out Eh.size;have HRK:=ah (Y6.out k hlt);clear Eh c1 c2 s0 d0 d1 wO wY zN;generalize wr.drewN mq=W1 at I6 sD Ba⊢;have c1:W1.cell? ⟨I.xb,0,none⟩=some (.slice (some ⟨I.nb,0,none⟩) X.n X.n):=sD.out.it.u6.cell rfl;have c2:W1.cell? ⟨Bs,0,none⟩=some (.pointer (some ⟨X.sb,0,none⟩)):=sD.out.it.J_.cell rfl;have s0:W1.cell? ⟨X.sb,0,none⟩=some (.slice (some ⟨X.bb,0,none⟩) X.n X.n):=sD.out.s.box.cell rfl;have d0:=sD.out.s.bnd.cell (dO lo hi hlt (j:=0) (by omega));have d1:=sD.out.s.bnd.cell (dO lo hi hlt (j:=1) (by omega));rw[kP]at d0;have q2:((k:Int)==(X.n:Int))=false:=by simp;omega
     gi_upto_region 11 with(fail)
     clear q2;generalize hWa:World.alloc _ _=Wa;obtain⟨hba,hxa⟩:=bx1' hWa;have zD:Hid (Own Wa 177 W1.heap.size [.int .i64 (lo k),.int .i64 (hi k)]):=⟨[],by rw[bU];exact hxa⟩;have ahv:=ah (I6.out.trans (iM.below hba));have ahw:=ah (sD.out.below Y5.out hba);have ahx:Hid (V.heap.size<=Wa.heap.size):=bI Ba.out hba.size;have JZ:Hid (W1.heap.size≠X.bb/\W1.heap.size≠X.sb):=⟨by have:=sD.out.s.bnd.lt;omega,by have:=sD.out.s.box.lt;omega⟩;have b0:=zD.out.cell (i:=0) rfl;obtain⟨xb,hxb⟩:∃xb,xb=W1.heap.size:=⟨_,rfl⟩;rw[<-hxb]at b0 zD JZ⊢;clear hWa hba hxa c1 c2 s0 d0 d1 I6 sD Ba hxb;have Oa:Hid (fr*(2*X.n+1)<=k*(2*X.n+1)/\(k+1)*(2*X.n+1)=k*(2*X.n+1)+(2*X.n+1)/\(k+1)*(2*X.n+1)<=400*801):=⟨Nat.mul_le_mul_right _ hfk,Nat.succ_mul _ _,Nat.mul_le_mul (by omega) (by omega)⟩;have r1: -1000000<=lo k:=HRK.out.1;have r2:hi k<=1000000:=HRK.out.2;gi_wp2
     gi_loopw [10] (λv wr=>∃(x:Int)(Y:List (List Int))(A2:Option Addr)(Y0:Nat),lo k<=x/\x<=hi k+1/\v= .int .i64 x/\Hid (qj X.n lo hi P k x Y)/\Hid ((pre++Y).length<=400)/\Hid (V.heap.size<=wr.heap.size)/\Hid (Own wr 177 xb [.int .i64 (lo k),.int .i64 (hi k)])/\Hid (iM X V wr)/\Hid (WR wr X Bs b l I lo hi A2 Y0 H J (pre++Y))) (λv _=>(hi k+1 - intOf v).toNat)
     case atStart=>exact⟨lo k,[],A,oc,iY _,by have:=HB.out.le k hlt;omega,rfl,qj.start _ _ _ _ hlt,by show _;rw[bU];exact CX.out,ahx,zD,ahv,by show _;rw[bU];exact ahw.out⟩
     case round=>
      clear b0 zD ahv ahw ahx;obtain⟨x,Y,A2,Y0,hx0,hx1,rfl,KP,HYL,zN,zD,wO,wY⟩:=hrel;have b1:=zD.out.cell (i:=1) rfl;by_cases hxh:x<=hi k
      .have c2:wr.cell? ⟨Bs,0,none⟩=some (.pointer (some ⟨X.sb,0,none⟩)):=wY.out.it.J_.cell rfl
       have s3:wr.cell? ⟨X.sb,3,none⟩=some (.slice A2 H.length Y0):=wY.out.s.box.cell rfl;have HCH:=ah (RV X P lo hi A2 Y0 H k x wr wY.out.s HB.out HLB.out HLA.out hlt hx0 hxh (by omega) hP (by have h1:=Oa.out;have h2:=HHL.out;omega));gi_wp2_with (refine⟨trivial,?_⟩;gi_at_call 102;refine(fq.2 HCH.out).mono ?_;rintro e W4 ⟨lo',hi',A4,oc4,H2,rfl,hs4,Y7,hl2,hbl,hbh,hin2,⟨later,hup,hud⟩,earlier,hwn,hwd⟩;refine Hid.out ?_);refine ah ?_;have HC:=ah (chosen HB.out hlt hup hud hwn hwd);have HV4:Hid (WR W4 X Bs b l I lo' hi' A4 oc4 (H++H2) J (pre++Y)):=⟨hs4,wY.out.it.FR Y7,Y5.out.mv _ _ _ wY.out.j (Qo.MI Y7)⟩;have ahy:=ah (wO.out.trans (iM.FR Y7));have ahz:=ah (zD.out.ahd Y7 JZ.out.2 JZ.out.1 (by decide));have ahB:Hid (V.heap.size<=W4.heap.size):=bI zN.out Y7.size;have ahC:=ah hin2;have ZK:Hid (pX H2 lo'=lo/\pY H2 hi'=hi):=⟨hbl,hbh⟩;have HL2:Hid ((H++H2).length<=(k+1)*(2*X.n+1)):=by show _<=_;rw[mU];have h1:=Oa.out;have h2:=HHL.out;omega
       have hrec:=HIH.out (X.n - (k+1)) (by have:=HFM.out;omega) (k+1) (by omega) lo' hi' A4 oc4 (H++H2) (pre++Y) W4 HV4.out.s HC.out.1 (λi hi0=>by
        have h1:=HC.out.2.2.2.2 i;have h2:=HC.out.1.le i (by omega);by_cases e:i=k
        .rw[e,HC.out.2.2.1,HC.out.2.2.2.1]
        .have h3:=Gf.out i (by omega);omega) (λi hi0=>by
        have h1:=HC.out.2.2.2.2 i;have h2:=Y6.out i hi0;omega) HV4.out.it HV4.out.j HYL.out HL2.out
       rw[show(((k+1:Nat)):Int)=(k:Int)+1 by omega]at hrec;have ahD:=ah hrec;have c4:W4.cell? ⟨I.vb,0,none⟩=some (.func (.func 101) #[] #[.pointer (some ⟨I.xb,0,none⟩),.pointer (some ⟨Bs,0,none⟩),.pointer (some ⟨I.yb,0,none⟩),.pointer (some ⟨I.vb,0,none⟩)]):=HV4.out.it.VO.cell rfl;clear hs4 Y7 hl2 hbl hbh hin2 hup hud hwn hwd hrec HCH c2 s3 b1 wY wO zD zN later earlier;have hk9:(k:Int)+1<=9223372036854775807:=by omega
       gi_wp2_with (refine⟨trivial,?_⟩;gi_at_call 101;refine(fq.2 ahD.out).mono ?_;rintro e W5 ⟨more,Z,A5,VK,rfl,hz,hsz5,Y8,aa_,hs5,hmt,wV⟩;refine Hid.out ?_);refine ah ?_;have WQ:=ah hs5;have aef:=ah aa_;have ahE:=ah (ahy.out.trans Y8);have ahF:=ah (Y8.own ahz.out JZ.out.1 JZ.out.2);have ahG:Hid (V.heap.size<=W5.heap.size):=bI ahB.out hsz5;have HMT:=ah hmt;have O7:=ah wV;have HZ:Hid (qj X.n lo hi P k (x+1) (Y++Z)):=KP.out.step hlt Gf.out hz HC.out.2.1;have c5:W5.cell? ⟨Bs,0,none⟩=some (.pointer (some ⟨X.sb,0,none⟩)):=aef.out.J_.cell rfl;have Z8:=ah (Y3 X lo' hi' A5 VK H H2 W5 WQ.out ahC.out);clear hz hsz5 Y8 aa_ hs5 hmt wV ahD c4 HV4 ahy ahz ahB KP ahC;gi_wp2_with (refine⟨trivial,?_⟩;gi_at_call 103;refine(fq.2 Z8.out).mono ?_;rintro e W6 ⟨rfl,hs6,hm6⟩;refine Hid.out ?_);refine ah ?_;rw[ZK.out.1,ZK.out.2]at hs6;have HS6:=ah hs6;have HM6:=ah hm6;have ahI:=ah (aef.out.FR hm6);have ahJ:=ah (ahE.out.trans (iM.FR hm6));have alu:=ah (ahF.out.ahd hm6 JZ.out.2 JZ.out.1 (by decide));have ahK:Hid (V.heap.size<=W6.heap.size):=bI ahG.out hm6.size;clear hs6 hm6 c5 Z8 aef ahE ahF ahG WQ;cases more with
       |true=>
        obtain⟨h7,h8⟩:=HMT.out rfl;rw[zX]at h7 h8;have TW:Hid (WR W6 X Bs b l I lo hi A5 VK H J (pre++(Y++Z))):=⟨HS6.out,ahI.out,Y5.out.mv _ _ _ h8 (Qo.MI HM6.out)⟩;have YZ:=ah h7;clear h7 h8 HMT O7 HM6;have hx9:x+1<=9223372036854775807:=by omega
        gi_wp2
        go_roundw
        case rel=>exact⟨x+1,Y++Z,A5,VK,by omega,by omega,by go_num,HZ,YZ,ahK,alu,ahJ,TW⟩
        case measure=>simp[intOf];omega
       |false=>
        obtain⟨h7,Y1,h8⟩:=O7.out rfl;obtain⟨YF,hYF⟩:=kQ.ex X.n lo hi P;have YZ:Hid (400<(pre++YF).length):=by
         have h9:=HZ.out.len hYF;show _<_;simp only[mU]at h7 h9⊢;omega
        have HJ6:Hid (∃Y1,JL (pre++Y1) W6):=⟨Y++Y1,by rw[<-zX];exact Y5.out.mvL _ _ _ h8 (Qo.MI HM6.out)⟩;have HYF:=ah hYF;clear h7 h8 HMT O7 hYF;gi_wp2;go_ret;exact⟨false,YF,A5,VK,rfl,HYF.out,ahK.out,ahJ.out,ahI.out,HS6.out,(λh=>by cases h),λ_=>⟨YZ.out,HJ6.out⟩⟩
      .obtain rfl:x=hi k+1:=by omega
       have HED:=ah (KP.out.done hlt);gi_wp2;go_ret;exact⟨true,Y,A2,Y0,rfl,HED.out,zN.out,wO.out,wY.out.it,wY.out.s,λ_=>⟨HYL.out,wY.out.j⟩,λh=>by cases h⟩
   .obtain rfl:k=X.n:=by omega
    gi_upto_region 1 with(fail)
    refine aR 22 (jV.wide _) ?_;simp only[gF,bW,gI,b_];repeat(go_big_quiet_step (fail))
    refine aY ?_;rintro _ ⟨mq,rfl⟩;have Eh:=below_drewN wr mq;have I6:=ah (wO.out.trans (iM.below Eh));have sD:=ah (wY.out.below Y5.out Eh);have Ba:Hid (V.heap.size<=(wr.drewN mq).heap.size):=bI zN.out Eh.size;clear Eh c1 c2 s0 wO wY zN;generalize wr.drewN mq=W1 at I6 sD Ba⊢;have c1:W1.cell? ⟨I.xb,0,none⟩=some (.slice (some ⟨I.nb,0,none⟩) X.n X.n):=sD.out.it.u6.cell rfl;have c2:W1.cell? ⟨Bs,0,none⟩=some (.pointer (some ⟨X.sb,0,none⟩)):=sD.out.it.J_.cell rfl;have s0:W1.cell? ⟨X.sb,0,none⟩=some (.slice (some ⟨X.bb,0,none⟩) X.n X.n):=sD.out.s.box.cell rfl;have HN0:Hid (∃N,Pq lo X.n 0 N/\Own W1 3 I.nb (aZ N)):=by
     obtain⟨N,h1,h2⟩:=sD.out.it.num;exact⟨N,⟨h1,λi hi'=>absurd hi' (Nat.not_lt_zero _)⟩,h2⟩
    gi_wp2
    gi_loopw [47] (λv wr=>∃(j:Nat)(N:List Int),j<=X.n/\v= .int .i64 j/\Hid (Pq lo X.n j N)/\Hid (Own wr 3 I.nb (aZ N))/\Hid (V.heap.size<=wr.heap.size)/\Hid (iM X V wr)/\Hid (WR wr X Bs b l I lo hi A oc H J pre)) (λv _=>X.n - (intOf v).toNat)
    case atStart=>
     obtain⟨N,h1,h2⟩:=HN0.out;exact⟨0,N,aU _,rfl,h1,h2,Ba,I6,sD⟩
    case round=>
     clear c1 c2 s0 HN0 Ba I6 sD;obtain⟨j,N,hj,rfl,Ih,ZU,zN,wO,wY⟩:=hrel;by_cases aeg:j<X.n
     .have d0:=wY.out.s.bnd.cell (dO lo hi aeg (j:=0) (by omega))
      have d1:=wY.out.s.bnd.cell (dO lo hi aeg (j:=1) (by omega));rw[kP]at d0;have j1:(j:Int)<(X.n:Int):=by omega
      gi_upto_region 7 with(fail)
      generalize hWa:World.alloc _ _=Wa;obtain⟨hba,hxa⟩:=bx1' hWa;have q0:Wa.cell? ⟨wr.heap.size,0,none⟩=some (.int .i64 (lo j)):=(aK Wa _ 0 _ _ _ hxa).trans rfl;have I6:=ah (wO.out.trans (iM.below hba));have sD:=ah (wY.out.below Y5.out hba);have aeh:=ah (ZU.out.below hba);have Ba:Hid (V.heap.size<=Wa.heap.size):=bI zN.out hba.size;have c1:Wa.cell? ⟨I.xb,0,none⟩=some (.slice (some ⟨I.nb,0,none⟩) X.n X.n):=sD.out.it.u6.cell rfl;have hNl:=Ih.out.1;obtain⟨y,hy⟩:∃y,N[j]?=some y:=⟨_,aS (by omega)⟩;have y0:=aeh.out.cell (ig hy);have f0:=aeh.out.frozen j;have E8:=ah hNl;clear hWa hba hxa d0 d1 wO wY ZU zN hy hNl;gi_wp2
      go_roundw
      case rel=>
       have hu:aG (λq=>q=I.nb) Wa (Wa.setCell ⟨I.nb,j,none⟩ (.int .i64 (lo j))):=(aG.refl (λq=>q=I.nb) Wa).setCell (p:=⟨I.nb,j,none⟩) (.inl rfl) _;have ho:=aeh.out.set (i:=j) (by have:=E8.out;simp[aZ];omega) (.int .i64 (lo j));rw[ints_set]at ho;have hv:=sD.out.num Y5.out hu (by rw[List.length_set];exact E8.out) ho;exact⟨j+1,N.set j (lo j),by omega,by go_num,Ih.out.step aeg,ho,bI Ba.out hu.size,I6.out.trans hv.2,hv.1⟩
      case measure=>simp[intOf];omega
     .obtain rfl:j=X.n:=by omega
      have KP:Hid (kQ X.n lo hi P [N]):=kQ.one HB.out Gf.out Ih.out.1 Ih.out.2;have c1:wr.cell? ⟨I.xb,0,none⟩=some (.slice (some ⟨I.nb,0,none⟩) X.n X.n):=wY.out.it.u6.cell rfl;have c3:wr.cell? ⟨I.yb,0,none⟩=some (.func (.yield l) #[] #[]):=wY.out.it.VN.cell rfl;by_cases hp:pre.length<400
      .obtain⟨fn,tmps,assign,body,hy,hR⟩:=YieldAt.depth (m':=3) rfl (Y5.out.go pre N wr wY.out.j ⟨hp,Ih.out.1,ZU.out,wY.out.it.sz⟩)
       have HP:=ah hp;gi_wp2;refine hR.mono ?_;rintro e W3 ⟨rfl,hJ3,hkp⟩;have HJ3:=ah hJ3;have HKP:=ah hkp;clear hJ3 hkp hy hR c1 c3;gi_wp2;go_ret;exact⟨true,[N],A,oc,rfl,KP.out,bI zN.out HKP.out.1,wO.out.trans (iM.kp HKP.out),wY.out.it.kp HKP.out,wY.out.s.kp HKP.out,λ_=>⟨by have:=HP.out;simp;omega,HJ3.out⟩,λh=>by cases h⟩
      .have hp2:pre.length=400:=by have:=CX.out;omega
       obtain⟨fn,tmps,assign,body,hy,hR⟩:=YieldAt.depth (m':=3) rfl (Y5.out.stop pre N wr wY.out.j ⟨hp2,Ih.out.1,ZU.out,wY.out.it.sz⟩);have HP:=ah hp2;clear hp hp2;gi_wp2;refine hR.mono ?_;rintro e W3 ⟨rfl,hJ3,hkp⟩;have HJ3:=ah hJ3;have HKP:=ah hkp;clear hJ3 hkp hy hR c1 c3;gi_wp2;go_ret;exact⟨false,[N],A,oc,rfl,KP.out,bI zN.out HKP.out.1,wO.out.trans (iM.kp HKP.out),wY.out.it.kp HKP.out,wY.out.s.kp HKP.out,(λh=>by cases h),λ_=>⟨by have:=HP.out;simp;omega,[N],HJ3.out⟩⟩
end Go.Proofs.YtpmdedcnbockhaaGreatDoor
