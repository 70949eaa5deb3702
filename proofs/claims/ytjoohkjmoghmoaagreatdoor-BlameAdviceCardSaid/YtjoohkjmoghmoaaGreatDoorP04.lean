/- part -/
import Derived.Test.YtjoohkjmoghmoaaGreatDoorP03
import Derived.LoopNIn
import Derived.Scope
set_option linter.all false
namespace Go.Proofs.YtjoohkjmoghmoaaGreatDoor
section
section
variable {F:Fence} {n:Nat} {P:Program} {b:Frame} {a:Act} {k:List Item} {cs:List Frame} {w:World} {Q:Exit->Act->World->Prop}
theorem iG{c:Code}:step P (lone (b.atR a (.code (.scope c)::k)) cs w)= .next (lone (b.atR a (.code c:: .inScope c::k)) cs w):=
 step_lone_go (by simp[stepG,stepG.exec,Frame.atR])
theorem Aa{c:Code}:step P (lone (b.atR a (.inScope c::k)) cs w)= .next (lone (b.atR a k) cs w):=
 step_lone_go (by simp[stepG,stepG.exec,Frame.atR])
theorem qP{c:Code}(h:c.wpIn F n P (Exit.noGoto Q) a w):(Code.scope c).wpIn F n P Q a w:=by
 intro b k cs hro hb hr;have h0:(lone (b.atR a (.code (.scope c)::k)) cs w).fenced P F:=fenced_calm hb hr rfl;obtain⟨e,a₁,w₁,hq,harr⟩:=h b (.inScope c::k) cs hro hb hr;cases e with
 |normal=>exact⟨.normal,a₁,w₁,hq,.head h0 iG (StepsIn.trans harr (.one (fenced_calm hb hr rfl) Aa))⟩
 |exit id=>
  have hx:exitTo id (.inScope c::k)=exitTo id k:=by simp[exitTo]
  exact⟨.exit id,a₁,w₁,hq,λk' hk=>.head h0 iG (harr.1 k' (by rw[hx];exact hk)),λhr' hk=>let⟨k₁,h1,h2⟩:=harr.2 hr' (by rw[hx];exact hk);⟨k₁,h1,.head h0 iG h2⟩⟩
 |goto l=>exact hq.elim
 |ret=>exact⟨_,a₁,w₁,hq,.of_steps (.one h0 iG) harr⟩
 |panic ch=>exact⟨_,a₁,w₁,hq,.of_steps (.one h0 iG) harr⟩
 |outgrown=>exact⟨_,a₁,w₁,hq,.of_steps (.one h0 iG) harr⟩
theorem run_enterLoop_inner{l:Nat}{q:Loop}(fn:FuncId)(tmps:Array Value)(ps:Array Tmp)(assign body:Code)(e:w.heap[l]?=some (.loop q)):
 (Instr.enterLoop fn tmps ps assign body (some l)).run P w= .ok (w.heap.size,[]) (w.alloc (.loop {state:=.ready,pending:=none,fn,tmps,params:=ps,assign,body,defers:=q.defers})):=by
 unfold Instr.enterLoop;simp only[Sem.run_bind,run_getLoop e,run_newObj_alloc,Result.andThen,Sem.run_pure]
end
def LG:Ex->Exit
 | .bW=>.normal
 | .exit id=>.exit id
 | .goto l=>.goto l
 | .ret=>.ret
def nV(lo:Nat)(B:List Deferred)(θ:Th)(h:AH)(w:World)(ds:List Deferred):Prop:=
 ∃pre,ds=pre++B/\pre.Pairwise (λd e=>d≠e)/\∀d∈pre,∃b,d={target:=.collected b,args:=#[]}/\lo<=b/\w.heap[b]?=some (.deferred (some []))/\¬Im θ h b
def Rd(r:Option Nat)(w:World):Prop:=∀l,r=some l->∃q,w.heap[l]?=some (.loop q)
section
variable {P:Program} {sl:FuncId->Sl} {θ bR:Th} {h h':AH} {n n':Nat} {w w':World} {lo:Nat} {B:List Deferred} {ds:List Deferred} {r:Option Nat}
theorem nV.fr(D:nV lo B θ h w ds)(F:Fr θ h w bR h' w'):nV lo B bR h' w' ds:=
 let⟨pre,e0,D1,D2⟩:=D
 ⟨pre,e0,D1,λd hd=>let⟨b,e1,e2,e3,e4⟩:=D2 d hd;⟨b,e1,e2,(F.block b (bH e3) e4).trans e3,λhi=>(F.from_ b hi).elim e4 (λhs=>by have:=bH e3;omega)⟩⟩
theorem Rd.fr(D:Rd r w)(F:Fr θ h w bR h' w'):Rd r w':=λl e=>let⟨q,hq⟩:=D l e;F.kind l q hq
theorem RH.XI(H:RH P sl θ h n w){k:Nat}(hi:Im θ h k):k<w.heap.size:=by
 obtain⟨x,c,hx,hr⟩:=hi;obtain⟨o,ho⟩:=Option.isSome_iff_exists.1 (gH hx);obtain⟨r,c',ob,h1,h2,_⟩:=H.at_ x o ho;rw[hr]at h1;cases h1;exact bH h2
theorem RH.extra(H:RH P sl θ h n w)(o:Obj):RH P sl θ h n (w.alloc o)/\Fr θ h w θ h (w.alloc o):=by
 have hheap:∀k,k<w.heap.size->(w.alloc o).heap[k]?=w.heap[k]?:=λk hk=>by
  show(w.heap.push o)[k]?=_;rw[Array.getElem?_push,if_neg (by omega)]
 refine H.Xi (λx a e=>?_) H.inj H.new ⟨rfl,rfl,rfl,by show _<=(w.heap.push o).size;simp,λk hk _=>hheap k hk,iy.refl _,λk e=>.inl e,λk q e=>⟨q,(hheap k (bH e)).trans e⟩,λ_ _ e e'=>absurd e e',λ_ _ e=>e⟩;obtain⟨r,c,ob,h1,h2,h3⟩:=H.at_ x a e;exact⟨r,c,ob,h1,(hheap r (bH h2)).trans h2,h3⟩
theorem RH.loop(H:RH P sl θ h n w){x:Nat}{st:LoopState}{pd:Option Code}{g:FuncId}{t:Tr AV}{ps:List Tmp}{fH body:Code}(e:h.get x=some (.lp st pd g t ps fH body)):
 ∃r c q,θ x=some (r,c)/\w.heap[r]?=some (.loop q)/\q.state=st/\q.pending=pd/\q.params=ps.toArray/\q.assign=fH/\q.body=body/\RT (sl g) θ t q.tmps/\
  ∀st' TQ,RH P sl θ (h.set x (.lp st' TQ g t ps fH body)) n (w.putObj r (.loop {q with state:=st',pending:=TQ}))/\Fr θ h w θ (h.set x (.lp st' TQ g t ps fH body)) (w.putObj r (.loop {q with state:=st',pending:=TQ})):=by
 obtain⟨r,c,ob,h1,h2,fn,tm,df,h3,h4⟩:=H.at_ x _ e;subst h3;refine⟨r,c,_,h1,h2,rfl,rfl,rfl,rfl,rfl,h4,λst' TQ=>?_⟩;refine H.turn e h1 (o':=.lp st' TQ g t ps fH body) (zX:=.loop {state:=st',pending:=TQ,fn:=fn,tmps:=tm,params:=ps.toArray,assign:=fH,body:=body,defers:=df}) ⟨fn,tm,df,rfl,h4⟩ rfl rfl rfl (by simp) (λk=>?_) (λ_ _ _=>⟨_,rfl⟩);by_cases hk:k=r
 .subst hk;rw[if_pos rfl];exact World.putObj_heap_same (bH h2)
 .rw[if_neg hk];exact World.putObj_heap_other hk
end
section
variable (P:Program) (sl:FuncId->Sl) (Y:YT) (f:FT) (r:Option Nat) (m lo:Nat) (B:List Deferred) (g:FuncId)
def XJ(c:Code)(run:FT->AH->Nat->Tr AV->fq):Prop:=∀{θ:Th}{h:AH}{n:Nat}{w:World}{t:Tr AV}{ac:Act}{x:Ex}{h':AH}{n':Nat}{t':Tr AV}{Q:Exit->Act->World->Prop},
 run f h n t= .ok x h' n' t'->RT (sl g) θ t ac.tmps->RH P sl θ h n w->nV lo B θ h w ac.defers->lo<=w.heap.size->Rd r w->
 (∀bR a' w',RT (sl g) bR t' a'.tmps->RH P sl bR h' n' w'->nV lo B bR h' w' a'.defers->Fr θ h w bR h' w'->Q (LG x) a' w')->c.wpIn (FR r) m P Q ac w
end
section
variable {P:Program} {sl:FuncId->Sl} {Y:YT} {f:FT} {r:Option Nat} {m lo:Nat} {B:List Deferred} {g:FuncId}
theorem H9{c:Code}{b:Cc}(ih:XJ P sl f r m lo B g c b.run):∀(k:Nat){θ:Th}{h:AH}{n:Nat}{w:World}{t:Tr AV}{ac:Act}{x:Ex}{h':AH}{n':Nat}{t':Tr AV}{Q:Exit->Act->World->Prop},
 oO k b f h n t= .ok x h' n' t'->RT (sl g) θ t ac.tmps->RH P sl θ h n w->nV lo B θ h w ac.defers->lo<=w.heap.size->Rd r w->
 (∀bR a' w',RT (sl g) bR t' a'.tmps->RH P sl bR h' n' w'->nV lo B bR h' w' a'.defers->Fr θ h w bR h' w'->Q (LG x) a' w')->Code.roundsIn (FR r) m P c Q k ac w
 |0,_,_,_,_,_,_,_,_,_,_,_,e,_,_,_,_,_,_=>by cases e
 |k+1,θ,h,n,w,t,ac,x,h',n',t',Q,e,hT,H,D,hlo,hR,hQ=>by
  obtain⟨x1,h1,n1,t1,e1,e2⟩:=ji (show iQ (b.run f h n t) (λx h n t=>Df x (oO k b f h n t) (.ok x h n t))= .ok x h' n' t' from e);rw[roundsIn_succ];refine ih e1 hT H D hlo hR λoq a1 w1 T1 H1 D1 F1=>?_;cases x1 with
  |bW=>exact H9 ih k (show oO k b f h1 n1 t1=_ from e2) T1 H1 D1 (Nat.le_trans hlo F1.size) (hR.fr F1) λBc a2 w2 T2 H2 D2 F2=>hQ Bc a2 w2 T2 H2 D2 (F1.trans F2)
  |exit id=>cases e2;exact hQ oq a1 w1 T1 H1 D1 F1
  |goto l=>cases e2;exact hQ oq a1 w1 T1 H1 D1 F1
  |ret=>cases e2;exact hQ oq a1 w1 T1 H1 D1 F1
theorem LH{l:Nat}{h h':AH}{n n':Nat}{t t':Tr AV}{x:Ex}(e:Hr l h n t= .ok x h' n' t'):∃st pd g u ps fH body,h.get l=some (.lp st pd g u ps fH body)/\h'=h.set l (.lp .exhausted pd g u ps fH body)/\n'=n/\t'=t/\st≠ .busy/\
 ((pd=none/\x= .bW)\/(pd=some .ret/\x= .ret)\/∃id,pd=some (.exit id)/\x= .exit id):=by
 unfold Hr at e;split at e
 .rename_i g u ps fH body hg;cases e;exact⟨_,_,_,_,_,_,_,hg,rfl,rfl,rfl,by decide,.inl ⟨rfl,rfl⟩⟩
 .rename_i g u ps fH body hg;cases e;exact⟨_,_,_,_,_,_,_,hg,rfl,rfl,rfl,by decide,.inr (.inl ⟨rfl,rfl⟩)⟩
 .rename_i id g u ps fH body hg;cases e;exact⟨_,_,_,_,_,_,_,hg,rfl,rfl,rfl,by decide,.inr (.inr ⟨id,rfl,rfl⟩)⟩
 .cases e
theorem DL(hf:Good P sl f){θ:Th}{h:AH}{n:Nat}{w:World}{t:Tr AV}{ac:Act}{x:Ex}{h':AH}{n':Nat}{t':Tr AV}{Q:Exit->Act->World->Prop}{q:FuncId}{cap:List AV}{vs:List Value}{ps:Array Tmp}{fH body:Code}{fn:FuncId}{df:Nat}{rr:Operand}{ds:List Deferred}
 {W:World}(hW:W=w.alloc (.loop {state:=.ready,pending:=none,fn:=fn,tmps:=ac.tmps,params:=ps,assign:=fH,body:=body,defers:=df}))
 (e:mW (f q (.y n::cap) (h.set n (.lp .ready none g t ps.toList fH body)) (Nat.succ n)) (λ_ h2 n2=>Hr n h2 n2 t)= .ok x h' n' t')
 (hv:eU θ cap vs)(hrr:ac.eval rr= .func (.func q) #[] vs.toArray)(hP:qO P)
 (hT:RT (sl g) θ t ac.tmps)(H:RH P sl θ h n w)(D:nV lo B θ h w ds)
 (hQ:∀bR a' w',RT (sl g) bR t' a'.tmps->RH P sl bR h' n' w'->nV lo B bR h' w' a'.defers->Fr θ h w bR h' w'->Q (LG x) a' w'):
 ∃(d:Deferred)(w1':World)(f':FuncId)(args:Array Value)(w2:World),
  (resolve ac.eval (rangeCall rr w.heap.size) 0).run P W= .ok d w1'/\
  (∀f',Target.leads P w1' d.target d.args=some f'->(FR r).fn f')/\
  (invoke d.target d.args).run P w1'= .ok (.enter f' args) w2/\
  ((FR r).depth.isSome=true->1<=m)/\
  CallsIn (FR r) (m - 1) P f' args w2 (rangePost (FR r) m P w.heap.size Q {ac with defers:=ds}):=by
 obtain⟨v,h2,n2,e1,e2⟩:=xH e;obtain⟨⟨fn',c,hq,hbd⟩,hcall⟩:=hf _ _ _ _ _ _ _ e1;obtain⟨H1,F1⟩:=H.alloc 0 (o:=.lp .ready none g t ps.toList fH body) (obj:=.loop {state:=.ready,pending:=none,fn:=fn,tmps:=ac.tmps,params:=ps,assign:=fH,body:=body,defers:=df})
  ⟨fn,ac.tmps,df,by simp,hT⟩
 rw[<-hW]at H1 F1;replace hcall:=hcall _ _ (.func (.yield w.heap.size) #[] #[]::vs) H1 ⟨_,_,⟨_,_,Th.dx _ _ _,rfl⟩,hv.mono F1.le,rfl⟩;have hne:¬fn'.name= "runtime.NumGoroutine":=by simpa using hP.2 _ _ hq
 refine⟨{target:=.fn (.func q) vs.toArray,args:=#[.func (.yield w.heap.size) #[] #[]]},W,q,(.func (.yield w.heap.size) #[] #[]::vs).toArray,W,?_,λ_ _=>trivial,?_,λhd=>by simp[FR,Fence.wide]at hd,(nu r hcall).mono ?_⟩
 .have ha:(rangeCall rr w.heap.size).args.map ac.eval=#[.func (.yield w.heap.size) #[] #[]]:=by
   show Array.map ac.eval #[.const (.func (.yield w.heap.size) #[] #[])]=_;rw[List.map_toArray];rfl
  show(Deferred.ofValue (ac.eval rr) ((rangeCall rr w.heap.size).args.map ac.eval)).run P W=_;rw[ha,hrr];simp[Deferred.ofValue]
 .simp[invoke,callFunc,hq,hbd,hne]
 .rintro e3 w3 ⟨TR,u,rfl,q1,q2,q3⟩
  obtain⟨st,pd,g1,u1,ps1,xg,nU,k1,rfl,rfl,rfl,k2,k3⟩:=LH e2;obtain⟨r1,c1,lr,j1,j2,j3,j4,j5,j6,j7,j8,j9⟩:=q2.loop k1;have:TR n=some (w.heap.size,0):=q3.le _ _ (Th.dx _ _ _);rw[j1]at this;cases this;obtain⟨H4,F4⟩:=j9 .exhausted lr.pending;have hend:=run_endLoop (P:=P) j2 (by rw[j3];exact k2);have F:=(F1.trans q3).trans F4;rw[j4]at H4 F hend;refine⟨_,_,hend,?_⟩;have key:∀a':Act,a'={ac with defers:=ds}->Q (LG x) a' _:=λa' ha=>by
   subst ha;exact hQ TR _ _ (hT.mono F.le) H4 (D.fr F) F
  rcases k3 with⟨rfl,rfl⟩|⟨rfl,rfl⟩|⟨id,rfl,rfl⟩
  .exact key _ rfl
  .exact wpIn_ret (key _ rfl)
  .exact wpIn_exit (key _ rfl)
theorem kU(hP:qO P)(hf:Good P sl f)(hY:wK P sl Y f):∀(c:Code),XJ P sl f r m lo B g c (cc P sl g Y c).run
 | .skip,θ,h,n,w,t,ac,x,h',n',t',Q,e,hT,H,D,hlo,hR,hQ=>by
  cases e;exact wpIn_skip (hQ θ ac w hT H D (Fr.refl _ _ _))
 | .label l,θ,h,n,w,t,ac,x,h',n',t',Q,e,hT,H,D,hlo,hR,hQ=>by
  cases e;exact wpIn_label (hQ θ ac w hT H D (Fr.refl _ _ _))
 | .exit l,θ,h,n,w,t,ac,x,h',n',t',Q,e,hT,H,D,hlo,hR,hQ=>by
  cases e;exact wpIn_exit (hQ θ ac w hT H D (Fr.refl _ _ _))
 | .goto l,θ,h,n,w,t,ac,x,h',n',t',Q,e,hT,H,D,hlo,hR,hQ=>by
  cases e;exact wpIn_goto (hQ θ ac w hT H D (Fr.refl _ _ _))
 | .ret,θ,h,n,w,t,ac,x,h',n',t',Q,e,hT,H,D,hlo,hR,hQ=>by
  cases e;exact wpIn_ret (hQ θ ac w hT H D (Fr.refl _ _ _))
 | .refuse _,θ,h,n,w,t,ac,x,h',n',t',Q,e,hT,H,D,hlo,hR,hQ=>by cases e
 | .region id ops d,θ,h,n,w,t,ac,x,h',n',t',Q,e,hT,H,D,hlo,hR,hQ=>by
  cases d with
  |true=>
   exact Px hP hP.1 r m hf hY (show(Jb P (sl g) Y ops).run f h n t=_ from e) hT H λbR a' w' hx T' hd H' F'=>by
    subst hx;exact hQ bR a' w' T' H' (by rw[hd];exact D.fr F') F'
  |false=>
   refine wpIn_region ?_;rw[List.range_eq_range',show ops.size=ops.toList.length by simp];exact BJ hP r m hf hY ops.toList 0 (λj=>by simp) (show(Dn P (sl g) Y ops ops.toList []).run f h n t []=_ from e) hT (LR.nil _ _ _) H λbR a' w' hx T' hd H' F'=>by
    subst hx;exact hQ bR a' w' T' H' (by rw[hd];exact D.fr F') F'
 | .seq a b,θ,h,n,w,t,ac,x,h',n',t',Q,e,hT,H,D,hlo,hR,hQ=>by
  obtain⟨x1,h1,n1,t1,e1,e2⟩:=ji (show iQ ((cc P sl g Y a).run f h n t) (λx h n t=>Df x ((cc P sl g Y b).run f h n t) (.ok x h n t))= .ok x h' n' t' from e);refine wpIn_seq (kU hP hf hY a e1 hT H D hlo hR λoq a1 w1 T1 H1 D1 F1=>?_);cases x1 with
  |bW=>exact kU hP hf hY b (show(cc P sl g Y b).run f h1 n1 t1=_ from e2) T1 H1 D1 (Nat.le_trans hlo F1.size) (hR.fr F1) λBc a2 w2 T2 H2 D2 F2=>hQ Bc a2 w2 T2 H2 D2 (F1.trans F2)
  |exit id=>cases e2;exact hQ oq a1 w1 T1 H1 D1 F1
  |goto l=>cases e2;exact hQ oq a1 w1 T1 H1 D1 F1
  |ret=>cases e2;exact hQ oq a1 w1 T1 H1 D1 F1
 | .cond c a b,θ,h,n,w,t,ac,x,h',n',t',Q,e,hT,H,D,hlo,hR,hQ=>by
  rw[cc]at e;simp only at e;split at e
  .rename_i v hv
   have hc:ac.eval c= .bool v:=bG hv hT (LR.nil _ _ _);refine wpIn_cond hc ?_;cases v with
   |true=>exact kU hP hf hY a e hT H D hlo hR hQ
   |false=>exact kU hP hf hY b e hT H D hlo hR hQ
  .cases e
 | .block id a,θ,h,n,w,t,ac,x,h',n',t',Q,e,hT,H,D,hlo,hR,hQ=>by
  rw[cc]at e;obtain⟨x1,h1,n1,t1,e1,e2⟩:=ji e;refine wpIn_block (kU hP hf hY a e1 hT H D hlo hR λoq a1 w1 T1 H1 D1 F1=>?_);cases x1 with
  |bW=>cases e2;exact hQ oq a1 w1 T1 H1 D1 F1
  |exit j=>
   show if j=id then Q .normal a1 w1 else Q (.exit j) a1 w1
   cases hj:Nat.beq j id with
   |true=>
    simp only[hj,bF]at e2;rw[if_pos (Nat.eq_of_beq_eq_true hj)];cases e2;exact hQ oq a1 w1 T1 H1 D1 F1
   |false=>
    simp only[hj,gu]at e2;rw[if_neg (λhh=>by rw[hh,Nat.beq_refl]at hj;cases hj)];cases e2;exact hQ oq a1 w1 T1 H1 D1 F1
  |goto l=>cases e2;exact hQ oq a1 w1 T1 H1 D1 F1
  |ret=>cases e2;exact hQ oq a1 w1 T1 H1 D1 F1
 | .loop a,θ,h,n,w,t,ac,x,h',n',t',Q,e,hT,H,D,hlo,hR,hQ=>by
  rw[cc]at e;exact wpIn_loop_rounds 1125899906842624 (H9 (kU hP hf hY a) 1125899906842624 e hT H D hlo hR hQ)
 | .scope a,θ,h,n,w,t,ac,x,h',n',t',Q,e,hT,H,D,hlo,hR,hQ=>by
  rw[cc]at e;obtain⟨x1,h1,n1,t1,e1,e2⟩:=ji e;refine qP (kU hP hf hY a e1 hT H D hlo hR λoq a1 w1 T1 H1 D1 F1=>?_);cases x1 with
  |goto l=>cases e2
  |bW=>cases e2;exact hQ oq a1 w1 T1 H1 D1 F1
  |exit j=>cases e2;exact hQ oq a1 w1 T1 H1 D1 F1
  |ret=>cases e2;exact hQ oq a1 w1 T1 H1 D1 F1
 | .rangeFunc rr ps fH body,θ,h,n,w,t,ac,x,h',n',t',Q,e,hT,H,D,hlo,hR,hQ=>by
  rw[cc]at e;simp only at e;split at e
  .rename_i q cap hv
   obtain⟨vs,hvs,hrr⟩:=bG hv hT (LR.nil _ _ _)
   .refine wpIn_rangeFunc λfn _=>?_
    cases r with
    |none=>
     obtain⟨H1,F1⟩:=H.extra (.deferred (some []));have D1:nV lo B θ h (w.alloc (.deferred (some []))) ([{target:=.collected w.heap.size,args:=#[]}]++ac.defers):=by
      obtain⟨pre,e0,D1,D2⟩:=D.fr F1;refine⟨{target:=.collected w.heap.size,args:=#[]}::pre,by rw[e0];rfl,List.pairwise_cons.2 ⟨?_,D1⟩,?_⟩
      .rintro d hd rfl
       obtain⟨pre',e0',_,D4⟩:=D;obtain rfl:=List.append_cancel_right (e0.symm.trans e0');obtain⟨b,e1,_,e3,_⟩:=D4 _ hd;cases e1
       exact absurd (bH e3) (Nat.lt_irrefl _)
      .intro d hd
       rcases List.mem_cons.1 hd with rfl|hd
       .exact⟨_,rfl,hlo,World.alloc_heap_new _ _,λhi=>absurd (H.XI hi) (Nat.lt_irrefl _)⟩
       .exact D2 d hd
     obtain⟨d,w1',f',args,w2,k1,k2,k3,k4,k5⟩:=DL (r:=none) (m:=m) (fn:=fn) (df:=w.heap.size) hf rfl e hvs hrr hP hT H1 D1 λbR a' w' T' H' D' F'=>hQ bR a' w' T' H' D' (F1.trans F');rw[World.size_alloc]at k1 k5;exact⟨_,_,_,d,w1',f',args,w2,run_enterLoop_outer _ _ _ _ _,k1,k2,k3,k4,k5⟩
    |some l=>
     obtain⟨lq,hl⟩:=hR l rfl;obtain⟨d,w1',f',args,w2,k1,k2,k3,k4,k5⟩:=DL (r:=some l) (m:=m) (fn:=fn) (df:=lq.defers) hf rfl e hvs hrr hP hT H D hQ;exact⟨_,_,_,d,w1',f',args,w2,run_enterLoop_inner _ _ _ _ _ hl,k1,k2,k3,k4,k5⟩
  .cases e
end
end
section
section
variable {P:Program} {sl:FuncId->Sl} {θ:Th} {h h':AH} {n n':Nat} {w:World} {s:Sl} {t t':Tr AV} {f:FT} {v:AV} {Y:YT} {tm:Array Value}
theorem H_{d:Tmp}{u:Value}(e:(vg s d).run t v=some t')(hT:RT s θ t tm)(hv:aV θ v u):d<s.N/\RT s θ t' (tm.setIfInBounds d u):=by
 unfold vg at e;cases hb:Nat.ble (Nat.succ d) (s.N)with
 |false=>rw[hb,gu]at e;cases e
 |true=>
  rw[hb,bF]at e;have hd:d+1<=s.N:=Nat.le_of_ble_eq_true hb;refine⟨hd,?_⟩;cases hS:s.S d with
  |true=>
   rw[hS,bF]at e;cases e;exact RT.put (ac:={tmps:=tm,defers:=[]}) hT hd hv hS
  |false=>
   rw[hS,gu]at e;cases e;exact RT.skip (ac:={tmps:=tm,defers:=[]}) hT hS
theorem DN:∀{ps:List Tmp}{l:List AV}{vs:List Value}{t t':Tr AV}{tm:Array Value},wH s ps l t=some t'->eU θ l vs->RT s θ t tm->vs.length=ps.length/\RT s θ t' ((ps.zip vs).foldl (λtm x=>tm.setIfInBounds x.1 x.2) tm)
 |[],[],_,t,t',tm,e,hv,hT=>by cases e;cases hv;exact⟨rfl,hT⟩
 |k::ks,v::l,_,t,t',tm,e,hv,hT=>by
  obtain⟨u,vs,h1,h2,rfl⟩:=hv;obtain⟨t1,e1,e2⟩:=aB (show bnd ((vg s k).run t v) (λt=>wH s ks l t)=some t' from e);obtain⟨_,hT1⟩:=H_ e1 hT h1;obtain⟨g1,g2⟩:=DN e2 h2 hT1;exact⟨by simp[g1],g2⟩
 |[],_::_,_,_,_,_,e,_,_=>by cases e
 |_::_,[],_,_,_,_,e,_,_=>by cases e
theorem Py(r:Nat):FR (some r)=Fence.wide.inRound r:=rfl
theorem XK{x:Nat}{k:Ex}{R:Ending->World->Prop}{r c:Nat}{a':Act}(e:yE x k h n= .ok v h' n')(H:RH P sl θ h n w)(hr:θ x=some (r,c))
 (hR:∀b w',v= .b b->RH P sl θ h' n' w'->Fr θ h w θ h' w'->R (.returned (.bool b)) w'):roundPost P r R (LG k) a' w:=by
 unfold yE at e;split at e
 .rename_i st pd g u ps fH body hg
  obtain⟨r1,c1,q,j1,j2,j3,j4,j5,j6,j7,j8,j9⟩:=H.loop hg;rw[hr]at j1;cases j1;cases k with
  |bW=>
   cases e
   obtain⟨H4,F4⟩:=j9 .ready none;exact⟨_,_,run_endRound none j2,hR true _ rfl H4 F4⟩
  |ret=>
   cases e
   obtain⟨H4,F4⟩:=j9 .done (some .ret);exact⟨_,_,run_endRound (some .ret) j2,hR false _ rfl H4 F4⟩
  |exit id=>
   cases e
   obtain⟨H4,F4⟩:=j9 .done (some (.exit id));exact⟨_,_,run_endRound (some (.exit id)) j2,hR false _ rfl H4 F4⟩
  |goto l=>cases e
 .cases e
theorem Ia(hP:qO P)(hf:Good P sl f):∀(k:Nat),wK P sl (yl P sl k) f
 |0=>λx args h n v h' n' e=>by cases e
 |k+1=>by
  intro x args h n v h' n' e θ w vs r c H ha hr;have ih:=Ia hP hf k;have e0:(match h.get x with
   |some (.lp .ready pd g t ps fH body)=>aM (wH (sl g) ps args t) λt1=>
    oI ((cc P sl g (yl P sl k) fH).run f h n t1) λx1 h n t2=>match x1 with
     | .bW=>match h.get x with
      |some (.lp .ready pd g1 u1 ps1 xg nU)=>oI ((cc P sl g (yl P sl k) body).run f (h.set x (.lp .busy pd g1 u1 ps1 xg nU)) n t2) λx2 h n _=>yE x x2 h n
      |_=>.bad
     |_=>.bad
   |_=>.bad)=eZ.ok v h' n':=e
  clear e;split at e0
  case h_2=>cases e0
  rename_i pd g t ps fH body hg;obtain⟨t1,e1,e2⟩:=aT e0;obtain⟨r1,c1,q,j1,j2,j3,j4,j5,j6,j7,j8,j9⟩:=H.loop hg;rw[hr]at j1;cases j1;obtain⟨g1,g2⟩:=DN e1 ha j8;have hrun:=run_yield (P:=P) (l:=r) (args:=vs.toArray) j2 (by rw[j5];simpa using g1);have XM:(q.params.zip vs.toArray).foldl (λtmps (x:Tmp×Value)=>tmps.setIfInBounds x.1 x.2) q.tmps=(ps.zip vs).foldl (λtm x=>tm.setIfInBounds x.1 x.2) q.tmps:=by
   rw[j5,<-Array.foldl_toList];simp
  refine⟨_,_,_,_,hrun,λm=>roundIn_of_wpIn trivial ?_⟩;obtain⟨x1,h1,n1,t2,e3,e4⟩:=mZ e2;rw[<-Py,j6,j7];have hT1:RT (sl g) θ t1 ((q.params.zip vs.toArray).foldl (λtmps (x:Tmp×Value)=>tmps.setIfInBounds x.1 x.2) q.tmps):=by rw[XM];exact g2
  refine kU (lo:=w.heap.size) (B:=[]) hP hf ih fH e3 hT1 H ⟨[],rfl,List.Pairwise.nil,by simp⟩ (Nat.le_refl _) (λl hl=>by cases hl;exact⟨_,j2⟩) λoq a1 w1 T1 H1 D1 F1=>?_;cases x1 with
  |exit id=>cases e4
  |goto l=>cases e4
  |ret=>cases e4
  |bW=>
   simp only at e4;split at e4
   case h_2=>cases e4
   rename_i pd2 g2' u2 ps2 ac3 XO hg2;obtain⟨x2,h2,n2,t3,e5,e6⟩:=mZ e4;obtain⟨r2,c2,q2,i1,i2,i3,i4,i5,i6,i7,i8,i9⟩:=H1.loop hg2;have:oq x=some (r,c):=F1.le _ _ hr;rw[i1]at this;cases this;obtain⟨H2,F2⟩:=i9 .busy q2.pending;refine⟨_,run_beginRound i2 i3,?_⟩;rw[i4]at H2 F2;have hq:({q2 with state:=.busy}:Loop)={q2 with state:=.busy,pending:=pd2}:=by rw[<-i4]
   rw[hq];refine kU (lo:=w.heap.size) (B:=[]) hP hf ih body e5 T1 H2 (D1.fr F2) (Nat.le_trans F1.size F2.size) (λl hl=>by cases hl;exact F2.kind _ _ i2) λTR a3 w3 T3 H3 D3 F3=>?_;exact XK e6 H3 (F3.le _ _ i1) λb w4 hb H4 F4=>⟨TR,_,rfl,by rw[hb];rfl,H4,((F1.trans F2).trans F3).trans F4⟩
def LJ(tm:Array Value):ResultVar->Sem Value
 | .tmp t=>pure (tm.getD t undef)
 | .cell a ty=>do loadVar ty (<-asAddr (tm.getD a undef))
theorem Fp(fn:Func)(tm:Array Value):results fn tm=(do let vs <-fn.results.mapM (LJ tm);pure (if h:vs.size=1 then vs[0]else .tuple vs)):=rfl
theorem BQ(hT:RT s θ t tm)(H:RH P sl θ h n w):∀{rs:List ResultVar}{l:List AV},(Bp P s rs).run t h=some l->
 ∃vs,(rs.mapM (LJ tm)).run P w= .ok vs w/\eU θ l vs
 |[],l,e=>by cases e;exact⟨[],rfl,rfl⟩
 | .tmp k::rs,l,e=>by
  obtain⟨a,e1,e2⟩:=aB (show bnd ((co s [] (.tmp k)).run t []) (λa=>bnd ((Bp P s rs).run t h) λb=>some (a::b))=some l from e);obtain⟨b,e3,e4⟩:=aB e2;cases e4
  have h1:aV θ a (tm.getD k undef):=bG (ac:={tmps:=tm,defers:=[]}) e1 hT (LR.nil _ _ _);obtain⟨vs,h2,h3⟩:=BQ hT H e3;refine⟨_::vs,?_,⟨_,vs,h1,h3,rfl⟩⟩;rw[List.mapM_cons];simp only[LJ,Sem.run_bind,Sem.run_pure,Result.andThen,h2]
 | .cell a ty::rs,l,e=>by
  have e0:(match(co s [] (.tmp a)).run t []with|some (.p x o)=>bnd (yc P ty h x o) λa=>bnd ((Bp P s rs).run t h) λb=>some (a::b)|_=>none)=some l:=e;split at e0
  case h_2=>cases e0
  rename_i x o hx;obtain⟨a1,e1,e2⟩:=aB e0;obtain⟨b,e3,e4⟩:=aB e2;cases e4
  obtain⟨r,c,hr,hp⟩:aV θ (.p x o) (tm.getD a undef):=bG (ac:={tmps:=tm,defers:=[]}) hx hT (LR.nil _ _ _);obtain⟨u,g1,g2⟩:=Du e1 hr H;obtain⟨vs,h2,h3⟩:=BQ hT H e3;refine⟨u::vs,?_,⟨_,vs,g2,h3,rfl⟩⟩;have hx1:(LJ tm (.cell a ty)).run P w= .ok u w:=by
   simp only[LJ,Sem.run_bind,Sem.run_pure,Result.andThen,hp,asAddr,g1]
  rw[List.mapM_cons];simp only[Sem.run_bind,Sem.run_pure,Result.andThen,hx1,h2]
theorem Ib{fn:Func}(e:xk P s fn.results.toList t h=some v)(hT:RT s θ t tm)(H:RH P sl θ h n w):∃u,(results fn tm).run P w= .ok u w/\aV θ v u:=by
 obtain⟨l,e1,e2⟩:=aB e;obtain⟨vs,h1,h2⟩:=BQ hT H e1;refine⟨if h:vs.toArray.size=1 then vs.toArray[0]else .tuple vs.toArray,?_,?_⟩
 .rw[Fp,Array.mapM_eq_mapM_toList]
  simp only[Sem.run_bind,Sem.run_map,Sem.run_pure,Result.andThen,h1]
 .have hl:=h2.length
  split at e2
  .cases e2
   obtain⟨u,us,g1,g2,rfl⟩:=h2;cases g2
   exact g1
  .rename_i hne
   cases e2
   rw[dif_neg]
   .exact⟨vs,h2,rfl⟩
   .intro h3
    have:l.length=1:=by rw[<-hl];simpa using h3
    obtain⟨a,ha⟩:=List.length_eq_one_iff.1 this;exact hne a ha
theorem mo{fn:Func}{nA:Th}{h0:AH}{w0:World}{R:Ending->World->Prop}{B:List Deferred}{lo:Nat}{u:FrameMode}(hu:u≠ .run)(hlo:w0.heap.size<=lo)(hR:∀w',RH P sl θ h n w'->Fr nA h0 w0 θ h w'->LeavesInM Fence.wide 0 P fn tm R B u w'):
 ∀(pre:List Deferred)(w:World),pre.Pairwise (λd e=>d≠e)->(∀d∈pre,∃b,d={target:=.collected b,args:=#[]}/\lo<=b/\w.heap[b]?=some (.deferred (some []))/\¬Im θ h b)->RH P sl θ h n w->Fr nA h0 w0 θ h w->LeavesInM Fence.wide 0 P fn tm R (pre++B) u w
 |[],w,_,_,H,F=>hR w H F
 |d::ds,w,D1,D2,H,F=>by
  obtain⟨b,rfl,e2,e3,e4⟩:=D2 _ (List.mem_cons_self ..);refine⟨hu,.inl ⟨b,_,rfl,run_takeDeferred e3,?_⟩⟩;have hb:=bH e3;have hoth:∀k,k≠b->(w.putObj b (.deferred none)).heap[k]?=w.heap[k]?:=λk hk=>World.putObj_heap_other hk;refine mo hu hlo hR ds _ (List.pairwise_cons.1 D1).2 (λd hd=>?_) ⟨λx o e=>?_,H.inj,H.new,λg e=>let⟨ty,q,e1,e2⟩:=H.gl g e;⟨ty,q,(hoth g (by rintro rfl;rw[e3]at e1;cases e1)).trans e1,e2⟩⟩ ⟨F.os,F.tape,F.output,by simpa using F.size,λk hk hn=>?_,F.le,F.from_,λk q e=>?_,F.low,F.ro⟩
  .obtain⟨b',g1,g2,g3,g4⟩:=D2 d (List.mem_cons_of_mem _ hd)
   refine⟨b',g1,g2,(hoth b' ?_).trans g3,g4⟩;rintro rfl;exact(List.pairwise_cons.1 D1).1 d hd g1.symm
  .obtain⟨r,c,ob,h1,h2,h3⟩:=H.at_ x o e
   refine⟨r,c,ob,h1,(hoth r ?_).trans h2,h3⟩;rintro rfl;cases hw:zV (some o)with
   |true=>exact e4 ⟨x,c,by rw[e];exact hw,h1⟩
   |false=>
    cases o with
    |ro f=>obtain⟨cs,t,fz,rfl,_⟩:=h3;rw[e3]at h2;cases h2
    |_=>cases hw
  .exact(hoth k (by omega)).trans (F.block k hk hn)
  .obtain⟨q',hq⟩:=F.kind k q e
   exact⟨q',(hoth k (by have:=bH e;omega)).trans hq⟩
theorem BR{A:Array Value}:∀{l:List AV}{vs:List Value}{k:Nat}{t t':Tr AV},vC s k l t=some t'->eU θ l vs->(∀j u,vs[j]?=some u->A[k+j]?=some u)->RT s θ t A->RT s θ t' A
 |[],_,_,_,_,e,_,_,hT=>by cases e;exact hT
 |v::l,_,k,t,t',e,hv,hA,hT=>by
  obtain⟨u,vs,h1,h2,rfl⟩:=hv;obtain⟨t1,e1,e2⟩:=aB (show bnd ((vg s k).run t v) (λt=>vC s (k+1) l t)=some t' from e);obtain⟨_,hT1⟩:=H_ e1 hT h1;have hu:A[k]?=some u:=hA 0 u rfl;have:A.setIfInBounds k u=A:=by
   apply Array.ext_getElem?;intro i;rw[Array.getElem?_setIfInBounds];by_cases hi:k=i
   .subst hi
    have hk:k<A.size:=by
     rcases Nat.lt_or_ge k A.size with h|h
     .exact h
     .rw[Array.getElem?_eq_none h]at hu;cases hu
    rw[if_pos rfl,hu,if_pos hk]
   .rw[if_neg hi]
  rw[this]at hT1;exact BR e2 h2 (λj u hj=>by have:=hA (j+1) u hj;rwa [show k+1+j=k+(j+1) by omega]) hT1
theorem RT.empty(s:Sl)(θ:Th){A:Array Value}(h:s.N<=A.size):RT s θ .z A:=⟨h,λ_ _ _ e=>by cases e⟩
theorem TT(hP:qO P)(hf:Good P sl f){g:FuncId}{args:List AV}(e:(TB P sl g).run f args h n= .ok v h' n'):
 (∃fn c,P.funcs[g]?=some fn/\fn.body=some c)/\∀θ w vs,RH P sl θ h n w->eU θ args vs->Calls P g vs.toArray w (xu P sl θ h w v h' n'):=by
 unfold TB at e;split at e
 case h_2=>cases e
 rename_i fn hfn;split at e
 case h_2=>cases e
 rename_i c hc;rw[m_,Array.getElem?_toList]at hfn;cases hb:Nat.ble (sl g).N fn.ntmps with
 |false=>rw[hb,gu]at e;cases e
 |true=>
  rw[hb,bF]at e;have hN:(sl g).N<=fn.ntmps:=Nat.le_of_ble_eq_true hb;refine⟨⟨fn,c,hfn,hc⟩,λθ w vs H ha=>?_⟩;obtain⟨t,e1,e2⟩:=aT e;obtain⟨x,h1,n1,t1,e3,e4⟩:=mZ e2;have hT:RT (sl g) θ t (vs.toArray++Array.replicate (fn.ntmps - vs.toArray.size) undef):=by
   refine BR e1 ha (λj u hj=>?_) (RT.empty _ _ (by simp;omega));rw[Nat.zero_add,Array.getElem?_append_left (by simpa using(List.getElem?_eq_some_iff.1 hj).1)];simpa using hj
  have hfr:FR none=Fence.wide:=rfl;refine(callsIn_wide (n:=0)).1 (callsIn_of_wp_marks hfn hc trivial ?_);rw[<-hfr];refine kU (lo:=w.heap.size) (B:=[]) hP hf (Ia hP hf 20) c e3 hT H ⟨[],rfl,List.Pairwise.nil,by simp⟩ (Nat.le_refl _) (λl hl=>by cases hl) λoq a1 w1 T1 H1 D1 F1=>?_;have key:ok1 (xk P (sl g) fn.results.toList t1 h1) h1 n1= .ok v h' n'->LeavesInM Fence.wide 0 P fn a1.tmps (xu P sl θ h w v h' n') a1.defers .returning w1:=λe=>by
   obtain⟨q1,rfl,rfl⟩:=gV e;obtain⟨pre,e0,D1,D2⟩:=D1;rw[e0];refine mo (u:=.returning) (by simp) (Nat.le_refl _) (λw' H' F'=>?_) pre w1 D1 D2 H1 F1;obtain⟨u,k1,k2⟩:=Ib q1 T1 H';exact⟨u,k1,oq,u,rfl,k2,H',F'⟩
  cases x with
  |bW=>exact key e4
  |ret=>exact key e4
  |exit id=>cases e4
  |goto l=>cases e4
variable (P sl)in
def Ab(O:OT):Prop:=∀f,Good P sl f->∀g args h n v h' n',O f g args h n=some (.ok v h' n')->(∃fn c,P.funcs[g]?=some fn/\fn.body=some c)/\∀θ w vs,RH P sl θ h n w->eU θ args vs->Calls P g vs.toArray w (xu P sl θ h w v h' n')
theorem ug{O:OT}(hP:qO P)(hO:Ab P sl O):∀k,Good P sl (lV P sl O k)
 |0=>λg args h n v h' n' e=>by cases e
 |k+1=>λg args h n v h' n' e=>by
  have e0:@Option.rec eZ (λ_=>eZ) ((TB P sl g).run (lV P sl O k) args h n) (λr=>r) (O (lV P sl O k) g args h n)= .ok v h' n':=e;cases ho:O (lV P sl O k) g args h n with
  |none=>rw[ho]at e0;exact TT hP (ug hP hO k) e0
  |some r=>
   rw[ho]at e0;replace e0:r= .ok v h' n':=e0;subst e0;exact hO _ (ug hP hO k) g args h n v h' n' ho
end
end
section
noncomputable section
inductive MO where
 |s (k:Nat)
 |v (j:Nat)
 |c (a:AV)
inductive MI where
 |mv (x:MO)
 |pick (c a b:MO)
 |al (e:TypeId) (z:List AV)
 |box (e:TypeId) (w:Nat) (x:MO)
 |Ic (z:List AV) (fs:List (Nat×Nat×MO))
 |KO (e:TypeId) (len:Nat) (z:List AV) (fs:List (Nat×Nat×MO))
 |ld (w:Option Nat) (x:MO)
 |st (w:Nat) (a x:MO)
 |RP (x:MO)
 |bin (op:BinOp) (ty:TypeId) (x y:MO)
 |not (x:MO)
 |neg (x:MO)
 |LK (k:IntKind) (x:MO)
 |RQ (x:MO)
 |KP (x:MO)
 |RS (ty:TypeId) (x:MO)
 |Fq (g:FuncId) (cs:List MO)
 |LM
 |Ju (e:TypeId) (z:List AV) (x y:MO)
 |OX (x:MO) (lo hi:Option MO)
 |RU (w:Nat) (x:MO) (lo hi:Option MO)
 |RV (w m:Nat) (x:MO) (lo hi:Option MO)
 |fa (o:Nat) (x:MO)
 |RX (w:Option Nat) (o:Nat) (x:MO)
 |iM (w:Nat) (x i:MO)
 |Pz (w m:Nat) (x i:MO)
 |zR (x i:MO)
 |TU (lw:Option Nat) (w m:Nat) (x i:MO)
 |look (kt:TypeId) (z:Option AV) (x k:MO) (ok:Bool)
 |upd (kt:TypeId) (m k x:MO)
 |ext (x:MO) (k:Nat)
 |rng (x:MO)
 |Wu (x:MO)
 |ent (x:MO)
 |call (g:MO) (cs:List MO)
 |inv (x:MO) (nm:String) (cs:List MO)
 |DR (x:MO)
 |gW (x:MO)
 |Fu (m:Nat) (x:MO)
 |DT (x:MO)
 |app (e:TypeId) (w:Nat) (x y:MO)
 |RY (w:Nat) (x y:MO)
 |mx (x y:MO)
 |mn (x y:MO)
def gN(x:MO)(t:Tr AV)(l:List AV):Option AV:=match x with
 | .s k=>(gp 20 k).run t
 | .v j=>(Dh j).run l
 | .c a=>some a
def DU:List MO->Tr AV->List AV->Option (List AV)
 |[],_,_=>some []
 |x::r,t,l=>bnd (gN x t l) λa=>bnd (DU r t l) λb=>some (a::b)
def PE(x:Option MO)(t:Tr AV)(l:List AV):Option (Option Int):=match x with
 |none=>some none
 |some x=>match gN x t l with|some (.i _ n)=>some (some n)|_=>none
def wN(w:Option Nat):Nat:=match w with
 |none=>1
 |some k=>k
def KQ(w:Option Nat)(l:List AV)(o:Nat):Option AV:=match w with
 |none=>hd (qL o l)
 |some k=>bnd (lQ k (qL o l)) λx=>some (.agg x)
def LP:List (Nat×Nat×MO)->Tr AV->List AV->List AV->Option (List AV)
 |[],_,_,c=>some c
 |(o,w,x)::r,t,l,c=>bnd (gN x t l) λa=>bnd (qM a) λu=>bc (Nat.beq (mU u) w) (bnd (u_ u o c) λc=>LP r t l c) none
section
variable (P:Program) (Y:YT)
def MI.run(i:MI)(f:FT)(t:Tr AV)(l:List AV)(h:AH)(n:Nat):eZ:=match i with
 | .mv x=>ok1 (gN x t l) h n
 | .pick c a b=>(match gN c t l with|some (.b true)=>ok1 (gN a t l) h n|some (.b false)=>ok1 (gN b t l) h n|_=>.bad)
 | .al e z=>mk h n (.p n 0) (.row e z)
 | .box e w x=>aM (gN x t l) λv=>aM (qM v) λc=>bc (Nat.beq (mU c) w) (mk h n (.p n 0) (.row e c)) .bad
 | .Ic z fs=>aM (LP fs t l z) λc=>.ok (.agg c) h n
 | .KO e len z fs=>aM (LP fs t l z) λc=>mk h n (.sl n 0 0 len (some len)) (.row e c)
 | .ld w a=>(match gN a t l with|some (.p x k)=>ok1 (bnd (iA (h.get x) k (wN w)) λl=>KQ w l 0) h n|_=>.bad)
 | .st w a x=>aM (gN a t l) λa=>aM (gN x t l) λx=>yj w h n a x
 | .RP x=>aM (gN x t l) λv=>match v with| .p _ _=>.ok v h n| .f _ _=>.ok v h n| .y _=>.ok v h n|_=>.bad
 | .bin op ty x y=>aM (gN x t l) λx=>aM (gN y t l) λy=>ok1 ((dY P ty op).run x y) h n
 | .not x=>aM (gN x t l) λv=>match v with| .b v=>.ok (.b (qh v)) h n|_=>.bad
 | .neg x=>aM (gN x t l) λv=>match v with| .i k v=>.ok (.i k (gM k (Int.sub 0 v))) h n|_=>.bad
 | .LK k x=>(match gN x t l with|some (.i _ v)=>.ok (.i k (gM k v)) h n|_=>.bad)
 | .RQ x=>(match gN x t l with|some (.s l)=>.ok (.s l) h n|_=>.bad)
 | .KP x=>(match gN x t l with
  |some (.k 1)=>.ok (.s []) h n
  |some (.sl b m o k c)=>aM (je h 1 k (.sl b m o k c)) λu=>aM (oJ u) λb=>.ok (.s b) h n
  |_=>.bad)
 | .RS ty x=>aM (gN x t l) λv=>.ok (.zP ty v) h n
 | .Fq g cs=>aM (DU cs t l) λc=>.ok (.f g c) h n
 | .LM=>mk h n (.m n) (.mp [] 0)
 | .Ju e z x y=>(match gN x t l,gN y t l with
  |some (.i _ (.ofNat a)),some (.i _ (.ofNat c))=>bc (Nat.ble a c) (bc (Nat.ble c 1048576) (mk h n (.sl n 0 0 a (some c)) (.row e (rep c z))) .bad) .bad
  |_,_=>.bad)
 | .OX x lo hi=>aM (PE lo t l) λlo=>aM (PE hi t l) λhi=>match gN x t l with|some (.s c)=>ok1 (oK c lo hi) h n|_=>.bad
 | .RU w x lo hi=>aM (PE lo t l) λlo=>aM (PE hi t l) λhi=>match gN x t l with|some (.sl b m o k c)=>ok1 (ER w b m o k c lo hi) h n|_=>.bad
 | .RV w m x lo hi=>aM (PE lo t l) λlo=>aM (PE hi t l) λhi=>match gN x t l with|some (.p b o)=>ok1 (ES w m b o lo hi) h n|_=>.bad
 | .fa o x=>(match gN x t l with|some (.p b k)=>.ok (.p b (Nat.add k o)) h n|_=>.bad)
 | .RX w o x=>(match gN x t l with|some (.agg c)=>ok1 (KQ w c o) h n|_=>.bad)
 | .iM w x ix=>(match gN x t l,gN ix t l with|some (.sl b _ o m _),some (.i _ k)=>ok1 (EK k m λk=>some (.p b (Nat.add o (Nat.mul k w)))) h n|_,_=>.bad)
 | .Pz w m x ix=>(match gN x t l,gN ix t l with|some (.p b o),some (.i _ k)=>ok1 (EK k m λk=>some (.p b (Nat.add o (Nat.mul k w)))) h n|_,_=>.bad)
 | .zR x ix=>(match gN x t l,gN ix t l with|some (.s c),some (.i _ k)=>ok1 (EK k 1048576 λk=>bnd (hd (qL k c)) λb=>some (.i .u8 (Int.ofNat b.toNat))) h n|_,_=>.bad)
 | .TU lw w m x ix=>(match gN x t l,gN ix t l with|some (.agg c),some (.i _ k)=>ok1 (EK k m λk=>KQ lw c (Nat.mul k w)) h n|_,_=>.bad)
 | .look kt z x k ok=>aM (gN x t l) λx=>aM (gN k t l) λk=>ok1 (lookO (qZ P 30 kt) (yh P 30 kt) z ok h x k) h n
 | .upd kt m k x=>aM (gN m t l) λm=>aM (gN k t l) λk=>aM (gN x t l) λx=>Di (qZ P 30 kt) (yh P 30 kt) h n m k x
 | .ext x k=>(match gN x t l with|some (.bN c)=>ok1 (hd (qL k c)) h n|_=>.bad)
 | .rng x=>(match gN x t l with
  |some (.m b)=>(match h.get b with
   |some (.mp _ oN)=>mk h n (.p n 0) (.it (some b) oN [] oN)
   |_=>.bad)
  |some (.k 2)=>mk h n (.p n 0) (.it none 0 [] 0)
  |_=>.bad)
 | .Wu x=>(match gN x t l with|some (.p i 0)=>Lb h n i|_=>.bad)
 | .ent x=>(match gN x t l with|some (.p i 0)=>EX h n i|_=>.bad)
 | .call g cs=>aM (gN g t l) λg=>aM (DU cs t l) λc=>(match g with
  | .f g cap=>f g (Da c cap) h n
  | .y r=>Y r c f h n
  |_=>.bad)
 | .inv x nm cs=>(match gN x t l with
  |some (.zP ty v)=>aM (DU cs t l) λc=>aM (Hg P ty nm) λg=>f g (v::c) h n
  |_=>.bad)
 | .DR x=>(match gN x t l with|some (.s c)=>.ok (.i .i64 (Int.ofNat (mU c))) h n|_=>.bad)
 | .gW x=>(match gN x t l with|some (.sl _ _ _ m _)=>.ok (.i .i64 (Int.ofNat m)) h n|some (.k 1)=>.ok (.i .i64 0) h n|some (.es _ _)=>.ok (.i .i64 0) h n|_=>.bad)
 | .Fu m x=>aM (gN x t l) λ_=>.ok (.i .i64 (Int.ofNat m)) h n
 | .DT x=>(match gN x t l with|some (.m r)=>aM (I8 (h.get r)) (λes=>.ok (.i .i64 (Int.ofNat (mU es))) h n)|some (.k 2)=>.ok (.i .i64 0) h n|_=>.bad)
 | .app e w x y=>aM (gN x t l) λa=>aM (gN y t l) λx=>(jr e w).run h n a x
 | .RY w x y=>aM (gN x t l) λd=>aM (gN y t l) λx=>rz w h n d x
 | .mx x y=>(match gN x t l,gN y t l with|some (.i k a),some (.i _ b)=>.ok (.i k (bc (lD b a) a b)) h n|_,_=>.bad)
 | .mn x y=>(match gN x t l,gN y t l with|some (.i k a),some (.i _ b)=>.ok (.i k (bc (lD a b) a b)) h n|_,_=>.bad)
end
def iO(s:Sl)(L:List Tmp):Operand->Option MO
 | .tmp k=>bc (s.S k) (some (.s k)) (bnd (idx k L) λj=>some (.v j))
 | .const v=>bnd (RF v) λa=>some (.c a)
 | .global _=>none
 | .func f=>some (.c (.f f []))
def Jv(s:Sl)(L:List Tmp):List Operand->Option (List MO)
 |[]=>some []
 |x::r=>bnd (iO s L x) λa=>bnd (Jv s L r) λb=>some (a::b)
def TV(s:Sl)(L:List Tmp):Option Operand->Option (Option MO)
 |none=>some none
 |some x=>bnd (iO s L x) λa=>some (some a)
def XP(s:Sl)(L:List Tmp)(pl:Nat->Option (Nat×Nat)):List (Nat×Operand)->Option (List (Nat×Nat×MO))
 |[]=>some []
 |(k,x)::r=>bnd (pl k) λp=>bnd (iO s L x) λa=>bnd (XP s L pl r) λb=>some ((p.1,p.2,a)::b)
section
variable (P:Program)
def PI(t:TypeId):Option (Option Nat):=match P.underlying t with
 |none=>none
 |some (.struct _)|some (.array _ _)=>some (some (sz P t))
 |some _=>some none
def PK(s:Sl)(L:List Tmp)(o:Oper):Option MI:=match o.op with
 | .move x| .assign x=>bnd (iO s L x) λx=>some (.mv x)
 | .pick c a b=>bnd (iO s L c) λc=>bnd (iO s L a) λa=>bnd (iO s L b) λb=>some (.pick c a b)
 | .alloc e=>bnd (kL P e) λz=>bc (Nat.beq (mU z) (sz P e)) (some (.al e z)) none
 | .box e x=>bnd (iO s L x) λx=>some (.box e (sz P e) x)
 | .build ty ps=>bnd (Bd P ty) λpl=>bnd (kL P ty) λz=>bnd (XP s L pl ps.toList) λfs=>some (.Ic z fs)
 | .buildSlice ty len ps=>(match P.underlying ty with
  |some (.slice e)=>bnd (kL P e) λz=>bnd (Ak P e) λw=>bc (Nat.beq (mU z) w) (bc (Nat.ble (Nat.mul len w) 1048576) (bnd (XP s L (λk=>some (Nat.mul k w,w)) ps.toList) λfs=>some (.KO e len (rep len z) fs)) none) none
  |_=>none)
 | .load ty a=>bnd (PI P ty) λw=>bnd (iO s L a) λa=>some (.ld w a)
 | .store ty a x=>bnd (Ak P ty) λw=>bnd (iO s L a) λa=>bnd (iO s L x) λx=>some (.st w a x)
 | .nilCheck x=>bnd (iO s L x) λx=>some (.RP x)
 | .binOp op ty x y _=>bnd (iO s L x) λx=>bnd (iO s L y) λy=>some (.bin op ty x y)
 | .unOp .not _ x=>bnd (iO s L x) λx=>some (.not x)
 | .unOp .neg _ x=>bnd (iO s L x) λx=>some (.neg x)
 | .convert c d x=>bnd (iO s L x) λx=>(match P.underlying c,P.underlying d with
  |some _,some (.int k)=>some (.LK k x)
  |some .string,some .string=>some (.RQ x)
  |some (.slice e),some .string=>bc (O9 P e) (some (.KP x)) none
  |_,_=>none)
 | .makeInterface ty x=>bnd (iO s L x) λx=>(match P.underlying ty with|some (.interface _)=>none|some _=>some (.RS ty x)|none=>none)
 | .makeFunc (.func g) ⟨[]⟩ cs=>bnd (Jv s L cs.toList) λcs=>some (.Fq g cs)
 | .makeMap _ none=>some .LM
 | .makeMap ty (some (.const (.int _ _)))=>(match P.underlying ty with|some (.map _ _)=>some .LM|_=>none)
 | .makeSlice ty x y=>bnd (iO s L x) λx=>bnd (iO s L y) λy=>(match P.underlying ty,P.info? (ru P ty),kL P (ru P ty)with
  |some (.slice e),some i,some z=>bc (Nat.beq (mU z) i.size) (bc (Nat.ble i.bytes 65536) (some (.Ju e z x y)) none) none
  |_,_,_=>none)
 | .slice ty x lo hi none=>bnd (iO s L x) λx=>bnd (TV s L lo) λlo=>bnd (TV s L hi) λhi=>(match P.underlying ty with
  |some .string=>some (.OX x lo hi)
  |some (.slice e)=>bnd (Ak P e) λw=>some (.RU w x lo hi)
  |some (.array m e)=>bnd (Ak P e) λw=>some (.RV w m x lo hi)
  |_=>none)
 | .fieldAddr ty x f=>bnd (iO s L x) λx=>bnd (Ws P ty f) λd=>bnd (Ak P d.type) λw=>bc (Nat.beq w 0) none (some (.fa d.offset x))
 | .field ty x f=>bnd (iO s L x) λx=>bnd (Ws P ty f) λd=>bnd (PI P d.type) λw=>some (.RX w d.offset x)
 | .indexAddr ty x ix=>bnd (iO s L x) λx=>bnd (iO s L ix) λix=>(match P.underlying ty with
  |some (.slice e)=>bnd (Ak P e) λw=>some (.iM w x ix)
  |some (.array m e)=>bnd (Ak P e) λw=>some (.Pz w m x ix)
  |_=>none)
 | .index ty x ix=>bnd (iO s L x) λx=>bnd (iO s L ix) λix=>(match P.underlying ty with
  |some .string=>some (.zR x ix)
  |some (.array m e)=>bnd (Ak P e) λw=>bnd (PI P e) λlw=>some (.TU lw w m x ix)
  |_=>none)
 | .lookup ty x k ok=>bnd (iO s L x) λx=>bnd (iO s L k) λk=>(match P.underlying ty with|some (.map kt e)=>some (.look kt (zeroV P e) x k ok)|_=>none)
 | .mapUpdate ty m k x| .insert ty m k x=>bnd (iO s L m) λm=>bnd (iO s L k) λk=>bnd (iO s L x) λx=>(match P.underlying ty with|some (.map kt _)=>some (.upd kt m k x)|_=>none)
 | .extract x k=>bnd (iO s L x) λx=>some (.ext x k)
 | .range ty x=>bnd (iO s L x) λx=>(match P.underlying ty with|some (.map _ _)=>some (.rng x)|_=>none)
 | .next x false=>bnd (iO s L x) λx=>some (.Wu x)
 | .entry x=>bnd (iO s L x) λx=>some (.ent x)
 | .call {callee:=.value g,args,..}=>bnd (iO s L g) λg=>bnd (Jv s L args.toList) λcs=>some (.call g cs)
 | .call {callee:=.invoke x nm,args,..}=>bnd (iO s L x) λx=>bnd (Jv s L args.toList) λcs=>some (.inv x nm cs)
 | .call {callee:=.builtin b,args,argTypes}=>
  match b,args.toList with
  | .len,[x]=>(match argTypes.toList with
   |[ty]=>bnd (iO s L x) λx=>(match P.underlying ty with|some .string=>some (.DR x)|some (.slice _)=>some (.gW x)|some (.array m _)=>some (.Fu m x)|some (.map _ _)=>some (.DT x)|_=>none)
   |_=>none)
  | .append,[a,x]=>(match argTypes.toList with
   |[ty,EW]=>bnd (iO s L a) λa=>bnd (iO s L x) λx=>(match P.underlying ty,P.info? (ru P ty),kL P (ru P ty)with
    |some (.slice e),some i,some z=>bc (Wt P EW) (bc (Nat.beq (mU z) i.size) (bc (Nat.beq i.size 0) none (bc (Nat.ble i.bytes 65536) (some (.app e i.size a x)) none)) none) none
    |_,_,_=>none)
   |_=>none)
  | .copy,[d,x]=>(match argTypes.toList with
   |ty::_=>bnd (iO s L d) λd=>bnd (iO s L x) λx=>(match P.underlying ty with|some (.slice e)=>bnd (Ak P e) λw=>some (.RY w d x)|_=>none)
   |_=>none)
  | .max,[x,y]=>bnd (iO s L x) λx=>bnd (iO s L y) λy=>some (.mx x y)
  | .min,[x,y]=>bnd (iO s L x) λx=>bnd (iO s L y) λy=>some (.mn x y)
  |_,_=>none
 |_=>none
end
end
section
variable {P:Program} {s:Sl} {Y:YT} {L:List Tmp} {t:Tr AV} {l:List AV} {h:AH} {n:Nat} {f:FT}
theorem aY{x:Operand}{m:MO}(e:iO s L x=some m):(co s L x).run t l=gN m t l:=by
 cases x with
 |tmp k=>
  have e:bc (s.S k) (some (.s k)) (bnd (idx k L) λj=>some (.v j))=some m:=e;show(KL s L k).run t l=_;unfold KL;cases hS:s.S k with
  |true=>rw[hS]at e;cases e;rfl
  |false=>
   rw[hS,gu]at e;obtain⟨j,e1,e2⟩:=aB e;cases e2
   rw[e1];rfl
 |const v=>
  obtain⟨a,e1,e2⟩:=aB (show bnd (RF v) (λa=>some (.c a))=some m from e);cases e2;exact e1
 |global g=>cases e
 |func g=>cases e;rfl
theorem xL:∀{xs:List Operand}{ms:List MO},Jv s L xs=some ms->(col s L xs).run t l=DU ms t l
 |[],_,e=>by cases e;rfl
 |x::xs,_,e=>by
  obtain⟨a,e1,e2⟩:=aB (show bnd (iO s L x) (λa=>bnd (Jv s L xs) λb=>some (a::b))=some _ from e);obtain⟨b,e3,e4⟩:=aB e2;cases e4
  show bnd ((co s L x).run t l) (λa=>bnd ((col s L xs).run t l) λb=>some (a::b))=bnd (gN a t l) λa=>bnd (DU b t l) λb=>some (a::b);rw[aY e1,xL e3]
theorem qz{x:Option Operand}{m:Option MO}(e:TV s L x=some m):(tJ s L x).run t l=PE m t l:=by
 cases x with
 |none=>cases e;rfl
 |some x=>
  obtain⟨a,e1,e2⟩:=aB (show bnd (iO s L x) (λa=>some (some a))=some m from e);cases e2
  show(match(co s L x).run t l with|some (.i _ n)=>some (some n)|_=>none)=_;rw[aY e1];rfl
theorem Fv{pl:Nat->Option (Nat×Nat)}:∀{xs:List (Nat×Operand)}{fs:List (Nat×Nat×MO)},XP s L pl xs=some fs->∀c,(EN s L pl xs).run t l c=LP fs t l c
 |[],_,e,c=>by cases e;rfl
 |(k,x)::xs,_,e,c=>by
  obtain⟨p,e1,e2⟩:=aB (show bnd (pl k) (λp=>bnd (iO s L x) λa=>bnd (XP s L pl xs) λb=>some ((p.1,p.2,a)::b))=some _ from e);obtain⟨a,e3,e4⟩:=aB e2;obtain⟨b,e5,e6⟩:=aB e4;cases e6
  obtain⟨o,w⟩:=p;unfold EN;rw[e1];show bnd ((co s L x).run t l) _=bnd (gN a t l) _;rw[aY e3];cases gN a t l with
  |none=>rfl
  |some v=>
   show bnd (qM v) _=bnd (qM v) _;cases qM v with
   |none=>rfl
   |some u=>
    show bc (Nat.beq (mU u) w) _ none=bc (Nat.beq (mU u) w) _ none;cases Nat.beq (mU u) w with
    |false=>rfl
    |true=>
     show bnd (u_ u o c) _=bnd (u_ u o c) _;cases u_ u o c with
     |none=>rfl
     |some c=>exact Fv e5 c
theorem RZ{ty:TypeId}{w:Option Nat}(e:PI P ty=some w):ldN P ty=wN w:=by
 unfold PI at e;unfold ldN;cases hd:P.underlying ty with
 |none=>rw[hd]at e;cases e
 |some d=>rw[hd]at e;cases d<;>(cases e;rfl)
theorem BS{ty:TypeId}{w:Option Nat}(e:PI P ty=some w)(l:List AV)(o:Nat):(KM P ty).run l o=KQ w l o:=by
 unfold PI at e;unfold KM;cases hd:P.underlying ty with
 |none=>rw[hd]at e;cases e
 |some d=>rw[hd]at e;cases d<;>(cases e;rfl)
end
end
section
section
variable {P:Program} {s:Sl} {Y:YT} {L:List Tmp} {t:Tr AV} {l:List AV} {h:AH} {n:Nat} {f:FT}
theorem LQ{o:Oper}{i:MI}(e:PK P s L o=some i):(cop P s Y L o).run f t l h n=i.run P Y f t l h n:=by
 unfold PK at e;unfold cop;split at e
 .rename_i x ho
  obtain⟨a,e1,e2⟩:=aB e;cases e2;rw[ho];show ok1 ((co s L x).run t l) h n=_;rw[aY e1];rfl
 .rename_i x ho
  obtain⟨a,e1,e2⟩:=aB e;cases e2;rw[ho];show ok1 ((co s L x).run t l) h n=_;rw[aY e1];rfl
 .rename_i c a b ho
  obtain⟨c',e1,e⟩:=aB e;obtain⟨a',e2,e⟩:=aB e;obtain⟨b',e3,e⟩:=aB e;cases e
  rw[ho];simp only[Dj,MI.run,aY e1,aY e2,aY e3];try rfl
 .rename_i ty ho
  obtain⟨z,e1,e⟩:=aB e;obtain⟨e2,e⟩:=bI e;cases e
  rw[ho];simp only[ET,MI.run,e1,aM,e2,bF];try rfl
 .rename_i ty x ho
  obtain⟨a,e1,e⟩:=aB e;cases e;rw[ho];simp only[Tz,MI.run,aY e1];try rfl
 .rename_i ty ps ho
  obtain⟨pl,e1,e⟩:=aB e;obtain⟨z,e2,e⟩:=aB e;obtain⟨fs,e3,e⟩:=aB e;cases e
  rw[ho];simp only[yu,e1,MI.run,e2,aM,Fv e3];try rfl
 .rename_i ty len ps ho
  rw[ho];unfold kM;split at e
  case h_2=>cases e
  rename_i el hu;obtain⟨z,e1,e⟩:=aB e;obtain⟨w,e2,e⟩:=aB e;obtain⟨e3,e⟩:=bI e;obtain⟨e4,e⟩:=bI e;obtain⟨fs,e5,e⟩:=aB e;cases e
  simp only[hu,MI.run,e1,e2,aM,e3,e4,bF,Fv e5];try rfl
 .rename_i ty a ho
  obtain⟨w,e1,e⟩:=aB e;obtain⟨a',e2,e⟩:=aB e;cases e
  rw[ho];simp only[Dl,MI.run,aY e2,yc,BS e1,RZ e1];try rfl
 .rename_i ty a x ho
  obtain⟨w,e1,e⟩:=aB e;obtain⟨a',e2,e⟩:=aB e;obtain⟨x',e3,e⟩:=aB e;cases e
  rw[ho];simp only[EU,MI.run,aY e2,aY e3,e1];try rfl
 .rename_i x ho
  obtain⟨a,e1,e⟩:=aB e;cases e;rw[ho];simp only[qj,MI.run,aY e1];try rfl
 .rename_i op ty x y yt ho
  obtain⟨a,e1,e⟩:=aB e;obtain⟨b,e2,e⟩:=aB e;cases e
  rw[ho];simp only[Bg,MI.run,aY e1,aY e2];try rfl
 .rename_i ty x ho
  obtain⟨a,e1,e⟩:=aB e;cases e;rw[ho];simp only[O7,MI.run,aY e1];try rfl
 .rename_i ty x ho
  obtain⟨a,e1,e⟩:=aB e;cases e;rw[ho];simp only[O8,MI.run,aY e1];try rfl
 .rename_i c d x ho
  obtain⟨a,e1,e⟩:=aB e;rw[ho];unfold oL;split at e
  .cases e;simp only[*,MI.run];rw[aY e1];try rfl
  .cases e;simp only[*,MI.run];rw[aY e1];try rfl
  .obtain⟨e2,e⟩:=bI e
   cases e;simp only[*,MI.run,bF];rw[aY e1];try rfl
  .cases e
 .rename_i ty x ho
  obtain⟨a,e1,e⟩:=aB e;rw[ho];simp only[iJ,aY e1];split at e
  .cases e
  .rename_i hd hn
   cases e
   simp only[MI.run];try rfl
   rw[hn];split
   .rename_i q hq;cases hq;exact absurd rfl (hd _)
   .rfl
   .rename_i q;cases q
  .cases e
 .rename_i g cs ho
  obtain⟨a,e1,e⟩:=aB e;cases e;rw[ho];simp only[qm,MI.run,xL e1];try rfl
 .rename_i ty ho
  cases e;rw[ho];rfl
 .rename_i ty k v ho
  rw[ho];simp only[qo];split at e
  .cases e;simp only[*,MI.run];try rfl
  .cases e
 .rename_i ty x y ho
  obtain⟨a,e1,e⟩:=aB e;obtain⟨b,e2,e⟩:=aB e;rw[ho];unfold mX;split at e
  .rename_i el i z h1 h2 h3
   obtain⟨e3,e⟩:=bI e;obtain⟨e4,e⟩:=bI e;cases e
   simp only[h1,h2,h3,e3,e4,bF,MI.run,aY e1,aY e2];try rfl
  .cases e
 .rename_i ty x lo hi ho
  obtain⟨a,e1,e⟩:=aB e;obtain⟨lo',e2,e⟩:=aB e;obtain⟨hi',e3,e⟩:=aB e;rw[ho];unfold yw;split at e
  .cases e;simp only[*,MI.run];rw[aY e1,qz e2,qz e3];try rfl
  .obtain⟨w,e4,e⟩:=aB e
   cases e;simp only[*,MI.run];rw[aY e1,qz e2,qz e3];try rfl
  .obtain⟨w,e4,e⟩:=aB e
   cases e;simp only[*,MI.run];rw[aY e1,qz e2,qz e3];try rfl
  .cases e
 .rename_i ty x k ho
  obtain⟨a,e1,e⟩:=aB e;obtain⟨d,e2,e⟩:=aB e;obtain⟨w,e3,e⟩:=aB e;rw[ho];simp only[jL,e2,e3];cases hz:Nat.beq w 0 with
  |true=>rw[hz]at e;cases e
  |false=>rw[hz]at e;cases e;simp only[gu,MI.run,aY e1];try rfl
 .rename_i ty x k ho
  obtain⟨a,e1,e⟩:=aB e;obtain⟨d,e2,e⟩:=aB e;obtain⟨w,e3,e⟩:=aB e;cases e
  rw[ho];simp only[yx,e2,MI.run,aY e1,BS e3];try rfl
 .rename_i ty x ix ho
  obtain⟨a,e1,e⟩:=aB e;obtain⟨b,e2,e⟩:=aB e;rw[ho];unfold jM;split at e
  .obtain⟨w,e4,e⟩:=aB e
   cases e;simp only[*,MI.run];rw[aY e1,aY e2];try rfl
  .obtain⟨w,e4,e⟩:=aB e
   cases e;simp only[*,MI.run];rw[aY e1,aY e2];try rfl
  .cases e
 .rename_i ty x ix ho
  obtain⟨a,e1,e⟩:=aB e;obtain⟨b,e2,e⟩:=aB e;rw[ho];unfold yA;split at e
  .cases e;simp only[*,MI.run];rw[aY e1,aY e2];try rfl
  .obtain⟨w,e4,e⟩:=aB e
   obtain⟨lw,e5,e⟩:=aB e;cases e;simp only[*,MI.run,BS e5];rw[aY e1,aY e2];try rfl
  .cases e
 .rename_i ty x k ok ho
  obtain⟨a,e1,e⟩:=aB e;obtain⟨b,e2,e⟩:=aB e;rw[ho];unfold tK;split at e
  .cases e;simp only[*,MI.run];rw[aY e1,aY e2];try rfl
  .cases e
 .rename_i ty m k x ho
  obtain⟨a,e1,e⟩:=aB e;obtain⟨b,e2,e⟩:=aB e;obtain⟨c,e3,e⟩:=aB e;rw[ho];simp only[jN];split at e
  .cases e;simp only[*,MI.run];rw[aY e1,aY e2,aY e3];try rfl
  .cases e
 .rename_i ty m k x ho
  obtain⟨a,e1,e⟩:=aB e;obtain⟨b,e2,e⟩:=aB e;obtain⟨c,e3,e⟩:=aB e;rw[ho];simp only[jN];split at e
  .cases e;simp only[*,MI.run];rw[aY e1,aY e2,aY e3];try rfl
  .cases e
 .rename_i x k ho
  obtain⟨a,e1,e⟩:=aB e;cases e;rw[ho];simp only[oM,MI.run,aY e1];try rfl
 .rename_i ty x ho
  obtain⟨a,e1,e⟩:=aB e;rw[ho];unfold Bh;split at e
  .cases e;simp only[*,MI.run];rw[aY e1];try rfl
  .cases e
 .rename_i x ho
  obtain⟨a,e1,e⟩:=aB e;cases e;rw[ho];simp only[Ho,MI.run,aY e1];try rfl
 .rename_i x ho
  obtain⟨a,e1,e⟩:=aB e;cases e;rw[ho];simp only[Bj,MI.run,aY e1];try rfl
 .rename_i g args ts ho
  obtain⟨a,e1,e⟩:=aB e;obtain⟨b,e2,e⟩:=aB e;cases e
  rw[ho];simp only[Hf,MI.run,aY e1,xL e2];try rfl
 .rename_i x nm args ts ho
  obtain⟨a,e1,e⟩:=aB e;obtain⟨b,e2,e⟩:=aB e;cases e
  rw[ho];simp only[tL,MI.run,aY e1,xL e2];try rfl
 .rename_i b args ts ho
  rw[ho];split at e
  .rename_i x ha
   simp only[ha];split at e
   .rename_i ty ht
    simp only[ht];obtain⟨a,e1,e⟩:=aB e;unfold K9;split at e
    .cases e;simp only[*,MI.run];rw[aY e1];try rfl
    .cases e;simp only[*,MI.run];rw[aY e1];try rfl
    .cases e;simp only[*,MI.run];rw[aY e1];try rfl
    .cases e;simp only[*,MI.run];rw[aY e1];try rfl
    .cases e
   .cases e
  .rename_i a x ha
   simp only[ha];split at e
   .rename_i ty EW ht
    simp only[ht];obtain⟨a',e1,e⟩:=aB e;obtain⟨x',e2,e⟩:=aB e;unfold xG;split at e
    .rename_i el i z h1 h2 h3
     obtain⟨e3,e⟩:=bI e;obtain⟨e4,e⟩:=bI e;cases hz:Nat.beq i.size 0 with
     |true=>rw[hz]at e;cases e
     |false=>
      rw[hz]at e;obtain⟨e5,e⟩:=bI (show bc (Nat.ble i.bytes 65536) _ none=_ from e);cases e
      simp only[h1,h2,h3,e3,e4,hz,e5,bF,gu,MI.run,aY e1,aY e2];try rfl
    .cases e
   .cases e
  .rename_i d x ha
   simp only[ha];split at e
   .rename_i ty r ht
    simp only[ht];obtain⟨a',e1,e⟩:=aB e;obtain⟨x',e2,e⟩:=aB e;unfold Hl;split at e
    .obtain⟨w,e3,e⟩:=aB e
     cases e;simp only[*,MI.run];rw[aY e1,aY e2];try rfl
    .cases e
   .cases e
  .rename_i x y ha
   simp only[ha];obtain⟨a,e1,e⟩:=aB e;obtain⟨b,e2,e⟩:=aB e;cases e
   simp only[K_,MI.run,aY e1,aY e2];try rfl
  .rename_i x y ha
   simp only[ha];obtain⟨a,e1,e⟩:=aB e;obtain⟨b,e2,e⟩:=aB e;cases e
   simp only[La,MI.run,aY e1,aY e2];try rfl
  .cases e
 .cases e
end
end
noncomputable section
inductive MD where
 |n
 |k (d:Nat)
 |l
structure MR where
 g:Option (MO×Bool)
 i:MI
 d:MD
structure MQ where
 k:Nat
 r:Bool
 ks:List Nat
 g:Option (MO×Bool)
 i:MI
inductive MC where
 |skip
 |reg (l:List MR)
 |yM (K:Nat) (l:List MQ) (ck:List (Nat×Nat)) (wr:List (Nat×Tmp))
 |seq (a b:MC)
 |cond (c:MO) (a b:MC)
 |blk (id:Nat) (a:MC)
 |loop (a:MC)
 |exit (id:Nat)
 |ret
 |rng (r:MO) (ps:List Tmp) (fH body:Code)
def BU(g:Option (MO×Bool))(t:Tr AV)(l:List AV):Option Bool:=match g with
 |none=>some true
 |some (x,w)=>match gN x t l with|some (.b x)=>some (bc w x (qh x))|some _=>some false|none=>none
def R3{α:Type}(d:MD)(t:Tr AV)(l:List AV)(v:AV)(K:Tr AV->List AV->α):α:=match d with
 | .n=>K t l
 | .k d=>K ((pp 20 d).run v t) l
 | .l=>K t (v::l)
section
variable (P:Program) (Y:YT)
def oU:List MR->FT->AH->Nat->Tr AV->List AV->fq
 |[],_,h,n,t,_=>.ok .bW h n t
 |o::r,f,h,n,t,l=>match BU o.g t l with
  |none=>.bad
  |some true=>mW (o.i.run P Y f t l h n) λv h n=>R3 o.d t l v λt l=>oU r f h n t l
  |some false=>R3 o.d t l (.bN []) λt l=>oU r f h n t l
def lG(i:Nat)(o:MQ)(f:FT)(t:Tr AV)(x:Nat)(h:AH)(n:Nat)(vs:List AV):eZ:=match o.k with
 |0=>aM ((Ld i o.ks).run vs) λl=>EG (BU o.g t l) (OW (o.i.run P Y f t l .z 0) λv _ _=>.ok v h n) (.ok (.bN []) h n)
 |1=>aM ((Ld i o.ks).run vs) λl=>EG (BU o.g t l) (OW (o.i.run P Y f t l h 0) λv _ _=>.ok v h n) (.ok (.bN []) h n)
 |2=>aM ((Ld i o.ks).run vs) λl=>EG (BU o.g t l) (OW (o.i.run P Y f t l .z x) λv h1 n1=>bc (Nat.beq n1 (Nat.succ x)) (aM (h1.get x) λob=>.ok v (h.set x ob) n) .bad) (.ok (.bN []) h n)
 |_=>aM ((Ld i o.ks).run vs) λl=>EG (BU o.g t l) (o.i.run P Y f t l h n) (.ok (.bN []) h n)
def vK:List MQ->Nat->Nat->FT->Tr AV->Nat->AH->Nat->List AV->List (Nat×AH)->Bl
 |[],_,_,_,_,_,h,n,vs,hs=>.ok h n vs hs
 |o::l,j,r,f,t,n0,h,n,vs,hs=>match o.k with
  |3=>ou (lG P Y j o f t 0 h n vs) λv h n=>vK l (j+1) r f t n0 h n (v::vs) ((j+1,h)::hs)
  |2=>ou (lG P Y j o f t (Nat.add n0 r) h n vs) λv h n=>vK l (j+1) (r+1) f t n0 h n (v::vs) hs
  |1=>(match o.r with
   |true=>ou (lG P Y j o f t 0 h n vs) λv _ _=>vK l (j+1) r f t n0 h n (v::vs) hs
   |false=>(match hs with
    |[]=>.bad
    |x::_=>ou (lG P Y j o f t 0 x.2 n vs) λv _ _=>vK l (j+1) r f t n0 h n (v::vs) hs))
  |_=>ou (lG P Y j o f t 0 h n vs) λv h n=>vK l (j+1) r f t n0 h n (v::vs) hs
def TW(ops:List MQ):List (Nat×Nat)->FT->Tr AV->List AV->List (Nat×AH)->Bool
 |[],_,_,_,_=>true
 |x::l,f,t,vs,hs=>bc (match ops[x.1]? with
  |some o=>(match Dp x.2 hs,(Dh (ops.length - 1 - x.1)).run vs with
   |some H,some v=>(match lG P Y ops.length o f t 0 H 0 vs with| .ok v' _ _=>Ja v v'| .bad=>false)
   |_,_=>false)
  |none=>false) (TW ops l f t vs hs) false
def Jw(i:Nat):List (Nat×Tmp)->List AV->Tr AV->Option (Tr AV)
 |[],_,t=>some t
 |x::l,vs,t=>bnd ((Dh (i - 1 - x.1)).run vs) λv=>Jw i l vs ((pp 20 x.2).run v t)
def Fw(K:Nat)(l:List MQ)(ck:List (Nat×Nat))(wr:List (Nat×Tmp))(f:FT)(h:AH)(n:Nat)(t:Tr AV):fq:=
 match vK P Y l 0 0 f t n h (Nat.add n K) [] [(0,h)]with
 | .bad=>.bad
 | .ok h1 n1 vs hs=>bc (TW P Y l ck f t vs hs) (@Option.rec (Tr AV) (λ_=>fq) .bad (λt1=>.ok .bW h1 n1 t1) (Jw l.length wr vs t)) .bad
def MC.run(g:FuncId):MC->FT->AH->Nat->Tr AV->fq
 | .skip,_,h,n,t=>.ok .bW h n t
 | .reg l,f,h,n,t=>oU P Y l f h n t []
 | .yM K l ck wr,f,h,n,t=>Fw P Y K l ck wr f h n t
 | .seq a b,f,h,n,t=>iQ (a.run g f h n t) λx h n t=>Df x (b.run g f h n t) (.ok x h n t)
 | .cond c a b,f,h,n,t=>match gN c t []with
  |some (.b x)=>bc x (a.run g f h n t) (b.run g f h n t)
  |_=>.bad
 | .blk id a,f,h,n,t=>iQ (a.run g f h n t) λx h n t=>match x with
  | .exit j=>bc (Nat.beq j id) (.ok .bW h n t) (.ok (.exit j) h n t)
  |x=>.ok x h n t
 | .loop a,f,h,n,t=>oO 1125899906842624 ⟨a.run g⟩ f h n t
 | .exit id,_,h,n,t=>.ok (.exit id) h n t
 | .ret,_,h,n,t=>.ok .ret h n t
 | .rng r ps fH body,f,h,n,t=>match gN r t []with
  |some (.f q cap)=>mW (f q (.y n::cap) (h.set n (.lp .ready none g t ps fH body)) (Nat.succ n)) λ_ h2 n2=>Hr n h2 n2 t
  |_=>.bad
end
section
variable (P:Program)
def R4(s:Sl)(L:List Tmp)(ops:Array Oper):Option (Nat×Bool)->Option (Option (MO×Bool))
 |none=>some none
 |some (j,w)=>bnd ((ops[j]?).bind (·.dst)) λd=>bnd (iO s L (.tmp d)) λx=>some (some (x,w))
def cmD(s:Sl):Option Tmp->Option MD
 |none=>some .n
 |some d=>bc (Nat.ble (Nat.succ d) s.N) (some (bc (s.S d) (.k d) .l)) none
def XQ(s:Sl)(ops:Array Oper):List Oper->List Tmp->Option (List MR)
 |[],_=>some []
 |o::l,L=>bnd (R4 s L ops o.guard) λg=>bnd (PK P s L o) λi=>bnd (cmD s o.dst) λd=>bnd (XQ s ops l (O_ s o.dst L)) λr=>some (⟨g,i,d⟩::r)
def TY(s:Sl)(ops:Array Oper)(W:List (Nat×Tmp))(A E B:List Nat):List Oper->Nat->Option (List MQ)
 |[],_=>some []
 |o::l,j=>bnd (R4 (jO s W A j) ((lT W A j (zQ ops.toList o)).map (·.2)) ops o.guard) λg=>bnd (PK P (jO s W A j) ((lT W A j (zQ ops.toList o)).map (·.2)) o) λi=>
  bnd (TY s ops W A E B l (j+1)) λr=>some (⟨dM o.op,I_ E B A j,(lT W A j (zQ ops.toList o)).map (·.1),g,i⟩::r)
def Wv(s:Sl):List (Nat×Tmp)->List (Nat×Tmp)
 |[]=>[]
 |x::l=>bc (s.S x.2) (x::Wv s l) (Wv s l)
def T9(s:Sl)(ops:Array Oper):Option MC:=
 bc (Xn s ops (vk ops.toList 0) (kK ops.toList) (iF 3 ops.toList 0) (iF 2 ops.toList 0))
  (bnd (TY P s ops (vk ops.toList 0) (kK ops.toList) (iF 3 ops.toList 0) (iF 2 ops.toList 0) ops.toList 0) λl=>
   some (.yM (kOf (iF 2 ops.toList 0)) l (pairs (iF 3 ops.toList 0) (iF 1 ops.toList 0) (kK ops.toList)) (Wv s (vk ops.toList 0)))) none
def yN(s:Sl):Code->Option MC
 | .skip=>some .skip
 | .region _ ops d=>bc d (T9 P s ops) (bnd (XQ P s ops ops.toList []) λl=>some (.reg l))
 | .seq a b=>bnd (yN s a) λa=>bnd (yN s b) λb=>some (.seq a b)
 | .cond c a b=>bnd (iO s [] c) λc=>bnd (yN s a) λa=>bnd (yN s b) λb=>some (.cond c a b)
 | .block id a=>bnd (yN s a) λa=>some (.blk id a)
 | .loop a=>bnd (yN s a) λa=>some (.loop a)
 | .label _=>some .skip
 | .exit id=>some (.exit id)
 | .ret=>some .ret
 | .rangeFunc r ps fH body=>bnd (iO s [] r) λr=>some (.rng r ps.toList fH body)
 | .scope a=>yN s a
 |_=>none
end
end
section
variable {P:Program} {sl:FuncId->Sl} {s:Sl} {Y:YT} {L:List Tmp} {t:Tr AV} {l:List AV} {h:AH} {n:Nat} {f:FT}
theorem LU{ops:Array Oper}{g:Option (Nat×Bool)}{m:Option (MO×Bool)}(e:R4 s L ops g=some m):(Hq s L ops g).run t l=BU m t l:=by
 cases g with
 |none=>cases e;rfl
 |some g=>
  obtain⟨j,w⟩:=g;obtain⟨d,e1,e⟩:=aB (show bnd ((ops[j]?).bind (·.dst)) (λd=>bnd (iO s L (.tmp d)) λx=>some (some (x,w)))=some m from e);obtain⟨x,e2,e⟩:=aB e;cases e
  simp only[Hq,e1,BU,aY e2];rfl
theorem LV{d:Option Tmp}{m:MD}{v:AV}{K:Tr AV->List AV->fq}(e:cmD s d=some m):(RJ s d).run t l v K=R3 m t l v K:=by
 cases d with
 |none=>cases e;rfl
 |some d=>
  obtain⟨e1,e⟩:=bI (show bc (Nat.ble (Nat.succ d) s.N) (some (bc (s.S d) (MD.k d) .l)) none=some m from e);cases e
  show(bc (Nat.ble (Nat.succ d) s.N) _ _:TA).run t l v K=_;rw[e1,bF];cases s.S d<;>rfl
theorem LW{ops:Array Oper}:∀{lo:List Oper}{L:List Tmp}{r:List MR},XQ P s ops lo L=some r->∀(h:AH)(n:Nat)(t:Tr AV)(l:List AV),(Dn P s Y ops lo L).run f h n t l=oU P Y r f h n t l
 |[],L,r,e,h,n,t,l=>by cases e;rfl
 |o::lo,L,r,e,h,n,t,l=>by
  obtain⟨g,e1,e⟩:=aB (show bnd (R4 s L ops o.guard) (λg=>bnd (PK P s L o) λi=>bnd (cmD s o.dst) λd=>bnd (XQ P s ops lo (O_ s o.dst L)) λr=>some (⟨g,i,d⟩::r))=some r from e);obtain⟨i,e2,e⟩:=aB e;obtain⟨d,e3,e⟩:=aB e;obtain⟨r',e4,e⟩:=aB e;cases e
  have ih:=LW e4;have hg:=LU (t:=t) (l:=l) e1;have yes:mW ((cop P s Y L o).run f t l h n) (λv h n=>(RJ s o.dst).run t l v λt l=>(Dn P s Y ops lo (O_ s o.dst L)).run f h n t l)=mW (i.run P Y f t l h n) λv h n=>R3 d t l v λt l=>oU P Y r' f h n t l:=by
   rw[LQ e2];cases i.run P Y f t l h n with
   |bad=>rfl
   |ok v h n=>
    show(RJ s o.dst).run t l v _=R3 d t l v _;rw[LV e3];congr 1;funext t l;exact ih h n t l
  have no:(RJ s o.dst).run t l (.bN []) (λt l=>(Dn P s Y ops lo (O_ s o.dst L)).run f h n t l)=R3 d t l (.bN []) λt l=>oU P Y r' f h n t l:=by
   rw[LV e3];congr 1;funext t l;exact ih h n t l
  show(@Option.rec (Nat×Bool) (λ_=>Cg) _ _ o.guard:Cg).run f h n t l=_;rw[oU];cases hgd:o.guard with
  |none=>
   rw[hgd]at e1;cases e1;exact yes
  |some gd=>
   rw[hgd]at hg;show@Option.rec Bool (λ_=>fq) fq.bad (λb=>bc b _ _) ((Hq s L ops (some gd)).run t l)=_;rw[hg];cases BU g t l with
   |none=>rfl
   |some b=>
    cases b with
    |true=>exact yes
    |false=>exact no
theorem Ie{ops:Array Oper}{W:List (Nat×Tmp)}{A:List Nat}{i j:Nat}{o:Oper}{q:MQ}(hk:q.k=dM o.op)(hks:q.ks=(lT W A j (zQ ops.toList o)).map (·.1))
 (hg:R4 (jO s W A j) ((lT W A j (zQ ops.toList o)).map (·.2)) ops o.guard=some q.g)(hi:PK P (jO s W A j) ((lT W A j (zQ ops.toList o)).map (·.2)) o=some q.i)(x:Nat)(h:AH)(n:Nat)(vs:List AV):
 (lU P s Y ops W A i j o).run f t x h n vs=lG P Y i q f t x h n vs:=by
 have h1:∀l,(Hq (jO s W A j) ((lT W A j (zQ ops.toList o)).map (·.2)) ops o.guard).run t l=BU q.g t l:=λl=>LU hg;have h2:∀f t l h n,(cop P (jO s W A j) Y ((lT W A j (zQ ops.toList o)).map (·.2)) o).run f t l h n=q.i.run P Y f t l h n:=λf t l h n=>LQ hi;unfold lU lG;dsimp only;rw[hk,hks];rcases lY o.op with e|e|e|e<;>rw[e]<;>simp only[h1,h2]<;>rfl
theorem Ig{ops:Array Oper}{W:List (Nat×Tmp)}{A E B:List Nat}:∀{lo:List Oper}{j:Nat}{q:List MQ},TY P s ops W A E B lo j=some q->∀(r n0:Nat)(h:AH)(n:Nat)(vs:List AV)(hs:List (Nat×AH)),
 (zW P s Y ops W A E B lo j r).run f t n0 h n vs hs=vK P Y q j r f t n0 h n vs hs
 |[],j,q,e,r,n0,h,n,vs,hs=>by cases e;rfl
 |o::lo,j,q,e,r,n0,h,n,vs,hs=>by
  obtain⟨g,e1,e⟩:=aB (show bnd (R4 (jO s W A j) ((lT W A j (zQ ops.toList o)).map (·.2)) ops o.guard) (λg=>bnd (PK P (jO s W A j) ((lT W A j (zQ ops.toList o)).map (·.2)) o) λi=>
   bnd (TY P s ops W A E B lo (j+1)) λr=>some (⟨dM o.op,I_ E B A j,(lT W A j (zQ ops.toList o)).map (·.1),g,i⟩::r))=some q from e)
  obtain⟨i,e2,e⟩:=aB e;obtain⟨q',e3,e⟩:=aB e;cases e
  have ih:=Ig e3;have hd:∀x h n vs,(lU P s Y ops W A j j o).run f t x h n vs=lG P Y j ⟨dM o.op,I_ E B A j,(lT W A j (zQ ops.toList o)).map (·.1),g,i⟩ f t x h n vs:=λx h n vs=>Ie rfl rfl e1 e2 x h n vs;show(bc (Nat.beq (dM o.op) 3) _ (bc (Nat.beq (dM o.op) 2) _ (bc (Nat.beq (dM o.op) 1) (bc (I_ E B A j) _ _) _)):Dk).run f t n0 h n vs hs=_;rw[vK.eq_def];dsimp only;have cg:∀(x:eZ)(F G:AV->AH->Nat->Bl),(∀v h n,F v h n=G v h n)->ou x F=ou x G:=λx F G h=>by
   cases x with
   |bad=>rfl
   |ok v a b=>exact h v a b
  rcases lY o.op with e|e|e|e<;>rw[e]at hd⊢
  .refine Eq.trans (congrArg (λz=>ou z _) (hd _ _ _ _)) (cg _ _ _ λv h n=>ih _ _ _ _ _ _)
  .cases hr:I_ E B A j with
   |true=>
    rw[hr]at hd;refine Eq.trans (congrArg (λz=>ou z _) (hd _ _ _ _)) (cg _ _ _ λv _ _=>ih _ _ _ _ _ _)
   |false=>
    rw[hr]at hd;cases hs with
    |nil=>rfl
    |cons x hs=>refine Eq.trans (congrArg (λz=>ou z _) (hd _ _ _ _)) (cg _ _ _ λv _ _=>ih _ _ _ _ _ _)
  .refine Eq.trans (congrArg (λz=>ou z _) (hd _ _ _ _)) (cg _ _ _ λv h n=>ih _ _ _ _ _ _)
  .refine Eq.trans (congrArg (λz=>ou z _) (hd _ _ _ _)) (cg _ _ _ λv h n=>ih _ _ _ _ _ _)
theorem BX{ops:Array Oper}{W:List (Nat×Tmp)}{A E B:List Nat}:∀{lo:List Oper}{j:Nat}{q:List MQ},TY P s ops W A E B lo j=some q->q.length=lo.length/\∀k o,lo[k]?=some o->∃m,q[k]?=some m/\m.k=dM o.op/\m.ks=(lT W A (j+k) (zQ ops.toList o)).map (·.1)/\
 R4 (jO s W A (j+k)) ((lT W A (j+k) (zQ ops.toList o)).map (·.2)) ops o.guard=some m.g/\PK P (jO s W A (j+k)) ((lT W A (j+k) (zQ ops.toList o)).map (·.2)) o=some m.i
 |[],j,q,e=>by cases e;exact⟨rfl,λk o h=>by simp at h⟩
 |o::lo,j,q,e=>by
  obtain⟨g,e1,e⟩:=aB (show bnd (R4 (jO s W A j) ((lT W A j (zQ ops.toList o)).map (·.2)) ops o.guard) (λg=>bnd (PK P (jO s W A j) ((lT W A j (zQ ops.toList o)).map (·.2)) o) λi=>
   bnd (TY P s ops W A E B lo (j+1)) λr=>some (⟨dM o.op,I_ E B A j,(lT W A j (zQ ops.toList o)).map (·.1),g,i⟩::r))=some q from e)
  obtain⟨i,e2,e⟩:=aB e;obtain⟨q',e3,e⟩:=aB e;cases e
  obtain⟨h1,h2⟩:=BX e3;refine⟨by simp[h1],λk o' hk=>?_⟩;cases k with
  |zero=>cases hk;exact⟨_,rfl,rfl,rfl,e1,e2⟩
  |succ k=>
   have:=h2 k o' hk;rw[show j+1+k=j+(k+1) by omega]at this;exact this
theorem LY{ops:Array Oper}{W:List (Nat×Tmp)}{A E B:List Nat}{q:List MQ}(e:TY P s ops W A E B ops.toList 0=some q){vs:List AV}{hs:List (Nat×AH)}:∀(l:List (Nat×Nat)),(yB P s Y ops W A l).run f t vs hs=TW P Y q l f t vs hs
 |[]=>rfl
 |x::l=>by
  obtain⟨h1,h2⟩:=BX e;have h1:q.length=ops.size:=by rw[h1];simp
  show bc ((ck1 P s Y ops W A x.1 x.2).run f t vs hs) ((yB P s Y ops W A l).run f t vs hs) false=_;rw[TW,LY e l];congr 1;unfold ck1;cases ho:ops[x.1]? with
  |none=>
   have:q[x.1]?=none:=by rw[List.getElem?_eq_none_iff,h1];exact Array.getElem?_eq_none_iff.1 ho
   rw[this]
  |some o=>
   obtain⟨m,g1,g2,g3,g4,g5⟩:=h2 x.1 o (by rw[Array.getElem?_toList];exact ho);rw[Nat.zero_add]at g3 g4 g5;rw[g1,h1];dsimp only;cases Dp x.2 hs with
   |none=>rfl
   |some H=>
    cases (Dh (ops.size - 1 - x.1)).run vs with
    |none=>rfl
    |some v=>dsimp only;rw[Ie g2 g3 g4 g5];rfl
theorem BZ{i:Nat}{vs:List AV}:∀(W:List (Nat×Tmp))(t:Tr AV),(Bo s i W).run vs t=Jw i (Wv s W) vs t
 |[],_=>rfl
 |x::l,t=>by
  show(bc (s.S x.2) _ (Bo s i l):PdF).run vs t=Jw i (bc (s.S x.2) (x::Wv s l) (Wv s l)) vs t;cases s.S x.2 with
  |false=>exact BZ l t
  |true=>
   show bnd ((Dh (i - 1 - x.1)).run vs) _=bnd ((Dh (i - 1 - x.1)).run vs) _;congr 1;funext v;exact BZ l _
theorem PL{ops:Array Oper}{m:MC}(g:FuncId)(e:T9 P s ops=some m):(Jb P s Y ops).run f h n t=m.run P Y g f h n t:=by
 obtain⟨e1,e⟩:=bI e;obtain⟨l,e2,e⟩:=aB e;cases e
 unfold Jb;dsimp only;rw[e1,bF];dsimp only;show _=Fw P Y _ l _ _ f h n t;unfold Fw;rw[Ig e2];obtain⟨h1,_⟩:=BX e2;have h1:l.length=ops.size:=by rw[h1];simp
 cases vK P Y l 0 0 f t n h (Nat.add n (kOf (iF 2 ops.toList 0))) [] [(0,h)]with
 |bad=>rfl
 |ok h1' n1 vs hs=>
  dsimp only;rw[LY e2,BZ,h1]
theorem LZ{d:MD}{t:Tr AV}{l:List AV}{v:AV}{K:Tr AV->List AV->fq}{j:Nat}{h':AH}{n':Nat}{t':Tr AV}(hK:∀t l,K t l= .ok (.goto j) h' n' t'->False)(e:R3 d t l v K= .ok (.goto j) h' n' t'):False:=by
 cases d<;>exact hK _ _ e
theorem B_{j:Nat}{h':AH}{n':Nat}{t':Tr AV}:∀{r:List MR}{h:AH}{n:Nat}{t:Tr AV}{l:List AV},oU P Y r f h n t l= .ok (.goto j) h' n' t'->False
 |[],h,n,t,l,e=>by cases e
 |o::r,h,n,t,l,e=>by
  rw[oU]at e;split at e
  .cases e
  .obtain⟨v,h1,n1,e1,e2⟩:=xH e
   exact LZ (λt l e=>B_ e) e2
  .exact LZ (λt l e=>B_ e) e
theorem su{g:FuncId}{j:Nat}{h':AH}{n':Nat}{t':Tr AV}:∀{m:MC}{h:AH}{n:Nat}{t:Tr AV},m.run P Y g f h n t= .ok (.goto j) h' n' t'->False
 | .skip,h,n,t,e=>by cases e
 | .reg l,h,n,t,e=>B_ e
 | .yM K l ck wr,h,n,t,e=>by
  have e:Fw P Y K l ck wr f h n t= .ok (.goto j) h' n' t':=e;unfold Fw at e;split at e
  .cases e
  .rename_i h1 n1 vs hs _
   cases hc:TW P Y l ck f t vs hs with
   |false=>rw[hc]at e;cases e
   |true=>
    rw[hc]at e;cases hp:Jw l.length wr vs t with
    |none=>rw[hp]at e;cases e
    |some t1=>rw[hp]at e;cases e
 | .seq a b,h,n,t,e=>by
  obtain⟨x,h1,n1,t1,e1,e2⟩:=ji (show iQ (a.run P Y g f h n t) _=_ from e);cases x with
  |bW=>exact su (m:=b) e2
  |goto i=>exact su (m:=a) e1
  |exit i=>cases e2
  |ret=>cases e2
 | .cond c a b,h,n,t,e=>by
  have e:(match gN c t []with|some (.b x)=>bc x (a.run P Y g f h n t) (b.run P Y g f h n t)|_=>.bad)= .ok (.goto j) h' n' t':=e;split at e
  .rename_i x _
   cases x
   .exact su (m:=b) e
   .exact su (m:=a) e
  .cases e
 | .blk id a,h,n,t,e=>by
  obtain⟨x,h1,n1,t1,e1,e2⟩:=ji (show iQ (a.run P Y g f h n t) _=_ from e);cases x with
  |bW=>cases e2
  |goto i=>exact su (m:=a) e1
  |exit i=>
   have e2:bc (Nat.beq i id) (fq.ok .bW h1 n1 t1) (.ok (.exit i) h1 n1 t1)= .ok (.goto j) h' n' t':=e2;cases hb:Nat.beq i id<;>rw[hb]at e2<;>cases e2
  |ret=>cases e2
 | .loop a,h,n,t,e=>by
  have key:∀(K:Nat)(h:AH)(n:Nat)(t:Tr AV),oO K ⟨a.run P Y g⟩ f h n t= .ok (.goto j) h' n' t'->False:=by
   intro K;induction K with
   |zero=>intro h n t e;cases e
   |succ K ih=>
    intro h n t e;obtain⟨x,h1,n1,t1,e1,e2⟩:=ji (show iQ (a.run P Y g f h n t) (λx h n t=>Df x (oO K ⟨a.run P Y g⟩ f h n t) (.ok x h n t))=_ from e);cases x with
    |bW=>exact ih _ _ _ e2
    |goto i=>exact su (m:=a) e1
    |exit i=>cases e2
    |ret=>cases e2
  exact key _ _ _ _ e
 | .exit id,h,n,t,e=>by cases e
 | .ret,h,n,t,e=>by cases e
 | .rng r ps fH body,h,n,t,e=>by
  have e:(match gN r t []with|some (.f q cap)=>mW (f q (.y n::cap) (h.set n (.lp .ready none g t ps fH body)) (Nat.succ n)) (λ_ h2 n2=>Hr n h2 n2 t)|_=>.bad)= .ok (.goto j) h' n' t':=e;split at e
  .obtain⟨v,h1,n1,e1,e2⟩:=xH e
   obtain⟨_,pd,_,_,_,_,_,_,_,_,_,_,e3⟩:=LH e2;rcases e3 with⟨_,e3⟩|⟨_,e3⟩|⟨_,_,e3⟩<;>cases e3
  .cases e
theorem lH(g:FuncId):∀{c:Code}{m:MC},yN P (sl g) c=some m->∀f h n t,(cc P sl g Y c).run f h n t=m.run P Y g f h n t
 | .skip,m,e,f,h,n,t=>by cases e;rfl
 | .region id ops d,m,e,f,h,n,t=>by
  cases d with
  |true=>exact PL g (show T9 P (sl g) ops=some m from e)
  |false=>
   obtain⟨l,e1,e⟩:=aB (show bnd (XQ P (sl g) ops ops.toList []) (λl=>some (MC.reg l))=some m from e);cases e
   exact LW e1 h n t []
 | .seq a b,m,e,f,h,n,t=>by
  obtain⟨a',e1,e⟩:=aB (show bnd (yN P (sl g) a) (λa=>bnd (yN P (sl g) b) λb=>some (MC.seq a b))=some m from e);obtain⟨b',e2,e⟩:=aB e;cases e
  show iQ ((cc P sl g Y a).run f h n t) _=iQ (a'.run P Y g f h n t) _;rw[lH g e1];congr 1;funext x h n t;rw[lH g e2]
 | .cond c a b,m,e,f,h,n,t=>by
  obtain⟨c',e0,e⟩:=aB (show bnd (iO (sl g) [] c) (λc=>bnd (yN P (sl g) a) λa=>bnd (yN P (sl g) b) λb=>some (MC.cond c a b))=some m from e);obtain⟨a',e1,e⟩:=aB e;obtain⟨b',e2,e⟩:=aB e;cases e
  show(match(co (sl g) [] c).run t []with|some (.b x)=>bc x ((cc P sl g Y a).run f h n t) ((cc P sl g Y b).run f h n t)|_=>.bad)=match gN c' t []with|some (.b x)=>bc x (a'.run P Y g f h n t) (b'.run P Y g f h n t)|_=>.bad
  rw[aY e0,lH g e1,lH g e2]
 | .block id a,m,e,f,h,n,t=>by
  obtain⟨a',e1,e⟩:=aB (show bnd (yN P (sl g) a) (λa=>some (MC.blk id a))=some m from e);cases e
  show iQ ((cc P sl g Y a).run f h n t) _=iQ (a'.run P Y g f h n t) _;rw[lH g e1];rfl
 | .loop a,m,e,f,h,n,t=>by
  obtain⟨a',e1,e⟩:=aB (show bnd (yN P (sl g) a) (λa=>some (MC.loop a))=some m from e);cases e
  show oO 1125899906842624 (cc P sl g Y a) f h n t=oO 1125899906842624 ⟨a'.run P Y g⟩ f h n t;congr 1;have:(cc P sl g Y a).run=a'.run P Y g:=by funext f h n t;exact lH g e1 f h n t
  rw[<-this]
 | .label _,m,e,f,h,n,t=>by cases e;rfl
 | .exit id,m,e,f,h,n,t=>by cases e;rfl
 | .ret,m,e,f,h,n,t=>by cases e;rfl
 | .rangeFunc r ps fH body,m,e,f,h,n,t=>by
  obtain⟨r',e1,e⟩:=aB (show bnd (iO (sl g) [] r) (λr=>some (MC.rng r ps.toList fH body))=some m from e);cases e
  show(match(co (sl g) [] r).run t []with|some (.f q cap)=>mW (f q (.y n::cap) (h.set n (.lp .ready none g t ps.toList fH body)) (Nat.succ n)) (λ_ h2 n2=>Hr n h2 n2 t)|_=>.bad)=_;rw[aY e1];rfl
 | .goto _,m,e,f,h,n,t=>by cases e
 | .scope a,m,e,f,h,n,t=>by
  show iQ ((cc P sl g Y a).run f h n t) (λx h n t=>match x with
   | .goto _=>.bad
   |x=>.ok x h n t)=_
  rw[lH g (show yN P (sl g) a=some m from e)];cases hr:m.run P Y g f h n t with
  |bad=>rfl
  |ok x h1 n1 t1=>
   cases x with
   |goto i=>exact(su hr).elim
   |bW=>rfl
   |exit i=>rfl
   |ret=>rfl
 | .refuse _,m,e,f,h,n,t=>by cases e
end
end Go.Proofs.YtjoohkjmoghmoaaGreatDoor
