/- part -/
import Derived.Test.YtjoohkjmoghmoaaGreatDoorP03
import Derived.LoopNIn
import Derived.Scope
set_option linter.all false
namespace Go.Proofs.YtjoohkjmoghmoaaGreatDoor
section
section
variable {F:Fence} {n:Nat} {P:Program} {b:Frame} {a:Act} {k:List Item} {cs:List Frame} {w:World} {Q:Exit->Act->World->Prop}
theorem iG{c:Code}:step P (lone (b.atR a (.code (.scope c)::k)) cs w)= .next (lone (b.atR a (.code c:: .inScope c::k)) cs w):=
 step_lone_go (by simp[stepG,stepG.exec,Frame.atR])
theorem zU{c:Code}:step P (lone (b.atR a (.inScope c::k)) cs w)= .next (lone (b.atR a k) cs w):=
 step_lone_go (by simp[stepG,stepG.exec,Frame.atR])
theorem qL{c:Code}(h:c.wpIn F n P (Exit.noGoto Q) a w):(Code.scope c).wpIn F n P Q a w:=by
 intro b k cs hro hb hr;have h0:(lone (b.atR a (.code (.scope c)::k)) cs w).fenced P F:=fenced_calm hb hr rfl;obtain⟨e,a₁,w₁,hq,harr⟩:=h b (.inScope c::k) cs hro hb hr;cases e with
 |normal=>exact⟨.normal,a₁,w₁,hq,.head h0 iG (StepsIn.trans harr (.one (fenced_calm hb hr rfl) zU))⟩
 |exit id=>
  have hx:exitTo id (.inScope c::k)=exitTo id k:=by simp[exitTo]
  exact⟨.exit id,a₁,w₁,hq,λk' hk=>.head h0 iG (harr.1 k' (by rw[hx];exact hk)),λhr' hk=>let⟨k₁,h1,h2⟩:=harr.2 hr' (by rw[hx];exact hk);⟨k₁,h1,.head h0 iG h2⟩⟩
 |goto l=>exact hq.elim
 |ret=>exact⟨_,a₁,w₁,hq,.of_steps (.one h0 iG) harr⟩
 |panic ch=>exact⟨_,a₁,w₁,hq,.of_steps (.one h0 iG) harr⟩
 |outgrown=>exact⟨_,a₁,w₁,hq,.of_steps (.one h0 iG) harr⟩
theorem run_enterLoop_inner{l:Nat}{q:Loop}(fn:FuncId)(tmps:Array Value)(ps:Array Tmp)(assign body:Code)(e:w.heap[l]?=some (.loop q)):
 (Instr.enterLoop fn tmps ps assign body (some l)).run P w= .ok (w.heap.size,[]) (w.alloc (.loop {state:=.ready,pending:=none,fn,tmps,params:=ps,assign,body,defers:=q.defers})):=by
 unfold Instr.enterLoop;simp only[Sem.run_bind,run_getLoop e,run_newObj_alloc,Result.andThen,Sem.run_pure]
end
def Ls:Ex->Exit
 | .bT=>.normal
 | .exit id=>.exit id
 | .goto l=>.goto l
 | .ret=>.ret
def nS(lo:Nat)(B:List Deferred)(θ:Th)(h:AH)(w:World)(ds:List Deferred):Prop:=
 ∃pre,ds=pre++B/\pre.Pairwise (λd e=>d≠e)/\∀d∈pre,∃b,d={target:=.collected b,args:=#[]}/\lo<=b/\w.heap[b]?=some (.deferred (some []))/\¬Im θ h b
def Rd(r:Option Nat)(w:World):Prop:=∀l,r=some l->∃q,w.heap[l]?=some (.loop q)
section
variable {P:Program} {sl:FuncId->Sl} {θ bP:Th} {h h':AH} {n n':Nat} {w w':World} {lo:Nat} {B:List Deferred} {ds:List Deferred} {r:Option Nat}
theorem nS.fr(D:nS lo B θ h w ds)(F:Fr θ h w bP h' w'):nS lo B bP h' w' ds:=
 let⟨pre,e0,D1,D2⟩:=D
 ⟨pre,e0,D1,λd hd=>let⟨b,e1,e2,e3,e4⟩:=D2 d hd;⟨b,e1,e2,(F.block b (bG e3) e4).trans e3,λhi=>(F.from_ b hi).elim e4 (λhs=>by have:=bG e3;omega)⟩⟩
theorem Rd.fr(D:Rd r w)(F:Fr θ h w bP h' w'):Rd r w':=λl e=>let⟨q,hq⟩:=D l e;F.kind l q hq
theorem RH.Xi(H:RH P sl θ h n w){k:Nat}(hi:Im θ h k):k<w.heap.size:=by
 obtain⟨x,c,hx,hr⟩:=hi;obtain⟨o,ho⟩:=Option.isSome_iff_exists.1 (gH hx);obtain⟨r,c',ob,h1,h2,_⟩:=H.at_ x o ho;rw[hr]at h1;cases h1;exact bG h2
theorem RH.extra(H:RH P sl θ h n w)(o:Obj):RH P sl θ h n (w.alloc o)/\Fr θ h w θ h (w.alloc o):=by
 have hheap:∀k,k<w.heap.size->(w.alloc o).heap[k]?=w.heap[k]?:=λk hk=>by
  show(w.heap.push o)[k]?=_;rw[Array.getElem?_push,if_neg (by omega)]
 refine H.WO (λx a e=>?_) H.inj H.new ⟨rfl,rfl,rfl,by show _<=(w.heap.push o).size;simp,λk hk _=>hheap k hk,iq.refl _,λk e=>.inl e,λk q e=>⟨q,(hheap k (bG e)).trans e⟩,λ_ _ e e'=>absurd e e',λ_ _ e=>e⟩;obtain⟨r,c,ob,h1,h2,h3⟩:=H.at_ x a e;exact⟨r,c,ob,h1,(hheap r (bG h2)).trans h2,h3⟩
theorem RH.loop(H:RH P sl θ h n w){x:Nat}{st:LoopState}{pd:Option Code}{g:FuncId}{t:Tr AV}{ps:List Tmp}{fH body:Code}(e:h.get x=some (.lp st pd g t ps fH body)):
 ∃r c q,θ x=some (r,c)/\w.heap[r]?=some (.loop q)/\q.state=st/\q.pending=pd/\q.params=ps.toArray/\q.assign=fH/\q.body=body/\RT (sl g) θ t q.tmps/\
  ∀st' TA,RH P sl θ (h.set x (.lp st' TA g t ps fH body)) n (w.putObj r (.loop {q with state:=st',pending:=TA}))/\Fr θ h w θ (h.set x (.lp st' TA g t ps fH body)) (w.putObj r (.loop {q with state:=st',pending:=TA})):=by
 obtain⟨r,c,ob,h1,h2,fn,tm,df,h3,h4⟩:=H.at_ x _ e;subst h3;refine⟨r,c,_,h1,h2,rfl,rfl,rfl,rfl,rfl,h4,λst' TA=>?_⟩;refine H.turn e h1 (o':=.lp st' TA g t ps fH body) (zP:=.loop {state:=st',pending:=TA,fn:=fn,tmps:=tm,params:=ps.toArray,assign:=fH,body:=body,defers:=df}) ⟨fn,tm,df,rfl,h4⟩ rfl rfl rfl (by simp) (λk=>?_) (λ_ _ _=>⟨_,rfl⟩);by_cases hk:k=r
 .subst hk;rw[if_pos rfl];exact World.putObj_heap_same (bG h2)
 .rw[if_neg hk];exact World.putObj_heap_other hk
end
section
variable (P:Program) (sl:FuncId->Sl) (Y:YT) (f:FT) (r:Option Nat) (m lo:Nat) (B:List Deferred) (g:FuncId)
def Xj(c:Code)(run:FT->AH->Nat->Tr AV->eZ):Prop:=∀{θ:Th}{h:AH}{n:Nat}{w:World}{t:Tr AV}{ac:Act}{x:Ex}{h':AH}{n':Nat}{t':Tr AV}{Q:Exit->Act->World->Prop},
 run f h n t= .ok x h' n' t'->RT (sl g) θ t ac.tmps->RH P sl θ h n w->nS lo B θ h w ac.defers->lo<=w.heap.size->Rd r w->
 (∀bP a' w',RT (sl g) bP t' a'.tmps->RH P sl bP h' n' w'->nS lo B bP h' w' a'.defers->Fr θ h w bP h' w'->Q (Ls x) a' w')->c.wpIn (FR r) m P Q ac w
end
section
variable {P:Program} {sl:FuncId->Sl} {Y:YT} {f:FT} {r:Option Nat} {m lo:Nat} {B:List Deferred} {g:FuncId}
theorem Ht{c:Code}{b:Cc}(ih:Xj P sl f r m lo B g c b.run):∀(k:Nat){θ:Th}{h:AH}{n:Nat}{w:World}{t:Tr AV}{ac:Act}{x:Ex}{h':AH}{n':Nat}{t':Tr AV}{Q:Exit->Act->World->Prop},
 oL k b f h n t= .ok x h' n' t'->RT (sl g) θ t ac.tmps->RH P sl θ h n w->nS lo B θ h w ac.defers->lo<=w.heap.size->Rd r w->
 (∀bP a' w',RT (sl g) bP t' a'.tmps->RH P sl bP h' n' w'->nS lo B bP h' w' a'.defers->Fr θ h w bP h' w'->Q (Ls x) a' w')->Code.roundsIn (FR r) m P c Q k ac w
 |0,_,_,_,_,_,_,_,_,_,_,_,e,_,_,_,_,_,_=>by cases e
 |k+1,θ,h,n,w,t,ac,x,h',n',t',Q,e,hT,H,D,hlo,hR,hQ=>by
  obtain⟨x1,h1,n1,t1,e1,e2⟩:=jh (show iO (b.run f h n t) (λx h n t=>CQ x (oL k b f h n t) (.ok x h n t))= .ok x h' n' t' from e);rw[roundsIn_succ];refine ih e1 hT H D hlo hR λn_ a1 w1 T1 H1 D1 F1=>?_;cases x1 with
  |bT=>exact Ht ih k (show oL k b f h1 n1 t1=_ from e2) T1 H1 D1 (Nat.le_trans hlo F1.size) (hR.fr F1) λAX a2 w2 T2 H2 D2 F2=>hQ AX a2 w2 T2 H2 D2 (F1.trans F2)
  |exit id=>cases e2;exact hQ n_ a1 w1 T1 H1 D1 F1
  |goto l=>cases e2;exact hQ n_ a1 w1 T1 H1 D1 F1
  |ret=>cases e2;exact hQ n_ a1 w1 T1 H1 D1 F1
theorem Lu{l:Nat}{h h':AH}{n n':Nat}{t t':Tr AV}{x:Ex}(e:G6 l h n t= .ok x h' n' t'):∃st pd g u ps fH body,h.get l=some (.lp st pd g u ps fH body)/\h'=h.set l (.lp .exhausted pd g u ps fH body)/\n'=n/\t'=t/\st≠ .busy/\
 ((pd=none/\x= .bT)\/(pd=some .ret/\x= .ret)\/∃id,pd=some (.exit id)/\x= .exit id):=by
 unfold G6 at e;split at e
 .rename_i g u ps fH body hg;cases e;exact⟨_,_,_,_,_,_,_,hg,rfl,rfl,rfl,by decide,.inl ⟨rfl,rfl⟩⟩
 .rename_i g u ps fH body hg;cases e;exact⟨_,_,_,_,_,_,_,hg,rfl,rfl,rfl,by decide,.inr (.inl ⟨rfl,rfl⟩)⟩
 .rename_i id g u ps fH body hg;cases e;exact⟨_,_,_,_,_,_,_,hg,rfl,rfl,rfl,by decide,.inr (.inr ⟨id,rfl,rfl⟩)⟩
 .cases e
theorem Dr(hf:Good P sl f){θ:Th}{h:AH}{n:Nat}{w:World}{t:Tr AV}{ac:Act}{x:Ex}{h':AH}{n':Nat}{t':Tr AV}{Q:Exit->Act->World->Prop}{q:FuncId}{cap:List AV}{vs:List Value}{ps:Array Tmp}{fH body:Code}{fn:FuncId}{df:Nat}{rr:Operand}{ds:List Deferred}
 {W:World}(hW:W=w.alloc (.loop {state:=.ready,pending:=none,fn:=fn,tmps:=ac.tmps,params:=ps,assign:=fH,body:=body,defers:=df}))
 (e:mQ (f q (.y n::cap) (h.set n (.lp .ready none g t ps.toList fH body)) (Nat.succ n)) (λ_ h2 n2=>G6 n h2 n2 t)= .ok x h' n' t')
 (hv:eU θ cap vs)(hrr:ac.eval rr= .func (.func q) #[] vs.toArray)(hP:qK P)
 (hT:RT (sl g) θ t ac.tmps)(H:RH P sl θ h n w)(D:nS lo B θ h w ds)
 (hQ:∀bP a' w',RT (sl g) bP t' a'.tmps->RH P sl bP h' n' w'->nS lo B bP h' w' a'.defers->Fr θ h w bP h' w'->Q (Ls x) a' w'):
 ∃(d:Deferred)(w1':World)(f':FuncId)(args:Array Value)(w2:World),
  (resolve ac.eval (rangeCall rr w.heap.size) 0).run P W= .ok d w1'/\
  (∀f',Target.leads P w1' d.target d.args=some f'->(FR r).fn f')/\
  (invoke d.target d.args).run P w1'= .ok (.enter f' args) w2/\
  ((FR r).depth.isSome=true->1<=m)/\
  CallsIn (FR r) (m - 1) P f' args w2 (rangePost (FR r) m P w.heap.size Q {ac with defers:=ds}):=by
 obtain⟨v,h2,n2,e1,e2⟩:=xw e;obtain⟨⟨fn',c,hq,hbd⟩,hcall⟩:=hf _ _ _ _ _ _ _ e1;obtain⟨H1,F1⟩:=H.alloc 0 (o:=.lp .ready none g t ps.toList fH body) (obj:=.loop {state:=.ready,pending:=none,fn:=fn,tmps:=ac.tmps,params:=ps,assign:=fH,body:=body,defers:=df})
  ⟨fn,ac.tmps,df,by simp,hT⟩
 rw[<-hW]at H1 F1;replace hcall:=hcall _ _ (.func (.yield w.heap.size) #[] #[]::vs) H1 ⟨_,_,⟨_,_,Th.cZ _ _ _,rfl⟩,hv.mono F1.le,rfl⟩;have hne:¬fn'.name= "runtime.NumGoroutine":=by simpa using hP.2 _ _ hq
 refine⟨{target:=.fn (.func q) vs.toArray,args:=#[.func (.yield w.heap.size) #[] #[]]},W,q,(.func (.yield w.heap.size) #[] #[]::vs).toArray,W,?_,λ_ _=>trivial,?_,λhd=>by simp[FR,Fence.wide]at hd,(mY r hcall).mono ?_⟩
 .have ha:(rangeCall rr w.heap.size).args.map ac.eval=#[.func (.yield w.heap.size) #[] #[]]:=by
   show Array.map ac.eval #[.const (.func (.yield w.heap.size) #[] #[])]=_;rw[List.map_toArray];rfl
  show(Deferred.ofValue (ac.eval rr) ((rangeCall rr w.heap.size).args.map ac.eval)).run P W=_;rw[ha,hrr];simp[Deferred.ofValue]
 .simp[invoke,callFunc,hq,hbd,hne]
 .rintro e3 w3 ⟨TB,u,rfl,q1,q2,q3⟩
  obtain⟨st,pd,g1,u1,ps1,wV,nR,k1,rfl,rfl,rfl,k2,k3⟩:=Lu e2;obtain⟨r1,c1,lr,j1,j2,j3,j4,j5,j6,j7,j8,j9⟩:=q2.loop k1;have:TB n=some (w.heap.size,0):=q3.le _ _ (Th.cZ _ _ _);rw[j1]at this;cases this;obtain⟨H4,F4⟩:=j9 .exhausted lr.pending;have hend:=run_endLoop (P:=P) j2 (by rw[j3];exact k2);have F:=(F1.trans q3).trans F4;rw[j4]at H4 F hend;refine⟨_,_,hend,?_⟩;have key:∀a':Act,a'={ac with defers:=ds}->Q (Ls x) a' _:=λa' ha=>by
   subst ha;exact hQ TB _ _ (hT.mono F.le) H4 (D.fr F) F
  rcases k3 with⟨rfl,rfl⟩|⟨rfl,rfl⟩|⟨id,rfl,rfl⟩
  .exact key _ rfl
  .exact wpIn_ret (key _ rfl)
  .exact wpIn_exit (key _ rfl)
theorem kM(hP:qK P)(hf:Good P sl f)(hY:wE P sl Y f):∀(c:Code),Xj P sl f r m lo B g c (cc P sl g Y c).run
 | .skip,θ,h,n,w,t,ac,x,h',n',t',Q,e,hT,H,D,hlo,hR,hQ=>by
  cases e;exact wpIn_skip (hQ θ ac w hT H D (Fr.refl _ _ _))
 | .label l,θ,h,n,w,t,ac,x,h',n',t',Q,e,hT,H,D,hlo,hR,hQ=>by
  cases e;exact wpIn_label (hQ θ ac w hT H D (Fr.refl _ _ _))
 | .exit l,θ,h,n,w,t,ac,x,h',n',t',Q,e,hT,H,D,hlo,hR,hQ=>by
  cases e;exact wpIn_exit (hQ θ ac w hT H D (Fr.refl _ _ _))
 | .goto l,θ,h,n,w,t,ac,x,h',n',t',Q,e,hT,H,D,hlo,hR,hQ=>by
  cases e;exact wpIn_goto (hQ θ ac w hT H D (Fr.refl _ _ _))
 | .ret,θ,h,n,w,t,ac,x,h',n',t',Q,e,hT,H,D,hlo,hR,hQ=>by
  cases e;exact wpIn_ret (hQ θ ac w hT H D (Fr.refl _ _ _))
 | .refuse _,θ,h,n,w,t,ac,x,h',n',t',Q,e,hT,H,D,hlo,hR,hQ=>by cases e
 | .region id ops d,θ,h,n,w,t,ac,x,h',n',t',Q,e,hT,H,D,hlo,hR,hQ=>by
  cases d with
  |true=>
   exact Pb hP hP.1 r m hf hY (show(IX P (sl g) Y ops).run f h n t=_ from e) hT H λbP a' w' hx T' hd H' F'=>by
    subst hx;exact hQ bP a' w' T' H' (by rw[hd];exact D.fr F') F'
  |false=>
   refine wpIn_region ?_;rw[List.range_eq_range',show ops.size=ops.toList.length by simp];exact Bw hP r m hf hY ops.toList 0 (λj=>by simp) (show(C8 P (sl g) Y ops ops.toList []).run f h n t []=_ from e) hT (LR.nil _ _ _) H λbP a' w' hx T' hd H' F'=>by
    subst hx;exact hQ bP a' w' T' H' (by rw[hd];exact D.fr F') F'
 | .seq a b,θ,h,n,w,t,ac,x,h',n',t',Q,e,hT,H,D,hlo,hR,hQ=>by
  obtain⟨x1,h1,n1,t1,e1,e2⟩:=jh (show iO ((cc P sl g Y a).run f h n t) (λx h n t=>CQ x ((cc P sl g Y b).run f h n t) (.ok x h n t))= .ok x h' n' t' from e);refine wpIn_seq (kM hP hf hY a e1 hT H D hlo hR λn_ a1 w1 T1 H1 D1 F1=>?_);cases x1 with
  |bT=>exact kM hP hf hY b (show(cc P sl g Y b).run f h1 n1 t1=_ from e2) T1 H1 D1 (Nat.le_trans hlo F1.size) (hR.fr F1) λAX a2 w2 T2 H2 D2 F2=>hQ AX a2 w2 T2 H2 D2 (F1.trans F2)
  |exit id=>cases e2;exact hQ n_ a1 w1 T1 H1 D1 F1
  |goto l=>cases e2;exact hQ n_ a1 w1 T1 H1 D1 F1
  |ret=>cases e2;exact hQ n_ a1 w1 T1 H1 D1 F1
 | .cond c a b,θ,h,n,w,t,ac,x,h',n',t',Q,e,hT,H,D,hlo,hR,hQ=>by
  rw[cc]at e;simp only at e;split at e
  .rename_i v hv
   have hc:ac.eval c= .bool v:=bF hv hT (LR.nil _ _ _);refine wpIn_cond hc ?_;cases v with
   |true=>exact kM hP hf hY a e hT H D hlo hR hQ
   |false=>exact kM hP hf hY b e hT H D hlo hR hQ
  .cases e
 | .block id a,θ,h,n,w,t,ac,x,h',n',t',Q,e,hT,H,D,hlo,hR,hQ=>by
  rw[cc]at e;obtain⟨x1,h1,n1,t1,e1,e2⟩:=jh e;refine wpIn_block (kM hP hf hY a e1 hT H D hlo hR λn_ a1 w1 T1 H1 D1 F1=>?_);cases x1 with
  |bT=>cases e2;exact hQ n_ a1 w1 T1 H1 D1 F1
  |exit j=>
   show if j=id then Q .normal a1 w1 else Q (.exit j) a1 w1
   cases hj:Nat.beq j id with
   |true=>
    simp only[hj,bD]at e2;rw[if_pos (Nat.eq_of_beq_eq_true hj)];cases e2;exact hQ n_ a1 w1 T1 H1 D1 F1
   |false=>
    simp only[hj,fU]at e2;rw[if_neg (λhh=>by rw[hh,Nat.beq_refl]at hj;cases hj)];cases e2;exact hQ n_ a1 w1 T1 H1 D1 F1
  |goto l=>cases e2;exact hQ n_ a1 w1 T1 H1 D1 F1
  |ret=>cases e2;exact hQ n_ a1 w1 T1 H1 D1 F1
 | .loop a,θ,h,n,w,t,ac,x,h',n',t',Q,e,hT,H,D,hlo,hR,hQ=>by
  rw[cc]at e;exact wpIn_loop_rounds 1125899906842624 (Ht (kM hP hf hY a) 1125899906842624 e hT H D hlo hR hQ)
 | .scope a,θ,h,n,w,t,ac,x,h',n',t',Q,e,hT,H,D,hlo,hR,hQ=>by
  rw[cc]at e;obtain⟨x1,h1,n1,t1,e1,e2⟩:=jh e;refine qL (kM hP hf hY a e1 hT H D hlo hR λn_ a1 w1 T1 H1 D1 F1=>?_);cases x1 with
  |goto l=>cases e2
  |bT=>cases e2;exact hQ n_ a1 w1 T1 H1 D1 F1
  |exit j=>cases e2;exact hQ n_ a1 w1 T1 H1 D1 F1
  |ret=>cases e2;exact hQ n_ a1 w1 T1 H1 D1 F1
 | .rangeFunc rr ps fH body,θ,h,n,w,t,ac,x,h',n',t',Q,e,hT,H,D,hlo,hR,hQ=>by
  rw[cc]at e;simp only at e;split at e
  .rename_i q cap hv
   obtain⟨vs,hvs,hrr⟩:=bF hv hT (LR.nil _ _ _)
   .refine wpIn_rangeFunc λfn _=>?_
    cases r with
    |none=>
     obtain⟨H1,F1⟩:=H.extra (.deferred (some []));have D1:nS lo B θ h (w.alloc (.deferred (some []))) ([{target:=.collected w.heap.size,args:=#[]}]++ac.defers):=by
      obtain⟨pre,e0,D1,D2⟩:=D.fr F1;refine⟨{target:=.collected w.heap.size,args:=#[]}::pre,by rw[e0];rfl,List.pairwise_cons.2 ⟨?_,D1⟩,?_⟩
      .rintro d hd rfl
       obtain⟨pre',e0',_,D4⟩:=D;obtain rfl:=List.append_cancel_right (e0.symm.trans e0');obtain⟨b,e1,_,e3,_⟩:=D4 _ hd;cases e1
       exact absurd (bG e3) (Nat.lt_irrefl _)
      .intro d hd
       rcases List.mem_cons.1 hd with rfl|hd
       .exact⟨_,rfl,hlo,World.alloc_heap_new _ _,λhi=>absurd (H.Xi hi) (Nat.lt_irrefl _)⟩
       .exact D2 d hd
     obtain⟨d,w1',f',args,w2,k1,k2,k3,k4,k5⟩:=Dr (r:=none) (m:=m) (fn:=fn) (df:=w.heap.size) hf rfl e hvs hrr hP hT H1 D1 λbP a' w' T' H' D' F'=>hQ bP a' w' T' H' D' (F1.trans F');rw[World.size_alloc]at k1 k5;exact⟨_,_,_,d,w1',f',args,w2,run_enterLoop_outer _ _ _ _ _,k1,k2,k3,k4,k5⟩
    |some l=>
     obtain⟨lq,hl⟩:=hR l rfl;obtain⟨d,w1',f',args,w2,k1,k2,k3,k4,k5⟩:=Dr (r:=some l) (m:=m) (fn:=fn) (df:=lq.defers) hf rfl e hvs hrr hP hT H D hQ;exact⟨_,_,_,d,w1',f',args,w2,run_enterLoop_inner _ _ _ _ _ hl,k1,k2,k3,k4,k5⟩
  .cases e
end
end
section
section
variable {P:Program} {sl:FuncId->Sl} {θ:Th} {h h':AH} {n n':Nat} {w:World} {s:Sl} {t t':Tr AV} {f:FT} {v:AV} {Y:YT} {tm:Array Value}
theorem Hu{d:Tmp}{u:Value}(e:(uU s d).run t v=some t')(hT:RT s θ t tm)(hv:aV θ v u):d<s.N/\RT s θ t' (tm.setIfInBounds d u):=by
 unfold uU at e;cases hb:Nat.ble (Nat.succ d) (s.N)with
 |false=>rw[hb,fU]at e;cases e
 |true=>
  rw[hb,bD]at e;have hd:d+1<=s.N:=Nat.le_of_ble_eq_true hb;refine⟨hd,?_⟩;cases hS:s.S d with
  |true=>
   rw[hS,bD]at e;cases e;exact RT.put (ac:={tmps:=tm,defers:=[]}) hT hd hv hS
  |false=>
   rw[hS,fU]at e;cases e;exact RT.skip (ac:={tmps:=tm,defers:=[]}) hT hS
theorem Dt:∀{ps:List Tmp}{l:List AV}{vs:List Value}{t t':Tr AV}{tm:Array Value},wB s ps l t=some t'->eU θ l vs->RT s θ t tm->vs.length=ps.length/\RT s θ t' ((ps.zip vs).foldl (λtm x=>tm.setIfInBounds x.1 x.2) tm)
 |[],[],_,t,t',tm,e,hv,hT=>by cases e;cases hv;exact⟨rfl,hT⟩
 |k::ks,v::l,_,t,t',tm,e,hv,hT=>by
  obtain⟨u,vs,h1,h2,rfl⟩:=hv;obtain⟨t1,e1,e2⟩:=aB (show bnd ((uU s k).run t v) (λt=>wB s ks l t)=some t' from e);obtain⟨_,hT1⟩:=Hu e1 hT h1;obtain⟨g1,g2⟩:=Dt e2 h2 hT1;exact⟨by simp[g1],g2⟩
 |[],_::_,_,_,_,_,e,_,_=>by cases e
 |_::_,[],_,_,_,_,e,_,_=>by cases e
theorem Pf(r:Nat):FR (some r)=Fence.wide.inRound r:=rfl
theorem Xm{x:Nat}{k:Ex}{R:Ending->World->Prop}{r c:Nat}{a':Act}(e:yE x k h n= .ok v h' n')(H:RH P sl θ h n w)(hr:θ x=some (r,c))
 (hR:∀b w',v= .b b->RH P sl θ h' n' w'->Fr θ h w θ h' w'->R (.returned (.bool b)) w'):roundPost P r R (Ls k) a' w:=by
 unfold yE at e;split at e
 .rename_i st pd g u ps fH body hg
  obtain⟨r1,c1,q,j1,j2,j3,j4,j5,j6,j7,j8,j9⟩:=H.loop hg;rw[hr]at j1;cases j1;cases k with
  |bT=>
   cases e
   obtain⟨H4,F4⟩:=j9 .ready none;exact⟨_,_,run_endRound none j2,hR true _ rfl H4 F4⟩
  |ret=>
   cases e
   obtain⟨H4,F4⟩:=j9 .done (some .ret);exact⟨_,_,run_endRound (some .ret) j2,hR false _ rfl H4 F4⟩
  |exit id=>
   cases e
   obtain⟨H4,F4⟩:=j9 .done (some (.exit id));exact⟨_,_,run_endRound (some (.exit id)) j2,hR false _ rfl H4 F4⟩
  |goto l=>cases e
 .cases e
theorem Hw(hP:qK P)(hf:Good P sl f):∀(k:Nat),wE P sl (yl P sl k) f
 |0=>λx args h n v h' n' e=>by cases e
 |k+1=>by
  intro x args h n v h' n' e θ w vs r c H ha hr;have ih:=Hw hP hf k;have e0:(match h.get x with
   |some (.lp .ready pd g t ps fH body)=>aJ (wB (sl g) ps args t) λt1=>
    oD ((cc P sl g (yl P sl k) fH).run f h n t1) λx1 h n t2=>match x1 with
     | .bT=>match h.get x with
      |some (.lp .ready pd g1 u1 ps1 wV nR)=>oD ((cc P sl g (yl P sl k) body).run f (h.set x (.lp .busy pd g1 u1 ps1 wV nR)) n t2) λx2 h n _=>yE x x2 h n
      |_=>.bad
     |_=>.bad
   |_=>.bad)=eY.ok v h' n':=e
  clear e;split at e0
  case h_2=>cases e0
  rename_i pd g t ps fH body hg;obtain⟨t1,e1,e2⟩:=aS e0;obtain⟨r1,c1,q,j1,j2,j3,j4,j5,j6,j7,j8,j9⟩:=H.loop hg;rw[hr]at j1;cases j1;obtain⟨g1,g2⟩:=Dt e1 ha j8;have hrun:=run_yield (P:=P) (l:=r) (args:=vs.toArray) j2 (by rw[j5];simpa using g1);have Xn:(q.params.zip vs.toArray).foldl (λtmps (x:Tmp×Value)=>tmps.setIfInBounds x.1 x.2) q.tmps=(ps.zip vs).foldl (λtm x=>tm.setIfInBounds x.1 x.2) q.tmps:=by
   rw[j5,<-Array.foldl_toList];simp
  refine⟨_,_,_,_,hrun,λm=>roundIn_of_wpIn trivial ?_⟩;obtain⟨x1,h1,n1,t2,e3,e4⟩:=mV e2;rw[<-Pf,j6,j7];have hT1:RT (sl g) θ t1 ((q.params.zip vs.toArray).foldl (λtmps (x:Tmp×Value)=>tmps.setIfInBounds x.1 x.2) q.tmps):=by rw[Xn];exact g2
  refine kM (lo:=w.heap.size) (B:=[]) hP hf ih fH e3 hT1 H ⟨[],rfl,List.Pairwise.nil,by simp⟩ (Nat.le_refl _) (λl hl=>by cases hl;exact⟨_,j2⟩) λn_ a1 w1 T1 H1 D1 F1=>?_;cases x1 with
  |exit id=>cases e4
  |goto l=>cases e4
  |ret=>cases e4
  |bT=>
   simp only at e4;split at e4
   case h_2=>cases e4
   rename_i pd2 g2' u2 ps2 acL Xp hg2;obtain⟨x2,h2,n2,t3,e5,e6⟩:=mV e4;obtain⟨r2,c2,q2,i1,i2,i3,i4,i5,i6,i7,i8,i9⟩:=H1.loop hg2;have:n_ x=some (r,c):=F1.le _ _ hr;rw[i1]at this;cases this;obtain⟨H2,F2⟩:=i9 .busy q2.pending;refine⟨_,run_beginRound i2 i3,?_⟩;rw[i4]at H2 F2;have hq:({q2 with state:=.busy}:Loop)={q2 with state:=.busy,pending:=pd2}:=by rw[<-i4]
   rw[hq];refine kM (lo:=w.heap.size) (B:=[]) hP hf ih body e5 T1 H2 (D1.fr F2) (Nat.le_trans F1.size F2.size) (λl hl=>by cases hl;exact F2.kind _ _ i2) λTB a3 w3 T3 H3 D3 F3=>?_;exact Xm e6 H3 (F3.le _ _ i1) λb w4 hb H4 F4=>⟨TB,_,rfl,by rw[hb];rfl,H4,((F1.trans F2).trans F3).trans F4⟩
def Lv(tm:Array Value):ResultVar->Sem Value
 | .tmp t=>pure (tm.getD t undef)
 | .cell a ty=>do loadVar ty (<-asAddr (tm.getD a undef))
theorem E8(fn:Func)(tm:Array Value):results fn tm=(do let vs <-fn.results.mapM (Lv tm);pure (if h:vs.size=1 then vs[0]else .tuple vs)):=rfl
theorem BI(hT:RT s θ t tm)(H:RH P sl θ h n w):∀{rs:List ResultVar}{l:List AV},(Bc P s rs).run t h=some l->
 ∃vs,(rs.mapM (Lv tm)).run P w= .ok vs w/\eU θ l vs
 |[],l,e=>by cases e;exact⟨[],rfl,rfl⟩
 | .tmp k::rs,l,e=>by
  obtain⟨a,e1,e2⟩:=aB (show bnd ((co s [] (.tmp k)).run t []) (λa=>bnd ((Bc P s rs).run t h) λb=>some (a::b))=some l from e);obtain⟨b,e3,e4⟩:=aB e2;cases e4
  have h1:aV θ a (tm.getD k undef):=bF (ac:={tmps:=tm,defers:=[]}) e1 hT (LR.nil _ _ _);obtain⟨vs,h2,h3⟩:=BI hT H e3;refine⟨_::vs,?_,⟨_,vs,h1,h3,rfl⟩⟩;rw[List.mapM_cons];simp only[Lv,Sem.run_bind,Sem.run_pure,Result.andThen,h2]
 | .cell a ty::rs,l,e=>by
  have e0:(match(co s [] (.tmp a)).run t []with|some (.p x o)=>bnd (xO P ty h x o) λa=>bnd ((Bc P s rs).run t h) λb=>some (a::b)|_=>none)=some l:=e;split at e0
  case h_2=>cases e0
  rename_i x o hx;obtain⟨a1,e1,e2⟩:=aB e0;obtain⟨b,e3,e4⟩:=aB e2;cases e4
  obtain⟨r,c,hr,hp⟩:aV θ (.p x o) (tm.getD a undef):=bF (ac:={tmps:=tm,defers:=[]}) hx hT (LR.nil _ _ _);obtain⟨u,g1,g2⟩:=Dc e1 hr H;obtain⟨vs,h2,h3⟩:=BI hT H e3;refine⟨u::vs,?_,⟨_,vs,g2,h3,rfl⟩⟩;have hx1:(Lv tm (.cell a ty)).run P w= .ok u w:=by
   simp only[Lv,Sem.run_bind,Sem.run_pure,Result.andThen,hp,asAddr,g1]
  rw[List.mapM_cons];simp only[Sem.run_bind,Sem.run_pure,Result.andThen,hx1,h2]
theorem Hy{fn:Func}(e:wW P s fn.results.toList t h=some v)(hT:RT s θ t tm)(H:RH P sl θ h n w):∃u,(results fn tm).run P w= .ok u w/\aV θ v u:=by
 obtain⟨l,e1,e2⟩:=aB e;obtain⟨vs,h1,h2⟩:=BI hT H e1;refine⟨if h:vs.toArray.size=1 then vs.toArray[0]else .tuple vs.toArray,?_,?_⟩
 .rw[E8,Array.mapM_eq_mapM_toList]
  simp only[Sem.run_bind,Sem.run_map,Sem.run_pure,Result.andThen,h1]
 .have hl:=h2.length
  split at e2
  .cases e2
   obtain⟨u,us,g1,g2,rfl⟩:=h2;cases g2
   exact g1
  .rename_i hne
   cases e2
   rw[dif_neg]
   .exact⟨vs,h2,rfl⟩
   .intro h3
    have:l.length=1:=by rw[<-hl];simpa using h3
    obtain⟨a,ha⟩:=List.length_eq_one_iff.1 this;exact hne a ha
theorem lY{fn:Func}{mZ:Th}{h0:AH}{w0:World}{R:Ending->World->Prop}{B:List Deferred}{lo:Nat}{u:FrameMode}(hu:u≠ .run)(hlo:w0.heap.size<=lo)(hR:∀w',RH P sl θ h n w'->Fr mZ h0 w0 θ h w'->LeavesInM Fence.wide 0 P fn tm R B u w'):
 ∀(pre:List Deferred)(w:World),pre.Pairwise (λd e=>d≠e)->(∀d∈pre,∃b,d={target:=.collected b,args:=#[]}/\lo<=b/\w.heap[b]?=some (.deferred (some []))/\¬Im θ h b)->RH P sl θ h n w->Fr mZ h0 w0 θ h w->LeavesInM Fence.wide 0 P fn tm R (pre++B) u w
 |[],w,_,_,H,F=>hR w H F
 |d::ds,w,D1,D2,H,F=>by
  obtain⟨b,rfl,e2,e3,e4⟩:=D2 _ (List.mem_cons_self ..);refine⟨hu,.inl ⟨b,_,rfl,run_takeDeferred e3,?_⟩⟩;have hb:=bG e3;have hoth:∀k,k≠b->(w.putObj b (.deferred none)).heap[k]?=w.heap[k]?:=λk hk=>World.putObj_heap_other hk;refine lY hu hlo hR ds _ (List.pairwise_cons.1 D1).2 (λd hd=>?_) ⟨λx o e=>?_,H.inj,H.new,λg e=>let⟨ty,q,e1,e2⟩:=H.gl g e;⟨ty,q,(hoth g (by rintro rfl;rw[e3]at e1;cases e1)).trans e1,e2⟩⟩ ⟨F.os,F.tape,F.output,by simpa using F.size,λk hk hn=>?_,F.le,F.from_,λk q e=>?_,F.low,F.ro⟩
  .obtain⟨b',g1,g2,g3,g4⟩:=D2 d (List.mem_cons_of_mem _ hd)
   refine⟨b',g1,g2,(hoth b' ?_).trans g3,g4⟩;rintro rfl;exact(List.pairwise_cons.1 D1).1 d hd g1.symm
  .obtain⟨r,c,ob,h1,h2,h3⟩:=H.at_ x o e
   refine⟨r,c,ob,h1,(hoth r ?_).trans h2,h3⟩;rintro rfl;cases hw:zN (some o)with
   |true=>exact e4 ⟨x,c,by rw[e];exact hw,h1⟩
   |false=>
    cases o with
    |ro f=>obtain⟨cs,t,fz,rfl,_⟩:=h3;rw[e3]at h2;cases h2
    |_=>cases hw
  .exact(hoth k (by omega)).trans (F.block k hk hn)
  .obtain⟨q',hq⟩:=F.kind k q e
   exact⟨q',(hoth k (by have:=bG e;omega)).trans hq⟩
theorem BJ{A:Array Value}:∀{l:List AV}{vs:List Value}{k:Nat}{t t':Tr AV},uX s k l t=some t'->eU θ l vs->(∀j u,vs[j]?=some u->A[k+j]?=some u)->RT s θ t A->RT s θ t' A
 |[],_,_,_,_,e,_,_,hT=>by cases e;exact hT
 |v::l,_,k,t,t',e,hv,hA,hT=>by
  obtain⟨u,vs,h1,h2,rfl⟩:=hv;obtain⟨t1,e1,e2⟩:=aB (show bnd ((uU s k).run t v) (λt=>uX s (k+1) l t)=some t' from e);obtain⟨_,hT1⟩:=Hu e1 hT h1;have hu:A[k]?=some u:=hA 0 u rfl;have:A.setIfInBounds k u=A:=by
   apply Array.ext_getElem?;intro i;rw[Array.getElem?_setIfInBounds];by_cases hi:k=i
   .subst hi
    have hk:k<A.size:=by
     rcases Nat.lt_or_ge k A.size with h|h
     .exact h
     .rw[Array.getElem?_eq_none h]at hu;cases hu
    rw[if_pos rfl,hu,if_pos hk]
   .rw[if_neg hi]
  rw[this]at hT1;exact BJ e2 h2 (λj u hj=>by have:=hA (j+1) u hj;rwa [show k+1+j=k+(j+1) by omega]) hT1
theorem RT.empty(s:Sl)(θ:Th){A:Array Value}(h:s.N<=A.size):RT s θ .z A:=⟨h,λ_ _ _ e=>by cases e⟩
theorem TD(hP:qK P)(hf:Good P sl f){g:FuncId}{args:List AV}(e:(Ti P sl g).run f args h n= .ok v h' n'):
 (∃fn c,P.funcs[g]?=some fn/\fn.body=some c)/\∀θ w vs,RH P sl θ h n w->eU θ args vs->Calls P g vs.toArray w (wX P sl θ h w v h' n'):=by
 unfold Ti at e;split at e
 case h_2=>cases e
 rename_i fn hfn;split at e
 case h_2=>cases e
 rename_i c hc;rw[mW,Array.getElem?_toList]at hfn;cases hb:Nat.ble (sl g).N fn.ntmps with
 |false=>rw[hb,fU]at e;cases e
 |true=>
  rw[hb,bD]at e;have hN:(sl g).N<=fn.ntmps:=Nat.le_of_ble_eq_true hb;refine⟨⟨fn,c,hfn,hc⟩,λθ w vs H ha=>?_⟩;obtain⟨t,e1,e2⟩:=aS e;obtain⟨x,h1,n1,t1,e3,e4⟩:=mV e2;have hT:RT (sl g) θ t (vs.toArray++Array.replicate (fn.ntmps - vs.toArray.size) undef):=by
   refine BJ e1 ha (λj u hj=>?_) (RT.empty _ _ (by simp;omega));rw[Nat.zero_add,Array.getElem?_append_left (by simpa using(List.getElem?_eq_some_iff.1 hj).1)];simpa using hj
  have hfr:FR none=Fence.wide:=rfl;refine(callsIn_wide (n:=0)).1 (callsIn_of_wp_marks hfn hc trivial ?_);rw[<-hfr];refine kM (lo:=w.heap.size) (B:=[]) hP hf (Hw hP hf 20) c e3 hT H ⟨[],rfl,List.Pairwise.nil,by simp⟩ (Nat.le_refl _) (λl hl=>by cases hl) λn_ a1 w1 T1 H1 D1 F1=>?_;have key:ok1 (wW P (sl g) fn.results.toList t1 h1) h1 n1= .ok v h' n'->LeavesInM Fence.wide 0 P fn a1.tmps (wX P sl θ h w v h' n') a1.defers .returning w1:=λe=>by
   obtain⟨q1,rfl,rfl⟩:=gT e;obtain⟨pre,e0,D1,D2⟩:=D1;rw[e0];refine lY (u:=.returning) (by simp) (Nat.le_refl _) (λw' H' F'=>?_) pre w1 D1 D2 H1 F1;obtain⟨u,k1,k2⟩:=Hy q1 T1 H';exact⟨u,k1,n_,u,rfl,k2,H',F'⟩
  cases x with
  |bT=>exact key e4
  |ret=>exact key e4
  |exit id=>cases e4
  |goto l=>cases e4
variable (P sl)in
def zV(O:OT):Prop:=∀f,Good P sl f->∀g args h n v h' n',O f g args h n=some (.ok v h' n')->(∃fn c,P.funcs[g]?=some fn/\fn.body=some c)/\∀θ w vs,RH P sl θ h n w->eU θ args vs->Calls P g vs.toArray w (wX P sl θ h w v h' n')
theorem tO{O:OT}(hP:qK P)(hO:zV P sl O):∀k,Good P sl (lS P sl O k)
 |0=>λg args h n v h' n' e=>by cases e
 |k+1=>λg args h n v h' n' e=>by
  have e0:@Option.rec eY (λ_=>eY) ((Ti P sl g).run (lS P sl O k) args h n) (λr=>r) (O (lS P sl O k) g args h n)= .ok v h' n':=e;cases ho:O (lS P sl O k) g args h n with
  |none=>rw[ho]at e0;exact TD hP (tO hP hO k) e0
  |some r=>
   rw[ho]at e0;replace e0:r= .ok v h' n':=e0;subst e0;exact hO _ (tO hP hO k) g args h n v h' n' ho
end
end
section
noncomputable section
inductive MO where
 |s (k:Nat)
 |v (j:Nat)
 |c (a:AV)
inductive MI where
 |mv (x:MO)
 |pick (c a b:MO)
 |al (e:TypeId) (z:List AV)
 |box (e:TypeId) (w:Nat) (x:MO)
 |Hz (z:List AV) (fs:List (Nat×Nat×MO))
 |KH (e:TypeId) (len:Nat) (z:List AV) (fs:List (Nat×Nat×MO))
 |ld (w:Option Nat) (x:MO)
 |st (w:Nat) (a x:MO)
 |Rv (x:MO)
 |bin (op:BinOp) (ty:TypeId) (x y:MO)
 |not (x:MO)
 |neg (x:MO)
 |Lx (k:IntKind) (x:MO)
 |Rw (x:MO)
 |KI (x:MO)
 |Rx (ty:TypeId) (x:MO)
 |HV (g:FuncId) (cs:List MO)
 |LA
 |Jh (e:TypeId) (z:List AV) (x y:MO)
 |Oz (x:MO) (lo hi:Option MO)
 |Ry (w:Nat) (x:MO) (lo hi:Option MO)
 |Rz (w m:Nat) (x:MO) (lo hi:Option MO)
 |fa (o:Nat) (x:MO)
 |RA (w:Option Nat) (o:Nat) (x:MO)
 |jc (w:Nat) (x i:MO)
 |Pg (w m:Nat) (x i:MO)
 |zJ (x i:MO)
 |TF (lw:Option Nat) (w m:Nat) (x i:MO)
 |look (kt:TypeId) (z:Option AV) (x k:MO) (ok:Bool)
 |upd (kt:TypeId) (m k x:MO)
 |ext (x:MO) (k:Nat)
 |rng (x:MO)
 |RB (x:MO)
 |ent (x:MO)
 |call (g:MO) (cs:List MO)
 |inv (x:MO) (nm:String) (cs:List MO)
 |Du (x:MO)
 |iE (x:MO)
 |E9 (m:Nat) (x:MO)
 |Dv (x:MO)
 |app (e:TypeId) (w:Nat) (x y:MO)
 |RF (w:Nat) (x y:MO)
 |mx (x y:MO)
 |mn (x y:MO)
def gL(x:MO)(t:Tr AV)(l:List AV):Option AV:=match x with
 | .s k=>(gp 20 k).run t
 | .v j=>(CU j).run l
 | .c a=>some a
def Dw:List MO->Tr AV->List AV->Option (List AV)
 |[],_,_=>some []
 |x::r,t,l=>bnd (gL x t l) λa=>bnd (Dw r t l) λb=>some (a::b)
def Ph(x:Option MO)(t:Tr AV)(l:List AV):Option (Option Int):=match x with
 |none=>some none
 |some x=>match gL x t l with|some (.i _ n)=>some (some n)|_=>none
def wN(w:Option Nat):Nat:=match w with
 |none=>1
 |some k=>k
def KJ(w:Option Nat)(l:List AV)(o:Nat):Option AV:=match w with
 |none=>hd (qH o l)
 |some k=>bnd (mO k (qH o l)) λx=>some (.agg x)
def LB:List (Nat×Nat×MO)->Tr AV->List AV->List AV->Option (List AV)
 |[],_,_,c=>some c
 |(o,w,x)::r,t,l,c=>bnd (gL x t l) λa=>bnd (qI a) λu=>bc (Nat.beq (mM u) w) (bnd (uT u o c) λc=>LB r t l c) none
section
variable (P:Program) (Y:YT)
def MI.run(i:MI)(f:FT)(t:Tr AV)(l:List AV)(h:AH)(n:Nat):eY:=match i with
 | .mv x=>ok1 (gL x t l) h n
 | .pick c a b=>(match gL c t l with|some (.b true)=>ok1 (gL a t l) h n|some (.b false)=>ok1 (gL b t l) h n|_=>.bad)
 | .al e z=>mk h n (.p n 0) (.row e z)
 | .box e w x=>aJ (gL x t l) λv=>aJ (qI v) λc=>bc (Nat.beq (mM c) w) (mk h n (.p n 0) (.row e c)) .bad
 | .Hz z fs=>aJ (LB fs t l z) λc=>.ok (.agg c) h n
 | .KH e len z fs=>aJ (LB fs t l z) λc=>mk h n (.sl n 0 0 len (some len)) (.row e c)
 | .ld w a=>(match gL a t l with|some (.p x k)=>ok1 (bnd (iD (h.get x) k (wN w)) λl=>KJ w l 0) h n|_=>.bad)
 | .st w a x=>aJ (gL a t l) λa=>aJ (gL x t l) λx=>xR w h n a x
 | .Rv x=>aJ (gL x t l) λv=>match v with| .p _ _=>.ok v h n| .f _ _=>.ok v h n| .y _=>.ok v h n|_=>.bad
 | .bin op ty x y=>aJ (gL x t l) λx=>aJ (gL y t l) λy=>ok1 ((dY P ty op).run x y) h n
 | .not x=>aJ (gL x t l) λv=>match v with| .b v=>.ok (.b (p9 v)) h n|_=>.bad
 | .neg x=>aJ (gL x t l) λv=>match v with| .i k v=>.ok (.i k (gK k (Int.sub 0 v))) h n|_=>.bad
 | .Lx k x=>(match gL x t l with|some (.i _ v)=>.ok (.i k (gK k v)) h n|_=>.bad)
 | .Rw x=>(match gL x t l with|some (.s l)=>.ok (.s l) h n|_=>.bad)
 | .KI x=>(match gL x t l with
  |some (.k 1)=>.ok (.s []) h n
  |some (.sl b m o k c)=>aJ (iZ h 1 k (.sl b m o k c)) λu=>aJ (oF u) λb=>.ok (.s b) h n
  |_=>.bad)
 | .Rx ty x=>aJ (gL x t l) λv=>.ok (.zH ty v) h n
 | .HV g cs=>aJ (Dw cs t l) λc=>.ok (.f g c) h n
 | .LA=>mk h n (.m n) (.mp [] 0)
 | .Jh e z x y=>(match gL x t l,gL y t l with
  |some (.i _ (.ofNat a)),some (.i _ (.ofNat c))=>bc (Nat.ble a c) (bc (Nat.ble c 1048576) (mk h n (.sl n 0 0 a (some c)) (.row e (rep c z))) .bad) .bad
  |_,_=>.bad)
 | .Oz x lo hi=>aJ (Ph lo t l) λlo=>aJ (Ph hi t l) λhi=>match gL x t l with|some (.s c)=>ok1 (oH c lo hi) h n|_=>.bad
 | .Ry w x lo hi=>aJ (Ph lo t l) λlo=>aJ (Ph hi t l) λhi=>match gL x t l with|some (.sl b m o k c)=>ok1 (EH w b m o k c lo hi) h n|_=>.bad
 | .Rz w m x lo hi=>aJ (Ph lo t l) λlo=>aJ (Ph hi t l) λhi=>match gL x t l with|some (.p b o)=>ok1 (EI w m b o lo hi) h n|_=>.bad
 | .fa o x=>(match gL x t l with|some (.p b k)=>.ok (.p b (Nat.add k o)) h n|_=>.bad)
 | .RA w o x=>(match gL x t l with|some (.agg c)=>ok1 (KJ w c o) h n|_=>.bad)
 | .jc w x ix=>(match gL x t l,gL ix t l with|some (.sl b _ o m _),some (.i _ k)=>ok1 (Ez k m λk=>some (.p b (Nat.add o (Nat.mul k w)))) h n|_,_=>.bad)
 | .Pg w m x ix=>(match gL x t l,gL ix t l with|some (.p b o),some (.i _ k)=>ok1 (Ez k m λk=>some (.p b (Nat.add o (Nat.mul k w)))) h n|_,_=>.bad)
 | .zJ x ix=>(match gL x t l,gL ix t l with|some (.s c),some (.i _ k)=>ok1 (Ez k 1048576 λk=>bnd (hd (qH k c)) λb=>some (.i .u8 (Int.ofNat b.toNat))) h n|_,_=>.bad)
 | .TF lw w m x ix=>(match gL x t l,gL ix t l with|some (.agg c),some (.i _ k)=>ok1 (Ez k m λk=>KJ lw c (Nat.mul k w)) h n|_,_=>.bad)
 | .look kt z x k ok=>aJ (gL x t l) λx=>aJ (gL k t l) λk=>ok1 (lookO (qQ P 30 kt) (xQ P 30 kt) z ok h x k) h n
 | .upd kt m k x=>aJ (gL m t l) λm=>aJ (gL k t l) λk=>aJ (gL x t l) λx=>CV (qQ P 30 kt) (xQ P 30 kt) h n m k x
 | .ext x k=>(match gL x t l with|some (.bQ c)=>ok1 (hd (qH k c)) h n|_=>.bad)
 | .rng x=>(match gL x t l with
  |some (.m b)=>(match h.get b with
   |some (.mp _ oK)=>mk h n (.p n 0) (.it (some b) oK [] oK)
   |_=>.bad)
  |some (.k 2)=>mk h n (.p n 0) (.it none 0 [] 0)
  |_=>.bad)
 | .RB x=>(match gL x t l with|some (.p i 0)=>K5 h n i|_=>.bad)
 | .ent x=>(match gL x t l with|some (.p i 0)=>EM h n i|_=>.bad)
 | .call g cs=>aJ (gL g t l) λg=>aJ (Dw cs t l) λc=>(match g with
  | .f g cap=>f g (CK c cap) h n
  | .y r=>Y r c f h n
  |_=>.bad)
 | .inv x nm cs=>(match gL x t l with
  |some (.zH ty v)=>aJ (Dw cs t l) λc=>aJ (GX P ty nm) λg=>f g (v::c) h n
  |_=>.bad)
 | .Du x=>(match gL x t l with|some (.s c)=>.ok (.i .i64 (Int.ofNat (mM c))) h n|_=>.bad)
 | .iE x=>(match gL x t l with|some (.sl _ _ _ m _)=>.ok (.i .i64 (Int.ofNat m)) h n|some (.k 1)=>.ok (.i .i64 0) h n|some (.es _ _)=>.ok (.i .i64 0) h n|_=>.bad)
 | .E9 m x=>aJ (gL x t l) λ_=>.ok (.i .i64 (Int.ofNat m)) h n
 | .Dv x=>(match gL x t l with|some (.m r)=>aJ (IQ (h.get r)) (λes=>.ok (.i .i64 (Int.ofNat (mM es))) h n)|some (.k 2)=>.ok (.i .i64 0) h n|_=>.bad)
 | .app e w x y=>aJ (gL x t l) λa=>aJ (gL y t l) λx=>(jq e w).run h n a x
 | .RF w x y=>aJ (gL x t l) λd=>aJ (gL y t l) λx=>qU w h n d x
 | .mx x y=>(match gL x t l,gL y t l with|some (.i k a),some (.i _ b)=>.ok (.i k (bc (kY b a) a b)) h n|_,_=>.bad)
 | .mn x y=>(match gL x t l,gL y t l with|some (.i k a),some (.i _ b)=>.ok (.i k (bc (kY a b) a b)) h n|_,_=>.bad)
end
def iM(s:Sl)(L:List Tmp):Operand->Option MO
 | .tmp k=>bc (s.S k) (some (.s k)) (bnd (idx k L) λj=>some (.v j))
 | .const v=>bnd (Ro v) λa=>some (.c a)
 | .global _=>none
 | .func f=>some (.c (.f f []))
def Ji(s:Sl)(L:List Tmp):List Operand->Option (List MO)
 |[]=>some []
 |x::r=>bnd (iM s L x) λa=>bnd (Ji s L r) λb=>some (a::b)
def TG(s:Sl)(L:List Tmp):Option Operand->Option (Option MO)
 |none=>some none
 |some x=>bnd (iM s L x) λa=>some (some a)
def Xt(s:Sl)(L:List Tmp)(pl:Nat->Option (Nat×Nat)):List (Nat×Operand)->Option (List (Nat×Nat×MO))
 |[]=>some []
 |(k,x)::r=>bnd (pl k) λp=>bnd (iM s L x) λa=>bnd (Xt s L pl r) λb=>some ((p.1,p.2,a)::b)
section
variable (P:Program)
def Pj(t:TypeId):Option (Option Nat):=match P.underlying t with
 |none=>none
 |some (.struct _)|some (.array _ _)=>some (some (sz P t))
 |some _=>some none
def Pk(s:Sl)(L:List Tmp)(o:Oper):Option MI:=match o.op with
 | .move x| .assign x=>bnd (iM s L x) λx=>some (.mv x)
 | .pick c a b=>bnd (iM s L c) λc=>bnd (iM s L a) λa=>bnd (iM s L b) λb=>some (.pick c a b)
 | .alloc e=>bnd (kI P e) λz=>bc (Nat.beq (mM z) (sz P e)) (some (.al e z)) none
 | .box e x=>bnd (iM s L x) λx=>some (.box e (sz P e) x)
 | .build ty ps=>bnd (AY P ty) λpl=>bnd (kI P ty) λz=>bnd (Xt s L pl ps.toList) λfs=>some (.Hz z fs)
 | .buildSlice ty len ps=>(match P.underlying ty with
  |some (.slice e)=>bnd (kI P e) λz=>bnd (Ad P e) λw=>bc (Nat.beq (mM z) w) (bc (Nat.ble (Nat.mul len w) 1048576) (bnd (Xt s L (λk=>some (Nat.mul k w,w)) ps.toList) λfs=>some (.KH e len (rep len z) fs)) none) none
  |_=>none)
 | .load ty a=>bnd (Pj P ty) λw=>bnd (iM s L a) λa=>some (.ld w a)
 | .store ty a x=>bnd (Ad P ty) λw=>bnd (iM s L a) λa=>bnd (iM s L x) λx=>some (.st w a x)
 | .nilCheck x=>bnd (iM s L x) λx=>some (.Rv x)
 | .binOp op ty x y _=>bnd (iM s L x) λx=>bnd (iM s L y) λy=>some (.bin op ty x y)
 | .unOp .not _ x=>bnd (iM s L x) λx=>some (.not x)
 | .unOp .neg _ x=>bnd (iM s L x) λx=>some (.neg x)
 | .convert c d x=>bnd (iM s L x) λx=>(match P.underlying c,P.underlying d with
  |some _,some (.int k)=>some (.Lx k x)
  |some .string,some .string=>some (.Rw x)
  |some (.slice e),some .string=>bc (OP P e) (some (.KI x)) none
  |_,_=>none)
 | .makeInterface ty x=>bnd (iM s L x) λx=>(match P.underlying ty with|some (.interface _)=>none|some _=>some (.Rx ty x)|none=>none)
 | .makeFunc (.func g) ⟨[]⟩ cs=>bnd (Ji s L cs.toList) λcs=>some (.HV g cs)
 | .makeMap _ none=>some .LA
 | .makeMap ty (some (.const (.int _ _)))=>(match P.underlying ty with|some (.map _ _)=>some .LA|_=>none)
 | .makeSlice ty x y=>bnd (iM s L x) λx=>bnd (iM s L y) λy=>(match P.underlying ty,P.info? (qR P ty),kI P (qR P ty)with
  |some (.slice e),some i,some z=>bc (Nat.beq (mM z) i.size) (bc (Nat.ble i.bytes 65536) (some (.Jh e z x y)) none) none
  |_,_,_=>none)
 | .slice ty x lo hi none=>bnd (iM s L x) λx=>bnd (TG s L lo) λlo=>bnd (TG s L hi) λhi=>(match P.underlying ty with
  |some .string=>some (.Oz x lo hi)
  |some (.slice e)=>bnd (Ad P e) λw=>some (.Ry w x lo hi)
  |some (.array m e)=>bnd (Ad P e) λw=>some (.Rz w m x lo hi)
  |_=>none)
 | .fieldAddr ty x f=>bnd (iM s L x) λx=>bnd (VZ P ty f) λd=>bnd (Ad P d.type) λw=>bc (Nat.beq w 0) none (some (.fa d.offset x))
 | .field ty x f=>bnd (iM s L x) λx=>bnd (VZ P ty f) λd=>bnd (Pj P d.type) λw=>some (.RA w d.offset x)
 | .indexAddr ty x ix=>bnd (iM s L x) λx=>bnd (iM s L ix) λix=>(match P.underlying ty with
  |some (.slice e)=>bnd (Ad P e) λw=>some (.jc w x ix)
  |some (.array m e)=>bnd (Ad P e) λw=>some (.Pg w m x ix)
  |_=>none)
 | .index ty x ix=>bnd (iM s L x) λx=>bnd (iM s L ix) λix=>(match P.underlying ty with
  |some .string=>some (.zJ x ix)
  |some (.array m e)=>bnd (Ad P e) λw=>bnd (Pj P e) λlw=>some (.TF lw w m x ix)
  |_=>none)
 | .lookup ty x k ok=>bnd (iM s L x) λx=>bnd (iM s L k) λk=>(match P.underlying ty with|some (.map kt e)=>some (.look kt (zeroV P e) x k ok)|_=>none)
 | .mapUpdate ty m k x| .insert ty m k x=>bnd (iM s L m) λm=>bnd (iM s L k) λk=>bnd (iM s L x) λx=>(match P.underlying ty with|some (.map kt _)=>some (.upd kt m k x)|_=>none)
 | .extract x k=>bnd (iM s L x) λx=>some (.ext x k)
 | .range ty x=>bnd (iM s L x) λx=>(match P.underlying ty with|some (.map _ _)=>some (.rng x)|_=>none)
 | .next x false=>bnd (iM s L x) λx=>some (.RB x)
 | .entry x=>bnd (iM s L x) λx=>some (.ent x)
 | .call {callee:=.value g,args,..}=>bnd (iM s L g) λg=>bnd (Ji s L args.toList) λcs=>some (.call g cs)
 | .call {callee:=.invoke x nm,args,..}=>bnd (iM s L x) λx=>bnd (Ji s L args.toList) λcs=>some (.inv x nm cs)
 | .call {callee:=.builtin b,args,argTypes}=>
  match b,args.toList with
  | .len,[x]=>(match argTypes.toList with
   |[ty]=>bnd (iM s L x) λx=>(match P.underlying ty with|some .string=>some (.Du x)|some (.slice _)=>some (.iE x)|some (.array m _)=>some (.E9 m x)|some (.map _ _)=>some (.Dv x)|_=>none)
   |_=>none)
  | .append,[a,x]=>(match argTypes.toList with
   |[ty,EL]=>bnd (iM s L a) λa=>bnd (iM s L x) λx=>(match P.underlying ty,P.info? (qR P ty),kI P (qR P ty)with
    |some (.slice e),some i,some z=>bc (V3 P EL) (bc (Nat.beq (mM z) i.size) (bc (Nat.beq i.size 0) none (bc (Nat.ble i.bytes 65536) (some (.app e i.size a x)) none)) none) none
    |_,_,_=>none)
   |_=>none)
  | .copy,[d,x]=>(match argTypes.toList with
   |ty::_=>bnd (iM s L d) λd=>bnd (iM s L x) λx=>(match P.underlying ty with|some (.slice e)=>bnd (Ad P e) λw=>some (.RF w d x)|_=>none)
   |_=>none)
  | .max,[x,y]=>bnd (iM s L x) λx=>bnd (iM s L y) λy=>some (.mx x y)
  | .min,[x,y]=>bnd (iM s L x) λx=>bnd (iM s L y) λy=>some (.mn x y)
  |_,_=>none
 |_=>none
end
end
section
variable {P:Program} {s:Sl} {Y:YT} {L:List Tmp} {t:Tr AV} {l:List AV} {h:AH} {n:Nat} {f:FT}
theorem aW{x:Operand}{m:MO}(e:iM s L x=some m):(co s L x).run t l=gL m t l:=by
 cases x with
 |tmp k=>
  have e:bc (s.S k) (some (.s k)) (bnd (idx k L) λj=>some (.v j))=some m:=e;show(KE s L k).run t l=_;unfold KE;cases hS:s.S k with
  |true=>rw[hS]at e;cases e;rfl
  |false=>
   rw[hS,fU]at e;obtain⟨j,e1,e2⟩:=aB e;cases e2
   rw[e1];rfl
 |const v=>
  obtain⟨a,e1,e2⟩:=aB (show bnd (Ro v) (λa=>some (.c a))=some m from e);cases e2;exact e1
 |global g=>cases e
 |func g=>cases e;rfl
theorem xD:∀{xs:List Operand}{ms:List MO},Ji s L xs=some ms->(col s L xs).run t l=Dw ms t l
 |[],_,e=>by cases e;rfl
 |x::xs,_,e=>by
  obtain⟨a,e1,e2⟩:=aB (show bnd (iM s L x) (λa=>bnd (Ji s L xs) λb=>some (a::b))=some _ from e);obtain⟨b,e3,e4⟩:=aB e2;cases e4
  show bnd ((co s L x).run t l) (λa=>bnd ((col s L xs).run t l) λb=>some (a::b))=bnd (gL a t l) λa=>bnd (Dw b t l) λb=>some (a::b);rw[aW e1,xD e3]
theorem qo{x:Option Operand}{m:Option MO}(e:TG s L x=some m):(sU s L x).run t l=Ph m t l:=by
 cases x with
 |none=>cases e;rfl
 |some x=>
  obtain⟨a,e1,e2⟩:=aB (show bnd (iM s L x) (λa=>some (some a))=some m from e);cases e2
  show(match(co s L x).run t l with|some (.i _ n)=>some (some n)|_=>none)=_;rw[aW e1];rfl
theorem E_{pl:Nat->Option (Nat×Nat)}:∀{xs:List (Nat×Operand)}{fs:List (Nat×Nat×MO)},Xt s L pl xs=some fs->∀c,(EC s L pl xs).run t l c=LB fs t l c
 |[],_,e,c=>by cases e;rfl
 |(k,x)::xs,_,e,c=>by
  obtain⟨p,e1,e2⟩:=aB (show bnd (pl k) (λp=>bnd (iM s L x) λa=>bnd (Xt s L pl xs) λb=>some ((p.1,p.2,a)::b))=some _ from e);obtain⟨a,e3,e4⟩:=aB e2;obtain⟨b,e5,e6⟩:=aB e4;cases e6
  obtain⟨o,w⟩:=p;unfold EC;rw[e1];show bnd ((co s L x).run t l) _=bnd (gL a t l) _;rw[aW e3];cases gL a t l with
  |none=>rfl
  |some v=>
   show bnd (qI v) _=bnd (qI v) _;cases qI v with
   |none=>rfl
   |some u=>
    show bc (Nat.beq (mM u) w) _ none=bc (Nat.beq (mM u) w) _ none;cases Nat.beq (mM u) w with
    |false=>rfl
    |true=>
     show bnd (uT u o c) _=bnd (uT u o c) _;cases uT u o c with
     |none=>rfl
     |some c=>exact E_ e5 c
theorem RG{ty:TypeId}{w:Option Nat}(e:Pj P ty=some w):ldN P ty=wN w:=by
 unfold Pj at e;unfold ldN;cases hd:P.underlying ty with
 |none=>rw[hd]at e;cases e
 |some d=>rw[hd]at e;cases d<;>(cases e;rfl)
theorem BK{ty:TypeId}{w:Option Nat}(e:Pj P ty=some w)(l:List AV)(o:Nat):(KF P ty).run l o=KJ w l o:=by
 unfold Pj at e;unfold KF;cases hd:P.underlying ty with
 |none=>rw[hd]at e;cases e
 |some d=>rw[hd]at e;cases d<;>(cases e;rfl)
end
end
section
section
variable {P:Program} {s:Sl} {Y:YT} {L:List Tmp} {t:Tr AV} {l:List AV} {h:AH} {n:Nat} {f:FT}
theorem LC{o:Oper}{i:MI}(e:Pk P s L o=some i):(cop P s Y L o).run f t l h n=i.run P Y f t l h n:=by
 unfold Pk at e;unfold cop;split at e
 .rename_i x ho
  obtain⟨a,e1,e2⟩:=aB e;cases e2;rw[ho];show ok1 ((co s L x).run t l) h n=_;rw[aW e1];rfl
 .rename_i x ho
  obtain⟨a,e1,e2⟩:=aB e;cases e2;rw[ho];show ok1 ((co s L x).run t l) h n=_;rw[aW e1];rfl
 .rename_i c a b ho
  obtain⟨c',e1,e⟩:=aB e;obtain⟨a',e2,e⟩:=aB e;obtain⟨b',e3,e⟩:=aB e;cases e
  rw[ho];simp only[CX,MI.run,aW e1,aW e2,aW e3];try rfl
 .rename_i ty ho
  obtain⟨z,e1,e⟩:=aB e;obtain⟨e2,e⟩:=bI e;cases e
  rw[ho];simp only[EJ,MI.run,e1,aJ,e2,bD];try rfl
 .rename_i ty x ho
  obtain⟨a,e1,e⟩:=aB e;cases e;rw[ho];simp only[Tf,MI.run,aW e1];try rfl
 .rename_i ty ps ho
  obtain⟨pl,e1,e⟩:=aB e;obtain⟨z,e2,e⟩:=aB e;obtain⟨fs,e3,e⟩:=aB e;cases e
  rw[ho];simp only[xS,e1,MI.run,e2,aJ,E_ e3];try rfl
 .rename_i ty len ps ho
  rw[ho];unfold kJ;split at e
  case h_2=>cases e
  rename_i el hu;obtain⟨z,e1,e⟩:=aB e;obtain⟨w,e2,e⟩:=aB e;obtain⟨e3,e⟩:=bI e;obtain⟨e4,e⟩:=bI e;obtain⟨fs,e5,e⟩:=aB e;cases e
  simp only[hu,MI.run,e1,e2,aJ,e3,e4,bD,E_ e5];try rfl
 .rename_i ty a ho
  obtain⟨w,e1,e⟩:=aB e;obtain⟨a',e2,e⟩:=aB e;cases e
  rw[ho];simp only[CY,MI.run,aW e2,xO,BK e1,RG e1];try rfl
 .rename_i ty a x ho
  obtain⟨w,e1,e⟩:=aB e;obtain⟨a',e2,e⟩:=aB e;obtain⟨x',e3,e⟩:=aB e;cases e
  rw[ho];simp only[EK,MI.run,aW e2,aW e3,e1];try rfl
 .rename_i x ho
  obtain⟨a,e1,e⟩:=aB e;cases e;rw[ho];simp only[qb,MI.run,aW e1];try rfl
 .rename_i op ty x y yt ho
  obtain⟨a,e1,e⟩:=aB e;obtain⟨b,e2,e⟩:=aB e;cases e
  rw[ho];simp only[A8,MI.run,aW e1,aW e2];try rfl
 .rename_i ty x ho
  obtain⟨a,e1,e⟩:=aB e;cases e;rw[ho];simp only[OM,MI.run,aW e1];try rfl
 .rename_i ty x ho
  obtain⟨a,e1,e⟩:=aB e;cases e;rw[ho];simp only[OO,MI.run,aW e1];try rfl
 .rename_i c d x ho
  obtain⟨a,e1,e⟩:=aB e;rw[ho];unfold oI;split at e
  .cases e;simp only[*,MI.run];rw[aW e1];try rfl
  .cases e;simp only[*,MI.run];rw[aW e1];try rfl
  .obtain⟨e2,e⟩:=bI e
   cases e;simp only[*,MI.run,bD];rw[aW e1];try rfl
  .cases e
 .rename_i ty x ho
  obtain⟨a,e1,e⟩:=aB e;rw[ho];simp only[iJ,aW e1];split at e
  .cases e
  .rename_i hd hn
   cases e
   simp only[MI.run];try rfl
   rw[hn];split
   .rename_i q hq;cases hq;exact absurd rfl (hd _)
   .rfl
   .rename_i q;cases q
  .cases e
 .rename_i g cs ho
  obtain⟨a,e1,e⟩:=aB e;cases e;rw[ho];simp only[qd,MI.run,xD e1];try rfl
 .rename_i ty ho
  cases e;rw[ho];rfl
 .rename_i ty k v ho
  rw[ho];simp only[qg];split at e
  .cases e;simp only[*,MI.run];try rfl
  .cases e
 .rename_i ty x y ho
  obtain⟨a,e1,e⟩:=aB e;obtain⟨b,e2,e⟩:=aB e;rw[ho];unfold mR;split at e
  .rename_i el i z h1 h2 h3
   obtain⟨e3,e⟩:=bI e;obtain⟨e4,e⟩:=bI e;cases e
   simp only[h1,h2,h3,e3,e4,bD,MI.run,aW e1,aW e2];try rfl
  .cases e
 .rename_i ty x lo hi ho
  obtain⟨a,e1,e⟩:=aB e;obtain⟨lo',e2,e⟩:=aB e;obtain⟨hi',e3,e⟩:=aB e;rw[ho];unfold xU;split at e
  .cases e;simp only[*,MI.run];rw[aW e1,qo e2,qo e3];try rfl
  .obtain⟨w,e4,e⟩:=aB e
   cases e;simp only[*,MI.run];rw[aW e1,qo e2,qo e3];try rfl
  .obtain⟨w,e4,e⟩:=aB e
   cases e;simp only[*,MI.run];rw[aW e1,qo e2,qo e3];try rfl
  .cases e
 .rename_i ty x k ho
  obtain⟨a,e1,e⟩:=aB e;obtain⟨d,e2,e⟩:=aB e;obtain⟨w,e3,e⟩:=aB e;rw[ho];simp only[jJ,e2,e3];cases hz:Nat.beq w 0 with
  |true=>rw[hz]at e;cases e
  |false=>rw[hz]at e;cases e;simp only[fU,MI.run,aW e1];try rfl
 .rename_i ty x k ho
  obtain⟨a,e1,e⟩:=aB e;obtain⟨d,e2,e⟩:=aB e;obtain⟨w,e3,e⟩:=aB e;cases e
  rw[ho];simp only[xV,e2,MI.run,aW e1,BK e3];try rfl
 .rename_i ty x ix ho
  obtain⟨a,e1,e⟩:=aB e;obtain⟨b,e2,e⟩:=aB e;rw[ho];unfold jK;split at e
  .obtain⟨w,e4,e⟩:=aB e
   cases e;simp only[*,MI.run];rw[aW e1,aW e2];try rfl
  .obtain⟨w,e4,e⟩:=aB e
   cases e;simp only[*,MI.run];rw[aW e1,aW e2];try rfl
  .cases e
 .rename_i ty x ix ho
  obtain⟨a,e1,e⟩:=aB e;obtain⟨b,e2,e⟩:=aB e;rw[ho];unfold xW;split at e
  .cases e;simp only[*,MI.run];rw[aW e1,aW e2];try rfl
  .obtain⟨w,e4,e⟩:=aB e
   obtain⟨lw,e5,e⟩:=aB e;cases e;simp only[*,MI.run,BK e5];rw[aW e1,aW e2];try rfl
  .cases e
 .rename_i ty x k ok ho
  obtain⟨a,e1,e⟩:=aB e;obtain⟨b,e2,e⟩:=aB e;rw[ho];unfold sV;split at e
  .cases e;simp only[*,MI.run];rw[aW e1,aW e2];try rfl
  .cases e
 .rename_i ty m k x ho
  obtain⟨a,e1,e⟩:=aB e;obtain⟨b,e2,e⟩:=aB e;obtain⟨c,e3,e⟩:=aB e;rw[ho];simp only[jL];split at e
  .cases e;simp only[*,MI.run];rw[aW e1,aW e2,aW e3];try rfl
  .cases e
 .rename_i ty m k x ho
  obtain⟨a,e1,e⟩:=aB e;obtain⟨b,e2,e⟩:=aB e;obtain⟨c,e3,e⟩:=aB e;rw[ho];simp only[jL];split at e
  .cases e;simp only[*,MI.run];rw[aW e1,aW e2,aW e3];try rfl
  .cases e
 .rename_i x k ho
  obtain⟨a,e1,e⟩:=aB e;cases e;rw[ho];simp only[oJ,MI.run,aW e1];try rfl
 .rename_i ty x ho
  obtain⟨a,e1,e⟩:=aB e;rw[ho];unfold A9;split at e
  .cases e;simp only[*,MI.run];rw[aW e1];try rfl
  .cases e
 .rename_i x ho
  obtain⟨a,e1,e⟩:=aB e;cases e;rw[ho];simp only[GZ,MI.run,aW e1];try rfl
 .rename_i x ho
  obtain⟨a,e1,e⟩:=aB e;cases e;rw[ho];simp only[A_,MI.run,aW e1];try rfl
 .rename_i g args ts ho
  obtain⟨a,e1,e⟩:=aB e;obtain⟨b,e2,e⟩:=aB e;cases e
  rw[ho];simp only[GV,MI.run,aW e1,xD e2];try rfl
 .rename_i x nm args ts ho
  obtain⟨a,e1,e⟩:=aB e;obtain⟨b,e2,e⟩:=aB e;cases e
  rw[ho];simp only[sW,MI.run,aW e1,xD e2];try rfl
 .rename_i b args ts ho
  rw[ho];split at e
  .rename_i x ha
   simp only[ha];split at e
   .rename_i ty ht
    simp only[ht];obtain⟨a,e1,e⟩:=aB e;unfold KZ;split at e
    .cases e;simp only[*,MI.run];rw[aW e1];try rfl
    .cases e;simp only[*,MI.run];rw[aW e1];try rfl
    .cases e;simp only[*,MI.run];rw[aW e1];try rfl
    .cases e;simp only[*,MI.run];rw[aW e1];try rfl
    .cases e
   .cases e
  .rename_i a x ha
   simp only[ha];split at e
   .rename_i ty EL ht
    simp only[ht];obtain⟨a',e1,e⟩:=aB e;obtain⟨x',e2,e⟩:=aB e;unfold xu;split at e
    .rename_i el i z h1 h2 h3
     obtain⟨e3,e⟩:=bI e;obtain⟨e4,e⟩:=bI e;cases hz:Nat.beq i.size 0 with
     |true=>rw[hz]at e;cases e
     |false=>
      rw[hz]at e;obtain⟨e5,e⟩:=bI (show bc (Nat.ble i.bytes 65536) _ none=_ from e);cases e
      simp only[h1,h2,h3,e3,e4,hz,e5,bD,fU,MI.run,aW e1,aW e2];try rfl
    .cases e
   .cases e
  .rename_i d x ha
   simp only[ha];split at e
   .rename_i ty r ht
    simp only[ht];obtain⟨a',e1,e⟩:=aB e;obtain⟨x',e2,e⟩:=aB e;unfold GY;split at e
    .obtain⟨w,e3,e⟩:=aB e
     cases e;simp only[*,MI.run];rw[aW e1,aW e2];try rfl
    .cases e
   .cases e
  .rename_i x y ha
   simp only[ha];obtain⟨a,e1,e⟩:=aB e;obtain⟨b,e2,e⟩:=aB e;cases e
   simp only[K3,MI.run,aW e1,aW e2];try rfl
  .rename_i x y ha
   simp only[ha];obtain⟨a,e1,e⟩:=aB e;obtain⟨b,e2,e⟩:=aB e;cases e
   simp only[K4,MI.run,aW e1,aW e2];try rfl
  .cases e
 .cases e
end
end
noncomputable section
inductive MD where
 |n
 |k (d:Nat)
 |l
structure MR where
 g:Option (MO×Bool)
 i:MI
 d:MD
structure MQ where
 k:Nat
 r:Bool
 ks:List Nat
 g:Option (MO×Bool)
 i:MI
inductive MC where
 |skip
 |reg (l:List MR)
 |Aj (K:Nat) (l:List MQ) (ck:List (Nat×Nat)) (wr:List (Nat×Tmp))
 |seq (a b:MC)
 |cond (c:MO) (a b:MC)
 |blk (id:Nat) (a:MC)
 |loop (a:MC)
 |exit (id:Nat)
 |ret
 |rng (r:MO) (ps:List Tmp) (fH body:Code)
def BL(g:Option (MO×Bool))(t:Tr AV)(l:List AV):Option Bool:=match g with
 |none=>some true
 |some (x,w)=>match gL x t l with|some (.b x)=>some (bc w x (p9 x))|some _=>some false|none=>none
def RJ{α:Type}(d:MD)(t:Tr AV)(l:List AV)(v:AV)(K:Tr AV->List AV->α):α:=match d with
 | .n=>K t l
 | .k d=>K ((pp 20 d).run v t) l
 | .l=>K t (v::l)
section
variable (P:Program) (Y:YT)
def oO:List MR->FT->AH->Nat->Tr AV->List AV->eZ
 |[],_,h,n,t,_=>.ok .bT h n t
 |o::r,f,h,n,t,l=>match BL o.g t l with
  |none=>.bad
  |some true=>mQ (o.i.run P Y f t l h n) λv h n=>RJ o.d t l v λt l=>oO r f h n t l
  |some false=>RJ o.d t l (.bQ []) λt l=>oO r f h n t l
def lC(i:Nat)(o:MQ)(f:FT)(t:Tr AV)(x:Nat)(h:AH)(n:Nat)(vs:List AV):eY:=match o.k with
 |0=>aJ ((K7 i o.ks).run vs) λl=>Et (BL o.g t l) (Oy (o.i.run P Y f t l .z 0) λv _ _=>.ok v h n) (.ok (.bQ []) h n)
 |1=>aJ ((K7 i o.ks).run vs) λl=>Et (BL o.g t l) (Oy (o.i.run P Y f t l h 0) λv _ _=>.ok v h n) (.ok (.bQ []) h n)
 |2=>aJ ((K7 i o.ks).run vs) λl=>Et (BL o.g t l) (Oy (o.i.run P Y f t l .z x) λv h1 n1=>bc (Nat.beq n1 (Nat.succ x)) (aJ (h1.get x) λob=>.ok v (h.set x ob) n) .bad) (.ok (.bQ []) h n)
 |_=>aJ ((K7 i o.ks).run vs) λl=>Et (BL o.g t l) (o.i.run P Y f t l h n) (.ok (.bQ []) h n)
def vC:List MQ->Nat->Nat->FT->Tr AV->Nat->AH->Nat->List AV->List (Nat×AH)->Ba
 |[],_,_,_,_,_,h,n,vs,hs=>.ok h n vs hs
 |o::l,j,r,f,t,n0,h,n,vs,hs=>match o.k with
  |3=>og (lC P Y j o f t 0 h n vs) λv h n=>vC l (j+1) r f t n0 h n (v::vs) ((j+1,h)::hs)
  |2=>og (lC P Y j o f t (Nat.add n0 r) h n vs) λv h n=>vC l (j+1) (r+1) f t n0 h n (v::vs) hs
  |1=>(match o.r with
   |true=>og (lC P Y j o f t 0 h n vs) λv _ _=>vC l (j+1) r f t n0 h n (v::vs) hs
   |false=>(match hs with
    |[]=>.bad
    |x::_=>og (lC P Y j o f t 0 x.2 n vs) λv _ _=>vC l (j+1) r f t n0 h n (v::vs) hs))
  |_=>og (lC P Y j o f t 0 h n vs) λv h n=>vC l (j+1) r f t n0 h n (v::vs) hs
def TH(ops:List MQ):List (Nat×Nat)->FT->Tr AV->List AV->List (Nat×AH)->Bool
 |[],_,_,_,_=>true
 |x::l,f,t,vs,hs=>bc (match ops[x.1]? with
  |some o=>(match C9 x.2 hs,(CU (ops.length - 1 - x.1)).run vs with
   |some H,some v=>(match lC P Y ops.length o f t 0 H 0 vs with| .ok v' _ _=>IW v v'| .bad=>false)
   |_,_=>false)
  |none=>false) (TH ops l f t vs hs) false
def Jj(i:Nat):List (Nat×Tmp)->List AV->Tr AV->Option (Tr AV)
 |[],_,t=>some t
 |x::l,vs,t=>bnd ((CU (i - 1 - x.1)).run vs) λv=>Jj i l vs ((pp 20 x.2).run v t)
def Fa(K:Nat)(l:List MQ)(ck:List (Nat×Nat))(wr:List (Nat×Tmp))(f:FT)(h:AH)(n:Nat)(t:Tr AV):eZ:=
 match vC P Y l 0 0 f t n h (Nat.add n K) [] [(0,h)]with
 | .bad=>.bad
 | .ok h1 n1 vs hs=>bc (TH P Y l ck f t vs hs) (@Option.rec (Tr AV) (λ_=>eZ) .bad (λt1=>.ok .bT h1 n1 t1) (Jj l.length wr vs t)) .bad
def MC.run(g:FuncId):MC->FT->AH->Nat->Tr AV->eZ
 | .skip,_,h,n,t=>.ok .bT h n t
 | .reg l,f,h,n,t=>oO P Y l f h n t []
 | .Aj K l ck wr,f,h,n,t=>Fa P Y K l ck wr f h n t
 | .seq a b,f,h,n,t=>iO (a.run g f h n t) λx h n t=>CQ x (b.run g f h n t) (.ok x h n t)
 | .cond c a b,f,h,n,t=>match gL c t []with
  |some (.b x)=>bc x (a.run g f h n t) (b.run g f h n t)
  |_=>.bad
 | .blk id a,f,h,n,t=>iO (a.run g f h n t) λx h n t=>match x with
  | .exit j=>bc (Nat.beq j id) (.ok .bT h n t) (.ok (.exit j) h n t)
  |x=>.ok x h n t
 | .loop a,f,h,n,t=>oL 1125899906842624 ⟨a.run g⟩ f h n t
 | .exit id,_,h,n,t=>.ok (.exit id) h n t
 | .ret,_,h,n,t=>.ok .ret h n t
 | .rng r ps fH body,f,h,n,t=>match gL r t []with
  |some (.f q cap)=>mQ (f q (.y n::cap) (h.set n (.lp .ready none g t ps fH body)) (Nat.succ n)) λ_ h2 n2=>G6 n h2 n2 t
  |_=>.bad
end
section
variable (P:Program)
def RL(s:Sl)(L:List Tmp)(ops:Array Oper):Option (Nat×Bool)->Option (Option (MO×Bool))
 |none=>some none
 |some (j,w)=>bnd ((ops[j]?).bind (·.dst)) λd=>bnd (iM s L (.tmp d)) λx=>some (some (x,w))
def cmD(s:Sl):Option Tmp->Option MD
 |none=>some .n
 |some d=>bc (Nat.ble (Nat.succ d) s.N) (some (bc (s.S d) (.k d) .l)) none
def Xu(s:Sl)(ops:Array Oper):List Oper->List Tmp->Option (List MR)
 |[],_=>some []
 |o::l,L=>bnd (RL s L ops o.guard) λg=>bnd (Pk P s L o) λi=>bnd (cmD s o.dst) λd=>bnd (Xu s ops l (OQ s o.dst L)) λr=>some (⟨g,i,d⟩::r)
def TI(s:Sl)(ops:Array Oper)(W:List (Nat×Tmp))(A E B:List Nat):List Oper->Nat->Option (List MQ)
 |[],_=>some []
 |o::l,j=>bnd (RL (jM s W A j) ((lN W A j (zI ops.toList o)).map (·.2)) ops o.guard) λg=>bnd (Pk P (jM s W A j) ((lN W A j (zI ops.toList o)).map (·.2)) o) λi=>
  bnd (TI s ops W A E B l (j+1)) λr=>some (⟨dO o.op,IV E B A j,(lN W A j (zI ops.toList o)).map (·.1),g,i⟩::r)
def V4(s:Sl):List (Nat×Tmp)->List (Nat×Tmp)
 |[]=>[]
 |x::l=>bc (s.S x.2) (x::V4 s l) (V4 s l)
def TJ(s:Sl)(ops:Array Oper):Option MC:=
 bc (WS s ops (uV ops.toList 0) (kE ops.toList) (iF 3 ops.toList 0) (iF 2 ops.toList 0))
  (bnd (TI P s ops (uV ops.toList 0) (kE ops.toList) (iF 3 ops.toList 0) (iF 2 ops.toList 0) ops.toList 0) λl=>
   some (.Aj (kOf (iF 2 ops.toList 0)) l (pairs (iF 3 ops.toList 0) (iF 1 ops.toList 0) (kE ops.toList)) (V4 s (uV ops.toList 0)))) none
def yA(s:Sl):Code->Option MC
 | .skip=>some .skip
 | .region _ ops d=>bc d (TJ P s ops) (bnd (Xu P s ops ops.toList []) λl=>some (.reg l))
 | .seq a b=>bnd (yA s a) λa=>bnd (yA s b) λb=>some (.seq a b)
 | .cond c a b=>bnd (iM s [] c) λc=>bnd (yA s a) λa=>bnd (yA s b) λb=>some (.cond c a b)
 | .block id a=>bnd (yA s a) λa=>some (.blk id a)
 | .loop a=>bnd (yA s a) λa=>some (.loop a)
 | .label _=>some .skip
 | .exit id=>some (.exit id)
 | .ret=>some .ret
 | .rangeFunc r ps fH body=>bnd (iM s [] r) λr=>some (.rng r ps.toList fH body)
 | .scope a=>yA s a
 |_=>none
end
end
section
variable {P:Program} {sl:FuncId->Sl} {s:Sl} {Y:YT} {L:List Tmp} {t:Tr AV} {l:List AV} {h:AH} {n:Nat} {f:FT}
theorem LG{ops:Array Oper}{g:Option (Nat×Bool)}{m:Option (MO×Bool)}(e:RL s L ops g=some m):(G5 s L ops g).run t l=BL m t l:=by
 cases g with
 |none=>cases e;rfl
 |some g=>
  obtain⟨j,w⟩:=g;obtain⟨d,e1,e⟩:=aB (show bnd ((ops[j]?).bind (·.dst)) (λd=>bnd (iM s L (.tmp d)) λx=>some (some (x,w)))=some m from e);obtain⟨x,e2,e⟩:=aB e;cases e
  simp only[G5,e1,BL,aW e2];rfl
theorem LH{d:Option Tmp}{m:MD}{v:AV}{K:Tr AV->List AV->eZ}(e:cmD s d=some m):(Rq s d).run t l v K=RJ m t l v K:=by
 cases d with
 |none=>cases e;rfl
 |some d=>
  obtain⟨e1,e⟩:=bI (show bc (Nat.ble (Nat.succ d) s.N) (some (bc (s.S d) (MD.k d) .l)) none=some m from e);cases e
  show(bc (Nat.ble (Nat.succ d) s.N) _ _:Tg).run t l v K=_;rw[e1,bD];cases s.S d<;>rfl
theorem LJ{ops:Array Oper}:∀{lo:List Oper}{L:List Tmp}{r:List MR},Xu P s ops lo L=some r->∀(h:AH)(n:Nat)(t:Tr AV)(l:List AV),(C8 P s Y ops lo L).run f h n t l=oO P Y r f h n t l
 |[],L,r,e,h,n,t,l=>by cases e;rfl
 |o::lo,L,r,e,h,n,t,l=>by
  obtain⟨g,e1,e⟩:=aB (show bnd (RL s L ops o.guard) (λg=>bnd (Pk P s L o) λi=>bnd (cmD s o.dst) λd=>bnd (Xu P s ops lo (OQ s o.dst L)) λr=>some (⟨g,i,d⟩::r))=some r from e);obtain⟨i,e2,e⟩:=aB e;obtain⟨d,e3,e⟩:=aB e;obtain⟨r',e4,e⟩:=aB e;cases e
  have ih:=LJ e4;have hg:=LG (t:=t) (l:=l) e1;have yes:mQ ((cop P s Y L o).run f t l h n) (λv h n=>(Rq s o.dst).run t l v λt l=>(C8 P s Y ops lo (OQ s o.dst L)).run f h n t l)=mQ (i.run P Y f t l h n) λv h n=>RJ d t l v λt l=>oO P Y r' f h n t l:=by
   rw[LC e2];cases i.run P Y f t l h n with
   |bad=>rfl
   |ok v h n=>
    show(Rq s o.dst).run t l v _=RJ d t l v _;rw[LH e3];congr 1;funext t l;exact ih h n t l
  have no:(Rq s o.dst).run t l (.bQ []) (λt l=>(C8 P s Y ops lo (OQ s o.dst L)).run f h n t l)=RJ d t l (.bQ []) λt l=>oO P Y r' f h n t l:=by
   rw[LH e3];congr 1;funext t l;exact ih h n t l
  show(@Option.rec (Nat×Bool) (λ_=>Cg) _ _ o.guard:Cg).run f h n t l=_;rw[oO];cases hgd:o.guard with
  |none=>
   rw[hgd]at e1;cases e1;exact yes
  |some gd=>
   rw[hgd]at hg;show@Option.rec Bool (λ_=>eZ) eZ.bad (λb=>bc b _ _) ((G5 s L ops (some gd)).run t l)=_;rw[hg];cases BL g t l with
   |none=>rfl
   |some b=>
    cases b with
    |true=>exact yes
    |false=>exact no
theorem HY{ops:Array Oper}{W:List (Nat×Tmp)}{A:List Nat}{i j:Nat}{o:Oper}{q:MQ}(hk:q.k=dO o.op)(hks:q.ks=(lN W A j (zI ops.toList o)).map (·.1))
 (hg:RL (jM s W A j) ((lN W A j (zI ops.toList o)).map (·.2)) ops o.guard=some q.g)(hi:Pk P (jM s W A j) ((lN W A j (zI ops.toList o)).map (·.2)) o=some q.i)(x:Nat)(h:AH)(n:Nat)(vs:List AV):
 (lQ P s Y ops W A i j o).run f t x h n vs=lC P Y i q f t x h n vs:=by
 have h1:∀l,(G5 (jM s W A j) ((lN W A j (zI ops.toList o)).map (·.2)) ops o.guard).run t l=BL q.g t l:=λl=>LG hg;have h2:∀f t l h n,(cop P (jM s W A j) Y ((lN W A j (zI ops.toList o)).map (·.2)) o).run f t l h n=q.i.run P Y f t l h n:=λf t l h n=>LC hi;unfold lQ lC;dsimp only;rw[hk,hks];rcases lU o.op with e|e|e|e<;>rw[e]<;>simp only[h1,h2]<;>rfl
theorem HZ{ops:Array Oper}{W:List (Nat×Tmp)}{A E B:List Nat}:∀{lo:List Oper}{j:Nat}{q:List MQ},TI P s ops W A E B lo j=some q->∀(r n0:Nat)(h:AH)(n:Nat)(vs:List AV)(hs:List (Nat×AH)),
 (zO P s Y ops W A E B lo j r).run f t n0 h n vs hs=vC P Y q j r f t n0 h n vs hs
 |[],j,q,e,r,n0,h,n,vs,hs=>by cases e;rfl
 |o::lo,j,q,e,r,n0,h,n,vs,hs=>by
  obtain⟨g,e1,e⟩:=aB (show bnd (RL (jM s W A j) ((lN W A j (zI ops.toList o)).map (·.2)) ops o.guard) (λg=>bnd (Pk P (jM s W A j) ((lN W A j (zI ops.toList o)).map (·.2)) o) λi=>
   bnd (TI P s ops W A E B lo (j+1)) λr=>some (⟨dO o.op,IV E B A j,(lN W A j (zI ops.toList o)).map (·.1),g,i⟩::r))=some q from e)
  obtain⟨i,e2,e⟩:=aB e;obtain⟨q',e3,e⟩:=aB e;cases e
  have ih:=HZ e3;have hd:∀x h n vs,(lQ P s Y ops W A j j o).run f t x h n vs=lC P Y j ⟨dO o.op,IV E B A j,(lN W A j (zI ops.toList o)).map (·.1),g,i⟩ f t x h n vs:=λx h n vs=>HY rfl rfl e1 e2 x h n vs;show(bc (Nat.beq (dO o.op) 3) _ (bc (Nat.beq (dO o.op) 2) _ (bc (Nat.beq (dO o.op) 1) (bc (IV E B A j) _ _) _)):Dk).run f t n0 h n vs hs=_;rw[vC.eq_def];dsimp only;have cg:∀(x:eY)(F G:AV->AH->Nat->Ba),(∀v h n,F v h n=G v h n)->og x F=og x G:=λx F G h=>by
   cases x with
   |bad=>rfl
   |ok v a b=>exact h v a b
  rcases lU o.op with e|e|e|e<;>rw[e]at hd⊢
  .refine Eq.trans (congrArg (λz=>og z _) (hd _ _ _ _)) (cg _ _ _ λv h n=>ih _ _ _ _ _ _)
  .cases hr:IV E B A j with
   |true=>
    rw[hr]at hd;refine Eq.trans (congrArg (λz=>og z _) (hd _ _ _ _)) (cg _ _ _ λv _ _=>ih _ _ _ _ _ _)
   |false=>
    rw[hr]at hd;cases hs with
    |nil=>rfl
    |cons x hs=>refine Eq.trans (congrArg (λz=>og z _) (hd _ _ _ _)) (cg _ _ _ λv _ _=>ih _ _ _ _ _ _)
  .refine Eq.trans (congrArg (λz=>og z _) (hd _ _ _ _)) (cg _ _ _ λv h n=>ih _ _ _ _ _ _)
  .refine Eq.trans (congrArg (λz=>og z _) (hd _ _ _ _)) (cg _ _ _ λv h n=>ih _ _ _ _ _ _)
theorem BM{ops:Array Oper}{W:List (Nat×Tmp)}{A E B:List Nat}:∀{lo:List Oper}{j:Nat}{q:List MQ},TI P s ops W A E B lo j=some q->q.length=lo.length/\∀k o,lo[k]?=some o->∃m,q[k]?=some m/\m.k=dO o.op/\m.ks=(lN W A (j+k) (zI ops.toList o)).map (·.1)/\
 RL (jM s W A (j+k)) ((lN W A (j+k) (zI ops.toList o)).map (·.2)) ops o.guard=some m.g/\Pk P (jM s W A (j+k)) ((lN W A (j+k) (zI ops.toList o)).map (·.2)) o=some m.i
 |[],j,q,e=>by cases e;exact⟨rfl,λk o h=>by simp at h⟩
 |o::lo,j,q,e=>by
  obtain⟨g,e1,e⟩:=aB (show bnd (RL (jM s W A j) ((lN W A j (zI ops.toList o)).map (·.2)) ops o.guard) (λg=>bnd (Pk P (jM s W A j) ((lN W A j (zI ops.toList o)).map (·.2)) o) λi=>
   bnd (TI P s ops W A E B lo (j+1)) λr=>some (⟨dO o.op,IV E B A j,(lN W A j (zI ops.toList o)).map (·.1),g,i⟩::r))=some q from e)
  obtain⟨i,e2,e⟩:=aB e;obtain⟨q',e3,e⟩:=aB e;cases e
  obtain⟨h1,h2⟩:=BM e3;refine⟨by simp[h1],λk o' hk=>?_⟩;cases k with
  |zero=>cases hk;exact⟨_,rfl,rfl,rfl,e1,e2⟩
  |succ k=>
   have:=h2 k o' hk;rw[show j+1+k=j+(k+1) by omega]at this;exact this
theorem LK{ops:Array Oper}{W:List (Nat×Tmp)}{A E B:List Nat}{q:List MQ}(e:TI P s ops W A E B ops.toList 0=some q){vs:List AV}{hs:List (Nat×AH)}:∀(l:List (Nat×Nat)),(xX P s Y ops W A l).run f t vs hs=TH P Y q l f t vs hs
 |[]=>rfl
 |x::l=>by
  obtain⟨h1,h2⟩:=BM e;have h1:q.length=ops.size:=by rw[h1];simp
  show bc ((ck1 P s Y ops W A x.1 x.2).run f t vs hs) ((xX P s Y ops W A l).run f t vs hs) false=_;rw[TH,LK e l];congr 1;unfold ck1;cases ho:ops[x.1]? with
  |none=>
   have:q[x.1]?=none:=by rw[List.getElem?_eq_none_iff,h1];exact Array.getElem?_eq_none_iff.1 ho
   rw[this]
  |some o=>
   obtain⟨m,g1,g2,g3,g4,g5⟩:=h2 x.1 o (by rw[Array.getElem?_toList];exact ho);rw[Nat.zero_add]at g3 g4 g5;rw[g1,h1];dsimp only;cases C9 x.2 hs with
   |none=>rfl
   |some H=>
    cases (CU (ops.size - 1 - x.1)).run vs with
    |none=>rfl
    |some v=>dsimp only;rw[HY g2 g3 g4 g5];rfl
theorem BN{i:Nat}{vs:List AV}:∀(W:List (Nat×Tmp))(t:Tr AV),(Bb s i W).run vs t=Jj i (V4 s W) vs t
 |[],_=>rfl
 |x::l,t=>by
  show(bc (s.S x.2) _ (Bb s i l):PdF).run vs t=Jj i (bc (s.S x.2) (x::V4 s l) (V4 s l)) vs t;cases s.S x.2 with
  |false=>exact BN l t
  |true=>
   show bnd ((CU (i - 1 - x.1)).run vs) _=bnd ((CU (i - 1 - x.1)).run vs) _;congr 1;funext v;exact BN l _
theorem Pm{ops:Array Oper}{m:MC}(g:FuncId)(e:TJ P s ops=some m):(IX P s Y ops).run f h n t=m.run P Y g f h n t:=by
 obtain⟨e1,e⟩:=bI e;obtain⟨l,e2,e⟩:=aB e;cases e
 unfold IX;dsimp only;rw[e1,bD];dsimp only;show _=Fa P Y _ l _ _ f h n t;unfold Fa;rw[HZ e2];obtain⟨h1,_⟩:=BM e2;have h1:l.length=ops.size:=by rw[h1];simp
 cases vC P Y l 0 0 f t n h (Nat.add n (kOf (iF 2 ops.toList 0))) [] [(0,h)]with
 |bad=>rfl
 |ok h1' n1 vs hs=>
  dsimp only;rw[LK e2,BN,h1]
theorem LM{d:MD}{t:Tr AV}{l:List AV}{v:AV}{K:Tr AV->List AV->eZ}{j:Nat}{h':AH}{n':Nat}{t':Tr AV}(hK:∀t l,K t l= .ok (.goto j) h' n' t'->False)(e:RJ d t l v K= .ok (.goto j) h' n' t'):False:=by
 cases d<;>exact hK _ _ e
theorem BO{j:Nat}{h':AH}{n':Nat}{t':Tr AV}:∀{r:List MR}{h:AH}{n:Nat}{t:Tr AV}{l:List AV},oO P Y r f h n t l= .ok (.goto j) h' n' t'->False
 |[],h,n,t,l,e=>by cases e
 |o::r,h,n,t,l,e=>by
  rw[oO]at e;split at e
  .cases e
  .obtain⟨v,h1,n1,e1,e2⟩:=xw e
   exact LM (λt l e=>BO e) e2
  .exact LM (λt l e=>BO e) e
theorem rU{g:FuncId}{j:Nat}{h':AH}{n':Nat}{t':Tr AV}:∀{m:MC}{h:AH}{n:Nat}{t:Tr AV},m.run P Y g f h n t= .ok (.goto j) h' n' t'->False
 | .skip,h,n,t,e=>by cases e
 | .reg l,h,n,t,e=>BO e
 | .Aj K l ck wr,h,n,t,e=>by
  have e:Fa P Y K l ck wr f h n t= .ok (.goto j) h' n' t':=e;unfold Fa at e;split at e
  .cases e
  .rename_i h1 n1 vs hs _
   cases hc:TH P Y l ck f t vs hs with
   |false=>rw[hc]at e;cases e
   |true=>
    rw[hc]at e;cases hp:Jj l.length wr vs t with
    |none=>rw[hp]at e;cases e
    |some t1=>rw[hp]at e;cases e
 | .seq a b,h,n,t,e=>by
  obtain⟨x,h1,n1,t1,e1,e2⟩:=jh (show iO (a.run P Y g f h n t) _=_ from e);cases x with
  |bT=>exact rU (m:=b) e2
  |goto i=>exact rU (m:=a) e1
  |exit i=>cases e2
  |ret=>cases e2
 | .cond c a b,h,n,t,e=>by
  have e:(match gL c t []with|some (.b x)=>bc x (a.run P Y g f h n t) (b.run P Y g f h n t)|_=>.bad)= .ok (.goto j) h' n' t':=e;split at e
  .rename_i x _
   cases x
   .exact rU (m:=b) e
   .exact rU (m:=a) e
  .cases e
 | .blk id a,h,n,t,e=>by
  obtain⟨x,h1,n1,t1,e1,e2⟩:=jh (show iO (a.run P Y g f h n t) _=_ from e);cases x with
  |bT=>cases e2
  |goto i=>exact rU (m:=a) e1
  |exit i=>
   have e2:bc (Nat.beq i id) (eZ.ok .bT h1 n1 t1) (.ok (.exit i) h1 n1 t1)= .ok (.goto j) h' n' t':=e2;cases hb:Nat.beq i id<;>rw[hb]at e2<;>cases e2
  |ret=>cases e2
 | .loop a,h,n,t,e=>by
  have key:∀(K:Nat)(h:AH)(n:Nat)(t:Tr AV),oL K ⟨a.run P Y g⟩ f h n t= .ok (.goto j) h' n' t'->False:=by
   intro K;induction K with
   |zero=>intro h n t e;cases e
   |succ K ih=>
    intro h n t e;obtain⟨x,h1,n1,t1,e1,e2⟩:=jh (show iO (a.run P Y g f h n t) (λx h n t=>CQ x (oL K ⟨a.run P Y g⟩ f h n t) (.ok x h n t))=_ from e);cases x with
    |bT=>exact ih _ _ _ e2
    |goto i=>exact rU (m:=a) e1
    |exit i=>cases e2
    |ret=>cases e2
  exact key _ _ _ _ e
 | .exit id,h,n,t,e=>by cases e
 | .ret,h,n,t,e=>by cases e
 | .rng r ps fH body,h,n,t,e=>by
  have e:(match gL r t []with|some (.f q cap)=>mQ (f q (.y n::cap) (h.set n (.lp .ready none g t ps fH body)) (Nat.succ n)) (λ_ h2 n2=>G6 n h2 n2 t)|_=>.bad)= .ok (.goto j) h' n' t':=e;split at e
  .obtain⟨v,h1,n1,e1,e2⟩:=xw e
   obtain⟨_,pd,_,_,_,_,_,_,_,_,_,_,e3⟩:=Lu e2;rcases e3 with⟨_,e3⟩|⟨_,e3⟩|⟨_,_,e3⟩<;>cases e3
  .cases e
theorem lD(g:FuncId):∀{c:Code}{m:MC},yA P (sl g) c=some m->∀f h n t,(cc P sl g Y c).run f h n t=m.run P Y g f h n t
 | .skip,m,e,f,h,n,t=>by cases e;rfl
 | .region id ops d,m,e,f,h,n,t=>by
  cases d with
  |true=>exact Pm g (show TJ P (sl g) ops=some m from e)
  |false=>
   obtain⟨l,e1,e⟩:=aB (show bnd (Xu P (sl g) ops ops.toList []) (λl=>some (MC.reg l))=some m from e);cases e
   exact LJ e1 h n t []
 | .seq a b,m,e,f,h,n,t=>by
  obtain⟨a',e1,e⟩:=aB (show bnd (yA P (sl g) a) (λa=>bnd (yA P (sl g) b) λb=>some (MC.seq a b))=some m from e);obtain⟨b',e2,e⟩:=aB e;cases e
  show iO ((cc P sl g Y a).run f h n t) _=iO (a'.run P Y g f h n t) _;rw[lD g e1];congr 1;funext x h n t;rw[lD g e2]
 | .cond c a b,m,e,f,h,n,t=>by
  obtain⟨c',e0,e⟩:=aB (show bnd (iM (sl g) [] c) (λc=>bnd (yA P (sl g) a) λa=>bnd (yA P (sl g) b) λb=>some (MC.cond c a b))=some m from e);obtain⟨a',e1,e⟩:=aB e;obtain⟨b',e2,e⟩:=aB e;cases e
  show(match(co (sl g) [] c).run t []with|some (.b x)=>bc x ((cc P sl g Y a).run f h n t) ((cc P sl g Y b).run f h n t)|_=>.bad)=match gL c' t []with|some (.b x)=>bc x (a'.run P Y g f h n t) (b'.run P Y g f h n t)|_=>.bad
  rw[aW e0,lD g e1,lD g e2]
 | .block id a,m,e,f,h,n,t=>by
  obtain⟨a',e1,e⟩:=aB (show bnd (yA P (sl g) a) (λa=>some (MC.blk id a))=some m from e);cases e
  show iO ((cc P sl g Y a).run f h n t) _=iO (a'.run P Y g f h n t) _;rw[lD g e1];rfl
 | .loop a,m,e,f,h,n,t=>by
  obtain⟨a',e1,e⟩:=aB (show bnd (yA P (sl g) a) (λa=>some (MC.loop a))=some m from e);cases e
  show oL 1125899906842624 (cc P sl g Y a) f h n t=oL 1125899906842624 ⟨a'.run P Y g⟩ f h n t;congr 1;have:(cc P sl g Y a).run=a'.run P Y g:=by funext f h n t;exact lD g e1 f h n t
  rw[<-this]
 | .label _,m,e,f,h,n,t=>by cases e;rfl
 | .exit id,m,e,f,h,n,t=>by cases e;rfl
 | .ret,m,e,f,h,n,t=>by cases e;rfl
 | .rangeFunc r ps fH body,m,e,f,h,n,t=>by
  obtain⟨r',e1,e⟩:=aB (show bnd (iM (sl g) [] r) (λr=>some (MC.rng r ps.toList fH body))=some m from e);cases e
  show(match(co (sl g) [] r).run t []with|some (.f q cap)=>mQ (f q (.y n::cap) (h.set n (.lp .ready none g t ps.toList fH body)) (Nat.succ n)) (λ_ h2 n2=>G6 n h2 n2 t)|_=>.bad)=_;rw[aW e1];rfl
 | .goto _,m,e,f,h,n,t=>by cases e
 | .scope a,m,e,f,h,n,t=>by
  show iO ((cc P sl g Y a).run f h n t) (λx h n t=>match x with
   | .goto _=>.bad
   |x=>.ok x h n t)=_
  rw[lD g (show yA P (sl g) a=some m from e)];cases hr:m.run P Y g f h n t with
  |bad=>rfl
  |ok x h1 n1 t1=>
   cases x with
   |goto i=>exact(rU hr).elim
   |bT=>rfl
   |exit i=>rfl
   |ret=>rfl
 | .refuse _,m,e,f,h,n,t=>by cases e
end
end Go.Proofs.YtjoohkjmoghmoaaGreatDoor
