/- part -/
import Derived.RangeFuncNested
import Derived.RangeFuncBound
import Derived.Test.YtpmdedcnbockhaaGreatDoorS00
import Derived.Shelf.RegionOpen
import Derived.OwnWalkIn
import Derived.LoopNIn
import Derived.LoopIn
namespace Go.Proofs.YtpmdedcnbockhaaGreatDoor
section
open Go.RowKit
def Xz{α:Type}(F:Fence)(n:Nat)(P:Program)(g:Nat)(lb:Array Value)(encs:α->Array Value)(I:List α->World->Prop)(Ok:List α->α->Prop)(S:List α->Prop):Prop:=
 ∀(l:Nat)(J:List α->World->Prop)(W:World),(∀pre V,J pre V->I pre V)->AbidesFrom W.heap.size J->
  (∀pre x V,J pre V->Ok pre x->YieldAt F (n - 1) P l (encs x) V λe V'=>e= .returned (.bool true)/\J (pre++[x]) V')->J [] W->
  CallsIn F n P g (#[.func (.yield l) #[] #[]]++lb) W λe W'=>(∃v,e= .returned v)/\∃xs,S xs/\J xs W'
theorem xR{F:Fence}{n:Nat}{P:Program}{α:Type}{g:Operand}{ps:Array Tmp}{assign body:Code}{Q:Exit->Act->World->Prop}{a:Act}{w:World}
 (hro:F.round=none)(h1:1<=n){gf:Nat}{lb:Array Value}(hg:a.eval g= .func (.func gf) #[] lb)(hFg:F.fn gf)(eg:∀args w,(callFunc gf args).run P w= .ok (.enter gf args) w)
 {encs:α->Array Value}{I:List α->World->Prop}{Ok:List α->α->Prop}{S:List α->Prop}(hseq:Xz F (n - 1) P gf lb encs I Ok S)(hps:∀x,(encs x).size=ps.size)
 (hI:OwnFrom w.heap.size I)(h0:I [] w)(a₁:α->Act)
 (hassign:∀(l:Nat)(x:α)(W:World)(K:Act->World->Prop),K (a₁ x) W->assign.wpIn (F.inRound l) (n - 1 - 1) P (Exit.then K (λ_ _ _=>False)) {tmps:=(ps.zip (encs x)).foldl (λt (p,v)=>t.setIfInBounds p v) a.tmps,defers:=[]} W)
 (hbody:∀(l:Nat)(pre:List α)(x:α)(W:World),I pre W->Ok pre x->body.wpIn (F.inRound l) (n - 1 - 1) P (λe _ W'=>e= .normal/\KeepsFrom w.heap.size W W'/\I (pre++[x]) W') (a₁ x) W)
 (hdone:∀(D:Nat)(xs:List α)(W:World),w.heap.size<=D->S xs->I xs W->W.heap[D]?=some (.deferred (some []))->Q .normal {a with defers:={target:=.collected D,args:=#[]}::a.defers} W):
 (Code.rangeFunc g ps assign body).wpIn F n P Q a w:=by
 refine wpIn_rangeFunc λfn hfn=>?_;rw[hro];generalize hD:w.heap.size=D;obtain⟨rec,hrec⟩:∃rec:LoopState->Loop,rec=λst=>{state:=st,pending:=none,fn,tmps:=a.tmps,params:=ps,assign,body,defers:=D}:=⟨_,rfl⟩;obtain⟨W1,hW1⟩:∃W1,(w.alloc (.deferred (some []))).alloc (.loop (rec .ready))=W1:=⟨_,rfl⟩;have hL1:W1.heap[D+1]?=some (.loop (rec .ready)):=by
  have h:=World.alloc_heap_new (w.alloc (.deferred (some []))) (.loop (rec .ready));rw[aT,hD,hW1]at h;exact h
 have hK1:W1.heap[D]?=some (.deferred (some [])):=by
  rw[<-hW1,<-hD];exact(Below.heap_alloc _ _ _ (by simp)).trans (World.alloc_heap_new w _)
 have hsz:D+2<=W1.heap.size:=by rw[<-hW1,<-hD];simp
 have hI1:I [] W1:=by rw[<-hW1];exact hI.alloc _ (hI.alloc _ h0)
 rw[hD]at hI hbody hdone;refine⟨D+1,[{target:=.collected D,args:=#[]}],W1,{target:=.fn (.func gf) lb,args:=#[.func (.yield (D+1)) #[] #[]]},W1,gf,#[.func (.yield (D+1)) #[] #[]]++lb,W1,?_,?_,?_,?_,λ_=>h1,?_⟩
 .have h:=run_enterLoop_outer (P:=P) (w:=w) fn a.tmps ps assign body
  rw[hD]at h;rw[h,<-hW1,hrec]
 .simp only[resolve,hg]
  simp[go_sem]
 .intro f' hf'
  simp[Target.leads]at hf';subst hf';exact hFg
 .simp[invoke,go_sem,eg]
 .refine(hseq (D+1) (λpre W=>I pre W/\W.heap[D+1]?=some (.loop (rec .ready))/\W.heap[D]?=some (.deferred (some []))) W1 (λ_ _ h=>h.1) ?_ ?_ ⟨hI1,hL1,hK1⟩).mono ?_
  .intro s A B row hs hgr hr
   refine⟨hI s A B row hs.1 hgr (λr e=>?_),(grownBy_keeps hgr (λr e=>(hr r e).2) hs.2.1 rfl).trans hs.2.1,(grownBy_keeps hgr (λr e=>(hr r e).2) hs.2.2 rfl).trans hs.2.2⟩;obtain⟨hB,o,ho,hw⟩:=hr r e;exact⟨by omega,o,ho,Obj.not_cells_of_walk hw⟩
  .rintro pre x W ⟨hi,hl,hk⟩ hok
   have hlt:D+1<W.heap.size:=(lS.1 hl).1;have hy:=run_yield (P:=P) (args:=encs x) hl (by rw[hrec];exact hps x);rw[hrec]at hy;refine⟨fn,_,assign,body,hy,roundIn_of_wpIn hfn (hassign _ x W _ ?_)⟩;refine⟨_,run_beginRound hl (by rw[hrec]),?_⟩;generalize hB:W.putObj (D+1) (.loop {rec .ready with state:=.busy})=WB;have hl2:WB.heap[D+1]?=some (.loop {rec .ready with state:=.busy}):=by rw[<-hB];exact World.putObj_heap_same hlt
   have hk2:WB.heap[D]?=some (.deferred (some [])):=by rw[<-hB];exact(World.putObj_heap_other (by omega)).trans hk
   have hi2:I pre WB:=by rw[<-hB];exact hI.putObj _ hi (by omega) hl rfl
   refine wpIn_mono (hbody _ pre x WB hi2 hok) ?_;rintro e a3 W3 ⟨rfl,hk3,hi3⟩;have hl3:=hk3.same _ _ (by omega) hl2 rfl;have hk4:=hk3.same _ _ (bJ _) hk2 rfl;have hr3:=run_endRound (P:=P) none hl3;refine⟨_,_,hr3,rfl,hI.putObj _ hi3 (by omega) hl3 rfl,?_,(World.putObj_heap_other (by omega)).trans hk4⟩;rw[World.putObj_heap_same (lS.1 hl3).1,hrec];rfl
  .rintro e W2 ⟨⟨v,rfl⟩,xs,hS,hi,hl,hk⟩
   have he:=run_endLoop (P:=P) hl (by rw[hrec];simp);exact⟨none,_,by rw[hrec]at he;exact he,hdone _ xs _ (bJ _) hS (hI.putObj _ hi (by omega) hl rfl) ((World.putObj_heap_other (by omega)).trans hk)⟩
end
section
open Go.RowKit
section
variable {F:Fence} {n:Nat} {P:Program} {ops:Array Oper} {md:Region.Mode} {C:World->Prop} {Q:Exit->Act->World->Prop}
structure jV(F:Fence)(P:Program):Prop where
 fn:∀f,F.fn f
 depth:F.depth=none
 calls:∀n f args w R,Calls P f args w R->CallsIn F n P f args w R
theorem jV.wide(P:Program):jV Fence.wide P:=⟨λ_=>trivial,rfl,λ_ _ _ _ _ h=>fq.2 h⟩
theorem jV.round(P:Program)(l:Nat):jV (Fence.wide.inRound l) P:=⟨λ_=>trivial,rfl,λ_ _ _ _ _ h=>CallsIn.inRound l (fq.2 h)⟩
def gM(o:Oper):Bool:=match o.op with| .defer _=>false|_=>true
theorem fI{o:Oper}(h:gM o=true):∀c,o.op≠ .defer c:=λc e=>by simp[gM,e]at h
theorem EW{i:Nat}{a:Act}{K:Act->Prop}{K':Act->World->Prop}{w:World}(hF:jV F P)(hd:∀o,ops[i]?=some o->gM o=true)(hC:C w)(h:∀a w',C w'->K a->K' a w')(hh:qOp P ops C i K a):wpOpIn F n P ops Q i K' a w:=by
 unfold qOp at hh;unfold wpOpIn;split
 .rename_i ho
  simp only[ho]at hh;exact h _ _ hC hh
 .rename_i o ho
  simp only[ho]at hh;split
  .rename_i hw
   simp only[hw,if_true]at hh;obtain⟨v,h1,h2⟩:=hh;refine⟨λf _=>hF.fn f,?_⟩;rw[Oper.semAt_plain F _ _ (fI (hd o ho))];have h3:=h1 w hC;unfold Oper.quietAt at h3;generalize(execOp a.eval o).run P w=r at*;cases r with
   |ok x w'=>
    cases x<;>simp only[Oper.quietUpon]at h3
    case value u=>
     obtain⟨e1,e2⟩:=h3;subst e1 e2;exact h _ _ hC h2
    case skip=>
     obtain⟨e1,e2⟩:=h3;subst e1 e2;exact h _ _ hC h2
    case enter f args=>
     obtain⟨e1,hc⟩:=h3;subst e1;refine⟨λe=>(by rw[hF.depth]at e;cases e),(hF.calls _ _ _ _ _ hc).mono ?_⟩;rintro e w'' ⟨rfl,hw''⟩;exact h _ _ hw'' h2
   |halt x w'=>simp only[Oper.quietUpon]at h3
  .rename_i hw
   simp only[hw]at hh;exact⟨λf _=>hF.fn f,h _ _ hC hh⟩
def fO(k:Nat)(listed:Array Bool):Bool:=(List.range k).all λi=>listed.getD i false
theorem fE{k:Nat}{listed:Array Bool}:fO k listed=true↔∀i,i<k->listed.getD i false=true:=by
 simp[fO]
def Down(md:Region.Mode)(ops:Array Oper)(listed:Array Bool):Prop:=∀j,listed.getD j false=true->∀o,ops[j]?=some o->∀e∈o.after,Region.binds md e=true->listed.getD e.on false=true
theorem Down.set{listed:Array Bool}{j:Nat}(h:Down md ops listed)(hj:j∈Region.ready md ops listed):Down md ops (listed.setIfInBounds j true):=by
 obtain⟨h0,o,ho,hall⟩:=mem_ready.1 hj;intro i hi o' ho' e he hb;by_cases hij:j=i
 .subst hij
  rw[ho]at ho';injection ho' with ho'
  subst ho';exact getD_set_true (hall e he hb)
 .rw[getD_set_ne false hij]at hi
  exact getD_set_true (h i hi o' ho' e he hb)
def iE(md:Region.Mode)(ops:Array Oper)(j i:Nat):Bool:=match ops[j]? with|some o=>o.after.any λe=>Region.binds md e&&e.on==i|none=>false
theorem kR{i j:Nat}{listed:Array Bool}(hw:iE md ops j i=true)(hj:j∈Region.ready md ops listed):listed.getD i false=true:=by
 obtain⟨h0,o,ho,hall⟩:=mem_ready.1 hj;simp only[iE,ho]at hw;obtain⟨e,he,hb⟩:=Array.any_eq_true'.1 hw;simp only[bS,beq_iff_eq]at hb;rw[<-hb.2];exact hall e he hb.1
theorem mM{i j:Nat}{listed:Array Bool}(hw:iE md ops j i=true)(hd:Down md ops listed)(hj:listed.getD j false=true):listed.getD i false=true:=by
 unfold iE at hw;split at hw
 .rename_i o ho
  obtain⟨e,he,hb⟩:=Array.any_eq_true'.1 hw;simp only[bS,beq_iff_eq]at hb;rw[<-hb.2];exact hd j hj o ho e he hb.1
 .cases hw
def nE(md:Region.Mode)(ops:Array Oper)(k:Nat):Bool:=
 ((List.range k).all λi=>(List.range (k+1)).any λj=>decide (i<j)&&iE md ops j i)&&(List.range ops.size).all λq=>decide (q<=k)||iE md ops q (q - 1)
theorem oF{k:Nat}(h:nE md ops k=true){listed:Array Bool}(hd:Down md ops listed){j:Nat}(hj:j∈Region.ready md ops listed)(hk:k<=j):∀i,i<k->listed.getD i false=true:=by
 simp only[nE,bS,fV,List.mem_range,List.any_eq_true,decide_eq_true_eq,qH]at h;obtain⟨h1,h2⟩:=h
 -- all that operation k waits for is listed
 have hkw:∀i,iE md ops k i=true->listed.getD i false=true:=by
  by_cases e:j=k
  .subst e
   exactλi hi=>kR hi hj
  .have hlt:j<ops.size:=by
    obtain⟨_,o,ho,_⟩:=mem_ready.1 hj;exact(lS.1 ho).1
   have hl:∀d,k+d+1=j\/k+d+1<j->listed.getD (k+d) false=true:=by
    intro d;have hx:∀m,∀d,j - (k+d)=m->(k+d+1=j\/k+d+1<j)->listed.getD (k+d) false=true:=by
     intro m;induction m with
     |zero=>intro d hm hd2;omega
     |succ m ih=>
      intro d hm hd2;have hq:=h2 (k+d+1) (by omega);have hq':iE md ops (k+d+1) (k+d)=true:=by
       rcases hq with hq|hq
       .omega
       .simpa using hq
      rcases hd2 with hd2|hd2
      .rw[hd2]at hq'
       exact kR hq' hj
      .exact mM hq' hd (ih (d+1) (by omega) (by omega))
    exact hx _ d rfl
   have hk0:=hl 0 (by omega);exactλi hi=>mM hi hd hk0
 have hx:∀m i,k - i=m->i<k->listed.getD i false=true:=by
  intro m;induction m using Nat.strongRecOn with
  |_ m ih=>
   intro i hm hi;obtain⟨j',hj',hij,hw⟩:=h1 i hi;by_cases e:j'=k
   .subst e
    exact hkw i hw
   .exact mM hw hd (ih (k - j') (by omega) j' rfl (by omega))
 exactλi hi=>hx _ i rfl hi
def anyM(F:Fence)(n:Nat)(P:Program)(md:Region.Mode)(ops:Array Oper)(C:World->Prop)(Q:Exit->Act->World->Prop)(k:Nat):Nat->Array Bool->Act->Prop
 |0,listed,a=>fO k listed=true/\∀w,C w->wpAnyIn F n P md ops Q 0 listed a w
 |fuel+1,listed,a=>
  (fO k listed=true->∀w,C w->wpAnyIn F n P md ops Q (fuel+1) listed a w)/\
  (fO k listed=false->Region.ready md ops listed≠[]/\∀i∈Region.ready md ops listed,qOp P ops C i (anyM F n P md ops C Q k fuel (listed.setIfInBounds i true)) a)
theorem wI{k:Nat}(hF:jV F P)(hdef:∀(i:Nat) o,ops[i]?=some o->i<k->gM o=true)(hn:nE md ops k=true):∀(fuel:Nat)(listed:Array Bool)(a:Act)(w:World),Down md ops listed->C w->
 anyM F n P md ops C Q k fuel listed a->wpAnyIn F n P md ops Q fuel listed a w
 |0,_,_,w,_,hw,h=>h.2 w hw
 |fuel+1,listed,a,w,hd,hw,h=>by
  cases hu:fO k listed with
  |true=>exact h.1 hu w hw
  |false=>
   obtain⟨hne,hall⟩:=h.2 hu;refine⟨λe=>absurd e hne,λi hi=>EW hF (λo ho=>hdef i o ho ?_) hw (λa' w' hw' h'=>wI hF hdef hn fuel _ a' w' (hd.set hi) hw' h') (hall i hi)⟩;rcases iH i k with h1|h1
   .exact h1
   .rw[fE.2 (oF hn hd hi h1)]at hu
    cases hu
theorem QI{k i:Nat}{oi:Oper}{v:Value}(hn:nE md ops k=true)(hik:i<k)(hi:ops[i]?=some oi)(hsel:∀(j:Nat)(o:Oper) cs b,ops[j]?=some o->o.op≠ .select cs b):
 ∀(fuel:Nat)(listed:Array Bool)(a:Act),Down md ops listed->
  (∀j oj,ops[j]?=some oj->j≠i->listed.getD j true=false->(∀e∈oj.after,Region.binds md e=true->e.on≠i)->oi.apart ops oj=true)->
  i∈Region.ready md ops listed->YieldsIn P ops C oi v a->
  anyM F n P md ops C Q k fuel (listed.setIfInBounds i true) (a.put oi.dst v)->anyM F n P md ops C Q k (fuel+1) listed a:=by
 have acU:∀listed:Array Bool,i∈Region.ready md ops listed->fO k listed=false:=λlisted hr=>by
  cases hu:fO k listed with
  |false=>rfl
  |true=>
   have h1:=fE.1 hu i hik;have h0:=(mem_ready.1 hr).1;rcases iH i listed.size with h'|h'
   .simp[h']at h0 h1
    rw[h0]at h1;cases h1
   .simp[Array.getElem?_eq_none h']at h1
 -- an operation that may come up beside i is below k,and something below k is then still to come behind i
 have hside:∀(listed:Array Bool)(j:Nat),Down md ops listed->i∈Region.ready md ops listed->j∈Region.ready md ops listed->j≠i->fO k (listed.setIfInBounds i true)=false:=λlisted j hd hr hj hji=>by
  cases hu:fO k (listed.setIfInBounds i true)with
  |false=>rfl
  |true=>
   have hjk:j<k:=by
    rcases iH j k with h1|h1
    .exact h1
    .have h2:=fE.2 (oF hn hd hj h1)
     rw[acU listed hr]at h2;cases h2
   have h1:=fE.1 hu j hjk;rw[getD_set_ne false (Ne.symm hji)]at h1;have h0:=(mem_ready.1 hj).1;rcases iH j listed.size with h'|h'
   .simp[h']at h0 h1
    rw[h0]at h1;cases h1
   .simp[Array.getElem?_eq_none h']at h1
 intro fuel;induction fuel with
 |zero=>
  intro listed a hd _ hr hy H;refine⟨λhu=>(by rw[acU listed hr]at hu;cases hu),λ_=>⟨λe=>(by rw[e]at hr;cases hr),λj hj=>?_⟩⟩;by_cases hji:j=i
  .subst hji;exact hy.qOp hi H
  .have h1:=hside listed j hd hr hj hji
   rw[H.1]at h1;cases h1
 |succ fuel ih=>
  intro listed a hd hfree hr hy H;refine⟨λhu=>(by rw[acU listed hr]at hu;cases hu),λ_=>⟨λe=>(by rw[e]at hr;cases hr),λj hj=>?_⟩⟩;by_cases hji:j=i
  .subst hji;exact hy.qOp hi H
  .have h1:=(H.2 (hside listed j hd hr hj hji)).2 j (ready_mono hj hji)
   obtain⟨hjun,oj,hoj,hall⟩:=mem_ready.1 hj;have hnot:∀e∈oj.after,Region.binds md e=true->e.on≠i:=λe he hb heq=>by
    have h1:=hall e he hb;have h0:=(mem_ready.1 hr).1;rw[heq]at h1;rcases iH i listed.size with h'|h'
    .simp[h']at h0 h1;rw[h0]at h1;cases h1
    .simp[Array.getElem?_eq_none h']at h1
   have h2:=qOp_put hoj (hfree j oj hoj hji hjun hnot) (λcs b=>hsel i oi cs b hi) (λcs b=>hsel j oj cs b hoj) hy h1;have hfree':∀k ok,ops[k]?=some ok->k≠i->(listed.setIfInBounds j true).getD k true=false->
    (∀e∈ok.after,Region.binds md e=true->e.on≠i)->oi.apart ops ok=true:=λk ok hk hki hun hno=>by
    refine hfree k ok hk hki ?_ hno;by_cases hjk:j=k
    .subst hjk;exact hjun
    .rw[getD_set_ne true hjk]at hun;exact hun
   refine qOp_mono (λa' h3=>ih (listed.setIfInBounds j true) a' (hd.set hj) hfree' (ready_mono hr (Ne.symm hji)) h3.1 ?_) h2;rw[Array.setIfInBounds_comm _ _ hji];exact h3.2
def kI(md:Region.Mode)(ops:Array Oper):Nat->Nat->Array Bool->Bool
 |0,k,listed=>fO k listed&&nG (ops.size - k) k listed
 |fuel+1,k,listed=>(Region.ready md ops listed).contains k&&Region.free md ops listed k&&kI md ops fuel (k+1) (listed.setIfInBounds k true)
where
 nG:Nat->Nat->Array Bool->Bool
 |0,_,listed=>(Region.ready md ops listed).isEmpty
 |fuel+1,k,listed=>(Region.ready md ops listed==[k])&&nG fuel (k+1) (listed.setIfInBounds k true)
theorem kS:∀(l:List Oper)(k:Nat)(listed:Array Bool)(a:Act)(w:World),(∀j,l[j]?=ops[k+j]?)->kI.nG md ops l.length k listed=true->wpListIn F n P ops Q l a w->wpAnyIn F n P md ops Q l.length listed a w
 |[],_,listed,a,w,_,hB,h=>⟨by simpa [kI.nG]using hB,h⟩
 |o::l,k,listed,a,w,hl,hB,h=>by
  have h0:ops[k]?=some o:=by simpa using(hl 0).symm
  simp only[gV,kI.nG,bS,beq_iff_eq]at hB;obtain⟨hr,hB'⟩:=hB;refine⟨λe=>(by rw[e]at hr;cases hr),λi hi=>?_⟩;rw[hr,eB]at hi;subst hi;have ih:=λa' w'=>kS l (i+1) (listed.setIfInBounds i true) a' w' (λj=>by have:=hl (j+1);simpa [iR,Nat.add_comm 1 j]using this) hB';refine wpOpIn_mono (λa' w' h'=>ih a' w' h') ?_;unfold wpOpIn;simp only[h0];exact h
theorem N7{K:Nat}(hF:jV F P)(hs:Region.noSelect ops=true)(hn:nE md ops K=true){l2:List Oper}(hl2:∀j,l2[j]?=ops[K+j]?)(hsz:l2.length=ops.size - K):∀(l:List Oper)(k:Nat)(listed:Array Bool)(a:Act),k+l.length=K->(∀j,j<l.length->l[j]?=ops[k+j]?)->Down md ops listed->
 kI md ops l.length k listed=true->wpQuiet P ops C (λa'=>∀w',C w'->wpListIn F n P ops Q l2 a' w') l a->anyM F n P md ops C Q K (l.length+l2.length) listed a
 |[],k,listed,a,hk,_,_,hB,h=>by
  simp only[kM,kP]at hk;subst hk;simp only[kM,kI,bS]at hB;obtain⟨hu,hB⟩:=hB;rw[<-hsz]at hB;have hx:∀w,C w->wpAnyIn F n P md ops Q l2.length listed a w:=λw hw=>kS l2 k listed a w hl2 hB (h w hw);rw[kM,pF];cases hl:l2.length with
  |zero=>rw[hl]at hx;exact⟨hu,hx⟩
  |succ m=>rw[hl]at hx;exact⟨λ_=>hx,λe=>(by rw[hu]at e;cases e)⟩
 |o::l,k,listed,a,hk,hl,hd,hB,h=>by
  have h0:ops[k]?=some o:=by simpa using(hl 0 (by simp)).symm
  simp only[gV,kI,bS]at hB;obtain⟨⟨hr,hf⟩,hB'⟩:=hB;have hr':k∈Region.ready md ops listed:=by simpa using hr
  have hst:qOp P ops C k (wpQuiet P ops C (λa'=>∀w',C w'->wpListIn F n P ops Q l2 a' w') l) a:=by unfold qOp;simp only[h0];exact h
  obtain⟨v,hy,hK⟩:=yieldsIn_of_qOp h0 hst;have ih:=N7 hF hs hn hl2 hsz l (k+1) (listed.setIfInBounds k true) (a.put o.dst v) (by rw[gV]at hk;omega) (λj hj=>by have:=hl (j+1) (by simp;omega);simpa [iR,Nat.add_comm 1 j]using this) (hd.set hr') hB' hK;rw[show(o::l).length+l2.length=l.length+l2.length+1 by simp;omega];exact QI hn (by rw[gV]at hk;omega) h0 (Region.noSelect_spec hs) _ listed a hd (Region.free_spec h0 hf) hr' hy ih
def preB(ops:Array Oper)(k:Nat):Bool:=Region.noSelect ops&&nE .any ops k&&kI .any ops k 0 (Array.replicate ops.size false)&&(ops.toList.take k).all gM
theorem ql{id:Nat}{a:Act}{w:World}{l:List Oper}(k:Nat)(C:World->Prop)(hF:jV F P)(hk:k<=l.length)(hm:P.follows .mixedOrders=true)(hB:preB l.toArray k=true)(hC:C w.drew)
 (h:wpQuiet P l.toArray C (λa'=>∀w',C w'->wpListIn F n P l.toArray Q (l.drop k) a' w') (l.take k) a):(Code.region id l.toArray true).wpIn F n P Q a w:=by
 simp only[preB,bS]at hB;obtain⟨⟨⟨hs,hn⟩,hp⟩,hd⟩:=hB;have pO:Down .any l.toArray (Array.replicate l.toArray.size false):=λj hj=>by
  exfalso;rcases iH j l.length with h'|h'
  .simp[h']at hj
  .simp[h']at hj
 refine wpIn_region_any hm ?_;have h1:=N7 (md:=.any) (ops:=l.toArray) (F:=F) (n:=n) (P:=P) (C:=C) (Q:=Q) (K:=k) hF hs hn (l2:=l.drop k) (λj=>by simp) (by simp) (l.take k) 0 (Array.replicate l.toArray.size false) a (by simp;omega) (λj hj=>by
  rw[pz]at hj;simp[show j<k by omega]) pO (by simpa [Nat.min_eq_left hk]using hp) h
 rw[show(l.take k).length+(l.drop k).length=l.toArray.size by simp;omega]at h1;refine wI hF (λi o ho hi=>?_) hn _ _ _ _ pO hC h1;have h2:=fV.1 hd o;refine h2 ?_;rw[jW];exact⟨i,by rw[lT,if_pos hi];simpa using ho⟩
theorem Ag{id:Nat}{a:Act}{w:World}{l:List Oper}(k:Nat)(C:World->Prop)(hk:k<=l.length)(hm:P.follows .mixedOrders=true)(hB:preB l.toArray k=true)(hC:C w.drew)
 (h:wpQuiet P l.toArray C (λa'=>∀w',C w'->wpListIn Fence.wide 0 P l.toArray Q (l.drop k) a' w') (l.take k) a):(Code.region id l.toArray true).wp P Q a w:=
 wpIn_wide.1 (ql (n:=0) k C (jV.wide P) hk hm hB hC h)
theorem aR{id:Nat}{a:Act}{w:World}{l:List Oper}(k:Nat)(hF:jV F P)
 (h:wpQuiet P l.toArray (λw'=>∃m,w'=w.drewN m) (λa'=>∀w',(∃m,w'=w.drewN m)->wpListIn F n P l.toArray Q (l.drop k) a' w') (l.take k) a)(hk:k<=l.length:=by simp)(hm:P.follows .mixedOrders=true:=by kernel_rfl)(hB:preB l.toArray k=true:=by kernel_rfl):(Code.region id l.toArray true).wpIn F n P Q a w:=
 ql k _ hF hk hm hB ⟨1,rfl⟩ h
theorem iU{id:Nat}{a:Act}{w:World}{l:List Oper}(k:Nat)
 (h:wpQuiet P l.toArray (λw'=>∃m,w'=w.drewN m) (λa'=>∀w',(∃m,w'=w.drewN m)->wpListIn Fence.wide 0 P l.toArray Q (l.drop k) a' w') (l.take k) a)(hk:k<=l.length:=by simp)(hm:P.follows .mixedOrders=true:=by kernel_rfl)(hB:preB l.toArray k=true:=by kernel_rfl):(Code.region id l.toArray true).wp P Q a w:=
 Ag k _ hk hm hB ⟨1,rfl⟩ h
theorem aN{id:Nat}{a:Act}{W0:World}{s:Bl W0}{l:List Oper}(k:Nat)(hF:jV F P)
 (h:wpQuiet P l.toArray (λw'=>∃s:Bl W0,w'=s.val) (λa'=>∀w',(∃s:Bl W0,w'=s.val)->wpListIn F n P l.toArray Q (l.drop k) a' w') (l.take k) a)(hk:k<=l.length:=by simp)(hm:P.follows .mixedOrders=true:=by kernel_rfl)(hB:preB l.toArray k=true:=by kernel_rfl):(Code.region id l.toArray true).wpIn F n P Q a s.val:=
 ql k _ hF hk hm hB ⟨⟨s.val.drew,s.prop.drew⟩,rfl⟩ h
theorem nH{id:Nat}{a:Act}{W0:World}{s:Bl W0}{l:List Oper}(k:Nat)
 (h:wpQuiet P l.toArray (λw'=>∃s:Bl W0,w'=s.val) (λa'=>∀w',(∃s:Bl W0,w'=s.val)->wpListIn Fence.wide 0 P l.toArray Q (l.drop k) a' w') (l.take k) a)(hk:k<=l.length:=by simp)(hm:P.follows .mixedOrders=true:=by kernel_rfl)(hB:preB l.toArray k=true:=by kernel_rfl):(Code.region id l.toArray true).wp P Q a s.val:=
 Ag k _ hk hm hB ⟨⟨s.val.drew,s.prop.drew⟩,rfl⟩ h
end
end
section
open Go.RowKit
section
variable {F:Fence} {n:Nat} {P:Program} {ops:Array Oper} {md:Region.Mode} {W0:World} {Q:Exit->Act->World->Prop}
def kT(P:Program)(w:World)(v:Value):Result Next->Prop
 | .ok (.value u) w'=>w'=w/\u=v
 | .ok .skip w'=>w'=w/\v=undef
 | .ok (.enter f args) w'=>w'=w/\Calls P f args w (λe w''=>e= .returned v/\Below w.heap.size w w'')
 |_=>False
def AA(P:Program)(o:Oper)(a:Act)(W0:World)(next:Act->Prop):Prop:=∃v,(∀z:Bl W0,kT P z.val v ((execOp a.eval o).run P z.val))/\next (a.put o.dst v)
def pQ(P:Program)(ops:Array Oper)(W0:World)(Q:Act->Prop):List Oper->Act->Prop
 |[],a=>Q a
 |o::rest,a=>if Region.wanted o (yielded ops a.tmps)then AA P o a W0 (pQ P ops W0 Q rest)else pQ P ops W0 Q rest (a.put o.dst undef)
theorem vO{Q:Act->Prop}{a:Act}(h:Q a):pQ P ops W0 Q [] a:=h
theorem t_{Q:Act->Prop}{a:Act}{o:Oper}{rest:List Oper}
 (h:∀K:Act->Prop,(∀a,pQ P ops W0 Q rest a->K a)->if Region.wanted o (yielded ops a.tmps)then AA P o a W0 K else K (a.put o.dst undef)):pQ P ops W0 Q (o::rest) a:=
 h _ (λ_ h=>h)
def xS(P:Program)(ops:Array Oper)(W0:World)(i:Nat)(K:Act->Prop)(a:Act):Prop:=
 match ops[i]? with
 |none=>K a
 |some o=>if Region.wanted o (yielded ops a.tmps)then AA P o a W0 K else K (a.put o.dst undef)
theorem UG{i:Nat}{a:Act}{K K':Act->Prop}(h:∀a,K a->K' a)(hh:xS P ops W0 i K a):xS P ops W0 i K' a:=by
 unfold xS at*;split
 .exact h _ (by simpa [*]using hh)
 .rename_i o ho
  simp only[ho]at hh;split
  .rename_i hw
   simp only[hw,if_true]at hh;obtain⟨v,h1,h2⟩:=hh;exact⟨v,h1,h _ h2⟩
  .rename_i hw
   simp only[hw]at hh;exact h _ hh
def nI(P:Program)(ops:Array Oper)(W0:World)(o:Oper)(v:Value)(a:Act):Prop:=
 (Region.wanted o (yielded ops a.tmps)=true/\∀z:Bl W0,kT P z.val v ((execOp a.eval o).run P z.val))\/(Region.wanted o (yielded ops a.tmps)=false/\v=undef)
theorem nI.xS{i:Nat}{o:Oper}{v:Value}{a:Act}(hi:ops[i]?=some o)(hy:nI P ops W0 o v a){K:Act->Prop}(h:K (a.put o.dst v)):xS P ops W0 i K a:=by
 unfold Go.Proofs.YtpmdedcnbockhaaGreatDoor.xS;simp only[hi];rcases hy with⟨hw,hv⟩|⟨hw,rfl⟩
 .simp only[hw,if_true]
  exact⟨v,hv,h⟩
 .simp only[hw,Bool.false_eq_true,if_false]
  exact h
theorem nI.of_same{o:Oper}{v:Value}{a a':Act}(hy:nI P ops W0 o v a)(he:execOp a'.eval o=execOp a.eval o)(hw:Region.wanted o (yielded ops a'.tmps)=Region.wanted o (yielded ops a.tmps)):nI P ops W0 o v a':=by
 unfold nI at*;rw[he,hw];exact hy
theorem qm{i:Nat}{o:Oper}{a:Act}{K:Act->Prop}(hi:ops[i]?=some o)(h:xS P ops W0 i K a):∃v,nI P ops W0 o v a/\K (a.put o.dst v):=by
 unfold xS at h;simp only[hi]at h;by_cases hw:Region.wanted o (yielded ops a.tmps)=true
 .simp only[hw,if_true]at h
  obtain⟨v,h1,h2⟩:=h;exact⟨v,.inl ⟨hw,h1⟩,h2⟩
 .simp only[hw]at h
  exact⟨undef,.inr ⟨by simpa using hw,rfl⟩,h⟩
theorem XA{j:Nat}{oi oj:Oper}{v:Value}(hj:ops[j]?=some oj)(hap:oi.apart ops oj=true)(hsi:∀cs b,oi.op≠ .select cs b)(hsj:∀cs b,oj.op≠ .select cs b){K:Act->Prop}{a:Act}
 (hy:nI P ops W0 oi v a)(h:xS P ops W0 j K (a.put oi.dst v)):xS P ops W0 j (λa'=>nI P ops W0 oi v a'/\K (a'.put oi.dst v)) a:=by
 obtain⟨h1,h2,h3⟩:=Oper.apart_spec hap;obtain⟨u,hu,hK⟩:=qm hj h;have hu':nI P ops W0 oj u a:=hu.of_same (execOp_put oj hsj a oi.dst v h1).symm (wanted_put oj a oi.dst v h1).symm;refine hu'.xS hj ⟨hy.of_same (execOp_put oi hsi a oj.dst u h3) (wanted_put oi a oj.dst u h3),?_⟩;rw[<-Act.put_comm a v u h2];exact hK
def UH(P:Program)(md:Region.Mode)(ops:Array Oper)(W0:World)(S:Nat->Array Bool->Act->Prop)(k:Nat):Nat->Array Bool->Act->Prop
 |0,listed,a=>fO k listed=true/\S 0 listed a
 |fuel+1,listed,a=>
  (fO k listed=true->S (fuel+1) listed a)/\
  (fO k listed=false->Region.ready md ops listed≠[]/\∀i∈Region.ready md ops listed,xS P ops W0 i (UH P md ops W0 S k fuel (listed.setIfInBounds i true)) a)
theorem bC{i:Nat}{listed:Array Bool}(hr:i∈Region.ready md ops listed):listed.getD i false=false:=by
 have h0:=(mem_ready.1 hr).1;rcases iH i listed.size with h'|h'
 .simp[h']at h0⊢
  exact h0
 .simp[Array.getElem?_eq_none h']
theorem eU{k i:Nat}{listed:Array Bool}(hik:i<k)(hr:i∈Region.ready md ops listed):fO k listed=false:=by
 cases hu:fO k listed with
 |false=>rfl
 |true=>
  have h1:=fE.1 hu i hik;rw[bC hr]at h1;cases h1
theorem kU{k i j:Nat}{listed:Array Bool}(hn:nE md ops k=true)(hik:i<k)(hd:Down md ops listed)(hr:listed.getD i false=false)(hj:j∈Region.ready md ops listed)(hji:j≠i):j<k/\fO k (listed.setIfInBounds i true)=false:=by
 have hjk:j<k:=by
  rcases iH j k with h1|h1
  .exact h1
  .have h2:=oF hn hd hj h1 i hik
   rw[hr]at h2;cases h2
 exact⟨hjk,eU hjk (ready_mono hj hji)⟩
theorem QJ{S:Nat->Array Bool->Act->Prop}{k i:Nat}{oi:Oper}{v:Value}(hn:nE md ops k=true)(hik:i<k)(hi:ops[i]?=some oi)(hsel:∀(j:Nat)(o:Oper) cs b,ops[j]?=some o->o.op≠ .select cs b):
 ∀(fuel:Nat)(listed:Array Bool)(a:Act),Down md ops listed->
  (∀j oj,ops[j]?=some oj->j≠i->listed.getD j true=false->(∀e∈oj.after,Region.binds md e=true->e.on≠i)->oi.apart ops oj=true)->
  i∈Region.ready md ops listed->nI P ops W0 oi v a->
  UH P md ops W0 S k fuel (listed.setIfInBounds i true) (a.put oi.dst v)->UH P md ops W0 S k (fuel+1) listed a:=by
 intro fuel;induction fuel with
 |zero=>
  intro listed a hd _ hr hy H;refine⟨λhu=>(by rw[eU hik hr]at hu;cases hu),λ_=>⟨λe=>(by rw[e]at hr;cases hr),λj hj=>?_⟩⟩;by_cases hji:j=i
  .subst hji;exact hy.xS hi H
  .have h1:=(kU hn hik hd (bC hr) hj hji).2
   rw[H.1]at h1;cases h1
 |succ fuel ih=>
  intro listed a hd hfree hr hy H;refine⟨λhu=>(by rw[eU hik hr]at hu;cases hu),λ_=>⟨λe=>(by rw[e]at hr;cases hr),λj hj=>?_⟩⟩;by_cases hji:j=i
  .subst hji;exact hy.xS hi H
  .have h1:=(H.2 (kU hn hik hd (bC hr) hj hji).2).2 j (ready_mono hj hji)
   obtain⟨hjun,oj,hoj,hall⟩:=mem_ready.1 hj;have hnot:∀e∈oj.after,Region.binds md e=true->e.on≠i:=λe he hb heq=>by
    have h2:=hall e he hb;rw[heq,bC hr]at h2;cases h2
   have h2:=XA hoj (hfree j oj hoj hji hjun hnot) (λcs b=>hsel i oi cs b hi) (λcs b=>hsel j oj cs b hoj) hy h1;have hfree':∀k ok,ops[k]?=some ok->k≠i->(listed.setIfInBounds j true).getD k true=false->
    (∀e∈ok.after,Region.binds md e=true->e.on≠i)->oi.apart ops ok=true:=λk ok hk hki hun hno=>by
    refine hfree k ok hk hki ?_ hno;by_cases hjk:j=k
    .subst hjk;exact hjun
    .rw[getD_set_ne true hjk]at hun;exact hun
   refine UG (λa' h3=>ih (listed.setIfInBounds j true) a' (hd.set hj) hfree' (ready_mono hr (Ne.symm hji)) h3.1 ?_) h2;rw[Array.setIfInBounds_comm _ _ hji];exact h3.2
def nJ(md:Region.Mode)(ops:Array Oper)(k:Nat):List Nat->Array Bool->Bool
 |[],listed=>fO k listed&&kI.nG md ops (ops.size - k) k listed
 |i::is,listed=>decide (i<k)&&(Region.ready md ops listed).contains i&&Region.free md ops listed i&&nJ md ops k is (listed.setIfInBounds i true)
theorem XB{S:Nat->Array Bool->Act->Prop}{S0:Act->Prop}{k m:Nat}(hs:Region.noSelect ops=true)(hn:nE md ops k=true)
 (hS:∀listed a,fO k listed=true->kI.nG md ops (ops.size - k) k listed=true->S0 a->S m listed a)(is:List Nat):∀(l:List Oper)(listed:Array Bool)(a:Act),is.map (λi=>ops[i]?)=l.map some->Down md ops listed->
 nJ md ops k is listed=true->pQ P ops W0 S0 l a->UH P md ops W0 S k (is.length+m) listed a:=by
 induction is with
 |nil=>
  intro l listed a hl _ hB h;obtain rfl:l=[]:=by
   cases l with
   |nil=>rfl
   |cons x l=>simp at hl
  simp only[nJ,bS]at hB;have h1:=hS listed a hB.1 hB.2 h;rw[kM,pF];cases m with
  |zero=>exact⟨hB.1,h1⟩
  |succ m=>exact⟨λ_=>h1,λe=>(by rw[hB.1]at e;cases e)⟩
 |cons i is ih=>
  intro l listed a hl hd hB h;cases l with
  |nil=>simp at hl
  |cons o l=>
   simp only[kN,List.cons.injEq]at hl;obtain⟨h0,hl⟩:=hl;simp only[nJ,bS,decide_eq_true_eq]at hB;obtain⟨⟨⟨hik,hr⟩,hf⟩,hB'⟩:=hB;have hr':i∈Region.ready md ops listed:=by simpa using hr
   have hst:xS P ops W0 i (pQ P ops W0 S0 l) a:=by unfold xS;simp only[h0];exact h
   obtain⟨v,hy,hK⟩:=qm h0 hst;have ih':=ih l (listed.setIfInBounds i true) (a.put o.dst v) hl (hd.set hr') hB' hK;have h9:=QJ (S:=S) hn hik h0 (Region.noSelect_spec hs) _ listed a hd (Region.free_spec h0 hf) hr' hy ih';have e:(i::is).length+m=is.length+m+1:=by simp;omega
   rw[e];exact h9
theorem uO{i:Nat}{a a2:Act}{K:Act->Prop}{K':Act->World->Prop}(hF:jV F P)(hd:∀o,ops[i]?=some o->gM o=true)(z:Bl W0)
 (hsame:∀o,ops[i]?=some o->execOp a2.eval o=execOp a.eval o/\Region.wanted o (yielded ops a2.tmps)=Region.wanted o (yielded ops a.tmps))
 (h:∀o v,ops[i]?=some o->∀z':Bl W0,Below z.val.heap.size z.val z'.val->K (a.put o.dst v)->K' (a2.put o.dst v) z'.val)(hi:i<ops.size)(hh:xS P ops W0 i K a):wpOpIn F n P ops Q i K' a2 z.val:=by
 have ho:ops[i]?=some ops[i]:=Array.getElem?_eq_getElem hi;obtain⟨v,hy,hK⟩:=qm ho hh;obtain⟨e1,e2⟩:=hsame _ ho;unfold wpOpIn;simp only[ho];rcases hy with⟨hw,hv⟩|⟨hw,rfl⟩
 .rw[e2,hw,if_pos rfl]
  refine⟨λf _=>hF.fn f,?_⟩;rw[Oper.semAt_plain F _ _ (fI (hd _ ho)),e1];have h3:=hv z;generalize(execOp a.eval ops[i]).run P z.val=r at*;cases r with
  |ok x w'=>
   cases x<;>simp only[kT]at h3
   case value u=>
    obtain⟨e1,e2⟩:=h3;subst e1 e2;exact h _ _ ho z (aC _ _) hK
   case skip=>
    obtain⟨e1,e2⟩:=h3;subst e1 e2;exact h _ _ ho z (aC _ _) hK
   case enter f args=>
    obtain⟨e1,hc⟩:=h3;subst e1;refine⟨λe=>(by rw[hF.depth]at e;cases e),(hF.calls _ _ _ _ _ hc).mono ?_⟩;rintro e w'' ⟨rfl,hw''⟩;exact h _ _ ho ⟨w'',av z.prop hw''⟩ hw'' hK
  |halt x w'=>simp only[kT]at h3
 .rw[e2,hw,if_neg (by simp)]
  exact⟨λf _=>hF.fn f,h _ _ ho z (aC _ _) hK⟩
def xU(md:Region.Mode)(ops:Array Oper)(k f:Nat):Bool:=
 decide (f<k)&&match ops[f]? with
  |some o=>(match o.op with| .alloc _=>true|_=>false)&&o.guard.isNone&&(o.after.all λe=> !Region.binds md e)&&(List.range k).all λj=>j==f||(match ops[j]? with|some oj=>o.apart ops oj&&gM oj|none=>false)
  |none=>false
def XC(F:Fence)(n:Nat)(P:Program)(md:Region.Mode)(ops:Array Oper)(W0:World)(Q:Exit->Act->World->Prop)(d:Option Tmp)(obj:Obj)(fuel:Nat)(listed:Array Bool)(a:Act):Prop:=
 ∀(b:Nat)(z:Bl W0),W0.heap.size<=b->z.val.heap[b]?=some obj->wpAnyIn F n P md ops Q fuel listed (a.put d (.pointer (some ⟨b,0,none⟩))) z.val
theorem qo{k f:Nat}{of:Oper}{obj:Obj}(hF:jV F P)(hs:Region.noSelect ops=true)(hn:nE md ops k=true)(hf:xU md ops k f=true)(hof:ops[f]?=some of):
 ∀(fuel:Nat)(listed:Array Bool)(a:Act)(z:Bl W0)(b:Nat),Down md ops listed->listed.getD f false=true->W0.heap.size<=b->z.val.heap[b]?=some obj->
 UH P md ops W0 (XC F n P md ops W0 Q of.dst obj) k fuel listed a->wpAnyIn F n P md ops Q fuel listed (a.put of.dst (.pointer (some ⟨b,0,none⟩))) z.val
 |0,_,_,z,b,_,_,hb,hz,h=>h.2 b z hb hz
 |fuel+1,listed,a,z,b,hd,hlf,hb,hz,h=>by
  cases hu:fO k listed with
  |true=>exact h.1 hu b z hb hz
  |false=>
   obtain⟨hne,hall⟩:=h.2 hu;refine⟨λe=>absurd e hne,λi hi=>?_⟩;have hik:i<k:=by
    rcases iH i k with h1|h1
    .exact h1
    .rw[fE.2 (oF hn hd hi h1)]at hu
     cases hu
   have hif:i≠f:=λe=>by
    subst e;rw[bC hi]at hlf;cases hlf
   have hsz:i<ops.size:=by
    obtain⟨_,o,ho,_⟩:=mem_ready.1 hi;exact(lS.1 ho).1
   simp only[xU,hof,bS,fV,List.mem_range,qH,beq_iff_eq]at hf;have hap:∀o,ops[i]?=some o->of.apart ops o=true/\gM o=true:=λo ho=>by
    rcases hf.2.2 i hik with h1|h1
    .exact absurd h1 hif
    .rw[ho]at h1
     simpa using h1
   refine uO (a:=a) hF (λo ho=>(hap o ho).2) z (λo ho=>?_) (λo v ho z' hz' hK=>?_) hsz (hall i hi)
   .obtain⟨h1,h2,h3⟩:=Oper.apart_spec (hap o ho).1
    exact⟨execOp_put o (λcs b=>Region.noSelect_spec hs i o cs b ho) a of.dst _ h1,wanted_put o a of.dst _ h1⟩
   .obtain⟨h1,h2,h3⟩:=Oper.apart_spec (hap o ho).1
    rw[Act.put_comm a _ v h2];refine qo hF hs hn (by simp only[xU,hof,bS,fV,List.mem_range,qH,beq_iff_eq];exact hf) hof fuel _ _ z' b (hd.set hi) ?_ hb ?_ hK
    .rw[getD_set_ne false hif]
     exact hlf
    .exact(hz'.block b (aB hz)).trans hz
theorem Df{k f:Nat}{of:Oper}{obj:Obj}(hF:jV F P)(hs:Region.noSelect ops=true)(hn:nE md ops k=true)(hf:xU md ops k f=true)(hof:ops[f]?=some of)
 (hrun:∀(a:Act)(w:World),(execOp a.eval of).run P w= .ok (.value (.pointer (some ⟨w.heap.size,0,none⟩))) (w.alloc obj)):
 ∀(fuel:Nat)(listed:Array Bool)(a:Act)(z:Bl W0),Down md ops listed->listed.getD f true=false->f<listed.size->
 UH P md ops W0 (XC F n P md ops W0 Q of.dst obj) k fuel (listed.setIfInBounds f true) a->wpAnyIn F n P md ops Q (fuel+1) listed a z.val:=by
 have hf0:=hf;simp only[xU,hof,bS,fV,List.mem_range,qH,beq_iff_eq,decide_eq_true_eq]at hf0;obtain⟨hfk,⟨⟨hop,hg⟩,haf⟩,hap⟩:=hf0;have LC:∀listed:Array Bool,listed.getD f true=false->f∈Region.ready md ops listed:=λlisted h=>mem_ready.2 ⟨h,of,hof,λe he hb=>by
  have h1:=Array.all_eq_true_iff_forall_mem.1 haf e he;simp[hb]at h1⟩
 intro fuel;induction fuel with
 |zero=>
  intro listed a z hd hlf hsz h;refine⟨λe=>(by have h1:=LC listed hlf;rw[e]at h1;cases h1),λi hi=>?_⟩;by_cases hif:i=f
  .subst hif
   unfold wpOpIn;simp only[hof];rw[show Region.wanted of (yielded ops a.tmps)=true by simp only[Region.wanted,Option.isNone_iff_eq_none.1 hg],if_pos rfl];refine⟨λf _=>hF.fn f,?_⟩;rw[Oper.semAt_plain F _ _ (λc e=>by rw[e]at hop;cases hop),hrun];exact qo hF hs hn hf hof 0 _ _ ⟨_,av z.prop (aJ (aC _ _) _)⟩ _ (hd.set hi) (by simp[hsz]) z.prop.size (bK _ _) h
  .have h1:=(kU hn hfk hd (bC (LC listed hlf)) hi hif).2
   rw[h.1]at h1;cases h1
 |succ fuel ih=>
  intro listed a z hd hlf hsz h;refine⟨λe=>(by have h1:=LC listed hlf;rw[e]at h1;cases h1),λi hi=>?_⟩;by_cases hif:i=f
  .subst hif
   unfold wpOpIn;simp only[hof];rw[show Region.wanted of (yielded ops a.tmps)=true by simp only[Region.wanted,Option.isNone_iff_eq_none.1 hg],if_pos rfl];refine⟨λf _=>hF.fn f,?_⟩;rw[Oper.semAt_plain F _ _ (λc e=>by rw[e]at hop;cases hop),hrun];exact qo hF hs hn hf hof _ _ _ ⟨_,av z.prop (aJ (aC _ _) _)⟩ _ (hd.set hi) (by simp[hsz]) z.prop.size (bK _ _) h
  .obtain⟨hik,hu⟩:=kU hn hfk hd (bC (LC listed hlf)) hi hif
   have h1:=(h.2 hu).2 i (ready_mono hi hif);have hsi:i<ops.size:=by
    obtain⟨_,o,ho,_⟩:=mem_ready.1 hi;exact(lS.1 ho).1
   refine uO (a:=a) hF (λo ho=>?_) z (λo ho=>⟨rfl,rfl⟩) (λo v ho z' hz' hK=>?_) hsi h1
   .rcases hap i hik with h2|h2
    .exact absurd h2 hif
    .rw[ho]at h2
     exact(by simpa using h2:_/\_).2
   .refine ih _ _ z' (hd.set hi) (by rw[getD_set_ne true hif];exact hlf) (by simpa using hsz) ?_
    rw[Array.setIfInBounds_comm _ _ hif];exact hK
def rX(k f:Nat):List Nat:=(List.range k).filter (·!=f)
def Kz(ops:Array Oper)(k f:Nat):Bool:=Region.noSelect ops&&nE .any ops k&&xU .any ops k f&&nJ .any ops k (rX k f) ((Array.replicate ops.size false).setIfInBounds f true)
theorem nK{id:Nat}{a:Act}{s:Bl W0}{l:List Oper}(k f:Nat)(of:Oper)(obj:Obj)(hF:jV F P)(hk:k<=l.length)(hm:P.follows .mixedOrders=true)(hB:Kz l.toArray k f=true)(hof:l[f]?=some of)(hl:(rX k f).map (λi=>l[i]?)=((l.take k).eraseIdx f).map some)
 (hrun:∀(a:Act)(w:World),(execOp a.eval of).run P w= .ok (.value (.pointer (some ⟨w.heap.size,0,none⟩))) (w.alloc obj))
 (h:pQ P l.toArray W0 (λa'=>∀(b:Nat)(z:Bl W0),W0.heap.size<=b->z.val.heap[b]?=some obj->wpListIn F n P l.toArray Q (l.drop k) (a'.put of.dst (.pointer (some ⟨b,0,none⟩))) z.val) ((l.take k).eraseIdx f) a):
 (Code.region id l.toArray true).wpIn F n P Q a s.val:=by
 simp only[Kz,bS]at hB;obtain⟨⟨⟨hs,hn⟩,hfl⟩,hp⟩:=hB;have hfk:f<k:=by
  simp only[xU,bS,decide_eq_true_eq]at hfl;exact hfl.1
 have acV:l.toArray[f]?=some of:=by simpa using hof
 have pO:Down .any l.toArray (Array.replicate l.toArray.size false):=λj hj=>by
  exfalso;rcases iH j l.length with h'|h'
  .simp[h']at hj
  .simp[h']at hj
 have hrd:f∈Region.ready .any l.toArray (Array.replicate l.toArray.size false):=mem_ready.2 ⟨by simp[show f<l.length by omega],of,acV,λe he hb=>by
  simp only[xU,acV,bS]at hfl;have h1:=Array.all_eq_true_iff_forall_mem.1 hfl.2.1.2 e he;simp[hb]at h1⟩
 have hlen:(rX k f).length+1=k:=by
  have h1:=congrArg List.length hl;rw[dU,dU,List.length_eraseIdx,pz,if_pos (by omega)]at h1;omega
 refine wpIn_region_any hm ?_;have h1:=XB (md:=.any) (ops:=l.toArray) (P:=P) (W0:=W0) (S:=XC F n P .any l.toArray W0 Q of.dst obj) (k:=k) (m:=l.toArray.size - k) hs hn (S0:=λa'=>∀(b:Nat)(z:Bl W0),W0.heap.size<=b->z.val.heap[b]?=some obj->wpListIn F n P l.toArray Q (l.drop k) (a'.put of.dst (.pointer (some ⟨b,0,none⟩))) z.val)
  (λlisted a' hu ho h0 b z hb hz=>by
   have h2:=kS (F:=F) (n:=n) (P:=P) (ops:=l.toArray) (Q:=Q) (md:=.any) (l.drop k) k listed (a'.put of.dst (.pointer (some ⟨b,0,none⟩))) z.val (λj=>by simp) (by simpa using ho) (h0 b z hb hz);simpa using h2)
  (rX k f) ((l.take k).eraseIdx f) ((Array.replicate l.toArray.size false).setIfInBounds f true) a (by simpa using hl) (pO.set hrd) hp h
 have h2:=Df (F:=F) (n:=n) (Q:=Q) hF hs hn hfl acV hrun _ _ a ⟨s.val.drew,s.prop.drew⟩ pO (by simp[show f<l.length by omega]) (by simp;omega) h1;rw[show(rX k f).length+(l.toArray.size - k)+1=l.toArray.size by simp;omega]at h2;exact h2
end
end
section
open Go.RowKit
structure bP where
 V:Value->Prop
 S:Value->World->Prop
def bP.Keeps(sp:bP):Prop:=∀v z z',sp.S v z->Below z.heap.size z z'->sp.S v z'
section
variable {F:Fence} {n:Nat} {P:Program} {ops:Array Oper} {md:Region.Mode} {W0:World} {Q:Exit->Act->World->Prop} {mk:Nat->Option bP}
def bM(P:Program)(w:World)(sp:bP):Result Next->Prop
 | .ok (.value u) w'=>sp.V u/\sp.S u w'/\Below w.heap.size w w'
 | .ok (.enter f args) w'=>w'=w/\Calls P f args w (λe w''=>∃v,e= .returned v/\sp.V v/\sp.S v w''/\Below w.heap.size w w'')
 |_=>False
def stillUpon(w:World)(v:Value):Result Next->Prop
 | .ok (.value u) w'=>w'=w/\u=v
 | .ok .skip w'=>w'=w/\v=undef
 |_=>False
def kD(P:Program)(o:Oper)(a:Act)(W0:World)(next:Act->Prop):Prop:=∃v,(∀z:Bl W0,stillUpon z.val v ((execOp a.eval o).run P z.val))/\next (a.put o.dst v)
def one(u:Value):bP:=⟨λv=>v=u,λ_ _=>True⟩
theorem uP{w:World}{u v:Value}{r:Result Next}(h:stillUpon w u r)(h':stillUpon w v r):u=v:=by
 cases r with
 |ok x w'=>
  cases x<;>simp only[stillUpon]at h h'
  .exact h.2.symm.trans h'.2
  .exact h.2.trans h'.2.symm
 |halt x w'=>simp only[stillUpon]at h
theorem XD{o:Oper}{sp:bP}{a:Act}(h:∀z:Bl W0,bM P z.val sp ((execOp a.eval o).run P z.val)):∃v,sp.V v:=by
 have h4:=h default;generalize(execOp a.eval o).run P _=r at h4;cases r with
 |ok x w'=>
  cases x<;>simp only[bM]at h4
  .exact⟨_,h4.1⟩
  .obtain⟨e,w'',fr,⟨v,_,hv,_⟩,_⟩:=h4.2 []
   exact⟨v,hv⟩
 |halt x w'=>simp only[bM]at h4
def Tg(ops:Array Oper)(k:Nat):Bool:=Region.noSelect ops&&nE .any ops k&&nJ .any ops k (List.range' 0 k) (Array.replicate ops.size false)&&(ops.toList.take k).all gM
end
end
section
open Go.RowKit
section
variable {F:Fence} {n:Nat} {P:Program} {ops:Array Oper} {md:Region.Mode} {W0:World} {Q:Exit->Act->World->Prop} {mk:Nat->Option bP} {dep:Nat->List Nat}
def uf(ops:Array Oper)(mk:Nat->Option bP)(dep:Nat->List Nat)(i:Nat)(a:Act)(z:World):Prop:=
 ∀p∈dep i,∀sp,mk p=some sp->∀o t,ops[p]?=some o->o.dst=some t->sp.S (a.tmps.getD t undef) z
def AB(ops:Array Oper)(mk:Nat->Option bP)(ds:List Nat)(listed:Array Bool)(a:Act)(z:World):Prop:=
 ∀p∈ds,listed.getD p false=true->∀sp,mk p=some sp->∀o t,ops[p]?=some o->o.dst=some t->sp.S (a.tmps.getD t undef) z
def EX(ops:Array Oper)(ds:List Nat)(a:Act):Prop:=∀p∈ds,∀o t,ops[p]?=some o->o.dst=some t->t<a.tmps.size
def sJ(ops:Array Oper)(k:Nat)(ds:List Nat)(dep:Nat->List Nat):Bool:=
 ((List.range k).all λi=>(dep i).all λp=>ds.contains p&&iE .any ops i p&&(match ops[p]?,ops[i]? with
  |some op,some oi=>(match op.dst with|some t=>(oi.looksAt ops).contains t|none=>true)
  |_,_=>true))&&
 (ds.all λp=>match ops[p]? with|some op=>op.guard.isNone|none=>true)&&
 ds.all λp=>(List.range k).all λj=>decide (j=p)||(match ops[p]?,ops[j]? with
  |some op,some oj=>(match op.dst with|some t=>decide (oj.dst≠some t)|none=>true)
  |_,_=>true)
theorem lM{k:Nat}{ds:List Nat}(h:sJ ops k ds dep=true):
 (∀i,i<k->∀p∈dep i,∀op t oi,ops[p]?=some op->op.dst=some t->ops[i]?=some oi->p∈ds/\iE .any ops i p=true/\t∈oi.looksAt ops)/\
 (∀p∈ds,∀j,j<k->j≠p->∀op t oj,ops[p]?=some op->op.dst=some t->ops[j]?=some oj->oj.dst≠some t)/\
 (∀p∈ds,∀op,ops[p]?=some op->op.guard=none):=by
 simp only[sJ,bS,fV,List.mem_range,qH,decide_eq_true_eq]at h;obtain⟨⟨h1,h3⟩,h2⟩:=h;refine⟨λi hi p hp op t oi ho ht hoi=>?_,λp hp j hj hne op t oj ho ht hoj=>?_,λp hp op ho=>?_⟩
 .obtain⟨⟨a1,a2⟩,a3⟩:=h1 i hi p hp
  rw[ho,hoi]at a3;simp only[ht]at a3;exact⟨by simpa using a1,a2,by simpa using a3⟩
 .rcases h2 p hp j hj with e|e
  .exact absurd e hne
  .rw[ho,hoj]at e
   simp only[ht,decide_eq_true_eq]at e;exact e
 .have e:=h3 p hp
  rw[ho]at e;simpa using e
theorem KA{i k:Nat}{ds:List Nat}{o:Oper}{a:Act}{v:Value}{z z':World}{listed:Array Bool}(hdp:sJ ops k ds dep=true)(hik:i<k)(ho:ops[i]?=some o)(hil:i<listed.size)(hbn:EX ops ds a)(hfa:AB ops mk ds listed a z)(hk:∀i sp,mk i=some sp->sp.Keeps)(hz:Below z.heap.size z z')
 (hv:∀sp',mk i=some sp'->i∈ds->sp'.S v z'):AB ops mk ds (listed.setIfInBounds i true) (a.put o.dst v) z':=by
 intro p hp hl sp hsp o' t ho' ht;by_cases e:p=i
 .subst e
  rw[ho]at ho';cases ho'
  have hb:=hbn p hp o t ho ht;have h1:(a.put o.dst v).tmps.getD t undef=v:=by rw[ht];simp[Act.put,hb]
  rw[h1];exact hv sp hsp hp
 .rw[getD_set_ne false (λh=>e h.symm)]at hl
  have h1:(a.put o.dst v).tmps.getD t undef=a.tmps.getD t undef:=by
   have h2:=(lM hdp).2.1 p hp i hik (λh=>e h.symm) o' t o ho' ht ho;cases hd:o.dst with
   |none=>rfl
   |some d=>
    have hne:d≠t:=λh=>h2 (by rw[hd,h]);simp[Act.put,Array.getElem?_setIfInBounds_ne hne]
  rw[h1];exact hk p sp hsp _ _ _ (hfa p hp hl sp hsp o' t ho' ht) hz
def AJ(ops:Array Oper)(k:Nat)(X:List Nat):Bool:=
 ((List.range k).all λi=>X.contains i||(List.range (k+1)).any λj=>decide (i<j)&& !X.contains j&&iE .any ops j i)&&((List.range ops.size).all λq=>decide (q<=k)||iE .any ops q (q - 1))&&
 (X.all λe=>decide (e<k)&&(match ops[e]? with|some o=>o.after.all λd=> !Region.binds .any d||(decide (d.on<k)&& !X.contains d.on)|none=>false))&& !X.contains k
theorem sS{k:Nat}{X:List Nat}(h:AJ ops k X=true){listed:Array Bool}(hd:Down .any ops listed){j:Nat}(hj:j∈Region.ready .any ops listed)(hk:k<=j):∀i,i<k->i∉X->listed.getD i false=true:=by
 simp only[AJ,bS,fV,List.mem_range,List.any_eq_true,decide_eq_true_eq,qH,jk]at h;obtain⟨⟨⟨h1,h2⟩,_⟩,_⟩:=h;have hkw:∀i,iE .any ops k i=true->listed.getD i false=true:=by
  by_cases e:j=k
  .subst e
   exactλi hi=>kR hi hj
  .have hlt:j<ops.size:=by
    obtain⟨_,o,ho,_⟩:=mem_ready.1 hj;exact(lS.1 ho).1
   have hl:∀d,k+d+1=j\/k+d+1<j->listed.getD (k+d) false=true:=by
    intro d;have hx:∀m,∀d,j - (k+d)=m->(k+d+1=j\/k+d+1<j)->listed.getD (k+d) false=true:=by
     intro m;induction m with
     |zero=>intro d hm hd2;omega
     |succ m ih=>
      intro d hm hd2;have hq:=h2 (k+d+1) (by omega);have hq':iE .any ops (k+d+1) (k+d)=true:=by
       rcases hq with hq|hq
       .omega
       .simpa using hq
      rcases hd2 with hd2|hd2
      .rw[hd2]at hq'
       exact kR hq' hj
      .exact mM hq' hd (ih (d+1) (by omega) (by omega))
    exact hx _ d rfl
   have hk0:=hl 0 (by omega);exactλi hi=>mM hi hd hk0
 have hx:∀m i,k - i=m->i<k->i∉X->listed.getD i false=true:=by
  intro m;induction m using Nat.strongRecOn with
  |_ m ih=>
   intro i hm hi hiX;rcases h1 i hi with h|⟨j',hj',⟨hij,hjX⟩,hw⟩
   .exact absurd (by simpa using h) hiX
   .by_cases e:j'=k
    .subst e
     exact hkw i hw
    .exact mM hw hd (ih (k - j') (by omega) j' rfl (by omega) (by simpa using hjX))
 exactλi hi hiX=>hx _ i rfl hi hiX
theorem sU{k:Nat}{X:List Nat}(h:AJ ops k X=true){e:Nat}(he:e∈X):e<k/\∃o,ops[e]?=some o/\∀d∈o.after,Region.binds .any d=true->d.on<k/\d.on∉X:=by
 simp only[AJ,bS,fV,decide_eq_true_eq]at h;obtain⟨⟨⟨_,_⟩,h3⟩,_⟩:=h;obtain⟨a1,a2⟩:=h3 e he;cases ho:ops[e]? with
 |none=>rw[ho]at a2;cases a2
 |some o=>
  rw[ho]at a2;simp only at a2;refine⟨a1,o,rfl,λd hd hb=>?_⟩;obtain⟨i,hi,hid⟩:=Array.mem_iff_getElem.1 hd;have h5:=(Array.all_eq_true.1 a2) i hi;rw[hid]at h5;simp only[hb,Bool.not_true,Bool.false_or,bS,decide_eq_true_eq,jk]at h5;exact⟨h5.1,by simpa using h5.2⟩
def Dh(o:Oper):Bool:=o.guard.isNone&&(match o.op with| .extract _ _=>true| .move _=>true|_=>false)
theorem Es{o:Oper}(h:Dh o=true){a:Act}{z:World}{u:Value}(hs:stillUpon z u ((execOp a.eval o).run P z)):YieldsFenced P ops o u a:=by
 simp only[Dh,bS]at h;obtain⟨hg,ho⟩:=h;have hw:Region.wanted o (yielded ops a.tmps)=true:=by
  simp only[Option.isNone_iff_eq_none]at hg;simp[Region.wanted,hg]
 cases hop:o.op<;>simp only[hop]at ho<;>try(cases ho)
 case move x=>
  refine⟨.inl ⟨hw,λw=>?_⟩,λw=>by simp[Oper.about,hop]⟩;simp[execOp,hop,stillUpon]at hs⊢;exact hs
 rename_i x i;refine⟨.inl ⟨hw,λw=>?_⟩,λw=>by simp[Oper.about,hop]⟩;simp only[execOp,hop]at hs⊢;cases hv:a.eval x
 case tuple vs=>
  rw[hv]at hs;cases hi:vs[i]? with
  |none=>
   simp[Instr.extract,hi,Result.andThen,stuck,stillUpon]at hs
  |some v=>
   simp[Instr.extract,hi,stillUpon]at hs⊢;exact hs
 all_goals(rw[hv]at hs;simp[Instr.extract,Result.andThen,stuck,stillUpon]at hs)
theorem wJ{i j:Nat}{listed:Array Bool}(hw:iE .any ops j i=true)(hj:j∈Region.ready .any ops listed):listed.getD i false=true:=kR hw hj
theorem FJ{i:Nat}{oi:Oper}{a:Act}{dst:Option Tmp}{v:Value}{k:Nat}{ds:List Nat}(hB:sJ ops k ds dep=true)(hi:ops[i]?=some oi)(hik:i<k)(h1:∀d,dst=some d->d∉oi.looksAt ops)(z:World):uf ops mk dep i (a.put dst v) z↔uf ops mk dep i a z:=by
 have key:∀p∈dep i,∀o t,ops[p]?=some o->o.dst=some t->(a.put dst v).tmps.getD t undef=a.tmps.getD t undef:=λp hp o t ho ht=>by
  have hm:=(lM hB).1 i hik p hp o t oi ho ht hi;cases dst with
  |none=>rfl
  |some d=>
   have hne:d≠t:=λe=>h1 d rfl (e▸hm.2.2);simp[Act.put,Array.getElem?_setIfInBounds_ne hne]
 constructor
 .intro h p hp sp hsp o t ho ht
  have h2:=h p hp sp hsp o t ho ht;rw[key p hp o t ho ht]at h2;exact h2
 .intro h p hp sp hsp o t ho ht
  rw[key p hp o t ho ht];exact h p hp sp hsp o t ho ht
def GN(ops:Array Oper)(X:List Nat):Bool:=
 X.all λe=>(match ops[e]? with|some o=>Dh o|none=>false)&&(List.range ops.size).all λj=>decide (j=e)||iE .any ops j e||iE .any ops e j||(match ops[e]?,ops[j]? with|some oe,some oj=>oe.apart ops oj|_,_=>true)
theorem Et{X:List Nat}(h:GN ops X=true){e:Nat}(he:e∈X){o:Oper}(ho:ops[e]?=some o):Dh o=true/\∀j oj,ops[j]?=some oj->j≠e->iE .any ops j e=true\/iE .any ops e j=true\/o.apart ops oj=true:=by
 simp only[GN,fV,bS,List.mem_range,qH,decide_eq_true_eq]at h;obtain⟨h1,h2⟩:=h e he;rw[ho]at h1;refine⟨h1,λj oj hj hne=>?_⟩;have h3:=h2 j (lS.1 hj).1;rw[ho,hj]at h3;rcases h3 with((h3|h3)|h3)|h3
 .exact absurd h3 hne
 .exact .inl h3
 .exact .inr (.inl h3)
 .exact .inr (.inr h3)
theorem Ah{i j:Nat}{o:Oper}(ho:ops[j]?=some o)(hw:iE .any ops j i=true):∃e∈o.after,Region.binds .any e=true/\e.on=i:=by
 simp only[iE,ho]at hw;obtain⟨e,he,hb⟩:=Array.any_eq_true'.1 hw;simp only[bS,beq_iff_eq]at hb;exact⟨e,he,hb.1,hb.2⟩
def uh(ops:Array Oper)(k:Nat)(X:List Nat):Bool:=Region.noSelect ops&&AJ ops k X&&GN ops X&&nJ .any ops k (List.range' 0 k) (Array.replicate ops.size false)&&(ops.toList.take k).all gM
end
end
section
open Go.RowKit
structure Wl(C:World->Prop) where
 val:World
 prop:C val
structure Turns(C0 C1:World->Prop)(T:World->World->Prop):Prop where
 sub:∀z,C0 z->C1 z
 b0:∀z z',C0 z->Below z.heap.size z z'->C0 z'
 b1:∀z z',C1 z->Below z.heap.size z z'->C1 z'
 t:∀z z',C0 z->T z z'->C1 z'
def GQ(P:Program)(o:Oper)(a:Act)(C:World->Prop)(next:Act->Prop):Prop:=∃v,(∀z:Wl C,stillUpon z.val v ((execOp a.eval o).run P z.val))/\next (a.put o.dst v)
def oG(T:World->World->Prop)(w:World)(sp:bP):Result Next->Prop
 | .ok (.value u) w'=>sp.V u/\sp.S u w'/\T w w'
 |_=>False
def QK(ops:Array Oper)(f i:Nat):Bool:=match ops[i]? with
 |some o=>o.after.any (λe=>Region.binds .any e&&e.on==f)
 |none=>false
theorem KC{ops:Array Oper}{f i:Nat}(h:QK ops f i=true):∃o,ops[i]?=some o/\∃e∈o.after,Region.binds .any e=true/\e.on=f:=by
 unfold QK at h;cases ho:ops[i]? with
 |none=>rw[ho]at h;cases h
 |some o=>
  rw[ho]at h;simp only[Array.any_eq_true',bS,beq_iff_eq]at h;obtain⟨e,he,h1,h2⟩:=h;exact⟨o,rfl,e,he,h1,h2⟩
theorem UJ{ops:Array Oper}{f i:Nat}{listed:Array Bool}(hd:Down .any ops listed)(hf:listed.getD f false=false)(hi:listed.getD i false=true):QK ops f i=false:=by
 cases h:QK ops f i with
 |false=>rfl
 |true=>
  obtain⟨o,ho,e,he,h1,h2⟩:=KC h;have h3:=hd i hi o ho e he h1;rw[h2,hf]at h3;cases h3
theorem QL{ops:Array Oper}{f i:Nat}{listed:Array Bool}(hf:listed.getD f false=false)(hi:i∈Region.ready .any ops listed):QK ops f i=false:=by
 cases h:QK ops f i with
 |false=>rfl
 |true=>
  obtain⟨o,ho,e,he,h1,h2⟩:=KC h;obtain⟨_,o',ho',hall⟩:=mem_ready.1 hi;rw[ho]at ho';cases ho'
  have h3:=hall e he h1;rw[h2,hf]at h3;cases h3
def AL(ops:Array Oper)(T:World->World->Prop)(f i:Nat)(sp:bP):Prop:=sp.Keeps/\(i≠f->QK ops f i=false->∀v z z',sp.S v z->T z z'->sp.S v z')
def StepT(T:World->World->Prop)(f i:Nat)(z z':World):Prop:=Below z.heap.size z z'\/(i=f/\T z z')
section
variable {F:Fence} {n:Nat} {P:Program} {ops:Array Oper} {md:Region.Mode} {C0 C1:World->Prop} {T:World->World->Prop} {f:Nat} {Q:Exit->Act->World->Prop} {mk:Nat->Option bP} {dep:Nat->List Nat}
theorem GR{i k:Nat}{ds:List Nat}{o:Oper}{a:Act}{v:Value}{z z':World}{listed:Array Bool}(hdn:Down .any ops listed)(hun:listed.getD i false=false)(hdp:sJ ops k ds dep=true)(hik:i<k)(ho:ops[i]?=some o)(hil:i<listed.size)(hbn:EX ops ds a)(hfa:AB ops mk ds listed a z)(hk:∀i sp,mk i=some sp->AL ops T f i sp)(hz:StepT T f i z z')
 (hv:∀sp',mk i=some sp'->i∈ds->sp'.S v z'):AB ops mk ds (listed.setIfInBounds i true) (a.put o.dst v) z':=by
 intro p hp hl sp hsp o' t ho' ht;by_cases e:p=i
 .subst e
  rw[ho]at ho';cases ho'
  have hb:=hbn p hp o t ho ht;have h1:(a.put o.dst v).tmps.getD t undef=v:=by rw[ht];simp[Act.put,hb]
  rw[h1];exact hv sp hsp hp
 .rw[getD_set_ne false (λh=>e h.symm)]at hl
  have h1:(a.put o.dst v).tmps.getD t undef=a.tmps.getD t undef:=by
   have h2:=(lM hdp).2.1 p hp i hik (λh=>e h.symm) o' t o ho' ht ho;cases hd:o.dst with
   |none=>rfl
   |some d=>
    have hne:d≠t:=λh=>h2 (by rw[hd,h]);simp[Act.put,Array.getElem?_setIfInBounds_ne hne]
  rw[h1];have h3:=hfa p hp hl sp hsp o' t ho' ht;rcases hz with hz|⟨rfl,hz⟩
  .exact(hk p sp hsp).1 _ _ _ h3 hz
  .exact(hk p sp hsp).2 e (UJ hdn hun hl) _ _ _ h3 hz
def jd(P:Program)(ops:Array Oper)(C0 C1:World->Prop)(T:World->World->Prop)(f:Nat)(mk:Nat->Option bP)(dep:Nat->List Nat)(i:Nat)(o:Oper)(sp:bP)(a:Act):Prop:=
 (Region.wanted o (yielded ops a.tmps)=true/\mk i=some sp/\(∃v,sp.V v)/\((i≠f/\∀z:Wl C1,uf ops mk dep i a z.val->bM P z.val sp ((execOp a.eval o).run P z.val))\/(i=f/\∀z:Wl C0,uf ops mk dep i a z.val->oG T z.val sp ((execOp a.eval o).run P z.val))))\/
 (Region.wanted o (yielded ops a.tmps)=true/\mk i=none/\∃u,sp=one u/\∀z:Wl C1,stillUpon z.val u ((execOp a.eval o).run P z.val))\/
 (Region.wanted o (yielded ops a.tmps)=false/\sp=one undef)
theorem jd.unique[Inhabited (Wl C1)]{i:Nat}{o:Oper}{sp sp':bP}{a:Act}(h:jd P ops C0 C1 T f mk dep i o sp a)(h':jd P ops C0 C1 T f mk dep i o sp' a):sp=sp':=by
 rcases h with⟨h1,h2,_,_⟩|⟨h1,h2,u,rfl,h4⟩|⟨h1,rfl⟩
 .rcases h' with⟨_,h3,_,_⟩|⟨_,h3,_⟩|⟨h3,_⟩
  .rw[h2]at h3;injection h3
  .rw[h2]at h3;cases h3
  .rw[h1]at h3;cases h3
 .rcases h' with⟨_,h3,_⟩|⟨_,h3,v,rfl,h5⟩|⟨h3,_⟩
  .rw[h2]at h3;cases h3
  .rw[uP (h4 default) (h5 default)]
  .rw[h1]at h3;cases h3
 .rcases h' with⟨h3,_⟩|⟨h3,_⟩|⟨_,h4⟩
  .rw[h1]at h3;cases h3
  .rw[h1]at h3;cases h3
  .exact h4.symm
theorem jd.ex{i:Nat}{o:Oper}{sp:bP}{a:Act}(h:jd P ops C0 C1 T f mk dep i o sp a):∃v,sp.V v:=by
 rcases h with⟨_,_,h3,_⟩|⟨_,_,u,rfl,_⟩|⟨_,rfl⟩
 .exact h3
 .exact⟨u,rfl⟩
 .exact⟨undef,rfl⟩
theorem jd.of_same{i:Nat}{o:Oper}{sp:bP}{a a':Act}(hy:jd P ops C0 C1 T f mk dep i o sp a)(he:execOp a'.eval o=execOp a.eval o)(hw:Region.wanted o (yielded ops a'.tmps)=Region.wanted o (yielded ops a.tmps))(hp:∀z,uf ops mk dep i a' z->uf ops mk dep i a z):jd P ops C0 C1 T f mk dep i o sp a':=by
 unfold jd at*;rw[he,hw];rcases hy with⟨h1,h2,h3,h4⟩|h
 .refine .inl ⟨h1,h2,h3,?_⟩
  rcases h4 with⟨h4,h5⟩|⟨h4,h5⟩
  .exact .inl ⟨h4,λz hz=>h5 z (hp _ hz)⟩
  .exact .inr ⟨h4,λz hz=>h5 z (hp _ hz)⟩
 .exact .inr h
def QM(P:Program)(ops:Array Oper)(C0 C1:World->Prop)(T:World->World->Prop)(f:Nat)(mk:Nat->Option bP)(dep:Nat->List Nat)(i:Nat)(K:Act->(World->Prop)->Prop)(a:Act)(Φ:World->Prop):Prop:=
 match ops[i]? with
 |none=>K a Φ
 |some o=>∃sp,jd P ops C0 C1 T f mk dep i o sp a/\∀v,sp.V v->K (a.put o.dst v) (λz=>Φ z/\sp.S v z)
theorem XE{i:Nat}{a:Act}{Φ:World->Prop}{K K':Act->(World->Prop)->Prop}(h:∀a Φ,K a Φ->K' a Φ)(hh:QM P ops C0 C1 T f mk dep i K a Φ):QM P ops C0 C1 T f mk dep i K' a Φ:=by
 unfold QM at*;split
 .exact h _ _ (by simpa [*]using hh)
 .rename_i o ho
  simp only[ho]at hh;obtain⟨sp,h1,h2⟩:=hh;exact⟨sp,h1,λv hv=>h _ _ (h2 v hv)⟩
theorem jd.QM{i:Nat}{o:Oper}{sp:bP}{a:Act}{Φ:World->Prop}(hi:ops[i]?=some o)(hy:jd P ops C0 C1 T f mk dep i o sp a){K:Act->(World->Prop)->Prop}(h:∀v,sp.V v->K (a.put o.dst v) (λz=>Φ z/\sp.S v z)):QM P ops C0 C1 T f mk dep i K a Φ:=by
 unfold Go.Proofs.YtpmdedcnbockhaaGreatDoor.QM;simp only[hi];exact⟨sp,hy,h⟩
theorem aam[Inhabited (Wl C1)]{i j k:Nat}{ds:List Nat}{oi oj:Oper}{sp:bP}(hB:sJ ops k ds dep=true)(hi:ops[i]?=some oi)(hik:i<k)(hjk:j<k)(hj:ops[j]?=some oj)(hap:oi.apart ops oj=true)(hsi:∀cs b,oi.op≠ .select cs b)(hsj:∀cs b,oj.op≠ .select cs b){K:Act->(World->Prop)->Prop}{a:Act}{Φ:World->Prop}
 (hy:jd P ops C0 C1 T f mk dep i oi sp a)(h:∀v,sp.V v->QM P ops C0 C1 T f mk dep j K (a.put oi.dst v) (λz=>Φ z/\sp.S v z)):
 QM P ops C0 C1 T f mk dep j (λa' zP=>jd P ops C0 C1 T f mk dep i oi sp a'/\∀v,sp.V v->K (a'.put oi.dst v) (λz=>zP z/\sp.S v z)) a Φ:=by
 obtain⟨h1,h2,h3⟩:=Oper.apart_spec hap;have hg:∀v,sp.V v->∃sj,jd P ops C0 C1 T f mk dep j oj sj a/\∀u,sj.V u->K ((a.put oi.dst v).put oj.dst u) (λz=>(Φ z/\sp.S v z)/\sj.S u z):=λv hv=>by
  have h4:=h v hv;unfold QM at h4;simp only[hj]at h4;obtain⟨sj,h5,h6⟩:=h4;exact⟨sj,h5.of_same (execOp_put oj hsj a oi.dst v h1).symm (wanted_put oj a oi.dst v h1).symm (λz hz=>(FJ hB hj hjk h1 z).2 hz),h6⟩
 obtain⟨v0,hv0⟩:=hy.ex;obtain⟨sj,XF,_⟩:=hg v0 hv0;refine XF.QM hj (λu hu=>⟨hy.of_same (execOp_put oi hsi a oj.dst u h3) (wanted_put oi a oj.dst u h3) (λz hz=>(FJ hB hi hik h3 z).1 hz),λv hv=>?_⟩);obtain⟨sj',hs',hK⟩:=hg v hv;obtain rfl:=hs'.unique XF;have hK':=hK u hu;rw[Act.put_comm a v u h2]at hK';rw[show(λz=>(Φ z/\sj'.S u z)/\sp.S v z)=(λz=>(Φ z/\sp.S v z)/\sj'.S u z)from funext λz=>propext and_right_comm];exact hK'
def UK(P:Program)(md:Region.Mode)(ops:Array Oper)(C0 C1:World->Prop)(T:World->World->Prop)(f:Nat)(mk:Nat->Option bP)(dep:Nat->List Nat)(S:Nat->Array Bool->Act->(World->Prop)->Prop)(k:Nat):Nat->Array Bool->Act->(World->Prop)->Prop
 |0,listed,a,Φ=>fO k listed=true/\S 0 listed a Φ
 |fuel+1,listed,a,Φ=>
  (fO k listed=true->S (fuel+1) listed a Φ)/\
  (fO k listed=false->Region.ready md ops listed≠[]/\∀i∈Region.ready md ops listed,i<k->QM P ops C0 C1 T f mk dep i (UK P md ops C0 C1 T f mk dep S k fuel (listed.setIfInBounds i true)) a Φ)
theorem QN[Inhabited (Wl C1)]{S:Nat->Array Bool->Act->(World->Prop)->Prop}{k i:Nat}{ds:List Nat}{oi:Oper}{sp:bP}(hB:sJ ops k ds dep=true)(hik:i<k)(hi:ops[i]?=some oi)(hsel:∀(j:Nat)(o:Oper) cs b,ops[j]?=some o->o.op≠ .select cs b):
 ∀(fuel:Nat)(listed:Array Bool)(a:Act)(Φ:World->Prop),Down md ops listed->
  (∀j oj,ops[j]?=some oj->j≠i->listed.getD j true=false->(∀e∈oj.after,Region.binds md e=true->e.on≠i)->oi.apart ops oj=true)->
  i∈Region.ready md ops listed->jd P ops C0 C1 T f mk dep i oi sp a->
  (∀v,sp.V v->UK P md ops C0 C1 T f mk dep S k fuel (listed.setIfInBounds i true) (a.put oi.dst v) (λz=>Φ z/\sp.S v z))->UK P md ops C0 C1 T f mk dep S k (fuel+1) listed a Φ:=by
 intro fuel;induction fuel with
 |zero=>
  intro listed a Φ hd _ hr hy H;refine⟨λhu=>(by rw[eU hik hr]at hu;cases hu),λ_=>⟨λe=>(by rw[e]at hr;cases hr),λj hj hjk=>?_⟩⟩;by_cases hji:j=i
  .subst hji;exact hy.QM hi H
  .have h1:=eU hjk (ready_mono hj hji)
   obtain⟨v,hv⟩:=hy.ex;rw[(H v hv).1]at h1;cases h1
 |succ fuel ih=>
  intro listed a Φ hd hfree hr hy H;refine⟨λhu=>(by rw[eU hik hr]at hu;cases hu),λ_=>⟨λe=>(by rw[e]at hr;cases hr),λj hj hjk=>?_⟩⟩;by_cases hji:j=i
  .subst hji;exact hy.QM hi H
  .have h1:=λv hv=>((H v hv).2 (eU hjk (ready_mono hj hji))).2 j (ready_mono hj hji) hjk
   obtain⟨hjun,oj,hoj,hall⟩:=mem_ready.1 hj;have hnot:∀e∈oj.after,Region.binds md e=true->e.on≠i:=λe he hb heq=>by
    have h2:=hall e he hb;rw[heq,bC hr]at h2;cases h2
   have h2:=aam hB hi hik hjk hoj (hfree j oj hoj hji hjun hnot) (λcs b=>hsel i oi cs b hi) (λcs b=>hsel j oj cs b hoj) hy h1;have hfree':∀k ok,ops[k]?=some ok->k≠i->(listed.setIfInBounds j true).getD k true=false->
    (∀e∈ok.after,Region.binds md e=true->e.on≠i)->oi.apart ops ok=true:=λk ok hk hki hun hno=>by
    refine hfree k ok hk hki ?_ hno;by_cases hjk:j=k
    .subst hjk;exact hjun
    .rw[getD_set_ne true hjk]at hun;exact hun
   refine XE (λa' zP h3=>ih (listed.setIfInBounds j true) a' zP (hd.set hj) hfree' (ready_mono hr (Ne.symm hji)) h3.1 ?_) h2;intro v hv;rw[Array.setIfInBounds_comm _ _ hji];exact h3.2 v hv
def Jq(P:Program)(ops:Array Oper)(C0 C1:World->Prop)(T:World->World->Prop)(f:Nat)(mk:Nat->Option bP)(dep:Nat->List Nat)(R:Act->(World->Prop)->Prop):List Oper->Nat->Act->(World->Prop)->Prop
 |[],_,a,Φ=>R a Φ
 |o::rest,i,a,Φ=>
  if Region.wanted o (yielded ops a.tmps)then
   (match mk i with
    |some sp=>((∃v,sp.V v)/\((i≠f/\∀z:Wl C1,uf ops mk dep i a z.val->bM P z.val sp ((execOp a.eval o).run P z.val))\/(i=f/\∀z:Wl C0,uf ops mk dep i a z.val->oG T z.val sp ((execOp a.eval o).run P z.val))))/\∀v,sp.V v->Jq P ops C0 C1 T f mk dep R rest (i+1) (a.put o.dst v) (λz=>Φ z/\sp.S v z)
    |none=>GQ P o a C1 (λa'=>Jq P ops C0 C1 T f mk dep R rest (i+1) a' Φ))
  else Jq P ops C0 C1 T f mk dep R rest (i+1) (a.put o.dst undef) Φ
theorem LD{R:Act->(World->Prop)->Prop}{i:Nat}{a:Act}{Φ:World->Prop}(h:R a Φ):Jq P ops C0 C1 T f mk dep R [] i a Φ:=h
theorem Di{R:Act->(World->Prop)->Prop}{i:Nat}{a:Act}{Φ:World->Prop}{o:Oper}{rest:List Oper}(hmk:mk i=none)
 (h:∀K:Act->Prop,(∀a,Jq P ops C0 C1 T f mk dep R rest (i+1) a Φ->K a)->if Region.wanted o (yielded ops a.tmps)then GQ P o a C1 K else K (a.put o.dst undef)):Jq P ops C0 C1 T f mk dep R (o::rest) i a Φ:=by
 have h1:=h _ (λ_ h=>h);unfold Jq;rw[hmk];exact h1
theorem GU{R:Act->(World->Prop)->Prop}{i:Nat}{a:Act}{Φ:World->Prop}{o:Oper}{rest:List Oper}(sp:bP)(hmk:mk i=some sp)(hif:(i==f)=false)(hg:o.guard=none)
 (h0:∃v,sp.V v)(h1:∀z:Wl C1,uf ops mk dep i a z.val->bM P z.val sp ((execOp a.eval o).run P z.val))(h2:∀v,sp.V v->Jq P ops C0 C1 T f mk dep R rest (i+1) (a.put o.dst v) (λz=>Φ z/\sp.S v z)):Jq P ops C0 C1 T f mk dep R (o::rest) i a Φ:=by
 have hw:Region.wanted o (yielded ops a.tmps)=true:=by simp[Region.wanted,hg]
 unfold Jq;rw[hmk,if_pos hw];exact⟨⟨h0,.inl ⟨by simpa using hif,h1⟩⟩,h2⟩
theorem GV{R:Act->(World->Prop)->Prop}{i:Nat}{a:Act}{Φ:World->Prop}{o:Oper}{rest:List Oper}(sp:bP)(hmk:mk i=some sp)(hif:i=f)(hg:o.guard=none)
 (h0:∃v,sp.V v)(h1:∀z:Wl C0,uf ops mk dep i a z.val->oG T z.val sp ((execOp a.eval o).run P z.val))(h2:∀v,sp.V v->Jq P ops C0 C1 T f mk dep R rest (i+1) (a.put o.dst v) (λz=>Φ z/\sp.S v z)):Jq P ops C0 C1 T f mk dep R (o::rest) i a Φ:=by
 have hw:Region.wanted o (yielded ops a.tmps)=true:=by simp[Region.wanted,hg]
 unfold Jq;rw[hmk,if_pos hw];exact⟨⟨h0,.inr ⟨hif,h1⟩⟩,h2⟩
theorem XG[Inhabited (Wl C1)]{S:Nat->Array Bool->Act->(World->Prop)->Prop}{R:Act->(World->Prop)->Prop}{k m:Nat}{ds:List Nat}(hdp:sJ ops k ds dep=true)(hs:Region.noSelect ops=true)
 (hR:∀(a:Act)(Φ zP:World->Prop),(∀z,zP z->Φ z)->R a Φ->R a zP)
 (hS:∀listed a Φ,fO k listed=true->kI.nG md ops (ops.size - k) k listed=true->R a Φ->S m listed a Φ)(is:List Nat):∀(q:Nat)(l:List Oper)(listed:Array Bool)(a:Act)(Φ zP:World->Prop),is=(List.range' q l.length)->is.map (λi=>ops[i]?)=l.map some->Down md ops listed->
 nJ md ops k is listed=true->(∀z,zP z->Φ z)->Jq P ops C0 C1 T f mk dep R l q a Φ->UK P md ops C0 C1 T f mk dep S k (is.length+m) listed a zP:=by
 induction is with
 |nil=>
  intro q l listed a Φ zP hq hl _ hB Eu h;obtain rfl:l=[]:=by
   cases l with
   |nil=>rfl
   |cons x l=>simp at hl
  simp only[nJ,bS]at hB;have h1:=hS listed a zP hB.1 hB.2 (hR _ _ _ Eu h);rw[kM,pF];cases m with
  |zero=>exact⟨hB.1,h1⟩
  |succ m=>exact⟨λ_=>h1,λe=>(by rw[hB.1]at e;cases e)⟩
 |cons i is ih=>
  intro q l listed a Φ zP hq hl hd hB Eu h;cases l with
  |nil=>simp at hl
  |cons o l=>
   simp only[gV,List.range'_succ,List.cons.injEq]at hq;obtain⟨rfl,hq⟩:=hq;simp only[kN,List.cons.injEq]at hl;obtain⟨h0,hl⟩:=hl;simp only[nJ,bS,decide_eq_true_eq]at hB;obtain⟨⟨⟨hik,hr⟩,hf⟩,hB'⟩:=hB;have hr':i∈Region.ready md ops listed:=by simpa using hr
   have hst:∃sp,jd P ops C0 C1 T f mk dep i o sp a/\∀v,sp.V v->∃Φ2:World->Prop,(∀z,zP z/\sp.S v z->Φ2 z)/\Jq P ops C0 C1 T f mk dep R l (i+1) (a.put o.dst v) Φ2:=by
    unfold Jq at h;by_cases hw:Region.wanted o (yielded ops a.tmps)=true
    .rw[if_pos hw]at h
     cases hm:mk i with
     |none=>
      rw[hm]at h;obtain⟨u,h1,h2⟩:=h;refine⟨one u,.inr (.inl ⟨hw,hm,u,rfl,h1⟩),?_⟩;rintro v rfl;exact⟨Φ,λz hz=>Eu z hz.1,h2⟩
     |some sp=>
      rw[hm]at h;exact⟨sp,.inl ⟨hw,hm,h.1.1,h.1.2⟩,λv hv=>⟨_,λz hz=>⟨Eu z hz.1,hz.2⟩,h.2 v hv⟩⟩
    .rw[if_neg hw]at h
     refine⟨one undef,.inr (.inr ⟨by simpa using hw,rfl⟩),?_⟩;rintro v rfl;exact⟨Φ,λz hz=>Eu z hz.1,h⟩
   obtain⟨sp,hy,hK⟩:=hst;have ih':∀v,sp.V v->UK P md ops C0 C1 T f mk dep S k (is.length+m) (listed.setIfInBounds i true) (a.put o.dst v) (λz=>zP z/\sp.S v z):=λv hv=>by
    obtain⟨Φ2,h1,h2⟩:=hK v hv;exact ih (i+1) l (listed.setIfInBounds i true) (a.put o.dst v) Φ2 _ hq hl (hd.set hr') hB' h1 h2
   have h9:=QN (S:=S) hdp hik h0 (Region.noSelect_spec hs) _ listed a zP hd (Region.free_spec h0 hf) hr' hy ih';have e:(i::is).length+m=is.length+m+1:=by simp;omega
   rw[e];exact h9
theorem Dj{i:Nat}{o:Oper}{sp:bP}{a:Act}{K':Act->World->Prop}(hF:jV F P)(hT:Turns C0 C1 T)(ho:ops[i]?=some o)(hd:gM o=true)(z:Wl C1)(hz0:i=f->C0 z.val)(hy:jd P ops C0 C1 T f mk dep i o sp a)(hpre:uf ops mk dep i a z.val)
 (h:∀v,sp.V v->∀z':Wl C1,StepT T f i z.val z'.val->(i≠f->Below z.val.heap.size z.val z'.val)->sp.S v z'.val->K' (a.put o.dst v) z'.val):wpOpIn F n P ops Q i K' a z.val:=by
 unfold wpOpIn;simp only[ho];rcases hy with⟨hw,_,_,hv|hv⟩|⟨hw,_,u,rfl,hv⟩|⟨hw,rfl⟩
 .rw[hw,if_pos rfl]
  refine⟨λf _=>hF.fn f,?_⟩;rw[Oper.semAt_plain F _ _ (fI hd)];have h3:=hv.2 z hpre;generalize(execOp a.eval o).run P z.val=r at*;cases r with
  |ok x w'=>
   cases x<;>simp only[bM]at h3
   case value u=>exact h u h3.1 ⟨w',hT.b1 _ _ z.prop h3.2.2⟩ (.inl h3.2.2) (λ_=>h3.2.2) h3.2.1
   case enter f args=>
    obtain⟨e1,hc⟩:=h3;subst e1;refine⟨λe=>(by rw[hF.depth]at e;cases e),(hF.calls _ _ _ _ _ hc).mono ?_⟩;rintro e w'' ⟨v,rfl,h4,h5,h6⟩;exact h v h4 ⟨w'',hT.b1 _ _ z.prop h6⟩ (.inl h6) (λ_=>h6) h5
  |halt x w'=>simp only[bM]at h3
 .rw[hw,if_pos rfl]
  refine⟨λf _=>hF.fn f,?_⟩;rw[Oper.semAt_plain F _ _ (fI hd)];have h0:=hz0 hv.1;have h3:=hv.2 ⟨z.val,h0⟩ hpre;simp only at h3;generalize(execOp a.eval o).run P z.val=r at*;cases r with
  |ok x w'=>
   cases x<;>simp only[oG]at h3
   case value u=>exact h u h3.1 ⟨w',hT.t _ _ h0 h3.2.2⟩ (.inr ⟨hv.1,h3.2.2⟩) (λe=>absurd hv.1 e) h3.2.1
  |halt x w'=>simp only[oG]at h3
 .rw[hw,if_pos rfl]
  refine⟨λf _=>hF.fn f,?_⟩;rw[Oper.semAt_plain F _ _ (fI hd)];have h3:=hv z;generalize(execOp a.eval o).run P z.val=r at*;cases r with
  |ok x w'=>
   cases x<;>simp only[stillUpon]at h3
   case value u=>
    obtain⟨e1,e2⟩:=h3;subst e1 e2;exact h _ rfl z (.inl (aC _ _)) (λ_=>aC _ _) trivial
   case skip=>
    obtain⟨e1,e2⟩:=h3;subst e1 e2;exact h _ rfl z (.inl (aC _ _)) (λ_=>aC _ _) trivial
  |halt x w'=>simp only[stillUpon]at h3
 .rw[hw,if_neg (by simp)]
  exact⟨λf _=>hF.fn f,h _ rfl z (.inl (aC _ _)) (λ_=>aC _ _) trivial⟩
theorem jd.keeps{i:Nat}{o:Oper}{sp:bP}{a:Act}(hy:jd P ops C0 C1 T f mk dep i o sp a)(hk:∀i sp,mk i=some sp->AL ops T f i sp):AL ops T f i sp:=by
 rcases hy with⟨_,h,_⟩|⟨_,_,u,rfl,_⟩|⟨_,rfl⟩
 .exact hk i sp h
 .exact⟨λ_ _ _ _ _=>trivial,λ_ _ _ _ _ _ _=>trivial⟩
 .exact⟨λ_ _ _ _ _=>trivial,λ_ _ _ _ _ _ _=>trivial⟩
theorem jd.LG{i:Nat}{o:Oper}{sp sp':bP}{a:Act}(h:jd P ops C0 C1 T f mk dep i o sp a)(hw:mk i=some sp'):Region.wanted o (yielded ops a.tmps)=true->sp=sp':=λhx=>by
 rcases h with⟨_,h2,_,_⟩|⟨_,h2,_⟩|⟨h2,_⟩
 .rw[hw]at h2;injection h2 with h2;exact h2.symm
 .rw[hw]at h2;cases h2
 .rw[hx]at h2;cases h2
theorem pR{listed:Array Bool}{i f:Nat}(h:(listed.setIfInBounds i true).getD f false=false):listed.getD f false=false:=by
 by_cases e:i=f
 .subst e
  by_cases h2:i<listed.size
  .simp[h2]at h
  .simp[h2]
 .rw[getD_set_ne false e]at h
  exact h
theorem qx{k:Nat}(hF:jV F P)(hdef:∀(i:Nat) o,ops[i]?=some o->i<k->gM o=true){X:List Nat}(hn:AJ ops k X=true)(hsel:Region.noSelect ops=true)(hfx:GN ops X=true)(hmx:∀e∈X,mk e=none)(hro:X=[]\/F.round=none)(hQ:∀e∈X,∀(o:Oper)(v:Value) c a w,ops[e]?=some o->Q (.panic c) (a.put o.dst v) w->Q (.panic c) a w)(hk:∀i sp,mk i=some sp->AL ops T f i sp)(hT:Turns C0 C1 T){ds:List Nat}(hdp:sJ ops k ds dep=true):∀(fuel:Nat)(listed:Array Bool)(a:Act)(Φ:World->Prop)(z:Wl C1),(listed.getD f false=false->C0 z.val)->Down .any ops listed->listed.size=ops.size->EX ops ds a->AB ops mk ds listed a z.val->((∀z z',Φ z->Below z.heap.size z z'->Φ z')/\(listed.getD f false=false->∀z z',Φ z->T z z'->Φ z'))->Φ z.val->
 UK P .any ops C0 C1 T f mk dep (λfuel listed a Φ=>∀z:Wl C1,Φ z.val->wpAnyIn F n P .any ops Q fuel listed a z.val) k fuel listed a Φ->wpAnyIn F n P .any ops Q fuel listed a z.val
 |0,_,_,_,z,_,_,_,_,_,_,hz,h=>h.2 z hz
 |fuel+1,listed,a,Φ,z,hz0,hd,hls,hbn,hfa,Eu,hz,h=>by
  have hd':=hd;cases hu:fO k listed with
  |true=>exact h.1 hu z hz
  |false=>
   obtain⟨hne,hall⟩:=h.2 hu;by_cases hx:∃e∈X,e∈Region.ready .any ops listed
   .obtain⟨e,Qd,her⟩:=hx
    obtain⟨hek,o,ho,_⟩:=sU hn Qd;obtain⟨hpu,hap⟩:=Et hfx Qd ho;have hroF:F.round=none:=by
     rcases hro with h|h
     .rw[h]at Qd;cases Qd
     .exact h
    have h1:=hall e her hek;unfold QM at h1;simp only[ho]at h1;obtain⟨sp,hy,hK⟩:=h1;have hil:e<listed.size:=by rw[hls];exact(lS.1 ho).1
    have hwd:Region.wanted o (yielded ops a.tmps)=true:=by
     simp only[Dh,bS,Option.isNone_iff_eq_none]at hpu;simp[Region.wanted,hpu.1]
    rcases hy with⟨_,h2,_⟩|⟨_,_,u,rfl,h4⟩|⟨h2,_⟩
    .rw[hmx e Qd]at h2;cases h2
    .refine wpAnyIn_first hroF ho (Region.noSelect_spec hsel) (λc a w=>hQ e Qd o u c a w ho) fuel listed a z.val (λj oj hj hne hun hno=>?_) her (Es hpu (h4 z)) ?_
     .rcases hap j oj hj hne with h5|h5|h5
      .obtain⟨d,hd1,hd2,hd3⟩:=Ah hj h5
       exact absurd hd3 (hno d hd1 hd2)
      .have h6:=kR h5 her
       have h7:j<listed.size:=by rw[hls];exact(lS.1 hj).1
       simp[h7]at h6 hun;rw[h6]at hun;cases hun
      .exact h5
     .exact qx hF hdef hn hsel hfx hmx hro hQ hk hT hdp fuel _ _ _ z (λe1=>hz0 (pR e1)) (hd.set her) (by simpa using hls) (λp hp o' t ho' ht=>by
       have h5:=hbn p hp o' t ho' ht;cases hdst:o.dst with
       |none=>exact h5
       |some d=>simp only[Act.put,Array.size_setIfInBounds];exact h5) (GR hd (bC her) hdp hek ho hil hbn hfa hk (.inl (aC _ _)) (λsp' hsp=>by rw[hmx e Qd]at hsp;cases hsp)) ⟨λx y hx hxy=>⟨Eu.1 x y hx.1 hxy,trivial⟩,λe1 x y hx hxy=>⟨Eu.2 (pR e1) x y hx.1 hxy,trivial⟩⟩ ⟨hz,trivial⟩ (hK u rfl)
    .rw[hwd]at h2;cases h2
   .refine⟨λe=>absurd e hne,λi hi=>?_⟩
    have hik:i<k:=by
     rcases iH i k with h1|h1
     .exact h1
     .have XH:fO k listed=true:=fE.2 (λq hq=>by
       by_cases hqX:q∈X
       .obtain⟨_,oq,hoq,QO⟩:=sU hn hqX
        by_cases XI:listed.getD q false=true
        .exact XI
        .exfalso
         refine hx ⟨q,hqX,mem_ready.2 ⟨?_,oq,hoq,λd hd hb=>?_⟩⟩
         .have h7:q<listed.size:=by rw[hls];exact(lS.1 hoq).1
          simp[h7]at XI⊢;exact XI
         .obtain⟨h8,h9⟩:=QO d hd hb
          exact sS hn hd' hi h1 _ h8 h9
       .exact sS hn hd' hi h1 q hq hqX)
      rw[XH]at hu;cases hu
    obtain⟨_,o,ho,_⟩:=mem_ready.1 hi;have h1:=hall i hi hik;unfold QM at h1;simp only[ho]at h1;obtain⟨sp,hy,hK⟩:=h1;have hks:=hy.keeps hk;have hil:i<listed.size:=by rw[hls];exact(lS.1 ho).1
    have hpre:uf ops mk dep i a z.val:=λp hp sp' hsp o' t ho' ht=>by
     have hm:=(lM hdp).1 i hik p hp o' t o ho' ht ho;exact hfa p hm.1 (wJ hm.2.1 hi) sp' hsp o' t ho' ht
    refine Dj hF hT ho (hdef i o ho hik) z (λe1=>hz0 (by rw[<-e1];exact bC hi)) hy hpre (λv hv z' hz' hzb hS=>?_);have hset:∀e1:(listed.setIfInBounds i true).getD f false=false,i≠f:=λe1 e2=>by subst e2;simp[hil]at e1
    exact qx hF hdef hn hsel hfx hmx hro hQ hk hT hdp fuel _ _ _ z' (λe1=>hT.b0 _ _ (hz0 (pR e1)) (hzb (hset e1))) (hd.set hi) (by simpa using hls) (λp hp o' t ho' ht=>by
     have h5:=hbn p hp o' t ho' ht;cases hdst:o.dst with
     |none=>exact h5
     |some d=>simp only[Act.put,Array.size_setIfInBounds];exact h5) (GR hd (bC hi) hdp hik ho hil hbn hfa hk hz' (λsp' hsp hds=>by
      have e:=hy.LG hsp (by simp[Region.wanted,(lM hdp).2.2 i hds o ho]);rw[e]at hS;exact hS)) ⟨λx y hx hxy=>⟨Eu.1 x y hx.1 hxy,hks.1 v x y hx.2 hxy⟩,λe1 x y hx hxy=>⟨Eu.2 (pR e1) x y hx.1 hxy,hks.2 (hset e1) (QL (pR e1) hi) v x y hx.2 hxy⟩⟩ ⟨(by
      rcases hz' with h8|⟨h8,h9⟩
      .exact Eu.1 _ _ hz h8
      .exact Eu.2 (by rw[<-h8];exact bC hi) _ _ hz h9),hS⟩ (hK v hv)
theorem oH{id:Nat}{a:Act}{s:Wl C0}{l:List Oper}(k:Nat)(mk:Nat->Option bP)(dep:Nat->List Nat)(ds X:List Nat)(hF:jV F P)(hk:k<=l.length)(hm:P.follows .mixedOrders=true)(hB:uh l.toArray k X=true)(hmx:∀e∈X,mk e=none)(hro:X=[]\/F.round=none)(hQ:∀e∈X,∀(o:Oper)(v:Value) c a w,l.toArray[e]?=some o->Q (.panic c) (a.put o.dst v) w->Q (.panic c) a w)(hdp:sJ l.toArray k ds dep=true)(hbd:EX l.toArray ds a)(hks:∀i sp,mk i=some sp->AL l.toArray T f i sp)(hT:Turns C0 C1 T)
 (h:Jq P l.toArray C0 C1 T f mk dep (λa' Φ=>∀z:Wl C1,Φ z.val->wpListIn F n P l.toArray Q (l.drop k) a' z.val) (l.take k) 0 a (λ_=>True)):(Code.region id l.toArray true).wpIn F n P Q a s.val:=by
 simp only[uh,bS]at hB
 haveI:Inhabited (Wl C1):=⟨⟨s.val,hT.sub _ s.prop⟩⟩
 obtain⟨⟨⟨⟨hs,hn⟩,hfx⟩,hp⟩,hd⟩:=hB;have pO:Down .any l.toArray (Array.replicate l.toArray.size false):=λj hj=>by
  exfalso;rcases iH j l.length with h'|h'
  .simp[h']at hj
  .simp[h']at hj
 refine wpIn_region_any hm ?_;have hlen:(l.take k).length=k:=by simp;omega
 have h1:=XG (md:=.any) (ops:=l.toArray) (P:=P) (C0:=C0) (C1:=C1) (T:=T) (f:=f) (mk:=mk) (dep:=dep) (S:=λfuel listed a Φ=>∀z:Wl C1,Φ z.val->wpAnyIn F n P .any l.toArray Q fuel listed a z.val) (k:=k) (m:=l.toArray.size - k) hdp hs
  (R:=λa' Φ=>∀z:Wl C1,Φ z.val->wpListIn F n P l.toArray Q (l.drop k) a' z.val)
  (λa Φ zP Eu hr z hz=>hr z (Eu _ hz))
  (λlisted a' Φ hu ho h0 z hz=>by
   have h2:=kS (F:=F) (n:=n) (P:=P) (ops:=l.toArray) (Q:=Q) (md:=.any) (l.drop k) k listed a' z.val (λj=>by simp) (by simpa using ho) (h0 z hz);simpa using h2)
  (List.range' 0 k) 0 (l.take k) (Array.replicate l.toArray.size false) a (λ_=>True) (λ_=>True) (by rw[hlen]) (by
   apply lX;intro j;rw[gK,gK,lT];by_cases hj:j<k
   .rw[List.getElem?_range' hj,if_pos hj]
    have:j<l.length:=by omega
    simp[this]
   .rw[if_neg hj,mX (by simp;omega)]
    rfl) pO hp (λ_ h=>h) h
 rw[show(List.range' 0 k).length+(l.toArray.size - k)=l.toArray.size by simp;omega]at h1;refine qx hF (λi o ho hi=>?_) hn hs hfx hmx hro hQ hks hT hdp _ _ _ _ ⟨s.val.drew,hT.sub _ (hT.b0 _ _ s.prop (aC _ _).drew)⟩ (λ_=>hT.b0 _ _ s.prop (aC _ _).drew) pO (by simp) hbd (λp _ hl=>(by
  have hno:(Array.replicate l.toArray.size false).getD p false=false:=by
   rcases iH p l.length with h'|h'
   .simp[h']
   .simp[h']
  rw[hno]at hl;cases hl)) ⟨λ_ _ _ _=>trivial,λ_ _ _ _ _=>trivial⟩ trivial h1
 have h2:=fV.1 hd o;refine h2 ?_;rw[jW];exact⟨i,by rw[lT,if_pos hi];simpa using ho⟩
theorem rY{id:Nat}{a:Act}{s:Wl C0}{l:List Oper}(k:Nat)(mk:Nat->Option bP)(dep:Nat->List Nat)(ds X:List Nat)(hk:k<=l.length)(hm:P.follows .mixedOrders=true)(hB:uh l.toArray k X=true)(hmx:∀e∈X,mk e=none)(hQ:∀e∈X,∀(o:Oper)(v:Value) c a w,l.toArray[e]?=some o->Q (.panic c) (a.put o.dst v) w->Q (.panic c) a w)(hdp:sJ l.toArray k ds dep=true)(hbd:EX l.toArray ds a)(hks:∀i sp,mk i=some sp->AL l.toArray T f i sp)(hT:Turns C0 C1 T)
 (h:Jq P l.toArray C0 C1 T f mk dep (λa' Φ=>∀z:Wl C1,Φ z.val->wpListIn Fence.wide 0 P l.toArray Q (l.drop k) a' z.val) (l.take k) 0 a (λ_=>True)):(Code.region id l.toArray true).wp P Q a s.val:=
 wpIn_wide.1 (oH (n:=0) k mk dep ds X (jV.wide P) hk hm hB hmx (.inr rfl) hQ hdp hbd hks hT h)
end
end
section
open Go.RowKit
section
variable {F:Fence} {n:Nat} {P:Program} {ops:Array Oper} {W0:World} {Q:Exit->Act->World->Prop} {mk:Nat->Option bP}
def Ti(P:Program)(ops:Array Oper)(W0:World)(mk:Nat->Option bP)(R:Act->(World->Prop)->Prop):List Oper->Nat->Act->(World->Prop)->Prop
 |[],_,a,Φ=>R a Φ
 |o::rest,i,a,Φ=>
  if Region.wanted o (yielded ops a.tmps)then
   (match mk i with
    |some sp=>(∀z:Bl W0,bM P z.val sp ((execOp a.eval o).run P z.val))/\∀v,sp.V v->Ti P ops W0 mk R rest (i+1) (a.put o.dst v) (λz=>Φ z/\sp.S v z)
    |none=>kD P o a W0 (λa'=>Ti P ops W0 mk R rest (i+1) a' Φ))
  else Ti P ops W0 mk R rest (i+1) (a.put o.dst undef) Φ
theorem Tj{R:Act->(World->Prop)->Prop}{i:Nat}{a:Act}{Φ:World->Prop}(h:R a Φ):Ti P ops W0 mk R [] i a Φ:=h
theorem mQ{R:Act->(World->Prop)->Prop}{i:Nat}{a:Act}{Φ:World->Prop}{o:Oper}{rest:List Oper}(hmk:mk i=none)
 (h:∀K:Act->Prop,(∀a,Ti P ops W0 mk R rest (i+1) a Φ->K a)->if Region.wanted o (yielded ops a.tmps)then kD P o a W0 K else K (a.put o.dst undef)):Ti P ops W0 mk R (o::rest) i a Φ:=by
 have h1:=h _ (λ_ h=>h);unfold Ti;rw[hmk];exact h1
theorem uQ{R:Act->(World->Prop)->Prop}{i:Nat}{a:Act}{Φ:World->Prop}{o:Oper}{rest:List Oper}(sp:bP)(hmk:mk i=some sp)(hg:o.guard=none)
 (h1:∀z:Bl W0,bM P z.val sp ((execOp a.eval o).run P z.val))(h2:∀v,sp.V v->Ti P ops W0 mk R rest (i+1) (a.put o.dst v) (λz=>Φ z/\sp.S v z)):Ti P ops W0 mk R (o::rest) i a Φ:=by
 have hw:Region.wanted o (yielded ops a.tmps)=true:=by simp[Region.wanted,hg]
 unfold Ti;rw[hmk,if_pos hw];exact⟨h1,h2⟩
theorem BQ{f:Nat}{R R':Act->(World->Prop)->Prop}(hR:∀a Φ,R a Φ->R' a Φ):∀(l:List Oper)(i:Nat)(a:Act)(Φ:World->Prop),i+l.length<=f->Ti P ops W0 mk R l i a Φ->Jq P ops (λz=>Below W0.heap.size W0 z) (λz=>Below W0.heap.size W0 z) (λ_ _=>False) f mk (λ_=>[]) R' l i a Φ
 |[],_,_,_,_,h=>hR _ _ h
 |o::l,i,a,Φ,hl,h=>by
  rw[gV]at hl;unfold Ti at h;unfold Jq;by_cases hw:Region.wanted o (yielded ops a.tmps)=true
  .rw[if_pos hw]at h⊢
   cases hm:mk i with
   |none=>
    rw[hm]at h;obtain⟨v,h1,h2⟩:=h;exact⟨v,λz=>h1 ⟨z.val,z.prop⟩,BQ hR l (i+1) _ _ (by omega) h2⟩
   |some sp=>
    rw[hm]at h;exact⟨⟨XD h.1,.inl ⟨by omega,λz _=>h.1 ⟨z.val,z.prop⟩⟩⟩,λv hv=>BQ hR l (i+1) _ _ (by omega) (h.2 v hv)⟩
  .rw[if_neg hw]at h⊢
   exact BQ hR l (i+1) _ _ (by omega) h
theorem Dk{id:Nat}{a:Act}{s:Bl W0}{l:List Oper}(k:Nat)(mk:Nat->Option bP)(hF:jV F P)(hk:k<=l.length)(hm:P.follows .mixedOrders=true)(hB:uh l.toArray k []=true)(hks:∀i sp,mk i=some sp->sp.Keeps)
 (h:Ti P l.toArray W0 mk (λa' Φ=>∀z:Bl W0,Φ z.val->wpListIn F n P l.toArray Q (l.drop k) a' z.val) (l.take k) 0 a (λ_=>True)):(Code.region id l.toArray true).wpIn F n P Q a s.val:=by
 have hlen:(l.take k).length=k:=by simp;omega
 exact oH (C0:=λz=>Below W0.heap.size W0 z) (C1:=λz=>Below W0.heap.size W0 z) (T:=λ_ _=>False) (f:=k) (s:=⟨s.val,s.prop⟩) k mk (λ_=>[]) [] [] hF hk hm hB (by simp) (.inl rfl) (by simp) (by simp[sJ]) (λp hp=>by cases hp) (λi sp h=>⟨hks i sp h,λ_ _ _ _ _ _ ht=>ht.elim⟩) ⟨λ_ h=>h,λ_ _ h hb=>av h hb,λ_ _ h hb=>av h hb,λ_ _ _ ht=>ht.elim⟩ (BQ (λa Φ (h:∀z:Bl W0,Φ z.val->wpListIn F n P l.toArray Q (l.drop k) a z.val) (z:Wl (λz=>Below W0.heap.size W0 z)) hz=>h ⟨z.val,z.prop⟩ hz) _ 0 a _ (by rw[hlen];omega) h)
theorem xV{id:Nat}{a:Act}{s:Bl W0}{l:List Oper}(k:Nat)(mk:Nat->Option bP)(hk:k<=l.length)(hm:P.follows .mixedOrders=true)(hB:uh l.toArray k []=true)(hks:∀i sp,mk i=some sp->sp.Keeps)
 (h:Ti P l.toArray W0 mk (λa' Φ=>∀z:Bl W0,Φ z.val->wpListIn Fence.wide 0 P l.toArray Q (l.drop k) a' z.val) (l.take k) 0 a (λ_=>True)):(Code.region id l.toArray true).wp P Q a s.val:=
 wpIn_wide.1 (Dk (n:=0) k mk (jV.wide P) hk hm hB hks h)
end
end
section
open Go.RowKit
section
variable {F:Fence} {n:Nat} {P:Program} {ops:Array Oper} {W0:World} {Q:Exit->Act->World->Prop} {mk:Nat->Option bP} {dep:Nat->List Nat}
def Tk(P:Program)(ops:Array Oper)(W0:World)(mk:Nat->Option bP)(dep:Nat->List Nat)(R:Act->(World->Prop)->Prop):List Oper->Nat->Act->(World->Prop)->Prop
 |[],_,a,Φ=>R a Φ
 |o::rest,i,a,Φ=>
  if Region.wanted o (yielded ops a.tmps)then
   (match mk i with
    |some sp=>((∃v,sp.V v)/\∀z:Bl W0,uf ops mk dep i a z.val->bM P z.val sp ((execOp a.eval o).run P z.val))/\∀v,sp.V v->Tk P ops W0 mk dep R rest (i+1) (a.put o.dst v) (λz=>Φ z/\sp.S v z)
    |none=>kD P o a W0 (λa'=>Tk P ops W0 mk dep R rest (i+1) a' Φ))
  else Tk P ops W0 mk dep R rest (i+1) (a.put o.dst undef) Φ
theorem aao{R:Act->(World->Prop)->Prop}{i:Nat}{a:Act}{Φ:World->Prop}(h:R a Φ):Tk P ops W0 mk dep R [] i a Φ:=h
theorem UL{R:Act->(World->Prop)->Prop}{i:Nat}{a:Act}{Φ:World->Prop}{o:Oper}{rest:List Oper}(hmk:mk i=none)
 (h:∀K:Act->Prop,(∀a,Tk P ops W0 mk dep R rest (i+1) a Φ->K a)->if Region.wanted o (yielded ops a.tmps)then kD P o a W0 K else K (a.put o.dst undef)):Tk P ops W0 mk dep R (o::rest) i a Φ:=by
 have h1:=h _ (λ_ h=>h);unfold Tk;rw[hmk];exact h1
theorem XJ{R:Act->(World->Prop)->Prop}{i:Nat}{a:Act}{Φ:World->Prop}{o:Oper}{rest:List Oper}(sp:bP)(hmk:mk i=some sp)(hg:o.guard=none)
 (h0:∃v,sp.V v)(h1:∀z:Bl W0,uf ops mk dep i a z.val->bM P z.val sp ((execOp a.eval o).run P z.val))(h2:∀v,sp.V v->Tk P ops W0 mk dep R rest (i+1) (a.put o.dst v) (λz=>Φ z/\sp.S v z)):Tk P ops W0 mk dep R (o::rest) i a Φ:=by
 have hw:Region.wanted o (yielded ops a.tmps)=true:=by simp[Region.wanted,hg]
 unfold Tk;rw[hmk,if_pos hw];exact⟨⟨h0,h1⟩,h2⟩
theorem BR{f:Nat}{R R':Act->(World->Prop)->Prop}(hR:∀a Φ,R a Φ->R' a Φ):∀(l:List Oper)(i:Nat)(a:Act)(Φ:World->Prop),i+l.length<=f->Tk P ops W0 mk dep R l i a Φ->Jq P ops (λz=>Below W0.heap.size W0 z) (λz=>Below W0.heap.size W0 z) (λ_ _=>False) f mk dep R' l i a Φ
 |[],_,_,_,_,h=>hR _ _ h
 |o::l,i,a,Φ,hl,h=>by
  rw[gV]at hl;unfold Tk at h;unfold Jq;by_cases hw:Region.wanted o (yielded ops a.tmps)=true
  .rw[if_pos hw]at h⊢
   cases hm:mk i with
   |none=>
    rw[hm]at h;obtain⟨v,h1,h2⟩:=h;exact⟨v,λz=>h1 ⟨z.val,z.prop⟩,BR hR l (i+1) _ _ (by omega) h2⟩
   |some sp=>
    rw[hm]at h;exact⟨⟨h.1.1,.inl ⟨by omega,λz hz=>h.1.2 ⟨z.val,z.prop⟩ hz⟩⟩,λv hv=>BR hR l (i+1) _ _ (by omega) (h.2 v hv)⟩
  .rw[if_neg hw]at h⊢
   exact BR hR l (i+1) _ _ (by omega) h
theorem Dl{id:Nat}{a:Act}{s:Bl W0}{l:List Oper}(k:Nat)(mk:Nat->Option bP)(dep:Nat->List Nat)(ds X:List Nat)(hF:jV F P)(hk:k<=l.length)(hm:P.follows .mixedOrders=true)(hB:uh l.toArray k X=true)(hmx:∀e∈X,mk e=none)(hro:X=[]\/F.round=none)(hQ:∀e∈X,∀(o:Oper)(v:Value) c a w,l.toArray[e]?=some o->Q (.panic c) (a.put o.dst v) w->Q (.panic c) a w)(hdp:sJ l.toArray k ds dep=true)(hbd:EX l.toArray ds a)(hks:∀i sp,mk i=some sp->sp.Keeps)
 (h:Tk P l.toArray W0 mk dep (λa' Φ=>∀z:Bl W0,Φ z.val->wpListIn F n P l.toArray Q (l.drop k) a' z.val) (l.take k) 0 a (λ_=>True)):(Code.region id l.toArray true).wpIn F n P Q a s.val:=by
 have hlen:(l.take k).length=k:=by simp;omega
 exact oH (C0:=λz=>Below W0.heap.size W0 z) (C1:=λz=>Below W0.heap.size W0 z) (T:=λ_ _=>False) (f:=k) (s:=⟨s.val,s.prop⟩) k mk dep ds X hF hk hm hB hmx hro hQ hdp hbd (λi sp h=>⟨hks i sp h,λ_ _ _ _ _ _ ht=>ht.elim⟩) ⟨λ_ h=>h,λ_ _ h hb=>av h hb,λ_ _ h hb=>av h hb,λ_ _ _ ht=>ht.elim⟩ (BR (λa Φ (h:∀z:Bl W0,Φ z.val->wpListIn F n P l.toArray Q (l.drop k) a z.val) (z:Wl (λz=>Below W0.heap.size W0 z)) hz=>h ⟨z.val,z.prop⟩ hz) _ 0 a _ (by rw[hlen];omega) h)
theorem GX{id:Nat}{a:Act}{s:Bl W0}{l:List Oper}(k:Nat)(mk:Nat->Option bP)(dep:Nat->List Nat)(ds X:List Nat)(hk:k<=l.length)(hm:P.follows .mixedOrders=true)(hB:uh l.toArray k X=true)(hmx:∀e∈X,mk e=none)(hQ:∀e∈X,∀(o:Oper)(v:Value) c a w,l.toArray[e]?=some o->Q (.panic c) (a.put o.dst v) w->Q (.panic c) a w)(hdp:sJ l.toArray k ds dep=true)(hbd:EX l.toArray ds a)(hks:∀i sp,mk i=some sp->sp.Keeps)
 (h:Tk P l.toArray W0 mk dep (λa' Φ=>∀z:Bl W0,Φ z.val->wpListIn Fence.wide 0 P l.toArray Q (l.drop k) a' z.val) (l.take k) 0 a (λ_=>True)):(Code.region id l.toArray true).wp P Q a s.val:=
 wpIn_wide.1 (Dl (n:=0) k mk dep ds X (jV.wide P) hk hm hB hmx (.inr rfl) hQ hdp hbd hks h)
end
end
section
open Go.RowKit
section
variable {F:Fence} {n:Nat} {P:Program} {ops:Array Oper} {md:Region.Mode} {w0 w1:World} {Q:Exit->Act->World->Prop} {f:Nat}
def jh(w1:World):Result Next->Prop
 | .ok .skip w'=>w'=w1
 |_=>False
def oI(P:Program)(ops:Array Oper)(w0 w1:World)(f i:Nat)(o:Oper)(v:Value)(a:Act):Prop:=
 (Region.wanted o (yielded ops a.tmps)=true/\i=f/\v=undef/\jh w1 ((execOp a.eval o).run P w0))\/
 (Region.wanted o (yielded ops a.tmps)=true/\i≠f/\stillUpon w0 v ((execOp a.eval o).run P w0)/\stillUpon w1 v ((execOp a.eval o).run P w1))\/
 (Region.wanted o (yielded ops a.tmps)=false/\i≠f/\v=undef)
theorem oI.of_same{i:Nat}{o:Oper}{v:Value}{a a':Act}(hy:oI P ops w0 w1 f i o v a)(he:execOp a'.eval o=execOp a.eval o)(hw:Region.wanted o (yielded ops a'.tmps)=Region.wanted o (yielded ops a.tmps)):oI P ops w0 w1 f i o v a':=by
 unfold oI at*;rw[he,hw];exact hy
def Tm(P:Program)(ops:Array Oper)(w0 w1:World)(f i:Nat)(K:Act->Prop)(a:Act):Prop:=
 match ops[i]? with
 |none=>K a
 |some o=>∃v,oI P ops w0 w1 f i o v a/\K (a.put o.dst v)
theorem XK{i:Nat}{a:Act}{K K':Act->Prop}(h:∀a,K a->K' a)(hh:Tm P ops w0 w1 f i K a):Tm P ops w0 w1 f i K' a:=by
 unfold Tm at*;split
 .exact h _ (by simpa [*]using hh)
 .rename_i o ho
  simp only[ho]at hh;obtain⟨v,h1,h2⟩:=hh;exact⟨v,h1,h _ h2⟩
theorem oI.Tm{i:Nat}{o:Oper}{v:Value}{a:Act}(hi:ops[i]?=some o)(hy:oI P ops w0 w1 f i o v a){K:Act->Prop}(h:K (a.put o.dst v)):Tm P ops w0 w1 f i K a:=by
 unfold Go.Proofs.YtpmdedcnbockhaaGreatDoor.Tm;simp only[hi];exact⟨v,hy,h⟩
theorem aap{i j:Nat}{oi oj:Oper}{v:Value}(hj:ops[j]?=some oj)(hap:oi.apart ops oj=true)(hsi:∀cs b,oi.op≠ .select cs b)(hsj:∀cs b,oj.op≠ .select cs b){K:Act->Prop}{a:Act}
 (hy:oI P ops w0 w1 f i oi v a)(h:Tm P ops w0 w1 f j K (a.put oi.dst v)):Tm P ops w0 w1 f j (λa'=>oI P ops w0 w1 f i oi v a'/\K (a'.put oi.dst v)) a:=by
 obtain⟨h1,h2,h3⟩:=Oper.apart_spec hap;unfold Tm at h;simp only[hj]at h;obtain⟨u,hu,hK⟩:=h;have hu':oI P ops w0 w1 f j oj u a:=hu.of_same (execOp_put oj hsj a oi.dst v h1).symm (wanted_put oj a oi.dst v h1).symm;refine hu'.Tm hj ⟨hy.of_same (execOp_put oi hsi a oj.dst u h3) (wanted_put oi a oj.dst u h3),?_⟩;rw[<-Act.put_comm a v u h2];exact hK
def XL(P:Program)(md:Region.Mode)(ops:Array Oper)(w0 w1:World)(f:Nat)(S:Nat->Array Bool->Act->Prop)(k:Nat):Nat->Array Bool->Act->Prop
 |0,listed,a=>fO k listed=true/\S 0 listed a
 |fuel+1,listed,a=>
  (fO k listed=true->S (fuel+1) listed a)/\
  (fO k listed=false->Region.ready md ops listed≠[]/\∀i∈Region.ready md ops listed,Tm P ops w0 w1 f i (XL P md ops w0 w1 f S k fuel (listed.setIfInBounds i true)) a)
theorem QS{S:Nat->Array Bool->Act->Prop}{k i:Nat}{oi:Oper}{v:Value}(hn:nE md ops k=true)(hik:i<k)(hi:ops[i]?=some oi)(hsel:∀(j:Nat)(o:Oper) cs b,ops[j]?=some o->o.op≠ .select cs b):
 ∀(fuel:Nat)(listed:Array Bool)(a:Act),Down md ops listed->
  (∀j oj,ops[j]?=some oj->j≠i->listed.getD j true=false->(∀e∈oj.after,Region.binds md e=true->e.on≠i)->oi.apart ops oj=true)->
  i∈Region.ready md ops listed->oI P ops w0 w1 f i oi v a->
  XL P md ops w0 w1 f S k fuel (listed.setIfInBounds i true) (a.put oi.dst v)->XL P md ops w0 w1 f S k (fuel+1) listed a:=by
 intro fuel;induction fuel with
 |zero=>
  intro listed a hd _ hr hy H;refine⟨λhu=>(by rw[eU hik hr]at hu;cases hu),λ_=>⟨λe=>(by rw[e]at hr;cases hr),λj hj=>?_⟩⟩;by_cases hji:j=i
  .subst hji;exact hy.Tm hi H
  .have h1:=(kU hn hik hd (bC hr) hj hji).2
   rw[H.1]at h1;cases h1
 |succ fuel ih=>
  intro listed a hd hfree hr hy H;refine⟨λhu=>(by rw[eU hik hr]at hu;cases hu),λ_=>⟨λe=>(by rw[e]at hr;cases hr),λj hj=>?_⟩⟩;by_cases hji:j=i
  .subst hji;exact hy.Tm hi H
  .have h1:=(H.2 (kU hn hik hd (bC hr) hj hji).2).2 j (ready_mono hj hji)
   obtain⟨hjun,oj,hoj,hall⟩:=mem_ready.1 hj;have hnot:∀e∈oj.after,Region.binds md e=true->e.on≠i:=λe he hb heq=>by
    have h2:=hall e he hb;rw[heq,bC hr]at h2;cases h2
   have h2:=aap hoj (hfree j oj hoj hji hjun hnot) (λcs b=>hsel i oi cs b hi) (λcs b=>hsel j oj cs b hoj) hy h1;have hfree':∀k ok,ops[k]?=some ok->k≠i->(listed.setIfInBounds j true).getD k true=false->
    (∀e∈ok.after,Region.binds md e=true->e.on≠i)->oi.apart ops ok=true:=λk ok hk hki hun hno=>by
    refine hfree k ok hk hki ?_ hno;by_cases hjk:j=k
    .subst hjk;exact hjun
    .rw[getD_set_ne true hjk]at hun;exact hun
   refine XK (λa' h3=>ih (listed.setIfInBounds j true) a' (hd.set hj) hfree' (ready_mono hr (Ne.symm hji)) h3.1 ?_) h2;rw[Array.setIfInBounds_comm _ _ hji];exact h3.2
def GY(P:Program)(o:Oper)(a:Act)(w0 w1:World)(next:Act->Prop):Prop:=∃v,(stillUpon w0 v ((execOp a.eval o).run P w0)/\stillUpon w1 v ((execOp a.eval o).run P w1))/\next (a.put o.dst v)
def Tn(P:Program)(ops:Array Oper)(w0 w1:World)(f:Nat)(R:Act->Prop):List Oper->Nat->Act->Prop
 |[],_,a=>R a
 |o::rest,i,a=>
  if i=f then(Region.wanted o (yielded ops a.tmps)=true/\jh w1 ((execOp a.eval o).run P w0))/\Tn P ops w0 w1 f R rest (i+1) (a.put o.dst undef)
  else if Region.wanted o (yielded ops a.tmps)then GY P o a w0 w1 (λa'=>Tn P ops w0 w1 f R rest (i+1) a')else Tn P ops w0 w1 f R rest (i+1) (a.put o.dst undef)
theorem aaq{R:Act->Prop}{i:Nat}{a:Act}(h:R a):Tn P ops w0 w1 f R [] i a:=h
theorem UM{R:Act->Prop}{i:Nat}{a:Act}{o:Oper}{rest:List Oper}(hif:(i==f)=false)
 (h:∀K:Act->Prop,(∀a,Tn P ops w0 w1 f R rest (i+1) a->K a)->if Region.wanted o (yielded ops a.tmps)then GY P o a w0 w1 K else K (a.put o.dst undef)):Tn P ops w0 w1 f R (o::rest) i a:=by
 have h1:=h _ (λ_ h=>h);unfold Tn;rw[if_neg (by simpa using hif)];exact h1
theorem XM{R:Act->Prop}{i:Nat}{a:Act}{o:Oper}{rest:List Oper}(hif:i=f)(hg:o.guard=none)(h1:jh w1 ((execOp a.eval o).run P w0))(h2:Tn P ops w0 w1 f R rest (i+1) (a.put o.dst undef)):Tn P ops w0 w1 f R (o::rest) i a:=by
 have hw:Region.wanted o (yielded ops a.tmps)=true:=by simp[Region.wanted,hg]
 unfold Tn;rw[if_pos hif];exact⟨⟨hw,h1⟩,h2⟩
theorem XO{S:Nat->Array Bool->Act->Prop}{R:Act->Prop}{k m:Nat}(hs:Region.noSelect ops=true)(hn:nE md ops k=true)
 (hS:∀listed a,fO k listed=true->kI.nG md ops (ops.size - k) k listed=true->R a->S m listed a)(is:List Nat):∀(q:Nat)(l:List Oper)(listed:Array Bool)(a:Act),is=(List.range' q l.length)->is.map (λi=>ops[i]?)=l.map some->Down md ops listed->
 nJ md ops k is listed=true->Tn P ops w0 w1 f R l q a->XL P md ops w0 w1 f S k (is.length+m) listed a:=by
 induction is with
 |nil=>
  intro q l listed a hq hl _ hB h;obtain rfl:l=[]:=by
   cases l with
   |nil=>rfl
   |cons x l=>simp at hl
  simp only[nJ,bS]at hB;have h1:=hS listed a hB.1 hB.2 h;rw[kM,pF];cases m with
  |zero=>exact⟨hB.1,h1⟩
  |succ m=>exact⟨λ_=>h1,λe=>(by rw[hB.1]at e;cases e)⟩
 |cons i is ih=>
  intro q l listed a hq hl hd hB h;cases l with
  |nil=>simp at hl
  |cons o l=>
   simp only[gV,List.range'_succ,List.cons.injEq]at hq;obtain⟨rfl,hq⟩:=hq;simp only[kN,List.cons.injEq]at hl;obtain⟨h0,hl⟩:=hl;simp only[nJ,bS,decide_eq_true_eq]at hB;obtain⟨⟨⟨hik,hr⟩,hf⟩,hB'⟩:=hB;have hr':i∈Region.ready md ops listed:=by simpa using hr
   have hst:∃v,oI P ops w0 w1 f i o v a/\Tn P ops w0 w1 f R l (i+1) (a.put o.dst v):=by
    unfold Tn at h;by_cases hif:i=f
    .rw[if_pos hif]at h
     exact⟨undef,.inl ⟨h.1.1,hif,rfl,h.1.2⟩,h.2⟩
    .rw[if_neg hif]at h
     by_cases hw:Region.wanted o (yielded ops a.tmps)=true
     .rw[if_pos hw]at h
      obtain⟨v,⟨h1,h2⟩,h3⟩:=h;exact⟨v,.inr (.inl ⟨hw,hif,h1,h2⟩),h3⟩
     .rw[if_neg hw]at h
      exact⟨undef,.inr (.inr ⟨by simpa using hw,hif,rfl⟩),h⟩
   obtain⟨v,hy,hK⟩:=hst;have ih':=ih (i+1) l (listed.setIfInBounds i true) (a.put o.dst v) hq hl (hd.set hr') hB' hK;have h9:=QS (S:=S) hn hik h0 (Region.noSelect_spec hs) _ listed a hd (Region.free_spec h0 hf) hr' hy ih';have e:(i::is).length+m=is.length+m+1:=by simp;omega
   rw[e];exact h9
def sI(w0 w1:World)(f:Nat)(listed:Array Bool):World:=if listed.getD f false=true then w1 else w0
theorem Dm{i:Nat}{o:Oper}{v:Value}{a:Act}{K':Act->World->Prop}{listed:Array Bool}(hF:jV F P)(ho:ops[i]?=some o)(hd:gM o=true)(hun:listed.getD i false=false)(hsz:i<listed.size)(hy:oI P ops w0 w1 f i o v a)
 (h:K' (a.put o.dst v) (sI w0 w1 f (listed.setIfInBounds i true))):wpOpIn F n P ops Q i K' a (sI w0 w1 f listed):=by
 unfold wpOpIn;simp only[ho];rcases hy with⟨hw,rfl,rfl,ht⟩|⟨hw,hne,hv0,hv1⟩|⟨hw,hne,rfl⟩
 .rw[hw,if_pos rfl]
  refine⟨λf _=>hF.fn f,?_⟩;rw[Oper.semAt_plain F _ _ (fI hd)];have e0:sI w0 w1 i listed=w0:=by unfold sI;rw[hun];rfl
  have e1:sI w0 w1 i (listed.setIfInBounds i true)=w1:=by
   unfold sI;simp[hsz]
  rw[e0];rw[e1]at h;generalize(execOp a.eval o).run P w0=r at*;cases r with
  |ok x w'=>
   cases x<;>simp only[jh]at ht
   subst ht;exact h
  |halt x w'=>simp only[jh]at ht
 .rw[hw,if_pos rfl]
  refine⟨λf _=>hF.fn f,?_⟩;rw[Oper.semAt_plain F _ _ (fI hd)];have e1:sI w0 w1 f (listed.setIfInBounds i true)=sI w0 w1 f listed:=by
   unfold sI;rw[getD_set_ne false hne]
  rw[e1]at h;have hv:stillUpon (sI w0 w1 f listed) v ((execOp a.eval o).run P (sI w0 w1 f listed)):=by
   unfold sI;split
   .exact hv1
   .exact hv0
  generalize(execOp a.eval o).run P (sI w0 w1 f listed)=r at*;cases r with
  |ok x w'=>
   cases x<;>simp only[stillUpon]at hv
   case value u=>
    obtain⟨e1,e2⟩:=hv;subst e1 e2;exact h
   case skip=>
    obtain⟨e1,e2⟩:=hv;subst e1 e2;exact h
  |halt x w'=>simp only[stillUpon]at hv
 .rw[hw,if_neg (by simp)]
  have e1:sI w0 w1 f (listed.setIfInBounds i true)=sI w0 w1 f listed:=by
   unfold sI;rw[getD_set_ne false hne]
  rw[e1]at h;exact⟨λf _=>hF.fn f,h⟩
theorem wK{k:Nat}(hF:jV F P)(hdef:∀(i:Nat) o,ops[i]?=some o->i<k->gM o=true)(hn:nE md ops k=true):∀(fuel:Nat)(listed:Array Bool)(a:Act),listed.size=ops.size->Down md ops listed->
 XL P md ops w0 w1 f (λfuel listed a=>wpAnyIn F n P md ops Q fuel listed a (sI w0 w1 f listed)) k fuel listed a->wpAnyIn F n P md ops Q fuel listed a (sI w0 w1 f listed)
 |0,_,_,_,_,h=>h.2
 |fuel+1,listed,a,hls,hd,h=>by
  cases hu:fO k listed with
  |true=>exact h.1 hu
  |false=>
   obtain⟨hne,hall⟩:=h.2 hu;refine⟨λe=>absurd e hne,λi hi=>?_⟩;have hik:i<k:=by
    rcases iH i k with h1|h1
    .exact h1
    .rw[fE.2 (oF hn hd hi h1)]at hu
     cases hu
   obtain⟨_,o,ho,_⟩:=mem_ready.1 hi;have h1:=hall i hi;unfold Tm at h1;simp only[ho]at h1;obtain⟨v,hy,hK⟩:=h1;have hil:i<listed.size:=by rw[hls];exact(lS.1 ho).1
   refine Dm hF ho (hdef i o ho hik) (bC hi) hil hy ?_;exact wK hF hdef hn fuel _ _ (by simpa using hls) (hd.set hi) hK
theorem GZ{id:Nat}{a:Act}{w w1:World}{l:List Oper}(k f:Nat)(hf:f<k)(hk:k<=l.length)(hm:P.follows .mixedOrders=true)(hB:Tg l.toArray k=true)
 (h:Tn P l.toArray w.drew w1 f (λa'=>wpListIn Fence.wide 0 P l.toArray Q (l.drop k) a' w1) (l.take k) 0 a):(Code.region id l.toArray true).wp P Q a w:=by
 refine(wpIn_wide (n:=0)).1 ?_;simp only[Tg,bS]at hB;obtain⟨⟨⟨hs,hn⟩,hp⟩,hd⟩:=hB;have pO:Down .any l.toArray (Array.replicate l.toArray.size false):=λj hj=>by
  exfalso;rcases iH j l.length with h'|h'
  .simp[h']at hj
  .simp[h']at hj
 refine wpIn_region_any hm ?_;have hlen:(l.take k).length=k:=by simp;omega
 have h1:=XO (md:=.any) (ops:=l.toArray) (P:=P) (w0:=w.drew) (w1:=w1) (f:=f) (S:=λfuel listed a=>wpAnyIn Fence.wide 0 P .any l.toArray Q fuel listed a (sI w.drew w1 f listed)) (k:=k) (m:=l.toArray.size - k) hs hn
  (R:=λa'=>wpListIn Fence.wide 0 P l.toArray Q (l.drop k) a' w1)
  (λlisted a' hu ho h0=>by
   have e1:sI w.drew w1 f listed=w1:=by unfold sI;rw[fE.1 hu f hf];rfl
   rw[e1];have h2:=kS (F:=Fence.wide) (n:=0) (P:=P) (ops:=l.toArray) (Q:=Q) (md:=.any) (l.drop k) k listed a' w1 (λj=>by simp) (by simpa using ho) h0;simpa using h2)
  (List.range' 0 k) 0 (l.take k) (Array.replicate l.toArray.size false) a (by rw[hlen]) (by
   apply lX;intro j;rw[gK,gK,lT];by_cases hj:j<k
   .rw[List.getElem?_range' hj,if_pos hj]
    have:j<l.length:=by omega
    simp[this]
   .rw[if_neg hj,mX (by simp;omega)]
    rfl) pO hp h
 rw[show(List.range' 0 k).length+(l.toArray.size - k)=l.toArray.size by simp;omega]at h1;have h3:=wK (jV.wide P) (λi o ho hi=>?_) hn _ _ _ (by simp) pO h1
 .have e0:sI w.drew w1 f (Array.replicate l.toArray.size false)=w.drew:=by
   unfold sI;rw[if_neg];intro hc;have:(Array.replicate l.toArray.size false).getD f false=false:=by
    rcases iH f l.length with h'|h'
    .simp[h']
    .simp[h']
   rw[this]at hc;cases hc
  rw[e0]at h3;exact h3
 .have h2:=fV.1 hd o
  refine h2 ?_;rw[jW];exact⟨i,by rw[lT,if_pos hi];simpa using ho⟩
end
end
section
open Go.RowKit
section
variable {F:Fence} {n:Nat} {P:Program} {ops:Array Oper} {md:Region.Mode} {W0:World} {Q:Exit->Act->World->Prop} {mk:Nat->Option bP} {dep:Nat->List Nat} {ds:List Nat} {Pr:Nat->Nat->Value->Value->Prop}
def KD(mk:Nat->Option bP)(ds:List Nat)(Pr:Nat->Nat->Value->Value->Prop)(i:Nat)(z:World)(v:Value):Prop:=
 i∈ds->∀p∈ds,p≠i->∀sp,mk p=some sp->∀u,sp.S u z->Pr p i u v/\Pr i p v u
def xW(ops:Array Oper)(mk:Nat->Option bP)(ds:List Nat)(Pr:Nat->Nat->Value->Value->Prop)(listed:Nat->Bool)(a:Act):Prop:=
 ∀p∈ds,∀q∈ds,p≠q->listed p=true->listed q=true->∀sp,mk p=some sp->∀sq,mk q=some sq->∀op oq tp tq,ops[p]?=some op->op.dst=some tp->ops[q]?=some oq->oq.dst=some tq->Pr p q (a.tmps.getD tp undef) (a.tmps.getD tq undef)
def N8(sp:bP)(G:Value->Prop):bP:=⟨λv=>sp.V v/\G v,sp.S⟩
theorem Tp{i k p:Nat}{o o':Oper}{t:Tmp}{a:Act}{v:Value}(hdp:sJ ops k ds dep=true)(hik:i<k)(ho:ops[i]?=some o)(hbn:EX ops ds a)(hp:p∈ds)(ho':ops[p]?=some o')(ht:o'.dst=some t):
 (p=i->(a.put o.dst v).tmps.getD t undef=v)/\(p≠i->(a.put o.dst v).tmps.getD t undef=a.tmps.getD t undef):=by
 constructor
 .rintro rfl
  rw[ho]at ho';cases ho'
  have hb:=hbn p hp o t ho ht;rw[ht];simp[Act.put,hb]
 .intro e
  have h2:=(lM hdp).2.1 p hp i hik (λh=>e h.symm) o' t o ho' ht ho;cases hd:o.dst with
  |none=>rfl
  |some d=>
   have hne:d≠t:=λh=>h2 (by rw[hd,h]);simp[Act.put,Array.getElem?_setIfInBounds_ne hne]
theorem KE{i k:Nat}{o:Oper}{a:Act}{v:Value}{z:World}{listed:Array Bool}(hdp:sJ ops k ds dep=true)(hik:i<k)(ho:ops[i]?=some o)(hbn:EX ops ds a)(hfa:AB ops mk ds listed a z)(hpa:xW ops mk ds Pr (λp=>listed.getD p false) a)
 (hv:∀si,mk i=some si->KD mk ds Pr i z v):xW ops mk ds Pr (λp=>(listed.setIfInBounds i true).getD p false) (a.put o.dst v):=by
 intro p hp q hq hne hlp hlq sp hsp sq hsq op oq tp tq hop htp hoq htq;have gp:=Tp (v:=v) hdp hik ho hbn hp hop htp;have gq:=Tp (v:=v) hdp hik ho hbn hq hoq htq;by_cases e1:p=i
 .subst e1
  have e2:q≠p:=λh=>hne h.symm;rw[gp.1 rfl,gq.2 e2];simp only[getD_set_ne false (λh=>e2 h.symm)]at hlq;exact(hv sp hsp hp q hq e2 sq hsq _ (hfa q hq hlq sq hsq oq tq hoq htq)).2
 .rw[gp.2 e1]
  simp only[getD_set_ne false (λh=>e1 h.symm)]at hlp;by_cases e2:q=i
  .subst e2
   rw[gq.1 rfl];exact(hv sq hsq hq p hp e1 sp hsp _ (hfa p hp hlp sp hsp op tp hop htp)).1
  .rw[gq.2 e2]
   simp only[getD_set_ne false (λh=>e2 h.symm)]at hlq;exact hpa p hp q hq hne hlp hlq sp hsp sq hsq op oq tp tq hop htp hoq htq
def je(P:Program)(ops:Array Oper)(W0:World)(mk:Nat->Option bP)(dep:Nat->List Nat)(ds:List Nat)(Pr:Nat->Nat->Value->Value->Prop)(i:Nat)(o:Oper)(sp:bP)(a:Act):Prop:=
 (Region.wanted o (yielded ops a.tmps)=true/\mk i=some sp/\(∃v,sp.V v)/\∀z:Bl W0,uf ops mk dep i a z.val->bM P z.val (N8 sp (KD mk ds Pr i z.val)) ((execOp a.eval o).run P z.val))\/
 (Region.wanted o (yielded ops a.tmps)=true/\mk i=none/\∃u,sp=one u/\∀z:Bl W0,stillUpon z.val u ((execOp a.eval o).run P z.val))\/
 (Region.wanted o (yielded ops a.tmps)=false/\sp=one undef)
theorem je.unique{i:Nat}{o:Oper}{sp sp':bP}{a:Act}(h:je P ops W0 mk dep ds Pr i o sp a)(h':je P ops W0 mk dep ds Pr i o sp' a):sp=sp':=by
 rcases h with⟨h1,h2,_,_⟩|⟨h1,h2,u,rfl,h4⟩|⟨h1,rfl⟩
 .rcases h' with⟨_,h3,_,_⟩|⟨_,h3,_⟩|⟨h3,_⟩
  .rw[h2]at h3;injection h3
  .rw[h2]at h3;cases h3
  .rw[h1]at h3;cases h3
 .rcases h' with⟨_,h3,_⟩|⟨_,h3,v,rfl,h5⟩|⟨h3,_⟩
  .rw[h2]at h3;cases h3
  .rw[uP (h4 default) (h5 default)]
  .rw[h1]at h3;cases h3
 .rcases h' with⟨h3,_⟩|⟨h3,_⟩|⟨_,h4⟩
  .rw[h1]at h3;cases h3
  .rw[h1]at h3;cases h3
  .exact h4.symm
theorem je.ex{i:Nat}{o:Oper}{sp:bP}{a:Act}(h:je P ops W0 mk dep ds Pr i o sp a):∃v,sp.V v:=by
 rcases h with⟨_,_,h3,_⟩|⟨_,_,u,rfl,_⟩|⟨_,rfl⟩
 .exact h3
 .exact⟨u,rfl⟩
 .exact⟨undef,rfl⟩
theorem je.of_same{i:Nat}{o:Oper}{sp:bP}{a a':Act}(hy:je P ops W0 mk dep ds Pr i o sp a)(he:execOp a'.eval o=execOp a.eval o)(hw:Region.wanted o (yielded ops a'.tmps)=Region.wanted o (yielded ops a.tmps))(hp:∀z,uf ops mk dep i a' z->uf ops mk dep i a z):je P ops W0 mk dep ds Pr i o sp a':=by
 unfold je at*;rw[he,hw];rcases hy with⟨h1,h2,h3,h4⟩|h
 .exact .inl ⟨h1,h2,h3,λz hz=>h4 z (hp _ hz)⟩
 .exact .inr h
def QT(P:Program)(ops:Array Oper)(W0:World)(mk:Nat->Option bP)(dep:Nat->List Nat)(ds:List Nat)(Pr:Nat->Nat->Value->Value->Prop)(i:Nat)(K:Act->(World->Prop)->Prop)(a:Act)(Φ:World->Prop):Prop:=
 match ops[i]? with
 |none=>K a Φ
 |some o=>∃sp,je P ops W0 mk dep ds Pr i o sp a/\∀v,sp.V v->K (a.put o.dst v) (λz=>Φ z/\sp.S v z)
theorem XP{i:Nat}{a:Act}{Φ:World->Prop}{K K':Act->(World->Prop)->Prop}(h:∀a Φ,K a Φ->K' a Φ)(hh:QT P ops W0 mk dep ds Pr i K a Φ):QT P ops W0 mk dep ds Pr i K' a Φ:=by
 unfold QT at*;split
 .exact h _ _ (by simpa [*]using hh)
 .rename_i o ho
  simp only[ho]at hh;obtain⟨sp,h1,h2⟩:=hh;exact⟨sp,h1,λv hv=>h _ _ (h2 v hv)⟩
theorem je.QT{i:Nat}{o:Oper}{sp:bP}{a:Act}{Φ:World->Prop}(hi:ops[i]?=some o)(hy:je P ops W0 mk dep ds Pr i o sp a){K:Act->(World->Prop)->Prop}(h:∀v,sp.V v->K (a.put o.dst v) (λz=>Φ z/\sp.S v z)):QT P ops W0 mk dep ds Pr i K a Φ:=by
 unfold Go.Proofs.YtpmdedcnbockhaaGreatDoor.QT;simp only[hi];exact⟨sp,hy,h⟩
theorem aar{i j k:Nat}{oi oj:Oper}{sp:bP}(hB:sJ ops k ds dep=true)(hi:ops[i]?=some oi)(hik:i<k)(hjk:j<k)(hj:ops[j]?=some oj)(hap:oi.apart ops oj=true)(hsi:∀cs b,oi.op≠ .select cs b)(hsj:∀cs b,oj.op≠ .select cs b){K:Act->(World->Prop)->Prop}{a:Act}{Φ:World->Prop}
 (hy:je P ops W0 mk dep ds Pr i oi sp a)(h:∀v,sp.V v->QT P ops W0 mk dep ds Pr j K (a.put oi.dst v) (λz=>Φ z/\sp.S v z)):
 QT P ops W0 mk dep ds Pr j (λa' zP=>je P ops W0 mk dep ds Pr i oi sp a'/\∀v,sp.V v->K (a'.put oi.dst v) (λz=>zP z/\sp.S v z)) a Φ:=by
 obtain⟨h1,h2,h3⟩:=Oper.apart_spec hap;have hg:∀v,sp.V v->∃sj,je P ops W0 mk dep ds Pr j oj sj a/\∀u,sj.V u->K ((a.put oi.dst v).put oj.dst u) (λz=>(Φ z/\sp.S v z)/\sj.S u z):=λv hv=>by
  have h4:=h v hv;unfold QT at h4;simp only[hj]at h4;obtain⟨sj,h5,h6⟩:=h4;exact⟨sj,h5.of_same (execOp_put oj hsj a oi.dst v h1).symm (wanted_put oj a oi.dst v h1).symm (λz hz=>(FJ hB hj hjk h1 z).2 hz),h6⟩
 obtain⟨v0,hv0⟩:=hy.ex;obtain⟨sj,XF,_⟩:=hg v0 hv0;refine XF.QT hj (λu hu=>⟨hy.of_same (execOp_put oi hsi a oj.dst u h3) (wanted_put oi a oj.dst u h3) (λz hz=>(FJ hB hi hik h3 z).1 hz),λv hv=>?_⟩);obtain⟨sj',hs',hK⟩:=hg v hv;obtain rfl:=hs'.unique XF;have hK':=hK u hu;rw[Act.put_comm a v u h2]at hK';rw[show(λz=>(Φ z/\sj'.S u z)/\sp.S v z)=(λz=>(Φ z/\sp.S v z)/\sj'.S u z)from funext λz=>propext and_right_comm];exact hK'
def UN(P:Program)(md:Region.Mode)(ops:Array Oper)(W0:World)(mk:Nat->Option bP)(dep:Nat->List Nat)(ds:List Nat)(Pr:Nat->Nat->Value->Value->Prop)(S:Nat->Array Bool->Act->(World->Prop)->Prop)(k:Nat):Nat->Array Bool->Act->(World->Prop)->Prop
 |0,listed,a,Φ=>fO k listed=true/\S 0 listed a Φ
 |fuel+1,listed,a,Φ=>
  (fO k listed=true->S (fuel+1) listed a Φ)/\
  (fO k listed=false->Region.ready md ops listed≠[]/\∀i∈Region.ready md ops listed,i<k->QT P ops W0 mk dep ds Pr i (UN P md ops W0 mk dep ds Pr S k fuel (listed.setIfInBounds i true)) a Φ)
theorem QU{S:Nat->Array Bool->Act->(World->Prop)->Prop}{k i:Nat}{oi:Oper}{sp:bP}(hB:sJ ops k ds dep=true)(hik:i<k)(hi:ops[i]?=some oi)(hsel:∀(j:Nat)(o:Oper) cs b,ops[j]?=some o->o.op≠ .select cs b):
 ∀(fuel:Nat)(listed:Array Bool)(a:Act)(Φ:World->Prop),Down md ops listed->
  (∀j oj,ops[j]?=some oj->j≠i->listed.getD j true=false->(∀e∈oj.after,Region.binds md e=true->e.on≠i)->oi.apart ops oj=true)->
  i∈Region.ready md ops listed->je P ops W0 mk dep ds Pr i oi sp a->
  (∀v,sp.V v->UN P md ops W0 mk dep ds Pr S k fuel (listed.setIfInBounds i true) (a.put oi.dst v) (λz=>Φ z/\sp.S v z))->UN P md ops W0 mk dep ds Pr S k (fuel+1) listed a Φ:=by
 intro fuel;induction fuel with
 |zero=>
  intro listed a Φ hd _ hr hy H;refine⟨λhu=>(by rw[eU hik hr]at hu;cases hu),λ_=>⟨λe=>(by rw[e]at hr;cases hr),λj hj hjk=>?_⟩⟩;by_cases hji:j=i
  .subst hji;exact hy.QT hi H
  .have h1:=eU hjk (ready_mono hj hji)
   obtain⟨v,hv⟩:=hy.ex;rw[(H v hv).1]at h1;cases h1
 |succ fuel ih=>
  intro listed a Φ hd hfree hr hy H;refine⟨λhu=>(by rw[eU hik hr]at hu;cases hu),λ_=>⟨λe=>(by rw[e]at hr;cases hr),λj hj hjk=>?_⟩⟩;by_cases hji:j=i
  .subst hji;exact hy.QT hi H
  .have h1:=λv hv=>((H v hv).2 (eU hjk (ready_mono hj hji))).2 j (ready_mono hj hji) hjk
   obtain⟨hjun,oj,hoj,hall⟩:=mem_ready.1 hj;have hnot:∀e∈oj.after,Region.binds md e=true->e.on≠i:=λe he hb heq=>by
    have h2:=hall e he hb;rw[heq,bC hr]at h2;cases h2
   have h2:=aar hB hi hik hjk hoj (hfree j oj hoj hji hjun hnot) (λcs b=>hsel i oi cs b hi) (λcs b=>hsel j oj cs b hoj) hy h1;have hfree':∀k ok,ops[k]?=some ok->k≠i->(listed.setIfInBounds j true).getD k true=false->
    (∀e∈ok.after,Region.binds md e=true->e.on≠i)->oi.apart ops ok=true:=λk ok hk hki hun hno=>by
    refine hfree k ok hk hki ?_ hno;by_cases hjk:j=k
    .subst hjk;exact hjun
    .rw[getD_set_ne true hjk]at hun;exact hun
   refine XP (λa' zP h3=>ih (listed.setIfInBounds j true) a' zP (hd.set hj) hfree' (ready_mono hr (Ne.symm hji)) h3.1 ?_) h2;intro v hv;rw[Array.setIfInBounds_comm _ _ hji];exact h3.2 v hv
def QV(P:Program)(ops:Array Oper)(W0:World)(mk:Nat->Option bP)(dep:Nat->List Nat)(ds:List Nat)(Pr:Nat->Nat->Value->Value->Prop)(R:Act->(World->Prop)->Prop):List Oper->Nat->Act->(World->Prop)->Prop
 |[],_,a,Φ=>R a Φ
 |o::rest,i,a,Φ=>
  if Region.wanted o (yielded ops a.tmps)then
   (match mk i with
    |some sp=>((∃v,sp.V v)/\∀z:Bl W0,uf ops mk dep i a z.val->bM P z.val (N8 sp (KD mk ds Pr i z.val)) ((execOp a.eval o).run P z.val))/\∀v,sp.V v->QV P ops W0 mk dep ds Pr R rest (i+1) (a.put o.dst v) (λz=>Φ z/\sp.S v z)
    |none=>kD P o a W0 (λa'=>QV P ops W0 mk dep ds Pr R rest (i+1) a' Φ))
  else QV P ops W0 mk dep ds Pr R rest (i+1) (a.put o.dst undef) Φ
theorem aas{R:Act->(World->Prop)->Prop}{i:Nat}{a:Act}{Φ:World->Prop}(h:R a Φ):QV P ops W0 mk dep ds Pr R [] i a Φ:=h
theorem zw{R:Act->(World->Prop)->Prop}{i:Nat}{a:Act}{Φ:World->Prop}{o:Oper}{rest:List Oper}(hmk:mk i=none)
 (h:∀K:Act->Prop,(∀a,QV P ops W0 mk dep ds Pr R rest (i+1) a Φ->K a)->if Region.wanted o (yielded ops a.tmps)then kD P o a W0 K else K (a.put o.dst undef)):QV P ops W0 mk dep ds Pr R (o::rest) i a Φ:=by
 have h1:=h _ (λ_ h=>h);unfold QV;rw[hmk];exact h1
theorem G5{R:Act->(World->Prop)->Prop}{i:Nat}{a:Act}{Φ:World->Prop}{o:Oper}{rest:List Oper}(sp:bP)(hmk:mk i=some sp)(hg:o.guard=none)
 (h0:∃v,sp.V v)(h1:∀z:Bl W0,uf ops mk dep i a z.val->bM P z.val (N8 sp (KD mk ds Pr i z.val)) ((execOp a.eval o).run P z.val))(h2:∀v,sp.V v->QV P ops W0 mk dep ds Pr R rest (i+1) (a.put o.dst v) (λz=>Φ z/\sp.S v z)):QV P ops W0 mk dep ds Pr R (o::rest) i a Φ:=by
 have hw:Region.wanted o (yielded ops a.tmps)=true:=by simp[Region.wanted,hg]
 unfold QV;rw[hmk,if_pos hw];exact⟨⟨h0,h1⟩,h2⟩
theorem XQ{S:Nat->Array Bool->Act->(World->Prop)->Prop}{R:Act->(World->Prop)->Prop}{k m:Nat}(hdp:sJ ops k ds dep=true)(hs:Region.noSelect ops=true)
 (hR:∀(a:Act)(Φ zP:World->Prop),(∀z,zP z->Φ z)->R a Φ->R a zP)
 (hS:∀listed a Φ,fO k listed=true->kI.nG md ops (ops.size - k) k listed=true->R a Φ->S m listed a Φ)(is:List Nat):∀(q:Nat)(l:List Oper)(listed:Array Bool)(a:Act)(Φ zP:World->Prop),is=(List.range' q l.length)->is.map (λi=>ops[i]?)=l.map some->Down md ops listed->
 nJ md ops k is listed=true->(∀z,zP z->Φ z)->QV P ops W0 mk dep ds Pr R l q a Φ->UN P md ops W0 mk dep ds Pr S k (is.length+m) listed a zP:=by
 induction is with
 |nil=>
  intro q l listed a Φ zP hq hl _ hB Eu h;obtain rfl:l=[]:=by
   cases l with
   |nil=>rfl
   |cons x l=>simp at hl
  simp only[nJ,bS]at hB;have h1:=hS listed a zP hB.1 hB.2 (hR _ _ _ Eu h);rw[kM,pF];cases m with
  |zero=>exact⟨hB.1,h1⟩
  |succ m=>exact⟨λ_=>h1,λe=>(by rw[hB.1]at e;cases e)⟩
 |cons i is ih=>
  intro q l listed a Φ zP hq hl hd hB Eu h;cases l with
  |nil=>simp at hl
  |cons o l=>
   simp only[gV,List.range'_succ,List.cons.injEq]at hq;obtain⟨rfl,hq⟩:=hq;simp only[kN,List.cons.injEq]at hl;obtain⟨h0,hl⟩:=hl;simp only[nJ,bS,decide_eq_true_eq]at hB;obtain⟨⟨⟨hik,hr⟩,hf⟩,hB'⟩:=hB;have hr':i∈Region.ready md ops listed:=by simpa using hr
   have hst:∃sp,je P ops W0 mk dep ds Pr i o sp a/\∀v,sp.V v->∃Φ2:World->Prop,(∀z,zP z/\sp.S v z->Φ2 z)/\QV P ops W0 mk dep ds Pr R l (i+1) (a.put o.dst v) Φ2:=by
    unfold QV at h;by_cases hw:Region.wanted o (yielded ops a.tmps)=true
    .rw[if_pos hw]at h
     cases hm:mk i with
     |none=>
      rw[hm]at h;obtain⟨u,h1,h2⟩:=h;refine⟨one u,.inr (.inl ⟨hw,hm,u,rfl,h1⟩),?_⟩;rintro v rfl;exact⟨Φ,λz hz=>Eu z hz.1,h2⟩
     |some sp=>
      rw[hm]at h;exact⟨sp,.inl ⟨hw,hm,h.1.1,h.1.2⟩,λv hv=>⟨_,λz hz=>⟨Eu z hz.1,hz.2⟩,h.2 v hv⟩⟩
    .rw[if_neg hw]at h
     refine⟨one undef,.inr (.inr ⟨by simpa using hw,rfl⟩),?_⟩;rintro v rfl;exact⟨Φ,λz hz=>Eu z hz.1,h⟩
   obtain⟨sp,hy,hK⟩:=hst;have ih':∀v,sp.V v->UN P md ops W0 mk dep ds Pr S k (is.length+m) (listed.setIfInBounds i true) (a.put o.dst v) (λz=>zP z/\sp.S v z):=λv hv=>by
    obtain⟨Φ2,h1,h2⟩:=hK v hv;exact ih (i+1) l (listed.setIfInBounds i true) (a.put o.dst v) Φ2 _ hq hl (hd.set hr') hB' h1 h2
   have h9:=QU (S:=S) hdp hik h0 (Region.noSelect_spec hs) _ listed a zP hd (Region.free_spec h0 hf) hr' hy ih';have e:(i::is).length+m=is.length+m+1:=by simp;omega
   rw[e];exact h9
theorem Dn{i:Nat}{o:Oper}{sp:bP}{a:Act}{K':Act->World->Prop}(hF:jV F P)(ho:ops[i]?=some o)(hd:gM o=true)(z:Bl W0)(hy:je P ops W0 mk dep ds Pr i o sp a)(hpre:uf ops mk dep i a z.val)(hgd:i∈ds->o.guard=none)
 (h:∀v,sp.V v->(∀si,mk i=some si->KD mk ds Pr i z.val v)->∀z':Bl W0,Below z.val.heap.size z.val z'.val->sp.S v z'.val->K' (a.put o.dst v) z'.val):wpOpIn F n P ops Q i K' a z.val:=by
 unfold wpOpIn;simp only[ho];rcases hy with⟨hw,_,_,hv⟩|⟨hw,hnn,u,rfl,hv⟩|⟨hw,rfl⟩
 .rw[hw,if_pos rfl]
  refine⟨λf _=>hF.fn f,?_⟩;rw[Oper.semAt_plain F _ _ (fI hd)];have h3:=hv z hpre;generalize(execOp a.eval o).run P z.val=r at*;cases r with
  |ok x w'=>
   cases x<;>simp only[bM,N8]at h3
   case value u=>exact h u h3.1.1 (λ_ _=>h3.1.2) ⟨w',av z.prop h3.2.2⟩ h3.2.2 h3.2.1
   case enter f args=>
    obtain⟨e1,hc⟩:=h3;subst e1;refine⟨λe=>(by rw[hF.depth]at e;cases e),(hF.calls _ _ _ _ _ hc).mono ?_⟩;rintro e w'' ⟨v,rfl,h4,h5,h6⟩;exact h v h4.1 (λ_ _=>h4.2) ⟨w'',av z.prop h6⟩ h6 h5
  |halt x w'=>simp only[bM]at h3
 .rw[hw,if_pos rfl]
  refine⟨λf _=>hF.fn f,?_⟩;rw[Oper.semAt_plain F _ _ (fI hd)];have h3:=hv z;generalize(execOp a.eval o).run P z.val=r at*;cases r with
  |ok x w'=>
   cases x<;>simp only[stillUpon]at h3
   case value u=>
    obtain⟨e1,e2⟩:=h3;subst e1 e2;exact h _ rfl (λsi hsi=>by rw[hnn]at hsi;cases hsi) z (aC _ _) trivial
   case skip=>
    obtain⟨e1,e2⟩:=h3;subst e1 e2;exact h _ rfl (λsi hsi=>by rw[hnn]at hsi;cases hsi) z (aC _ _) trivial
  |halt x w'=>simp only[stillUpon]at h3
 .rw[hw,if_neg (by simp)]
  exact⟨λf _=>hF.fn f,h _ rfl (λ_ _ hds=>by rw[Region.wanted,hgd hds]at hw;simp at hw) z (aC _ _) trivial⟩
theorem je.keeps{i:Nat}{o:Oper}{sp:bP}{a:Act}(hy:je P ops W0 mk dep ds Pr i o sp a)(hk:∀i sp,mk i=some sp->sp.Keeps):sp.Keeps:=by
 rcases hy with⟨_,h,_⟩|⟨_,_,u,rfl,_⟩|⟨_,rfl⟩
 .exact hk i sp h
 .exactλ_ _ _ _ _=>trivial
 .exactλ_ _ _ _ _=>trivial
theorem je.LG{i:Nat}{o:Oper}{sp sp':bP}{a:Act}(h:je P ops W0 mk dep ds Pr i o sp a)(hw:mk i=some sp'):Region.wanted o (yielded ops a.tmps)=true->sp=sp':=λhx=>by
 rcases h with⟨_,h2,_,_⟩|⟨_,h2,_⟩|⟨h2,_⟩
 .rw[hw]at h2;injection h2 with h2;exact h2.symm
 .rw[hw]at h2;cases h2
 .rw[hx]at h2;cases h2
theorem qy{k:Nat}(hF:jV F P)(hdef:∀(i:Nat) o,ops[i]?=some o->i<k->gM o=true){X:List Nat}(hn:AJ ops k X=true)(hsel:Region.noSelect ops=true)(hfx:GN ops X=true)(hmx:∀e∈X,mk e=none)(hro:X=[]\/F.round=none)(hQ:∀e∈X,∀(o:Oper)(v:Value) c a w,ops[e]?=some o->Q (.panic c) (a.put o.dst v) w->Q (.panic c) a w)(hk:∀i sp,mk i=some sp->sp.Keeps)(hdp:sJ ops k ds dep=true):∀(fuel:Nat)(listed:Array Bool)(a:Act)(Φ:World->Prop)(z:Bl W0),Down .any ops listed->listed.size=ops.size->EX ops ds a->(∀p∈ds,p<k)->xW ops mk ds Pr (λp=>listed.getD p false) a->AB ops mk ds listed a z.val->(∀z z',Φ z->Below z.heap.size z z'->Φ z')->Φ z.val->
 UN P .any ops W0 mk dep ds Pr (λfuel listed a Φ=>xW ops mk ds Pr (λ_=>true) a->∀z:Bl W0,Φ z.val->wpAnyIn F n P .any ops Q fuel listed a z.val) k fuel listed a Φ->wpAnyIn F n P .any ops Q fuel listed a z.val
 |0,_,_,_,z,_,_,_,hkd,hpa,_,_,hz,h=>h.2 (λp hp q hq hne _ _=>hpa p hp q hq hne (fE.1 h.1 p (hkd p hp)) (fE.1 h.1 q (hkd q hq))) z hz
 |fuel+1,listed,a,Φ,z,hd,hls,hbn,hkd,hpa,hfa,Eu,hz,h=>by
  have hd':=hd;cases hu:fO k listed with
  |true=>exact h.1 hu (λp hp q hq hne _ _=>hpa p hp q hq hne (fE.1 hu p (hkd p hp)) (fE.1 hu q (hkd q hq))) z hz
  |false=>
   obtain⟨hne,hall⟩:=h.2 hu;by_cases hx:∃e∈X,e∈Region.ready .any ops listed
   .obtain⟨e,Qd,her⟩:=hx
    obtain⟨hek,o,ho,_⟩:=sU hn Qd;obtain⟨hpu,hap⟩:=Et hfx Qd ho;have hroF:F.round=none:=by
     rcases hro with h|h
     .rw[h]at Qd;cases Qd
     .exact h
    have h1:=hall e her hek;unfold QT at h1;simp only[ho]at h1;obtain⟨sp,hy,hK⟩:=h1;have hil:e<listed.size:=by rw[hls];exact(lS.1 ho).1
    have hwd:Region.wanted o (yielded ops a.tmps)=true:=by
     simp only[Dh,bS,Option.isNone_iff_eq_none]at hpu;simp[Region.wanted,hpu.1]
    rcases hy with⟨_,h2,_⟩|⟨_,_,u,rfl,h4⟩|⟨h2,_⟩
    .rw[hmx e Qd]at h2;cases h2
    .refine wpAnyIn_first hroF ho (Region.noSelect_spec hsel) (λc a w=>hQ e Qd o u c a w ho) fuel listed a z.val (λj oj hj hne hun hno=>?_) her (Es hpu (h4 z)) ?_
     .rcases hap j oj hj hne with h5|h5|h5
      .obtain⟨d,hd1,hd2,hd3⟩:=Ah hj h5
       exact absurd hd3 (hno d hd1 hd2)
      .have h6:=kR h5 her
       have h7:j<listed.size:=by rw[hls];exact(lS.1 hj).1
       simp[h7]at h6 hun;rw[h6]at hun;cases hun
      .exact h5
     .exact qy hF hdef hn hsel hfx hmx hro hQ hk hdp fuel _ _ _ z (hd.set her) (by simpa using hls) (λp hp o' t ho' ht=>by
       have h5:=hbn p hp o' t ho' ht;cases hdst:o.dst with
       |none=>exact h5
       |some d=>simp only[Act.put,Array.size_setIfInBounds];exact h5) hkd (KE hdp hek ho hbn hfa hpa (λsi hsi=>by rw[hmx e Qd]at hsi;cases hsi)) (KA hdp hek ho hil hbn hfa hk (aC _ _) (λsp' hsp=>by rw[hmx e Qd]at hsp;cases hsp)) (λx y hx hxy=>⟨Eu x y hx.1 hxy,trivial⟩) ⟨hz,trivial⟩ (hK u rfl)
    .rw[hwd]at h2;cases h2
   .refine⟨λe=>absurd e hne,λi hi=>?_⟩
    have hik:i<k:=by
     rcases iH i k with h1|h1
     .exact h1
     .have XH:fO k listed=true:=fE.2 (λq hq=>by
       by_cases hqX:q∈X
       .obtain⟨_,oq,hoq,QO⟩:=sU hn hqX
        by_cases XI:listed.getD q false=true
        .exact XI
        .exfalso
         refine hx ⟨q,hqX,mem_ready.2 ⟨?_,oq,hoq,λd hd hb=>?_⟩⟩
         .have h7:q<listed.size:=by rw[hls];exact(lS.1 hoq).1
          simp[h7]at XI⊢;exact XI
         .obtain⟨h8,h9⟩:=QO d hd hb
          exact sS hn hd' hi h1 _ h8 h9
       .exact sS hn hd' hi h1 q hq hqX)
      rw[XH]at hu;cases hu
    obtain⟨_,o,ho,_⟩:=mem_ready.1 hi;have h1:=hall i hi hik;unfold QT at h1;simp only[ho]at h1;obtain⟨sp,hy,hK⟩:=h1;have hks:=hy.keeps hk;have hil:i<listed.size:=by rw[hls];exact(lS.1 ho).1
    have hpre:uf ops mk dep i a z.val:=λp hp sp' hsp o' t ho' ht=>by
     have hm:=(lM hdp).1 i hik p hp o' t o ho' ht ho;exact hfa p hm.1 (wJ hm.2.1 hi) sp' hsp o' t ho' ht
    refine Dn hF ho (hdef i o ho hik) z hy hpre (λhds=>(lM hdp).2.2 i hds o ho) (λv hv hpd z' hz' hS=>?_);exact qy hF hdef hn hsel hfx hmx hro hQ hk hdp fuel _ _ _ z' (hd.set hi) (by simpa using hls) (λp hp o' t ho' ht=>by
     have h5:=hbn p hp o' t ho' ht;cases hdst:o.dst with
     |none=>exact h5
     |some d=>simp only[Act.put,Array.size_setIfInBounds];exact h5) hkd (KE hdp hik ho hbn hfa hpa hpd) (KA hdp hik ho hil hbn hfa hk hz' (λsp' hsp hds=>by
      have e:=hy.LG hsp (by simp[Region.wanted,(lM hdp).2.2 i hds o ho]);rw[e]at hS;exact hS)) (λx y hx hxy=>⟨Eu x y hx.1 hxy,hks v x y hx.2 hxy⟩) ⟨Eu _ _ hz hz',hS⟩ (hK v hv)
theorem Dp{id:Nat}{a:Act}{s:Bl W0}{l:List Oper}(k:Nat)(mk:Nat->Option bP)(dep:Nat->List Nat)(ds X:List Nat)(Pr:Nat->Nat->Value->Value->Prop)(hF:jV F P)(hk:k<=l.length)(hm:P.follows .mixedOrders=true)(hB:uh l.toArray k X=true)(hmx:∀e∈X,mk e=none)(hro:X=[]\/F.round=none)(hQ:∀e∈X,∀(o:Oper)(v:Value) c a w,l.toArray[e]?=some o->Q (.panic c) (a.put o.dst v) w->Q (.panic c) a w)(hdp:sJ l.toArray k ds dep=true)(hbd:EX l.toArray ds a)(hks:∀i sp,mk i=some sp->sp.Keeps)(hkd:∀p∈ds,p<k)
 (h:QV P l.toArray W0 mk dep ds Pr (λa' Φ=>xW l.toArray mk ds Pr (λ_=>true) a'->∀z:Bl W0,Φ z.val->wpListIn F n P l.toArray Q (l.drop k) a' z.val) (l.take k) 0 a (λ_=>True)):(Code.region id l.toArray true).wpIn F n P Q a s.val:=by
 simp only[uh,bS]at hB;obtain⟨⟨⟨⟨hs,hn⟩,hfx⟩,hp⟩,hd⟩:=hB;have pO:Down .any l.toArray (Array.replicate l.toArray.size false):=λj hj=>by
  exfalso;rcases iH j l.length with h'|h'
  .simp[h']at hj
  .simp[h']at hj
 refine wpIn_region_any hm ?_;have hlen:(l.take k).length=k:=by simp;omega
 have h1:=XQ (md:=.any) (ops:=l.toArray) (P:=P) (W0:=W0) (mk:=mk) (dep:=dep) (S:=λfuel listed a Φ=>xW l.toArray mk ds Pr (λ_=>true) a->∀z:Bl W0,Φ z.val->wpAnyIn F n P .any l.toArray Q fuel listed a z.val) (k:=k) (m:=l.toArray.size - k) hdp hs
  (R:=λa' Φ=>xW l.toArray mk ds Pr (λ_=>true) a'->∀z:Bl W0,Φ z.val->wpListIn F n P l.toArray Q (l.drop k) a' z.val)
  (λa Φ zP Eu hr hpp z hz=>hr hpp z (Eu _ hz))
  (λlisted a' Φ hu ho h0 hpp z hz=>by
   have h2:=kS (F:=F) (n:=n) (P:=P) (ops:=l.toArray) (Q:=Q) (md:=.any) (l.drop k) k listed a' z.val (λj=>by simp) (by simpa using ho) (h0 hpp z hz);simpa using h2)
  (List.range' 0 k) 0 (l.take k) (Array.replicate l.toArray.size false) a (λ_=>True) (λ_=>True) (by rw[hlen]) (by
   apply lX;intro j;rw[gK,gK,lT];by_cases hj:j<k
   .rw[List.getElem?_range' hj,if_pos hj]
    have:j<l.length:=by omega
    simp[this]
   .rw[if_neg hj,mX (by simp;omega)]
    rfl) pO hp (λ_ h=>h) h
 rw[show(List.range' 0 k).length+(l.toArray.size - k)=l.toArray.size by simp;omega]at h1;refine qy hF (λi o ho hi=>?_) hn hs hfx hmx hro hQ hks hdp _ _ _ _ ⟨s.val.drew,s.prop.drew⟩ pO (by simp) hbd hkd (λp hp q hq hne hl _=>(by
  have hno:(Array.replicate l.toArray.size false).getD p false=false:=by
   rcases iH p l.length with h'|h'
   .simp[h']
   .simp[h']
  simp only[hno]at hl;cases hl)) (λp _ hl=>(by
  have hno:(Array.replicate l.toArray.size false).getD p false=false:=by
   rcases iH p l.length with h'|h'
   .simp[h']
   .simp[h']
  rw[hno]at hl;cases hl)) (λ_ _ _ _=>trivial) trivial h1
 have h2:=fV.1 hd o;refine h2 ?_;rw[jW];exact⟨i,by rw[lT,if_pos hi];simpa using ho⟩
theorem G6{id:Nat}{a:Act}{s:Bl W0}{l:List Oper}(k:Nat)(mk:Nat->Option bP)(dep:Nat->List Nat)(ds X:List Nat)(Pr:Nat->Nat->Value->Value->Prop)(hk:k<=l.length)(hm:P.follows .mixedOrders=true)(hB:uh l.toArray k X=true)(hmx:∀e∈X,mk e=none)(hQ:∀e∈X,∀(o:Oper)(v:Value) c a w,l.toArray[e]?=some o->Q (.panic c) (a.put o.dst v) w->Q (.panic c) a w)(hdp:sJ l.toArray k ds dep=true)(hbd:EX l.toArray ds a)(hks:∀i sp,mk i=some sp->sp.Keeps)(hkd:∀p∈ds,p<k)
 (h:QV P l.toArray W0 mk dep ds Pr (λa' Φ=>xW l.toArray mk ds Pr (λ_=>true) a'->∀z:Bl W0,Φ z.val->wpListIn Fence.wide 0 P l.toArray Q (l.drop k) a' z.val) (l.take k) 0 a (λ_=>True)):(Code.region id l.toArray true).wp P Q a s.val:=
 wpIn_wide.1 (Dp (n:=0) k mk dep ds X Pr (jV.wide P) hk hm hB hmx (.inr rfl) hQ hdp hbd hks hkd h)
end
end
open Go.RowKit
section
variable {F:Fence} {n:Nat} {P:Program} {ops:Array Oper} {md:Region.Mode} {w0 w1:World} {Q:Exit->Act->World->Prop} {f:Nat}
def oJ(P:Program)(md:Region.Mode)(ops:Array Oper)(w0 w1:World)(f i:Nat)(o:Oper)(v:Value)(a:Act):Prop:=
 (Region.wanted o (yielded ops a.tmps)=true/\i=f/\v=undef/\jh w1 ((execOp a.eval o).run P w0))\/
 (Region.wanted o (yielded ops a.tmps)=true/\i≠f/\stillUpon w0 v ((execOp a.eval o).run P w0)/\(iE md ops f i=false->stillUpon w1 v ((execOp a.eval o).run P w1)))\/
 (Region.wanted o (yielded ops a.tmps)=false/\i≠f/\v=undef)
theorem oJ.of_same{i:Nat}{o:Oper}{v:Value}{a a':Act}(hy:oJ P md ops w0 w1 f i o v a)(he:execOp a'.eval o=execOp a.eval o)(hw:Region.wanted o (yielded ops a'.tmps)=Region.wanted o (yielded ops a.tmps)):oJ P md ops w0 w1 f i o v a':=by
 unfold oJ at*;rw[he,hw];exact hy
def Tq(P:Program)(md:Region.Mode)(ops:Array Oper)(w0 w1:World)(f i:Nat)(K:Act->Prop)(a:Act):Prop:=
 match ops[i]? with
 |none=>K a
 |some o=>∃v,oJ P md ops w0 w1 f i o v a/\K (a.put o.dst v)
theorem XR{i:Nat}{a:Act}{K K':Act->Prop}(h:∀a,K a->K' a)(hh:Tq P md ops w0 w1 f i K a):Tq P md ops w0 w1 f i K' a:=by
 unfold Tq at*;split
 .exact h _ (by simpa [*]using hh)
 .rename_i o ho
  simp only[ho]at hh;obtain⟨v,h1,h2⟩:=hh;exact⟨v,h1,h _ h2⟩
theorem oJ.Tq{i:Nat}{o:Oper}{v:Value}{a:Act}(hi:ops[i]?=some o)(hy:oJ P md ops w0 w1 f i o v a){K:Act->Prop}(h:K (a.put o.dst v)):Tq P md ops w0 w1 f i K a:=by
 unfold Go.Proofs.YtpmdedcnbockhaaGreatDoor.Tq;simp only[hi];exact⟨v,hy,h⟩
theorem aat{i j:Nat}{oi oj:Oper}{v:Value}(hj:ops[j]?=some oj)(hap:oi.apart ops oj=true)(hsi:∀cs b,oi.op≠ .select cs b)(hsj:∀cs b,oj.op≠ .select cs b){K:Act->Prop}{a:Act}
 (hy:oJ P md ops w0 w1 f i oi v a)(h:Tq P md ops w0 w1 f j K (a.put oi.dst v)):Tq P md ops w0 w1 f j (λa'=>oJ P md ops w0 w1 f i oi v a'/\K (a'.put oi.dst v)) a:=by
 obtain⟨h1,h2,h3⟩:=Oper.apart_spec hap;unfold Tq at h;simp only[hj]at h;obtain⟨u,hu,hK⟩:=h;have hu':oJ P md ops w0 w1 f j oj u a:=hu.of_same (execOp_put oj hsj a oi.dst v h1).symm (wanted_put oj a oi.dst v h1).symm;refine hu'.Tq hj ⟨hy.of_same (execOp_put oi hsi a oj.dst u h3) (wanted_put oi a oj.dst u h3),?_⟩;rw[<-Act.put_comm a v u h2];exact hK
def XT(P:Program)(md:Region.Mode)(ops:Array Oper)(w0 w1:World)(f:Nat)(S:Nat->Array Bool->Act->Prop)(k:Nat):Nat->Array Bool->Act->Prop
 |0,listed,a=>fO k listed=true/\S 0 listed a
 |fuel+1,listed,a=>
  (fO k listed=true->S (fuel+1) listed a)/\
  (fO k listed=false->Region.ready md ops listed≠[]/\∀i∈Region.ready md ops listed,Tq P md ops w0 w1 f i (XT P md ops w0 w1 f S k fuel (listed.setIfInBounds i true)) a)
theorem QW{S:Nat->Array Bool->Act->Prop}{k i:Nat}{oi:Oper}{v:Value}(hn:nE md ops k=true)(hik:i<k)(hi:ops[i]?=some oi)(hsel:∀(j:Nat)(o:Oper) cs b,ops[j]?=some o->o.op≠ .select cs b):
 ∀(fuel:Nat)(listed:Array Bool)(a:Act),Down md ops listed->
  (∀j oj,ops[j]?=some oj->j≠i->listed.getD j true=false->(∀e∈oj.after,Region.binds md e=true->e.on≠i)->oi.apart ops oj=true)->
  i∈Region.ready md ops listed->oJ P md ops w0 w1 f i oi v a->
  XT P md ops w0 w1 f S k fuel (listed.setIfInBounds i true) (a.put oi.dst v)->XT P md ops w0 w1 f S k (fuel+1) listed a:=by
 intro fuel;induction fuel with
 |zero=>
  intro listed a hd _ hr hy H;refine⟨λhu=>(by rw[eU hik hr]at hu;cases hu),λ_=>⟨λe=>(by rw[e]at hr;cases hr),λj hj=>?_⟩⟩;by_cases hji:j=i
  .subst hji;exact hy.Tq hi H
  .have h1:=(kU hn hik hd (bC hr) hj hji).2
   rw[H.1]at h1;cases h1
 |succ fuel ih=>
  intro listed a hd hfree hr hy H;refine⟨λhu=>(by rw[eU hik hr]at hu;cases hu),λ_=>⟨λe=>(by rw[e]at hr;cases hr),λj hj=>?_⟩⟩;by_cases hji:j=i
  .subst hji;exact hy.Tq hi H
  .have h1:=(H.2 (kU hn hik hd (bC hr) hj hji).2).2 j (ready_mono hj hji)
   obtain⟨hjun,oj,hoj,hall⟩:=mem_ready.1 hj;have hnot:∀e∈oj.after,Region.binds md e=true->e.on≠i:=λe he hb heq=>by
    have h2:=hall e he hb;rw[heq,bC hr]at h2;cases h2
   have h2:=aat hoj (hfree j oj hoj hji hjun hnot) (λcs b=>hsel i oi cs b hi) (λcs b=>hsel j oj cs b hoj) hy h1;have hfree':∀k ok,ops[k]?=some ok->k≠i->(listed.setIfInBounds j true).getD k true=false->
    (∀e∈ok.after,Region.binds md e=true->e.on≠i)->oi.apart ops ok=true:=λk ok hk hki hun hno=>by
    refine hfree k ok hk hki ?_ hno;by_cases hjk:j=k
    .subst hjk;exact hjun
    .rw[getD_set_ne true hjk]at hun;exact hun
   refine XR (λa' h3=>ih (listed.setIfInBounds j true) a' (hd.set hj) hfree' (ready_mono hr (Ne.symm hji)) h3.1 ?_) h2;rw[Array.setIfInBounds_comm _ _ hji];exact h3.2
def acX(P:Program)(md:Region.Mode)(ops:Array Oper)(f i:Nat)(o:Oper)(a:Act)(w0 w1:World)(next:Act->Prop):Prop:=∃v,(stillUpon w0 v ((execOp a.eval o).run P w0)/\(iE md ops f i=false->stillUpon w1 v ((execOp a.eval o).run P w1)))/\next (a.put o.dst v)
def N9(P:Program)(md:Region.Mode)(ops:Array Oper)(w0 w1:World)(f:Nat)(R:Act->Prop):List Oper->Nat->Act->Prop
 |[],_,a=>R a
 |o::rest,i,a=>
  if i=f then(Region.wanted o (yielded ops a.tmps)=true/\jh w1 ((execOp a.eval o).run P w0))/\N9 P md ops w0 w1 f R rest (i+1) (a.put o.dst undef)
  else if Region.wanted o (yielded ops a.tmps)then acX P md ops f i o a w0 w1 (λa'=>N9 P md ops w0 w1 f R rest (i+1) a')else N9 P md ops w0 w1 f R rest (i+1) (a.put o.dst undef)
theorem FK{R:Act->Prop}{i:Nat}{a:Act}(h:R a):N9 P md ops w0 w1 f R [] i a:=h
theorem ji{R:Act->Prop}{i:Nat}{a:Act}{o:Oper}{rest:List Oper}(hif:(i==f)=false)
 (h:∀K:Act->Prop,(∀a,N9 P md ops w0 w1 f R rest (i+1) a->K a)->if Region.wanted o (yielded ops a.tmps)then GY P o a w0 w1 K else K (a.put o.dst undef)):N9 P md ops w0 w1 f R (o::rest) i a:=by
 have h1:=h _ (λ_ h=>h);unfold N9;rw[if_neg (by simpa using hif)];by_cases hw:Region.wanted o (yielded ops a.tmps)=true
 .rw[if_pos hw]at h1⊢
  obtain⟨v,⟨h2,h3⟩,h4⟩:=h1;exact⟨v,⟨h2,λ_=>h3⟩,h4⟩
 .rw[if_neg hw]at h1⊢
  exact h1
def XU(P:Program)(o:Oper)(a:Act)(w0:World)(next:Act->Prop):Prop:=∃v,stillUpon w0 v ((execOp a.eval o).run P w0)/\next (a.put o.dst v)
theorem zx{R:Act->Prop}{i:Nat}{a:Act}{o:Oper}{rest:List Oper}(hif:(i==f)=false)(hwt:iE md ops f i=true)
 (h:∀K:Act->Prop,(∀a,N9 P md ops w0 w1 f R rest (i+1) a->K a)->if Region.wanted o (yielded ops a.tmps)then XU P o a w0 K else K (a.put o.dst undef)):N9 P md ops w0 w1 f R (o::rest) i a:=by
 have h1:=h _ (λ_ h=>h);unfold N9;rw[if_neg (by simpa using hif)];by_cases hw:Region.wanted o (yielded ops a.tmps)=true
 .rw[if_pos hw]at h1⊢
  obtain⟨v,h2,h4⟩:=h1;exact⟨v,⟨h2,λe=>by rw[hwt]at e;cases e⟩,h4⟩
 .rw[if_neg hw]at h1⊢
  exact h1
theorem BS{R:Act->Prop}{i:Nat}{a:Act}{o:Oper}{rest:List Oper}(hif:i=f)(hg:o.guard=none)(h1:jh w1 ((execOp a.eval o).run P w0))(h2:N9 P md ops w0 w1 f R rest (i+1) (a.put o.dst undef)):N9 P md ops w0 w1 f R (o::rest) i a:=by
 have hw:Region.wanted o (yielded ops a.tmps)=true:=by simp[Region.wanted,hg]
 unfold N9;rw[if_pos hif];exact⟨⟨hw,h1⟩,h2⟩
theorem XV{S:Nat->Array Bool->Act->Prop}{R:Act->Prop}{k m:Nat}(hs:Region.noSelect ops=true)(hn:nE md ops k=true)
 (hS:∀listed a,fO k listed=true->kI.nG md ops (ops.size - k) k listed=true->R a->S m listed a)(is:List Nat):∀(q:Nat)(l:List Oper)(listed:Array Bool)(a:Act),is=(List.range' q l.length)->is.map (λi=>ops[i]?)=l.map some->Down md ops listed->
 nJ md ops k is listed=true->N9 P md ops w0 w1 f R l q a->XT P md ops w0 w1 f S k (is.length+m) listed a:=by
 induction is with
 |nil=>
  intro q l listed a hq hl _ hB h;obtain rfl:l=[]:=by
   cases l with
   |nil=>rfl
   |cons x l=>simp at hl
  simp only[nJ,bS]at hB;have h1:=hS listed a hB.1 hB.2 h;rw[kM,pF];cases m with
  |zero=>exact⟨hB.1,h1⟩
  |succ m=>exact⟨λ_=>h1,λe=>(by rw[hB.1]at e;cases e)⟩
 |cons i is ih=>
  intro q l listed a hq hl hd hB h;cases l with
  |nil=>simp at hl
  |cons o l=>
   simp only[gV,List.range'_succ,List.cons.injEq]at hq;obtain⟨rfl,hq⟩:=hq;simp only[kN,List.cons.injEq]at hl;obtain⟨h0,hl⟩:=hl;simp only[nJ,bS,decide_eq_true_eq]at hB;obtain⟨⟨⟨hik,hr⟩,hf⟩,hB'⟩:=hB;have hr':i∈Region.ready md ops listed:=by simpa using hr
   have hst:∃v,oJ P md ops w0 w1 f i o v a/\N9 P md ops w0 w1 f R l (i+1) (a.put o.dst v):=by
    unfold N9 at h;by_cases hif:i=f
    .rw[if_pos hif]at h
     exact⟨undef,.inl ⟨h.1.1,hif,rfl,h.1.2⟩,h.2⟩
    .rw[if_neg hif]at h
     by_cases hw:Region.wanted o (yielded ops a.tmps)=true
     .rw[if_pos hw]at h
      obtain⟨v,⟨h1,h2⟩,h3⟩:=h;exact⟨v,.inr (.inl ⟨hw,hif,h1,h2⟩),h3⟩
     .rw[if_neg hw]at h
      exact⟨undef,.inr (.inr ⟨by simpa using hw,hif,rfl⟩),h⟩
   obtain⟨v,hy,hK⟩:=hst;have ih':=ih (i+1) l (listed.setIfInBounds i true) (a.put o.dst v) hq hl (hd.set hr') hB' hK;have h9:=QW (S:=S) hn hik h0 (Region.noSelect_spec hs) _ listed a hd (Region.free_spec h0 hf) hr' hy ih';have e:(i::is).length+m=is.length+m+1:=by simp;omega
   rw[e];exact h9
theorem Dq{i:Nat}{o:Oper}{v:Value}{a:Act}{K':Act->World->Prop}{listed:Array Bool}(hF:jV F P)(ho:ops[i]?=some o)(hd:gM o=true)(hun:listed.getD i false=false)(hsz:i<listed.size)(hdn:Down md ops listed)(hy:oJ P md ops w0 w1 f i o v a)
 (h:K' (a.put o.dst v) (sI w0 w1 f (listed.setIfInBounds i true))):wpOpIn F n P ops Q i K' a (sI w0 w1 f listed):=by
 unfold wpOpIn;simp only[ho];rcases hy with⟨hw,rfl,rfl,ht⟩|⟨hw,hne,hv0,hv1⟩|⟨hw,hne,rfl⟩
 .rw[hw,if_pos rfl]
  refine⟨λf _=>hF.fn f,?_⟩;rw[Oper.semAt_plain F _ _ (fI hd)];have e0:sI w0 w1 i listed=w0:=by unfold sI;rw[hun];rfl
  have e1:sI w0 w1 i (listed.setIfInBounds i true)=w1:=by
   unfold sI;simp[hsz]
  rw[e0];rw[e1]at h;generalize(execOp a.eval o).run P w0=r at*;cases r with
  |ok x w'=>
   cases x<;>simp only[jh]at ht
   subst ht;exact h
  |halt x w'=>simp only[jh]at ht
 .rw[hw,if_pos rfl]
  refine⟨λf _=>hF.fn f,?_⟩;rw[Oper.semAt_plain F _ _ (fI hd)];have e1:sI w0 w1 f (listed.setIfInBounds i true)=sI w0 w1 f listed:=by
   unfold sI;rw[getD_set_ne false hne]
  rw[e1]at h;have hv:stillUpon (sI w0 w1 f listed) v ((execOp a.eval o).run P (sI w0 w1 f listed)):=by
   unfold sI;split
   .rename_i hfl
    refine hv1 ?_;cases hwf:iE md ops f i with
    |false=>rfl
    |true=>rw[mM hwf hdn hfl]at hun;cases hun
   .exact hv0
  generalize(execOp a.eval o).run P (sI w0 w1 f listed)=r at*;cases r with
  |ok x w'=>
   cases x<;>simp only[stillUpon]at hv
   case value u=>
    obtain⟨e1,e2⟩:=hv;subst e1 e2;exact h
   case skip=>
    obtain⟨e1,e2⟩:=hv;subst e1 e2;exact h
  |halt x w'=>simp only[stillUpon]at hv
 .rw[hw,if_neg (by simp)]
  have e1:sI w0 w1 f (listed.setIfInBounds i true)=sI w0 w1 f listed:=by
   unfold sI;rw[getD_set_ne false hne]
  rw[e1]at h;exact⟨λf _=>hF.fn f,h⟩
theorem wL{k:Nat}(hF:jV F P)(hdef:∀(i:Nat) o,ops[i]?=some o->i<k->gM o=true)(hn:nE md ops k=true):∀(fuel:Nat)(listed:Array Bool)(a:Act),listed.size=ops.size->Down md ops listed->
 XT P md ops w0 w1 f (λfuel listed a=>wpAnyIn F n P md ops Q fuel listed a (sI w0 w1 f listed)) k fuel listed a->wpAnyIn F n P md ops Q fuel listed a (sI w0 w1 f listed)
 |0,_,_,_,_,h=>h.2
 |fuel+1,listed,a,hls,hd,h=>by
  cases hu:fO k listed with
  |true=>exact h.1 hu
  |false=>
   obtain⟨hne,hall⟩:=h.2 hu;refine⟨λe=>absurd e hne,λi hi=>?_⟩;have hik:i<k:=by
    rcases iH i k with h1|h1
    .exact h1
    .rw[fE.2 (oF hn hd hi h1)]at hu
     cases hu
   obtain⟨_,o,ho,_⟩:=mem_ready.1 hi;have h1:=hall i hi;unfold Tq at h1;simp only[ho]at h1;obtain⟨v,hy,hK⟩:=h1;have hil:i<listed.size:=by rw[hls];exact(lS.1 ho).1
   refine Dq hF ho (hdef i o ho hik) (bC hi) hil hd hy ?_;exact wL hF hdef hn fuel _ _ (by simpa using hls) (hd.set hi) hK
theorem nL{id:Nat}{a:Act}{w w1:World}{l:List Oper}(k f:Nat)(hf:f<k)(hk:k<=l.length)(hm:P.follows .mixedOrders=true)(hB:Tg l.toArray k=true)
 (h:N9 P .any l.toArray w.drew w1 f (λa'=>wpListIn Fence.wide 0 P l.toArray Q (l.drop k) a' w1) (l.take k) 0 a):(Code.region id l.toArray true).wp P Q a w:=by
 refine(wpIn_wide (n:=0)).1 ?_;simp only[Tg,bS]at hB;obtain⟨⟨⟨hs,hn⟩,hp⟩,hd⟩:=hB;have pO:Down .any l.toArray (Array.replicate l.toArray.size false):=λj hj=>by
  exfalso;rcases iH j l.length with h'|h'
  .simp[h']at hj
  .simp[h']at hj
 refine wpIn_region_any hm ?_;have hlen:(l.take k).length=k:=by simp;omega
 have h1:=XV (md:=.any) (ops:=l.toArray) (P:=P) (w0:=w.drew) (w1:=w1) (f:=f) (S:=λfuel listed a=>wpAnyIn Fence.wide 0 P .any l.toArray Q fuel listed a (sI w.drew w1 f listed)) (k:=k) (m:=l.toArray.size - k) hs hn
  (R:=λa'=>wpListIn Fence.wide 0 P l.toArray Q (l.drop k) a' w1)
  (λlisted a' hu ho h0=>by
   have e1:sI w.drew w1 f listed=w1:=by unfold sI;rw[fE.1 hu f hf];rfl
   rw[e1];have h2:=kS (F:=Fence.wide) (n:=0) (P:=P) (ops:=l.toArray) (Q:=Q) (md:=.any) (l.drop k) k listed a' w1 (λj=>by simp) (by simpa using ho) h0;simpa using h2)
  (List.range' 0 k) 0 (l.take k) (Array.replicate l.toArray.size false) a (by rw[hlen]) (by
   apply lX;intro j;rw[gK,gK,lT];by_cases hj:j<k
   .rw[List.getElem?_range' hj,if_pos hj]
    have:j<l.length:=by omega
    simp[this]
   .rw[if_neg hj,mX (by simp;omega)]
    rfl) pO hp h
 rw[show(List.range' 0 k).length+(l.toArray.size - k)=l.toArray.size by simp;omega]at h1;have h3:=wL (jV.wide P) (λi o ho hi=>?_) hn _ _ _ (by simp) pO h1
 .have e0:sI w.drew w1 f (Array.replicate l.toArray.size false)=w.drew:=by
   unfold sI;rw[if_neg];intro hc;have:(Array.replicate l.toArray.size false).getD f false=false:=by
    rcases iH f l.length with h'|h'
    .simp[h']
    .simp[h']
   rw[this]at hc;cases hc
  rw[e0]at h3;exact h3
 .have h2:=fV.1 hd o
  refine h2 ?_;rw[jW];exact⟨i,by rw[lT,if_pos hi];simpa using ho⟩
end
end Go.Proofs.YtpmdedcnbockhaaGreatDoor
