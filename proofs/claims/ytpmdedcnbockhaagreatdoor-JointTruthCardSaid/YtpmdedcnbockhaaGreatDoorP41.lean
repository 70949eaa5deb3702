/-
  RangeL
-/
import Derived.Test.YtpmdedcnbockhaaGreatDoorP08
namespace Go.Proofs.YtpmdedcnbockhaaGreatDoor
open Go.RowKit
def Steps(T:TypeId)(B:Nat)(V V':World):Prop:=aH (λk=>B<=k/\∃cs fz,V.heap[k]?=some (.cells cs T fz)) V V'
def kH(T:TypeId)(B:Nat)(V V':World):Prop:=aH (λk=>B<=k/\∃o:Obj,V.heap[k]?=some o/\(o.isCells=false\/∃cs fz,o= .cells cs T fz)) V V'
theorem Steps.turns{T:TypeId}{B B':Nat}{V V':World}(h:Steps T B V V')(hB:B'<=B):kH T B' V V':=
 aH.mono h (λ_ _ ⟨h1,cs,fz,h2⟩=>⟨bF hB h1,_,h2,.inr ⟨cs,fz,rfl⟩⟩)
theorem kH.putObj{T:TypeId}{B:Nat}{V:World}{l:Nat}{o:Obj}(o':Obj)(hB:B<=l)(h:V.heap[l]?=some o)(hc:o.isCells=false):kH T B V (V.putObj l o'):=
 ⟨rfl,rfl,rfl,by simp[World.putObj],λk _ hn=>World.putObj_heap_other (λe=>hn (by subst e;exact⟨hB,o,h,.inl hc⟩))⟩
theorem kH.of_below{T:TypeId}{B:Nat}{V V':World}(h:Below V.heap.size V V'):kH T B V V':=⟨h.os,h.tape,h.output,h.size,λk hk _=>h.block k hk⟩
def ahb{α:Type}(F:Fence)(n:Nat)(P:Program)(g:Nat)(lb:Array Value)(encs:α->Array Value)(T:TypeId)(Kp:World->World->Prop)(I:List α->World->Prop)(Ok Nn:List α->α->World->Prop)(S SL:List α->Prop):Prop:=
 ∀(l:Nat)(J JL:List α->World->Prop)(W:World),(∀pre V,J pre V->I pre V)->(∀pre V V',J pre V->Steps T W.heap.size V V'->J pre V')->
  (∀pre x V,J pre V->Ok pre x V->YieldAt F (n - 1) P l (encs x) V λe V'=>e= .returned (.bool true)/\J (pre++[x]) V'/\Kp V V')->
  (∀pre x V,J pre V->Nn pre x V->YieldAt F (n - 1) P l (encs x) V λe V'=>e= .returned (.bool false)/\JL (pre++[x]) V')->J [] W->
  CallsIn F n P g (#[.func (.yield l) #[] #[]]++lb) W λe W'=>(∃v,e= .returned v)/\((∃xs,S xs/\J xs W')\/∃xs,SL xs/\JL xs W')
theorem Dp{F:Fence}{n:Nat}{P:Program}{α:Type}{g:Operand}{ps:Array Tmp}{assign body:Code}{Q:Exit->Act->World->Prop}{a:Act}{w:World}
 (hro:F.round=none)(h1:1<=n){gf:Nat}{lb:Array Value}(hg:a.eval g= .func (.func gf) #[] lb)(hFg:F.fn gf)(eg:∀args w,(callFunc gf args).run P w= .ok (.enter gf args) w)
 {encs:α->Array Value}{T:TypeId}{Kp:World->World->Prop}{I:List α->World->Prop}{Ok Nn:List α->α->World->Prop}{S SL:List α->Prop}(hseq:ahb F (n - 1) P gf lb encs T Kp I Ok Nn S SL)(hps:∀x,(encs x).size=ps.size)
 (Ix:List α->World->Prop)(hI:∀pre V V',I pre V->kH T w.heap.size V V'->I pre V')(hIx:∀pre V V',Ix pre V->kH T w.heap.size V V'->Ix pre V')
 (WQ:∀pre x V l o o',Ok pre x V->V.heap[l]?=some o->o.isCells=false->Ok pre x (V.putObj l o'))(WZ:∀pre x V l o o',Nn pre x V->V.heap[l]?=some o->o.isCells=false->Nn pre x (V.putObj l o'))
 (hKl:∀V Y l o o',V.heap[l]?=some o->o.isCells=false->w.heap.size<=l->Kp (V.putObj l o') Y->Kp V Y)(hKr:∀V Y l o o',Y.heap[l]?=some o->V.heap[l]?=some o->o.isCells=false->w.heap.size<=l->Kp V Y->Kp V (Y.putObj l o'))
 (bx:α->Obj)(aku:∀pre x V V',Ok pre x V->Below V.heap.size V V'->Ok pre x V')(ahd:∀pre x V V',Nn pre x V->Below V.heap.size V V'->Nn pre x V')(hKb:∀pre V V' Y,I pre V->Below V.heap.size V V'->Kp V' Y->Kp V Y)
 (h0:I [] w)(a₁:α->Nat->Act)
 (hassign:∀(l:Nat)(x:α)(W:World)(K:Act->World->Prop),K (a₁ x W.heap.size) (W.alloc (bx x))->assign.wpIn (F.inRound l) (n - 1 - 1) P (Exit.then K (λ_ _ _=>False)) {tmps:=(ps.zip (encs x)).foldl (λt (p,v)=>t.setIfInBounds p v) a.tmps,defers:=[]} W)
 (hbody:∀(l:Nat)(pre:List α)(x:α)(W:World)(b:Nat),I pre W->Ok pre x W->w.heap.size<=b->W.heap[b]?=some (bx x)->body.wpIn (F.inRound l) (n - 1 - 1) P (λe _ W'=>e= .normal/\KeepsFrom w.heap.size W W'/\Kp W W'/\I (pre++[x]) W') (a₁ x b) W)
 (hleave:∀(l:Nat)(pre:List α)(x:α)(W:World)(b:Nat),I pre W->Nn pre x W->w.heap.size<=b->W.heap[b]?=some (bx x)->body.wpIn (F.inRound l) (n - 1 - 1) P (λe _ W'=>e= .ret/\KeepsFrom w.heap.size W W'/\Ix (pre++[x]) W') (a₁ x b) W)
 (hdone:∀(D:Nat)(xs:List α)(W:World),w.heap.size<=D->S xs->I xs W->W.heap[D]?=some (.deferred (some []))->Q .normal {a with defers:={target:=.collected D,args:=#[]}::a.defers} W)
 (hstop:∀(D:Nat)(xs:List α)(W:World),w.heap.size<=D->SL xs->Ix xs W->W.heap[D]?=some (.deferred (some []))->Code.ret.wpIn F n P Q {a with defers:={target:=.collected D,args:=#[]}::a.defers} W):
 (Code.rangeFunc g ps assign body).wpIn F n P Q a w:=by
 refine wpIn_rangeFunc λfn hfn=>?_;rw[hro];generalize hD:w.heap.size=D;obtain⟨rec,hrec⟩:∃rec:LoopState->Option Code->Loop,rec=λst pe=>{state:=st,pending:=pe,fn,tmps:=a.tmps,params:=ps,assign,body,defers:=D}:=⟨_,rfl⟩;obtain⟨W1,hW1⟩:∃W1,(w.alloc (.deferred (some []))).alloc (.loop (rec .ready none))=W1:=⟨_,rfl⟩;have hL1:W1.heap[D+1]?=some (.loop (rec .ready none)):=by
  have h:=World.alloc_heap_new (w.alloc (.deferred (some []))) (.loop (rec .ready none));rw[aM,hD,hW1]at h;exact h
 have hK1:W1.heap[D]?=some (.deferred (some [])):=by
  rw[<-hW1,<-hD];exact(Below.heap_alloc _ _ _ (by simp)).trans (World.alloc_heap_new w _)
 have hsz:W1.heap.size=D+2:=by rw[<-hW1,<-hD];simp
 have hI1:I [] W1:=hI _ _ _ h0 (kH.of_below (by rw[<-hW1];exact aK (aK (aD _ _) _) _));rw[hD]at hI hIx hKl hKr hbody hleave hdone hstop;refine⟨D+1,[{target:=.collected D,args:=#[]}],W1,{target:=.fn (.func gf) lb,args:=#[.func (.yield (D+1)) #[] #[]]},W1,gf,#[.func (.yield (D+1)) #[] #[]]++lb,W1,?_,?_,?_,?_,λ_=>h1,?_⟩
 .have h:=run_enterLoop_outer (P:=P) (w:=w) fn a.tmps ps assign body
  rw[hD]at h;rw[h,<-hW1,hrec]
 .simp only[resolve,hg]
  simp[go_sem]
 .intro f' hf'
  simp[Target.leads]at hf';subst hf';exact hFg
 .simp[invoke,go_sem,eg]
 .have keep:∀{V V':World}{k:Nat}{o:Obj},Steps T W1.heap.size V V'->k<D+2->V.heap[k]?=some o->V'.heap[k]?=some o:=λ{V V' k o} hs hk ho=>by
   rw[hs.block k (av ho) (λh=>by have:=h.1;omega)];exact ho
  refine(hseq (D+1) (λpre W=>I pre W/\W.heap[D+1]?=some (.loop (rec .ready none))/\W.heap[D]?=some (.deferred (some [])))
   (λpre W=>Ix pre W/\W.heap[D+1]?=some (.loop (rec .done (some .ret)))/\W.heap[D]?=some (.deferred (some []))) W1 (λ_ _ h=>h.1) ?_ ?_ ?_ ⟨hI1,hL1,hK1⟩).mono ?_
  .rintro pre V V' ⟨hi,hl,hk⟩ hs
   exact⟨hI _ _ _ hi (hs.turns (by omega)),keep hs (by omega) hl,keep hs (by omega) hk⟩
  .rintro pre x W0 ⟨hi0,hl0,hk0⟩ hok0
   have hy:=run_yield (P:=P) (args:=encs x) hl0 (by rw[hrec];exact hps x);rw[hrec]at hy;refine⟨fn,_,assign,body,hy,roundIn_of_wpIn hfn (hassign _ x W0 _ ?_)⟩;have hbw:Below W0.heap.size W0 (W0.alloc (bx x)):=aK (aD _ _) _;have hbx:(W0.alloc (bx x)).heap[W0.heap.size]?=some (bx x):=World.alloc_heap_new W0 _;have hbD:D+1<W0.heap.size:=av hl0;have hl:=(hbw.block _ (av hl0)).trans hl0;have hk:=(hbw.block _ (av hk0)).trans hk0;have hi:=hI _ _ _ hi0 (kH.of_below hbw);have hok:=aku _ _ _ _ hok0 hbw;generalize hW:W0.alloc (bx x)=W at hbw hbx hl hk hi hok⊢;have hlt:D+1<W.heap.size:=av hl;refine⟨_,run_beginRound hl (by rw[hrec]),?_⟩;generalize hB:W.putObj (D+1) (.loop {rec .ready none with state:=.busy})=WB;have hl2:WB.heap[D+1]?=some (.loop {rec .ready none with state:=.busy}):=by rw[<-hB];exact World.putObj_heap_same hlt
   have hk2:WB.heap[D]?=some (.deferred (some [])):=by rw[<-hB];exact(World.putObj_heap_other (by omega)).trans hk
   have hi2:I pre WB:=by rw[<-hB];exact hI _ _ _ hi (kH.putObj _ (by omega) hl rfl)
   have ho2:Ok pre x WB:=by rw[<-hB];exact WQ _ _ _ _ _ _ hok hl rfl
   have hx2:WB.heap[W0.heap.size]?=some (bx x):=by rw[<-hB];exact(World.putObj_heap_other (by omega)).trans hbx
   refine wpIn_mono (hbody _ pre x WB _ hi2 ho2 (by omega) hx2) ?_;rintro e a3 W3 ⟨rfl,hk3,hkp,hi3⟩;have hl3:=hk3.same _ _ (by omega) hl2 rfl;have hk4:=hk3.same _ _ (bH _) hk2 rfl;have hr3:=run_endRound (P:=P) none hl3;refine⟨_,_,hr3,rfl,⟨hI _ _ _ hi3 (kH.putObj _ (by omega) hl3 rfl),?_,(World.putObj_heap_other (by omega)).trans hk4⟩,?_⟩
   .rw[World.putObj_heap_same (av hl3),hrec]
    rfl
   .refine hKb _ _ _ _ hi0 hbw ?_
    refine hKl W _ (D+1) _ (.loop {rec .ready none with state:=.busy}) hl rfl (by omega) ?_;rw[hB];exact hKr _ _ _ _ _ hl3 hl2 rfl (by omega) hkp
  .rintro pre x W0 ⟨hi0,hl0,hk0⟩ hok0
   have hy:=run_yield (P:=P) (args:=encs x) hl0 (by rw[hrec];exact hps x);rw[hrec]at hy;refine⟨fn,_,assign,body,hy,roundIn_of_wpIn hfn (hassign _ x W0 _ ?_)⟩;have hbw:Below W0.heap.size W0 (W0.alloc (bx x)):=aK (aD _ _) _;have hbx:(W0.alloc (bx x)).heap[W0.heap.size]?=some (bx x):=World.alloc_heap_new W0 _;have hbD:D+1<W0.heap.size:=av hl0;have hl:=(hbw.block _ (av hl0)).trans hl0;have hk:=(hbw.block _ (av hk0)).trans hk0;have hi:=hI _ _ _ hi0 (kH.of_below hbw);have hok:=ahd _ _ _ _ hok0 hbw;generalize hW:W0.alloc (bx x)=W at hbw hbx hl hk hi hok⊢;have hlt:D+1<W.heap.size:=av hl;refine⟨_,run_beginRound hl (by rw[hrec]),?_⟩;generalize hB:W.putObj (D+1) (.loop {rec .ready none with state:=.busy})=WB;have hl2:WB.heap[D+1]?=some (.loop {rec .ready none with state:=.busy}):=by rw[<-hB];exact World.putObj_heap_same hlt
   have hk2:WB.heap[D]?=some (.deferred (some [])):=by rw[<-hB];exact(World.putObj_heap_other (by omega)).trans hk
   have hi2:I pre WB:=by rw[<-hB];exact hI _ _ _ hi (kH.putObj _ (by omega) hl rfl)
   have ho2:Nn pre x WB:=by rw[<-hB];exact WZ _ _ _ _ _ _ hok hl rfl
   have hx2:WB.heap[W0.heap.size]?=some (bx x):=by rw[<-hB];exact(World.putObj_heap_other (by omega)).trans hbx
   refine wpIn_mono (hleave _ pre x WB _ hi2 ho2 (by omega) hx2) ?_;rintro e a3 W3 ⟨rfl,hk3,hi3⟩;have hl3:=hk3.same _ _ (by omega) hl2 rfl;have hk4:=hk3.same _ _ (bH _) hk2 rfl;have hr3:=run_endRound (P:=P) (some .ret) hl3;refine⟨_,_,hr3,rfl,hIx _ _ _ hi3 (kH.putObj _ (by omega) hl3 rfl),?_,(World.putObj_heap_other (by omega)).trans hk4⟩;rw[World.putObj_heap_same (av hl3),hrec];rfl
  .rintro e W2 ⟨⟨v,rfl⟩,(⟨xs,hS,hi,hl,hk⟩|⟨xs,hS,hi,hl,hk⟩)⟩
   .have he:=run_endLoop (P:=P) hl (by rw[hrec];simp)
    exact⟨none,_,by rw[hrec]at he;exact he,hdone _ xs _ (bH _) hS (hI _ _ _ hi (kH.putObj _ (by omega) hl rfl)) ((World.putObj_heap_other (by omega)).trans hk)⟩
   .have he:=run_endLoop (P:=P) hl (by rw[hrec];simp)
    exact⟨some .ret,_,by rw[hrec]at he;exact he,hstop _ xs _ (bH _) hS (hIx _ _ _ hi (kH.putObj _ (by omega) hl rfl)) ((World.putObj_heap_other (by omega)).trans hk)⟩
end Go.Proofs.YtpmdedcnbockhaaGreatDoor
