/- part -/
import Derived.RangeFuncLeaves
import Derived.RowKit3
import Derived.Lib.ItoaNum
import Derived.Lib.LaidTab
set_option linter.all false
namespace Go.Proofs.YtjoohkjmoghmoaaGreatDoor
section
noncomputable section
inductive Tr (α:Type) where
 |z
 |nd (l:Tr α) (v:Option α) (r:Tr α)
def rM(n:Nat):Bool:=Nat.beq (Nat.mod n 2) 1
def bc{α:Type}(c:Bool)(a b:α):α:=@Bool.rec (λ_=>α) b a c
def Tr.get{α:Type}(t:Tr α):Nat->Option α:=
 @Tr.rec α (λ_=>Nat->Option α) (λ_=>none)
  (λ_ v _ gl gr n=>bc (Nat.beq n 0) v (bc (rM n) (gl (Nat.div n 2)) (gr (Nat.sub (Nat.div n 2) 1)))) t
def Tr.one{α:Type}(v:Option α)(k:Nat):Nat->Tr α:=
 @Nat.rec (λ_=>Nat->Tr α) (λ_=>.nd .z v .z)
  (λ_ ih n=>bc (Nat.beq n 0) (.nd .z v .z) (bc (rM n) (.nd (ih (Nat.div n 2)) none .z) (.nd .z none (ih (Nat.sub (Nat.div n 2) 1))))) k
def Tr.put{α:Type}(v:Option α)(t:Tr α):Nat->Tr α:=
 @Tr.rec α (λ_=>Nat->Tr α) (λn=>Tr.one v n n)
  (λl u r pl pr n=>bc (Nat.beq n 0) (.nd l v r) (bc (rM n) (.nd (pl (Nat.div n 2)) u r) (.nd l u (pr (Nat.sub (Nat.div n 2) 1))))) t
def Tr.set{α:Type}(t:Tr α)(n:Nat)(v:α):Tr α:=t.put (some v) n
def Tr.del{α:Type}(t:Tr α)(n:Nat):Tr α:=t.put none n
theorem Tr.iI{α:Type}(n:Nat):(Tr.z:Tr α).get n=none:=rfl
theorem Tr.dU{α:Type}(l r:Tr α)(v:Option α)(n:Nat):(Tr.nd l v r).get n=if n=0 then v else if n % 2=1 then l.get (n/2)else r.get (n/2 - 1):=by
 show bc (Nat.beq n 0) v (bc (rM n) (l.get (n/2)) (r.get (n/2 - 1)))=_;unfold bc rM;by_cases h:n=0
 .subst h;rfl
 .have h1:Nat.beq n 0=false:=by cases n<;>simp_all [Nat.beq]
  rw[h1,if_neg h];by_cases h2:n % 2=1
  .rw[if_pos h2,show Nat.mod n 2=1 from h2];rfl
  .have h3:n % 2=0:=by omega
   rw[if_neg h2,show Nat.mod n 2=0 from h3];rfl
theorem Tr.AU{α:Type}(v:Option α):∀(f n m:Nat),n<2 ^ f->(Tr.one v f n).get m=if m=n then v else none
 |0,n,m,h=>by
  obtain rfl:n=0:=by simpa using h
  show(Tr.nd .z v .z).get m=_;rw[dU];split<;>simp_all [iI]
 |f+1,n,m,h=>by
  show(bc (Nat.beq n 0) (Tr.nd .z v .z) (bc (rM n) (.nd (Tr.one v f (n/2)) none .z) (.nd .z none (Tr.one v f (n/2 - 1))))).get m=_;unfold bc rM;rw[Nat.pow_succ]at h;by_cases h0:n=0
  .subst h0
   show(Tr.nd .z v .z).get m=_;rw[dU];split<;>simp_all [iI]
  .have h1:Nat.beq n 0=false:=by cases n<;>simp_all [Nat.beq]
   rw[h1];by_cases h2:n % 2=1
   .rw[show Nat.mod n 2=1 from h2]
    show(Tr.nd (Tr.one v f (n/2)) none .z).get m=_;rw[dU,AU v f _ _ (by omega)];by_cases hm:m=0
    .subst hm;simp;intro e;omega
    .rw[if_neg hm]
     by_cases hm2:m % 2=1
     .rw[if_pos hm2];by_cases e:m=n
      .subst e;simp
      .rw[if_neg e,if_neg (by omega)]
     .rw[if_neg hm2,iI,if_neg (by omega)]
   .rw[show Nat.mod n 2=0 from(by omega:n % 2=0)]
    show(Tr.nd .z none (Tr.one v f (n/2 - 1))).get m=_;rw[dU,AU v f _ _ (by omega)];by_cases hm:m=0
    .subst hm;simp;intro e;omega
    .rw[if_neg hm]
     by_cases hm2:m % 2=1
     .rw[if_pos hm2,iI,if_neg (by omega)]
     .rw[if_neg hm2];by_cases e:m=n
      .subst e;simp
      .rw[if_neg e,if_neg (by omega)]
theorem Tr.get_put{α:Type}(v:Option α)(t:Tr α):∀n m:Nat,(t.put v n).get m=if m=n then v else t.get m:=by
 induction t with
 |z=>intro n m;exact AU v n n m Nat.lt_two_pow_self
 |nd l u r ihl ihr=>
  intro n m;show(bc (Nat.beq n 0) (Tr.nd l v r) (bc (rM n) (.nd (l.put v (n/2)) u r) (.nd l u (r.put v (n/2 - 1))))).get m=_;unfold bc rM;by_cases h0:n=0
  .subst h0
   show(Tr.nd l v r).get m=_;rw[dU,dU];split<;>simp_all
  .have h1:Nat.beq n 0=false:=by cases n<;>simp_all [Nat.beq]
   rw[h1];by_cases h2:n % 2=1
   .rw[show Nat.mod n 2=1 from h2]
    show(Tr.nd (l.put v (n/2)) u r).get m=_;rw[dU,dU,ihl];by_cases hm:m=0
    .subst hm;rw[if_pos rfl,if_pos rfl,if_neg (by omega)]
    .rw[if_neg hm,if_neg hm]
     by_cases hm2:m % 2=1
     .rw[if_pos hm2,if_pos hm2];by_cases e:m=n
      .subst e;simp
      .rw[if_neg e,if_neg (by omega)]
     .rw[if_neg hm2,if_neg hm2,if_neg (by omega)]
   .rw[show Nat.mod n 2=0 from(by omega:n % 2=0)]
    show(Tr.nd l u (r.put v (n/2 - 1))).get m=_;rw[dU,dU,ihr];by_cases hm:m=0
    .subst hm;rw[if_pos rfl,if_pos rfl,if_neg (by omega)]
    .rw[if_neg hm,if_neg hm]
     by_cases hm2:m % 2=1
     .rw[if_pos hm2,if_pos hm2,if_neg (by omega)]
     .rw[if_neg hm2,if_neg hm2];by_cases e:m=n
      .subst e;simp
      .rw[if_neg e,if_neg (by omega)]
structure GpF(α:Type) where run:Tr α->Option α
structure PpF(α:Type) where run:α->Tr α->Tr α
def gp{α:Type}(f:Nat):Nat->GpF α:=
 @Nat.rec (λ_=>Nat->GpF α) (λk=>⟨λt=>t.get k⟩)
  (λ_ ih k=>bc (Nat.beq k 0) ⟨λt=>@Tr.rec α (λ_=>Option α) none (λ_ v _ _ _=>v) t⟩
   (bc (rM k) ⟨λt=>@Tr.rec α (λ_=>Option α) none (λl _ _ _ _=>(ih (Nat.div k 2)).run l) t⟩
    ⟨λt=>@Tr.rec α (λ_=>Option α) none (λ_ _ r _ _=>(ih (Nat.sub (Nat.div k 2) 1)).run r) t⟩)) f
def pp{α:Type}(f:Nat):Nat->PpF α:=
 @Nat.rec (λ_=>Nat->PpF α) (λk=>⟨λv t=>t.set k v⟩)
  (λ_ ih k=>bc (Nat.beq k 0) ⟨λv t=>@Tr.rec α (λ_=>Tr α) (.nd .z (some v) .z) (λl _ r _ _=>.nd l (some v) r) t⟩
   (bc (rM k) ⟨λv t=>@Tr.rec α (λ_=>Tr α) (.nd ((ih (Nat.div k 2)).run v .z) none .z) (λl u r _ _=>.nd ((ih (Nat.div k 2)).run v l) u r) t⟩
    ⟨λv t=>@Tr.rec α (λ_=>Tr α) (.nd .z none ((ih (Nat.sub (Nat.div k 2) 1)).run v .z)) (λl u r _ _=>.nd l u ((ih (Nat.sub (Nat.div k 2) 1)).run v r)) t⟩)) f
theorem kV{α:Type}:∀(f k:Nat)(t:Tr α),(gp f k).run t=t.get k
 |0,_,_=>rfl
 |f+1,k,t=>by
  show(bc (Nat.beq k 0) _ (bc (rM k) _ _):GpF α).run t=_;unfold bc rM;by_cases h0:k=0
  .subst h0;cases t<;>rfl
  .have h1:Nat.beq k 0=false:=by cases k<;>simp_all [Nat.beq]
   rw[h1];by_cases h2:k % 2=1
   .rw[show Nat.mod k 2=1 from h2]
    cases t with
    |z=>rfl
    |nd l u r=>show(gp f (k/2)).run l=_;rw[kV f,Tr.dU,if_neg h0,if_pos h2]
   .rw[show Nat.mod k 2=0 from(by omega:k % 2=0)]
    cases t with
    |z=>rfl
    |nd l u r=>show(gp f (k/2 - 1)).run r=_;rw[kV f,Tr.dU,if_neg h0,if_neg h2]
theorem jg{α:Type}(v:α):∀(f k:Nat)(t:Tr α)(m:Nat),((pp f k).run v t).get m=if m=k then some v else t.get m
 |0,k,t,m=>Tr.get_put (some v) t k m
 |f+1,k,t,m=>by
  show((bc (Nat.beq k 0) _ (bc (rM k) _ _):PpF α).run v t).get m=_;unfold bc rM;by_cases h0:k=0
  .subst h0
   cases t with
   |z=>show(Tr.nd .z (some v) .z).get m=_;rw[Tr.dU];split<;>simp_all [Tr.iI]
   |nd l u r=>show(Tr.nd l (some v) r).get m=_;rw[Tr.dU,Tr.dU];split<;>simp_all
  .have h1:Nat.beq k 0=false:=by cases k<;>simp_all [Nat.beq]
   rw[h1];by_cases h2:k % 2=1
   .rw[show Nat.mod k 2=1 from h2]
    have key:∀(l r:Tr α)(u:Option α),(Tr.nd ((pp f (k/2)).run v l) u r).get m=if m=k then some v else(Tr.nd l u r).get m:=by
     intro l r u;rw[Tr.dU,Tr.dU,jg v f];by_cases hm:m=0
     .subst hm;rw[if_pos rfl,if_pos rfl,if_neg (by omega)]
     .rw[if_neg hm,if_neg hm]
      by_cases hm2:m % 2=1
      .rw[if_pos hm2,if_pos hm2];by_cases e:m=k
       .subst e;simp
       .rw[if_neg e,if_neg (by omega)]
      .rw[if_neg hm2,if_neg hm2,if_neg (by omega)]
    cases t with
    |z=>refine(key .z .z none).trans ?_;rw[Tr.dU];simp[Tr.iI]
    |nd l u r=>exact key l r u
   .rw[show Nat.mod k 2=0 from(by omega:k % 2=0)]
    have key:∀(l r:Tr α)(u:Option α),(Tr.nd l u ((pp f (k/2 - 1)).run v r)).get m=if m=k then some v else(Tr.nd l u r).get m:=by
     intro l r u;rw[Tr.dU,Tr.dU,jg v f];by_cases hm:m=0
     .subst hm;rw[if_pos rfl,if_pos rfl,if_neg (by omega)]
     .rw[if_neg hm,if_neg hm]
      by_cases hm2:m % 2=1
      .rw[if_pos hm2,if_pos hm2,if_neg (by omega)]
      .rw[if_neg hm2,if_neg hm2];by_cases e:m=k
       .subst e;simp
       .rw[if_neg e,if_neg (by omega)]
    cases t with
    |z=>refine(key .z .z none).trans ?_;rw[Tr.dU];simp[Tr.iI]
    |nd l u r=>exact key l r u
end
end
section
noncomputable section
inductive AV where
 |b (x:Bool)
 |i (k:IntKind) (n:Int)
 |s (l:List UInt8)
 |p (x o:Nat)
 |sl (x l o n:Nat) (c:Option Nat)
 |m (x:Nat)
 |f (g:FuncId) (cap:List AV)
 |y (l:Nat)
 |zH (t:TypeId) (v:AV)
 |agg (l:List AV)
 |bQ (l:List AV)
 |k (c:Nat)
 |es (a:Addr) (c:Nat)
inductive AO where
 |row (t:TypeId) (l:List AV)
 |mp (es:List (AV×AV×Nat)) (clock:Nat)
 |lp (st:LoopState) (pd:Option Code) (g:FuncId) (t:Tr AV) (ps:List Tmp) (fH body:Code)
 |it (m:Option Nat) (since:Nat) (seen:List Nat) (KU:Nat)
 |ro (f:Nat->Nat->Option (List AV))
abbrev AH:=Tr AO
abbrev Th:=Nat->Option (Nat×Nat)
def kv:Nat->Value
 |0=>.pointer none
 |1=>.slice none 0 0
 |2=>.map none
 |3=>.nilFunc
 |_=>.nilIface
mutual
def aV(θ:Th):AV->Value->Prop
 | .b x,v=>v= .bool x
 | .i k n,v=>v= .int k n
 | .s l,v=>v= .string ⟨l.toArray⟩
 | .p x o,v=>∃r c,θ x=some (r,c)/\v= .pointer (some ⟨r,o,none⟩)
 | .sl x l o n c,v=>∃r d,θ x=some (r,d)/\(c=none->l+n<=d)/\v= .slice (some ⟨r,o,none⟩) n (c.getD (d - l))
 | .m x,v=>∃r c,θ x=some (r,c)/\v= .map (some r)
 | .f g cap,v=>∃vs,eU θ cap vs/\v= .func (.func g) #[] vs.toArray
 | .y l,v=>∃r c,θ l=some (r,c)/\v= .func (.yield r) #[] #[]
 | .zH t a,v=>∃u,aV θ a u/\v= .iface t u
 | .agg l,v=>∃vs,eU θ l vs/\(∀x∈vs,x.oneCell'=true)/\v= .agg vs.toArray
 | .bQ l,v=>∃vs,eU θ l vs/\v= .tuple vs.toArray
 | .k c,v=>v=kv c
 | .es _ _,v=>∃a c,v= .slice (some a) 0 c
def eU(θ:Th):List AV->List Value->Prop
 |[],l=>l=[]
 |a::r,l=>∃v vs,aV θ a v/\eU θ r vs/\l=v::vs
end
def iq(θ bP:Th):Prop:=∀x r,θ x=some r->bP x=some r
theorem iq.refl(θ:Th):iq θ θ:=λ_ _ h=>h
theorem iq.trans{a b c:Th}(h:iq a b)(k:iq b c):iq a c:=λx r e=>k x r (h x r e)
mutual
theorem aV.mono{θ bP:Th}(h:iq θ bP):∀(a:AV){v:Value},aV θ a v->aV bP a v
 | .b _,_,e=>e
 | .i _ _,_,e=>e
 | .s _,_,e=>e
 | .p _ _,_,⟨r,c,e1,e2⟩=>⟨r,c,h _ _ e1,e2⟩
 | .sl _ _ _ _ _,_,⟨r,c,e1,e2,e3⟩=>⟨r,c,h _ _ e1,e2,e3⟩
 | .m _,_,⟨r,c,e1,e2⟩=>⟨r,c,h _ _ e1,e2⟩
 | .f _ l,_,⟨vs,e1,e2⟩=>⟨vs,eU.mono h l e1,e2⟩
 | .y _,_,⟨r,c,e1,e2⟩=>⟨r,c,h _ _ e1,e2⟩
 | .zH _ a,_,⟨u,e1,e2⟩=>⟨u,aV.mono h a e1,e2⟩
 | .agg l,_,⟨vs,e1,e2⟩=>⟨vs,eU.mono h l e1,e2⟩
 | .bQ l,_,⟨vs,e1,e2⟩=>⟨vs,eU.mono h l e1,e2⟩
 | .k _,_,e=>e
 | .es _ _,_,e=>e
theorem eU.mono{θ bP:Th}(h:iq θ bP):∀(l:List AV){vs:List Value},eU θ l vs->eU bP l vs
 |[],_,e=>e
 |a::r,_,⟨v,vs,e1,e2,e3⟩=>⟨v,vs,aV.mono h a e1,eU.mono h r e2,e3⟩
end
theorem eU.length{θ:Th}:∀{l:List AV}{vs:List Value},eU θ l vs->vs.length=l.length
 |[],_,e=>by rw[eU]at e;subst e;rfl
 |a::r,_,e=>by rw[eU]at e;obtain⟨v,vs,_,e2,rfl⟩:=e;simp[eU.length e2]
theorem eU.append{θ:Th}:∀{l m:List AV}{vs us:List Value},eU θ l vs->eU θ m us->eU θ (l++m) (vs++us)
 |[],_,_,_,e,h=>by rw[eU]at e;subst e;exact h
 |a::r,_,_,_,e,h=>by rw[eU]at e;obtain⟨v,vs,e1,e2,rfl⟩:=e;exact⟨v,_,e1,eU.append e2 h,rfl⟩
theorem eU.drop{θ:Th}:∀{l:List AV}{vs:List Value}(k:Nat),eU θ l vs->eU θ (l.drop k) (vs.drop k)
 |_,_,0,e=>by simpa using e
 |[],_,k+1,e=>by rw[eU]at e;subst e;rfl
 |a::r,_,k+1,e=>by rw[eU]at e;obtain⟨v,vs,_,e2,rfl⟩:=e;exact eU.drop k e2
theorem eU.take{θ:Th}:∀{l:List AV}{vs:List Value}(k:Nat),eU θ l vs->eU θ (l.take k) (vs.take k)
 |_,_,0,_=>by simp[eU]
 |[],_,k+1,e=>by rw[eU]at e;subst e;rfl
 |a::r,_,k+1,e=>by rw[eU]at e;obtain⟨v,vs,e1,e2,rfl⟩:=e;exact⟨v,_,e1,eU.take k e2,rfl⟩
theorem eU.get{θ:Th}:∀{l:List AV}{vs:List Value}(k:Nat){a:AV},eU θ l vs->l[k]?=some a->∃v,vs[k]?=some v/\aV θ a v
 |[],_,_,_,_,h=>by simp at h
 |a::r,_,0,_,e,h=>by rw[eU]at e;obtain⟨v,vs,e1,_,rfl⟩:=e;cases h;exact⟨v,rfl,e1⟩
 |a::r,_,k+1,_,e,h=>by rw[eU]at e;obtain⟨v,vs,_,e2,rfl⟩:=e;exact eU.get k e2 h
structure Sl where
 S:Nat->Bool
 N:Nat
structure RT(s:Sl)(θ:Th)(t:Tr AV)(tm:Array Value):Prop where
 size:s.N<=tm.size
 at_:∀k a,s.S k=true->t.get k=some a->∃v,tm[k]?=some v/\aV θ a v
theorem RT.mono{s:Sl}{θ bP:Th}{t:Tr AV}{tm:Array Value}(h:iq θ bP)(k:RT s θ t tm):RT s bP t tm:=
 ⟨k.size,λj a hj hg=>let⟨v,h1,h2⟩:=k.at_ j a hj hg;⟨v,h1,aV.mono h a h2⟩⟩
def Es(θ:Th):List (AV×AV×Nat)->List MapEntry->Prop
 |[],l=>l=[]
 |(a,b,c)::r,l=>∃e es,aV θ a e.key/\aV θ b e.val/\e.born=c/\Es θ r es/\l=e::es
theorem Es.mono{θ bP:Th}(h:iq θ bP):∀{l:List (AV×AV×Nat)}{es:List MapEntry},Es θ l es->Es bP l es
 |[],_,e=>e
 |(a,b,c)::r,_,⟨e,es,e1,e2,e3,e4,e5⟩=>⟨e,es,aV.mono h a e1,aV.mono h b e2,e3,Es.mono h e4,e5⟩
def WM(θ:Th):Option Nat->Option Nat->Prop
 |none,mr=>mr=none
 |some b,mr=>∃r c,θ b=some (r,c)/\mr=some r
theorem WM.mono{θ bP:Th}(h:iq θ bP):∀{m mr:Option Nat},WM θ m mr->WM bP m mr
 |none,_,e=>e
 |some _,_,⟨r,c,e1,e2⟩=>⟨r,c,h _ _ e1,e2⟩
section
variable (P:Program) (sl:FuncId->Sl)
def rO(θ:Th)(c:Nat):AO->Obj->Prop
 | .row t l,o=>∃cs vs rest,o= .cells cs t (0,0)/\cs.size=c*P.cellsOf t/\cs.toList=vs++rest/\eU θ l vs/\∀x∈cs.toList,x.oneCell'=true
 | .mp es clock,o=>∃en,o= .map en clock/\Es θ es en.toList
 | .lp st pd g t ps fH body,o=>∃fn tm df,o= .loop {state:=st,pending:=pd,fn:=fn,tmps:=tm,params:=ps.toArray,assign:=fH,body:=body,defers:=df}/\RT (sl g) θ t tm
 | .it m since seen KU,o=>∃mr,o= .mapIter mr since seen.toArray KU/\WM θ m mr
 | .ro f,o=>∃cs t fz,o= .cells cs t fz/\∀k m l,f k m=some l->∃vs:List Value,eU θ l vs/\(∀x∈vs,x.oneCell'=true)/\∀(j:Nat)(v:Value),vs[j]?=some v->cs[k+j]?=some v
theorem rO.mono{P:Program}{sl:FuncId->Sl}{θ bP:Th}(h:iq θ bP){c:Nat}:∀{a:AO}{o:Obj},rO P sl θ c a o->rO P sl bP c a o
 | .row _ _,_,⟨cs,vs,rest,e1,e2,e3,e4,e5⟩=>⟨cs,vs,rest,e1,e2,e3,eU.mono h _ e4,e5⟩
 | .mp _ _,_,⟨en,e1,e2⟩=>⟨en,e1,Es.mono h e2⟩
 | .lp ..,_,⟨fn,tm,df,e1,e2⟩=>⟨fn,tm,df,e1,e2.mono h⟩
 | .it ..,_,⟨mr,e1,e2⟩=>⟨mr,e1,e2.mono h⟩
 | .ro _,_,⟨cs,t,fz,e1,e2⟩=>⟨cs,t,fz,e1,λk m l e=>let⟨vs,h1,h2⟩:=e2 k m l e;⟨vs,eU.mono h _ h1,h2⟩⟩
def zN:Option AO->Bool
 |some (.ro _)=>false
 |some _=>true
 |none=>false
def Im(θ:Th)(h:AH)(k:Nat):Prop:=∃x c,zN (h.get x)=true/\θ x=some (k,c)
theorem gH{x:Option AO}(e:zN x=true):x.isSome:=by cases x with|none=>cases e|some _=>rfl
def GL(P:Program)(θ:Th)(h:AH)(w:World):Prop:=∀g,P.globalNamed "internal/strconv.uint64pow10"=some g->∃ty q,w.heap[g]?=some (.cells (Lib.pow10Tab.map λz=>Value.int .u64 z).toArray ty q)/\¬Im θ h g
structure RH(θ:Th)(h:AH)(n:Nat)(w:World):Prop where
 at_:∀x o,h.get x=some o->∃r c obj,θ x=some (r,c)/\w.heap[r]?=some obj/\rO P sl θ c o obj
 inj:∀x y r c d,(h.get x).isSome->(h.get y).isSome->θ x=some (r,c)->θ y=some (r,d)->x=y
 new:∀x,n<=x->θ x=none
 gl:GL P θ h w
structure Fr(θ:Th)(h:AH)(w:World)(bP:Th)(h':AH)(w':World):Prop where
 os:w'.os=w.os
 tape:w'.tape=w.tape
 output:w'.output=w.output
 size:w.heap.size<=w'.heap.size
 block:∀k,k<w.heap.size->¬Im θ h k->w'.heap[k]?=w.heap[k]?
 le:iq θ bP
 from_:∀k,Im bP h' k->Im θ h k\/w.heap.size<=k
 kind:∀(k:Nat) r,w.heap[k]?=some (.loop r)->∃r',w'.heap[k]?=some (.loop r')
 low:∀x y,θ x=none->bP x≠none->θ y≠none->y<x
 ro:∀x f,h'.get x=some (.ro f)->h.get x=some (.ro f)
theorem Fr.refl(θ:Th)(h:AH)(w:World):Fr θ h w θ h w:=⟨rfl,rfl,rfl,Nat.le_refl _,λ_ _ _=>rfl,iq.refl _,λ_ e=>.inl e,λ_ r e=>⟨r,e⟩,λ_ _ e e'=>absurd e e',λ_ _ e=>e⟩
theorem Fr.trans{θ n_ AX:Th}{h h1 h2:AH}{w w1 w2:World}(a:Fr θ h w n_ h1 w1)(b:Fr n_ h1 w1 AX h2 w2):Fr θ h w AX h2 w2 where
 os:=b.os.trans a.os
 tape:=b.tape.trans a.tape
 output:=b.output.trans a.output
 size:=Nat.le_trans a.size b.size
 block:=λk hk hn=>(b.block k (Nat.lt_of_lt_of_le hk a.size) (λe=>(a.from_ k e).elim hn (λe=>by omega))).trans (a.block k hk hn)
 le:=a.le.trans b.le
 from_:=λk e=>(b.from_ k e).elim (λe=>a.from_ k e) (λe=>.inr (Nat.le_trans a.size e))
 kind:=λk r e=>let⟨r1,e1⟩:=a.kind k r e;b.kind k r1 e1
 low:=λx y e1 e2 e3=>by
  by_cases e:n_ x=none
  .exact b.low x y e e2 (λe4=>e3 (by cases e5:θ y with
    |none=>rfl
    |some r=>rw[a.le y r e5]at e4;cases e4))
  .exact a.low x y e1 e e3
 ro:=λx f e=>a.ro x f (b.ro x f e)
theorem Fr.drew{θ:Th}{h:AH}{w:World}{bP:Th}{h':AH}{w':World}(a:Fr θ h w.drew bP h' w'):Fr θ h w bP h' w':=
 ⟨a.os,a.tape,a.output,a.size,a.block,a.le,a.from_,a.kind,a.low,a.ro⟩
theorem GL.fr{P:Program}{θ:Th}{h:AH}{w:World}{bP:Th}{h':AH}{w':World}(k:GL P θ h w)(F:Fr θ h w bP h' w'):GL P bP h' w':=λg e=>by
 obtain⟨ty,q,e1,e2⟩:=k g e;have hlt:g<w.heap.size:=by
  rcases Nat.lt_or_ge g w.heap.size with h|h
  .exact h
  .rw[Array.getElem?_eq_none h]at e1;cases e1
 exact⟨ty,q,(F.block g hlt e2).trans e1,λhi=>(F.from_ g hi).elim e2 λe=>by omega⟩
variable {P sl}in
theorem RH.WO{θ:Th}{h:AH}{n:Nat}{w:World}{bP:Th}{h':AH}{n':Nat}{w':World}(H:RH P sl θ h n w)
 (a:∀x o,h'.get x=some o->∃r c obj,bP x=some (r,c)/\w'.heap[r]?=some obj/\rO P sl bP c o obj)
 (b:∀x y r c d,(h'.get x).isSome->(h'.get y).isSome->bP x=some (r,c)->bP y=some (r,d)->x=y)(c:∀x,n'<=x->bP x=none)(F:Fr θ h w bP h' w'):RH P sl bP h' n' w'/\Fr θ h w bP h' w':=⟨⟨a,b,c,H.gl.fr F⟩,F⟩
end
end
end
section
noncomputable section
inductive Ex where
 |bT|exit (id:Nat)|goto (l:Nat)|ret
inductive eY where
 |bad|ok (v:AV) (h:AH) (n:Nat)
inductive eZ where
 |bad|ok (x:Ex) (h:AH) (n:Nat) (t:Tr AV)
abbrev FT:=FuncId->List AV->AH->Nat->eY
def bnd{α β:Type}(x:Option α)(f:α->Option β):Option β:=@Option.rec α (λ_=>Option β) none f x
def aJ{α:Type}(x:Option α)(f:α->eY):eY:=@Option.rec α (λ_=>eY) .bad f x
def Oy(x:eY)(f:AV->AH->Nat->eY):eY:=@eY.rec (λ_=>eY) .bad f x
def mQ(x:eY)(f:AV->AH->Nat->eZ):eZ:=@eY.rec (λ_=>eZ) .bad f x
def iO(r:eZ)(g:Ex->AH->Nat->Tr AV->eZ):eZ:=@eZ.rec (λ_=>eZ) .bad g r
def oD(r:eZ)(g:Ex->AH->Nat->Tr AV->eY):eY:=@eZ.rec (λ_=>eY) .bad g r
def CQ(x:Ex)(a b:eZ):eZ:=@Ex.rec (λ_=>eZ) a (λ_=>b) (λ_=>b) b x
def ok1(x:Option AV)(h:AH)(n:Nat):eY:=@Option.rec AV (λ_=>eY) .bad (λv=>.ok v h n) x
def qH{α:Type}(k:Nat):List α->List α:=@Nat.rec (λ_=>List α->List α) (λl=>l) (λ_ ih l=>@List.rec α (λ_=>List α) [] (λ_ r _=>ih r) l) k
def hd{α:Type}(l:List α):Option α:=@List.rec α (λ_=>Option α) none (λa _ _=>some a) l
def CK{α:Type}(l m:List α):List α:=@List.rec α (λ_=>List α) m (λa _ ih=>a::ih) l
def mM{α:Type}(l:List α):Nat:=@List.rec α (λ_=>Nat->Nat) (λk=>k) (λ_ _ ih k=>ih (Nat.succ k)) l 0
def mO{α:Type}(k:Nat):List α->Option (List α):=
 @Nat.rec (λ_=>List α->Option (List α)) (λ_=>some []) (λ_ ih l=>@List.rec α (λ_=>Option (List α)) none (λa r _=>bnd (ih r) λx=>some (a::x)) l) k
def Te{α:Type}(c:List α):List α->Option (List α):=
 @List.rec α (λ_=>List α->Option (List α)) (λl=>some l) (λa _ ih l=>@List.rec α (λ_=>Option (List α)) none (λ_ r _=>bnd (ih r) λx=>some (a::x)) l) c
def uT{α:Type}(c:List α)(o:Nat):List α->Option (List α):=
 @Nat.rec (λ_=>List α->Option (List α)) (Te c) (λ_ ih l=>@List.rec α (λ_=>Option (List α)) none (λa r _=>bnd (ih r) λx=>some (a::x)) l) o
def kY(a b:Int):Bool:=@Int.rec (λ_=>Bool)
 (λm=>@Int.rec (λ_=>Bool) (λk=>Nat.ble m k) (λ_=>false) b)
 (λm=>@Int.rec (λ_=>Bool) (λ_=>true) (λk=>Nat.ble k m) b) a
def fM(a b:Int):Bool:=@Int.rec (λ_=>Bool)
 (λm=>@Int.rec (λ_=>Bool) (λk=>Nat.beq m k) (λ_=>false) b)
 (λm=>@Int.rec (λ_=>Bool) (λ_=>false) (λk=>Nat.beq m k) b) a
def p9(a:Bool):Bool:=bc a false true
def Ez(i:Int)(n:Nat)(f:Nat->Option AV):Option AV:=@Int.rec (λ_=>Option AV) (λk=>bc (Nat.ble (Nat.succ k) n) (f k) none) (λ_=>none) i
mutual
def Ro:Value->Option AV
 | .bool x=>some (.b x)
 | .int k n=>some (.i k n)
 | .string s=>some (.s s.data.toList)
 | .pointer none=>some (.k 0)
 | .slice none 0 0=>some (.k 1)
 | .map none=>some (.k 2)
 | .nilFunc=>some (.k 3)
 | .nilIface=>some (.k 4)
 | .func (.func g) ⟨[]⟩ ⟨[]⟩=>some (.f g [])
 | .agg ⟨cs⟩=>bc (cs.all (·.oneCell')) (bnd (KV cs) λl=>some (.agg l)) none
 |_=>none
def KV:List Value->Option (List AV)
 |[]=>some []
 |v::l=>bnd (Ro v) λa=>bnd (KV l) λb=>some (a::b)
end
def qI(v:AV):Option (List AV):=match v with
 | .agg l=>some l
 | .bQ _=>none
 |v=>some [v]
section
variable (P:Program)
def und(t:TypeId):TypeDesc:=(P.underlying t).getD .invalid
def sz(t:TypeId):Nat:=P.cellsOf t
def Ad(t:TypeId):Option Nat:=(P.info? t).map (·.size)
def zeroV(t:TypeId):Option AV:=bnd ((P.info? t).bind (·.zero)) Ro
def kI(t:TypeId):Option (List AV):=bnd (zeroV P t) qI
def idx(k:Nat)(l:List Nat):Option Nat:=@List.rec Nat (λ_=>Nat->Option Nat) (λ_=>none) (λa _ ih j=>bc (Nat.beq k a) (some j) (ih (Nat.succ j))) l 0
structure EA where run:Tr AV->List AV->Option AV
structure acB where run:Tr AV->List AV->Option (List AV)
structure NtF where run:List AV->Option AV
def CU(j:Nat):NtF:=@Nat.rec (λ_=>NtF) ⟨λl=>@List.rec AV (λ_=>Option AV) none (λa _ _=>some a) l⟩ (λ_ ih=>⟨λl=>@List.rec AV (λ_=>Option AV) none (λ_ r _=>ih.run r) l⟩) j
def KE(s:Sl)(L:List Tmp)(k:Tmp):EA:=
 bc (s.S k) ⟨λt _=>(gp 20 k).run t⟩ (@Option.rec Nat (λ_=>EA) ⟨λ_ _=>none⟩ (λj=>⟨λ_ l=>(CU j).run l⟩) (idx k L))
def coC(v:Value):EA:=⟨λ_ _=>Ro v⟩
def coF(f:FuncId):EA:=⟨λ_ _=>some (.f f [])⟩
def coG:EA:=⟨λ_ _=>none⟩
def co(s:Sl)(L:List Tmp)(x:Operand):EA:=@Operand.rec (λ_=>EA) (KE s L) coC (λ_=>coG) coF x
def col(s:Sl)(L:List Tmp):List Operand->acB
 |[]=>⟨λ_ _=>some []⟩
 |x::r=>⟨λt l=>bnd ((co s L x).run t l) λa=>bnd ((col s L r).run t l) λb=>some (a::b)⟩
structure LdF where run:List AV->Nat->Option AV
def KF(t:TypeId):LdF:=match P.underlying t with
 |none=>⟨λ_ _=>none⟩
 |some (.struct _)|some (.array _ _)=>⟨λl o=>bnd (mO (sz P t) (qH o l)) λx=>some (.agg x)⟩
 |some _=>⟨λl o=>hd (qH o l)⟩
def iD(x:Option AO)(o m:Nat):Option (List AV):=bnd x λb=>@AO.rec (λ_=>Option (List AV)) (λ_ l=>some (qH o l)) (λ_ _=>none) (λ_ _ _ _ _ _ _=>none) (λ_ _ _ _=>none) (λf=>f o m) b
def IQ(x:Option AO):Option (List (AV×AV×Nat)):=bnd x λo=>@AO.rec (λ_=>Option (List (AV×AV×Nat))) (λ_ _=>none) (λes _=>some es) (λ_ _ _ _ _ _ _=>none) (λ_ _ _ _=>none) (λ_=>none) o
def ldN(t:TypeId):Nat:=match P.underlying t with
 |some (.struct _)|some (.array _ _)=>sz P t
 |_=>1
def xO(t:TypeId)(h:AH)(x o:Nat):Option AV:=bnd (iD (h.get x) o (ldN P t)) λl=>(KF P t).run l 0
def gK(k:IntKind)(n:Int):Int:=bc (kY k.min n) (bc (kY n k.max) n (IntKind.wrap k n)) (IntKind.wrap k n)
def qJ(a:List UInt8):List UInt8->Bool:=
 @List.rec UInt8 (λ_=>List UInt8->Bool) (λl=>@List.rec UInt8 (λ_=>Bool) true (λ_ _ _=>false) l)
  (λx _ ih l=>@List.rec UInt8 (λ_=>Bool) false (λy r _=>bc (Nat.beq x.toNat y.toNat) (ih r) false) l) a
structure KW where run:AV->AV->Option Bool
def wT(j k:IntKind):Bool:=decide (j=k)
def EB(f:TypeId->KW):List Field->KW
 |[]=>⟨λ_ _=>some true⟩
 |d::r=>bc (d.name== "_") (EB f r) ⟨λx y=>match x,y with
  | .agg a,.agg b=>bnd ((KF P d.type).run a d.offset) λu=>bnd ((KF P d.type).run b d.offset) λv=>bnd ((f d.type).run u v) λe=>bc e ((EB f r).run x y) (some false)
  |_,_=>none⟩
def qQ:Nat->TypeId->KW
 |0,_=>⟨λ_ _=>none⟩
 |d+1,t=>match und P t with
  | .bool=>⟨λx y=>match x,y with| .b a,.b b=>some (bc a b (p9 b))|_,_=>none⟩
  | .int _=>⟨λx y=>match x,y with| .i j a,.i k b=>bc (wT j k) (some (fM a b)) none|_,_=>none⟩
  | .string=>⟨λx y=>match x,y with| .s a,.s b=>some (qJ a b)|_,_=>none⟩
  | .pointer _=>⟨λx y=>match x,y with| .k 0,.k 0=>some true| .k 0,.p _ _=>some false| .p _ _,.k 0=>some false|_,_=>none⟩
  | .slice _=>⟨λx y=>match x,y with| .k 1,.k 1=>some true| .k 1,.sl ..=>some false| .sl ..,.k 1=>some false| .k 1,.es ..=>some false| .es ..,.k 1=>some false|_,_=>none⟩
  | .map _ _=>⟨λx y=>match x,y with| .k 2,.k 2=>some true| .k 2,.m _=>some false| .m _,.k 2=>some false|_,_=>none⟩
  | .func _ _ _=>⟨λx y=>match x,y with| .k 3,.k 3=>some true| .k 3,.f ..=>some false| .f ..,.k 3=>some false|_,_=>none⟩
  | .interface _=>⟨λx y=>match x,y with| .k 4,.zH ..=>some false| .zH ..,.k 4=>some false|_,_=>none⟩
  | .struct fs=>bc (P.stoodInHeld t) ⟨λ_ _=>none⟩ ⟨λx y=>match x,y with| .agg a,.agg b=>(EB P (qQ d) fs.toList).run (.agg a) (.agg b)|_,_=>none⟩
  |_=>⟨λ_ _=>none⟩
structure WQ where run:AV->AV->Option AV
def sS(f:IntKind->Int->Int->Option AV)(g:AV->AV->Option AV)(x y:AV):Option AV:=
 match x,y with
 | .i j a,.i k b=>bc (wT j k) (f j a b) none
 |x,y=>g x y
def eqO(t:TypeId)(neg:Bool):WQ:=⟨λx y=>match x,y with
 | .s a,.s b=>some (.b (bc neg (p9 (qJ a b)) (qJ a b)))
 |x,y=>bc (P.eqGuardType P.depth t) none (bnd ((qQ P 30 t).run x y) λe=>some (.b (bc neg (p9 e) e)))⟩
def dY(t:TypeId)(op:BinOp):WQ:=
 match op with
 | .add=>⟨sS (λk a b=>some (.i k (gK k (Int.add a b)))) (λx y=>match x,y with| .s a,.s b=>bc (Nat.ble (Nat.add (mM a) (mM b)) 1048576) (some (.s (CK a b))) none|_,_=>none)⟩
 | .sub=>⟨sS (λk a b=>some (.i k (gK k (Int.sub a b)))) (λ_ _=>none)⟩
 | .mul=>⟨sS (λk a b=>some (.i k (gK k (Int.mul a b)))) (λ_ _=>none)⟩
 | .quo=>⟨sS (λk a b=>bc (fM b 0) none (some (.i k (gK k (Int.tdiv a b))))) (λ_ _=>none)⟩
 | .rem=>⟨sS (λk a b=>bc (fM b 0) none (some (.i k (Int.tmod a b)))) (λ_ _=>none)⟩
 | .eql=>⟨sS (λ_ a b=>some (.b (fM a b))) (eqO P t false).run⟩
 | .neq=>⟨sS (λ_ a b=>some (.b (p9 (fM a b)))) (eqO P t true).run⟩
 | .lss=>⟨sS (λ_ a b=>some (.b (p9 (kY b a)))) (λ_ _=>none)⟩
 | .leq=>⟨sS (λ_ a b=>some (.b (kY a b))) (λ_ _=>none)⟩
 | .gtr=>⟨sS (λ_ a b=>some (.b (p9 (kY a b)))) (λ_ _=>none)⟩
 | .geq=>⟨sS (λ_ a b=>some (.b (kY b a))) (λ_ _=>none)⟩
 | .shr=>⟨sS (λk a b=>bc (fM b 1) (some (.i k (a/2))) none) (λ_ _=>none)⟩
 |_=>⟨λ_ _=>none⟩
structure WR where run:Tr AV->List AV->List AV->Option (List AV)
def AY(t:TypeId):Option (Nat->Option (Nat×Nat)):=match P.underlying t with
 |some (.array _ e)=>(P.info? e).map λi k=>some (Nat.mul k i.size,i.size)
 |some (.struct fs)=>(fs.toList.mapM λf=>(P.info? f.type).map λi=>(f.offset,i.size)).map λl k=>l[k]?
 |_=>none
def EC(s:Sl)(L:List Tmp)(pl:Nat->Option (Nat×Nat)):List (Nat×Operand)->WR
 |[]=>⟨λ_ _ c=>some c⟩
 |(k,x)::r=>match pl k with
  |none=>⟨λ_ _ _=>none⟩
  |some (o,w)=>⟨λt l c=>bnd ((co s L x).run t l) λa=>bnd (qI a) λu=>bc (Nat.beq (mM u) w) (bnd (uT u o c) λc=>(EC s L pl r).run t l c) none⟩
def qR(t:TypeId):TypeId:=match und P t with| .slice e=>e| .array _ e=>e| .map _ e=>e|_=>0
def VZ(t:TypeId)(k:Nat):Option Field:=match P.underlying t with|some (.struct fs)=>fs[k]?|_=>none
def rep(n:Nat)(z:List AV):List AV:=@Nat.rec (λ_=>List AV) [] (λ_ l=>CK z l) n
def xP(l:List UInt8):List AV:=@List.rec UInt8 (λ_=>List AV) [] (λb _ ih=>.i .u8 (Int.ofNat b.toNat)::ih) l
def GU(v:AV):Option UInt8:=match v with| .i .u8 (.ofNat k)=>bc (Nat.ble k 255) (some (UInt8.ofNat k)) none|_=>none
def oF(l:List AV):Option (List UInt8):=@List.rec AV (λ_=>Option (List UInt8)) (some []) (λv _ ih=>bnd (GU v) λb=>bnd ih λr=>some (b::r)) l
def iZ(h:AH)(s n:Nat)(v:AV):Option (List AV):=match v with
 | .k 1=>some []
 | .s l=>bc (Nat.beq s 1) (bnd (mO n l) λl=>some (xP l)) none
 | .es _ _=>bc (Nat.beq n 0) (some []) none
 | .sl x _ o _ _=>bnd (iD (h.get x) o (Nat.mul n s)) λl=>mO (Nat.mul n s) l
 |_=>none
def lM(v:AV):Option Nat:=match v with
 | .k 1=>some 0
 | .s l=>some (mM l)
 | .sl _ _ _ n _=>some n
 | .es _ _=>some 0
 |_=>none
def nP(q:KW)(k:AV)(l:List (AV×AV×Nat)):Nat->Option (Option (Nat×AV)):=
 @List.rec (AV×AV×Nat) (λ_=>Nat->Option (Option (Nat×AV))) (λ_=>some none) (λe _ ih i=>bnd (q.run k e.1) λb=>bc b (some (some (i,e.2.1))) (ih (Nat.succ i))) l
def ED(k v:AV)(i:Nat):List (AV×AV×Nat)->List (AV×AV×Nat):=
 @Nat.rec (λ_=>List (AV×AV×Nat)->List (AV×AV×Nat)) (λl=>@List.rec (AV×AV×Nat) (λ_=>List (AV×AV×Nat)) [] (λe r _=>(k,v,e.2.2)::r) l)
  (λ_ ih l=>@List.rec (AV×AV×Nat) (λ_=>List (AV×AV×Nat)) [] (λe r _=>e::ih r) l) i
structure Rp where run:AV->Bool
def EG(f:TypeId->Rp):List Field->Rp
 |[]=>⟨λ_=>true⟩
 |d::r=>bc (d.name== "_") (EG f r) ⟨λx=>match x with
  | .agg a=>@Option.rec AV (λ_=>Bool) false (λu=>bc ((f d.type).run u) ((EG f r).run x) false) ((KF P d.type).run a d.offset)
  |_=>false⟩
def xQ:Nat->TypeId->Rp
 |0,_=>⟨λ_=>false⟩
 |d+1,t=>match P.underlying t with
  |some .bool=>⟨λ_=>true⟩
  |some (.int _)=>⟨λ_=>true⟩
  |some .string=>⟨λ_=>true⟩
  |some (.struct fs)=>⟨λx=>match x with| .agg a=>(EG P (xQ d) fs.toList).run (.agg a)|_=>false⟩
  |_=>⟨λ_=>false⟩
def KX(k:AV):Bool:=match k with| .i _ _=>true| .s _=>true| .b _=>true|_=>false
def mk(h:AH)(n:Nat)(v:AV)(o:AO):eY:=.ok v (h.set n o) (Nat.succ n)
structure ApF where run:AH->Nat->AV->AV->eY
def jq(e:TypeId)(w:Nat):ApF:=⟨λh n x y=>
 aJ (lM x) λlx=>aJ (lM y) λly=>aJ (iZ h w lx x) λcx=>aJ (iZ h w ly y) λcy=>
  bc (Nat.ble (Nat.add lx ly) 1048576)
  (match x with
  | .sl b _ o _ (some c)=>
   bc (Nat.ble (Nat.add lx ly) c)
    (match h.get b with
     |some (.row t l)=>aJ (uT cy (Nat.add o (Nat.mul lx w)) l) λl=>.ok (.sl b 0 o (Nat.add lx ly) (some c)) (h.set b (.row t l)) n
     |_=>.bad)
    (mk h n (.sl n 0 0 (Nat.add lx ly) none) (.row e (CK cx cy)))
  | .k 1=>bc (Nat.beq ly 0) (.ok (.k 1) h n) (mk h n (.sl n 0 0 ly none) (.row e cy))
  | .sl b 0 0 _ none=>
   (match h.get b with
    |some (.row t l)=>bc (Nat.beq t e) (bc (Nat.beq (mM l) (Nat.mul lx w)) (mk (h.del b) n (.sl n 0 0 (Nat.add lx ly) none) (.row e (CK cx cy)))
     (bc (Nat.beq w 0) .bad (aJ (uT cy (Nat.mul lx w) l) λl=>.ok (.sl b 0 0 (Nat.add lx ly) none) (h.set b (.row t l)) n))) .bad
    |_=>.bad)
  |_=>.bad) .bad⟩
def AZ(x:Option Int)(d:Nat):Option Nat:=@Option.rec Int (λ_=>Option Nat) (some d) (λn=>@Int.rec (λ_=>Option Nat) (λk=>some k) (λ_=>none) n) x
def oH(c:List UInt8)(lo hi:Option Int):Option AV:=
 bnd (AZ lo 0) λa=>bnd (AZ hi (mM c)) λz=>bc (Nat.ble a z) (bnd (mO z c) λu=>some (.s (qH a u))) none
def EH(w:Nat)(b l o n:Nat)(c:Option Nat)(lo hi:Option Int):Option AV:=
 bnd (AZ lo 0) λa=>bnd (AZ hi n) λz=>bc (Nat.ble a z) (@Option.rec Nat (λ_=>Option AV)
  (bc (Nat.ble z n) (bc (Nat.beq a 0) (some (.sl b l o z none)) (bc (Nat.ble (Nat.succ a) z) (some (.sl b (Nat.add l a) (Nat.add o (Nat.mul a w)) (Nat.sub z a) none)) (some (.es ⟨0,0,none⟩ 0)))) none)
  (λc=>bc (Nat.ble z c) (some (.sl b 0 (bc (Nat.beq c a) o (Nat.add o (Nat.mul a w))) (Nat.sub z a) (some (Nat.sub c a)))) none) c) none
def EI(w m b o:Nat)(lo hi:Option Int):Option AV:=
 bnd (AZ lo 0) λa=>bnd (AZ hi m) λz=>bc (Nat.ble a z) (bc (Nat.ble z m) (some (.sl b 0 (bc (Nat.beq m a) o (Nat.add o (Nat.mul a w))) (Nat.sub z a) (some (Nat.sub m a)))) none) none
structure acD where run:Tr AV->List AV->Option (Option Int)
def sU(s:Sl)(L:List Tmp)(x:Option Operand):acD:=match x with
 |none=>⟨λ_ _=>some none⟩
 |some x=>⟨λt l=>match(co s L x).run t l with|some (.i _ n)=>some (some n)|_=>none⟩
def lookO(q:KW)(ck:Rp)(zv:Option AV)(ok:Bool)(h:AH)(x k:AV):Option AV:=
 bc (ck.run k) (bnd (match x with| .m b=>bnd (IQ (h.get b)) λes=>nP q k es 0| .k 2=>some none|_=>none) λr=>
  @Option.rec (Nat×AV) (λ_=>Option AV) (bnd zv λz=>some (bc ok (.bQ [z,.b false]) z)) (λv=>some (bc ok (.bQ [v.2,.b true]) v.2)) r) none
def CV(q:KW)(ck:Rp)(h:AH)(n:Nat)(x k v:AV):eY:=
 match x with
 | .m b=>match h.get b with
  |some (.mp es c)=>bc (ck.run k) (aJ (nP q k es 0) λr=>@Option.rec (Nat×AV) (λ_=>eY) (.ok (.bQ []) (h.set b (.mp (CK es [(k,v,c)]) (Nat.succ c))) n)
   (λi=>bc (KX k) (.ok (.bQ []) (h.set b (.mp (ED k v i.1 es) c)) n) .bad) r) .bad
  |_=>.bad
 |_=>.bad
def xR(w:Nat)(h:AH)(n:Nat)(a v:AV):eY:=
 match a with
 | .p x o=>match h.get x with
  |some (.row t l)=>aJ (qI v) λu=>bc (Nat.beq (mM u) w) (aJ (uT u o l) λl=>.ok (.bQ []) (h.set x (.row t l)) n) .bad
  |_=>.bad
 |_=>.bad
def qU(s:Nat)(h:AH)(n:Nat)(d x:AV):eY:=
 aJ (lM d) λa=>aJ (lM x) λb=>aJ (iZ h s (Nat.min b a) x) λc=>match d with
  | .sl r _ o _ _=>(match h.get r with
   |some (.row ty l)=>aJ (uT c o l) λl=>.ok (.i .i64 (Int.ofNat (Nat.min b a))) (h.set r (.row ty l)) n
   |_=>.bad)
  | .k 1=>.ok (.i .i64 0) h n
  |_=>.bad
structure Cl where run:FT->Tr AV->List AV->AH->Nat->eY
abbrev YT:=Nat->List AV->FT->AH->Nat->eY
def KY(s:Sl)(L:List Tmp)(x:Operand):Cl:=⟨λ_ t l h n=>ok1 ((co s L x).run t l) h n⟩
def CX(s:Sl)(L:List Tmp)(c a b:Operand):Cl:=⟨λ_ t l h n=>match(co s L c).run t l with|some (.b true)=>ok1 ((co s L a).run t l) h n|some (.b false)=>ok1 ((co s L b).run t l) h n|_=>.bad⟩
def EJ(s:Sl)(L:List Tmp)(e:TypeId):Cl:=⟨λ_ _ _ h n=>aJ (kI P e) λz=>bc (Nat.beq (mM z) (sz P e)) (mk h n (.p n 0) (.row e z)) .bad⟩
def Tf(s:Sl)(L:List Tmp)(e:TypeId)(x:Operand):Cl:=⟨λ_ t l h n=>aJ ((co s L x).run t l) λv=>aJ (qI v) λc=>bc (Nat.beq (mM c) (sz P e)) (mk h n (.p n 0) (.row e c)) .bad⟩
def xS(s:Sl)(L:List Tmp)(ty:TypeId)(ps:List (Nat×Operand)):Cl:=match AY P ty with
 |none=>⟨λ_ _ _ _ _=>.bad⟩
 |some pl=>⟨λ_ t l h n=>aJ (kI P ty) λz=>aJ ((EC s L pl ps).run t l z) λc=>.ok (.agg c) h n⟩
def kJ(s:Sl)(L:List Tmp)(ty:TypeId)(len:Nat)(ps:List (Nat×Operand)):Cl:=match P.underlying ty with
 |some (.slice e)=>⟨λ_ t l h n=>aJ (kI P e) λz=>aJ (Ad P e) λw=>bc (Nat.beq (mM z) w) (bc (Nat.ble (Nat.mul len w) 1048576) (aJ ((EC s L (λk=>some (Nat.mul k w,w)) ps).run t l (rep len z)) λc=>
  mk h n (.sl n 0 0 len (some len)) (.row e c)) .bad) .bad⟩
 |_=>⟨λ_ _ _ _ _=>.bad⟩
def CY(s:Sl)(L:List Tmp)(ty:TypeId)(a:Operand):Cl:=⟨λ_ t l h n=>match(co s L a).run t l with|some (.p x k)=>ok1 (xO P ty h x k) h n|_=>.bad⟩
def EK(s:Sl)(L:List Tmp)(ty:TypeId)(a x:Operand):Cl:=⟨λ_ t l h n=>aJ ((co s L a).run t l) λa=>aJ ((co s L x).run t l) λx=>aJ (Ad P ty) λw=>xR w h n a x⟩
def qb(s:Sl)(L:List Tmp)(x:Operand):Cl:=⟨λ_ t l h n=>aJ ((co s L x).run t l) λv=>match v with| .p _ _=>.ok v h n| .f _ _=>.ok v h n| .y _=>.ok v h n|_=>.bad⟩
def A8(s:Sl)(L:List Tmp)(op:BinOp)(ty:TypeId)(x y:Operand):Cl:=⟨λ_ t l h n=>aJ ((co s L x).run t l) λx=>aJ ((co s L y).run t l) λy=>ok1 ((dY P ty op).run x y) h n⟩
def OM(s:Sl)(L:List Tmp)(x:Operand):Cl:=⟨λ_ t l h n=>aJ ((co s L x).run t l) λv=>match v with| .b v=>.ok (.b (p9 v)) h n|_=>.bad⟩
def OO(s:Sl)(L:List Tmp)(x:Operand):Cl:=⟨λ_ t l h n=>aJ ((co s L x).run t l) λv=>match v with| .i k v=>.ok (.i k (gK k (Int.sub 0 v))) h n|_=>.bad⟩
def OP(t:TypeId):Bool:=match P.underlying t with|some (.int .u8)=>true|_=>false
def oI(s:Sl)(L:List Tmp)(c d:TypeId)(x:Operand):Cl:=match P.underlying c,P.underlying d with
 |some _,some (.int k)=>⟨λ_ t l h n=>match(co s L x).run t l with|some (.i _ v)=>.ok (.i k (gK k v)) h n|_=>.bad⟩
 |some .string,some .string=>⟨λ_ t l h n=>match(co s L x).run t l with|some (.s l)=>.ok (.s l) h n|_=>.bad⟩
 |some (.slice e),some .string=>bc (OP P e) ⟨λ_ t l h n=>match(co s L x).run t l with
  |some (.k 1)=>.ok (.s []) h n
  |some (.sl b m o k c)=>aJ (iZ h 1 k (.sl b m o k c)) λu=>aJ (oF u) λb=>.ok (.s b) h n
  |_=>.bad⟩ ⟨λ_ _ _ _ _=>.bad⟩
 |_,_=>⟨λ_ _ _ _ _=>.bad⟩
def iJ(s:Sl)(L:List Tmp)(ty:TypeId)(x:Operand):Cl:=⟨λ_ t l h n=>aJ ((co s L x).run t l) λv=>match P.underlying ty with|some (.interface _)=>.bad|some _=>.ok (.zH ty v) h n|none=>.bad⟩
def qd(s:Sl)(L:List Tmp)(g:FuncId)(cs:List Operand):Cl:=⟨λ_ t l h n=>aJ ((col s L cs).run t l) λc=>.ok (.f g c) h n⟩
def CZ(s:Sl)(L:List Tmp):Cl:=⟨λ_ _ _ h n=>mk h n (.m n) (.mp [] 0)⟩
def qg(s:Sl)(L:List Tmp)(ty:TypeId):Cl:=⟨λ_ _ _ h n=>match P.underlying ty with|some (.map _ _)=>mk h n (.m n) (.mp [] 0)|_=>.bad⟩
def mR(s:Sl)(L:List Tmp)(ty:TypeId)(x y:Operand):Cl:=match P.underlying ty,P.info? (qR P ty),kI P (qR P ty)with
 |some (.slice e),some i,some z=>bc (Nat.beq (mM z) i.size) (bc (Nat.ble i.bytes 65536)
  ⟨λ_ t l h n=>match(co s L x).run t l,(co s L y).run t l with
   |some (.i _ (.ofNat a)),some (.i _ (.ofNat c))=>bc (Nat.ble a c) (bc (Nat.ble c 1048576) (mk h n (.sl n 0 0 a (some c)) (.row e (rep c z))) .bad) .bad
   |_,_=>.bad⟩ ⟨λ_ _ _ _ _=>.bad⟩) ⟨λ_ _ _ _ _=>.bad⟩
 |_,_,_=>⟨λ_ _ _ _ _=>.bad⟩
def xU(s:Sl)(L:List Tmp)(ty:TypeId)(x:Operand)(lo hi:Option Operand):Cl:=match P.underlying ty with
 |some .string=>⟨λ_ t l h n=>aJ ((sU s L lo).run t l) λlo=>aJ ((sU s L hi).run t l) λhi=>match(co s L x).run t l with|some (.s c)=>ok1 (oH c lo hi) h n|_=>.bad⟩
 |some (.slice e)=>(match Ad P e with
  |some w=>⟨λ_ t l h n=>aJ ((sU s L lo).run t l) λlo=>aJ ((sU s L hi).run t l) λhi=>match(co s L x).run t l with|some (.sl b m o k c)=>ok1 (EH w b m o k c lo hi) h n|_=>.bad⟩
  |none=>⟨λ_ _ _ _ _=>.bad⟩)
 |some (.array m e)=>(match Ad P e with
  |some w=>⟨λ_ t l h n=>aJ ((sU s L lo).run t l) λlo=>aJ ((sU s L hi).run t l) λhi=>match(co s L x).run t l with|some (.p b o)=>ok1 (EI w m b o lo hi) h n|_=>.bad⟩
  |none=>⟨λ_ _ _ _ _=>.bad⟩)
 |_=>⟨λ_ _ _ _ _=>.bad⟩
def jJ(s:Sl)(L:List Tmp)(ty:TypeId)(x:Operand)(f:Nat):Cl:=match VZ P ty f with
 |none=>⟨λ_ _ _ _ _=>.bad⟩
 |some d=>match Ad P d.type with
  |none=>⟨λ_ _ _ _ _=>.bad⟩
  |some w=>bc (Nat.beq w 0) ⟨λ_ _ _ _ _=>.bad⟩ ⟨λ_ t l h n=>match(co s L x).run t l with|some (.p b k)=>.ok (.p b (Nat.add k d.offset)) h n|_=>.bad⟩
def xV(s:Sl)(L:List Tmp)(ty:TypeId)(x:Operand)(f:Nat):Cl:=match VZ P ty f with
 |none=>⟨λ_ _ _ _ _=>.bad⟩
 |some d=>⟨λ_ t l h n=>match(co s L x).run t l with|some (.agg c)=>ok1 ((KF P d.type).run c d.offset) h n|_=>.bad⟩
def jK(s:Sl)(L:List Tmp)(ty:TypeId)(x ix:Operand):Cl:=match P.underlying ty with
 |some (.slice e)=>(match Ad P e with
  |none=>⟨λ_ _ _ _ _=>.bad⟩
  |some w=>⟨λ_ t l h n=>match(co s L x).run t l,(co s L ix).run t l with|some (.sl b _ o m _),some (.i _ k)=>ok1 (Ez k m λk=>some (.p b (Nat.add o (Nat.mul k w)))) h n|_,_=>.bad⟩)
 |some (.array m e)=>(match Ad P e with
  |none=>⟨λ_ _ _ _ _=>.bad⟩
  |some w=>⟨λ_ t l h n=>match(co s L x).run t l,(co s L ix).run t l with|some (.p b o),some (.i _ k)=>ok1 (Ez k m λk=>some (.p b (Nat.add o (Nat.mul k w)))) h n|_,_=>.bad⟩)
 |_=>⟨λ_ _ _ _ _=>.bad⟩
def xW(s:Sl)(L:List Tmp)(ty:TypeId)(x ix:Operand):Cl:=match P.underlying ty with
 |some .string=>⟨λ_ t l h n=>match(co s L x).run t l,(co s L ix).run t l with|some (.s c),some (.i _ k)=>ok1 (Ez k 1048576 λk=>bnd (hd (qH k c)) λb=>some (.i .u8 (Int.ofNat b.toNat))) h n|_,_=>.bad⟩
 |some (.array m e)=>(match Ad P e with
  |none=>⟨λ_ _ _ _ _=>.bad⟩
  |some w=>⟨λ_ t l h n=>match(co s L x).run t l,(co s L ix).run t l with|some (.agg c),some (.i _ k)=>ok1 (Ez k m λk=>(KF P e).run c (Nat.mul k w)) h n|_,_=>.bad⟩)
 |_=>⟨λ_ _ _ _ _=>.bad⟩
def sV(s:Sl)(L:List Tmp)(ty:TypeId)(x k:Operand)(ok:Bool):Cl:=match P.underlying ty with
 |some (.map kt e)=>⟨λ_ t l h n=>aJ ((co s L x).run t l) λx=>aJ ((co s L k).run t l) λk=>ok1 (lookO (qQ P 30 kt) (xQ P 30 kt) (zeroV P e) ok h x k) h n⟩
 |_=>⟨λ_ _ _ _ _=>.bad⟩
def jL(s:Sl)(L:List Tmp)(ty:TypeId)(m k x:Operand):Cl:=match P.underlying ty with
 |some (.map kt _)=>⟨λ_ t l h n=>aJ ((co s L m).run t l) λm=>aJ ((co s L k).run t l) λk=>aJ ((co s L x).run t l) λx=>CV (qQ P 30 kt) (xQ P 30 kt) h n m k x⟩
 |_=>⟨λ_ _ _ _ _=>.bad⟩
def oJ(s:Sl)(L:List Tmp)(x:Operand)(k:Nat):Cl:=⟨λ_ t l h n=>match(co s L x).run t l with|some (.bQ c)=>ok1 (hd (qH k c)) h n|_=>.bad⟩
def GV(s:Sl)(Y:YT)(L:List Tmp)(g:Operand)(args:List Operand):Cl:=⟨λf t l h n=>aJ ((co s L g).run t l) λg=>aJ ((col s L args).run t l) λc=>match g with
 | .f g cap=>f g (CK c cap) h n
 | .y r=>Y r c f h n
 |_=>.bad⟩
def GX(ty:TypeId)(nm:String):Option FuncId:=match P.underlying ty with
 |some (.pointer _)=>none
 |some _=>bnd (P.info? ty) λi=>bnd (i.methods.toList.find? (·.name==nm)) λm=>bc m.path.isEmpty (match m.func with|some (g,false)=>some g|_=>none) none
 |none=>none
def sW(s:Sl)(L:List Tmp)(x:Operand)(nm:String)(args:List Operand):Cl:=⟨λf t l h n=>match(co s L x).run t l with
 |some (.zH ty v)=>aJ ((col s L args).run t l) λc=>aJ (GX P ty nm) λg=>f g (v::c) h n
 |_=>.bad⟩
def KZ(s:Sl)(L:List Tmp)(ty:TypeId)(x:Operand):Cl:=match P.underlying ty with
 |some .string=>⟨λ_ t l h n=>match(co s L x).run t l with|some (.s c)=>.ok (.i .i64 (Int.ofNat (mM c))) h n|_=>.bad⟩
 |some (.slice _)=>⟨λ_ t l h n=>match(co s L x).run t l with|some (.sl _ _ _ m _)=>.ok (.i .i64 (Int.ofNat m)) h n|some (.k 1)=>.ok (.i .i64 0) h n|some (.es _ _)=>.ok (.i .i64 0) h n|_=>.bad⟩
 |some (.array m _)=>⟨λ_ t l h n=>aJ ((co s L x).run t l) λ_=>.ok (.i .i64 (Int.ofNat m)) h n⟩
 |some (.map _ _)=>⟨λ_ t l h n=>match(co s L x).run t l with|some (.m r)=>aJ (IQ (h.get r)) (λes=>.ok (.i .i64 (Int.ofNat (mM es))) h n)|some (.k 2)=>.ok (.i .i64 0) h n|_=>.bad⟩
 |_=>⟨λ_ _ _ _ _=>.bad⟩
def V3(ty:TypeId):Bool:=match P.underlying ty with|some (.slice _)=>true|some .string=>true|_=>false
def xu(s:Sl)(L:List Tmp)(ty EL:TypeId)(a x:Operand):Cl:=match P.underlying ty,P.info? (qR P ty),kI P (qR P ty)with
 |some (.slice e),some i,some z=>bc (V3 P EL) (bc (Nat.beq (mM z) i.size) (bc (Nat.beq i.size 0) ⟨λ_ _ _ _ _=>.bad⟩ (bc (Nat.ble i.bytes 65536)
  ⟨λ_ t l h n=>aJ ((co s L a).run t l) λa=>aJ ((co s L x).run t l) λx=>(jq e i.size).run h n a x⟩ ⟨λ_ _ _ _ _=>.bad⟩)) ⟨λ_ _ _ _ _=>.bad⟩) ⟨λ_ _ _ _ _=>.bad⟩
 |_,_,_=>⟨λ_ _ _ _ _=>.bad⟩
def GY(s:Sl)(L:List Tmp)(ty:TypeId)(d x:Operand):Cl:=match P.underlying ty with
 |some (.slice e)=>(match Ad P e with
  |some w=>⟨λ_ t l h n=>aJ ((co s L d).run t l) λd=>aJ ((co s L x).run t l) λx=>qU w h n d x⟩
  |none=>⟨λ_ _ _ _ _=>.bad⟩)
 |_=>⟨λ_ _ _ _ _=>.bad⟩
def K3(s:Sl)(L:List Tmp)(x y:Operand):Cl:=⟨λ_ t l h n=>match(co s L x).run t l,(co s L y).run t l with|some (.i k a),some (.i _ b)=>.ok (.i k (bc (kY b a) a b)) h n|_,_=>.bad⟩
def K4(s:Sl)(L:List Tmp)(x y:Operand):Cl:=⟨λ_ t l h n=>match(co s L x).run t l,(co s L y).run t l with|some (.i k a),some (.i _ b)=>.ok (.i k (bc (kY a b) a b)) h n|_,_=>.bad⟩
def A9(s:Sl)(L:List Tmp)(ty:TypeId)(x:Operand):Cl:=match P.underlying ty with
 |some (.map _ _)=>⟨λ_ t l h n=>match(co s L x).run t l with
  |some (.m b)=>(match h.get b with
   |some (.mp _ oK)=>mk h n (.p n 0) (.it (some b) oK [] oK)
   |_=>.bad)
  |some (.k 2)=>mk h n (.p n 0) (.it none 0 [] 0)
  |_=>.bad⟩
 |_=>⟨λ_ _ _ _ _=>.bad⟩
def K5(h:AH)(n i:Nat):eY:=match h.get i with
 |some (.it none _ _ _)=>.ok (.bQ [.b false]) h n
 |some (.it (some b) since [] _)=>(match h.get b with
  |some (.mp [] _)=>.ok (.bQ [.b false]) h n
  |some (.mp [(k,v,c)] oK)=>bc (Nat.ble (Nat.succ c) since) (.ok (.bQ [.b true,k,v]) (h.set i (.it (some b) since [c] oK)) n) .bad
  |_=>.bad)
 |some (.it (some b) _ [q] KU)=>(match h.get b with
  |some (.mp [(_,_,c)] _)=>bc (Nat.beq c q) (bc (Nat.ble (Nat.succ c) KU) (.ok (.bQ [.b false]) h n) .bad) .bad
  |_=>.bad)
 |_=>.bad
def EM(h:AH)(n i:Nat):eY:=match h.get i with
 |some (.it (some b) _ [q] KU)=>(match h.get b with
  |some (.mp [(k,v,c)] oK)=>bc (Nat.beq oK KU) (bc (Nat.beq c q) (.ok (.bQ [k,v]) h n) .bad) .bad
  |_=>.bad)
 |_=>.bad
def GZ(s:Sl)(L:List Tmp)(x:Operand):Cl:=⟨λ_ t l h n=>match(co s L x).run t l with|some (.p i 0)=>K5 h n i|_=>.bad⟩
def A_(s:Sl)(L:List Tmp)(x:Operand):Cl:=⟨λ_ t l h n=>match(co s L x).run t l with|some (.p i 0)=>EM h n i|_=>.bad⟩
def K6:Cl:=⟨λ_ _ _ _ _=>.bad⟩
def cop(s:Sl)(Y:YT)(L:List Tmp)(o:Oper):Cl:=
 match o.op with
 | .move x| .assign x=>KY s L x
 | .pick c a b=>CX s L c a b
 | .alloc e=>EJ P s L e
 | .box e x=>Tf P s L e x
 | .build ty ps=>xS P s L ty ps.toList
 | .buildSlice ty len ps=>kJ P s L ty len ps.toList
 | .load ty a=>CY P s L ty a
 | .store ty a x=>EK P s L ty a x
 | .nilCheck x=>qb s L x
 | .binOp op ty x y _=>A8 P s L op ty x y
 | .unOp .not _ x=>OM s L x
 | .unOp .neg _ x=>OO s L x
 | .convert c d x=>oI P s L c d x
 | .makeInterface ty x=>iJ P s L ty x
 | .makeFunc (.func g) ⟨[]⟩ cs=>qd s L g cs.toList
 | .makeMap _ none=>CZ s L
 | .makeMap ty (some (.const (.int _ _)))=>qg P s L ty
 | .makeSlice ty x y=>mR P s L ty x y
 | .slice ty x lo hi none=>xU P s L ty x lo hi
 | .fieldAddr ty x f=>jJ P s L ty x f
 | .field ty x f=>xV P s L ty x f
 | .indexAddr ty x ix=>jK P s L ty x ix
 | .index ty x ix=>xW P s L ty x ix
 | .lookup ty x k ok=>sV P s L ty x k ok
 | .mapUpdate ty m k x| .insert ty m k x=>jL P s L ty m k x
 | .extract x k=>oJ s L x k
 | .range ty x=>A9 P s L ty x
 | .next x false=>GZ s L x
 | .entry x=>A_ s L x
 | .call {callee:=.value g,args,..}=>GV s Y L g args.toList
 | .call {callee:=.invoke x nm,args,..}=>sW P s L x nm args.toList
 | .call {callee:=.builtin b,args,argTypes}=>
  match b,args.toList with
  | .len,[x]=>(match argTypes.toList with|[ty]=>KZ P s L ty x|_=>K6)
  | .append,[a,x]=>(match argTypes.toList with|[ty,EL]=>xu P s L ty EL a x|_=>K6)
  | .copy,[d,x]=>(match argTypes.toList with|ty::_=>GY P s L ty d x|_=>K6)
  | .max,[x,y]=>K3 s L x y
  | .min,[x,y]=>K4 s L x y
  |_,_=>K6
 |_=>K6
end
end
end
section
noncomputable section
def dO:Op->Nat
 | .move _| .assign _| .pick ..| .build ..| .nilCheck _| .binOp ..| .unOp ..| .convert ..| .makeInterface ..| .makeFunc ..| .slice ..| .fieldAddr ..| .field ..| .indexAddr ..| .index ..| .extract ..=>0
 | .load ..| .lookup ..=>1
 | .alloc _| .box ..| .buildSlice ..| .makeMap ..| .makeSlice ..=>2
 | .call {callee:=.builtin .len,..}=>1
 | .call {callee:=.builtin .max,..}| .call {callee:=.builtin .min,..}=>0
 |_=>3
section
variable (P:Program) (sl:FuncId->Sl)
structure Cc where run:FT->AH->Nat->Tr AV->eZ
structure Cg where run:FT->AH->Nat->Tr AV->List AV->eZ
structure PtF where run:Tr AV->AV->Option (Tr AV)
def uU(s:Sl)(d:Tmp):PtF:=bc (Nat.ble (Nat.succ d) s.N) (bc (s.S d) ⟨λt v=>some ((pp 20 d).run v t)⟩ ⟨λt _=>some t⟩) ⟨λ_ _=>none⟩
structure GdF where run:Tr AV->List AV->Option Bool
def G5(s:Sl)(L:List Tmp)(ops:Array Oper):Option (Nat×Bool)->GdF
 |none=>⟨λ_ _=>some true⟩
 |some (j,w)=>match(ops[j]?).bind (·.dst)with
  |some d=>⟨λt l=>match(co s L (.tmp d)).run t l with|some (.b x)=>some (bc w x (p9 x))|some _=>some false|none=>none⟩
  |none=>⟨λ_ _=>none⟩
structure Tg where run:Tr AV->List AV->AV->(Tr AV->List AV->eZ)->eZ
def Rq(s:Sl)(d:Option Tmp):Tg:=@Option.rec Tmp (λ_=>Tg) ⟨λt l _ k=>k t l⟩ (λd=>bc (Nat.ble (Nat.succ d) s.N) (bc (s.S d) ⟨λt l v k=>k ((pp 20 d).run v t) l⟩ ⟨λt l v k=>k t (v::l)⟩) ⟨λ_ _ _ _=>.bad⟩) d
def OQ(s:Sl)(d:Option Tmp)(L:List Tmp):List Tmp:=@Option.rec Tmp (λ_=>List Tmp) L (λd=>bc (s.S d) L (d::L)) d
def g0(c:Cl)(p:Tg)(k:Cg):Cg:=⟨λf h n t l=>mQ (c.run f t l h n) λv h n=>p.run t l v λt l=>k.run f h n t l⟩
def g1(g:GdF)(c:Cl)(p:Tg)(k:Cg):Cg:=⟨λf h n t l=>@Option.rec Bool (λ_=>eZ) .bad (λb=>bc b
 (mQ (c.run f t l h n) λv h n=>p.run t l v λt l=>k.run f h n t l)
 (p.run t l (.bQ []) λt l=>k.run f h n t l)) (g.run t l)⟩
def gE:Cg:=⟨λ_ h n t _=>.ok .bT h n t⟩
def C8(s:Sl)(Y:YT)(ops:Array Oper)(l:List Oper):List Tmp->Cg:=
 @List.rec Oper (λ_=>List Tmp->Cg) (λ_=>gE) (λo _ ih L=>
  @Option.rec (Nat×Bool) (λ_=>Cg) (g0 (cop P s Y L o) (Rq s o.dst) (ih (OQ s o.dst L)))
   (λg=>g1 (G5 s L ops (some g)) (cop P s Y L o) (Rq s o.dst) (ih (OQ s o.dst L))) o.guard) l
def opT:Operand->List Tmp| .tmp k=>[k]|_=>[]
def bit(m i:Nat):Bool:=Nat.beq (Nat.land (Nat.shiftRight m i) 1) 1
def IU(A:List Nat)(o:Oper):Nat:=o.after.toList.foldl (λm e=>bc (Region.binds .any e) (Nat.lor (Nat.lor m (Nat.shiftLeft 1 e.on)) (A.getD e.on 0)) m) 0
def kE(ops:List Oper):List Nat:=ops.foldl (λA o=>A++[IU A o]) []
def zI(ops:List Oper)(o:Oper):List Tmp:=o.op.operands.toList.flatMap opT++(match o.guard with
 |some (j,_)=>(match ops[j]? with|some q=>q.dst.toList|none=>[])
 |none=>[])
def uV:List Oper->Nat->List (Nat×Tmp)
 |[],_=>[]
 |o::l,i=>match o.dst with|some d=>(i,d)::uV l (i+1)|none=>uV l (i+1)
def jM(s:Sl)(W:List (Nat×Tmp))(A:List Nat)(j:Nat):Sl:=⟨λk=>bc (s.S k) (W.all λx=>bc (Nat.beq x.2 k) (bc (Nat.beq x.1 j) true (bit (A.getD x.1 0) j)) true) false,s.N⟩
def lN(W:List (Nat×Tmp))(A:List Nat)(j:Nat)(K:List Tmp):List (Nat×Tmp):=W.filter λx=>bc (bit (A.getD j 0) x.1) (K.contains x.2) false
structure PkF where run:List AV->Option (List AV)
def K7(i:Nat):List Nat->PkF
 |[]=>⟨λ_=>some []⟩
 |k::r=>⟨λvs=>bnd ((CU (i - 1 - k)).run vs) λv=>bnd ((K7 i r).run vs) λl=>some (v::l)⟩
structure Ds where run:FT->Tr AV->Nat->AH->Nat->List AV->eY
def Et(b:Option Bool)(x y:eY):eY:=@Option.rec Bool (λ_=>eY) .bad (λb=>bc b x y) b
def lQ(s:Sl)(Y:YT)(ops:Array Oper)(W:List (Nat×Tmp))(A:List Nat)(i j:Nat)(o:Oper):Ds:=
 let s1:=jM s W A j;let a:=lN W A j (zI ops.toList o);let L:=a.map (·.2);let p:=K7 i (a.map (·.1));let g:=G5 s1 L ops o.guard;let c:=cop P s1 Y L o
 match dO o.op with
 |0=>⟨λf t _ h n vs=>aJ (p.run vs) λl=>Et (g.run t l) (Oy (c.run f t l .z 0) λv _ _=>.ok v h n) (.ok (.bQ []) h n)⟩
 |1=>⟨λf t _ h n vs=>aJ (p.run vs) λl=>Et (g.run t l) (Oy (c.run f t l h 0) λv _ _=>.ok v h n) (.ok (.bQ []) h n)⟩
 |2=>⟨λf t x h n vs=>aJ (p.run vs) λl=>Et (g.run t l) (Oy (c.run f t l .z x) λv h1 n1=>bc (Nat.beq n1 (Nat.succ x)) (aJ (h1.get x) λob=>.ok v (h.set x ob) n) .bad) (.ok (.bQ []) h n)⟩
 |_=>⟨λf t _ h n vs=>aJ (p.run vs) λl=>Et (g.run t l) (c.run f t l h n) (.ok (.bQ []) h n)⟩
inductive Ba where
 |bad|ok (h:AH) (n:Nat) (vs:List AV) (hs:List (Nat×AH))
def og(x:eY)(f:AV->AH->Nat->Ba):Ba:=@eY.rec (λ_=>Ba) .bad f x
structure Dk where run:FT->Tr AV->Nat->AH->Nat->List AV->List (Nat×AH)->Ba
def iF(k:Nat):List Oper->Nat->List Nat
 |[],_=>[]
 |o::l,j=>bc (Nat.beq (dO o.op) k) (j::iF k l (j+1)) (iF k l (j+1))
def mU{α:Type}(l:List α)(p:α->Bool):Bool:=@List.rec α (λ_=>Bool) true (λa _ ih=>bc (p a) ih false) l
def OU(a b:Nat):Bool:=Nat.ble (Nat.succ a) b
def wU(a b:Bool):Bool:=bc a b true
def calm(E:List Nat)(p j:Nat):Bool:=mU E λe=>wU (Nat.ble p e) (Nat.ble j e)
def IV(E B A:List Nat)(j:Nat):Bool:=mU B λa=>wU (bc (OU a j) (calm E a j) false) (bit (A.getD j 0) a)
def zO(s:Sl)(Y:YT)(ops:Array Oper)(W:List (Nat×Tmp))(A E B:List Nat):List Oper->Nat->Nat->Dk
 |[],_,_=>⟨λ_ _ _ h n vs hs=>.ok h n vs hs⟩
 |o::l,j,r=>bc (Nat.beq (dO o.op) 3)
  ⟨λf t n0 h n vs hs=>og ((lQ P s Y ops W A j j o).run f t 0 h n vs) λv h n=>(zO s Y ops W A E B l (j+1) r).run f t n0 h n (v::vs) ((j+1,h)::hs)⟩
  (bc (Nat.beq (dO o.op) 2)
  ⟨λf t n0 h n vs hs=>og ((lQ P s Y ops W A j j o).run f t (Nat.add n0 r) h n vs) λv h n=>(zO s Y ops W A E B l (j+1) (r+1)).run f t n0 h n (v::vs) hs⟩
  (bc (Nat.beq (dO o.op) 1) (bc (IV E B A j)
  ⟨λf t n0 h n vs hs=>og ((lQ P s Y ops W A j j o).run f t 0 h n vs) λv _ _=>(zO s Y ops W A E B l (j+1) r).run f t n0 h n (v::vs) hs⟩
  ⟨λf t n0 h n vs hs=>@Option.rec (Nat×AH) (λ_=>Ba) .bad (λx=>og ((lQ P s Y ops W A j j o).run f t 0 x.2 n vs) λv _ _=>(zO s Y ops W A E B l (j+1) r).run f t n0 h n (v::vs) hs) (hd hs)⟩)
  ⟨λf t n0 h n vs hs=>og ((lQ P s Y ops W A j j o).run f t 0 h n vs) λv h n=>(zO s Y ops W A E B l (j+1) r).run f t n0 h n (v::vs) hs⟩))
mutual
def IW:AV->AV->Bool
 | .b x,.b y=>bc x y (p9 y)
 | .i k n,.i k' n'=>bc (wT k k') (fM n n') false
 | .s l,.s l'=>qJ l l'
 | .p x o,.p x' o'=>bc (Nat.beq x x') (Nat.beq o o') false
 | .sl x l o n none,.sl x' l' o' n' none=>bc (Nat.beq x x') (bc (Nat.beq l l') (bc (Nat.beq o o') (Nat.beq n n') false) false) false
 | .sl x l o n (some c),.sl x' l' o' n' (some c')=>bc (Nat.beq x x') (bc (Nat.beq l l') (bc (Nat.beq o o') (bc (Nat.beq n n') (Nat.beq c c') false) false) false) false
 | .m x,.m y=>Nat.beq x y
 | .f g l,.f g' l'=>bc (Nat.beq g g') (uW l l') false
 | .y x,.y y=>Nat.beq x y
 | .zH t v,.zH t' v'=>bc (Nat.beq t t') (IW v v') false
 | .agg l,.agg l'=>uW l l'
 | .bQ l,.bQ l'=>uW l l'
 | .k c,.k c'=>Nat.beq c c'
 | .es a c,.es a' c'=>bc (decide (a=a')) (Nat.beq c c') false
 |_,_=>false
def uW:List AV->List AV->Bool
 |[],[]=>true
 |a::l,b::r=>bc (IW a b) (uW l r) false
 |_,_=>false
end
def adm(E:List Nat)(A:List Nat)(j p:Nat):Bool:=bc (mU E λe=>wU (bit (A.getD j 0) e) (OU e p)) (mU E λe=>wU (OU e p) (p9 (bit (A.getD e 0) j))) false
def own(E:List Nat)(j p:Nat):Bool:=bc (Nat.ble p j) (calm E p j) false
structure RkF where run:FT->Tr AV->List AV->List (Nat×AH)->Bool
def C9(p:Nat)(hs:List (Nat×AH)):Option AH:=@List.rec (Nat×AH) (λ_=>Option AH) none (λx _ ih=>bc (Nat.beq x.1 p) (some x.2) ih) hs
def ck1(s:Sl)(Y:YT)(ops:Array Oper)(W:List (Nat×Tmp))(A:List Nat)(j p:Nat):RkF:=match ops[j]? with
 |some o=>⟨λf t vs hs=>match C9 p hs,(CU (ops.size - 1 - j)).run vs with
  |some H,some v=>(match(lQ P s Y ops W A ops.size j o).run f t 0 H 0 vs with| .ok v' _ _=>IW v v'| .bad=>false)
  |_,_=>false⟩
 |none=>⟨λ_ _ _ _=>false⟩
def xX(s:Sl)(Y:YT)(ops:Array Oper)(W:List (Nat×Tmp))(A:List Nat):List (Nat×Nat)->RkF
 |[]=>⟨λ_ _ _ _=>true⟩
 |x::l=>⟨λf t vs hs=>bc ((ck1 P s Y ops W A x.1 x.2).run f t vs hs) ((xX s Y ops W A l).run f t vs hs) false⟩
def pairs(E R:List Nat)(A:List Nat):List (Nat×Nat):=R.flatMap λj=>((0::E.map (·+1)).filter λp=>bc (own E j p) false (adm E A j p)).map λp=>(j,p)
def WS(s:Sl)(ops:Array Oper)(W:List (Nat×Tmp))(A E B:List Nat):Bool:=
 bc (mU (List.range ops.size) λj=>match ops[j]? with|some o=>mU o.after.toList λe=>wU (Region.binds .any e) (OU e.on j)|none=>false)
 (bc (mU E λe'=>bc (mU E λe=>wU (OU e e') (bit (A.getD e' 0) e)) (mU B λa=>wU (OU a e') (bit (A.getD e' 0) a)) false)
 (mU W λx=>bc (Nat.ble (Nat.succ x.2) s.N) (mU W λy=>wU (Nat.beq x.2 y.2) (Nat.beq x.1 y.1)) false) false) false
structure PdF where run:List AV->Tr AV->Option (Tr AV)
def Bb(s:Sl)(i:Nat):List (Nat×Tmp)->PdF
 |[]=>⟨λ_ t=>some t⟩
 |x::l=>bc (s.S x.2) ⟨λvs t=>bnd ((CU (i - 1 - x.1)).run vs) λv=>(Bb s i l).run vs ((pp 20 x.2).run v t)⟩ (Bb s i l)
def kOf(B:List Nat):Nat:=@List.rec Nat (λ_=>Nat) 0 (λ_ l _=>Nat.succ (Nat.succ (mM l))) B
def IX(s:Sl)(Y:YT)(ops:Array Oper):Cc:=
 let W:=uV ops.toList 0;let A:=kE ops.toList;let E:=iF 3 ops.toList 0;let R:=iF 1 ops.toList 0;let B:=iF 2 ops.toList 0;let K:=kOf B;let D:=zO P s Y ops W A E B ops.toList 0 0;let C:=xX P s Y ops W A (pairs E R A);let T:=Bb s ops.size W
 bc (WS s ops W A E B) ⟨λf h n t=>
  (@Ba.rec (λ_=>eZ) .bad (λh1 n1 vs hs=>bc (C.run f t vs hs) (@Option.rec (Tr AV) (λ_=>eZ) .bad (λt1=>.ok .bT h1 n1 t1) (T.run vs t)) .bad)
   (D.run f t n h (Nat.add n K) [] [(0,h)]))⟩ ⟨λ_ _ _ _=>.bad⟩
def oL(k:Nat)(b:Cc)(f:FT):AH->Nat->Tr AV->eZ:=
 @Nat.rec (λ_=>AH->Nat->Tr AV->eZ) (λ_ _ _=>.bad) (λ_ ih h n t=>iO (b.run f h n t) λx h n t=>CQ x (ih h n t) (.ok x h n t)) k
def G6(l:Nat)(h:AH)(n:Nat)(t:Tr AV):eZ:=match h.get l with
 |some (.lp .ready none g u ps fH body)=>.ok .bT (h.set l (.lp .exhausted none g u ps fH body)) n t
 |some (.lp .done (some .ret) g u ps fH body)=>.ok .ret (h.set l (.lp .exhausted (some .ret) g u ps fH body)) n t
 |some (.lp .done (some (.exit id)) g u ps fH body)=>.ok (.exit id) (h.set l (.lp .exhausted (some (.exit id)) g u ps fH body)) n t
 |_=>.bad
def cc(g:FuncId)(Y:YT):Code->Cc
 | .skip=>⟨λ_ h n t=>.ok .bT h n t⟩
 | .region _ ops d=>bc d (IX P (sl g) Y ops) ⟨λf h n t=>(C8 P (sl g) Y ops ops.toList []).run f h n t []⟩
 | .seq a b=>⟨λf h n t=>iO ((cc g Y a).run f h n t) λx h n t=>CQ x ((cc g Y b).run f h n t) (.ok x h n t)⟩
 | .cond c a b=>⟨λf h n t=>match(co (sl g) [] c).run t []with
  |some (.b x)=>bc x ((cc g Y a).run f h n t) ((cc g Y b).run f h n t)
  |_=>.bad⟩
 | .block id a=>⟨λf h n t=>iO ((cc g Y a).run f h n t) λx h n t=>match x with
  | .exit j=>bc (Nat.beq j id) (.ok .bT h n t) (.ok (.exit j) h n t)
  |x=>.ok x h n t⟩
 | .loop a=>⟨λf h n t=>oL 1125899906842624 (cc g Y a) f h n t⟩
 | .scope a=>⟨λf h n t=>iO ((cc g Y a).run f h n t) λx h n t=>match x with
  | .goto _=>.bad
  |x=>.ok x h n t⟩
 | .label _=>⟨λ_ h n t=>.ok .bT h n t⟩
 | .exit id=>⟨λ_ h n t=>.ok (.exit id) h n t⟩
 | .goto l=>⟨λ_ h n t=>.ok (.goto l) h n t⟩
 | .ret=>⟨λ_ h n t=>.ok .ret h n t⟩
 | .rangeFunc r ps fH body=>⟨λf h n t=>match(co (sl g) [] r).run t []with
  |some (.f q cap)=>mQ (f q (.y n::cap) (h.set n (.lp .ready none g t ps.toList fH body)) (Nat.succ n)) λ_ h2 n2=>G6 n h2 n2 t
  |_=>.bad⟩
 | .refuse _=>⟨λ_ _ _ _=>.bad⟩
def wB(s:Sl):List Tmp->List AV->Tr AV->Option (Tr AV)
 |k::ks,v::l,t=>bnd ((uU s k).run t v) λt=>wB s ks l t
 |[],[],t=>some t
 |_,_,_=>none
def yE(l:Nat)(x:Ex)(h:AH)(n:Nat):eY:=match h.get l with
 |some (.lp _ _ g u ps fH body)=>match x with
  | .bT=>.ok (.b true) (h.set l (.lp .ready none g u ps fH body)) n
  | .ret=>.ok (.b false) (h.set l (.lp .done (some .ret) g u ps fH body)) n
  | .exit id=>.ok (.b false) (h.set l (.lp .done (some (.exit id)) g u ps fH body)) n
  | .goto _=>.bad
 |_=>.bad
def yl(k:Nat):YT:=
 @Nat.rec (λ_=>YT) (λ_ _ _ _ _=>.bad)
  (λ_ ih l args f h n=>match h.get l with
   |some (.lp .ready pd g t ps fH body)=>aJ (wB (sl g) ps args t) λt1=>
    oD ((cc P sl g ih fH).run f h n t1) λx h n t2=>match x with
     | .bT=>match h.get l with
      |some (.lp .ready pd g1 u1 ps1 wV nR)=>oD ((cc P sl g ih body).run f (h.set l (.lp .busy pd g1 u1 ps1 wV nR)) n t2) λx h n _=>yE l x h n
      |_=>.bad
     |_=>.bad
   |_=>.bad) k
structure RsF where run:Tr AV->AH->Option (List AV)
def Bc(s:Sl):List ResultVar->RsF
 |[]=>⟨λ_ _=>some []⟩
 | .tmp k::l=>⟨λt h=>bnd ((co s [] (.tmp k)).run t []) λa=>bnd ((Bc s l).run t h) λb=>some (a::b)⟩
 | .cell a ty::l=>⟨λt h=>match(co s [] (.tmp a)).run t []with|some (.p x o)=>bnd (xO P ty h x o) λa=>bnd ((Bc s l).run t h) λb=>some (a::b)|_=>none⟩
def wW(s:Sl)(l:List ResultVar)(t:Tr AV)(h:AH):Option AV:=
 bnd ((Bc P s l).run t h) λl=>match l with|[v]=>some v|l=>some (.bQ l)
def uX(s:Sl):Nat->List AV->Tr AV->Option (Tr AV)
 |_,[],t=>some t
 |k,v::l,t=>bnd ((uU s k).run t v) λt=>uX s (k+1) l t
structure Fc where run:FT->List AV->AH->Nat->eY
def Ti(g:FuncId):Fc:=
 match hd (qH g P.funcs.toList)with
 |some fn=>match fn.body with
  |some c=>bc (Nat.ble (sl g).N fn.ntmps) ⟨λf args h n=>aJ (uX (sl g) 0 args .z) λt=>oD ((cc P sl g (yl P sl 20) c).run f h n t) λx h n t=>match x with
   | .bT=>ok1 (wW P (sl g) fn.results.toList t h) h n
   | .ret=>ok1 (wW P (sl g) fn.results.toList t h) h n
   |_=>.bad⟩ ⟨λ_ _ _ _=>.bad⟩
  |none=>⟨λ_ _ _ _=>.bad⟩
 |none=>⟨λ_ _ _ _=>.bad⟩
abbrev OT:=FT->FuncId->List AV->AH->Nat->Option eY
def lS(O:OT)(k:Nat):FT:=@Nat.rec (λ_=>FT) (λ_ _ _ _=>.bad) (λ_ ih g args h n=>@Option.rec eY (λ_=>eY) ((Ti P sl g).run ih args h n) (λr=>r) (O ih g args h n)) k
end
end
end
theorem bD{α:Type}(a b:α):bc true a b=a:=rfl
theorem fU{α:Type}(a b:α):bc false a b=b:=rfl
theorem aB{α β:Type}{x:Option α}{f:α->Option β}{y:β}(h:bnd x f=some y):∃a,x=some a/\f a=some y:=by
 cases x with
 |none=>cases h
 |some a=>exact⟨a,rfl,h⟩
theorem aS{α:Type}{x:Option α}{f:α->eY}{v:AV}{h:AH}{n:Nat}(e:aJ x f= .ok v h n):∃a,x=some a/\f a= .ok v h n:=by
 cases x with
 |none=>cases e
 |some a=>exact⟨a,rfl,e⟩
theorem gT{x:Option AV}{h h':AH}{n n':Nat}{v:AV}(e:ok1 x h n= .ok v h' n'):x=some v/\h'=h/\n'=n:=by
 cases x with
 |none=>cases e
 |some a=>cases e;exact⟨rfl,rfl,rfl⟩
theorem xw{r:eY}{f:AV->AH->Nat->eZ}{x:Ex}{h:AH}{n:Nat}{t:Tr AV}(e:mQ r f= .ok x h n t):∃v h1 n1,r= .ok v h1 n1/\f v h1 n1= .ok x h n t:=by
 cases r with
 |bad=>cases e
 |ok v h1 n1=>exact⟨v,h1,n1,rfl,e⟩
theorem jh{r:eZ}{f:Ex->AH->Nat->Tr AV->eZ}{x:Ex}{h:AH}{n:Nat}{t:Tr AV}(e:iO r f= .ok x h n t):∃x1 h1 n1 t1,r= .ok x1 h1 n1 t1/\f x1 h1 n1 t1= .ok x h n t:=by
 cases r with
 |bad=>cases e
 |ok x1 h1 n1 t1=>exact⟨x1,h1,n1,t1,rfl,e⟩
theorem mV{r:eZ}{f:Ex->AH->Nat->Tr AV->eY}{v:AV}{h:AH}{n:Nat}(e:oD r f= .ok v h n):∃x1 h1 n1 t1,r= .ok x1 h1 n1 t1/\f x1 h1 n1 t1= .ok v h n:=by
 cases r with
 |bad=>cases e
 |ok x1 h1 n1 t1=>exact⟨x1,h1,n1,t1,rfl,e⟩
theorem iN{c:Bool}{a:eY}{v:AV}{h:AH}{n:Nat}(e:bc c a .bad= .ok v h n):c=true/\a= .ok v h n:=by
 cases c with
 |false=>cases e
 |true=>exact⟨rfl,e⟩
theorem bI{α:Type}{c:Bool}{a:Option α}{v:α}(e:bc c a none=some v):c=true/\a=some v:=by
 cases c with
 |false=>cases e
 |true=>exact⟨rfl,e⟩
theorem beq_eq{a b:Nat}(h:Nat.beq a b=true):a=b:=Nat.eq_of_beq_eq_true h
theorem rP{α:Type}:∀(k:Nat)(l:List α),qH k l=l.drop k
 |0,_=>rfl
 |k+1,[]=>by show[]=_;simp
 |k+1,a::l=>by show qH k l=_;rw[rP k];rfl
theorem WT{α:Type}(l:List α):hd l=l.head?:=by cases l<;>rfl
theorem mW{α:Type}(k:Nat)(l:List α):hd (qH k l)=l[k]?:=by rw[rP,WT,List.head?_drop]
theorem iK{α:Type}:∀(l m:List α),CK l m=l++m
 |[],_=>rfl
 |a::l,m=>by show a::CK l m=_;rw[iK l];rfl
theorem eF{α:Type}(l:List α):mM l=l.length:=by
 have key:∀(l:List α)(k:Nat),@List.rec α (λ_=>Nat->Nat) (λk=>k) (λ_ _ ih k=>ih (Nat.succ k)) l k=l.length+k:=by
  intro l;induction l with
  |nil=>intro k;simp
  |cons a l ih=>intro k;show@List.rec α (λ_=>Nat->Nat) (λk=>k) (λ_ _ ih k=>ih (Nat.succ k)) l (k+1)=_;rw[ih];simp;omega
 exact key l 0
theorem jN{α:Type}:∀{k:Nat}{l m:List α},mO k l=some m->k<=l.length/\m=l.take k
 |0,_,_,h=>by cases h;simp
 |k+1,[],_,h=>by cases h
 |k+1,a::l,m,h=>by
  obtain⟨x,h1,h2⟩:=aB (show bnd (mO k l) (λx=>some (a::x))=some m from h);cases h2;obtain⟨h3,rfl⟩:=jN h1;exact⟨by simp;omega,rfl⟩
theorem C_{α:Type}:∀{c l m:List α},Te c l=some m->c.length<=l.length/\m=c++l.drop c.length
 |[],_,_,h=>by cases h;simp
 |a::c,[],_,h=>by cases h
 |a::c,b::l,m,h=>by
  obtain⟨x,h1,h2⟩:=aB (show bnd (Te c l) (λx=>some (a::x))=some m from h);cases h2;obtain⟨h3,rfl⟩:=C_ h1;exact⟨by simp;omega,rfl⟩
theorem lT{α:Type}{c:List α}:∀{o:Nat}{l m:List α},uT c o l=some m->o+c.length<=l.length/\m=l.take o++(c++l.drop (o+c.length))
 |0,l,m,h=>by obtain⟨h1,h2⟩:=C_ (show Te c l=some m from h);exact⟨by omega,by simpa using h2⟩
 |o+1,[],_,h=>by cases h
 |o+1,b::l,m,h=>by
  obtain⟨x,h1,h2⟩:=aB (show bnd (uT c o l) (λx=>some (b::x))=some m from h);cases h2;obtain⟨h3,rfl⟩:=lT h1;exact⟨by simp;omega,by simp[show o+1+c.length=(o+c.length)+1 by omega]⟩
theorem eP(a b:Int):kY a b=decide (a<=b):=by
 cases a with
 |ofNat m=>cases b with
  |ofNat k=>show Nat.ble m k=_;rw[Bool.eq_iff_iff];simp
  |negSucc k=>show false=_;simp;omega
 |negSucc m=>cases b with
  |ofNat k=>show true=_;simp;omega
  |negSucc k=>show Nat.ble k m=_;rw[Bool.eq_iff_iff];simp;omega
theorem cK(a b:Int):fM a b=decide (a=b):=by
 cases a with
 |ofNat m=>cases b with
  |ofNat k=>show Nat.beq m k=_;rw[Bool.eq_iff_iff];simp;omega
  |negSucc k=>rfl
 |negSucc m=>cases b with
  |ofNat k=>rfl
  |negSucc k=>show Nat.beq m k=_;rw[Bool.eq_iff_iff];simp
theorem ji(a:Bool):p9 a= !a:=by cases a<;>rfl
theorem sZ{i:Int}{n:Nat}{f:Nat->Option AV}{v:AV}(h:Ez i n f=some v):∃k:Nat,i=k/\k<n/\f k=some v:=by
 cases i with
 |ofNat k=>
  obtain⟨h1,h2⟩:=bI (show bc (Nat.ble (Nat.succ k) n) (f k) none=some v from h);exact⟨k,rfl,Nat.le_of_ble_eq_true h1,h2⟩
 |negSucc k=>cases h
theorem uY(k:IntKind)(n:Int):gK k n=k.wrap n:=by
 unfold gK;rw[eP,eP];by_cases h1:k.min<=n
 .by_cases h2:n<=k.max
  .simp only[h1,h2,decide_true,bD]
   have:k.wrap n=n:=by
    cases k<;>simp only[IntKind.min,IntKind.max,IntKind.signed,IntKind.bits,if_true,Bool.false_eq_true,if_false]at h1 h2<;>simp only[IntKind.wrap,IntKind.signed,IntKind.bits,Bool.true_and,Bool.false_and]<;>(try split)<;>simp_all<;>omega
   exact this.symm
  .simp only[h1,h2,decide_true,decide_false,bD,fU]
 .simp only[h1,decide_false,fU]
theorem iV:∀(a b:List UInt8),qJ a b=(a==b)
 |[],[]=>rfl
 |[],_::_=>rfl
 |_::_,[]=>rfl
 |x::a,y::b=>by
  show bc (Nat.beq x.toNat y.toNat) (qJ a b) false=_;rw[iV a b];by_cases h:x=y
  .subst h;rw[show Nat.beq x.toNat x.toNat=true from Nat.beq_refl _];simp[bc]
  .have:Nat.beq x.toNat y.toNat=false:=by
    cases e:Nat.beq x.toNat y.toNat with
    |false=>rfl
    |true=>exact absurd (UInt8.toNat_inj.1 (Nat.eq_of_beq_eq_true e)) h
   rw[this];simp[bc,h]
theorem Ae{h h':AH}{n n':Nat}{v u:AV}{o:AO}(e:mk h n v o= .ok u h' n'):u=v/\h'=h.set n o/\n'=n+1:=by
 cases e;exact⟨rfl,rfl,rfl⟩
theorem h_{α:Type}(t:Tr α)(n m:Nat)(v:α):(t.set n v).get m=if m=n then some v else t.get m:=Tr.get_put _ _ _ _
theorem Bd{α:Type}(t:Tr α)(n m:Nat):(t.del n).get m=if m=n then none else t.get m:=Tr.get_put _ _ _ _
section
variable {P:Program} {sl:FuncId->Sl} {θ:Th} {h:AH} {n:Nat} {w:World}
theorem RH.lt(H:RH P sl θ h n w){x:Nat}{r:Nat×Nat}(e:θ x=some r):x<n:=by
 rcases Nat.lt_or_ge x n with h1|h1
 .exact h1
 .rw[H.new x h1]at e;cases e
theorem RH.dom(H:RH P sl θ h n w){x:Nat}{o:AO}(e:h.get x=some o):x<n:=by
 obtain⟨r,c,_,h1,_⟩:=H.at_ x o e;exact H.lt h1
def Th.ins(θ:Th)(n:Nat)(r:Nat×Nat):Th:=λx=>if x=n then some r else θ x
theorem iq.ins(H:RH P sl θ h n w)(r:Nat×Nat):iq θ (θ.ins n r):=λx q e=>by
 have:=H.lt e;unfold Th.ins;rw[if_neg (by omega)];exact e
theorem Th.cZ(θ:Th)(n:Nat)(r:Nat×Nat):θ.ins n r n=some r:=if_pos rfl
theorem RH.G7(H:RH P sl θ h n w)(r:Nat×Nat)(x y:Nat)(e1:θ x=none)(e2:θ.ins n r x≠none)(e3:θ y≠none):y<x:=by
 have hx:x=n:=by
  by_cases hx:x=n
  .exact hx
  .unfold Th.ins at e2;rw[if_neg hx]at e2;exact absurd e1 e2
 subst hx;rcases Nat.lt_or_ge y x with h1|h1
 .exact h1
 .exact absurd (H.new y h1) e3
theorem bG{w:World}{k:Nat}{o:Obj}(e:w.heap[k]?=some o):k<w.heap.size:=by
 rcases Nat.lt_or_ge k w.heap.size with h|h
 .exact h
 .rw[Array.getElem?_eq_none h]at e;cases e
theorem RH.alloc(H:RH P sl θ h n w)(c:Nat){o:AO}{obj:Obj}(hA:rO P sl θ c o obj)(ho:zN (some o)=true:=by rfl):
 RH P sl (θ.ins n (w.heap.size,c)) (h.set n o) (n+1) (w.alloc obj)/\Fr θ h w (θ.ins n (w.heap.size,c)) (h.set n o) (w.alloc obj):=by
 have hle:=iq.ins H (w.heap.size,c);have hget:∀x,(h.set n o).get x=if x=n then some o else h.get x:=λx=>h_ _ _ _ _
 have hheap:∀k,(w.alloc obj).heap[k]?=if k=w.heap.size then some obj else w.heap[k]?:=λk=>by
  show(w.heap.push obj)[k]?=_;rw[Array.getElem?_push]
 refine H.WO ?_ ?_ ?_ ⟨rfl,rfl,rfl,by show _<=(w.heap.push obj).size;simp,?_,hle,?_,λk r e=>⟨r,by rw[hheap,if_neg (by have:=bG e;omega)];exact e⟩,H.G7 _,λx f e=>by
  rw[hget]at e;by_cases hx:x=n
  .rw[if_pos hx]at e;cases e;cases ho
  .rw[if_neg hx]at e;exact e⟩
 .intro x a ha
  rw[hget]at ha;by_cases hx:x=n
  .subst hx;rw[if_pos rfl]at ha;cases ha
   exact⟨_,_,obj,Th.cZ _ _ _,by rw[hheap,if_pos rfl],rO.mono hle hA⟩
  .rw[if_neg hx]at ha
   obtain⟨r,d,ob,h1,h2,h3⟩:=H.at_ x a ha;refine⟨r,d,ob,hle _ _ h1,?_,rO.mono hle h3⟩;rw[hheap,if_neg ?_];· exact h2
   rintro rfl;simp at h2
 .intro x y r c1 d1 hx hy e1 e2
  rw[hget]at hx hy;unfold Th.ins at e1 e2;by_cases hx1:x=n
  .by_cases hy1:y=n
   .rw[hx1,hy1]
   .exfalso
    rw[if_pos hx1]at e1;cases e1;rw[if_neg hy1]at e2 hy;obtain⟨b,hb⟩:=Option.isSome_iff_exists.1 hy;obtain⟨r',d',ob,h1,h2,_⟩:=H.at_ y b hb;rw[h1]at e2;cases e2;simp at h2
  .rw[if_neg hx1]at e1 hx
   by_cases hy1:y=n
   .exfalso
    rw[if_pos hy1]at e2;cases e2;obtain⟨b,hb⟩:=Option.isSome_iff_exists.1 hx;obtain⟨r',d',ob,h1,h2,_⟩:=H.at_ x b hb;rw[h1]at e1;cases e1;simp at h2
   .rw[if_neg hy1]at e2 hy
    exact H.inj x y r c1 d1 hx hy e1 e2
 .intro x hx
  unfold Th.ins;rw[if_neg (by omega)];exact H.new x (by omega)
 .intro k hk _
  rw[hheap,if_neg (by omega)]
 .rintro k ⟨x,d,hx,e⟩
  rw[hget]at hx;unfold Th.ins at e;by_cases hx1:x=n
  .rw[if_pos hx1]at e;cases e;exact .inr (Nat.le_refl _)
  .rw[if_neg hx1]at e hx;exact .inl ⟨x,d,hx,e⟩
theorem RH.turn(H:RH P sl θ h n w){x r c:Nat}{o o':AO}{zP:Obj}{w':World}(hx:h.get x=some o)(hr:θ x=some (r,c))(hA:rO P sl θ c o' zP)
 (hos:w'.os=w.os)(WU:w'.tape=w.tape)(hout:w'.output=w.output)(hsize:w'.heap.size=w.heap.size)(hw:∀k,w'.heap[k]?=if k=r then some zP else w.heap[k]?)
 (hk:∀d q,rO P sl θ d o (.loop q)->∃q',zP= .loop q')(ho:zN (some o)=true:=by rfl)(ho':zN (some o')=true:=by rfl):
 RH P sl θ (h.set x o') n w'/\Fr θ h w θ (h.set x o') w':=by
 have hxn:=H.dom hx;have hget:∀y,(h.set x o').get y=if y=x then some o' else h.get y:=λy=>h_ _ _ _ _
 have hsome:∀y,((h.set x o').get y).isSome=true->(h.get y).isSome=true:=λy hy=>by
  rw[hget]at hy;by_cases e:y=x
  .rw[e,hx];rfl
  .rw[if_neg e]at hy;exact hy
 refine H.WO ?_ (λy z r' c1 d1 hy hz=>H.inj y z r' c1 d1 (hsome y hy) (hsome z hz)) H.new ⟨hos,WU,hout,Nat.le_of_eq hsize.symm,?_,iq.refl _,?_,?_,λ_ _ e e'=>absurd e e',λy f e=>by
  rw[hget]at e;by_cases hy:y=x
  .rw[if_pos hy]at e;cases e;cases ho'
  .rw[if_neg hy]at e;exact e⟩
 .intro y a ha
  rw[hget]at ha;by_cases hy:y=x
  .subst hy;rw[if_pos rfl]at ha;cases ha
   exact⟨r,c,zP,hr,by rw[hw,if_pos rfl],hA⟩
  .rw[if_neg hy]at ha
   obtain⟨r',d,ob,h1,h2,h3⟩:=H.at_ y a ha;refine⟨r',d,ob,h1,?_,h3⟩;rw[hw,if_neg ?_];· exact h2
   rintro rfl;exact hy (H.inj y x r' d c (by rw[ha];rfl) (by rw[hx];rfl) h1 hr)
 .intro k _ hk
  rw[hw,if_neg];rintro rfl;exact hk ⟨x,c,by rw[hx];exact ho,hr⟩
 .rintro k ⟨y,d,hy,e⟩
  refine .inl ⟨y,d,?_,e⟩;rw[hget]at hy;by_cases e:y=x
  .rw[e,hx];exact ho
  .rw[if_neg e]at hy;exact hy
 .intro k q e
  rw[hw];by_cases hkr:k=r
  .subst hkr
   obtain⟨r',d,ob,h1,h2,h3⟩:=H.at_ x o hx;rw[hr]at h1;cases h1;rw[e]at h2;cases h2;obtain⟨q',e'⟩:=hk _ q h3;exact⟨q',by rw[if_pos rfl,e']⟩
  .exact⟨q,by rw[if_neg hkr];exact e⟩
end
end Go.Proofs.YtjoohkjmoghmoaaGreatDoor
