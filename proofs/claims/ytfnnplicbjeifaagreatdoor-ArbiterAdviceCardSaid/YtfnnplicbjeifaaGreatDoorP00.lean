/- part -/
import Derived.RangeFuncLeaves
import Derived.Lib.ItoaNum
import Derived.Lib.LaidTab
import Derived.Deep.MidRow
import Derived.Shelf.Abstract
import Derived.Deep.Upon
import Derived.Room.Entries
import Derived.Laws.IdiomStrings
set_option linter.all false
namespace Go.Proofs.YtfnnplicbjeifaaGreatDoor
section
noncomputable section
inductive Tr (α:Type) where
 |z
 |nd (l:Tr α) (v:Option α) (r:Tr α)
def tT(n:Nat):Bool:=Nat.beq (Nat.mod n 2) 1
def bc{α:Type}(c:Bool)(a b:α):α:=@Bool.rec (λ_=>α) b a c
def Tr.get{α:Type}(t:Tr α):Nat->Option α:=
 @Tr.rec α (λ_=>Nat->Option α) (λ_=>none)
  (λ_ v _ gl gr n=>bc (Nat.beq n 0) v (bc (tT n) (gl (Nat.div n 2)) (gr (Nat.sub (Nat.div n 2) 1)))) t
def Tr.one{α:Type}(v:Option α)(k:Nat):Nat->Tr α:=
 @Nat.rec (λ_=>Nat->Tr α) (λ_=>.nd .z v .z)
  (λ_ ih n=>bc (Nat.beq n 0) (.nd .z v .z) (bc (tT n) (.nd (ih (Nat.div n 2)) none .z) (.nd .z none (ih (Nat.sub (Nat.div n 2) 1))))) k
def Tr.put{α:Type}(v:Option α)(t:Tr α):Nat->Tr α:=
 @Tr.rec α (λ_=>Nat->Tr α) (λn=>Tr.one v n n)
  (λl u r pl pr n=>bc (Nat.beq n 0) (.nd l v r) (bc (tT n) (.nd (pl (Nat.div n 2)) u r) (.nd l u (pr (Nat.sub (Nat.div n 2) 1))))) t
def Tr.set{α:Type}(t:Tr α)(n:Nat)(v:α):Tr α:=t.put (some v) n
def Tr.del{α:Type}(t:Tr α)(n:Nat):Tr α:=t.put none n
theorem Tr.iL{α:Type}(n:Nat):(Tr.z:Tr α).get n=none:=rfl
theorem Tr.eD{α:Type}(l r:Tr α)(v:Option α)(n:Nat):(Tr.nd l v r).get n=if n=0 then v else if n % 2=1 then l.get (n/2)else r.get (n/2 - 1):=by
 show bc (Nat.beq n 0) v (bc (tT n) (l.get (n/2)) (r.get (n/2 - 1)))=_;unfold bc tT;by_cases h:n=0
 .subst h;rfl
 .have h1:Nat.beq n 0=false:=by cases n<;>simp_all [Nat.beq]
  rw[h1,if_neg h];by_cases h2:n % 2=1
  .rw[if_pos h2,show Nat.mod n 2=1 from h2];rfl
  .have h3:n % 2=0:=by omega
   rw[if_neg h2,show Nat.mod n 2=0 from h3];rfl
theorem Tr.CK{α:Type}(v:Option α):∀(f n m:Nat),n<2 ^ f->(Tr.one v f n).get m=if m=n then v else none
 |0,n,m,h=>by
  obtain rfl:n=0:=by simpa using h
  show(Tr.nd .z v .z).get m=_;rw[eD];split<;>simp_all [iL]
 |f+1,n,m,h=>by
  show(bc (Nat.beq n 0) (Tr.nd .z v .z) (bc (tT n) (.nd (Tr.one v f (n/2)) none .z) (.nd .z none (Tr.one v f (n/2 - 1))))).get m=_;unfold bc tT;rw[Nat.pow_succ]at h;by_cases h0:n=0
  .subst h0
   show(Tr.nd .z v .z).get m=_;rw[eD];split<;>simp_all [iL]
  .have h1:Nat.beq n 0=false:=by cases n<;>simp_all [Nat.beq]
   rw[h1];by_cases h2:n % 2=1
   .rw[show Nat.mod n 2=1 from h2]
    show(Tr.nd (Tr.one v f (n/2)) none .z).get m=_;rw[eD,CK v f _ _ (by omega)];by_cases hm:m=0
    .subst hm;simp;intro e;omega
    .rw[if_neg hm]
     by_cases hm2:m % 2=1
     .rw[if_pos hm2];by_cases e:m=n
      .subst e;simp
      .rw[if_neg e,if_neg (by omega)]
     .rw[if_neg hm2,iL,if_neg (by omega)]
   .rw[show Nat.mod n 2=0 from(by omega:n % 2=0)]
    show(Tr.nd .z none (Tr.one v f (n/2 - 1))).get m=_;rw[eD,CK v f _ _ (by omega)];by_cases hm:m=0
    .subst hm;simp;intro e;omega
    .rw[if_neg hm]
     by_cases hm2:m % 2=1
     .rw[if_pos hm2,iL,if_neg (by omega)]
     .rw[if_neg hm2];by_cases e:m=n
      .subst e;simp
      .rw[if_neg e,if_neg (by omega)]
theorem Tr.get_put{α:Type}(v:Option α)(t:Tr α):∀n m:Nat,(t.put v n).get m=if m=n then v else t.get m:=by
 induction t with
 |z=>intro n m;exact CK v n n m Nat.lt_two_pow_self
 |nd l u r ihl ihr=>
  intro n m;show(bc (Nat.beq n 0) (Tr.nd l v r) (bc (tT n) (.nd (l.put v (n/2)) u r) (.nd l u (r.put v (n/2 - 1))))).get m=_;unfold bc tT;by_cases h0:n=0
  .subst h0
   show(Tr.nd l v r).get m=_;rw[eD,eD];split<;>simp_all
  .have h1:Nat.beq n 0=false:=by cases n<;>simp_all [Nat.beq]
   rw[h1];by_cases h2:n % 2=1
   .rw[show Nat.mod n 2=1 from h2]
    show(Tr.nd (l.put v (n/2)) u r).get m=_;rw[eD,eD,ihl];by_cases hm:m=0
    .subst hm;rw[if_pos rfl,if_pos rfl,if_neg (by omega)]
    .rw[if_neg hm,if_neg hm]
     by_cases hm2:m % 2=1
     .rw[if_pos hm2,if_pos hm2];by_cases e:m=n
      .subst e;simp
      .rw[if_neg e,if_neg (by omega)]
     .rw[if_neg hm2,if_neg hm2,if_neg (by omega)]
   .rw[show Nat.mod n 2=0 from(by omega:n % 2=0)]
    show(Tr.nd l u (r.put v (n/2 - 1))).get m=_;rw[eD,eD,ihr];by_cases hm:m=0
    .subst hm;rw[if_pos rfl,if_pos rfl,if_neg (by omega)]
    .rw[if_neg hm,if_neg hm]
     by_cases hm2:m % 2=1
     .rw[if_pos hm2,if_pos hm2,if_neg (by omega)]
     .rw[if_neg hm2,if_neg hm2];by_cases e:m=n
      .subst e;simp
      .rw[if_neg e,if_neg (by omega)]
structure GpF(α:Type) where run:Tr α->Option α
structure PpF(α:Type) where run:α->Tr α->Tr α
def gp{α:Type}(f:Nat):Nat->GpF α:=
 @Nat.rec (λ_=>Nat->GpF α) (λk=>⟨λt=>t.get k⟩)
  (λ_ ih k=>bc (Nat.beq k 0) ⟨λt=>@Tr.rec α (λ_=>Option α) none (λ_ v _ _ _=>v) t⟩
   (bc (tT k) ⟨λt=>@Tr.rec α (λ_=>Option α) none (λl _ _ _ _=>(ih (Nat.div k 2)).run l) t⟩
    ⟨λt=>@Tr.rec α (λ_=>Option α) none (λ_ _ r _ _=>(ih (Nat.sub (Nat.div k 2) 1)).run r) t⟩)) f
def pp{α:Type}(f:Nat):Nat->PpF α:=
 @Nat.rec (λ_=>Nat->PpF α) (λk=>⟨λv t=>t.set k v⟩)
  (λ_ ih k=>bc (Nat.beq k 0) ⟨λv t=>@Tr.rec α (λ_=>Tr α) (.nd .z (some v) .z) (λl _ r _ _=>.nd l (some v) r) t⟩
   (bc (tT k) ⟨λv t=>@Tr.rec α (λ_=>Tr α) (.nd ((ih (Nat.div k 2)).run v .z) none .z) (λl u r _ _=>.nd ((ih (Nat.div k 2)).run v l) u r) t⟩
    ⟨λv t=>@Tr.rec α (λ_=>Tr α) (.nd .z none ((ih (Nat.sub (Nat.div k 2) 1)).run v .z)) (λl u r _ _=>.nd l u ((ih (Nat.sub (Nat.div k 2) 1)).run v r)) t⟩)) f
theorem mh{α:Type}:∀(f k:Nat)(t:Tr α),(gp f k).run t=t.get k
 |0,_,_=>rfl
 |f+1,k,t=>by
  show(bc (Nat.beq k 0) _ (bc (tT k) _ _):GpF α).run t=_;unfold bc tT;by_cases h0:k=0
  .subst h0;cases t<;>rfl
  .have h1:Nat.beq k 0=false:=by cases k<;>simp_all [Nat.beq]
   rw[h1];by_cases h2:k % 2=1
   .rw[show Nat.mod k 2=1 from h2]
    cases t with
    |z=>rfl
    |nd l u r=>show(gp f (k/2)).run l=_;rw[mh f,Tr.eD,if_neg h0,if_pos h2]
   .rw[show Nat.mod k 2=0 from(by omega:k % 2=0)]
    cases t with
    |z=>rfl
    |nd l u r=>show(gp f (k/2 - 1)).run r=_;rw[mh f,Tr.eD,if_neg h0,if_neg h2]
theorem jJ{α:Type}(v:α):∀(f k:Nat)(t:Tr α)(m:Nat),((pp f k).run v t).get m=if m=k then some v else t.get m
 |0,k,t,m=>Tr.get_put (some v) t k m
 |f+1,k,t,m=>by
  show((bc (Nat.beq k 0) _ (bc (tT k) _ _):PpF α).run v t).get m=_;unfold bc tT;by_cases h0:k=0
  .subst h0
   cases t with
   |z=>show(Tr.nd .z (some v) .z).get m=_;rw[Tr.eD];split<;>simp_all [Tr.iL]
   |nd l u r=>show(Tr.nd l (some v) r).get m=_;rw[Tr.eD,Tr.eD];split<;>simp_all
  .have h1:Nat.beq k 0=false:=by cases k<;>simp_all [Nat.beq]
   rw[h1];by_cases h2:k % 2=1
   .rw[show Nat.mod k 2=1 from h2]
    have key:∀(l r:Tr α)(u:Option α),(Tr.nd ((pp f (k/2)).run v l) u r).get m=if m=k then some v else(Tr.nd l u r).get m:=by
     intro l r u;rw[Tr.eD,Tr.eD,jJ v f];by_cases hm:m=0
     .subst hm;rw[if_pos rfl,if_pos rfl,if_neg (by omega)]
     .rw[if_neg hm,if_neg hm]
      by_cases hm2:m % 2=1
      .rw[if_pos hm2,if_pos hm2];by_cases e:m=k
       .subst e;simp
       .rw[if_neg e,if_neg (by omega)]
      .rw[if_neg hm2,if_neg hm2,if_neg (by omega)]
    cases t with
    |z=>refine(key .z .z none).trans ?_;rw[Tr.eD];simp[Tr.iL]
    |nd l u r=>exact key l r u
   .rw[show Nat.mod k 2=0 from(by omega:k % 2=0)]
    have key:∀(l r:Tr α)(u:Option α),(Tr.nd l u ((pp f (k/2 - 1)).run v r)).get m=if m=k then some v else(Tr.nd l u r).get m:=by
     intro l r u;rw[Tr.eD,Tr.eD,jJ v f];by_cases hm:m=0
     .subst hm;rw[if_pos rfl,if_pos rfl,if_neg (by omega)]
     .rw[if_neg hm,if_neg hm]
      by_cases hm2:m % 2=1
      .rw[if_pos hm2,if_pos hm2,if_neg (by omega)]
      .rw[if_neg hm2,if_neg hm2];by_cases e:m=k
       .subst e;simp
       .rw[if_neg e,if_neg (by omega)]
    cases t with
    |z=>refine(key .z .z none).trans ?_;rw[Tr.eD];simp[Tr.iL]
    |nd l u r=>exact key l r u
end
end
section
noncomputable section
inductive AV where
 |b (x:Bool)
 |i (k:IntKind) (n:Int)
 |s (l:List UInt8)
 |p (x o:Nat)
 |sl (x l o n:Nat) (c:Option Nat)
 |m (x:Nat)
 |f (g:FuncId) (cap:List AV)
 |y (l:Nat)
 |wI (t:TypeId) (v:AV)
 |agg (l:List AV)
 |bJ (l:List AV)
 |k (c:Nat)
 |es (a:Addr) (c:Nat)
inductive AO where
 |row (t:TypeId) (l:List AV)
 |mp (es:List (AV×AV×Nat)) (clock:Nat)
 |lp (st:LoopState) (pd:Option Code) (g:FuncId) (t:Tr AV) (ps:List Tmp) (fT body:Code)
 |it (m:Option Nat) (since:Nat) (seen:List Nat) (NC:Nat)
 |ro (f:Nat->Nat->Option (List AV))
abbrev AH:=Tr AO
abbrev Th:=Nat->Option (Nat×Nat)
def kv:Nat->Value
 |0=>.pointer none
 |1=>.slice none 0 0
 |2=>.map none
 |3=>.nilFunc
 |_=>.nilIface
mutual
def aV(θ:Th):AV->Value->Prop
 | .b x,v=>v= .bool x
 | .i k n,v=>v= .int k n
 | .s l,v=>v= .string ⟨l.toArray⟩
 | .p x o,v=>∃r c,θ x=some (r,c)/\v= .pointer (some ⟨r,o,none⟩)
 | .sl x l o n c,v=>∃r d,θ x=some (r,d)/\(c=none->l+n<=d)/\v= .slice (some ⟨r,o,none⟩) n (c.getD (d - l))
 | .m x,v=>∃r c,θ x=some (r,c)/\v= .map (some r)
 | .f g cap,v=>∃vs,fE θ cap vs/\v= .func (.func g) #[] vs.toArray
 | .y l,v=>∃r c,θ l=some (r,c)/\v= .func (.yield r) #[] #[]
 | .wI t a,v=>∃u,aV θ a u/\v= .iface t u
 | .agg l,v=>∃vs,fE θ l vs/\(∀x∈vs,x.oneCell'=true)/\v= .agg vs.toArray
 | .bJ l,v=>∃vs,fE θ l vs/\v= .tuple vs.toArray
 | .k c,v=>v=kv c
 | .es _ _,v=>∃a c,v= .slice (some a) 0 c
def fE(θ:Th):List AV->List Value->Prop
 |[],l=>l=[]
 |a::r,l=>∃v vs,aV θ a v/\fE θ r vs/\l=v::vs
end
def iH(θ bW:Th):Prop:=∀x r,θ x=some r->bW x=some r
theorem iH.refl(θ:Th):iH θ θ:=λ_ _ h=>h
theorem iH.trans{a b c:Th}(h:iH a b)(k:iH b c):iH a c:=λx r e=>k x r (h x r e)
mutual
theorem aV.mono{θ bW:Th}(h:iH θ bW):∀(a:AV){v:Value},aV θ a v->aV bW a v
 | .b _,_,e=>e
 | .i _ _,_,e=>e
 | .s _,_,e=>e
 | .p _ _,_,⟨r,c,e1,e2⟩=>⟨r,c,h _ _ e1,e2⟩
 | .sl _ _ _ _ _,_,⟨r,c,e1,e2,e3⟩=>⟨r,c,h _ _ e1,e2,e3⟩
 | .m _,_,⟨r,c,e1,e2⟩=>⟨r,c,h _ _ e1,e2⟩
 | .f _ l,_,⟨vs,e1,e2⟩=>⟨vs,fE.mono h l e1,e2⟩
 | .y _,_,⟨r,c,e1,e2⟩=>⟨r,c,h _ _ e1,e2⟩
 | .wI _ a,_,⟨u,e1,e2⟩=>⟨u,aV.mono h a e1,e2⟩
 | .agg l,_,⟨vs,e1,e2⟩=>⟨vs,fE.mono h l e1,e2⟩
 | .bJ l,_,⟨vs,e1,e2⟩=>⟨vs,fE.mono h l e1,e2⟩
 | .k _,_,e=>e
 | .es _ _,_,e=>e
theorem fE.mono{θ bW:Th}(h:iH θ bW):∀(l:List AV){vs:List Value},fE θ l vs->fE bW l vs
 |[],_,e=>e
 |a::r,_,⟨v,vs,e1,e2,e3⟩=>⟨v,vs,aV.mono h a e1,fE.mono h r e2,e3⟩
end
theorem fE.length{θ:Th}:∀{l:List AV}{vs:List Value},fE θ l vs->vs.length=l.length
 |[],_,e=>by rw[fE]at e;subst e;rfl
 |a::r,_,e=>by rw[fE]at e;obtain⟨v,vs,_,e2,rfl⟩:=e;simp[fE.length e2]
theorem fE.append{θ:Th}:∀{l m:List AV}{vs us:List Value},fE θ l vs->fE θ m us->fE θ (l++m) (vs++us)
 |[],_,_,_,e,h=>by rw[fE]at e;subst e;exact h
 |a::r,_,_,_,e,h=>by rw[fE]at e;obtain⟨v,vs,e1,e2,rfl⟩:=e;exact⟨v,_,e1,fE.append e2 h,rfl⟩
theorem fE.drop{θ:Th}:∀{l:List AV}{vs:List Value}(k:Nat),fE θ l vs->fE θ (l.drop k) (vs.drop k)
 |_,_,0,e=>by simpa using e
 |[],_,k+1,e=>by rw[fE]at e;subst e;rfl
 |a::r,_,k+1,e=>by rw[fE]at e;obtain⟨v,vs,_,e2,rfl⟩:=e;exact fE.drop k e2
theorem fE.take{θ:Th}:∀{l:List AV}{vs:List Value}(k:Nat),fE θ l vs->fE θ (l.take k) (vs.take k)
 |_,_,0,_=>by simp[fE]
 |[],_,k+1,e=>by rw[fE]at e;subst e;rfl
 |a::r,_,k+1,e=>by rw[fE]at e;obtain⟨v,vs,e1,e2,rfl⟩:=e;exact⟨v,_,e1,fE.take k e2,rfl⟩
theorem fE.get{θ:Th}:∀{l:List AV}{vs:List Value}(k:Nat){a:AV},fE θ l vs->l[k]?=some a->∃v,vs[k]?=some v/\aV θ a v
 |[],_,_,_,_,h=>by simp at h
 |a::r,_,0,_,e,h=>by rw[fE]at e;obtain⟨v,vs,e1,_,rfl⟩:=e;cases h;exact⟨v,rfl,e1⟩
 |a::r,_,k+1,_,e,h=>by rw[fE]at e;obtain⟨v,vs,_,e2,rfl⟩:=e;exact fE.get k e2 h
structure Sl where
 S:Nat->Bool
 N:Nat
structure RT(s:Sl)(θ:Th)(t:Tr AV)(tm:Array Value):Prop where
 size:s.N<=tm.size
 at_:∀k a,s.S k=true->t.get k=some a->∃v,tm[k]?=some v/\aV θ a v
theorem RT.mono{s:Sl}{θ bW:Th}{t:Tr AV}{tm:Array Value}(h:iH θ bW)(k:RT s θ t tm):RT s bW t tm:=
 ⟨k.size,λj a hj hg=>let⟨v,h1,h2⟩:=k.at_ j a hj hg;⟨v,h1,aV.mono h a h2⟩⟩
def Es(θ:Th):List (AV×AV×Nat)->List MapEntry->Prop
 |[],l=>l=[]
 |(a,b,c)::r,l=>∃e es,aV θ a e.key/\aV θ b e.val/\e.born=c/\Es θ r es/\l=e::es
theorem Es.mono{θ bW:Th}(h:iH θ bW):∀{l:List (AV×AV×Nat)}{es:List MapEntry},Es θ l es->Es bW l es
 |[],_,e=>e
 |(a,b,c)::r,_,⟨e,es,e1,e2,e3,e4,e5⟩=>⟨e,es,aV.mono h a e1,aV.mono h b e2,e3,Es.mono h e4,e5⟩
def ItM(θ:Th):Option Nat->Option Nat->Prop
 |none,mr=>mr=none
 |some b,mr=>∃r c,θ b=some (r,c)/\mr=some r
theorem ItM.mono{θ bW:Th}(h:iH θ bW):∀{m mr:Option Nat},ItM θ m mr->ItM bW m mr
 |none,_,e=>e
 |some _,_,⟨r,c,e1,e2⟩=>⟨r,c,h _ _ e1,e2⟩
section
variable (P:Program) (sl:FuncId->Sl)
def tV(θ:Th)(c:Nat):AO->Obj->Prop
 | .row t l,o=>∃cs vs rest,o= .cells cs t (0,0)/\cs.size=c*P.cellsOf t/\cs.toList=vs++rest/\fE θ l vs/\∀x∈cs.toList,x.oneCell'=true
 | .mp es clock,o=>∃en,o= .map en clock/\Es θ es en.toList
 | .lp st pd g t ps fT body,o=>∃fn tm df,o= .loop {state:=st,pending:=pd,fn:=fn,tmps:=tm,params:=ps.toArray,assign:=fT,body:=body,defers:=df}/\RT (sl g) θ t tm
 | .it m since seen NC,o=>∃mr,o= .mapIter mr since seen.toArray NC/\ItM θ m mr
 | .ro f,o=>∃cs t fz,o= .cells cs t fz/\∀k m l,f k m=some l->∃vs:List Value,fE θ l vs/\(∀x∈vs,x.oneCell'=true)/\∀(j:Nat)(v:Value),vs[j]?=some v->cs[k+j]?=some v
theorem tV.mono{P:Program}{sl:FuncId->Sl}{θ bW:Th}(h:iH θ bW){c:Nat}:∀{a:AO}{o:Obj},tV P sl θ c a o->tV P sl bW c a o
 | .row _ _,_,⟨cs,vs,rest,e1,e2,e3,e4,e5⟩=>⟨cs,vs,rest,e1,e2,e3,fE.mono h _ e4,e5⟩
 | .mp _ _,_,⟨en,e1,e2⟩=>⟨en,e1,Es.mono h e2⟩
 | .lp ..,_,⟨fn,tm,df,e1,e2⟩=>⟨fn,tm,df,e1,e2.mono h⟩
 | .it ..,_,⟨mr,e1,e2⟩=>⟨mr,e1,e2.mono h⟩
 | .ro _,_,⟨cs,t,fz,e1,e2⟩=>⟨cs,t,fz,e1,λk m l e=>let⟨vs,h1,h2⟩:=e2 k m l e;⟨vs,fE.mono h _ h1,h2⟩⟩
def Bv:Option AO->Bool
 |some (.ro _)=>false
 |some _=>true
 |none=>false
def Im(θ:Th)(h:AH)(k:Nat):Prop:=∃x c,Bv (h.get x)=true/\θ x=some (k,c)
theorem gM{x:Option AO}(e:Bv x=true):x.isSome:=by cases x with|none=>cases e|some _=>rfl
def GL(P:Program)(θ:Th)(h:AH)(w:World):Prop:=∀g,P.globalNamed "internal/strconv.uint64pow10"=some g->∃ty q,w.heap[g]?=some (.cells (Lib.pow10Tab.map λz=>Value.int .u64 z).toArray ty q)/\¬Im θ h g
structure RH(θ:Th)(h:AH)(n:Nat)(w:World):Prop where
 at_:∀x o,h.get x=some o->∃r c obj,θ x=some (r,c)/\w.heap[r]?=some obj/\tV P sl θ c o obj
 inj:∀x y r c d,(h.get x).isSome->(h.get y).isSome->θ x=some (r,c)->θ y=some (r,d)->x=y
 new:∀x,n<=x->θ x=none
 gl:GL P θ h w
structure Fr(θ:Th)(h:AH)(w:World)(bW:Th)(h':AH)(w':World):Prop where
 os:w'.os=w.os
 tape:w'.tape=w.tape
 output:w'.output=w.output
 size:w.heap.size<=w'.heap.size
 block:∀k,k<w.heap.size->¬Im θ h k->w'.heap[k]?=w.heap[k]?
 le:iH θ bW
 from_:∀k,Im bW h' k->Im θ h k\/w.heap.size<=k
 kind:∀(k:Nat) r,w.heap[k]?=some (.loop r)->∃r',w'.heap[k]?=some (.loop r')
 low:∀x y,θ x=none->bW x≠none->θ y≠none->y<x
 ro:∀x f,h'.get x=some (.ro f)->h.get x=some (.ro f)
theorem Fr.refl(θ:Th)(h:AH)(w:World):Fr θ h w θ h w:=⟨rfl,rfl,rfl,Nat.le_refl _,λ_ _ _=>rfl,iH.refl _,λ_ e=>.inl e,λ_ r e=>⟨r,e⟩,λ_ _ e e'=>absurd e e',λ_ _ e=>e⟩
theorem Fr.trans{θ pz CO:Th}{h h1 h2:AH}{w w1 w2:World}(a:Fr θ h w pz h1 w1)(b:Fr pz h1 w1 CO h2 w2):Fr θ h w CO h2 w2 where
 os:=b.os.trans a.os
 tape:=b.tape.trans a.tape
 output:=b.output.trans a.output
 size:=Nat.le_trans a.size b.size
 block:=λk hk hn=>(b.block k (Nat.lt_of_lt_of_le hk a.size) (λe=>(a.from_ k e).elim hn (λe=>by omega))).trans (a.block k hk hn)
 le:=a.le.trans b.le
 from_:=λk e=>(b.from_ k e).elim (λe=>a.from_ k e) (λe=>.inr (Nat.le_trans a.size e))
 kind:=λk r e=>let⟨r1,e1⟩:=a.kind k r e;b.kind k r1 e1
 low:=λx y e1 e2 e3=>by
  by_cases e:pz x=none
  .exact b.low x y e e2 (λe4=>e3 (by cases e5:θ y with
    |none=>rfl
    |some r=>rw[a.le y r e5]at e4;cases e4))
  .exact a.low x y e1 e e3
 ro:=λx f e=>a.ro x f (b.ro x f e)
theorem Fr.drew{θ:Th}{h:AH}{w:World}{bW:Th}{h':AH}{w':World}(a:Fr θ h w.drew bW h' w'):Fr θ h w bW h' w':=
 ⟨a.os,a.tape,a.output,a.size,a.block,a.le,a.from_,a.kind,a.low,a.ro⟩
theorem GL.fr{P:Program}{θ:Th}{h:AH}{w:World}{bW:Th}{h':AH}{w':World}(k:GL P θ h w)(F:Fr θ h w bW h' w'):GL P bW h' w':=λg e=>by
 obtain⟨ty,q,e1,e2⟩:=k g e;have hlt:g<w.heap.size:=by
  rcases Nat.lt_or_ge g w.heap.size with h|h
  .exact h
  .rw[Array.getElem?_eq_none h]at e1;cases e1
 exact⟨ty,q,(F.block g hlt e2).trans e1,λhi=>(F.from_ g hi).elim e2 λe=>by omega⟩
variable {P sl}in
theorem RH.mkF{θ:Th}{h:AH}{n:Nat}{w:World}{bW:Th}{h':AH}{n':Nat}{w':World}(H:RH P sl θ h n w)
 (a:∀x o,h'.get x=some o->∃r c obj,bW x=some (r,c)/\w'.heap[r]?=some obj/\tV P sl bW c o obj)
 (b:∀x y r c d,(h'.get x).isSome->(h'.get y).isSome->bW x=some (r,c)->bW y=some (r,d)->x=y)(c:∀x,n'<=x->bW x=none)(F:Fr θ h w bW h' w'):RH P sl bW h' n' w'/\Fr θ h w bW h' w':=⟨⟨a,b,c,H.gl.fr F⟩,F⟩
end
end
end
section
noncomputable section
inductive Ex where
 |bX|exit (id:Nat)|goto (l:Nat)|ret
inductive fH where
 |bad|ok (v:AV) (h:AH) (n:Nat)
inductive fJ where
 |bad|ok (x:Ex) (h:AH) (n:Nat) (t:Tr AV)
abbrev FT:=FuncId->List AV->AH->Nat->fH
def bnd{α β:Type}(x:Option α)(f:α->Option β):Option β:=@Option.rec α (λ_=>Option β) none f x
def aP{α:Type}(x:Option α)(f:α->fH):fH:=@Option.rec α (λ_=>fH) .bad f x
def RF(x:fH)(f:AV->AH->Nat->fH):fH:=@fH.rec (λ_=>fH) .bad f x
def nR(x:fH)(f:AV->AH->Nat->fJ):fJ:=@fH.rec (λ_=>fJ) .bad f x
def jh(r:fJ)(g:Ex->AH->Nat->Tr AV->fJ):fJ:=@fJ.rec (λ_=>fJ) .bad g r
def pQ(r:fJ)(g:Ex->AH->Nat->Tr AV->fH):fH:=@fJ.rec (λ_=>fH) .bad g r
def EK(x:Ex)(a b:fJ):fJ:=@Ex.rec (λ_=>fJ) a (λ_=>b) (λ_=>b) b x
def ok1(x:Option AV)(h:AH)(n:Nat):fH:=@Option.rec AV (λ_=>fH) .bad (λv=>.ok v h n) x
def r_{α:Type}(k:Nat):List α->List α:=@Nat.rec (λ_=>List α->List α) (λl=>l) (λ_ ih l=>@List.rec α (λ_=>List α) [] (λ_ r _=>ih r) l) k
def hd{α:Type}(l:List α):Option α:=@List.rec α (λ_=>Option α) none (λa _ _=>some a) l
def CP{α:Type}(l m:List α):List α:=@List.rec α (λ_=>List α) m (λa _ ih=>a::ih) l
def nP{α:Type}(l:List α):Nat:=@List.rec α (λ_=>Nat->Nat) (λk=>k) (λ_ _ ih k=>ih (Nat.succ k)) l 0
def mP{α:Type}(k:Nat):List α->Option (List α):=
 @Nat.rec (λ_=>List α->Option (List α)) (λ_=>some []) (λ_ ih l=>@List.rec α (λ_=>Option (List α)) none (λa r _=>bnd (ih r) λx=>some (a::x)) l) k
def WI{α:Type}(c:List α):List α->Option (List α):=
 @List.rec α (λ_=>List α->Option (List α)) (λl=>some l) (λa _ ih l=>@List.rec α (λ_=>Option (List α)) none (λ_ r _=>bnd (ih r) λx=>some (a::x)) l) c
def wJ{α:Type}(c:List α)(o:Nat):List α->Option (List α):=
 @Nat.rec (λ_=>List α->Option (List α)) (WI c) (λ_ ih l=>@List.rec α (λ_=>Option (List α)) none (λa r _=>bnd (ih r) λx=>some (a::x)) l) o
def mo(a b:Int):Bool:=@Int.rec (λ_=>Bool)
 (λm=>@Int.rec (λ_=>Bool) (λk=>Nat.ble m k) (λ_=>false) b)
 (λm=>@Int.rec (λ_=>Bool) (λ_=>true) (λk=>Nat.ble k m) b) a
def gu(a b:Int):Bool:=@Int.rec (λ_=>Bool)
 (λm=>@Int.rec (λ_=>Bool) (λk=>Nat.beq m k) (λ_=>false) b)
 (λm=>@Int.rec (λ_=>Bool) (λ_=>false) (λk=>Nat.beq m k) b) a
def qY(a:Bool):Bool:=bc a false true
def GJ(i:Int)(n:Nat)(f:Nat->Option AV):Option AV:=@Int.rec (λ_=>Option AV) (λk=>bc (Nat.ble (Nat.succ k) n) (f k) none) (λ_=>none) i
mutual
def U6:Value->Option AV
 | .bool x=>some (.b x)
 | .int k n=>some (.i k n)
 | .string s=>some (.s s.data.toList)
 | .pointer none=>some (.k 0)
 | .slice none 0 0=>some (.k 1)
 | .map none=>some (.k 2)
 | .nilFunc=>some (.k 3)
 | .nilIface=>some (.k 4)
 | .func (.func g) ⟨[]⟩ ⟨[]⟩=>some (.f g [])
 | .agg ⟨cs⟩=>bc (cs.all (·.oneCell')) (bnd (ND cs) λl=>some (.agg l)) none
 |_=>none
def ND:List Value->Option (List AV)
 |[]=>some []
 |v::l=>bnd (U6 v) λa=>bnd (ND l) λb=>some (a::b)
end
def pO(v:AV):Option (List AV):=match v with
 | .agg l=>some l
 | .bJ _=>none
 |v=>some [v]
section
variable (P:Program)
def und(t:TypeId):TypeDesc:=(P.underlying t).getD .invalid
def sz(t:TypeId):Nat:=P.cellsOf t
def BR(t:TypeId):Option Nat:=(P.info? t).map (·.size)
def zeroV(t:TypeId):Option AV:=bnd ((P.info? t).bind (·.zero)) U6
def lJ(t:TypeId):Option (List AV):=bnd (zeroV P t) pO
def idx(k:Nat)(l:List Nat):Option Nat:=@List.rec Nat (λ_=>Nat->Option Nat) (λ_=>none) (λa _ ih j=>bc (Nat.beq k a) (some j) (ih (Nat.succ j))) l 0
structure GK where run:Tr AV->List AV->Option AV
structure agD where run:Tr AV->List AV->Option (List AV)
structure NtF where run:List AV->Option AV
def EL(j:Nat):NtF:=@Nat.rec (λ_=>NtF) ⟨λl=>@List.rec AV (λ_=>Option AV) none (λa _ _=>some a) l⟩ (λ_ ih=>⟨λl=>@List.rec AV (λ_=>Option AV) none (λ_ r _=>ih.run r) l⟩) j
def Nj(s:Sl)(L:List Tmp)(k:Tmp):GK:=
 bc (s.S k) ⟨λt _=>(gp 20 k).run t⟩ (@Option.rec Nat (λ_=>GK) ⟨λ_ _=>none⟩ (λj=>⟨λ_ l=>(EL j).run l⟩) (idx k L))
def coC(v:Value):GK:=⟨λ_ _=>U6 v⟩
def coF(f:FuncId):GK:=⟨λ_ _=>some (.f f [])⟩
def coG:GK:=⟨λ_ _=>none⟩
def co(s:Sl)(L:List Tmp)(x:Operand):GK:=@Operand.rec (λ_=>GK) (Nj s L) coC (λ_=>coG) coF x
def col(s:Sl)(L:List Tmp):List Operand->agD
 |[]=>⟨λ_ _=>some []⟩
 |x::r=>⟨λt l=>bnd ((co s L x).run t l) λa=>bnd ((col s L r).run t l) λb=>some (a::b)⟩
structure LdF where run:List AV->Nat->Option AV
def Nk(t:TypeId):LdF:=match P.underlying t with
 |none=>⟨λ_ _=>none⟩
 |some (.struct _)|some (.array _ _)=>⟨λl o=>bnd (mP (sz P t) (r_ o l)) λx=>some (.agg x)⟩
 |some _=>⟨λl o=>hd (r_ o l)⟩
def iI(x:Option AO)(o m:Nat):Option (List AV):=bnd x λb=>@AO.rec (λ_=>Option (List AV)) (λ_ l=>some (r_ o l)) (λ_ _=>none) (λ_ _ _ _ _ _ _=>none) (λ_ _ _ _=>none) (λf=>f o m) b
def K4(x:Option AO):Option (List (AV×AV×Nat)):=bnd x λo=>@AO.rec (λ_=>Option (List (AV×AV×Nat))) (λ_ _=>none) (λes _=>some es) (λ_ _ _ _ _ _ _=>none) (λ_ _ _ _=>none) (λ_=>none) o
def ldN(t:TypeId):Nat:=match P.underlying t with
 |some (.struct _)|some (.array _ _)=>sz P t
 |_=>1
def zF(t:TypeId)(h:AH)(x o:Nat):Option AV:=bnd (iI (h.get x) o (ldN P t)) λl=>(Nk P t).run l 0
def gN(k:IntKind)(n:Int):Int:=bc (mo k.min n) (bc (mo n k.max) n (IntKind.wrap k n)) (IntKind.wrap k n)
def sj(a:List UInt8):List UInt8->Bool:=
 @List.rec UInt8 (λ_=>List UInt8->Bool) (λl=>@List.rec UInt8 (λ_=>Bool) true (λ_ _ _=>false) l)
  (λx _ ih l=>@List.rec UInt8 (λ_=>Bool) false (λy r _=>bc (Nat.beq x.toNat y.toNat) (ih r) false) l) a
structure NG where run:AV->AV->Option Bool
def yL(j k:IntKind):Bool:=decide (j=k)
def GN(f:TypeId->NG):List Field->NG
 |[]=>⟨λ_ _=>some true⟩
 |d::r=>bc (d.name== "_") (GN f r) ⟨λx y=>match x,y with
  | .agg a,.agg b=>bnd ((Nk P d.type).run a d.offset) λu=>bnd ((Nk P d.type).run b d.offset) λv=>bnd ((f d.type).run u v) λe=>bc e ((GN f r).run x y) (some false)
  |_,_=>none⟩
def su:Nat->TypeId->NG
 |0,_=>⟨λ_ _=>none⟩
 |d+1,t=>match und P t with
  | .bool=>⟨λx y=>match x,y with| .b a,.b b=>some (bc a b (qY b))|_,_=>none⟩
  | .int _=>⟨λx y=>match x,y with| .i j a,.i k b=>bc (yL j k) (some (gu a b)) none|_,_=>none⟩
  | .string=>⟨λx y=>match x,y with| .s a,.s b=>some (sj a b)|_,_=>none⟩
  | .pointer _=>⟨λx y=>match x,y with| .k 0,.k 0=>some true| .k 0,.p _ _=>some false| .p _ _,.k 0=>some false|_,_=>none⟩
  | .slice _=>⟨λx y=>match x,y with| .k 1,.k 1=>some true| .k 1,.sl ..=>some false| .sl ..,.k 1=>some false| .k 1,.es ..=>some false| .es ..,.k 1=>some false|_,_=>none⟩
  | .map _ _=>⟨λx y=>match x,y with| .k 2,.k 2=>some true| .k 2,.m _=>some false| .m _,.k 2=>some false|_,_=>none⟩
  | .func _ _ _=>⟨λx y=>match x,y with| .k 3,.k 3=>some true| .k 3,.f ..=>some false| .f ..,.k 3=>some false|_,_=>none⟩
  | .interface _=>⟨λx y=>match x,y with| .k 4,.wI ..=>some false| .wI ..,.k 4=>some false|_,_=>none⟩
  | .struct fs=>bc (P.stoodInHeld t) ⟨λ_ _=>none⟩ ⟨λx y=>match x,y with| .agg a,.agg b=>(GN P (su d) fs.toList).run (.agg a) (.agg b)|_,_=>none⟩
  |_=>⟨λ_ _=>none⟩
structure aat where run:AV->AV->Option AV
def uS(f:IntKind->Int->Int->Option AV)(g:AV->AV->Option AV)(x y:AV):Option AV:=
 match x,y with
 | .i j a,.i k b=>bc (yL j k) (f j a b) none
 |x,y=>g x y
def eqO(t:TypeId)(neg:Bool):aat:=⟨λx y=>match x,y with
 | .s a,.s b=>some (.b (bc neg (qY (sj a b)) (sj a b)))
 |x,y=>bc (P.eqGuardType P.depth t) none (bnd ((su P 30 t).run x y) λe=>some (.b (bc neg (qY e) e)))⟩
def eB(t:TypeId)(op:BinOp):aat:=
 match op with
 | .add=>⟨uS (λk a b=>some (.i k (gN k (Int.add a b)))) (λx y=>match x,y with| .s a,.s b=>bc (Nat.ble (Nat.add (nP a) (nP b)) 1048576) (some (.s (CP a b))) none|_,_=>none)⟩
 | .sub=>⟨uS (λk a b=>some (.i k (gN k (Int.sub a b)))) (λ_ _=>none)⟩
 | .mul=>⟨uS (λk a b=>some (.i k (gN k (Int.mul a b)))) (λ_ _=>none)⟩
 | .quo=>⟨uS (λk a b=>bc (gu b 0) none (some (.i k (gN k (Int.tdiv a b))))) (λ_ _=>none)⟩
 | .rem=>⟨uS (λk a b=>bc (gu b 0) none (some (.i k (Int.tmod a b)))) (λ_ _=>none)⟩
 | .eql=>⟨uS (λ_ a b=>some (.b (gu a b))) (eqO P t false).run⟩
 | .neq=>⟨uS (λ_ a b=>some (.b (qY (gu a b)))) (eqO P t true).run⟩
 | .lss=>⟨uS (λ_ a b=>some (.b (qY (mo b a)))) (λ_ _=>none)⟩
 | .leq=>⟨uS (λ_ a b=>some (.b (mo a b))) (λ_ _=>none)⟩
 | .gtr=>⟨uS (λ_ a b=>some (.b (qY (mo a b)))) (λ_ _=>none)⟩
 | .geq=>⟨uS (λ_ a b=>some (.b (mo b a))) (λ_ _=>none)⟩
 | .shr=>⟨uS (λk a b=>bc (gu b 1) (some (.i k (a/2))) none) (λ_ _=>none)⟩
 |_=>⟨λ_ _=>none⟩
structure aau where run:Tr AV->List AV->List AV->Option (List AV)
def CQ(t:TypeId):Option (Nat->Option (Nat×Nat)):=match P.underlying t with
 |some (.array _ e)=>(P.info? e).map λi k=>some (Nat.mul k i.size,i.size)
 |some (.struct fs)=>(fs.toList.mapM λf=>(P.info? f.type).map λi=>(f.offset,i.size)).map λl k=>l[k]?
 |_=>none
def GQ(s:Sl)(L:List Tmp)(pl:Nat->Option (Nat×Nat)):List (Nat×Operand)->aau
 |[]=>⟨λ_ _ c=>some c⟩
 |(k,x)::r=>match pl k with
  |none=>⟨λ_ _ _=>none⟩
  |some (o,w)=>⟨λt l c=>bnd ((co s L x).run t l) λa=>bnd (pO a) λu=>bc (Nat.beq (nP u) w) (bnd (wJ u o c) λc=>(GQ s L pl r).run t l c) none⟩
def sU(t:TypeId):TypeId:=match und P t with| .slice e=>e| .array _ e=>e| .map _ e=>e|_=>0
def ZN(t:TypeId)(k:Nat):Option Field:=match P.underlying t with|some (.struct fs)=>fs[k]?|_=>none
def rep(n:Nat)(z:List AV):List AV:=@Nat.rec (λ_=>List AV) [] (λ_ l=>CP z l) n
def zG(l:List UInt8):List AV:=@List.rec UInt8 (λ_=>List AV) [] (λb _ ih=>.i .u8 (Int.ofNat b.toNat)::ih) l
def JM(v:AV):Option UInt8:=match v with| .i .u8 (.ofNat k)=>bc (Nat.ble k 255) (some (UInt8.ofNat k)) none|_=>none
def pR(l:List AV):Option (List UInt8):=@List.rec AV (λ_=>Option (List UInt8)) (some []) (λv _ ih=>bnd (JM v) λb=>bnd ih λr=>some (b::r)) l
def jG(h:AH)(s n:Nat)(v:AV):Option (List AV):=match v with
 | .k 1=>some []
 | .s l=>bc (Nat.beq s 1) (bnd (mP n l) λl=>some (zG l)) none
 | .es _ _=>bc (Nat.beq n 0) (some []) none
 | .sl x _ o _ _=>bnd (iI (h.get x) o (Nat.mul n s)) λl=>mP (Nat.mul n s) l
 |_=>none
def mR(v:AV):Option Nat:=match v with
 | .k 1=>some 0
 | .s l=>some (nP l)
 | .sl _ _ _ n _=>some n
 | .es _ _=>some 0
 |_=>none
def oO(q:NG)(k:AV)(l:List (AV×AV×Nat)):Nat->Option (Option (Nat×AV)):=
 @List.rec (AV×AV×Nat) (λ_=>Nat->Option (Option (Nat×AV))) (λ_=>some none) (λe _ ih i=>bnd (q.run k e.1) λb=>bc b (some (some (i,e.2.1))) (ih (Nat.succ i))) l
def GR(k v:AV)(i:Nat):List (AV×AV×Nat)->List (AV×AV×Nat):=
 @Nat.rec (λ_=>List (AV×AV×Nat)->List (AV×AV×Nat)) (λl=>@List.rec (AV×AV×Nat) (λ_=>List (AV×AV×Nat)) [] (λe r _=>(k,v,e.2.2)::r) l)
  (λ_ ih l=>@List.rec (AV×AV×Nat) (λ_=>List (AV×AV×Nat)) [] (λe r _=>e::ih r) l) i
structure U7 where run:AV->Bool
def GU(f:TypeId->U7):List Field->U7
 |[]=>⟨λ_=>true⟩
 |d::r=>bc (d.name== "_") (GU f r) ⟨λx=>match x with
  | .agg a=>@Option.rec AV (λ_=>Bool) false (λu=>bc ((f d.type).run u) ((GU f r).run x) false) ((Nk P d.type).run a d.offset)
  |_=>false⟩
def yX:Nat->TypeId->U7
 |0,_=>⟨λ_=>false⟩
 |d+1,t=>match P.underlying t with
  |some .bool=>⟨λ_=>true⟩
  |some (.int _)=>⟨λ_=>true⟩
  |some .string=>⟨λ_=>true⟩
  |some (.struct fs)=>⟨λx=>match x with| .agg a=>(GU P (yX d) fs.toList).run (.agg a)|_=>false⟩
  |_=>⟨λ_=>false⟩
def NH(k:AV):Bool:=match k with| .i _ _=>true| .s _=>true| .b _=>true|_=>false
def mk(h:AH)(n:Nat)(v:AV)(o:AO):fH:=.ok v (h.set n o) (Nat.succ n)
structure ApF where run:AH->Nat->AV->AV->fH
def jS(e:TypeId)(w:Nat):ApF:=⟨λh n x y=>
 aP (mR x) λlx=>aP (mR y) λly=>aP (jG h w lx x) λcx=>aP (jG h w ly y) λcy=>
  bc (Nat.ble (Nat.add lx ly) 1048576)
  (match x with
  | .sl b _ o _ (some c)=>
   bc (Nat.ble (Nat.add lx ly) c)
    (match h.get b with
     |some (.row t l)=>aP (wJ cy (Nat.add o (Nat.mul lx w)) l) λl=>.ok (.sl b 0 o (Nat.add lx ly) (some c)) (h.set b (.row t l)) n
     |_=>.bad)
    (mk h n (.sl n 0 0 (Nat.add lx ly) none) (.row e (CP cx cy)))
  | .k 1=>bc (Nat.beq ly 0) (.ok (.k 1) h n) (mk h n (.sl n 0 0 ly none) (.row e cy))
  | .sl b 0 0 _ none=>
   (match h.get b with
    |some (.row t l)=>bc (Nat.beq t e) (bc (Nat.beq (nP l) (Nat.mul lx w)) (mk (h.del b) n (.sl n 0 0 (Nat.add lx ly) none) (.row e (CP cx cy)))
     (bc (Nat.beq w 0) .bad (aP (wJ cy (Nat.mul lx w) l) λl=>.ok (.sl b 0 0 (Nat.add lx ly) none) (h.set b (.row t l)) n))) .bad
    |_=>.bad)
  |_=>.bad) .bad⟩
def wK(x:Option Int)(d:Nat):Option Nat:=@Option.rec Int (λ_=>Option Nat) (some d) (λn=>@Int.rec (λ_=>Option Nat) (λk=>some k) (λ_=>none) n) x
def pU(c:List UInt8)(lo hi:Option Int):Option AV:=
 bnd (wK lo 0) λa=>bnd (wK hi (nP c)) λz=>bc (Nat.ble a z) (bnd (mP z c) λu=>some (.s (r_ a u))) none
def GV(w:Nat)(b l o n:Nat)(c:Option Nat)(lo hi:Option Int):Option AV:=
 bnd (wK lo 0) λa=>bnd (wK hi n) λz=>bc (Nat.ble a z) (@Option.rec Nat (λ_=>Option AV)
  (bc (Nat.ble z n) (bc (Nat.beq a 0) (some (.sl b l o z none)) (bc (Nat.ble (Nat.succ a) z) (some (.sl b (Nat.add l a) (Nat.add o (Nat.mul a w)) (Nat.sub z a) none)) (some (.es ⟨0,0,none⟩ 0)))) none)
  (λc=>bc (Nat.ble z c) (some (.sl b 0 (bc (Nat.beq c a) o (Nat.add o (Nat.mul a w))) (Nat.sub z a) (some (Nat.sub c a)))) none) c) none
def GX(w m b o:Nat)(lo hi:Option Int):Option AV:=
 bnd (wK lo 0) λa=>bnd (wK hi m) λz=>bc (Nat.ble a z) (bc (Nat.ble z m) (some (.sl b 0 (bc (Nat.beq m a) o (Nat.add o (Nat.mul a w))) (Nat.sub z a) (some (Nat.sub m a)))) none) none
structure agF where run:Tr AV->List AV->Option (Option Int)
def uT(s:Sl)(L:List Tmp)(x:Option Operand):agF:=match x with
 |none=>⟨λ_ _=>some none⟩
 |some x=>⟨λt l=>match(co s L x).run t l with|some (.i _ n)=>some (some n)|_=>none⟩
def lookO(q:NG)(ck:U7)(zv:Option AV)(ok:Bool)(h:AH)(x k:AV):Option AV:=
 bc (ck.run k) (bnd (match x with| .m b=>bnd (K4 (h.get b)) λes=>oO q k es 0| .k 2=>some none|_=>none) λr=>
  @Option.rec (Nat×AV) (λ_=>Option AV) (bnd zv λz=>some (bc ok (.bJ [z,.b false]) z)) (λv=>some (bc ok (.bJ [v.2,.b true]) v.2)) r) none
def CU(q:NG)(ck:U7)(h:AH)(n:Nat)(x k v:AV):fH:=
 match x with
 | .m b=>match h.get b with
  |some (.mp es c)=>bc (ck.run k) (aP (oO q k es 0) λr=>@Option.rec (Nat×AV) (λ_=>fH) (.ok (.bJ []) (h.set b (.mp (CP es [(k,v,c)]) (Nat.succ c))) n)
   (λi=>bc (NH k) (.ok (.bJ []) (h.set b (.mp (GR k v i.1 es) c)) n) .bad) r) .bad
  |_=>.bad
 |_=>.bad
def zH(w:Nat)(h:AH)(n:Nat)(a v:AV):fH:=
 match a with
 | .p x o=>match h.get x with
  |some (.row t l)=>aP (pO v) λu=>bc (Nat.beq (nP u) w) (aP (wJ u o l) λl=>.ok (.bJ []) (h.set x (.row t l)) n) .bad
  |_=>.bad
 |_=>.bad
def sV(s:Nat)(h:AH)(n:Nat)(d x:AV):fH:=
 aP (mR d) λa=>aP (mR x) λb=>aP (jG h s (Nat.min b a) x) λc=>match d with
  | .sl r _ o _ _=>(match h.get r with
   |some (.row ty l)=>aP (wJ c o l) λl=>.ok (.i .i64 (Int.ofNat (Nat.min b a))) (h.set r (.row ty l)) n
   |_=>.bad)
  | .k 1=>.ok (.i .i64 0) h n
  |_=>.bad
structure Cl where run:FT->Tr AV->List AV->AH->Nat->fH
abbrev YT:=Nat->List AV->FT->AH->Nat->fH
def NI(s:Sl)(L:List Tmp)(x:Operand):Cl:=⟨λ_ t l h n=>ok1 ((co s L x).run t l) h n⟩
def EM(s:Sl)(L:List Tmp)(c a b:Operand):Cl:=⟨λ_ t l h n=>match(co s L c).run t l with|some (.b true)=>ok1 ((co s L a).run t l) h n|some (.b false)=>ok1 ((co s L b).run t l) h n|_=>.bad⟩
def GY(s:Sl)(L:List Tmp)(e:TypeId):Cl:=⟨λ_ _ _ h n=>aP (lJ P e) λz=>bc (Nat.beq (nP z) (sz P e)) (mk h n (.p n 0) (.row e z)) .bad⟩
def WJ(s:Sl)(L:List Tmp)(e:TypeId)(x:Operand):Cl:=⟨λ_ t l h n=>aP ((co s L x).run t l) λv=>aP (pO v) λc=>bc (Nat.beq (nP c) (sz P e)) (mk h n (.p n 0) (.row e c)) .bad⟩
def zI(s:Sl)(L:List Tmp)(ty:TypeId)(ps:List (Nat×Operand)):Cl:=match CQ P ty with
 |none=>⟨λ_ _ _ _ _=>.bad⟩
 |some pl=>⟨λ_ t l h n=>aP (lJ P ty) λz=>aP ((GQ s L pl ps).run t l z) λc=>.ok (.agg c) h n⟩
def lK(s:Sl)(L:List Tmp)(ty:TypeId)(len:Nat)(ps:List (Nat×Operand)):Cl:=match P.underlying ty with
 |some (.slice e)=>⟨λ_ t l h n=>aP (lJ P e) λz=>aP (BR P e) λw=>bc (Nat.beq (nP z) w) (bc (Nat.ble (Nat.mul len w) 1048576) (aP ((GQ s L (λk=>some (Nat.mul k w,w)) ps).run t l (rep len z)) λc=>
  mk h n (.sl n 0 0 len (some len)) (.row e c)) .bad) .bad⟩
 |_=>⟨λ_ _ _ _ _=>.bad⟩
def EN(s:Sl)(L:List Tmp)(ty:TypeId)(a:Operand):Cl:=⟨λ_ t l h n=>match(co s L a).run t l with|some (.p x k)=>ok1 (zF P ty h x k) h n|_=>.bad⟩
def GZ(s:Sl)(L:List Tmp)(ty:TypeId)(a x:Operand):Cl:=⟨λ_ t l h n=>aP ((co s L a).run t l) λa=>aP ((co s L x).run t l) λx=>aP (BR P ty) λw=>zH w h n a x⟩
def qZ(s:Sl)(L:List Tmp)(x:Operand):Cl:=⟨λ_ t l h n=>aP ((co s L x).run t l) λv=>match v with| .p _ _=>.ok v h n| .f _ _=>.ok v h n| .y _=>.ok v h n|_=>.bad⟩
def CV(s:Sl)(L:List Tmp)(op:BinOp)(ty:TypeId)(x y:Operand):Cl:=⟨λ_ t l h n=>aP ((co s L x).run t l) λx=>aP ((co s L y).run t l) λy=>ok1 ((eB P ty op).run x y) h n⟩
def RU(s:Sl)(L:List Tmp)(x:Operand):Cl:=⟨λ_ t l h n=>aP ((co s L x).run t l) λv=>match v with| .b v=>.ok (.b (qY v)) h n|_=>.bad⟩
def RV(s:Sl)(L:List Tmp)(x:Operand):Cl:=⟨λ_ t l h n=>aP ((co s L x).run t l) λv=>match v with| .i k v=>.ok (.i k (gN k (Int.sub 0 v))) h n|_=>.bad⟩
def RX(t:TypeId):Bool:=match P.underlying t with|some (.int .u8)=>true|_=>false
def pV(s:Sl)(L:List Tmp)(c d:TypeId)(x:Operand):Cl:=match P.underlying c,P.underlying d with
 |some _,some (.int k)=>⟨λ_ t l h n=>match(co s L x).run t l with|some (.i _ v)=>.ok (.i k (gN k v)) h n|_=>.bad⟩
 |some .string,some .string=>⟨λ_ t l h n=>match(co s L x).run t l with|some (.s l)=>.ok (.s l) h n|_=>.bad⟩
 |some (.slice e),some .string=>bc (RX P e) ⟨λ_ t l h n=>match(co s L x).run t l with
  |some (.k 1)=>.ok (.s []) h n
  |some (.sl b m o k c)=>aP (jG h 1 k (.sl b m o k c)) λu=>aP (pR u) λb=>.ok (.s b) h n
  |_=>.bad⟩ ⟨λ_ _ _ _ _=>.bad⟩
 |_,_=>⟨λ_ _ _ _ _=>.bad⟩
def iY(s:Sl)(L:List Tmp)(ty:TypeId)(x:Operand):Cl:=⟨λ_ t l h n=>aP ((co s L x).run t l) λv=>match P.underlying ty with|some (.interface _)=>.bad|some _=>.ok (.wI ty v) h n|none=>.bad⟩
def ru(s:Sl)(L:List Tmp)(g:FuncId)(cs:List Operand):Cl:=⟨λ_ t l h n=>aP ((col s L cs).run t l) λc=>.ok (.f g c) h n⟩
def EO(s:Sl)(L:List Tmp):Cl:=⟨λ_ _ _ h n=>mk h n (.m n) (.mp [] 0)⟩
def rz(s:Sl)(L:List Tmp)(ty:TypeId):Cl:=⟨λ_ _ _ h n=>match P.underlying ty with|some (.map _ _)=>mk h n (.m n) (.mp [] 0)|_=>.bad⟩
def nS(s:Sl)(L:List Tmp)(ty:TypeId)(x y:Operand):Cl:=match P.underlying ty,P.info? (sU P ty),lJ P (sU P ty)with
 |some (.slice e),some i,some z=>bc (Nat.beq (nP z) i.size) (bc (Nat.ble i.bytes 65536)
  ⟨λ_ t l h n=>match(co s L x).run t l,(co s L y).run t l with
   |some (.i _ (.ofNat a)),some (.i _ (.ofNat c))=>bc (Nat.ble a c) (bc (Nat.ble c 1048576) (mk h n (.sl n 0 0 a (some c)) (.row e (rep c z))) .bad) .bad
   |_,_=>.bad⟩ ⟨λ_ _ _ _ _=>.bad⟩) ⟨λ_ _ _ _ _=>.bad⟩
 |_,_,_=>⟨λ_ _ _ _ _=>.bad⟩
def zJ(s:Sl)(L:List Tmp)(ty:TypeId)(x:Operand)(lo hi:Option Operand):Cl:=match P.underlying ty with
 |some .string=>⟨λ_ t l h n=>aP ((uT s L lo).run t l) λlo=>aP ((uT s L hi).run t l) λhi=>match(co s L x).run t l with|some (.s c)=>ok1 (pU c lo hi) h n|_=>.bad⟩
 |some (.slice e)=>(match BR P e with
  |some w=>⟨λ_ t l h n=>aP ((uT s L lo).run t l) λlo=>aP ((uT s L hi).run t l) λhi=>match(co s L x).run t l with|some (.sl b m o k c)=>ok1 (GV w b m o k c lo hi) h n|_=>.bad⟩
  |none=>⟨λ_ _ _ _ _=>.bad⟩)
 |some (.array m e)=>(match BR P e with
  |some w=>⟨λ_ t l h n=>aP ((uT s L lo).run t l) λlo=>aP ((uT s L hi).run t l) λhi=>match(co s L x).run t l with|some (.p b o)=>ok1 (GX w m b o lo hi) h n|_=>.bad⟩
  |none=>⟨λ_ _ _ _ _=>.bad⟩)
 |_=>⟨λ_ _ _ _ _=>.bad⟩
def kD(s:Sl)(L:List Tmp)(ty:TypeId)(x:Operand)(f:Nat):Cl:=match ZN P ty f with
 |none=>⟨λ_ _ _ _ _=>.bad⟩
 |some d=>match BR P d.type with
  |none=>⟨λ_ _ _ _ _=>.bad⟩
  |some w=>bc (Nat.beq w 0) ⟨λ_ _ _ _ _=>.bad⟩ ⟨λ_ t l h n=>match(co s L x).run t l with|some (.p b k)=>.ok (.p b (Nat.add k d.offset)) h n|_=>.bad⟩
def zK(s:Sl)(L:List Tmp)(ty:TypeId)(x:Operand)(f:Nat):Cl:=match ZN P ty f with
 |none=>⟨λ_ _ _ _ _=>.bad⟩
 |some d=>⟨λ_ t l h n=>match(co s L x).run t l with|some (.agg c)=>ok1 ((Nk P d.type).run c d.offset) h n|_=>.bad⟩
def kE(s:Sl)(L:List Tmp)(ty:TypeId)(x ix:Operand):Cl:=match P.underlying ty with
 |some (.slice e)=>(match BR P e with
  |none=>⟨λ_ _ _ _ _=>.bad⟩
  |some w=>⟨λ_ t l h n=>match(co s L x).run t l,(co s L ix).run t l with|some (.sl b _ o m _),some (.i _ k)=>ok1 (GJ k m λk=>some (.p b (Nat.add o (Nat.mul k w)))) h n|_,_=>.bad⟩)
 |some (.array m e)=>(match BR P e with
  |none=>⟨λ_ _ _ _ _=>.bad⟩
  |some w=>⟨λ_ t l h n=>match(co s L x).run t l,(co s L ix).run t l with|some (.p b o),some (.i _ k)=>ok1 (GJ k m λk=>some (.p b (Nat.add o (Nat.mul k w)))) h n|_,_=>.bad⟩)
 |_=>⟨λ_ _ _ _ _=>.bad⟩
def zL(s:Sl)(L:List Tmp)(ty:TypeId)(x ix:Operand):Cl:=match P.underlying ty with
 |some .string=>⟨λ_ t l h n=>match(co s L x).run t l,(co s L ix).run t l with|some (.s c),some (.i _ k)=>ok1 (GJ k 1048576 λk=>bnd (hd (r_ k c)) λb=>some (.i .u8 (Int.ofNat b.toNat))) h n|_,_=>.bad⟩
 |some (.array m e)=>(match BR P e with
  |none=>⟨λ_ _ _ _ _=>.bad⟩
  |some w=>⟨λ_ t l h n=>match(co s L x).run t l,(co s L ix).run t l with|some (.agg c),some (.i _ k)=>ok1 (GJ k m λk=>(Nk P e).run c (Nat.mul k w)) h n|_,_=>.bad⟩)
 |_=>⟨λ_ _ _ _ _=>.bad⟩
def uU(s:Sl)(L:List Tmp)(ty:TypeId)(x k:Operand)(ok:Bool):Cl:=match P.underlying ty with
 |some (.map kt e)=>⟨λ_ t l h n=>aP ((co s L x).run t l) λx=>aP ((co s L k).run t l) λk=>ok1 (lookO (su P 30 kt) (yX P 30 kt) (zeroV P e) ok h x k) h n⟩
 |_=>⟨λ_ _ _ _ _=>.bad⟩
def kI(s:Sl)(L:List Tmp)(ty:TypeId)(m k x:Operand):Cl:=match P.underlying ty with
 |some (.map kt _)=>⟨λ_ t l h n=>aP ((co s L m).run t l) λm=>aP ((co s L k).run t l) λk=>aP ((co s L x).run t l) λx=>CU (su P 30 kt) (yX P 30 kt) h n m k x⟩
 |_=>⟨λ_ _ _ _ _=>.bad⟩
def pW(s:Sl)(L:List Tmp)(x:Operand)(k:Nat):Cl:=⟨λ_ t l h n=>match(co s L x).run t l with|some (.bJ c)=>ok1 (hd (r_ k c)) h n|_=>.bad⟩
def JN(s:Sl)(Y:YT)(L:List Tmp)(g:Operand)(args:List Operand):Cl:=⟨λf t l h n=>aP ((co s L g).run t l) λg=>aP ((col s L args).run t l) λc=>match g with
 | .f g cap=>f g (CP c cap) h n
 | .y r=>Y r c f h n
 |_=>.bad⟩
def sW(ty:TypeId)(nm:String):Option FuncId:=match P.underlying ty with
 |some (.pointer _)=>none
 |some _=>bnd (P.info? ty) λi=>bnd (i.methods.toList.find? (·.name==nm)) λm=>bc m.path.isEmpty (match m.func with|some (g,false)=>some g|_=>none) none
 |none=>none
def uV(s:Sl)(L:List Tmp)(x:Operand)(nm:String)(args:List Operand):Cl:=⟨λf t l h n=>match(co s L x).run t l with
 |some (.wI ty v)=>aP ((col s L args).run t l) λc=>aP (sW P ty nm) λg=>f g (v::c) h n
 |_=>.bad⟩
def NJ(s:Sl)(L:List Tmp)(ty:TypeId)(x:Operand):Cl:=match P.underlying ty with
 |some .string=>⟨λ_ t l h n=>match(co s L x).run t l with|some (.s c)=>.ok (.i .i64 (Int.ofNat (nP c))) h n|_=>.bad⟩
 |some (.slice _)=>⟨λ_ t l h n=>match(co s L x).run t l with|some (.sl _ _ _ m _)=>.ok (.i .i64 (Int.ofNat m)) h n|some (.k 1)=>.ok (.i .i64 0) h n|some (.es _ _)=>.ok (.i .i64 0) h n|_=>.bad⟩
 |some (.array m _)=>⟨λ_ t l h n=>aP ((co s L x).run t l) λ_=>.ok (.i .i64 (Int.ofNat m)) h n⟩
 |some (.map _ _)=>⟨λ_ t l h n=>match(co s L x).run t l with|some (.m r)=>aP (K4 (h.get r)) (λes=>.ok (.i .i64 (Int.ofNat (nP es))) h n)|some (.k 2)=>.ok (.i .i64 0) h n|_=>.bad⟩
 |_=>⟨λ_ _ _ _ _=>.bad⟩
def ZO(ty:TypeId):Bool:=match P.underlying ty with|some (.slice _)=>true|some .string=>true|_=>false
def yY(s:Sl)(L:List Tmp)(ty G5:TypeId)(a x:Operand):Cl:=match P.underlying ty,P.info? (sU P ty),lJ P (sU P ty)with
 |some (.slice e),some i,some z=>bc (ZO P G5) (bc (Nat.beq (nP z) i.size) (bc (Nat.beq i.size 0) ⟨λ_ _ _ _ _=>.bad⟩ (bc (Nat.ble i.bytes 65536)
  ⟨λ_ t l h n=>aP ((co s L a).run t l) λa=>aP ((co s L x).run t l) λx=>(jS e i.size).run h n a x⟩ ⟨λ_ _ _ _ _=>.bad⟩)) ⟨λ_ _ _ _ _=>.bad⟩) ⟨λ_ _ _ _ _=>.bad⟩
 |_,_,_=>⟨λ_ _ _ _ _=>.bad⟩
def JO(s:Sl)(L:List Tmp)(ty:TypeId)(d x:Operand):Cl:=match P.underlying ty with
 |some (.slice e)=>(match BR P e with
  |some w=>⟨λ_ t l h n=>aP ((co s L d).run t l) λd=>aP ((co s L x).run t l) λx=>sV w h n d x⟩
  |none=>⟨λ_ _ _ _ _=>.bad⟩)
 |_=>⟨λ_ _ _ _ _=>.bad⟩
def NK(s:Sl)(L:List Tmp)(x y:Operand):Cl:=⟨λ_ t l h n=>match(co s L x).run t l,(co s L y).run t l with|some (.i k a),some (.i _ b)=>.ok (.i k (bc (mo b a) a b)) h n|_,_=>.bad⟩
def NM(s:Sl)(L:List Tmp)(x y:Operand):Cl:=⟨λ_ t l h n=>match(co s L x).run t l,(co s L y).run t l with|some (.i k a),some (.i _ b)=>.ok (.i k (bc (mo a b) a b)) h n|_,_=>.bad⟩
def CX(s:Sl)(L:List Tmp)(ty:TypeId)(x:Operand):Cl:=match P.underlying ty with
 |some (.map _ _)=>⟨λ_ t l h n=>match(co s L x).run t l with
  |some (.m b)=>(match h.get b with
   |some (.mp _ pX)=>mk h n (.p n 0) (.it (some b) pX [] pX)
   |_=>.bad)
  |some (.k 2)=>mk h n (.p n 0) (.it none 0 [] 0)
  |_=>.bad⟩
 |_=>⟨λ_ _ _ _ _=>.bad⟩
def NP(h:AH)(n i:Nat):fH:=match h.get i with
 |some (.it none _ _ _)=>.ok (.bJ [.b false]) h n
 |some (.it (some b) since [] _)=>(match h.get b with
  |some (.mp [] _)=>.ok (.bJ [.b false]) h n
  |some (.mp [(k,v,c)] pX)=>bc (Nat.ble (Nat.succ c) since) (.ok (.bJ [.b true,k,v]) (h.set i (.it (some b) since [c] pX)) n) .bad
  |_=>.bad)
 |some (.it (some b) _ [q] NC)=>(match h.get b with
  |some (.mp [(_,_,c)] _)=>bc (Nat.beq c q) (bc (Nat.ble (Nat.succ c) NC) (.ok (.bJ [.b false]) h n) .bad) .bad
  |_=>.bad)
 |_=>.bad
def G6(h:AH)(n i:Nat):fH:=match h.get i with
 |some (.it (some b) _ [q] NC)=>(match h.get b with
  |some (.mp [(k,v,c)] pX)=>bc (Nat.beq pX NC) (bc (Nat.beq c q) (.ok (.bJ [k,v]) h n) .bad) .bad
  |_=>.bad)
 |_=>.bad
def JQ(s:Sl)(L:List Tmp)(x:Operand):Cl:=⟨λ_ t l h n=>match(co s L x).run t l with|some (.p i 0)=>NP h n i|_=>.bad⟩
def CY(s:Sl)(L:List Tmp)(x:Operand):Cl:=⟨λ_ t l h n=>match(co s L x).run t l with|some (.p i 0)=>G6 h n i|_=>.bad⟩
def NQ:Cl:=⟨λ_ _ _ _ _=>.bad⟩
def cop(s:Sl)(Y:YT)(L:List Tmp)(o:Oper):Cl:=
 match o.op with
 | .move x| .assign x=>NI s L x
 | .pick c a b=>EM s L c a b
 | .alloc e=>GY P s L e
 | .box e x=>WJ P s L e x
 | .build ty ps=>zI P s L ty ps.toList
 | .buildSlice ty len ps=>lK P s L ty len ps.toList
 | .load ty a=>EN P s L ty a
 | .store ty a x=>GZ P s L ty a x
 | .nilCheck x=>qZ s L x
 | .binOp op ty x y _=>CV P s L op ty x y
 | .unOp .not _ x=>RU s L x
 | .unOp .neg _ x=>RV s L x
 | .convert c d x=>pV P s L c d x
 | .makeInterface ty x=>iY P s L ty x
 | .makeFunc (.func g) ⟨[]⟩ cs=>ru s L g cs.toList
 | .makeMap _ none=>EO s L
 | .makeMap ty (some (.const (.int _ _)))=>rz P s L ty
 | .makeSlice ty x y=>nS P s L ty x y
 | .slice ty x lo hi none=>zJ P s L ty x lo hi
 | .fieldAddr ty x f=>kD P s L ty x f
 | .field ty x f=>zK P s L ty x f
 | .indexAddr ty x ix=>kE P s L ty x ix
 | .index ty x ix=>zL P s L ty x ix
 | .lookup ty x k ok=>uU P s L ty x k ok
 | .mapUpdate ty m k x| .insert ty m k x=>kI P s L ty m k x
 | .extract x k=>pW s L x k
 | .range ty x=>CX P s L ty x
 | .next x false=>JQ s L x
 | .entry x=>CY s L x
 | .call {callee:=.value g,args,..}=>JN s Y L g args.toList
 | .call {callee:=.invoke x nm,args,..}=>uV P s L x nm args.toList
 | .call {callee:=.builtin b,args,argTypes}=>
  match b,args.toList with
  | .len,[x]=>(match argTypes.toList with|[ty]=>NJ P s L ty x|_=>NQ)
  | .append,[a,x]=>(match argTypes.toList with|[ty,G5]=>yY P s L ty G5 a x|_=>NQ)
  | .copy,[d,x]=>(match argTypes.toList with|ty::_=>JO P s L ty d x|_=>NQ)
  | .max,[x,y]=>NK s L x y
  | .min,[x,y]=>NM s L x y
  |_,_=>NQ
 |_=>NQ
end
end
end
section
noncomputable section
def d_:Op->Nat
 | .move _| .assign _| .pick ..| .build ..| .nilCheck _| .binOp ..| .unOp ..| .convert ..| .makeInterface ..| .makeFunc ..| .slice ..| .fieldAddr ..| .field ..| .indexAddr ..| .index ..| .extract ..=>0
 | .load ..| .lookup ..=>1
 | .alloc _| .box ..| .buildSlice ..| .makeMap ..| .makeSlice ..=>2
 | .call {callee:=.builtin .len,..}=>1
 | .call {callee:=.builtin .max,..}| .call {callee:=.builtin .min,..}=>0
 |_=>3
section
variable (P:Program) (sl:FuncId->Sl)
structure Cc where run:FT->AH->Nat->Tr AV->fJ
structure Cg where run:FT->AH->Nat->Tr AV->List AV->fJ
structure PtF where run:Tr AV->AV->Option (Tr AV)
def wL(s:Sl)(d:Tmp):PtF:=bc (Nat.ble (Nat.succ d) s.N) (bc (s.S d) ⟨λt v=>some ((pp 20 d).run v t)⟩ ⟨λt _=>some t⟩) ⟨λ_ _=>none⟩
structure GdF where run:Tr AV->List AV->Option Bool
def JR(s:Sl)(L:List Tmp)(ops:Array Oper):Option (Nat×Bool)->GdF
 |none=>⟨λ_ _=>some true⟩
 |some (j,w)=>match(ops[j]?).bind (·.dst)with
  |some d=>⟨λt l=>match(co s L (.tmp d)).run t l with|some (.b x)=>some (bc w x (qY x))|some _=>some false|none=>none⟩
  |none=>⟨λ_ _=>none⟩
structure WK where run:Tr AV->List AV->AV->(Tr AV->List AV->fJ)->fJ
def U8(s:Sl)(d:Option Tmp):WK:=@Option.rec Tmp (λ_=>WK) ⟨λt l _ k=>k t l⟩ (λd=>bc (Nat.ble (Nat.succ d) s.N) (bc (s.S d) ⟨λt l v k=>k ((pp 20 d).run v t) l⟩ ⟨λt l v k=>k t (v::l)⟩) ⟨λ_ _ _ _=>.bad⟩) d
def RY(s:Sl)(d:Option Tmp)(L:List Tmp):List Tmp:=@Option.rec Tmp (λ_=>List Tmp) L (λd=>bc (s.S d) L (d::L)) d
def g0(c:Cl)(p:WK)(k:Cg):Cg:=⟨λf h n t l=>nR (c.run f t l h n) λv h n=>p.run t l v λt l=>k.run f h n t l⟩
def g1(g:GdF)(c:Cl)(p:WK)(k:Cg):Cg:=⟨λf h n t l=>@Option.rec Bool (λ_=>fJ) .bad (λb=>bc b
 (nR (c.run f t l h n) λv h n=>p.run t l v λt l=>k.run f h n t l)
 (p.run t l (.bJ []) λt l=>k.run f h n t l)) (g.run t l)⟩
def gE:Cg:=⟨λ_ h n t _=>.ok .bX h n t⟩
def EP(s:Sl)(Y:YT)(ops:Array Oper)(l:List Oper):List Tmp->Cg:=
 @List.rec Oper (λ_=>List Tmp->Cg) (λ_=>gE) (λo _ ih L=>
  @Option.rec (Nat×Bool) (λ_=>Cg) (g0 (cop P s Y L o) (U8 s o.dst) (ih (RY s o.dst L)))
   (λg=>g1 (JR s L ops (some g)) (cop P s Y L o) (U8 s o.dst) (ih (RY s o.dst L))) o.guard) l
def opT:Operand->List Tmp| .tmp k=>[k]|_=>[]
def bit(m i:Nat):Bool:=Nat.beq (Nat.land (Nat.shiftRight m i) 1) 1
def K5(A:List Nat)(o:Oper):Nat:=o.after.toList.foldl (λm e=>bc (Region.binds .any e) (Nat.lor (Nat.lor m (Nat.shiftLeft 1 e.on)) (A.getD e.on 0)) m) 0
def lI(ops:List Oper):List Nat:=ops.foldl (λA o=>A++[K5 A o]) []
def Bq(ops:List Oper)(o:Oper):List Tmp:=o.op.operands.toList.flatMap opT++(match o.guard with
 |some (j,_)=>(match ops[j]? with|some q=>q.dst.toList|none=>[])
 |none=>[])
def wM:List Oper->Nat->List (Nat×Tmp)
 |[],_=>[]
 |o::l,i=>match o.dst with|some d=>(i,d)::wM l (i+1)|none=>wM l (i+1)
def kJ(s:Sl)(W:List (Nat×Tmp))(A:List Nat)(j:Nat):Sl:=⟨λk=>bc (s.S k) (W.all λx=>bc (Nat.beq x.2 k) (bc (Nat.beq x.1 j) true (bit (A.getD x.1 0) j)) true) false,s.N⟩
def mU(W:List (Nat×Tmp))(A:List Nat)(j:Nat)(K:List Tmp):List (Nat×Tmp):=W.filter λx=>bc (bit (A.getD j 0) x.1) (K.contains x.2) false
structure PkF where run:List AV->Option (List AV)
def NR(i:Nat):List Nat->PkF
 |[]=>⟨λ_=>some []⟩
 |k::r=>⟨λvs=>bnd ((EL (i - 1 - k)).run vs) λv=>bnd ((NR i r).run vs) λl=>some (v::l)⟩
structure Ds where run:FT->Tr AV->Nat->AH->Nat->List AV->fH
def Gz(b:Option Bool)(x y:fH):fH:=@Option.rec Bool (λ_=>fH) .bad (λb=>bc b x y) b
def mV(s:Sl)(Y:YT)(ops:Array Oper)(W:List (Nat×Tmp))(A:List Nat)(i j:Nat)(o:Oper):Ds:=
 let s1:=kJ s W A j;let a:=mU W A j (Bq ops.toList o);let L:=a.map (·.2);let p:=NR i (a.map (·.1));let g:=JR s1 L ops o.guard;let c:=cop P s1 Y L o
 match d_ o.op with
 |0=>⟨λf t _ h n vs=>aP (p.run vs) λl=>Gz (g.run t l) (RF (c.run f t l .z 0) λv _ _=>.ok v h n) (.ok (.bJ []) h n)⟩
 |1=>⟨λf t _ h n vs=>aP (p.run vs) λl=>Gz (g.run t l) (RF (c.run f t l h 0) λv _ _=>.ok v h n) (.ok (.bJ []) h n)⟩
 |2=>⟨λf t x h n vs=>aP (p.run vs) λl=>Gz (g.run t l) (RF (c.run f t l .z x) λv h1 n1=>bc (Nat.beq n1 (Nat.succ x)) (aP (h1.get x) λob=>.ok v (h.set x ob) n) .bad) (.ok (.bJ []) h n)⟩
 |_=>⟨λf t _ h n vs=>aP (p.run vs) λl=>Gz (g.run t l) (c.run f t l h n) (.ok (.bJ []) h n)⟩
inductive CZ where
 |bad|ok (h:AH) (n:Nat) (vs:List AV) (hs:List (Nat×AH))
def pF(x:fH)(f:AV->AH->Nat->CZ):CZ:=@fH.rec (λ_=>CZ) .bad f x
structure Dk where run:FT->Tr AV->Nat->AH->Nat->List AV->List (Nat×AH)->CZ
def iT(k:Nat):List Oper->Nat->List Nat
 |[],_=>[]
 |o::l,j=>bc (Nat.beq (d_ o.op) k) (j::iT k l (j+1)) (iT k l (j+1))
def nT{α:Type}(l:List α)(p:α->Bool):Bool:=@List.rec α (λ_=>Bool) true (λa _ ih=>bc (p a) ih false) l
def RZ(a b:Nat):Bool:=Nat.ble (Nat.succ a) b
def yM(a b:Bool):Bool:=bc a b true
def calm(E:List Nat)(p j:Nat):Bool:=nT E λe=>yM (Nat.ble p e) (Nat.ble j e)
def K6(E B A:List Nat)(j:Nat):Bool:=nT B λa=>yM (bc (RZ a j) (calm E a j) false) (bit (A.getD j 0) a)
def Bw(s:Sl)(Y:YT)(ops:Array Oper)(W:List (Nat×Tmp))(A E B:List Nat):List Oper->Nat->Nat->Dk
 |[],_,_=>⟨λ_ _ _ h n vs hs=>.ok h n vs hs⟩
 |o::l,j,r=>bc (Nat.beq (d_ o.op) 3)
  ⟨λf t n0 h n vs hs=>pF ((mV P s Y ops W A j j o).run f t 0 h n vs) λv h n=>(Bw s Y ops W A E B l (j+1) r).run f t n0 h n (v::vs) ((j+1,h)::hs)⟩
  (bc (Nat.beq (d_ o.op) 2)
  ⟨λf t n0 h n vs hs=>pF ((mV P s Y ops W A j j o).run f t (Nat.add n0 r) h n vs) λv h n=>(Bw s Y ops W A E B l (j+1) (r+1)).run f t n0 h n (v::vs) hs⟩
  (bc (Nat.beq (d_ o.op) 1) (bc (K6 E B A j)
  ⟨λf t n0 h n vs hs=>pF ((mV P s Y ops W A j j o).run f t 0 h n vs) λv _ _=>(Bw s Y ops W A E B l (j+1) r).run f t n0 h n (v::vs) hs⟩
  ⟨λf t n0 h n vs hs=>@Option.rec (Nat×AH) (λ_=>CZ) .bad (λx=>pF ((mV P s Y ops W A j j o).run f t 0 x.2 n vs) λv _ _=>(Bw s Y ops W A E B l (j+1) r).run f t n0 h n (v::vs) hs) (hd hs)⟩)
  ⟨λf t n0 h n vs hs=>pF ((mV P s Y ops W A j j o).run f t 0 h n vs) λv h n=>(Bw s Y ops W A E B l (j+1) r).run f t n0 h n (v::vs) hs⟩))
mutual
def K7:AV->AV->Bool
 | .b x,.b y=>bc x y (qY y)
 | .i k n,.i k' n'=>bc (yL k k') (gu n n') false
 | .s l,.s l'=>sj l l'
 | .p x o,.p x' o'=>bc (Nat.beq x x') (Nat.beq o o') false
 | .sl x l o n none,.sl x' l' o' n' none=>bc (Nat.beq x x') (bc (Nat.beq l l') (bc (Nat.beq o o') (Nat.beq n n') false) false) false
 | .sl x l o n (some c),.sl x' l' o' n' (some c')=>bc (Nat.beq x x') (bc (Nat.beq l l') (bc (Nat.beq o o') (bc (Nat.beq n n') (Nat.beq c c') false) false) false) false
 | .m x,.m y=>Nat.beq x y
 | .f g l,.f g' l'=>bc (Nat.beq g g') (wO l l') false
 | .y x,.y y=>Nat.beq x y
 | .wI t v,.wI t' v'=>bc (Nat.beq t t') (K7 v v') false
 | .agg l,.agg l'=>wO l l'
 | .bJ l,.bJ l'=>wO l l'
 | .k c,.k c'=>Nat.beq c c'
 | .es a c,.es a' c'=>bc (decide (a=a')) (Nat.beq c c') false
 |_,_=>false
def wO:List AV->List AV->Bool
 |[],[]=>true
 |a::l,b::r=>bc (K7 a b) (wO l r) false
 |_,_=>false
end
def adm(E:List Nat)(A:List Nat)(j p:Nat):Bool:=bc (nT E λe=>yM (bit (A.getD j 0) e) (RZ e p)) (nT E λe=>yM (RZ e p) (qY (bit (A.getD e 0) j))) false
def own(E:List Nat)(j p:Nat):Bool:=bc (Nat.ble p j) (calm E p j) false
structure RkF where run:FT->Tr AV->List AV->List (Nat×AH)->Bool
def ER(p:Nat)(hs:List (Nat×AH)):Option AH:=@List.rec (Nat×AH) (λ_=>Option AH) none (λx _ ih=>bc (Nat.beq x.1 p) (some x.2) ih) hs
def ck1(s:Sl)(Y:YT)(ops:Array Oper)(W:List (Nat×Tmp))(A:List Nat)(j p:Nat):RkF:=match ops[j]? with
 |some o=>⟨λf t vs hs=>match ER p hs,(EL (ops.size - 1 - j)).run vs with
  |some H,some v=>(match(mV P s Y ops W A ops.size j o).run f t 0 H 0 vs with| .ok v' _ _=>K7 v v'| .bad=>false)
  |_,_=>false⟩
 |none=>⟨λ_ _ _ _=>false⟩
def zM(s:Sl)(Y:YT)(ops:Array Oper)(W:List (Nat×Tmp))(A:List Nat):List (Nat×Nat)->RkF
 |[]=>⟨λ_ _ _ _=>true⟩
 |x::l=>⟨λf t vs hs=>bc ((ck1 P s Y ops W A x.1 x.2).run f t vs hs) ((zM s Y ops W A l).run f t vs hs) false⟩
def pairs(E R:List Nat)(A:List Nat):List (Nat×Nat):=R.flatMap λj=>((0::E.map (·+1)).filter λp=>bc (own E j p) false (adm E A j p)).map λp=>(j,p)
def okS(s:Sl)(ops:Array Oper)(W:List (Nat×Tmp))(A E B:List Nat):Bool:=
 bc (nT (List.range ops.size) λj=>match ops[j]? with|some o=>nT o.after.toList λe=>yM (Region.binds .any e) (RZ e.on j)|none=>false)
 (bc (nT E λe'=>bc (nT E λe=>yM (RZ e e') (bit (A.getD e' 0) e)) (nT B λa=>yM (RZ a e') (bit (A.getD e' 0) a)) false)
 (nT W λx=>bc (Nat.ble (Nat.succ x.2) s.N) (nT W λy=>yM (Nat.beq x.2 y.2) (Nat.beq x.1 y.1)) false) false) false
structure PdF where run:List AV->Tr AV->Option (Tr AV)
def C8(s:Sl)(i:Nat):List (Nat×Tmp)->PdF
 |[]=>⟨λ_ t=>some t⟩
 |x::l=>bc (s.S x.2) ⟨λvs t=>bnd ((EL (i - 1 - x.1)).run vs) λv=>(C8 s i l).run vs ((pp 20 x.2).run v t)⟩ (C8 s i l)
def kOf(B:List Nat):Nat:=@List.rec Nat (λ_=>Nat) 0 (λ_ l _=>Nat.succ (Nat.succ (nP l))) B
def K8(s:Sl)(Y:YT)(ops:Array Oper):Cc:=
 let W:=wM ops.toList 0;let A:=lI ops.toList;let E:=iT 3 ops.toList 0;let R:=iT 1 ops.toList 0;let B:=iT 2 ops.toList 0;let K:=kOf B;let D:=Bw P s Y ops W A E B ops.toList 0 0;let C:=zM P s Y ops W A (pairs E R A);let T:=C8 s ops.size W
 bc (okS s ops W A E B) ⟨λf h n t=>
  (@CZ.rec (λ_=>fJ) .bad (λh1 n1 vs hs=>bc (C.run f t vs hs) (@Option.rec (Tr AV) (λ_=>fJ) .bad (λt1=>.ok .bX h1 n1 t1) (T.run vs t)) .bad)
   (D.run f t n h (Nat.add n K) [] [(0,h)]))⟩ ⟨λ_ _ _ _=>.bad⟩
def pY(k:Nat)(b:Cc)(f:FT):AH->Nat->Tr AV->fJ:=
 @Nat.rec (λ_=>AH->Nat->Tr AV->fJ) (λ_ _ _=>.bad) (λ_ ih h n t=>jh (b.run f h n t) λx h n t=>EK x (ih h n t) (.ok x h n t)) k
def JU(l:Nat)(h:AH)(n:Nat)(t:Tr AV):fJ:=match h.get l with
 |some (.lp .ready none g u ps fT body)=>.ok .bX (h.set l (.lp .exhausted none g u ps fT body)) n t
 |some (.lp .done (some .ret) g u ps fT body)=>.ok .ret (h.set l (.lp .exhausted (some .ret) g u ps fT body)) n t
 |some (.lp .done (some (.exit id)) g u ps fT body)=>.ok (.exit id) (h.set l (.lp .exhausted (some (.exit id)) g u ps fT body)) n t
 |_=>.bad
def cc(g:FuncId)(Y:YT):Code->Cc
 | .skip=>⟨λ_ h n t=>.ok .bX h n t⟩
 | .region _ ops d=>bc d (K8 P (sl g) Y ops) ⟨λf h n t=>(EP P (sl g) Y ops ops.toList []).run f h n t []⟩
 | .seq a b=>⟨λf h n t=>jh ((cc g Y a).run f h n t) λx h n t=>EK x ((cc g Y b).run f h n t) (.ok x h n t)⟩
 | .cond c a b=>⟨λf h n t=>match(co (sl g) [] c).run t []with
  |some (.b x)=>bc x ((cc g Y a).run f h n t) ((cc g Y b).run f h n t)
  |_=>.bad⟩
 | .block id a=>⟨λf h n t=>jh ((cc g Y a).run f h n t) λx h n t=>match x with
  | .exit j=>bc (Nat.beq j id) (.ok .bX h n t) (.ok (.exit j) h n t)
  |x=>.ok x h n t⟩
 | .loop a=>⟨λf h n t=>pY 1125899906842624 (cc g Y a) f h n t⟩
 | .scope a=>⟨λf h n t=>jh ((cc g Y a).run f h n t) λx h n t=>match x with
  | .goto _=>.bad
  |x=>.ok x h n t⟩
 | .label _=>⟨λ_ h n t=>.ok .bX h n t⟩
 | .exit id=>⟨λ_ h n t=>.ok (.exit id) h n t⟩
 | .goto l=>⟨λ_ h n t=>.ok (.goto l) h n t⟩
 | .ret=>⟨λ_ h n t=>.ok .ret h n t⟩
 | .rangeFunc r ps fT body=>⟨λf h n t=>match(co (sl g) [] r).run t []with
  |some (.f q cap)=>nR (f q (.y n::cap) (h.set n (.lp .ready none g t ps.toList fT body)) (Nat.succ n)) λ_ h2 n2=>JU n h2 n2 t
  |_=>.bad⟩
 | .refuse _=>⟨λ_ _ _ _=>.bad⟩
def xV(s:Sl):List Tmp->List AV->Tr AV->Option (Tr AV)
 |k::ks,v::l,t=>bnd ((wL s k).run t v) λt=>xV s ks l t
 |[],[],t=>some t
 |_,_,_=>none
def yE(l:Nat)(x:Ex)(h:AH)(n:Nat):fH:=match h.get l with
 |some (.lp _ _ g u ps fT body)=>match x with
  | .bX=>.ok (.b true) (h.set l (.lp .ready none g u ps fT body)) n
  | .ret=>.ok (.b false) (h.set l (.lp .done (some .ret) g u ps fT body)) n
  | .exit id=>.ok (.b false) (h.set l (.lp .done (some (.exit id)) g u ps fT body)) n
  | .goto _=>.bad
 |_=>.bad
def yl(k:Nat):YT:=
 @Nat.rec (λ_=>YT) (λ_ _ _ _ _=>.bad)
  (λ_ ih l args f h n=>match h.get l with
   |some (.lp .ready pd g t ps fT body)=>aP (xV (sl g) ps args t) λt1=>
    pQ ((cc P sl g ih fT).run f h n t1) λx h n t2=>match x with
     | .bX=>match h.get l with
      |some (.lp .ready pd g1 u1 ps1 yN oP)=>pQ ((cc P sl g ih body).run f (h.set l (.lp .busy pd g1 u1 ps1 yN oP)) n t2) λx h n _=>yE l x h n
      |_=>.bad
     |_=>.bad
   |_=>.bad) k
structure RsF where run:Tr AV->AH->Option (List AV)
def C9(s:Sl):List ResultVar->RsF
 |[]=>⟨λ_ _=>some []⟩
 | .tmp k::l=>⟨λt h=>bnd ((co s [] (.tmp k)).run t []) λa=>bnd ((C9 s l).run t h) λb=>some (a::b)⟩
 | .cell a ty::l=>⟨λt h=>match(co s [] (.tmp a)).run t []with|some (.p x o)=>bnd (zF P ty h x o) λa=>bnd ((C9 s l).run t h) λb=>some (a::b)|_=>none⟩
def yO(s:Sl)(l:List ResultVar)(t:Tr AV)(h:AH):Option AV:=
 bnd ((C9 P s l).run t h) λl=>match l with|[v]=>some v|l=>some (.bJ l)
def wP(s:Sl):Nat->List AV->Tr AV->Option (Tr AV)
 |_,[],t=>some t
 |k,v::l,t=>bnd ((wL s k).run t v) λt=>wP s (k+1) l t
structure Fc where run:FT->List AV->AH->Nat->fH
def WL(g:FuncId):Fc:=
 match hd (r_ g P.funcs.toList)with
 |some fn=>match fn.body with
  |some c=>bc (Nat.ble (sl g).N fn.ntmps) ⟨λf args h n=>aP (wP (sl g) 0 args .z) λt=>pQ ((cc P sl g (yl P sl 20) c).run f h n t) λx h n t=>match x with
   | .bX=>ok1 (yO P (sl g) fn.results.toList t h) h n
   | .ret=>ok1 (yO P (sl g) fn.results.toList t h) h n
   |_=>.bad⟩ ⟨λ_ _ _ _=>.bad⟩
  |none=>⟨λ_ _ _ _=>.bad⟩
 |none=>⟨λ_ _ _ _=>.bad⟩
abbrev OT:=FT->FuncId->List AV->AH->Nat->Option fH
def iU(O:OT)(k:Nat):FT:=@Nat.rec (λ_=>FT) (λ_ _ _ _=>.bad) (λ_ ih g args h n=>@Option.rec fH (λ_=>fH) ((WL P sl g).run ih args h n) (λr=>r) (O ih g args h n)) k
end
end
end
section
theorem bD{α:Type}(a b:α):bc true a b=a:=rfl
theorem gH{α:Type}(a b:α):bc false a b=b:=rfl
theorem aB{α β:Type}{x:Option α}{f:α->Option β}{y:β}(h:bnd x f=some y):∃a,x=some a/\f a=some y:=by
 cases x with
 |none=>cases h
 |some a=>exact⟨a,rfl,h⟩
theorem aW{α:Type}{x:Option α}{f:α->fH}{v:AV}{h:AH}{n:Nat}(e:aP x f= .ok v h n):∃a,x=some a/\f a= .ok v h n:=by
 cases x with
 |none=>cases e
 |some a=>exact⟨a,rfl,e⟩
theorem h_{x:Option AV}{h h':AH}{n n':Nat}{v:AV}(e:ok1 x h n= .ok v h' n'):x=some v/\h'=h/\n'=n:=by
 cases x with
 |none=>cases e
 |some a=>cases e;exact⟨rfl,rfl,rfl⟩
theorem yZ{r:fH}{f:AV->AH->Nat->fJ}{x:Ex}{h:AH}{n:Nat}{t:Tr AV}(e:nR r f= .ok x h n t):∃v h1 n1,r= .ok v h1 n1/\f v h1 n1= .ok x h n t:=by
 cases r with
 |bad=>cases e
 |ok v h1 n1=>exact⟨v,h1,n1,rfl,e⟩
theorem jK{r:fJ}{f:Ex->AH->Nat->Tr AV->fJ}{x:Ex}{h:AH}{n:Nat}{t:Tr AV}(e:jh r f= .ok x h n t):∃x1 h1 n1 t1,r= .ok x1 h1 n1 t1/\f x1 h1 n1 t1= .ok x h n t:=by
 cases r with
 |bad=>cases e
 |ok x1 h1 n1 t1=>exact⟨x1,h1,n1,t1,rfl,e⟩
theorem nU{r:fJ}{f:Ex->AH->Nat->Tr AV->fH}{v:AV}{h:AH}{n:Nat}(e:pQ r f= .ok v h n):∃x1 h1 n1 t1,r= .ok x1 h1 n1 t1/\f x1 h1 n1 t1= .ok v h n:=by
 cases r with
 |bad=>cases e
 |ok x1 h1 n1 t1=>exact⟨x1,h1,n1,t1,rfl,e⟩
theorem jg{c:Bool}{a:fH}{v:AV}{h:AH}{n:Nat}(e:bc c a .bad= .ok v h n):c=true/\a= .ok v h n:=by
 cases c with
 |false=>cases e
 |true=>exact⟨rfl,e⟩
theorem bL{α:Type}{c:Bool}{a:Option α}{v:α}(e:bc c a none=some v):c=true/\a=some v:=by
 cases c with
 |false=>cases e
 |true=>exact⟨rfl,e⟩
theorem beq_eq{a b:Nat}(h:Nat.beq a b=true):a=b:=Nat.eq_of_beq_eq_true h
theorem tX{α:Type}:∀(k:Nat)(l:List α),r_ k l=l.drop k
 |0,_=>rfl
 |k+1,[]=>by show[]=_;simp
 |k+1,a::l=>by show r_ k l=_;rw[tX k];rfl
theorem aaw{α:Type}(l:List α):hd l=l.head?:=by cases l<;>rfl
theorem nV{α:Type}(k:Nat)(l:List α):hd (r_ k l)=l[k]?:=by rw[tX,aaw,List.head?_drop]
theorem iZ{α:Type}:∀(l m:List α),CP l m=l++m
 |[],_=>rfl
 |a::l,m=>by show a::CP l m=_;rw[iZ l];rfl
theorem eT{α:Type}(l:List α):nP l=l.length:=by
 have key:∀(l:List α)(k:Nat),@List.rec α (λ_=>Nat->Nat) (λk=>k) (λ_ _ ih k=>ih (Nat.succ k)) l k=l.length+k:=by
  intro l;induction l with
  |nil=>intro k;simp
  |cons a l ih=>intro k;show@List.rec α (λ_=>Nat->Nat) (λk=>k) (λ_ _ ih k=>ih (Nat.succ k)) l (k+1)=_;rw[ih];simp;omega
 exact key l 0
theorem kK{α:Type}:∀{k:Nat}{l m:List α},mP k l=some m->k<=l.length/\m=l.take k
 |0,_,_,h=>by cases h;simp
 |k+1,[],_,h=>by cases h
 |k+1,a::l,m,h=>by
  obtain⟨x,h1,h2⟩:=aB (show bnd (mP k l) (λx=>some (a::x))=some m from h);cases h2;obtain⟨h3,rfl⟩:=kK h1;exact⟨by simp;omega,rfl⟩
theorem ES{α:Type}:∀{c l m:List α},WI c l=some m->c.length<=l.length/\m=c++l.drop c.length
 |[],_,_,h=>by cases h;simp
 |a::c,[],_,h=>by cases h
 |a::c,b::l,m,h=>by
  obtain⟨x,h1,h2⟩:=aB (show bnd (WI c l) (λx=>some (a::x))=some m from h);cases h2;obtain⟨h3,rfl⟩:=ES h1;exact⟨by simp;omega,rfl⟩
theorem mW{α:Type}{c:List α}:∀{o:Nat}{l m:List α},wJ c o l=some m->o+c.length<=l.length/\m=l.take o++(c++l.drop (o+c.length))
 |0,l,m,h=>by obtain⟨h1,h2⟩:=ES (show WI c l=some m from h);exact⟨by omega,by simpa using h2⟩
 |o+1,[],_,h=>by cases h
 |o+1,b::l,m,h=>by
  obtain⟨x,h1,h2⟩:=aB (show bnd (wJ c o l) (λx=>some (b::x))=some m from h);cases h2;obtain⟨h3,rfl⟩:=mW h1;exact⟨by simp;omega,by simp[show o+1+c.length=(o+c.length)+1 by omega]⟩
theorem eZ(a b:Int):mo a b=decide (a<=b):=by
 cases a with
 |ofNat m=>cases b with
  |ofNat k=>show Nat.ble m k=_;rw[Bool.eq_iff_iff];simp
  |negSucc k=>show false=_;simp;omega
 |negSucc m=>cases b with
  |ofNat k=>show true=_;simp;omega
  |negSucc k=>show Nat.ble k m=_;rw[Bool.eq_iff_iff];simp;omega
theorem dz(a b:Int):gu a b=decide (a=b):=by
 cases a with
 |ofNat m=>cases b with
  |ofNat k=>show Nat.beq m k=_;rw[Bool.eq_iff_iff];simp;omega
  |negSucc k=>rfl
 |negSucc m=>cases b with
  |ofNat k=>rfl
  |negSucc k=>show Nat.beq m k=_;rw[Bool.eq_iff_iff];simp
theorem jL(a:Bool):qY a= !a:=by cases a<;>rfl
theorem uW{i:Int}{n:Nat}{f:Nat->Option AV}{v:AV}(h:GJ i n f=some v):∃k:Nat,i=k/\k<n/\f k=some v:=by
 cases i with
 |ofNat k=>
  obtain⟨h1,h2⟩:=bL (show bc (Nat.ble (Nat.succ k) n) (f k) none=some v from h);exact⟨k,rfl,Nat.le_of_ble_eq_true h1,h2⟩
 |negSucc k=>cases h
theorem wQ(k:IntKind)(n:Int):gN k n=k.wrap n:=by
 unfold gN;rw[eZ,eZ];by_cases h1:k.min<=n
 .by_cases h2:n<=k.max
  .simp only[h1,h2,decide_true,bD]
   have:k.wrap n=n:=by
    cases k<;>simp only[IntKind.min,IntKind.max,IntKind.signed,IntKind.bits,if_true,Bool.false_eq_true,if_false]at h1 h2<;>simp only[IntKind.wrap,IntKind.signed,IntKind.bits,Bool.true_and,Bool.false_and]<;>(try split)<;>simp_all<;>omega
   exact this.symm
  .simp only[h1,h2,decide_true,decide_false,bD,gH]
 .simp only[h1,decide_false,gH]
theorem jy:∀(a b:List UInt8),sj a b=(a==b)
 |[],[]=>rfl
 |[],_::_=>rfl
 |_::_,[]=>rfl
 |x::a,y::b=>by
  show bc (Nat.beq x.toNat y.toNat) (sj a b) false=_;rw[jy a b];by_cases h:x=y
  .subst h;rw[show Nat.beq x.toNat x.toNat=true from Nat.beq_refl _];simp[bc]
  .have:Nat.beq x.toNat y.toNat=false:=by
    cases e:Nat.beq x.toNat y.toNat with
    |false=>rfl
    |true=>exact absurd (UInt8.toNat_inj.1 (Nat.eq_of_beq_eq_true e)) h
   rw[this];simp[bc,h]
theorem BS{h h':AH}{n n':Nat}{v u:AV}{o:AO}(e:mk h n v o= .ok u h' n'):u=v/\h'=h.set n o/\n'=n+1:=by
 cases e;exact⟨rfl,rfl,rfl⟩
theorem iR{α:Type}(t:Tr α)(n m:Nat)(v:α):(t.set n v).get m=if m=n then some v else t.get m:=Tr.get_put _ _ _ _
theorem C_{α:Type}(t:Tr α)(n m:Nat):(t.del n).get m=if m=n then none else t.get m:=Tr.get_put _ _ _ _
section
variable {P:Program} {sl:FuncId->Sl} {θ:Th} {h:AH} {n:Nat} {w:World}
theorem RH.lt(H:RH P sl θ h n w){x:Nat}{r:Nat×Nat}(e:θ x=some r):x<n:=by
 rcases Nat.lt_or_ge x n with h1|h1
 .exact h1
 .rw[H.new x h1]at e;cases e
theorem RH.dom(H:RH P sl θ h n w){x:Nat}{o:AO}(e:h.get x=some o):x<n:=by
 obtain⟨r,c,_,h1,_⟩:=H.at_ x o e;exact H.lt h1
def Th.ins(θ:Th)(n:Nat)(r:Nat×Nat):Th:=λx=>if x=n then some r else θ x
theorem iH.ins(H:RH P sl θ h n w)(r:Nat×Nat):iH θ (θ.ins n r):=λx q e=>by
 have:=H.lt e;unfold Th.ins;rw[if_neg (by omega)];exact e
theorem Th.dN(θ:Th)(n:Nat)(r:Nat×Nat):θ.ins n r n=some r:=if_pos rfl
theorem RH.JV(H:RH P sl θ h n w)(r:Nat×Nat)(x y:Nat)(e1:θ x=none)(e2:θ.ins n r x≠none)(e3:θ y≠none):y<x:=by
 have hx:x=n:=by
  by_cases hx:x=n
  .exact hx
  .unfold Th.ins at e2;rw[if_neg hx]at e2;exact absurd e1 e2
 subst hx;rcases Nat.lt_or_ge y x with h1|h1
 .exact h1
 .exact absurd (H.new y h1) e3
theorem bK{w:World}{k:Nat}{o:Obj}(e:w.heap[k]?=some o):k<w.heap.size:=by
 rcases Nat.lt_or_ge k w.heap.size with h|h
 .exact h
 .rw[Array.getElem?_eq_none h]at e;cases e
theorem RH.alloc(H:RH P sl θ h n w)(c:Nat){o:AO}{obj:Obj}(hA:tV P sl θ c o obj)(ho:Bv (some o)=true:=by rfl):
 RH P sl (θ.ins n (w.heap.size,c)) (h.set n o) (n+1) (w.alloc obj)/\Fr θ h w (θ.ins n (w.heap.size,c)) (h.set n o) (w.alloc obj):=by
 have hle:=iH.ins H (w.heap.size,c);have hget:∀x,(h.set n o).get x=if x=n then some o else h.get x:=λx=>iR _ _ _ _
 have hheap:∀k,(w.alloc obj).heap[k]?=if k=w.heap.size then some obj else w.heap[k]?:=λk=>by
  show(w.heap.push obj)[k]?=_;rw[Array.getElem?_push]
 refine H.mkF ?_ ?_ ?_ ⟨rfl,rfl,rfl,by show _<=(w.heap.push obj).size;simp,?_,hle,?_,λk r e=>⟨r,by rw[hheap,if_neg (by have:=bK e;omega)];exact e⟩,H.JV _,λx f e=>by
  rw[hget]at e;by_cases hx:x=n
  .rw[if_pos hx]at e;cases e;cases ho
  .rw[if_neg hx]at e;exact e⟩
 .intro x a ha
  rw[hget]at ha;by_cases hx:x=n
  .subst hx;rw[if_pos rfl]at ha;cases ha
   exact⟨_,_,obj,Th.dN _ _ _,by rw[hheap,if_pos rfl],tV.mono hle hA⟩
  .rw[if_neg hx]at ha
   obtain⟨r,d,ob,h1,h2,h3⟩:=H.at_ x a ha;refine⟨r,d,ob,hle _ _ h1,?_,tV.mono hle h3⟩;rw[hheap,if_neg ?_];· exact h2
   rintro rfl;simp at h2
 .intro x y r c1 d1 hx hy e1 e2
  rw[hget]at hx hy;unfold Th.ins at e1 e2;by_cases hx1:x=n
  .by_cases hy1:y=n
   .rw[hx1,hy1]
   .exfalso
    rw[if_pos hx1]at e1;cases e1;rw[if_neg hy1]at e2 hy;obtain⟨b,hb⟩:=Option.isSome_iff_exists.1 hy;obtain⟨r',d',ob,h1,h2,_⟩:=H.at_ y b hb;rw[h1]at e2;cases e2;simp at h2
  .rw[if_neg hx1]at e1 hx
   by_cases hy1:y=n
   .exfalso
    rw[if_pos hy1]at e2;cases e2;obtain⟨b,hb⟩:=Option.isSome_iff_exists.1 hx;obtain⟨r',d',ob,h1,h2,_⟩:=H.at_ x b hb;rw[h1]at e1;cases e1;simp at h2
   .rw[if_neg hy1]at e2 hy
    exact H.inj x y r c1 d1 hx hy e1 e2
 .intro x hx
  unfold Th.ins;rw[if_neg (by omega)];exact H.new x (by omega)
 .intro k hk _
  rw[hheap,if_neg (by omega)]
 .rintro k ⟨x,d,hx,e⟩
  rw[hget]at hx;unfold Th.ins at e;by_cases hx1:x=n
  .rw[if_pos hx1]at e;cases e;exact .inr (Nat.le_refl _)
  .rw[if_neg hx1]at e hx;exact .inl ⟨x,d,hx,e⟩
theorem RH.turn(H:RH P sl θ h n w){x r c:Nat}{o o':AO}{Bz:Obj}{w':World}(hx:h.get x=some o)(hr:θ x=some (r,c))(hA:tV P sl θ c o' Bz)
 (hos:w'.os=w.os)(aax:w'.tape=w.tape)(hout:w'.output=w.output)(hsize:w'.heap.size=w.heap.size)(hw:∀k,w'.heap[k]?=if k=r then some Bz else w.heap[k]?)
 (hk:∀d q,tV P sl θ d o (.loop q)->∃q',Bz= .loop q')(ho:Bv (some o)=true:=by rfl)(ho':Bv (some o')=true:=by rfl):
 RH P sl θ (h.set x o') n w'/\Fr θ h w θ (h.set x o') w':=by
 have hxn:=H.dom hx;have hget:∀y,(h.set x o').get y=if y=x then some o' else h.get y:=λy=>iR _ _ _ _
 have hsome:∀y,((h.set x o').get y).isSome=true->(h.get y).isSome=true:=λy hy=>by
  rw[hget]at hy;by_cases e:y=x
  .rw[e,hx];rfl
  .rw[if_neg e]at hy;exact hy
 refine H.mkF ?_ (λy z r' c1 d1 hy hz=>H.inj y z r' c1 d1 (hsome y hy) (hsome z hz)) H.new ⟨hos,aax,hout,Nat.le_of_eq hsize.symm,?_,iH.refl _,?_,?_,λ_ _ e e'=>absurd e e',λy f e=>by
  rw[hget]at e;by_cases hy:y=x
  .rw[if_pos hy]at e;cases e;cases ho'
  .rw[if_neg hy]at e;exact e⟩
 .intro y a ha
  rw[hget]at ha;by_cases hy:y=x
  .subst hy;rw[if_pos rfl]at ha;cases ha
   exact⟨r,c,Bz,hr,by rw[hw,if_pos rfl],hA⟩
  .rw[if_neg hy]at ha
   obtain⟨r',d,ob,h1,h2,h3⟩:=H.at_ y a ha;refine⟨r',d,ob,h1,?_,h3⟩;rw[hw,if_neg ?_];· exact h2
   rintro rfl;exact hy (H.inj y x r' d c (by rw[ha];rfl) (by rw[hx];rfl) h1 hr)
 .intro k _ hk
  rw[hw,if_neg];rintro rfl;exact hk ⟨x,c,by rw[hx];exact ho,hr⟩
 .rintro k ⟨y,d,hy,e⟩
  refine .inl ⟨y,d,?_,e⟩;rw[hget]at hy;by_cases e:y=x
  .rw[e,hx];exact ho
  .rw[if_neg e]at hy;exact hy
 .intro k q e
  rw[hw];by_cases hkr:k=r
  .subst hkr
   obtain⟨r',d,ob,h1,h2,h3⟩:=H.at_ x o hx;rw[hr]at h1;cases h1;rw[e]at h2;cases h2;obtain⟨q',e'⟩:=hk _ q h3;exact⟨q',by rw[if_pos rfl,e']⟩
  .exact⟨q,by rw[if_neg hkr];exact e⟩
end
end
section
mutual
theorem nW{θ:Th}:∀{v:Value}{a:AV},U6 v=some a->aV θ a v
 | .bool _,_,h=>by cases h;rfl
 | .int _ _,_,h=>by cases h;rfl
 | .string _,_,h=>by cases h;rfl
 | .pointer none,_,h=>by cases h;rfl
 | .slice none 0 0,_,h=>by cases h;rfl
 | .map none,_,h=>by cases h;rfl
 | .nilFunc,_,h=>by cases h;rfl
 | .nilIface,_,h=>by cases h;rfl
 | .func (.func g) ⟨[]⟩ ⟨[]⟩,_,h=>by cases h;exact⟨[],rfl,rfl⟩
 | .agg ⟨cs⟩,a,h=>by
  obtain⟨h1,h2⟩:=bL (show bc (cs.all (·.oneCell')) (bnd (ND cs) λl=>some (.agg l)) none=some a from h);obtain⟨l,h3,h4⟩:=aB h2;cases h4
  exact⟨cs,JW h3,by simpa using h1,rfl⟩
theorem JW{θ:Th}:∀{vs:List Value}{l:List AV},ND vs=some l->fE θ l vs
 |[],_,h=>by cases h;rfl
 |v::vs,l,h=>by
  obtain⟨a,h1,h2⟩:=aB (show bnd (U6 v) (λa=>bnd (ND vs) λb=>some (a::b))=some l from h);obtain⟨b,h3,h4⟩:=aB h2;cases h4
  exact⟨v,vs,nW h1,JW h3,rfl⟩
end
def LR(s:Sl)(θ:Th)(L:List Tmp)(l:List AV)(tm:Array Value):Prop:=∀k j a,s.S k=false->idx k L=some j->l[j]?=some a->∃v,tm[k]?=some v/\aV θ a v
theorem LR.nil(s:Sl)(θ:Th)(tm:Array Value):LR s θ [] [] tm:=λ_ _ _ _ h=>by cases h
theorem LR.mono{s:Sl}{θ bW:Th}{L:List Tmp}{l:List AV}{tm:Array Value}(h:iH θ bW)(k:LR s θ L l tm):LR s bW L l tm:=
 λi j a e0 e1 e2=>let⟨v,h1,h2⟩:=k i j a e0 e1 e2;⟨v,h1,aV.mono h a h2⟩
theorem jT:∀(j:Nat)(l:List AV),(EL j).run l=l[j]?
 |0,[]=>rfl
 |0,_::_=>rfl
 |_+1,[]=>rfl
 |j+1,_::r=>by show(EL j).run r=_;rw[jT j];rfl
theorem G7{s:Sl}{L:List Tmp}{k:Tmp}{t:Tr AV}{l:List AV}{θ:Th}{tm:Array Value}{a:AV}(h:(Nj s L k).run t l=some a)(hT:RT s θ t tm)(hL:LR s θ L l tm):∃v,tm[k]?=some v/\aV θ a v:=by
 unfold Nj at h;cases hS:s.S k with
 |true=>
  rw[hS,bD]at h;exact hT.at_ k a hS (by rw[<-mh 20];exact h)
 |false=>
  rw[hS,gH]at h;cases hi:idx k L with
  |none=>rw[hi]at h;cases h
  |some j=>rw[hi]at h;exact hL k j a hS hi (by rw[<-jT];exact h)
theorem bH{s:Sl}{L:List Tmp}{x:Operand}{t:Tr AV}{l:List AV}{θ:Th}{ac:Act}{a:AV}(h:(co s L x).run t l=some a)(hT:RT s θ t ac.tmps)(hL:LR s θ L l ac.tmps):aV θ a (ac.eval x):=by
 cases x with
 |tmp k=>
  obtain⟨v,h1,h2⟩:=G7 (show(Nj s L k).run t l=some a from h) hT hL;show aV θ a (ac.tmps.getD k undef);rw[Array.getD_eq_getD_getElem?,h1];exact h2
 |const v=>exact nW (show U6 v=some a from h)
 |global g=>cases h
 |func f=>cases h;exact⟨[],rfl,rfl⟩
theorem Da{s:Sl}{L:List Tmp}{t:Tr AV}{l:List AV}{θ:Th}{ac:Act}(hT:RT s θ t ac.tmps)(hL:LR s θ L l ac.tmps):∀{xs:List Operand}{us:List AV},(col s L xs).run t l=some us->fE θ us (xs.map ac.eval)
 |[],_,h=>by cases h;rfl
 |x::xs,us,h=>by
  obtain⟨a,h1,h2⟩:=aB (show bnd ((co s L x).run t l) (λa=>bnd ((col s L xs).run t l) λb=>some (a::b))=some us from h);obtain⟨b,h3,h4⟩:=aB h2;cases h4
  exact⟨_,_,bH h1 hT hL,Da hT hL h3,rfl⟩
theorem WM(c:Nat):(kv c).oneCell'=true:=by
 unfold kv;split<;>rfl
theorem Db{θ:Th}{a:AV}{v:Value}{c:List AV}(h:pO a=some c)(hv:aV θ a v):fE θ c v.cells.toList/\∀x∈v.cells.toList,x.oneCell'=true:=by
 have one:v.oneCell'=true->v.cells=#[v]->fE θ [a] v.cells.toList/\∀x∈v.cells.toList,x.oneCell'=true:=λh1 h2=>by
  rw[h2];exact⟨⟨v,[],hv,rfl,rfl⟩,by simpa using h1⟩
 cases a with
 |agg l=>cases h;obtain⟨vs,h1,h2,rfl⟩:=hv;exact⟨by simpa [Value.cells]using h1,by simpa [Value.cells]using h2⟩
 |bJ l=>cases h
 |b x=>cases h;have e:v= .bool x:=hv;subst e;exact one rfl rfl
 |i k n=>cases h;have e:v= .int k n:=hv;subst e;exact one rfl rfl
 |s l=>cases h;have e:v= .string ⟨l.toArray⟩:=hv;subst e;exact one rfl rfl
 |p x o=>cases h;obtain⟨r,d,_,e⟩:=id hv;subst e;exact one rfl rfl
 |sl x m o n d=>cases h;obtain⟨r,d,_,_,e⟩:=id hv;subst e;exact one rfl rfl
 |m x=>cases h;obtain⟨r,d,_,e⟩:=id hv;subst e;exact one rfl rfl
 |f g cap=>cases h;obtain⟨r,_,e⟩:=id hv;subst e;exact one rfl rfl
 |y l=>cases h;obtain⟨r,d,_,e⟩:=id hv;subst e;exact one rfl rfl
 |wI t u=>cases h;obtain⟨r,_,e⟩:=id hv;subst e;exact one rfl rfl
 |es a d=>cases h;obtain⟨_,_,e⟩:=id hv;subst e;exact one rfl rfl
 |k c=>cases h;have e:v=kv c:=hv;subst e;refine one (WM c) ?_;unfold kv;split<;>rfl
theorem BU{x:Option AO}{l:List (AV×AV×Nat)}(h:K4 x=some l):∃c,x=some (.mp l c):=by
 obtain⟨o,rfl,h2⟩:=aB h;cases o with
 |row t m=>cases h2
 |mp es c=>cases h2;exact⟨c,rfl⟩
 |lp=>cases h2
 |it=>cases h2
 |ro=>cases h2
section
variable {P:Program} {sl:FuncId->Sl} {θ:Th} {h:AH} {n:Nat} {w:World}
theorem NS{t:TypeId}{d:TypeDesc}(e:P.underlying t=some d):und P t=d:=by unfold und;rw[e];rfl
theorem ET{t:TypeId}{d:TypeDesc}(e:P.underlying t=some d):∃i,P.info? t=some i:=by
 unfold Program.underlying at e;split at e
 .exact⟨_,‹_›⟩
 .exact⟨_,‹_›⟩
 .cases e
theorem rC{t:TypeId}{i:TypeInfo}(e:P.info? t=some i):sz P t=i.size:=by unfold sz Program.cellsOf;rw[e];rfl
theorem jc{t:TypeId}{k:Nat}(e:BR P t=some k):∃i,P.info? t=some i/\i.size=k:=by
 unfold BR at e;cases hi:P.info? t with
 |none=>rw[hi]at e;cases e
 |some i=>rw[hi]at e;cases e;exact⟨i,rfl,rfl⟩
theorem RH.row(H:RH P sl θ h n w){x:Nat}{t:TypeId}{l:List AV}(e:h.get x=some (.row t l)):
 ∃(r c:Nat)(cs:Array Value)(vs:List Value),θ x=some (r,c)/\w.heap[r]?=some (.cells cs t (0,0))/\cs.size=c*P.cellsOf t/\fE θ l vs/\(∀v∈cs.toList,v.oneCell'=true)/\(∀(j:Nat)(v:Value),vs[j]?=some v->cs[j]?=some v)/\vs.length=l.length/\∃rest,cs.toList=vs++rest:=by
 obtain⟨r,c,obj,h1,h2,cs,vs,rest,rfl,h3,h4,h5,h6⟩:=H.at_ x _ e;refine⟨r,c,cs,vs,h1,h2,h3,h5,h6,λj v hv=>?_,h5.length,rest,h4⟩;rw[<-Array.getElem?_toList,h4,List.getElem?_append_left];· exact hv
 exact(List.getElem?_eq_some_iff.1 hv).1
theorem iM{r:Nat}{cs:Array Value}{t:TypeId}{fz:Nat×Nat}(e:w.heap[r]?=some (.cells cs t fz))(j:Nat):w.cell? ⟨r,j,none⟩=cs[j]?:=by
 unfold World.cell?;simp only[e];rfl
theorem kL{r:Nat}{cs:Array Value}{t:TypeId}(e:w.heap[r]?=some (.cells cs t (0,0)))(j:Nat):w.frozen? ⟨r,j,none⟩=false:=by
 unfold World.frozen?;simp only[e];simp
theorem RH.cut(H:RH P sl θ h n w){x k m:Nat}{l:List AV}(e:iI (h.get x) k m=some l):
 ∃(r c:Nat)(cs:Array Value)(t:TypeId)(fz:Nat×Nat)(vs:List Value),θ x=some (r,c)/\w.heap[r]?=some (.cells cs t fz)/\fE θ l vs/\(∀v∈vs,v.oneCell'=true)/\∀(j:Nat)(v:Value),vs[j]?=some v->cs[k+j]?=some v:=by
 obtain⟨o,h1,h2⟩:=aB e;cases o with
 |row t l0=>
  cases h2
  obtain⟨r,c,cs,vs,e1,e2,e3,e4,e5,e6,e7,rest,e8⟩:=H.row h1;refine⟨r,c,cs,t,_,vs.drop k,e1,e2,by rw[tX];exact e4.drop k,λv hv=>e5 v (by rw[e8];exact List.mem_append_left _ (List.mem_of_mem_drop hv)),λj v hv=>e6 _ _ ?_⟩
  rwa [List.getElem?_drop]at hv
 |mp _ _=>cases h2
 |lp=>cases h2
 |it=>cases h2
 |ro f=>
  obtain⟨r,c,obj,e1,e2,cs,t,fz,rfl,e3⟩:=H.at_ x _ h1;obtain⟨vs,e4,e5,e6⟩:=e3 k m l h2;exact⟨r,c,cs,t,fz,vs,e1,e2,e4,e5,e6⟩
theorem NT{t:TypeId}{l:List AV}{vs:List Value}{o:Nat}{a:AV}(e:(Nk P t).run l o=some a)(hv:fE θ l vs)(h1:∀x∈vs,x.oneCell'=true):
 (∃cs d,aV θ a (.agg cs.toArray)/\P.underlying t=some d/\d.isRow=true/\(P.info? t).map (·.size)=some cs.length/\(∀j v,cs[j]?=some v->vs[o+j]?=some v)/\cs=(vs.drop o).take cs.length)\/
 (∃v d,aV θ a v/\P.underlying t=some d/\d.isRow=false/\vs[o]?=some v):=by
 unfold Nk at e;have row:∀d,P.underlying t=some d->d.isRow=true->bnd (mP (sz P t) (r_ o l)) (λx=>some (AV.agg x))=some a->
  ∃cs d,aV θ a (.agg cs.toArray)/\P.underlying t=some d/\d.isRow=true/\(P.info? t).map (·.size)=some cs.length/\(∀j v,cs[j]?=some v->vs[o+j]?=some v)/\cs=(vs.drop o).take cs.length:=by
  intro d hd hr hh;obtain⟨x,h2,h3⟩:=aB hh;cases h3
  obtain⟨h4,rfl⟩:=kK h2;rw[tX]at h4⊢;obtain⟨i,hi⟩:=ET hd;have hlen:=hv.length;have hl:((vs.drop o).take (sz P t)).length=sz P t:=by
   rw[List.length_take,List.length_drop];rw[List.length_drop]at h4;omega
  refine⟨(vs.drop o).take (sz P t),d,?_,hd,hr,by rw[hi,hl,Option.map_some,<-rC hi],?_,by rw[hl]⟩
  .exact⟨_,(hv.drop o).take _,λx hx=>h1 x (List.mem_of_mem_drop (List.mem_of_mem_take hx)),rfl⟩
  .intro j v hj
   rw[List.getElem?_take]at hj;split at hj
   .rwa [List.getElem?_drop]at hj
   .cases hj
 split at e
 .cases e
 .exact .inl (row _ ‹_› rfl e)
 .exact .inl (row _ ‹_› rfl e)
 .rename_i d hn1 hn2 hdd
  replace e:hd (r_ o l)=some a:=e;rw[nV]at e;obtain⟨v,h2,h3⟩:=hv.get o e;refine .inr ⟨v,d,h3,hdd,?_,h2⟩;cases d<;>first|rfl|(exfalso;first|exact hn1 _ rfl|exact hn2 _ _ rfl)
end
end
section
def Nl(P:Program)(sl:FuncId->Sl)(θ:Th)(h:AH)(w:World)(r:Result Next)(v:AV)(h':AH)(n':Nat):Prop:=
 ∃bW u w',(r= .ok (.value u) w'\/(r= .ok .skip w'/\u=undef))/\aV bW v u/\RH P sl bW h' n' w'/\Fr θ h w bW h' w'
section
variable {P:Program} {sl:FuncId->Sl} {θ:Th} {h h':AH} {n n':Nat} {w:World} {s:Sl} {L:List Tmp} {t:Tr AV} {l:List AV} {ac:Act} {o:Oper} {f:FT} {v:AV}
variable (P sl θ h n w)in
inductive gV (r:Result Next):AV->AH->Nat->Prop
 |mk0 {v:AV} {u:Value} (hr:r= .ok (.value u) w) (hv:aV θ v u):gV r v h n
 |alloc {v u:AV} {ob:AO} {obj:Obj} {x:Value} {h':AH} {n':Nat} (e:mk h n v ob= .ok u h' n') (c:Nat) (hA:tV P sl θ c ob obj) (hr:r= .ok (.value x) (w.alloc obj))
  (hv:aV (θ.ins n (w.heap.size,c)) v x) (ho:Bv (some ob)=true:=by rfl):gV r u h' n'
theorem gV.same{r:Result Next}{v:AV}{u:Value}(_:RH P sl θ h n w)(hr:r= .ok (.value u) w)(hv:aV θ v u):gV P sl θ h n w r v h n:=.mk0 hr hv
theorem gV.ok{r:Result Next}(H:RH P sl θ h n w)(k:gV P sl θ h n w r v h' n'):Nl P sl θ h w r v h' n':=by
 cases k with
 |mk0 hr hv=>exact⟨θ,_,w,.inl hr,hv,H,Fr.refl _ _ _⟩
 |alloc e c hA hr hv ho=>
  obtain⟨rfl,rfl,rfl⟩:=BS e;obtain⟨h1,h2⟩:=H.alloc c hA ho;exact⟨_,_,_,.inl hr,hv,h1,h2⟩
theorem EU{x:Operand}(ho:o.op= .move x\/o.op= .assign x)(e:(NI s L x).run f t l h n= .ok v h' n')(hT:RT s θ t ac.tmps)(hL:LR s θ L l ac.tmps)(H:RH P sl θ h n w):gV P sl θ h n w ((execOp ac.eval o).run P w) v h' n':=by
 obtain⟨h1,rfl,rfl⟩:=h_ (show ok1 ((co s L x).run t l) h n= .ok v h' n' from e);refine .same H ?_ (bH h1 hT hL);rcases ho with ho|ho<;>simp only[execOp,ho]<;>rfl
theorem NU{c a b:Operand}(ho:o.op= .pick c a b)(e:(EM s L c a b).run f t l h n= .ok v h' n')(hT:RT s θ t ac.tmps)(hL:LR s θ L l ac.tmps)(H:RH P sl θ h n w):gV P sl θ h n w ((execOp ac.eval o).run P w) v h' n':=by
 simp only[EM]at e;split at e
 .rename_i h0
  have hc:ac.eval c= .bool true:=bH h0 hT hL;obtain⟨h1,rfl,rfl⟩:=h_ e;exact .same H (by simp[execOp,ho,hc,asBool]) (bH h1 hT hL)
 .rename_i h0
  have hc:ac.eval c= .bool false:=bH h0 hT hL;obtain⟨h1,rfl,rfl⟩:=h_ e;exact .same H (by simp[execOp,ho,hc,asBool]) (bH h1 hT hL)
 .cases e
theorem tY{ty:TypeId}{a:AV}(e:zeroV P ty=some a):∃i z,P.info? ty=some i/\i.zero=some z/\aV θ a z:=by
 obtain⟨z,h1,h2⟩:=aB e;cases hi:P.info? ty with
 |none=>rw[hi]at h1;cases h1
 |some i=>rw[hi]at h1;exact⟨i,z,rfl,h1,nW h2⟩
theorem kM{ty:TypeId}{c:List AV}(e:lJ P ty=some c):∃i z,P.info? ty=some i/\i.zero=some z/\fE θ c z.cells.toList/\∀x∈z.cells.toList,x.oneCell'=true:=by
 obtain⟨a,h1,h2⟩:=aB e;obtain⟨i,z,h3,h4,h5⟩:=tY (θ:=θ) h1;obtain⟨h6,h7⟩:=Db h2 h5;exact⟨i,z,h3,h4,h6,h7⟩
theorem tV.whole{ty:TypeId}{c:List AV}{cs:Array Value}{k:Nat}(hk:cs.size=k*P.cellsOf ty)(hv:fE θ c cs.toList)(h1:∀x∈cs.toList,x.oneCell'=true):tV P sl θ k (.row ty c) (.cells cs ty (0,0)):=
 ⟨cs,cs.toList,[],rfl,hk,by simp,hv,h1⟩
theorem BX{ty:TypeId}(ho:o.op= .alloc ty)(e:(GY P s L ty).run f t l h n= .ok v h' n'):gV P sl θ h n w ((execOp ac.eval o).run P w) v h' n':=by
 obtain⟨z,h1,h2⟩:=aW (show aP (lJ P ty) _= .ok v h' n' from e);obtain⟨h3,h4⟩:=jg h2;obtain⟨i,zv,hi,hz,hv,hone⟩:=kM (θ:=θ) h1;have hlen:zv.cells.size=P.cellsOf ty:=by
  have:=beq_eq h3;rw[eT]at this;have h5:=hv.length;rw[Array.length_toList]at h5;rw[h5];exact this
 refine .alloc h4 1 (tV.whole (by rw[hlen];omega) hv hone) (x:=.pointer (some ⟨w.heap.size,0,none⟩)) ?_ ⟨w.heap.size,1,Th.dN _ _ _,rfl⟩;simp[execOp,ho,Instr.alloc,zeroValue,typeInfo,hi,hz,newVar,newRow]
theorem JX{ty:TypeId}{x:Operand}(ho:o.op= .box ty x)(e:(WJ P s L ty x).run f t l h n= .ok v h' n')(hT:RT s θ t ac.tmps)(hL:LR s θ L l ac.tmps):gV P sl θ h n w ((execOp ac.eval o).run P w) v h' n':=by
 obtain⟨a,h1,h2⟩:=aW (show aP ((co s L x).run t l) _= .ok v h' n' from e);obtain⟨c,h3,h4⟩:=aW h2;obtain⟨h5,h6⟩:=jg h4;obtain⟨hv,hone⟩:=Db h3 (bH h1 hT hL);have hlen:(ac.eval x).cells.size=P.cellsOf ty:=by
  have:=beq_eq h5;rw[eT]at this;have h7:=hv.length;rw[Array.length_toList]at h7;rw[h7];exact this
 refine .alloc h6 1 (tV.whole (by rw[hlen];omega) hv hone) (x:=.pointer (some ⟨w.heap.size,0,none⟩)) ?_ ⟨w.heap.size,1,Th.dN _ _ _,rfl⟩;simp[execOp,ho,Instr.box,newVar,newRow]
theorem G8{x:Operand}{b k:Nat}(e:(co s L x).run t l=some (.p b k))(hT:RT s θ t ac.tmps)(hL:LR s θ L l ac.tmps):∃r c,θ b=some (r,c)/\ac.eval x= .pointer (some ⟨r,k,none⟩):=bH e hT hL
theorem EW{ty:TypeId}{b k r c:Nat}(e:zF P ty h b k=some v)(hr:θ b=some (r,c))(H:RH P sl θ h n w):∃u,(loadVar ty ⟨r,k,none⟩).run P w= .ok u w/\aV θ v u:=by
 obtain⟨c0,h1,h2⟩:=aB e;obtain⟨r',c',cs,t0,fz,vs,e1,e2,e4,hone,e6⟩:=H.cut h1;rw[hr]at e1;cases e1;rcases NT h2 e4 hone with⟨us,d,g1,g2,g3,g4,g5,_⟩|⟨u,d,g1,g2,g3,g4⟩
 .exact⟨_,run_loadVar_mid w r k ty us d (λj u hu=>by rw[iM e2];exact e6 _ _ (by have:=g5 j u hu;rwa [Nat.zero_add]at this)) g2 g3 g4,g1⟩
 .refine⟨u,?_,g1⟩
  have hc:w.cell? ⟨r,k,none⟩=some u:=by rw[iM e2];exact e6 _ _ g4
  have ha:(isAgg ty).run P w= .ok false w:=run_isAgg_plain g2 (by cases d<;>first|rfl|simp at g3) w;simp[loadVar,ha,load,Sem.run,hc]
theorem NV{ty:TypeId}{x:Operand}(ho:o.op= .load ty x)(e:(EN P s L ty x).run f t l h n= .ok v h' n')(hT:RT s θ t ac.tmps)(hL:LR s θ L l ac.tmps)(H:RH P sl θ h n w):gV P sl θ h n w ((execOp ac.eval o).run P w) v h' n':=by
 simp only[EN]at e;split at e
 .rename_i b k h0
  obtain⟨r,c,hr,hp⟩:=G8 h0 hT hL;obtain⟨h1,rfl,rfl⟩:=h_ e;obtain⟨u,h2,h3⟩:=EW h1 hr H;exact .same H (by simp[execOp,ho,hp,Instr.loadAt,Instr.sureAddr,h2]) h3
 .cases e
theorem mD{b:Nat}{ty:TypeId}:∀(us:List Value)(o:Nat)(w:World)(cs:Array Value),w.heap[b]?=some (.cells cs ty (0,0))->o+us.length<=cs.size->
 ∃cs':Array Value,cs'.toList=cs.toList.take o++(us++cs.toList.drop (o+us.length))/\(∀k,(w.setCells b o us).heap[k]?=if k=b then some (.cells cs' ty (0,0))else w.heap[k]?)/\
  (w.setCells b o us).heap.size=w.heap.size/\(w.setCells b o us).os=w.os/\(w.setCells b o us).tape=w.tape/\(w.setCells b o us).output=w.output
 |[],o,w,cs,h,_=>⟨cs,by simp,λk=>by show w.heap[k]?=_;split<;>simp_all,rfl,rfl,rfl,rfl⟩
 |u::us,o,w,cs,h,hle=>by
  have hb:(w.setCell ⟨b,o,none⟩ u).heap[b]?=some (.cells (cs.setIfInBounds o u) ty (0,0)):=by
   show(w.heap.modify b _)[b]?=_;rw[Array.getElem?_modify,if_pos rfl,h];rfl
  have ho:o<cs.size:=by simp at hle;omega
  obtain⟨cs',h1,h2,h3,h4,h5,h6⟩:=mD us (o+1) (w.setCell ⟨b,o,none⟩ u) (cs.setIfInBounds o u) hb (by simp at hle⊢;omega);refine⟨cs',?_,λk=>?_,?_,h4,h5,h6⟩
  .rw[h1,Array.toList_setIfInBounds]
   have ho':o<cs.toList.length:=by simpa using ho
   have e1:(cs.toList.set o u).take (o+1)=cs.toList.take o++[u]:=by
    have hlen:(cs.toList.take o).length=o:=by rw[List.length_take];omega
    rw[List.take_set,List.take_succ_eq_append_getElem ho',List.set_append_right _ _ (by omega),hlen,Nat.sub_self];rfl
   have e2:(cs.toList.set o u).drop (o+1+us.length)=cs.toList.drop (o+(us.length+1)):=by
    rw[List.drop_set_of_lt (by omega),show o+1+us.length=o+(us.length+1) by omega]
   rw[e1,e2];simp
  .rw[show w.setCells b o (u::us)=(w.setCell ⟨b,o,none⟩ u).setCells b (o+1) us from rfl,h2]
   split
   .rfl
   .rename_i hk
    exact Go.RowKit.Below.heap_setCell w ⟨b,o,none⟩ u k hk
  .rw[show w.setCells b o (u::us)=(w.setCell ⟨b,o,none⟩ u).setCells b (o+1) us from rfl,h3];simp[World.setCell]
end
end
section
section
variable {P:Program} {sl:FuncId->Sl} {θ:Th} {h h':AH} {n n':Nat} {w:World} {s:Sl} {L:List Tmp} {t:Tr AV} {l:List AV} {ac:Act} {o:Oper} {f:FT} {v:AV}
theorem RH.write(H:RH P sl θ h n w){x r c:Nat}{ty:TypeId}{l m u:List AV}{us:List Value}{k:Nat}(e:h.get x=some (.row ty l))(hr:θ x=some (r,c))(hm:wJ u k l=some m)(hu:fE θ u us)(h1:∀y∈us,y.oneCell'=true):
 (storeCells ⟨r,k,none⟩ us).run P w= .ok () (w.setCells r k us)/\RH P sl θ (h.set x (.row ty m)) n (w.setCells r k us)/\Fr θ h w θ (h.set x (.row ty m)) (w.setCells r k us):=by
 obtain⟨r',c',cs,vs,e1,e2,e3,e4,e5,e6,e7,rest,e8⟩:=H.row e;rw[hr]at e1;cases e1;obtain⟨g1,rfl⟩:=mW hm;have Dc:=hu.length;have hcs:cs.size=vs.length+rest.length:=by rw[<-Array.length_toList,e8,List.length_append]
 have hle:k+us.length<=cs.size:=by omega
 obtain⟨cs',f1,f2,f3,f4,f5,f6⟩:=mD us k w cs e2 hle;have hrun:=run_storeCells_cells (P:=P) r k us 0 w (λj hj=>by rw[iM e2,Array.getElem?_eq_getElem (by omega)];rfl) (λj hj=>kL e2 _) h1;refine⟨by simpa using hrun,?_⟩;have hsz:cs'.size=cs.size:=by
  rw[<-Array.length_toList,f1,List.length_append,List.length_append,List.length_take,List.length_drop,Array.length_toList];omega
 have h2:fE θ (l.take k++(u++l.drop (k+u.length))) (vs.take k++(us++vs.drop (k+us.length))):=by
  rw[Dc];exact(e4.take k).append (hu.append (e4.drop _))
 refine H.turn e hr (o':=.row ty (l.take k++(u++l.drop (k+u.length)))) (Bz:=.cells cs' ty (0,0)) ⟨cs',_,rest,rfl,by rw[hsz];exact e3,?_,h2,?_⟩ f4 f5 f6 f3 f2 (λ_ _ ⟨_,_,_,q,_⟩=>by cases q)
 .rw[f1,e8,List.take_append_of_le_length (by omega),List.drop_append_of_le_length (by omega)];simp
 .intro y hy
  rw[f1]at hy;rcases List.mem_append.1 hy with hy|hy
  .exact e5 y (List.mem_of_mem_take hy)
  .rcases List.mem_append.1 hy with hy|hy
   .exact h1 y hy
   .exact e5 y (List.mem_of_mem_drop hy)
theorem K9{ty:TypeId}{a x:Operand}(ho:o.op= .store ty a x)(e:(GZ P s L ty a x).run f t l h n= .ok v h' n')(hT:RT s θ t ac.tmps)(hL:LR s θ L l ac.tmps)(H:RH P sl θ h n w):Nl P sl θ h w ((execOp ac.eval o).run P w) v h' n':=by
 obtain⟨av,h1,h2⟩:=aW (show aP ((co s L a).run t l) _= .ok v h' n' from e);obtain⟨xv,h3,h4⟩:=aW h2;obtain⟨sz,h5,h6⟩:=aW h4;obtain⟨i,hi,hsz⟩:=jc h5;unfold zH at h6;split at h6
 case h_2=>cases h6
 rename_i b k;obtain⟨r,c,hr,hp⟩:=G8 h1 hT hL;split at h6
 case h_2=>cases h6
 rename_i t0 l0 hg;obtain⟨u,h7,h8⟩:=aW h6;obtain⟨h9,h10⟩:=jg h8;obtain⟨m,h11,h12⟩:=aW h10;cases h12
 obtain⟨hv,hone⟩:=Db h7 (bH h3 hT hL);obtain⟨g1,g2,g3⟩:=H.write hg hr h11 hv hone;have hlen:(ac.eval x).cells.size=i.size:=by
  have:=beq_eq h9;rw[eT]at this;have h13:=hv.length;rw[Array.length_toList]at h13;omega
 refine⟨θ,undef,_,.inr ⟨?_,rfl⟩,⟨[],rfl,rfl⟩,g2,g3⟩;simp[execOp,ho,hp,Instr.storeAt,Instr.sureAddr,storeVar,sizeOf,typeInfo,hi,hlen,g1]
theorem Df{x:Operand}(ho:o.op= .nilCheck x)(e:(qZ s L x).run f t l h n= .ok v h' n')(hT:RT s θ t ac.tmps)(hL:LR s θ L l ac.tmps)(H:RH P sl θ h n w):gV P sl θ h n w ((execOp ac.eval o).run P w) v h' n':=by
 obtain⟨a,h1,h2⟩:=aW (show aP ((co s L x).run t l) _= .ok v h' n' from e);have hv:=bH h1 hT hL;split at h2
 .cases h2;refine .same H ?_ hv
  obtain⟨r,c,hr,hp⟩:=id hv;simp[execOp,ho,hp]
 .cases h2;refine .same H ?_ hv
  obtain⟨vs,_,hp⟩:=id hv;simp[execOp,ho,hp]
 .cases h2;refine .same H ?_ hv
  obtain⟨r,c,hr,hp⟩:=id hv;simp[execOp,ho,hp]
 .cases h2
theorem R3{ty:TypeId}{x:Operand}(ho:o.op= .unOp .not ty x)(e:(RU s L x).run f t l h n= .ok v h' n')(hT:RT s θ t ac.tmps)(hL:LR s θ L l ac.tmps)(H:RH P sl θ h n w):gV P sl θ h n w ((execOp ac.eval o).run P w) v h' n':=by
 obtain⟨a,h1,h2⟩:=aW (show aP ((co s L x).run t l) _= .ok v h' n' from e);have hv:=bH h1 hT hL;split at h2
 .cases h2
  have hp:ac.eval x= .bool _:=hv;refine .same H ?_ rfl;simp[execOp,ho,hp,Op.unary,jL]
 .cases h2
theorem R4{ty:TypeId}{x:Operand}(ho:o.op= .unOp .neg ty x)(e:(RV s L x).run f t l h n= .ok v h' n')(hT:RT s θ t ac.tmps)(hL:LR s θ L l ac.tmps)(H:RH P sl θ h n w):gV P sl θ h n w ((execOp ac.eval o).run P w) v h' n':=by
 obtain⟨a,h1,h2⟩:=aW (show aP ((co s L x).run t l) _= .ok v h' n' from e);have hv:=bH h1 hT hL;split at h2
 .cases h2
  have hp:ac.eval x= .int _ _:=hv;refine .same H ?_ rfl;simp only[execOp,ho,hp,Op.unary,Op.intArith,wQ];rfl
 .cases h2
theorem uX{ty:TypeId}{x:Operand}(ho:o.op= .makeInterface ty x)(e:(iY P s L ty x).run f t l h n= .ok v h' n')(hT:RT s θ t ac.tmps)(hL:LR s θ L l ac.tmps)(H:RH P sl θ h n w):gV P sl θ h n w ((execOp ac.eval o).run P w) v h' n':=by
 obtain⟨a,h1,h2⟩:=aW (show aP ((co s L x).run t l) _= .ok v h' n' from e);have hv:=bH h1 hT hL;split at h2
 .cases h2
 .rename_i d hn hd
  cases h2
  refine .same H ?_ ⟨_,hv,rfl⟩;simp only[execOp,ho,Instr.makeInterface,Sem.run_bind,run_underlying hd,Result.andThen_ok];cases d<;>first|rfl|exact absurd rfl (hn _)
 .cases h2
theorem Dh{g:FuncId}{cs:List Operand}{ca:Array Operand}(ho:o.op= .makeFunc (.func g) ⟨[]⟩ ca)(hc:ca.toList=cs)(e:(ru s L g cs).run f t l h n= .ok v h' n')(hT:RT s θ t ac.tmps)(hL:LR s θ L l ac.tmps)(H:RH P sl θ h n w):gV P sl θ h n w ((execOp ac.eval o).run P w) v h' n':=by
 obtain⟨a,h1,h2⟩:=aW (show aP ((col s L cs).run t l) _= .ok v h' n' from e);cases h2
 refine .same H ?_ ⟨_,Da hT hL h1,rfl⟩;subst hc;simp only[execOp,ho,Instr.makeFunc];rw[show(List.map ac.eval ca.toList).toArray=ca.map ac.eval from Array.toList_inj.1 (by simp)];simp
theorem tV.aaA(P:Program)(sl:FuncId->Sl)(θ:Th):tV P sl θ 0 (.mp [] 0) (.map #[] 0):=⟨#[],rfl,rfl⟩
theorem xW{ty:TypeId}(ho:o.op= .makeMap ty none)(e:(EO s L).run f t l h n= .ok v h' n'):gV P sl θ h n w ((execOp ac.eval o).run P w) v h' n':=by
 refine .alloc e 0 (tV.aaA P sl θ) (x:=.map (some w.heap.size)) ?_ ⟨w.heap.size,0,Th.dN _ _ _,rfl⟩;simp[execOp,ho,Instr.makeMap]
theorem uY{ty:TypeId}{k:IntKind}{i:Int}(ho:o.op= .makeMap ty (some (.const (.int k i))))(e:(rz P s L ty).run f t l h n= .ok v h' n'):gV P sl θ h n w ((execOp ac.eval o).run P w) v h' n':=by
 simp only[rz]at e;split at e
 .rename_i a b hd
  refine .alloc e 0 (tV.aaA P sl θ) (x:=.map (some w.heap.size)) ?_ ⟨w.heap.size,0,Th.dN _ _ _,rfl⟩;simp[execOp,ho,Instr.makeMap,run_underlying hd,Act.eval,asInt,asIntOf]
 .cases e
theorem EX{ty:TypeId}{k:Nat}{d:Field}(e:ZN P ty k=some d):∃fs,P.underlying ty=some (.struct fs)/\fs[k]?=some d:=by
 unfold ZN at e;split at e
 .exact⟨_,‹_›,e⟩
 .cases e
theorem BA{ty:TypeId}{x:Operand}{k:Nat}(ho:o.op= .fieldAddr ty x k)(e:(kD P s L ty x k).run f t l h n= .ok v h' n')(hT:RT s θ t ac.tmps)(hL:LR s θ L l ac.tmps)(H:RH P sl θ h n w):gV P sl θ h n w ((execOp ac.eval o).run P w) v h' n':=by
 unfold kD at e;split at e
 .cases e
 rename_i d hd;split at e
 .cases e
 rename_i sz hsz;obtain⟨i,hi,rfl⟩:=jc hsz;obtain⟨fs,hu,hf⟩:=EX hd;cases hz:Nat.beq i.size 0 with
 |true=>rw[hz]at e;cases e
 |false=>
  rw[hz,gH]at e;have hz':¬i.size=0:=λe0=>by rw[e0]at hz;cases hz
  simp only at e;split at e
  .rename_i b m h0
   obtain⟨r,c,hr,hp⟩:=G8 h0 hT hL;cases e
   refine .same H ?_ ⟨r,c,hr,rfl⟩;simp[execOp,ho,hp,Instr.fieldAt,Instr.sureAddr,run_underlying hu,hf,fieldPlace,sizeOf,typeInfo,hi,hz',Addr.add_mid]
  .cases e
theorem uZ{ty:TypeId}{c:List AV}{vs:List Value}{k:Nat}(e:(Nk P ty).run c k=some v)(hv:fE θ c vs)(h1:∀x∈vs,x.oneCell'=true):∃u,(part ty vs.toArray k).run P w= .ok u w/\aV θ v u:=by
 rcases NT e hv h1 with⟨us,d,g1,g2,g3,g4,g5,g6⟩|⟨u,d,g1,g2,g3,g4⟩
 .refine⟨_,?_,g1⟩
  have ha:(isAgg ty).run P w= .ok true w:=by
   unfold isAgg;rw[Sem.run_bind,run_underlying g2 w];cases d<;>first|rfl|(simp at g3;done)
  cases hi:P.info? ty with
  |none=>rw[hi]at g4;cases g4
  |some i=>
   rw[hi]at g4;have hs:i.size=us.length:=by simpa using g4
   simp only[part,ha,Sem.run_bind,Result.andThen_ok,if_true,sizeOf,typeInfo,run_program,hi,Sem.run_pure,hs];congr 2;apply Array.toList_inj.1;rw[Array.toList_extract,List.extract_eq_take_drop,Nat.add_sub_cancel_left];exact g6.symm
 .refine⟨u,?_,g1⟩
  have ha:(isAgg ty).run P w= .ok false w:=run_isAgg_plain g2 (by cases d<;>first|rfl|simp at g3) w;simp[part,ha,g4]
theorem K_{ty:TypeId}{x:Operand}{k:Nat}(ho:o.op= .field ty x k)(e:(zK P s L ty x k).run f t l h n= .ok v h' n')(hT:RT s θ t ac.tmps)(hL:LR s θ L l ac.tmps)(H:RH P sl θ h n w):gV P sl θ h n w ((execOp ac.eval o).run P w) v h' n':=by
 unfold zK at e;split at e
 .cases e
 rename_i d hd;obtain⟨fs,hu,hf⟩:=EX hd;simp only at e;split at e
 .rename_i c h0
  obtain⟨vs,hv,hone,hp⟩:=bH h0 hT hL;obtain⟨h1,rfl,rfl⟩:=h_ e;obtain⟨u,h2,h3⟩:=uZ (w:=w) h1 hv hone;refine .same H ?_ h3;simp[execOp,ho,hp,Instr.field,run_underlying hu,hf,asAgg,h2]
 .cases e
theorem EY{x:Operand}{k:Nat}(ho:o.op= .extract x k)(e:(pW s L x k).run f t l h n= .ok v h' n')(hT:RT s θ t ac.tmps)(hL:LR s θ L l ac.tmps)(H:RH P sl θ h n w):gV P sl θ h n w ((execOp ac.eval o).run P w) v h' n':=by
 simp only[pW]at e;split at e
 .rename_i c h0
  obtain⟨vs,hv,hp⟩:=bH h0 hT hL;obtain⟨h1,rfl,rfl⟩:=h_ e;rw[nV]at h1;obtain⟨u,h2,h3⟩:=hv.get k h1;refine .same H ?_ h3;simp[execOp,ho,hp,Instr.extract,h2]
 .cases e
theorem BD{ty:TypeId}{x ix:Operand}(ho:o.op= .indexAddr ty x ix)(e:(kE P s L ty x ix).run f t l h n= .ok v h' n')(hT:RT s θ t ac.tmps)(hL:LR s θ L l ac.tmps)(H:RH P sl θ h n w):gV P sl θ h n w ((execOp ac.eval o).run P w) v h' n':=by
 unfold kE at e;split at e
 .rename_i el hu
  split at e
  .cases e
  rename_i sz hsz;obtain⟨i,hi,rfl⟩:=jc hsz;simp only at e;split at e
  .rename_i b l0 o0 m c0 k0 k h0 h1
   obtain⟨r,c,hr,_,hp⟩:=bH h0 hT hL;have hk:ac.eval ix= .int k0 k:=bH h1 hT hL;obtain⟨h2,rfl,rfl⟩:=h_ e;obtain⟨j,rfl,hj,h3⟩:=uW h2;cases h3
   refine .same H ?_ ⟨r,c,hr,rfl⟩;simp[execOp,ho,hp,hk,Instr.indexAt,asIntOf,run_underlying hu,hj,sizeOf,typeInfo,hi,Addr.add_mid]
  .cases e
 .rename_i m el hu
  split at e
  .cases e
  rename_i sz hsz;obtain⟨i,hi,rfl⟩:=jc hsz;simp only at e;split at e
  .rename_i b o0 k0 k h0 h1
   obtain⟨r,c,hr,hp⟩:=bH h0 hT hL;have hk:ac.eval ix= .int k0 k:=bH h1 hT hL;obtain⟨h2,rfl,rfl⟩:=h_ e;obtain⟨j,rfl,hj,h3⟩:=uW h2;cases h3
   refine .same H ?_ ⟨r,c,hr,rfl⟩;simp[execOp,ho,hp,hk,Instr.indexAt,Instr.sureAddr,asIntOf,run_underlying hu,hj,sizeOf,typeInfo,hi,Addr.add_mid]
  .cases e
 .cases e
end
end
section
section
variable {P:Program} {sl:FuncId->Sl} {θ:Th} {h h':AH} {n n':Nat} {w:World} {s:Sl} {L:List Tmp} {t:Tr AV} {l:List AV} {ac:Act} {o:Oper} {f:FT} {v:AV}
theorem Di{j k:IntKind}(h:yL j k=true):j=k:=of_decide_eq_true h
theorem Dj{D:Nat}{q:TypeId->NG}(hq:∀ty x y e U V,(q ty).run x y=some e->aV θ x U->aV θ y V->(Op.equalIn D ty U V).run P w= .ok e w)
 {a b:List AV}{xs ys:List Value}(ha:fE θ a xs)(hb:fE θ b ys)(h1:∀x∈xs,x.oneCell'=true)(h2:∀x∈ys,x.oneCell'=true):∀(fs:List Field)(r:Bool),(GN P q fs).run (.agg a) (.agg b)=some r->
 (forIn fs ((none,()):Option Bool×Unit) λf _=>(if f.name≠ "_" then do
  let u <-part f.type xs.toArray f.offset;let v <-part f.type ys.toArray f.offset;let e <-Op.equalIn D f.type u v;if(!e)=true then pure (ForInStep.done (some false,()))else pure (ForInStep.yield (none,()))
  else pure (ForInStep.yield (none,())):Sem (ForInStep (Option Bool×Unit)))).run P w= .ok (bc r none (some false),()) w
 |[],r,e=>by cases e;rfl
 |d::fs,r,e=>by
  rw[List.forIn_cons,Sem.run_bind];cases hn:(d.name== "_")with
  |true=>
   have hn':d.name= "_":=by simpa using hn
   have e':(GN P q fs).run (.agg a) (.agg b)=some r:=by
    have:(bc (d.name== "_") (GN P q fs) _:NG).run (.agg a) (.agg b)=some r:=e
    rwa [hn,bD]at this
   rw[if_neg (by simp[hn'])];exact Dj hq ha hb h1 h2 fs r e'
  |false=>
   have hn':d.name≠ "_":=by simpa using hn
   have e0:(bc (d.name== "_") (GN P q fs) _:NG).run (.agg a) (.agg b)=some r:=e;rw[hn,gH]at e0;obtain⟨u,g1,g2⟩:=aB e0;obtain⟨v,g3,g4⟩:=aB g2;obtain⟨b0,g5,g6⟩:=aB g4;obtain⟨U,k1,k2⟩:=uZ (P:=P) (w:=w) g1 ha h1;obtain⟨V,k3,k4⟩:=uZ (P:=P) (w:=w) g3 hb h2;have k5:=hq _ _ _ _ _ _ g5 k2 k4;rw[if_pos hn',Sem.run_bind,k1,Result.andThen_ok,Sem.run_bind,k3,Result.andThen_ok,Sem.run_bind,k5,Result.andThen_ok];cases b0 with
   |false=>cases g6;rfl
   |true=>exact Dj hq ha hb h1 h2 fs r g6
theorem Dl(w:World):∀(d:Nat)(ty:TypeId)(x y:AV)(e:Bool)(U V:Value),(su P d ty).run x y=some e->aV θ x U->aV θ y V->∀D,d<=D->(Op.equalIn D ty U V).run P w= .ok e w
 |0,_,_,_,_,_,_,h,_,_,_,_=>by cases h
 |d+1,ty,x,y,e,U,V,h,hx,hy,0,hD=>by omega
 |d+1,ty,x,y,e,U,V,h,hx,hy,D+1,hD=>by
  cases hu:P.underlying ty with
  |none=>
   have hud:und P ty= .invalid:=by unfold und;rw[hu];rfl
   unfold su at h;rw[hud]at h;cases h
  |some dd=>
   have hud:=NS hu;unfold su at h;rw[hud]at h;cases dd<;>try(cases h;done)
   case bool=>
    cases x<;>cases y<;>try(cases h;done)
    cases hx;cases hy
    rename_i p q;simp only[Op.equalIn,Sem.run_bind,run_underlying hu,Result.andThen_ok];cases p<;>cases q<;>cases h<;>rfl
   case int k=>
    cases x<;>cases y<;>try(cases h;done)
    cases hx;cases hy
    obtain⟨h1,h2⟩:=bL h;cases Di h1;cases h2
    simp only[Op.equalIn,Sem.run_bind,run_underlying hu,Result.andThen_ok,if_true,dz];rfl
   case string=>
    cases x<;>cases y<;>try(cases h;done)
    cases hx;cases hy;cases h
    rename_i p q;simp only[Op.equalIn,Sem.run_bind,run_underlying hu,Result.andThen_ok,jy];rw[show((⟨p.toArray⟩:ByteArray)==⟨q.toArray⟩)=(p==q)from by show(p.toArray==q.toArray)=_;simp];rfl
   case pointer el=>
    simp only at h;split at h<;>cases h
    .cases hx;cases hy
     simp only[Op.equalIn,Sem.run_bind,run_underlying hu,Result.andThen_ok,kv];rfl
    .cases hx;obtain⟨r,c,_,rfl⟩:=hy
     simp only[Op.equalIn,Sem.run_bind,run_underlying hu,Result.andThen_ok,kv];rfl
    .cases hy;obtain⟨r,c,_,rfl⟩:=hx
     simp only[Op.equalIn,Sem.run_bind,run_underlying hu,Result.andThen_ok,kv];rfl
   case slice el=>
    simp only at h;split at h<;>cases h
    .cases hx;cases hy
     simp only[Op.equalIn,Sem.run_bind,run_underlying hu,Result.andThen_ok,kv];rfl
    .cases hx;obtain⟨r,c,_,_,rfl⟩:=hy
     simp only[Op.equalIn,Sem.run_bind,run_underlying hu,Result.andThen_ok,kv];rfl
    .cases hy;obtain⟨r,c,_,_,rfl⟩:=hx
     simp only[Op.equalIn,Sem.run_bind,run_underlying hu,Result.andThen_ok,kv];rfl
    .cases hx;obtain⟨_,_,rfl⟩:=hy
     simp only[Op.equalIn,Sem.run_bind,run_underlying hu,Result.andThen_ok,kv];rfl
    .cases hy;obtain⟨_,_,rfl⟩:=hx
     simp only[Op.equalIn,Sem.run_bind,run_underlying hu,Result.andThen_ok,kv];rfl
   case map k el=>
    simp only at h;split at h<;>cases h
    .cases hx;cases hy
     simp only[Op.equalIn,Sem.run_bind,run_underlying hu,Result.andThen_ok,kv];rfl
    .cases hx;obtain⟨r,c,_,rfl⟩:=hy
     simp only[Op.equalIn,Sem.run_bind,run_underlying hu,Result.andThen_ok,kv];rfl
    .cases hy;obtain⟨r,c,_,rfl⟩:=hx
     simp only[Op.equalIn,Sem.run_bind,run_underlying hu,Result.andThen_ok,kv];rfl
   case func a b c=>
    simp only at h;split at h<;>cases h
    .cases hx;cases hy
     simp only[Op.equalIn,Sem.run_bind,run_underlying hu,Result.andThen_ok,kv];rfl
    .cases hx;obtain⟨r,_,rfl⟩:=hy
     simp only[Op.equalIn,Sem.run_bind,run_underlying hu,Result.andThen_ok,kv];rfl
    .cases hy;obtain⟨r,_,rfl⟩:=hx
     simp only[Op.equalIn,Sem.run_bind,run_underlying hu,Result.andThen_ok,kv];rfl
   case interface ms=>
    simp only at h;split at h<;>cases h
    .cases hx;obtain⟨r,_,rfl⟩:=hy
     simp only[Op.equalIn,Sem.run_bind,run_underlying hu,Result.andThen_ok,kv];rfl
    .cases hy;obtain⟨r,_,rfl⟩:=hx
     simp only[Op.equalIn,Sem.run_bind,run_underlying hu,Result.andThen_ok,kv];rfl
   case struct fs=>
    cases hs:P.stoodInHeld ty with
    |true=>rw[hs]at h;cases h
    |false=>
     rw[hs]at h;simp only[gH]at h;split at h
     .obtain⟨xs,h1,h2,rfl⟩:=hx
      obtain⟨ys,h3,h4,rfl⟩:=hy;have k:=Dj (P:=P) (w:=w) (D:=D) (λty x y e U V g1 g2 g3=>Dl w d ty x y e U V g1 g2 g3 D (by omega)) h1 h3 h2 h4 fs.toList e h;simp only[Op.equalIn,Sem.run_bind,run_underlying hu,Result.andThen_ok,run_program,hs,Bool.false_eq_true,if_false];rw[<-Array.forIn_toList,k];cases e<;>rfl
     .cases h
end
end
section
section
variable {P:Program} {sl:FuncId->Sl} {θ:Th} {h h':AH} {n n':Nat} {w:World} {s:Sl} {L:List Tmp} {t:Tr AV} {l:List AV} {ac:Act} {o:Oper} {f:FT} {v:AV}
theorem La{g:IntKind->Int->Int->Option AV}{q:AV->AV->Option AV}{x y:AV}(e:uS g q x y=some v):(∃j a b,x= .i j a/\y= .i j b/\g j a b=some v)\/((∀j a k b,¬(x= .i j a/\y= .i k b))/\q x y=some v):=by
 unfold uS at e;split at e
 .obtain⟨h1,h2⟩:=bL e
  cases Di h1
  exact .inl ⟨_,_,_,rfl,rfl,h2⟩
 .rename_i hn
  exact .inr ⟨λj a k b ⟨h1,h2⟩=>hn j a k b h1 h2,e⟩
theorem R7{α:Type}[DecidableEq α](a b:α):(a==b)=decide (a=b):=rfl
theorem U9(a b:Int):qY (mo b a)=decide (a<b):=by
 rw[jL,eZ,Bool.eq_iff_iff];simp
theorem aaB(a b:Int):qY (gu a b)=(a !=b):=by
 rw[jL,dz,Bool.eq_iff_iff];simp
theorem R8(a b:Int):Int.sub a b=a - b:=rfl
def zN:Value->Bool
 | .float _ _| .complex _ _ _=>false
 |_=>true
theorem u_(c:Nat):kv c= .pointer none\/kv c= .slice none 0 0\/kv c= .map none\/kv c= .nilFunc\/kv c= .nilIface:=by
 unfold kv;split<;>simp
theorem aV.plain{x:AV}{U:Value}(hx:aV θ x U):zN U=true:=by
 cases x with
 |p x o=>obtain⟨r,c,_,rfl⟩:=hx;rfl
 |sl x a b c d=>obtain⟨r,c,_,_,rfl⟩:=hx;rfl
 |m x=>obtain⟨r,c,_,rfl⟩:=hx;rfl
 |f g c=>obtain⟨r,_,rfl⟩:=hx;rfl
 |y x=>obtain⟨r,c,_,rfl⟩:=hx;rfl
 |wI t x=>obtain⟨r,_,rfl⟩:=hx;rfl
 |agg l=>obtain⟨r,_,_,rfl⟩:=hx;rfl
 |bJ l=>obtain⟨r,_,rfl⟩:=hx;rfl
 |es a c=>obtain⟨_,_,rfl⟩:=hx;rfl
 |k c=>cases hx;rcases u_ c with e|e|e|e|e<;>rw[e]<;>rfl
 |_=>cases hx;rfl
theorem binOp_eql(ty:TypeId){U V:Value}{r:Bool}(h1:∀j a k b,¬(U= .int j a/\V= .int k b))(h2:∀a b,¬(U= .string a/\V= .string b))(h3:zN U=true)(h4:zN V=true)
 (hr:(Op.equal ty U V).run P w= .ok r w):(binOp .eql ty U V).run P w= .ok (.bool r) w/\(binOp .neq ty U V).run P w= .ok (.bool (!r)) w:=by
 cases U<;>cases V<;>first
  |exact absurd ⟨rfl,rfl⟩ (h1 _ _ _ _)
  |exact absurd ⟨rfl,rfl⟩ (h2 _ _)
  |(simp[zN]at h3;done)
  |(simp[zN]at h4;done)
  |exact⟨by simp only[binOp,Sem.run_bind,hr,Result.andThen_ok];rfl,by simp only[binOp,Sem.run_bind,hr,Result.andThen_ok];rfl⟩
theorem aaC(d:Nat)(ty:TypeId)(a b:Nat){r:Bool}(e:(su P d ty).run (.k a) (.k b)=some r):a<4:=by
 cases d with
 |zero=>cases e
 |succ d=>
  unfold su at e;split at e;all_goals(try(cases e;done))
  all_goals(try(cases hs:P.stoodInHeld ty<;>(rw[hs]at e;exact absurd e (λh=>by cases h))))
  all_goals first|(simp only at e;cases e;done)|(simp only at e;split at e<;>first|(cases e;done)|simp_all)
theorem G9{q:BinOp}{ty:TypeId}{xo yo:Operand}{U V:Value}(hq:q= .eql\/q= .neq)(h5:¬(U= .nilIface/\V= .nilIface))(hg:P.eqGuardType P.depth ty=false):(eqGuard q ty xo yo U V).run P w= .ok () w:=by
 rcases hq with rfl|rfl<;>cases U<;>cases V<;>first
  |exact absurd ⟨rfl,rfl⟩ h5
  |rfl
  |simp[eqGuard,hg]
theorem NW{ty:TypeId}{neg:Bool}{x y:AV}{U V:Value}{xo yo:Operand}{op:BinOp}(hop:op=if neg then .neq else .eql)(e:(eqO P ty neg).run x y=some v)(hx:aV θ x U)(hy:aV θ y V)(hni:∀j a k b,¬(x= .i j a/\y= .i k b)):
 ∃u,((do eqGuard op ty xo yo U V;binOp op ty U V:Sem Value)).run P w= .ok u w/\aV θ v u:=by
 simp only[eqO]at e;split at e
 .cases e;cases hx;cases hy
  refine⟨_,?_,rfl⟩;cases neg<;>subst hop<;>simp[eqGuard,binOp,Op.stringOp,ByteArray.toList_eq,jy,bc,jL]
 .rename_i hns
  cases hg:P.eqGuardType P.depth ty with
  |true=>rw[hg]at e;cases e
  |false=>
   rw[hg,gH]at e;obtain⟨r,h1,h2⟩:=aB e;cases h2
   have k:=Dl (P:=P) w 30 ty x y r U V h1 hx hy Op.maxDepth (by decide);have inv:∀{z:AV}{Z:Value},aV θ z Z->(∀j a,Z= .int j a->z= .i j a)/\(∀b,Z= .string b->∃l,z= .s l)/\(Z= .nilIface->∃c,z= .k c/\4<=c):=by
    intro z Z hz;cases z with
    |b x=>cases hz;simp
    |i j a=>cases hz;simp
    |s l=>cases hz;simp
    |p x o=>obtain⟨r,c,_,rfl⟩:=hz;simp
    |sl x a b c d=>obtain⟨r,c,_,_,rfl⟩:=hz;simp
    |m x=>obtain⟨r,c,_,rfl⟩:=hz;simp
    |f g c=>obtain⟨r,_,rfl⟩:=hz;simp
    |y x=>obtain⟨r,c,_,rfl⟩:=hz;simp
    |wI t x=>obtain⟨r,_,rfl⟩:=hz;simp
    |agg l=>obtain⟨r,_,_,rfl⟩:=hz;simp
    |bJ l=>obtain⟨r,_,rfl⟩:=hz;simp
    |es a c=>obtain⟨_,_,rfl⟩:=hz;simp
    |k c=>
     cases hz
     refine⟨λj a e=>?_,λb e=>?_,λe=>⟨c,rfl,?_⟩⟩
     .rcases u_ c with e'|e'|e'|e'|e'<;>rw[e']at e<;>cases e
     .rcases u_ c with e'|e'|e'|e'|e'<;>rw[e']at e<;>cases e
     .match c,e with
      |0,e=>cases e
      |1,e=>cases e
      |2,e=>cases e
      |3,e=>cases e
      |c+4,_=>omega
   obtain⟨x1,x2,x3⟩:=inv hx;obtain⟨y1,y2,y3⟩:=inv hy;obtain⟨b1,b2⟩:=binOp_eql (P:=P) (w:=w) ty (U:=U) (V:=V) (r:=r) (λj a k b ⟨e1,e2⟩=>hni j a k b ⟨x1 j a e1,y1 k b e2⟩)
    (λa b ⟨e1,e2⟩=>by obtain⟨p,hp⟩:=x2 a e1;obtain⟨q,hq⟩:=y2 b e2;exact hns p q hp hq) hx.plain hy.plain k
   have hgd:(eqGuard op ty xo yo U V).run P w= .ok () w:=by
    refine G9 (by subst hop;cases neg<;>simp) ?_ hg;rintro⟨e1,e2⟩;obtain⟨c,rfl,hc⟩:=x3 e1;obtain⟨d,rfl,_⟩:=y3 e2;have:=aaC _ _ _ _ h1;omega
   refine⟨_,?_,rfl⟩;rw[Sem.run_bind,hgd,Result.andThen_ok];subst hop;cases neg
   .exact b1
   .rw[bD,jL];exact b2
theorem R9{ty:TypeId}{op:BinOp}{x y:AV}{U V:Value}{xo yo:Operand}(e:(eB P ty op).run x y=some v)(hx:aV θ x U)(hy:aV θ y V):
 ∃u,((do eqGuard op ty xo yo U V;binOp op ty U V:Sem Value)).run P w= .ok u w/\aV θ v u:=by
 cases op<;>simp only[eB]at e<;>(try(cases e;done))<;>rcases La e with⟨j,a,b,rfl,rfl,h1⟩|⟨hni,h1⟩<;>(try(cases h1;done))
 case add.inr=>
  split at h1
  .obtain⟨h2,h3⟩:=bL h1
   cases h3;cases hx;cases hy
   refine⟨_,?_,rfl⟩;rename_i p q;have h4:p.length+q.length<=1048576:=by
    have:=Nat.le_of_ble_eq_true h2;rw[eT,eT]at this;exact this
   have h5:¬(((p.length+q.length:Nat):Int) > IntKind.i64.max):=by
    rw[show IntKind.i64.max=9223372036854775807 from by decide];omega
   rw[iZ];simp only[eqGuard,binOp,Op.stringOp];have h6:(⟨p.toArray⟩:ByteArray)++⟨q.toArray⟩=⟨(p++q).toArray⟩:=by
    apply ByteArray.ext;rw[ByteArray.data_append];simp
   have h7:(⟨p.toArray⟩:ByteArray).size+(⟨q.toArray⟩:ByteArray).size=p.length+q.length:=by
    show p.toArray.size+q.toArray.size=_;simp
   rw[h6,h7,if_neg h5];simp
  .cases h1
 case shr.inl=>
  cases hz:gu b 1 with
  |false=>rw[hz]at h1;cases h1
  |true=>
   rw[hz]at h1;cases h1;rw[dz]at hz;have hz:b=1:=by simpa using hz
   subst hz;cases hx;cases hy
   refine⟨_,?_,rfl⟩;have h2:Op.shift .shr j a j 1=pure (.int j (a/2 ^ (1:Int).toNat)):=shift_shr j j a 1 (by decide) (by cases j<;>decide);have h3:binOp .shr ty (.int j a) (.int j 1)=Op.shift .shr j a j 1:=rfl;simp only[eqGuard,h3,h2];rfl
 all_goals first
  |((try rw[U9]at h1);(try rw[aaB]at h1);cases hx;cases hy;cases h1;refine⟨_,?_,rfl⟩;simp[eqGuard,binOp,Op.intArith,Op.intCmp,wQ,dz,eZ,R7,R8];done)
  |(
   cases hx;cases hy
   cases hz:gu b 0 with
   |true=>rw[hz]at h1;cases h1
   |false=>
    rw[hz]at h1;cases h1;have hz':¬b=0:=by rw[dz]at hz;simpa using hz
    refine⟨_,?_,rfl⟩;simp[eqGuard,binOp,Op.intDiv,hz',wQ];done)
  |exact NW (neg:=false) rfl h1 hx hy hni
  |exact NW (neg:=true) rfl h1 hx hy hni
end
end
section
section
variable {P:Program} {sl:FuncId->Sl} {θ:Th} {h h':AH} {n n':Nat} {w:World} {s:Sl} {L:List Tmp} {t:Tr AV} {l:List AV} {ac:Act} {o:Oper} {f:FT} {v:AV}
theorem Lb{op:BinOp}{ty G5:TypeId}{x y:Operand}(ho:o.op= .binOp op ty x y G5)(e:(CV P s L op ty x y).run f t l h n= .ok v h' n')(hT:RT s θ t ac.tmps)(hL:LR s θ L l ac.tmps)(H:RH P sl θ h n w):gV P sl θ h n w ((execOp ac.eval o).run P w) v h' n':=by
 obtain⟨a,h1,h2⟩:=aW (show aP ((co s L x).run t l) _= .ok v h' n' from e);obtain⟨b,h3,h4⟩:=aW h2;obtain⟨h5,rfl,rfl⟩:=h_ h4;obtain⟨u,h6,h7⟩:=R9 (w:=w) (xo:=x) (yo:=y) h5 (bH h1 hT hL) (bH h3 hT hL);refine .same H ?_ h7;simp only[execOp,ho];rw[Sem.run_bind,h6];rfl
theorem BZ:∀(l:List UInt8),fE θ (zG l) (l.map λb=>.int .u8 b.toNat)
 |[]=>rfl
 |b::l=>⟨_,_,rfl,BZ l,rfl⟩
theorem Lc(H:RH P sl θ h n w){x r c o0 k:Nat}{l m:List AV}(e:iI (h.get x) o0 k=some l)(hr:θ x=some (r,c))(hm:mP k l=some m):
 ∃us,(∀w':World,w'.heap=w.heap->(loadCells ⟨r,o0,none⟩ k).run P w'= .ok us.toArray w')/\fE θ m us/\(∀y∈us,y.oneCell'=true)/\us.length=k:=by
 obtain⟨r',c',cs,t0,fz,vs,e1,e2,e4,e5,e6⟩:=H.cut e;rw[hr]at e1;cases e1;obtain⟨g1,rfl⟩:=kK hm;have hl:(vs.take k).length=k:=by
  rw[List.length_take,e4.length];omega
 refine⟨vs.take k,λw' hw=>?_,e4.take k,λy hy=>e5 y (List.mem_of_mem_take hy),hl⟩;have:=run_loadCells_list (P:=P) w' ⟨r,o0,none⟩ (vs.take k) (λj v hv=>by
  rw[Addr.add_mid,iM (w:=w') (by rw[hw];exact e2)];rw[List.getElem?_take]at hv;split at hv
  .exact e6 _ _ hv
  .cases hv)
 rwa [hl]at this
theorem y7{a:AV}{U:Value}{m k:Nat}{c:List AV}(e:jG h m k a=some c)(hv:aV θ a U)(H:RH P sl θ h n w):
 ∃us,(∀w':World,w'.heap=w.heap->(Builtin.firstCells m k U).run P w'= .ok us.toArray w')/\fE θ c us/\(∀x∈us,x.oneCell'=true)/\(mR a=some k->us.length=k*m):=by
 unfold jG at e;split at e
 .cases e;cases hv;exact⟨[],λ_ _=>rfl,rfl,by simp,λh=>by cases h;simp⟩
 .obtain⟨hm1,e⟩:=bL e
  have hm1:=beq_eq hm1;obtain⟨l0,h1,h2⟩:=aB e;cases h2;cases hv
  obtain⟨h3,rfl⟩:=kK h1;refine⟨_,λw' _=>?_,BZ _,?_,λ_=>by simp[hm1];omega⟩
  .simp only[Builtin.firstCells,Sem.run_pure]
   congr 1;apply Array.toList_inj.1;simp[ByteArray.data_extract]
  .intro x hx
   obtain⟨b,_,rfl⟩:=List.mem_map.1 hx;rfl
 .obtain⟨h1,h2⟩:=bL e
  obtain rfl:=beq_eq h1;cases h2;obtain⟨_,_,rfl⟩:=hv
  exact⟨[],λ_ _=>by simp[Builtin.firstCells,loadCells,loadCellsFrom],rfl,by simp,λ_=>by simp⟩
 .rename_i x q o0 n0 c0
  obtain⟨l0,h1,h2⟩:=aB e;obtain⟨r,d,hr,_,rfl⟩:=hv;obtain⟨us,g1,g2,g3,g4⟩:=Lc (P:=P) H h1 hr h2;exact⟨us,g1,g2,g3,λ_=>g4⟩
 .cases e
theorem JY{a:AV}{U:Value}{k:Nat}(e:mR a=some k)(hv:aV θ a U):(Builtin.lenOf U).run P w= .ok k w/\((∃b c,U= .slice b k c)\/∃s,U= .string s/\s.size=k):=by
 unfold mR at e;split at e<;>cases e
 .cases hv;exact⟨rfl,.inl ⟨none,0,rfl⟩⟩
 .cases hv;rw[eT];exact⟨by simp[Builtin.lenOf,ByteArray.size],.inr ⟨_,rfl,by simp[ByteArray.size]⟩⟩
 .obtain⟨r,c,_,_,rfl⟩:=hv;exact⟨rfl,.inl ⟨_,_,rfl⟩⟩
 .obtain⟨_,_,rfl⟩:=hv;exact⟨rfl,.inl ⟨_,_,rfl⟩⟩
theorem Ld{ty:TypeId}{x ix:Operand}(ho:o.op= .index ty x ix)(e:(zL P s L ty x ix).run f t l h n= .ok v h' n')(hT:RT s θ t ac.tmps)(hL:LR s θ L l ac.tmps)(H:RH P sl θ h n w):gV P sl θ h n w ((execOp ac.eval o).run P w) v h' n':=by
 unfold zL at e;split at e
 .rename_i hu
  simp only at e;split at e
  .rename_i c k0 k h0 h1
   have hp:ac.eval x= .string ⟨c.toArray⟩:=bH h0 hT hL;have hk:ac.eval ix= .int k0 k:=bH h1 hT hL;obtain⟨h2,rfl,rfl⟩:=h_ e;obtain⟨j,rfl,hj,h3⟩:=uW h2;obtain⟨b,h4,h5⟩:=aB h3;cases h5
   rw[nV]at h4;refine .same H (u:=.int .u8 b.toNat) ?_ rfl;have hb:(⟨c.toArray⟩:ByteArray)[j]?=some b:=by
    have hj2:j<c.length:=(List.getElem?_eq_some_iff.1 h4).1;have hs:(⟨c.toArray⟩:ByteArray).size=c.length:=by show c.toArray.size=_;simp
    rw[getElem?_pos _ _ (by rw[hs];exact hj2)];have:=(List.getElem?_eq_some_iff.1 h4).2;rw[<-this];rfl
   simp[execOp,ho,hp,hk,Instr.index,asIntOf,run_underlying hu,hb]
  .cases e
 .rename_i m el hu
  split at e
  .cases e
  rename_i sz hsz;obtain⟨i,hi,rfl⟩:=jc hsz;simp only at e;split at e
  .rename_i c k0 k h0 h1
   obtain⟨vs,hv,hone,hp⟩:=bH h0 hT hL;have hk:ac.eval ix= .int k0 k:=bH h1 hT hL;obtain⟨h2,rfl,rfl⟩:=h_ e;obtain⟨j,rfl,hj,h3⟩:=uW h2;obtain⟨u,h4,h5⟩:=uZ (P:=P) (w:=w) h3 hv hone;refine .same H ?_ h5;have h4':(part el vs.toArray (j*i.size)).run P w= .ok u w:=h4;simp[execOp,ho,hp,hk,Instr.index,asIntOf,run_underlying hu,hj,sizeOf,typeInfo,hi,h4']
  .cases e
 .cases e
theorem R_{c:Call}{x y:Operand}(ho:o.op= .call c)(hc:c.callee= .builtin .max)(ha:c.args.toList=[x,y])(e:(NK s L x y).run f t l h n= .ok v h' n')(hT:RT s θ t ac.tmps)(hL:LR s θ L l ac.tmps)(H:RH P sl θ h n w):gV P sl θ h n w ((execOp ac.eval o).run P w) v h' n':=by
 simp only[NK]at e;split at e
 .rename_i k0 a k1 b h0 h1
  have hp:ac.eval x= .int k0 a:=bH h0 hT hL;have hk:ac.eval y= .int k1 b:=bH h1 hT hL;cases e
  refine .same H ?_ rfl;simp[execOp,ho,resolve,hc,invoke,builtin,Builtin.max_,ha,hp,hk,Builtin.max2,eZ,bc];by_cases hb:b<=a
  .rw[if_neg (by omega),decide_eq_true hb]
  .rw[if_pos (by omega),decide_eq_false hb]
 .cases e
theorem Sb{c:Call}{x y:Operand}(ho:o.op= .call c)(hc:c.callee= .builtin .min)(ha:c.args.toList=[x,y])(e:(NM s L x y).run f t l h n= .ok v h' n')(hT:RT s θ t ac.tmps)(hL:LR s θ L l ac.tmps)(H:RH P sl θ h n w):gV P sl θ h n w ((execOp ac.eval o).run P w) v h' n':=by
 simp only[NM]at e;split at e
 .rename_i k0 a k1 b h0 h1
  have hp:ac.eval x= .int k0 a:=bH h0 hT hL;have hk:ac.eval y= .int k1 b:=bH h1 hT hL;cases e
  refine .same H ?_ rfl;simp[execOp,ho,resolve,hc,invoke,builtin,Builtin.min_,ha,hp,hk,Builtin.min2,eZ,bc];by_cases hb:a<=b
  .rw[if_neg (by omega),decide_eq_true hb]
  .rw[if_pos (by omega),decide_eq_false hb]
 .cases e
end
end
section
section
variable {P:Program} {sl:FuncId->Sl} {θ:Th} {h h':AH} {n n':Nat} {w:World} {s:Sl} {L:List Tmp} {t:Tr AV} {l:List AV} {ac:Act} {o:Oper} {f:FT} {v:AV}
theorem RH.drew(H:RH P sl θ h n w):RH P sl θ h n w.drew:=⟨H.at_,H.inj,H.new,H.gl⟩
theorem Fr.drew'{bW:Th}{h':AH}{w':World}(a:Fr θ h w.drew bW h' w'):Fr θ h w bW h' w':=⟨a.os,a.tape,a.output,a.size,a.block,a.le,a.from_,a.kind,a.low,a.ro⟩
theorem RH.sub(H:RH P sl θ h n w){g:AH}(hs:∀x o,g.get x=some o->h.get x=some o):RH P sl θ g n w where
 at_:=λx o e=>H.at_ x o (hs x o e)
 inj:=λx y r c d hx hy=>H.inj x y r c d (by obtain⟨o,e⟩:=Option.isSome_iff_exists.1 hx;rw[hs _ _ e];rfl) (by obtain⟨o,e⟩:=Option.isSome_iff_exists.1 hy;rw[hs _ _ e];rfl)
 new:=H.new
 gl:=λk e=>let⟨ty,q,e1,e2⟩:=H.gl k e;⟨ty,q,e1,λ⟨x,c,hx,hr⟩=>e2 ⟨x,c,by obtain⟨o,e⟩:=Option.isSome_iff_exists.1 (gM hx);rw[hs _ _ e,<-e];exact hx,hr⟩⟩
theorem Fr.sub(H:RH P sl θ h n w){g h':AH}{bW:Th}{w':World}(hs:∀x o,g.get x=some o->h.get x=some o)(a:Fr θ g w bW h' w'):Fr θ h w bW h' w':=
 ⟨a.os,a.tape,a.output,a.size,λk hk hn=>a.block k hk (λ⟨x,c,hx,e⟩=>hn ⟨x,c,by obtain⟨o,e⟩:=Option.isSome_iff_exists.1 (gM hx);rw[hs _ _ e,<-e];exact hx,e⟩),a.le,
  λk e=>(a.from_ k e).imp (λ⟨x,c,hx,e⟩=>⟨x,c,by obtain⟨o,e⟩:=Option.isSome_iff_exists.1 (gM hx);rw[hs _ _ e,<-e];exact hx,e⟩) id,a.kind,a.low,λx f e=>hs x _ (a.ro x f e)⟩
theorem WO{a:AV}{U:Value}{m k:Nat}{c:List AV}{tx:TypeId}(e:jG h m k a=some c)(hl:mR a=some k)(hv:aV θ a U)(H:RH P sl θ h n w)(hk:ZO P tx=true):
 ∃us,Src P m tx U k us w/\fE θ c us:=by
 obtain⟨us,h1,h2,h3,h4⟩:=y7 (P:=P) e hv H;refine⟨us,⟨?_,λw'=>(JY (P:=P) (w:=w') hl hv).1,h1 w rfl,h1 w.drew rfl,h4 hl,h3⟩,h2⟩;unfold ZO at hk;split at hk
 .exact .inl ⟨_,‹_›⟩
 .exact .inr ‹_›
 .cases hk
theorem BF{z:Array Value}{k:Nat}{y:Value}(hy:y∈(Builtin.zeroCells z k).toList):y∈z.toList:=by
 unfold Builtin.zeroCells at hy;simp only[Array.toList_map,List.mem_map]at hy;obtain⟨i,hi,rfl⟩:=hy;have hi':i<k*z.size:=by simpa using hi
 have hz:0<z.size:=by
  rcases Nat.eq_zero_or_pos z.size with e|e
  .rw[e]at hi';simp at hi'
  .exact e
 have:=Nat.mod_lt i hz;rw[getElem!_pos z _ this];exact Array.getElem_mem_toList _
theorem p9{ty tx rt e:TypeId}{i:TypeInfo}{z x:Value}(ht:P.underlying ty=some (.slice e))(hi:P.info? e=some i)(hz:i.zero=some z)(hzs:z.cells.size=i.size)(hz1:∀y∈z.cells.toList,y.oneCell'=true)
 {base:Option Addr}{ls cap ly:Nat}{olds news:List Value}{cx cy:List AV}(hold:(Builtin.firstCells i.size ls (.slice base ls cap)).run P w.drew= .ok olds.toArray w.drew)(hol:olds.length=ls*i.size)(ho1:∀y∈olds,y.oneCell'=true)
 (hs:Src P i.size tx x ly news w)(hg:cap<ls+ly)(hle:ls+ly<=1048576)(hby:i.bytes<=65536)(hcx:fE θ cx olds)(hcy:fE θ cy news)(H:RH P sl θ h n w):
 ∃c w',ls+ly<=c/\(Builtin.append_ #[ty,tx] rt #[.slice base ls cap,x]).run P w= .ok (.slice (some ⟨w.heap.size,0,none⟩) (ls+ly) c) w'/\
  RH P sl (θ.ins n (w.heap.size,c)) (h.set n (.row e (cx++cy))) (n+1) w'/\Fr θ h w (θ.ins n (w.heap.size,c)) (h.set n (.row e (cx++cy))) w':=by
 have hb:(2*(ls+ly))*i.bytes<=281474976710656:=Nat.le_trans (Nat.mul_le_mul (by omega:2*(ls+ly)<=2097152) hby) (by decide);have hrun:=run_append_grow_src (P:=P) w ty tx rt e i z ht hi hz base ls cap olds hold x ly news hs hg (by omega) (Nat.le_trans (Nat.mul_le_mul_right _ (Go.Room.nextslicecap_le' hg)) hb);have hge:=grownCap_ge w (ls+ly) cap e;refine⟨grownCap w (ls+ly) cap e,_,hge,hrun,?_⟩;have hsz:((olds++news).toArray++Builtin.zeroCells z.cells (grownCap w (ls+ly) cap e - (ls+ly))).size=grownCap w (ls+ly) cap e*P.cellsOf e:=by
  rw[Array.size_append,size_zeroCells,hzs,List.size_toArray,List.length_append,hol,hs.newsLen,show P.cellsOf e=i.size from rC hi,<-Nat.add_mul,<-Nat.add_mul];congr 1;omega
 have:=H.drew.alloc (grownCap w (ls+ly) cap e) (o:=.row e (cx++cy)) (obj:=.cells ((olds++news).toArray++Builtin.zeroCells z.cells (grownCap w (ls+ly) cap e - (ls+ly))) e (0,0))
  ⟨_,olds++news,(Builtin.zeroCells z.cells (grownCap w (ls+ly) cap e - (ls+ly))).toList,rfl,hsz,by simp,hcx.append hcy,?_⟩
 .exact⟨this.1,this.2.drew'⟩
 .intro y hy
  rw[Array.toList_append]at hy;rcases List.mem_append.1 hy with hy|hy
  .rcases List.mem_append.1 (by simpa using hy:y∈olds++news)with hy|hy
   .exact ho1 y hy
   .exact hs.one y hy
  .exact hz1 y (BF hy)
theorem EZ{ty e:TypeId}(ht:P.underlying ty=some (.slice e)):sU P ty=e:=by unfold sU;rw[NS ht]
theorem E5{ty tx rt e:TypeId}{i:TypeInfo}{z x:Value}(ht:P.underlying ty=some (.slice e))(hi:P.info? e=some i)(hz:i.zero=some z)(hzs:z.cells.size=i.size)(hz1:∀y∈z.cells.toList,y.oneCell'=true)
 {b r d ls ly:Nat}{l0:List AV}{news:List Value}{cy:List AV}(hb:h.get b=some (.row e l0))(hr:θ b=some (r,d))(hl0:l0.length=ls*i.size)
 (hs:Src P i.size tx x ly news w)(hle:ls+ly<=1048576)(hby:i.bytes<=65536)(hcy:fE θ cy news)(H:RH P sl θ h n w):
 ∃r' c w',ls+ly<=c/\(Builtin.append_ #[ty,tx] rt #[.slice (some ⟨r,0,none⟩) ls d,x]).run P w= .ok (.slice (some ⟨r',0,none⟩) (ls+ly) c) w'/\
  RH P sl (θ.ins n (r',c)) ((h.del b).set n (.row e (l0++cy))) (n+1) w'/\Fr θ h w (θ.ins n (r',c)) ((h.del b).set n (.row e (l0++cy))) w':=by
 obtain⟨r0,d0,cs,vs,e1,e2,e3,e4,e5,e6,e7,rest,e8⟩:=H.row hb;rw[hr]at e1;cases e1;have hbn:=H.dom hb;have hdel:∀x o,(h.del b).get x=some o->h.get x=some o:=λx o hx=>by
  rw[C_]at hx;split at hx
  .cases hx
  .exact hx
 have hsz:P.cellsOf e=i.size:=rC hi;by_cases hroom:ls+ly<=d
 .have hcs:cs.size=d*i.size:=by rw[<-hsz];exact e3
  have hlen:vs.length=ls*i.size:=by omega
  have hfit:ls*i.size+news.length<=cs.size:=by
   rw[hs.newsLen,<-Nat.add_mul,hcs];exact Nat.mul_le_mul_right _ hroom
  have hrun:=run_append_room_src (P:=P) w ty tx rt e i ht hi r 0 ls d x ly news hs hroom
   (λj hj=>by rw[iM e2,Array.getElem?_eq_getElem (by omega)];rfl) (λj hj=>kL e2 _)
  rw[Nat.zero_add]at hrun;obtain⟨cs',f1,f2,f3,f4,f5,f6⟩:=mD news (ls*i.size) w cs e2 hfit;refine⟨r,d,_,hroom,hrun,?_⟩;have agH:cs'.size=cs.size:=by
   have:cs.toList.length=cs.size:=Array.length_toList;rw[<-Array.length_toList,f1,List.length_append,List.length_append,List.length_take,List.length_drop];omega
  have htake:cs.toList.take (ls*i.size)=vs:=by rw[e8,<-hlen,List.take_left'];rfl
  have hle':=iH.ins H (r,d);have hget:∀x,((h.del b).set n (.row e (l0++cy))).get x=if x=n then some (.row e (l0++cy))else if x=b then none else h.get x:=λx=>by
   rw[iR,C_]
  have hA:tV P sl (θ.ins n (r,d)) d (.row e (l0++cy)) (.cells cs' e (0,0)):=by
   refine⟨cs',vs++news,cs.toList.drop (ls*i.size+news.length),rfl,by rw[agH];exact e3,by rw[f1,htake];simp,(fE.mono hle' _ e4).append (fE.mono hle' _ hcy),?_⟩;intro y hy;rw[f1]at hy;rcases List.mem_append.1 hy with hy|hy
   .exact e5 y (List.mem_of_mem_take hy)
   .rcases List.mem_append.1 hy with hy|hy
    .exact hs.one y hy
    .exact e5 y (List.mem_of_mem_drop hy)
  refine H.mkF ?_ ?_ ?_ ⟨f4,f5,f6,Nat.le_of_eq f3.symm,?_,hle',?_,λk q ek=>⟨q,by
   rw[f2,if_neg ?_];· exact ek
   rintro rfl;rw[e2]at ek;cases ek⟩,H.JV _,λx f e=>by
   rw[hget]at e;split at e
   .cases e
   .split at e
    .cases e
    .exact e⟩
  .intro x a ha
   rw[hget]at ha;split at ha
   .rename_i hx;cases ha;subst hx
    exact⟨r,d,_,Th.dN _ _ _,by rw[f2,if_pos rfl],hA⟩
   .split at ha
    .cases ha
    .rename_i hx1 hx2
     obtain⟨r2,d2,ob,g1,g2,g3⟩:=H.at_ x a ha;refine⟨r2,d2,ob,hle' _ _ g1,?_,tV.mono hle' g3⟩;rw[f2,if_neg ?_];· exact g2
     rintro rfl;exact hx2 (H.inj x b r2 d2 d (by rw[ha];rfl) (by rw[hb];rfl) g1 hr)
  .intro x y q c1 d1 hx hy g1 g2
   rw[hget]at hx hy;unfold Th.ins at g1 g2;by_cases hx1:x=n
   .by_cases hy1:y=n
    .rw[hx1,hy1]
    .exfalso
     rw[if_pos hx1]at g1;cases g1;rw[if_neg hy1]at g2 hy;by_cases hy2:y=b
     .rw[if_pos hy2]at hy;cases hy
     .rw[if_neg hy2]at hy
      exact hy2 (H.inj y b r d1 d hy (by rw[hb];rfl) g2 hr)
   .rw[if_neg hx1]at g1 hx
    by_cases hx2:x=b
    .rw[if_pos hx2]at hx;cases hx
    .rw[if_neg hx2]at hx
     by_cases hy1:y=n
     .exfalso
      rw[if_pos hy1]at g2;cases g2;exact hx2 (H.inj x b r c1 d hx (by rw[hb];rfl) g1 hr)
     .rw[if_neg hy1]at g2 hy
      by_cases hy2:y=b
      .rw[if_pos hy2]at hy;cases hy
      .rw[if_neg hy2]at hy
       exact H.inj x y q c1 d1 hx hy g1 g2
  .intro x hx
   unfold Th.ins;rw[if_neg (by omega)];exact H.new x (by omega)
  .intro k _ hk
   rw[f2,if_neg];rintro rfl;exact hk ⟨b,d,by rw[hb];rfl,hr⟩
  .rintro k ⟨x,c,hx,g⟩
   rw[hget]at hx;unfold Th.ins at g;by_cases hx1:x=n
   .rw[if_pos hx1]at g;cases g;exact .inl ⟨b,d,by rw[hb];rfl,hr⟩
   .rw[if_neg hx1]at g hx
    by_cases hx2:x=b
    .rw[if_pos hx2]at hx;cases hx
    .rw[if_neg hx2]at hx;exact .inl ⟨x,c,hx,g⟩
 .have hold:(Builtin.firstCells i.size ls (.slice (some ⟨r,0,none⟩) ls d)).run P w.drew= .ok vs.toArray w.drew:=by
   have:=run_loadCells_list (P:=P) w.drew ⟨r,0,none⟩ vs (λj v hv=>by
    rw[Addr.add_mid,iM (w:=w.drew) e2,Nat.zero_add];exact e6 _ _ hv)
   rw[show vs.length=ls*i.size by omega]at this;exact this
  obtain⟨c,w',g0,g1,g2,g3⟩:=p9 (sl:=sl) (rt:=rt) ht hi hz hzs hz1 hold (by omega) (λy hy=>e5 y (by rw[e8];exact List.mem_append_left _ hy)) hs (by omega) hle hby e4 hcy (H.sub hdel);exact⟨_,c,w',g0,g1,g2,Fr.sub H hdel g3⟩
theorem G_{ty tx rt e:TypeId}{i:TypeInfo}{z:Value}(ht:P.underlying ty=some (.slice e))(hi:P.info? e=some i)(hz:i.zero=some z)(hzs:z.cells.size=i.size)(hz1:∀y∈z.cells.toList,y.oneCell'=true)
 (hby:i.bytes<=65536)(hk:ZO P tx=true){a x:AV}{U X:Value}(er:(jS e i.size).run h n a x= .ok v h' n')(ha:aV θ a U)(hx:aV θ x X)(H:RH P sl θ h n w):
 ∃bW u w',(Builtin.append_ #[ty,tx] rt #[U,X]).run P w= .ok u w'/\aV bW v u/\RH P sl bW h' n' w'/\Fr θ h w bW h' w':=by
 replace er:=aW (show aP (mR a) _= .ok v h' n' from er);obtain⟨ls,h1,er⟩:=er;replace er:=aW er;obtain⟨ly,h2,er⟩:=er;replace er:=aW er;obtain⟨cx,h3,er⟩:=er;replace er:=aW er;obtain⟨cy,h4,er⟩:=er;replace er:=jg er;obtain⟨h5,er⟩:=er;have hle:ls+ly<=1048576:=Nat.le_of_ble_eq_true h5;obtain⟨news,hs,hcy⟩:=WO (P:=P) h4 h2 hx H hk;split at er
 .-- a slice whose capacity is known
  rename_i b m o0 k c;cases h1
  obtain⟨r,d,hr,hd,rfl⟩:=id ha;cases hroom:Nat.ble (Nat.add ls ly) c with
  |true=>
   rw[hroom,bD]at er;have hroom':ls+ly<=c:=Nat.le_of_ble_eq_true hroom;split at er
   case h_2=>cases er
   rename_i t0 l0 hg;obtain⟨m0,h6,er⟩:=aW er;cases er
   obtain⟨q1,q2,q3⟩:=H.write (P:=P) hg hr h6 hcy hs.one;obtain⟨r0,d0,cs,vs,e1,e2,e3,e4,e5,e6,e7,rest,e8⟩:=H.row hg;rw[hr]at e1;cases e1;obtain⟨g1,_⟩:=mW h6;have hcl:=hcy.length;have hcs:vs.length+rest.length=cs.size:=by rw[<-Array.length_toList,e8,List.length_append]
   have g1':o0+ls*i.size+cy.length<=l0.length:=g1;have hrun:=run_append_room_src (P:=P) w ty tx rt e i ht hi r o0 ls c X ly news hs hroom' (λj hj=>by rw[iM e2,Array.getElem?_eq_getElem (by omega)];rfl) (λj hj=>kL e2 _);exact⟨θ,_,_,hrun,⟨r,d,hr,(λh=>by cases h),rfl⟩,q2,q3⟩
  |false=>
   rw[hroom,gH]at er;have hroom':c<ls+ly:=by
    rcases Nat.lt_or_ge c (ls+ly)with h6|h6
    .exact h6
    .rw[show Nat.ble (Nat.add ls ly) c=true from Nat.ble_eq_true_of_le h6]at hroom;cases hroom
   obtain⟨rfl,rfl,rfl⟩:=BS er;obtain⟨olds,g1,g2,g3,g4⟩:=y7 (P:=P) h3 ha H;obtain⟨q,w',k0,k1,k2,k3⟩:=p9 (sl:=sl) (rt:=rt) (n:=n) ht hi hz hzs hz1 (g1 w.drew rfl) (g4 rfl) g3 hs hroom' hle hby g2 hcy H;rw[iZ];exact⟨_,_,w',k1,⟨w.heap.size,q,Th.dN _ _ _,λ_=>by show 0+_<=q;first|omega|exact(Nat.zero_add _).symm▸k0,by simp⟩,k2,k3⟩
 .-- a nil slice
  cases h1;cases h3;cases ha
  cases hz0:Nat.beq ly 0 with
  |true=>
   rw[hz0,bD]at er;cases er;obtain rfl:=beq_eq hz0;have hnil:news=[]:=List.eq_nil_of_length_eq_zero (by rw[hs.newsLen];simp);subst hnil;exact⟨θ,_,w,run_append_nothing (P:=P) w ty tx rt e i ht hi none 0 0 (Nat.le_refl _) X hs,rfl,H,Fr.refl _ _ _⟩
  |false=>
   rw[hz0,gH]at er;obtain⟨rfl,rfl,rfl⟩:=BS er;have hpos:0<0+ly:=by
    rcases Nat.eq_zero_or_pos ly with e0|e0
    .rw[e0]at hz0;cases hz0
    .omega
   obtain⟨q,w',k0,k1,k2,k3⟩:=p9 (sl:=sl) (rt:=rt) (n:=n) (olds:=[]) (cx:=[]) ht hi hz hzs hz1 (base:=none) (ls:=0) (cap:=0) rfl (by simp) (by simp) hs hpos hle hby rfl hcy H;rw[Nat.zero_add]at k1;exact⟨_,_,w',k1,⟨w.heap.size,q,Th.dN _ _ _,λ_=>by show 0+_<=q;first|omega|exact(Nat.zero_add _).symm▸k0,by simp⟩,by simpa using k2,by simpa using k3⟩
 .-- an open slice
  rename_i b k;cases h1
  obtain⟨r,d,hr,hd,rfl⟩:=id ha;split at er
  case h_2=>cases er
  rename_i t0 l0 hg;obtain⟨h6,er⟩:=jg er;obtain rfl:=beq_eq h6;cases h7:Nat.beq (nP l0) (Nat.mul ls i.size)with
  |false=>
   rw[h7,gH]at er;cases hw0:Nat.beq i.size 0 with
   |true=>rw[hw0]at er;cases er
   |false=>
   rw[hw0,gH]at er;have hi0:0<i.size:=Nat.pos_of_ne_zero λh=>by rw[h]at hw0;cases hw0
   obtain⟨m0,h6,er⟩:=aW er;cases er
   obtain⟨q1,q2,q3⟩:=H.write (P:=P) hg hr h6 hcy hs.one;obtain⟨r0,d0,cs,vs,e1,e2,e3,e4,e5,e6,e7,rest,e8⟩:=H.row hg;rw[hr]at e1;cases e1;obtain⟨g1,_⟩:=mW h6;have hcl:=hcy.length;have hcs:vs.length+rest.length=cs.size:=by rw[<-Array.length_toList,e8,List.length_append]
   have g1':ls*i.size+cy.length<=l0.length:=g1;have hnl:=hs.newsLen;have hroom:ls+ly<=d:=by
    have hsz:P.cellsOf t0=i.size:=rC hi;have:(ls+ly)*i.size<=d*i.size:=by rw[Nat.add_mul,<-hsz,<-e3,hsz];omega
    exact Nat.le_of_mul_le_mul_right this hi0
   have hrun:=run_append_room_src (P:=P) w ty tx rt t0 i ht hi r 0 ls d X ly news hs hroom (λj hj=>by rw[iM e2,Array.getElem?_eq_getElem (by omega)];rfl) (λj hj=>kL e2 _);rw[Nat.zero_add]at hrun;simp only[Option.getD_none,Nat.sub_zero];exact⟨θ,_,_,hrun,⟨r,d,hr,λ_=>(by show 0+(ls+ly)<=d;omega),by simp⟩,q2,q3⟩
  |true=>
  rw[h7,bD]at er;have hl0:=beq_eq h7;rw[eT]at hl0;obtain⟨rfl,rfl,rfl⟩:=BS er;have hcx:cx=l0:=by
   obtain⟨l1,g1,g2⟩:=aB (show bnd (iI (h.get b) 0 _) _=some cx from h3);rw[hg]at g1;cases g1;obtain⟨_,rfl⟩:=kK g2;rw[tX];simp only[List.drop_zero];exact List.take_of_length_le (Nat.le_of_eq hl0)
  subst hcx;obtain⟨r',c',w',k0,k1,k2,k3⟩:=E5 (sl:=sl) (rt:=rt) (n:=n) ht hi hz hzs hz1 hg hr hl0 hs hle hby hcy H;rw[iZ];simp only[Option.getD_none,Nat.sub_zero];exact⟨_,_,w',k1,⟨r',c',Th.dN _ _ _,λ_=>by show 0+_<=c';first|omega|exact(Nat.zero_add _).symm▸k0,by simp⟩,k2,k3⟩
 .cases er
end
end
section
variable {P:Program} {sl:FuncId->Sl} {θ:Th} {h h':AH} {n n':Nat} {w:World} {s:Sl} {L:List Tmp} {t:Tr AV} {l:List AV} {ac:Act} {o:Oper} {f:FT} {v:AV}
theorem vg{c:Call}{b:Builtin}{x y:Operand}(ho:o.op= .call c)(hc:c.callee= .builtin b)(ha:c.args.toList=[x,y]):∃cs,(execOp ac.eval o).run P w=(builtin b c.argTypes o.type cs #[ac.eval x,ac.eval y]).run P w:=by
 have hm:c.args.map ac.eval=#[ac.eval x,ac.eval y]:=Array.toList_inj.1 (by simp[ha]);simp only[execOp,ho,resolve,hc,hm];exact⟨_,rfl⟩
theorem Dm{c:Call}{b:Builtin}{x:Operand}(ho:o.op= .call c)(hc:c.callee= .builtin b)(ha:c.args.toList=[x]):∃cs,(execOp ac.eval o).run P w=(builtin b c.argTypes o.type cs #[ac.eval x]).run P w:=by
 have hm:c.args.map ac.eval=#[ac.eval x]:=Array.toList_inj.1 (by simp[ha]);simp only[execOp,ho,resolve,hc,hm];exact⟨_,rfl⟩
theorem He{c:Call}{ty G5:TypeId}{a x:Operand}(ho:o.op= .call c)(hc:c.callee= .builtin .append)(ha:c.args.toList=[a,x])(hty:c.argTypes.toList=[ty,G5])(e:(yY P s L ty G5 a x).run f t l h n= .ok v h' n')(hT:RT s θ t ac.tmps)(hL:LR s θ L l ac.tmps)(H:RH P sl θ h n w):Nl P sl θ h w ((execOp ac.eval o).run P w) v h' n':=by
 unfold yY at e;split at e
 case h_2=>cases e
 rename_i el i z hu hi hz;rw[EZ hu]at hi hz;cases g1:ZO P G5 with
 |false=>rw[g1]at e;cases e
 |true=>
 rw[g1,bD]at e;cases g2:Nat.beq (nP z) i.size with
 |false=>rw[g2]at e;cases e
 |true=>
 rw[g2,bD]at e;cases g3:Nat.beq i.size 0 with
 |true=>rw[g3]at e;cases e
 |false=>
 rw[g3,gH]at e;cases g4:Nat.ble i.bytes 65536 with
 |false=>rw[g4]at e;cases e
 |true=>
 rw[g4,bD]at e;obtain⟨av,k1,k2⟩:=aW (show aP ((co s L a).run t l) _= .ok v h' n' from e);obtain⟨xv,k3,k4⟩:=aW k2;obtain⟨i',zv,e1,e2,e3,e4⟩:=kM (θ:=θ) hz;rw[hi]at e1;cases e1;have hzs:zv.cells.size=i.size:=by
  have:=beq_eq g2;rw[eT]at this;have h5:=e3.length;rw[Array.length_toList]at h5;omega
 obtain⟨bW,u,w',q1,q2,q3,q4⟩:=G_ (P:=P) (rt:=o.type) hu hi e2 hzs e4 (Nat.le_of_ble_eq_true g4) g1 k4 (bH k1 hT hL) (bH k3 hT hL) H;refine⟨bW,u,w',.inl ?_,q2,q3,q4⟩;have hat:c.argTypes=#[ty,G5]:=Array.toList_inj.1 (by rw[hty]);obtain⟨cs,hb⟩:=vg (P:=P) (w:=w) (ac:=ac) ho hc ha;rw[hb,hat];simp[builtin,q1]
theorem NY{ty e G5:TypeId}{i:TypeInfo}{rt:TypeId}(ht:P.underlying ty=some (.slice e))(hi:P.info? e=some i){d x:AV}{D X:Value}{tys:Array TypeId}(hty:tys[0]?=some ty)(er:sV i.size h n d x= .ok v h' n')(hd:aV θ d D)(hx:aV θ x X)(H:RH P sl θ h n w):
 ∃bW u w',(Builtin.copy_ tys rt #[D,X]).run P w= .ok u w'/\aV bW v u/\RH P sl bW h' n' w'/\Fr θ h w bW h' w':=by
 replace er:=aW (show aP (mR d) _= .ok v h' n' from er);obtain⟨ld,h1,er⟩:=er;replace er:=aW er;obtain⟨lx,h2,er⟩:=er;replace er:=aW er;obtain⟨cx,h3,er⟩:=er;obtain⟨us,g1,g2,g3,_⟩:=y7 (P:=P) h3 hx H;have hlx:=(JY (P:=P) (w:=w) h2 hx).1;split at er
 .rename_i b m o0 k c
  cases h1
  obtain⟨r,q,hr,_,rfl⟩:=hd;split at er
  case h_2=>cases er
  rename_i t0 l0 hg;obtain⟨m0,h6,er⟩:=aW er;cases er
  obtain⟨q1,q2,q3⟩:=H.write (P:=P) hg hr h6 g2 g3;refine⟨θ,goInt (Nat.min lx ld),_,?_,rfl,q2,q3⟩;have g1':=g1 w rfl;simp[Builtin.copy_,hty,run_underlying ht,hlx,sizeOf,typeInfo,hi,g1',q1]
 .cases er;cases h1;cases hd
  refine⟨θ,goInt 0,w,?_,rfl,H,Fr.refl _ _ _⟩;have g1':=g1 w rfl;have e0:lx.min 0=0:=Nat.min_zero lx;rw[e0]at g1';simp[Builtin.copy_,hty,run_underlying ht,hlx,sizeOf,typeInfo,hi,g1',kv,e0]
 .cases er
theorem wR{x:Option Int}{d k:Nat}(e:wK x d=some k):(x=none/\k=d)\/x=some (k:Int):=by
 cases x with
 |none=>cases e;exact .inl ⟨rfl,rfl⟩
 |some i=>cases i with
  |ofNat j=>cases e;exact .inr rfl
  |negSucc j=>cases e
theorem Dn{x:Option Operand}{r:Option Int}(e:(uT s L x).run t l=some r)(hT:RT s θ t ac.tmps)(hL:LR s θ L l ac.tmps):(x.map ac.eval=none/\r=none)\/∃k i,x.map ac.eval=some (.int k i)/\r=some i:=by
 cases x with
 |none=>cases e;exact .inl ⟨rfl,rfl⟩
 |some x=>
  simp only[uT]at e;split at e
  .rename_i k i h0;cases e
   have hq:ac.eval x= .int k i:=bH h0 hT hL;exact .inr ⟨k,i,congrArg some hq,rfl⟩
  .cases e
theorem NZ{c:Call}{ty:TypeId}{rest:List TypeId}{d x:Operand}(ho:o.op= .call c)(hc:c.callee= .builtin .copy)(ha:c.args.toList=[d,x])(hty:c.argTypes.toList=ty::rest)(e:(JO P s L ty d x).run f t l h n= .ok v h' n')(hT:RT s θ t ac.tmps)(hL:LR s θ L l ac.tmps)(H:RH P sl θ h n w):Nl P sl θ h w ((execOp ac.eval o).run P w) v h' n':=by
 unfold JO at e;split at e
 case h_2=>cases e
 rename_i el hu;split at e
 case h_2=>cases e
 rename_i sz hsz;obtain⟨i,hi,rfl⟩:=jc hsz;obtain⟨dv,k1,k2⟩:=aW (show aP ((co s L d).run t l) _= .ok v h' n' from e);obtain⟨xv,k3,k4⟩:=aW k2;have h0:c.argTypes[0]?=some ty:=by rw[<-Array.getElem?_toList,hty];rfl
 obtain⟨bW,u,w',q1,q2,q3,q4⟩:=NY (P:=P) (G5:=0) (rt:=o.type) hu hi h0 k4 (bH k1 hT hL) (bH k3 hT hL) H;refine⟨bW,u,w',.inl ?_,q2,q3,q4⟩;obtain⟨cs,hb⟩:=vg (P:=P) (w:=w) (ac:=ac) ho hc ha;rw[hb];simp[builtin,q1]
theorem Es.length:∀{es:List (AV×AV×Nat)}{l0:List MapEntry},Es θ es l0->l0.length=es.length
 |[],_,e=>by rw[Es]at e;subst e;rfl
 |(_,_,_)::es,_,e=>by obtain⟨m,ms,_,_,_,e5,rfl⟩:=e;simp[Es.length e5]
theorem Sc{c:Call}{ty:TypeId}{x:Operand}(ho:o.op= .call c)(hc:c.callee= .builtin .len)(ha:c.args.toList=[x])(hty:c.argTypes.toList=[ty])(e:(NJ P s L ty x).run f t l h n= .ok v h' n')(hT:RT s θ t ac.tmps)(hL:LR s θ L l ac.tmps)(H:RH P sl θ h n w):gV P sl θ h n w ((execOp ac.eval o).run P w) v h' n':=by
 obtain⟨cs,hb⟩:=Dm (P:=P) (w:=w) (ac:=ac) ho hc ha;have hat:c.argTypes=#[ty]:=Array.toList_inj.1 (by rw[hty]);rw[hb,hat];unfold NJ at e;split at e
 .rename_i hu
  simp only at e;split at e
  .rename_i q h0
   have hp:ac.eval x= .string ⟨q.toArray⟩:=bH h0 hT hL;cases e
   refine .same H (u:=goInt q.length) ?_ (by rw[eT];rfl);have hs:(⟨q.toArray⟩:ByteArray).size=q.length:=by show q.toArray.size=_;simp
   simp[builtin,Builtin.len_,run_underlying hu,hp,hs]
  .cases e
 .rename_i el hu
  simp only at e;split at e
  .rename_i a b c0 m d h0
   obtain⟨r,q,hr,_,hp⟩:=bH h0 hT hL;cases e
   exact .same H (u:=goInt m) (by simp[builtin,Builtin.len_,run_underlying hu,hp]) rfl
  .rename_i h0
   have hp:ac.eval x=kv 1:=bH h0 hT hL;cases e
   exact .same H (u:=goInt 0) (by simp[builtin,Builtin.len_,run_underlying hu,hp,kv]) rfl
  .rename_i h0
   obtain⟨a,d,hp⟩:=bH h0 hT hL;cases e
   exact .same H (u:=goInt 0) (by simp[builtin,Builtin.len_,run_underlying hu,hp]) rfl
  .cases e
 .rename_i m el hu
  obtain⟨xv,k1,k2⟩:=aW (show aP ((co s L x).run t l) _= .ok v h' n' from e);cases k2
  exact .same H (u:=goInt m) (by simp[builtin,Builtin.len_,run_underlying hu]) rfl
 .rename_i kt el hu
  simp only at e;split at e
  .rename_i r h0
   obtain⟨es,g1,g2⟩:=aW e;cases g2
   obtain⟨pX,g3⟩:=BU g1;obtain⟨r',q,hr,hp⟩:=bH h0 hT hL;obtain⟨r2,c2,obj,e1,e2,en,rfl,e3⟩:=H.at_ _ _ g3;rw[hr]at e1;cases e1;have hlen:en.size=es.length:=by
    rw[<-Array.length_toList];exact Es.length e3
   refine .same H (u:=goInt es.length) ?_ (by rw[eT];rfl);simp[builtin,Builtin.len_,run_underlying hu,hp,getObj,Sem.run,e2,hlen]
  .rename_i h0
   have hp:ac.eval x=kv 2:=bH h0 hT hL;cases e
   exact .same H (u:=goInt 0) (by simp[builtin,Builtin.len_,run_underlying hu,hp,kv]) rfl
  .cases e
 .cases e
theorem wS:∀{c:List AV}{vs:List Value}{b:List UInt8},pR c=some b->fE θ c vs->vs=b.map λx=>Value.int .u8 x.toNat
 |[],_,_,e,hv=>by cases e;rw[fE]at hv;subst hv;rfl
 |a::c,_,b,e,hv=>by
  obtain⟨v0,vs,h1,h2,rfl⟩:=hv;obtain⟨q,g1,g2⟩:=aB (show bnd (JM a) _=some b from e);obtain⟨r,g3,g4⟩:=aB g2;cases g4
  have ih:=wS g3 h2;unfold JM at g1;split at g1
  .rename_i k
   obtain⟨g5,g6⟩:=bL g1;cases g6;cases h1
   have hk:k<=255:=Nat.le_of_ble_eq_true g5;have:(UInt8.ofNat k).toNat=k:=by simp;omega
   rw[List.map_cons,ih,this];rfl
  .cases g1
theorem wT{lo hi:Option Operand}{rl rh:Option Int}{len cap a z:Nat}{b:Bool}(e1:(uT s L lo).run t l=some rl)(e2:(uT s L hi).run t l=some rh)(hT:RT s θ t ac.tmps)(hL:LR s θ L l ac.tmps)
 (h1:wK rl 0=some a)(h2:wK rh len=some z)(h3:a<=z)(h4:z<=cap\/rh=none):(Instr.sliceBounds b len cap (lo.map ac.eval) (hi.map ac.eval) none).run P w= .ok (a,z,cap) w:=by
 rcases Dn e2 hT hL with⟨g1,rfl⟩|⟨k,i,g1,rfl⟩
 .cases h2
  rcases Dn e1 hT hL with⟨q1,rfl⟩|⟨j,y,q1,rfl⟩
  .cases h1;rw[g1,q1];rfl
  .rcases wR h1 with⟨g2,_⟩|g2<;>cases g2
   rw[g1,q1];simp[Instr.sliceBounds,Instr.sliceBound,asIntOf,h3]
 .have h5:z<=cap:=by rcases h4 with h4|h4;exact h4;cases h4
  rcases wR h2 with⟨g2,_⟩|g2<;>cases g2
  rcases Dn e1 hT hL with⟨q1,rfl⟩|⟨j,y,q1,rfl⟩
  .cases h1;rw[g1,q1];simp[Instr.sliceBounds,Instr.sliceBound,asIntOf,h5]
  .rcases wR h1 with⟨g2,_⟩|g2<;>cases g2
   rw[g1,q1];simp[Instr.sliceBounds,Instr.sliceBound,asIntOf,h3,h5]
theorem E8{c d:TypeId}{x:Operand}(ho:o.op= .convert c d x)(e:(pV P s L c d x).run f t l h n= .ok v h' n')(hT:RT s θ t ac.tmps)(hL:LR s θ L l ac.tmps)(H:RH P sl θ h n w):gV P sl θ h n w ((execOp ac.eval o).run P w) v h' n':=by
 unfold pV at e;split at e
 .rename_i dd k hc hd
  simp only at e;split at e
  .rename_i k0 i h0
   have hp:ac.eval x= .int k0 i:=bH h0 hT hL;cases e
   refine .same H (u:=.int k (k.wrap i)) ?_ (by rw[wQ];rfl);simp[execOp,ho,hp,convert,run_underlying hc,run_underlying hd,Conv.intToInt]
  .cases e
 .rename_i hc hd
  simp only at e;split at e
  .rename_i q h0
   have hp:ac.eval x= .string ⟨q.toArray⟩:=bH h0 hT hL;cases e
   refine .same H ?_ rfl;simp[execOp,ho,hp,convert,run_underlying hc,run_underlying hd]
  .cases e
 .rename_i el hc hd
  cases hu:RX P el with
  |false=>rw[hu]at e;cases e
  |true=>
   rw[hu,bD]at e;have he:P.underlying el=some (.int .u8):=by
    unfold RX at hu;split at hu
    .assumption
    .cases hu
   simp only at e;split at e
   .rename_i h0
    have hp:ac.eval x= .slice none 0 0:=bH h0 hT hL;cases e
    refine .same H (u:=.string .empty) ?_ rfl;simp[execOp,ho,hp,convert,run_underlying hc,run_underlying hd,run_underlying he,Conv.bytesToString]
   .rename_i b m o0 k c0 h0
    have hv:=bH h0 hT hL;obtain⟨u,g1,g2⟩:=aW e;obtain⟨bs,g3,g4⟩:=aW g2;cases g4
    obtain⟨us,k1,k2,k3,k4⟩:=y7 (P:=P) g1 hv H;have hus:=wS g3 k2;have hlen:bs.length=k:=by have:=k4 rfl;rw[hus]at this;simpa using this
    obtain⟨r,q,hr,_,hp⟩:=hv;have hl:=k1 w rfl;refine .same H (u:=.string ⟨bs.toArray⟩) ?_ rfl;have hcell:∀j (hj:j<bs.length),w.cell? ((⟨r,o0,none⟩:Addr).add j)=some (.int .u8 (bs[j].toNat:Int)):=by
     intro j hj;obtain⟨l0,q1,q2⟩:=aB (show bnd (iI (h.get b) o0 _) _=some u from g1);obtain⟨r',c',cs,t0,fz,vs,e1,e2,e4,e5,e6⟩:=H.cut q1;rw[hr]at e1;cases e1;obtain⟨q4,rfl⟩:=kK q2;have heq:=wS g3 (e4.take (Nat.mul k 1));rw[Addr.add_mid,iM e2];apply e6;have:(vs.take (Nat.mul k 1))[j]?=some (.int .u8 (bs[j].toNat:Int)):=by
      rw[heq];simp[hj]
     rw[List.getElem?_take]at this;split at this
     .exact this
     .cases this
    have hrun:=run_convert_bytes_back (P:=P) w c d el ⟨r,o0,none⟩ (c0.getD (q - m)) bs hc he hd hcell;rw[hlen]at hrun;simp[execOp,ho,hp,hrun]
   .cases e
 .cases e
theorem Le{ty:TypeId}{x:Operand}{lo hi:Option Operand}(ho:o.op= .slice ty x lo hi none)(e:(zJ P s L ty x lo hi).run f t l h n= .ok v h' n')(hT:RT s θ t ac.tmps)(hL:LR s θ L l ac.tmps)(H:RH P sl θ h n w):gV P sl θ h n w ((execOp ac.eval o).run P w) v h' n':=by
 unfold zJ at e;split at e
 .rename_i hu
  obtain⟨rl,k1,e⟩:=aW (show aP ((uT s L lo).run t l) _= .ok v h' n' from e);obtain⟨rh,k2,e⟩:=aW e;split at e
  .rename_i c h0
   have hp:ac.eval x= .string ⟨c.toArray⟩:=bH h0 hT hL;obtain⟨g1,rfl,rfl⟩:=h_ e;obtain⟨a,g2,g3⟩:=aB g1;obtain⟨z,g4,g5⟩:=aB g3;obtain⟨g6,g7⟩:=bL g5;obtain⟨u,g8,g9⟩:=aB g7;cases g9
   obtain⟨g10,rfl⟩:=kK g8;rw[eT]at g4;have hs:(⟨c.toArray⟩:ByteArray).size=c.length:=by show c.toArray.size=_;simp
   have hb:=wT (P:=P) (w:=w) (cap:=c.length) (b:=false) k1 k2 hT hL g2 g4 (Nat.le_of_ble_eq_true g6) (.inl g10);refine .same H (u:=.string ((⟨c.toArray⟩:ByteArray).extract a z)) ?_ ?_
   .simp[execOp,ho,hp,Instr.sliceAt,Instr.slice,run_underlying hu,hs,hb]
   .show _=Value.string _
    congr 1;apply ByteArray.ext;rw[tX];rw[ByteArray.data_extract];apply Array.toList_inj.1;rw[Array.toList_extract,List.extract_eq_take_drop];simp[List.drop_take]
  .cases e
 .rename_i el hu
  split at e
  case h_2=>cases e
  rename_i sz hsz;obtain⟨i,hi,rfl⟩:=jc hsz;obtain⟨rl,k1,e⟩:=aW (show aP ((uT s L lo).run t l) _= .ok v h' n' from e);obtain⟨rh,k2,e⟩:=aW e;split at e
  .rename_i b m o0 k c h0
   obtain⟨r,d,hr,hd,hp⟩:=bH h0 hT hL;obtain⟨g1,rfl,rfl⟩:=h_ e;obtain⟨a,g2,g3⟩:=aB g1;obtain⟨z,g4,g5⟩:=aB g3;obtain⟨g6,g7⟩:=bL g5;have haz:a<=z:=Nat.le_of_ble_eq_true g6;have fin:∀(C:Nat),c.getD (d - m)=C->z<=C\/rh=none->(execOp ac.eval o |>.run P w)= .ok (.value (.slice (some (if C=a then⟨r,o0,none⟩else⟨r,o0+a*i.size,none⟩)) (z - a) (C - a))) w:=by
    intro C hC hz;have hb:=wT (P:=P) (w:=w) (cap:=C) (b:=true) k1 k2 hT hL g2 g4 haz hz;simp only[execOp,ho,hp,Option.map_none,Instr.sliceAt,Sem.run_bind,run_underlying hu,Result.andThen_ok,Instr.slice,hC,hb,sizeOf,typeInfo,run_program,hi,Sem.run_pure,Option.map_some,Addr.add_mid];split<;>rfl
   cases c with
   |none=>
    obtain⟨q1,q2⟩:=bL (show bc (Nat.ble z k) _ none=some v from g7);have hzk:z<=k:=Nat.le_of_ble_eq_true q1;have hmd:m+k<=d:=hd rfl;have hf:=fin (d - m) rfl (.inl (by omega));cases q3:Nat.beq a 0 with
    |true=>
     rw[q3,bD]at q2;cases q2;obtain rfl:=beq_eq q3;refine .same H hf ⟨r,d,hr,λ_=>by omega,?_⟩;simp
    |false=>
     rw[q3,gH]at q2;cases q4:Nat.ble (Nat.succ a) z with
     |true=>
      rw[q4,bD]at q2;cases q2;have ao6:a+1<=z:=Nat.le_of_ble_eq_true q4;refine .same H hf ⟨r,d,hr,λ_=>?_,?_⟩
      .show m+a+(z - a)<=d;omega
      .rw[if_neg (by omega)]
       show _=Value.slice (some ⟨r,o0+a*i.size,none⟩) (z - a) (d - (m+a));rw[Nat.sub_sub]
     |false=>
      rw[q4,gH]at q2;cases q2;have:¬a+1<=z:=λh=>by rw[Nat.ble_eq_true_of_le h]at q4;cases q4
      refine .same H hf ?_;rw[show z - a=0 by omega];exact⟨_,_,rfl⟩
   |some c=>
    obtain⟨q1,q2⟩:=bL (show bc (Nat.ble z c) _ none=some v from g7);cases q2
    have hzk:z<=c:=Nat.le_of_ble_eq_true q1;refine .same H (fin c rfl (.inl hzk)) ⟨r,d,hr,(λh=>by cases h),?_⟩;cases q3:Nat.beq c a with
    |true=>obtain rfl:=beq_eq q3;simp[bc]
    |false=>
     have:¬c=a:=λe0=>by subst e0;rw[Nat.beq_refl]at q3;cases q3
     simp[bc,this]
  .cases e
 .rename_i m el hu
  split at e
  case h_2=>cases e
  rename_i sz hsz;obtain⟨i,hi,rfl⟩:=jc hsz;obtain⟨rl,k1,e⟩:=aW (show aP ((uT s L lo).run t l) _= .ok v h' n' from e);obtain⟨rh,k2,e⟩:=aW e;split at e
  .rename_i b o0 h0
   obtain⟨r,d,hr,hp⟩:=bH h0 hT hL;obtain⟨g1,rfl,rfl⟩:=h_ e;obtain⟨a,g2,g3⟩:=aB g1;obtain⟨z,g4,g5⟩:=aB g3;obtain⟨g6,g7⟩:=bL g5;obtain⟨g8,g9⟩:=bL g7;cases g9
   have haz:a<=z:=Nat.le_of_ble_eq_true g6;have WQ:z<=m:=Nat.le_of_ble_eq_true g8;have hb:=wT (P:=P) (w:=w) (cap:=m) (b:=false) k1 k2 hT hL g2 g4 haz (.inl WQ);refine .same H (u:=.slice (some (if m=a then⟨r,o0,none⟩else⟨r,o0+a*i.size,none⟩)) (z - a) (m - a)) ?_ ⟨r,d,hr,(λh=>by cases h),?_⟩
   .simp only[execOp,ho,hp,Option.map_none,Instr.sliceAt,Instr.sureAddr,Sem.run_bind,run_underlying hu,Result.andThen_ok,hb,sizeOf,typeInfo,run_program,hi,Sem.run_pure,Addr.add_mid]
   .cases q3:Nat.beq m a with
    |true=>obtain rfl:=beq_eq q3;simp[bc]
    |false=>
     have:¬m=a:=λe0=>by subst e0;rw[Nat.beq_refl]at q3;cases q3
     simp[bc,this]
  .cases e
 .cases e
end
end Go.Proofs.YtfnnplicbjeifaaGreatDoor
