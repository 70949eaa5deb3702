/- part -/
import Derived.Test.YtjoohkjmoghmoaaGreatDoorP00
import Derived.Deep.MidRow
import Derived.Shelf.Abstract
import Derived.Deep.Upon
import Derived.Room.Entries
set_option linter.all false
namespace Go.Proofs.YtjoohkjmoghmoaaGreatDoor
section
mutual
theorem mX{θ:Th}:∀{v:Value}{a:AV},Ro v=some a->aV θ a v
 | .bool _,_,h=>by cases h;rfl
 | .int _ _,_,h=>by cases h;rfl
 | .string _,_,h=>by cases h;rfl
 | .pointer none,_,h=>by cases h;rfl
 | .slice none 0 0,_,h=>by cases h;rfl
 | .map none,_,h=>by cases h;rfl
 | .nilFunc,_,h=>by cases h;rfl
 | .nilIface,_,h=>by cases h;rfl
 | .func (.func g) ⟨[]⟩ ⟨[]⟩,_,h=>by cases h;exact⟨[],rfl,rfl⟩
 | .agg ⟨cs⟩,a,h=>by
  obtain⟨h1,h2⟩:=bI (show bc (cs.all (·.oneCell')) (bnd (KV cs) λl=>some (.agg l)) none=some a from h);obtain⟨l,h3,h4⟩:=aB h2;cases h4
  exact⟨cs,G8 h3,by simpa using h1,rfl⟩
theorem G8{θ:Th}:∀{vs:List Value}{l:List AV},KV vs=some l->eU θ l vs
 |[],_,h=>by cases h;rfl
 |v::vs,l,h=>by
  obtain⟨a,h1,h2⟩:=aB (show bnd (Ro v) (λa=>bnd (KV vs) λb=>some (a::b))=some l from h);obtain⟨b,h3,h4⟩:=aB h2;cases h4
  exact⟨v,vs,mX h1,G8 h3,rfl⟩
end
def LR(s:Sl)(θ:Th)(L:List Tmp)(l:List AV)(tm:Array Value):Prop:=∀k j a,s.S k=false->idx k L=some j->l[j]?=some a->∃v,tm[k]?=some v/\aV θ a v
theorem LR.nil(s:Sl)(θ:Th)(tm:Array Value):LR s θ [] [] tm:=λ_ _ _ _ h=>by cases h
theorem LR.mono{s:Sl}{θ bP:Th}{L:List Tmp}{l:List AV}{tm:Array Value}(h:iq θ bP)(k:LR s θ L l tm):LR s bP L l tm:=
 λi j a e0 e1 e2=>let⟨v,h1,h2⟩:=k i j a e0 e1 e2;⟨v,h1,aV.mono h a h2⟩
theorem jr:∀(j:Nat)(l:List AV),(CU j).run l=l[j]?
 |0,[]=>rfl
 |0,_::_=>rfl
 |_+1,[]=>rfl
 |j+1,_::r=>by show(CU j).run r=_;rw[jr j];rfl
theorem EN{s:Sl}{L:List Tmp}{k:Tmp}{t:Tr AV}{l:List AV}{θ:Th}{tm:Array Value}{a:AV}(h:(KE s L k).run t l=some a)(hT:RT s θ t tm)(hL:LR s θ L l tm):∃v,tm[k]?=some v/\aV θ a v:=by
 unfold KE at h;cases hS:s.S k with
 |true=>
  rw[hS,bD]at h;exact hT.at_ k a hS (by rw[<-kV 20];exact h)
 |false=>
  rw[hS,fU]at h;cases hi:idx k L with
  |none=>rw[hi]at h;cases h
  |some j=>rw[hi]at h;exact hL k j a hS hi (by rw[<-jr];exact h)
theorem bF{s:Sl}{L:List Tmp}{x:Operand}{t:Tr AV}{l:List AV}{θ:Th}{ac:Act}{a:AV}(h:(co s L x).run t l=some a)(hT:RT s θ t ac.tmps)(hL:LR s θ L l ac.tmps):aV θ a (ac.eval x):=by
 cases x with
 |tmp k=>
  obtain⟨v,h1,h2⟩:=EN (show(KE s L k).run t l=some a from h) hT hL;show aV θ a (ac.tmps.getD k undef);rw[Array.getD_eq_getD_getElem?,h1];exact h2
 |const v=>exact mX (show Ro v=some a from h)
 |global g=>cases h
 |func f=>cases h;exact⟨[],rfl,rfl⟩
theorem Bf{s:Sl}{L:List Tmp}{t:Tr AV}{l:List AV}{θ:Th}{ac:Act}(hT:RT s θ t ac.tmps)(hL:LR s θ L l ac.tmps):∀{xs:List Operand}{us:List AV},(col s L xs).run t l=some us->eU θ us (xs.map ac.eval)
 |[],_,h=>by cases h;rfl
 |x::xs,us,h=>by
  obtain⟨a,h1,h2⟩:=aB (show bnd ((co s L x).run t l) (λa=>bnd ((col s L xs).run t l) λb=>some (a::b))=some us from h);obtain⟨b,h3,h4⟩:=aB h2;cases h4
  exact⟨_,_,bF h1 hT hL,Bf hT hL h3,rfl⟩
theorem Tj(c:Nat):(kv c).oneCell'=true:=by
 unfold kv;split<;>rfl
theorem Bg{θ:Th}{a:AV}{v:Value}{c:List AV}(h:qI a=some c)(hv:aV θ a v):eU θ c v.cells.toList/\∀x∈v.cells.toList,x.oneCell'=true:=by
 have one:v.oneCell'=true->v.cells=#[v]->eU θ [a] v.cells.toList/\∀x∈v.cells.toList,x.oneCell'=true:=λh1 h2=>by
  rw[h2];exact⟨⟨v,[],hv,rfl,rfl⟩,by simpa using h1⟩
 cases a with
 |agg l=>cases h;obtain⟨vs,h1,h2,rfl⟩:=hv;exact⟨by simpa [Value.cells]using h1,by simpa [Value.cells]using h2⟩
 |bQ l=>cases h
 |b x=>cases h;have e:v= .bool x:=hv;subst e;exact one rfl rfl
 |i k n=>cases h;have e:v= .int k n:=hv;subst e;exact one rfl rfl
 |s l=>cases h;have e:v= .string ⟨l.toArray⟩:=hv;subst e;exact one rfl rfl
 |p x o=>cases h;obtain⟨r,d,_,e⟩:=id hv;subst e;exact one rfl rfl
 |sl x m o n d=>cases h;obtain⟨r,d,_,_,e⟩:=id hv;subst e;exact one rfl rfl
 |m x=>cases h;obtain⟨r,d,_,e⟩:=id hv;subst e;exact one rfl rfl
 |f g cap=>cases h;obtain⟨r,_,e⟩:=id hv;subst e;exact one rfl rfl
 |y l=>cases h;obtain⟨r,d,_,e⟩:=id hv;subst e;exact one rfl rfl
 |zH t u=>cases h;obtain⟨r,_,e⟩:=id hv;subst e;exact one rfl rfl
 |es a d=>cases h;obtain⟨_,_,e⟩:=id hv;subst e;exact one rfl rfl
 |k c=>cases h;have e:v=kv c:=hv;subst e;refine one (Tj c) ?_;unfold kv;split<;>rfl
theorem Af{x:Option AO}{l:List (AV×AV×Nat)}(h:IQ x=some l):∃c,x=some (.mp l c):=by
 obtain⟨o,rfl,h2⟩:=aB h;cases o with
 |row t m=>cases h2
 |mp es c=>cases h2;exact⟨c,rfl⟩
 |lp=>cases h2
 |it=>cases h2
 |ro=>cases h2
section
variable {P:Program} {sl:FuncId->Sl} {θ:Th} {h:AH} {n:Nat} {w:World}
theorem K8{t:TypeId}{d:TypeDesc}(e:P.underlying t=some d):und P t=d:=by unfold und;rw[e];rfl
theorem Da{t:TypeId}{d:TypeDesc}(e:P.underlying t=some d):∃i,P.info? t=some i:=by
 unfold Program.underlying at e;split at e
 .exact⟨_,‹_›⟩
 .exact⟨_,‹_›⟩
 .cases e
theorem qh{t:TypeId}{i:TypeInfo}(e:P.info? t=some i):sz P t=i.size:=by unfold sz Program.cellsOf;rw[e];rfl
theorem iL{t:TypeId}{k:Nat}(e:Ad P t=some k):∃i,P.info? t=some i/\i.size=k:=by
 unfold Ad at e;cases hi:P.info? t with
 |none=>rw[hi]at e;cases e
 |some i=>rw[hi]at e;cases e;exact⟨i,rfl,rfl⟩
theorem RH.row(H:RH P sl θ h n w){x:Nat}{t:TypeId}{l:List AV}(e:h.get x=some (.row t l)):
 ∃(r c:Nat)(cs:Array Value)(vs:List Value),θ x=some (r,c)/\w.heap[r]?=some (.cells cs t (0,0))/\cs.size=c*P.cellsOf t/\eU θ l vs/\(∀v∈cs.toList,v.oneCell'=true)/\(∀(j:Nat)(v:Value),vs[j]?=some v->cs[j]?=some v)/\vs.length=l.length/\∃rest,cs.toList=vs++rest:=by
 obtain⟨r,c,obj,h1,h2,cs,vs,rest,rfl,h3,h4,h5,h6⟩:=H.at_ x _ e;refine⟨r,c,cs,vs,h1,h2,h3,h5,h6,λj v hv=>?_,h5.length,rest,h4⟩;rw[<-Array.getElem?_toList,h4,List.getElem?_append_left];· exact hv
 exact(List.getElem?_eq_some_iff.1 hv).1
theorem iy{r:Nat}{cs:Array Value}{t:TypeId}{fz:Nat×Nat}(e:w.heap[r]?=some (.cells cs t fz))(j:Nat):w.cell? ⟨r,j,none⟩=cs[j]?:=by
 unfold World.cell?;simp only[e];rfl
theorem jO{r:Nat}{cs:Array Value}{t:TypeId}(e:w.heap[r]?=some (.cells cs t (0,0)))(j:Nat):w.frozen? ⟨r,j,none⟩=false:=by
 unfold World.frozen?;simp only[e];simp
theorem RH.cut(H:RH P sl θ h n w){x k m:Nat}{l:List AV}(e:iD (h.get x) k m=some l):
 ∃(r c:Nat)(cs:Array Value)(t:TypeId)(fz:Nat×Nat)(vs:List Value),θ x=some (r,c)/\w.heap[r]?=some (.cells cs t fz)/\eU θ l vs/\(∀v∈vs,v.oneCell'=true)/\∀(j:Nat)(v:Value),vs[j]?=some v->cs[k+j]?=some v:=by
 obtain⟨o,h1,h2⟩:=aB e;cases o with
 |row t l0=>
  cases h2
  obtain⟨r,c,cs,vs,e1,e2,e3,e4,e5,e6,e7,rest,e8⟩:=H.row h1;refine⟨r,c,cs,t,_,vs.drop k,e1,e2,by rw[rP];exact e4.drop k,λv hv=>e5 v (by rw[e8];exact List.mem_append_left _ (List.mem_of_mem_drop hv)),λj v hv=>e6 _ _ ?_⟩
  rwa [List.getElem?_drop]at hv
 |mp _ _=>cases h2
 |lp=>cases h2
 |it=>cases h2
 |ro f=>
  obtain⟨r,c,obj,e1,e2,cs,t,fz,rfl,e3⟩:=H.at_ x _ h1;obtain⟨vs,e4,e5,e6⟩:=e3 k m l h2;exact⟨r,c,cs,t,fz,vs,e1,e2,e4,e5,e6⟩
theorem K9{t:TypeId}{l:List AV}{vs:List Value}{o:Nat}{a:AV}(e:(KF P t).run l o=some a)(hv:eU θ l vs)(h1:∀x∈vs,x.oneCell'=true):
 (∃cs d,aV θ a (.agg cs.toArray)/\P.underlying t=some d/\d.isRow=true/\(P.info? t).map (·.size)=some cs.length/\(∀j v,cs[j]?=some v->vs[o+j]?=some v)/\cs=(vs.drop o).take cs.length)\/
 (∃v d,aV θ a v/\P.underlying t=some d/\d.isRow=false/\vs[o]?=some v):=by
 unfold KF at e;have row:∀d,P.underlying t=some d->d.isRow=true->bnd (mO (sz P t) (qH o l)) (λx=>some (AV.agg x))=some a->
  ∃cs d,aV θ a (.agg cs.toArray)/\P.underlying t=some d/\d.isRow=true/\(P.info? t).map (·.size)=some cs.length/\(∀j v,cs[j]?=some v->vs[o+j]?=some v)/\cs=(vs.drop o).take cs.length:=by
  intro d hd hr hh;obtain⟨x,h2,h3⟩:=aB hh;cases h3
  obtain⟨h4,rfl⟩:=jN h2;rw[rP]at h4⊢;obtain⟨i,hi⟩:=Da hd;have hlen:=hv.length;have hl:((vs.drop o).take (sz P t)).length=sz P t:=by
   rw[List.length_take,List.length_drop];rw[List.length_drop]at h4;omega
  refine⟨(vs.drop o).take (sz P t),d,?_,hd,hr,by rw[hi,hl,Option.map_some,<-qh hi],?_,by rw[hl]⟩
  .exact⟨_,(hv.drop o).take _,λx hx=>h1 x (List.mem_of_mem_drop (List.mem_of_mem_take hx)),rfl⟩
  .intro j v hj
   rw[List.getElem?_take]at hj;split at hj
   .rwa [List.getElem?_drop]at hj
   .cases hj
 split at e
 .cases e
 .exact .inl (row _ ‹_› rfl e)
 .exact .inl (row _ ‹_› rfl e)
 .rename_i d hn1 hn2 hdd
  replace e:hd (qH o l)=some a:=e;rw[mW]at e;obtain⟨v,h2,h3⟩:=hv.get o e;refine .inr ⟨v,d,h3,hdd,?_,h2⟩;cases d<;>first|rfl|(exfalso;first|exact hn1 _ rfl|exact hn2 _ _ rfl)
end
end
section
def KG(P:Program)(sl:FuncId->Sl)(θ:Th)(h:AH)(w:World)(r:Result Next)(v:AV)(h':AH)(n':Nat):Prop:=
 ∃bP u w',(r= .ok (.value u) w'\/(r= .ok .skip w'/\u=undef))/\aV bP v u/\RH P sl bP h' n' w'/\Fr θ h w bP h' w'
section
variable {P:Program} {sl:FuncId->Sl} {θ:Th} {h h':AH} {n n':Nat} {w:World} {s:Sl} {L:List Tmp} {t:Tr AV} {l:List AV} {ac:Act} {o:Oper} {f:FT} {v:AV}
variable (P sl θ h n w)in
inductive gM (r:Result Next):AV->AH->Nat->Prop
 |WV {v:AV} {u:Value} (hr:r= .ok (.value u) w) (hv:aV θ v u):gM r v h n
 |alloc {v u:AV} {ob:AO} {obj:Obj} {x:Value} {h':AH} {n':Nat} (e:mk h n v ob= .ok u h' n') (c:Nat) (hA:rO P sl θ c ob obj) (hr:r= .ok (.value x) (w.alloc obj))
  (hv:aV (θ.ins n (w.heap.size,c)) v x) (ho:zN (some ob)=true:=by rfl):gM r u h' n'
theorem gM.same{r:Result Next}{v:AV}{u:Value}(_:RH P sl θ h n w)(hr:r= .ok (.value u) w)(hv:aV θ v u):gM P sl θ h n w r v h n:=.WV hr hv
theorem gM.ok{r:Result Next}(H:RH P sl θ h n w)(k:gM P sl θ h n w r v h' n'):KG P sl θ h w r v h' n':=by
 cases k with
 |WV hr hv=>exact⟨θ,_,w,.inl hr,hv,H,Fr.refl _ _ _⟩
 |alloc e c hA hr hv ho=>
  obtain⟨rfl,rfl,rfl⟩:=Ae e;obtain⟨h1,h2⟩:=H.alloc c hA ho;exact⟨_,_,_,.inl hr,hv,h1,h2⟩
theorem Db{x:Operand}(ho:o.op= .move x\/o.op= .assign x)(e:(KY s L x).run f t l h n= .ok v h' n')(hT:RT s θ t ac.tmps)(hL:LR s θ L l ac.tmps)(H:RH P sl θ h n w):gM P sl θ h n w ((execOp ac.eval o).run P w) v h' n':=by
 obtain⟨h1,rfl,rfl⟩:=gT (show ok1 ((co s L x).run t l) h n= .ok v h' n' from e);refine .same H ?_ (bF h1 hT hL);rcases ho with ho|ho<;>simp only[execOp,ho]<;>rfl
theorem K_{c a b:Operand}(ho:o.op= .pick c a b)(e:(CX s L c a b).run f t l h n= .ok v h' n')(hT:RT s θ t ac.tmps)(hL:LR s θ L l ac.tmps)(H:RH P sl θ h n w):gM P sl θ h n w ((execOp ac.eval o).run P w) v h' n':=by
 simp only[CX]at e;split at e
 .rename_i h0
  have hc:ac.eval c= .bool true:=bF h0 hT hL;obtain⟨h1,rfl,rfl⟩:=gT e;exact .same H (by simp[execOp,ho,hc,asBool]) (bF h1 hT hL)
 .rename_i h0
  have hc:ac.eval c= .bool false:=bF h0 hT hL;obtain⟨h1,rfl,rfl⟩:=gT e;exact .same H (by simp[execOp,ho,hc,asBool]) (bF h1 hT hL)
 .cases e
theorem rQ{ty:TypeId}{a:AV}(e:zeroV P ty=some a):∃i z,P.info? ty=some i/\i.zero=some z/\aV θ a z:=by
 obtain⟨z,h1,h2⟩:=aB e;cases hi:P.info? ty with
 |none=>rw[hi]at h1;cases h1
 |some i=>rw[hi]at h1;exact⟨i,z,rfl,h1,mX h2⟩
theorem jP{ty:TypeId}{c:List AV}(e:kI P ty=some c):∃i z,P.info? ty=some i/\i.zero=some z/\eU θ c z.cells.toList/\∀x∈z.cells.toList,x.oneCell'=true:=by
 obtain⟨a,h1,h2⟩:=aB e;obtain⟨i,z,h3,h4,h5⟩:=rQ (θ:=θ) h1;obtain⟨h6,h7⟩:=Bg h2 h5;exact⟨i,z,h3,h4,h6,h7⟩
theorem rO.whole{ty:TypeId}{c:List AV}{cs:Array Value}{k:Nat}(hk:cs.size=k*P.cellsOf ty)(hv:eU θ c cs.toList)(h1:∀x∈cs.toList,x.oneCell'=true):rO P sl θ k (.row ty c) (.cells cs ty (0,0)):=
 ⟨cs,cs.toList,[],rfl,hk,by simp,hv,h1⟩
theorem Ag{ty:TypeId}(ho:o.op= .alloc ty)(e:(EJ P s L ty).run f t l h n= .ok v h' n'):gM P sl θ h n w ((execOp ac.eval o).run P w) v h' n':=by
 obtain⟨z,h1,h2⟩:=aS (show aJ (kI P ty) _= .ok v h' n' from e);obtain⟨h3,h4⟩:=iN h2;obtain⟨i,zv,hi,hz,hv,hone⟩:=jP (θ:=θ) h1;have hlen:zv.cells.size=P.cellsOf ty:=by
  have:=beq_eq h3;rw[eF]at this;have h5:=hv.length;rw[Array.length_toList]at h5;rw[h5];exact this
 refine .alloc h4 1 (rO.whole (by rw[hlen];omega) hv hone) (x:=.pointer (some ⟨w.heap.size,0,none⟩)) ?_ ⟨w.heap.size,1,Th.cZ _ _ _,rfl⟩;simp[execOp,ho,Instr.alloc,zeroValue,typeInfo,hi,hz,newVar,newRow]
theorem G9{ty:TypeId}{x:Operand}(ho:o.op= .box ty x)(e:(Tf P s L ty x).run f t l h n= .ok v h' n')(hT:RT s θ t ac.tmps)(hL:LR s θ L l ac.tmps):gM P sl θ h n w ((execOp ac.eval o).run P w) v h' n':=by
 obtain⟨a,h1,h2⟩:=aS (show aJ ((co s L x).run t l) _= .ok v h' n' from e);obtain⟨c,h3,h4⟩:=aS h2;obtain⟨h5,h6⟩:=iN h4;obtain⟨hv,hone⟩:=Bg h3 (bF h1 hT hL);have hlen:(ac.eval x).cells.size=P.cellsOf ty:=by
  have:=beq_eq h5;rw[eF]at this;have h7:=hv.length;rw[Array.length_toList]at h7;rw[h7];exact this
 refine .alloc h6 1 (rO.whole (by rw[hlen];omega) hv hone) (x:=.pointer (some ⟨w.heap.size,0,none⟩)) ?_ ⟨w.heap.size,1,Th.cZ _ _ _,rfl⟩;simp[execOp,ho,Instr.box,newVar,newRow]
theorem EO{x:Operand}{b k:Nat}(e:(co s L x).run t l=some (.p b k))(hT:RT s θ t ac.tmps)(hL:LR s θ L l ac.tmps):∃r c,θ b=some (r,c)/\ac.eval x= .pointer (some ⟨r,k,none⟩):=bF e hT hL
theorem Dc{ty:TypeId}{b k r c:Nat}(e:xO P ty h b k=some v)(hr:θ b=some (r,c))(H:RH P sl θ h n w):∃u,(loadVar ty ⟨r,k,none⟩).run P w= .ok u w/\aV θ v u:=by
 obtain⟨c0,h1,h2⟩:=aB e;obtain⟨r',c',cs,t0,fz,vs,e1,e2,e4,hone,e6⟩:=H.cut h1;rw[hr]at e1;cases e1;rcases K9 h2 e4 hone with⟨us,d,g1,g2,g3,g4,g5,_⟩|⟨u,d,g1,g2,g3,g4⟩
 .exact⟨_,run_loadVar_mid w r k ty us d (λj u hu=>by rw[iy e2];exact e6 _ _ (by have:=g5 j u hu;rwa [Nat.zero_add]at this)) g2 g3 g4,g1⟩
 .refine⟨u,?_,g1⟩
  have hc:w.cell? ⟨r,k,none⟩=some u:=by rw[iy e2];exact e6 _ _ g4
  have ha:(isAgg ty).run P w= .ok false w:=run_isAgg_plain g2 (by cases d<;>first|rfl|simp at g3) w;simp[loadVar,ha,load,Sem.run,hc]
theorem La{ty:TypeId}{x:Operand}(ho:o.op= .load ty x)(e:(CY P s L ty x).run f t l h n= .ok v h' n')(hT:RT s θ t ac.tmps)(hL:LR s θ L l ac.tmps)(H:RH P sl θ h n w):gM P sl θ h n w ((execOp ac.eval o).run P w) v h' n':=by
 simp only[CY]at e;split at e
 .rename_i b k h0
  obtain⟨r,c,hr,hp⟩:=EO h0 hT hL;obtain⟨h1,rfl,rfl⟩:=gT e;obtain⟨u,h2,h3⟩:=Dc h1 hr H;exact .same H (by simp[execOp,ho,hp,Instr.loadAt,Instr.sureAddr,h2]) h3
 .cases e
theorem kZ{b:Nat}{ty:TypeId}:∀(us:List Value)(o:Nat)(w:World)(cs:Array Value),w.heap[b]?=some (.cells cs ty (0,0))->o+us.length<=cs.size->
 ∃cs':Array Value,cs'.toList=cs.toList.take o++(us++cs.toList.drop (o+us.length))/\(∀k,(w.setCells b o us).heap[k]?=if k=b then some (.cells cs' ty (0,0))else w.heap[k]?)/\
  (w.setCells b o us).heap.size=w.heap.size/\(w.setCells b o us).os=w.os/\(w.setCells b o us).tape=w.tape/\(w.setCells b o us).output=w.output
 |[],o,w,cs,h,_=>⟨cs,by simp,λk=>by show w.heap[k]?=_;split<;>simp_all,rfl,rfl,rfl,rfl⟩
 |u::us,o,w,cs,h,hle=>by
  have hb:(w.setCell ⟨b,o,none⟩ u).heap[b]?=some (.cells (cs.setIfInBounds o u) ty (0,0)):=by
   show(w.heap.modify b _)[b]?=_;rw[Array.getElem?_modify,if_pos rfl,h];rfl
  have ho:o<cs.size:=by simp at hle;omega
  obtain⟨cs',h1,h2,h3,h4,h5,h6⟩:=kZ us (o+1) (w.setCell ⟨b,o,none⟩ u) (cs.setIfInBounds o u) hb (by simp at hle⊢;omega);refine⟨cs',?_,λk=>?_,?_,h4,h5,h6⟩
  .rw[h1,Array.toList_setIfInBounds]
   have ho':o<cs.toList.length:=by simpa using ho
   have e1:(cs.toList.set o u).take (o+1)=cs.toList.take o++[u]:=by
    have hlen:(cs.toList.take o).length=o:=by rw[List.length_take];omega
    rw[List.take_set,List.take_succ_eq_append_getElem ho',List.set_append_right _ _ (by omega),hlen,Nat.sub_self];rfl
   have e2:(cs.toList.set o u).drop (o+1+us.length)=cs.toList.drop (o+(us.length+1)):=by
    rw[List.drop_set_of_lt (by omega),show o+1+us.length=o+(us.length+1) by omega]
   rw[e1,e2];simp
  .rw[show w.setCells b o (u::us)=(w.setCell ⟨b,o,none⟩ u).setCells b (o+1) us from rfl,h2]
   split
   .rfl
   .rename_i hk
    exact Go.RowKit.Below.heap_setCell w ⟨b,o,none⟩ u k hk
  .rw[show w.setCells b o (u::us)=(w.setCell ⟨b,o,none⟩ u).setCells b (o+1) us from rfl,h3];simp[World.setCell]
end
end
section
section
variable {P:Program} {sl:FuncId->Sl} {θ:Th} {h h':AH} {n n':Nat} {w:World} {s:Sl} {L:List Tmp} {t:Tr AV} {l:List AV} {ac:Act} {o:Oper} {f:FT} {v:AV}
theorem RH.write(H:RH P sl θ h n w){x r c:Nat}{ty:TypeId}{l m u:List AV}{us:List Value}{k:Nat}(e:h.get x=some (.row ty l))(hr:θ x=some (r,c))(hm:uT u k l=some m)(hu:eU θ u us)(h1:∀y∈us,y.oneCell'=true):
 (storeCells ⟨r,k,none⟩ us).run P w= .ok () (w.setCells r k us)/\RH P sl θ (h.set x (.row ty m)) n (w.setCells r k us)/\Fr θ h w θ (h.set x (.row ty m)) (w.setCells r k us):=by
 obtain⟨r',c',cs,vs,e1,e2,e3,e4,e5,e6,e7,rest,e8⟩:=H.row e;rw[hr]at e1;cases e1;obtain⟨g1,rfl⟩:=lT hm;have Bh:=hu.length;have hcs:cs.size=vs.length+rest.length:=by rw[<-Array.length_toList,e8,List.length_append]
 have hle:k+us.length<=cs.size:=by omega
 obtain⟨cs',f1,f2,f3,f4,f5,f6⟩:=kZ us k w cs e2 hle;have hrun:=run_storeCells_cells (P:=P) r k us 0 w (λj hj=>by rw[iy e2,Array.getElem?_eq_getElem (by omega)];rfl) (λj hj=>jO e2 _) h1;refine⟨by simpa using hrun,?_⟩;have hsz:cs'.size=cs.size:=by
  rw[<-Array.length_toList,f1,List.length_append,List.length_append,List.length_take,List.length_drop,Array.length_toList];omega
 have h2:eU θ (l.take k++(u++l.drop (k+u.length))) (vs.take k++(us++vs.drop (k+us.length))):=by
  rw[Bh];exact(e4.take k).append (hu.append (e4.drop _))
 refine H.turn e hr (o':=.row ty (l.take k++(u++l.drop (k+u.length)))) (zP:=.cells cs' ty (0,0)) ⟨cs',_,rest,rfl,by rw[hsz];exact e3,?_,h2,?_⟩ f4 f5 f6 f3 f2 (λ_ _ ⟨_,_,_,q,_⟩=>by cases q)
 .rw[f1,e8,List.take_append_of_le_length (by omega),List.drop_append_of_le_length (by omega)];simp
 .intro y hy
  rw[f1]at hy;rcases List.mem_append.1 hy with hy|hy
  .exact e5 y (List.mem_of_mem_take hy)
  .rcases List.mem_append.1 hy with hy|hy
   .exact h1 y hy
   .exact e5 y (List.mem_of_mem_drop hy)
theorem IY{ty:TypeId}{a x:Operand}(ho:o.op= .store ty a x)(e:(EK P s L ty a x).run f t l h n= .ok v h' n')(hT:RT s θ t ac.tmps)(hL:LR s θ L l ac.tmps)(H:RH P sl θ h n w):KG P sl θ h w ((execOp ac.eval o).run P w) v h' n':=by
 obtain⟨av,h1,h2⟩:=aS (show aJ ((co s L a).run t l) _= .ok v h' n' from e);obtain⟨xv,h3,h4⟩:=aS h2;obtain⟨sz,h5,h6⟩:=aS h4;obtain⟨i,hi,hsz⟩:=iL h5;unfold xR at h6;split at h6
 case h_2=>cases h6
 rename_i b k;obtain⟨r,c,hr,hp⟩:=EO h1 hT hL;split at h6
 case h_2=>cases h6
 rename_i t0 l0 hg;obtain⟨u,h7,h8⟩:=aS h6;obtain⟨h9,h10⟩:=iN h8;obtain⟨m,h11,h12⟩:=aS h10;cases h12
 obtain⟨hv,hone⟩:=Bg h7 (bF h3 hT hL);obtain⟨g1,g2,g3⟩:=H.write hg hr h11 hv hone;have hlen:(ac.eval x).cells.size=i.size:=by
  have:=beq_eq h9;rw[eF]at this;have WW:=hv.length;rw[Array.length_toList]at WW;omega
 refine⟨θ,undef,_,.inr ⟨?_,rfl⟩,⟨[],rfl,rfl⟩,g2,g3⟩;simp[execOp,ho,hp,Instr.storeAt,Instr.sureAddr,storeVar,sizeOf,typeInfo,hi,hlen,g1]
theorem Bj{x:Operand}(ho:o.op= .nilCheck x)(e:(qb s L x).run f t l h n= .ok v h' n')(hT:RT s θ t ac.tmps)(hL:LR s θ L l ac.tmps)(H:RH P sl θ h n w):gM P sl θ h n w ((execOp ac.eval o).run P w) v h' n':=by
 obtain⟨a,h1,h2⟩:=aS (show aJ ((co s L x).run t l) _= .ok v h' n' from e);have hv:=bF h1 hT hL;split at h2
 .cases h2;refine .same H ?_ hv
  obtain⟨r,c,hr,hp⟩:=id hv;simp[execOp,ho,hp]
 .cases h2;refine .same H ?_ hv
  obtain⟨vs,_,hp⟩:=id hv;simp[execOp,ho,hp]
 .cases h2;refine .same H ?_ hv
  obtain⟨r,c,hr,hp⟩:=id hv;simp[execOp,ho,hp]
 .cases h2
theorem OV{ty:TypeId}{x:Operand}(ho:o.op= .unOp .not ty x)(e:(OM s L x).run f t l h n= .ok v h' n')(hT:RT s θ t ac.tmps)(hL:LR s θ L l ac.tmps)(H:RH P sl θ h n w):gM P sl θ h n w ((execOp ac.eval o).run P w) v h' n':=by
 obtain⟨a,h1,h2⟩:=aS (show aJ ((co s L x).run t l) _= .ok v h' n' from e);have hv:=bF h1 hT hL;split at h2
 .cases h2
  have hp:ac.eval x= .bool _:=hv;refine .same H ?_ rfl;simp[execOp,ho,hp,Op.unary,ji]
 .cases h2
theorem OW{ty:TypeId}{x:Operand}(ho:o.op= .unOp .neg ty x)(e:(OO s L x).run f t l h n= .ok v h' n')(hT:RT s θ t ac.tmps)(hL:LR s θ L l ac.tmps)(H:RH P sl θ h n w):gM P sl θ h n w ((execOp ac.eval o).run P w) v h' n':=by
 obtain⟨a,h1,h2⟩:=aS (show aJ ((co s L x).run t l) _= .ok v h' n' from e);have hv:=bF h1 hT hL;split at h2
 .cases h2
  have hp:ac.eval x= .int _ _:=hv;refine .same H ?_ rfl;simp only[execOp,ho,hp,Op.unary,Op.intArith,uY];rfl
 .cases h2
theorem tu{ty:TypeId}{x:Operand}(ho:o.op= .makeInterface ty x)(e:(iJ P s L ty x).run f t l h n= .ok v h' n')(hT:RT s θ t ac.tmps)(hL:LR s θ L l ac.tmps)(H:RH P sl θ h n w):gM P sl θ h n w ((execOp ac.eval o).run P w) v h' n':=by
 obtain⟨a,h1,h2⟩:=aS (show aJ ((co s L x).run t l) _= .ok v h' n' from e);have hv:=bF h1 hT hL;split at h2
 .cases h2
 .rename_i d hn hd
  cases h2
  refine .same H ?_ ⟨_,hv,rfl⟩;simp only[execOp,ho,Instr.makeInterface,Sem.run_bind,run_underlying hd,Result.andThen_ok];cases d<;>first|rfl|exact absurd rfl (hn _)
 .cases h2
theorem Bl{g:FuncId}{cs:List Operand}{ca:Array Operand}(ho:o.op= .makeFunc (.func g) ⟨[]⟩ ca)(hc:ca.toList=cs)(e:(qd s L g cs).run f t l h n= .ok v h' n')(hT:RT s θ t ac.tmps)(hL:LR s θ L l ac.tmps)(H:RH P sl θ h n w):gM P sl θ h n w ((execOp ac.eval o).run P w) v h' n':=by
 obtain⟨a,h1,h2⟩:=aS (show aJ ((col s L cs).run t l) _= .ok v h' n' from e);cases h2
 refine .same H ?_ ⟨_,Bf hT hL h1,rfl⟩;subst hc;simp only[execOp,ho,Instr.makeFunc];rw[show(List.map ac.eval ca.toList).toArray=ca.map ac.eval from Array.toList_inj.1 (by simp)];simp
theorem rO.WX(P:Program)(sl:FuncId->Sl)(θ:Th):rO P sl θ 0 (.mp [] 0) (.map #[] 0):=⟨#[],rfl,rfl⟩
theorem wC{ty:TypeId}(ho:o.op= .makeMap ty none)(e:(CZ s L).run f t l h n= .ok v h' n'):gM P sl θ h n w ((execOp ac.eval o).run P w) v h' n':=by
 refine .alloc e 0 (rO.WX P sl θ) (x:=.map (some w.heap.size)) ?_ ⟨w.heap.size,0,Th.cZ _ _ _,rfl⟩;simp[execOp,ho,Instr.makeMap]
theorem tC{ty:TypeId}{k:IntKind}{i:Int}(ho:o.op= .makeMap ty (some (.const (.int k i))))(e:(qg P s L ty).run f t l h n= .ok v h' n'):gM P sl θ h n w ((execOp ac.eval o).run P w) v h' n':=by
 simp only[qg]at e;split at e
 .rename_i a b hd
  refine .alloc e 0 (rO.WX P sl θ) (x:=.map (some w.heap.size)) ?_ ⟨w.heap.size,0,Th.cZ _ _ _,rfl⟩;simp[execOp,ho,Instr.makeMap,run_underlying hd,Act.eval,asInt,asIntOf]
 .cases e
theorem Df{ty:TypeId}{k:Nat}{d:Field}(e:VZ P ty k=some d):∃fs,P.underlying ty=some (.struct fs)/\fs[k]?=some d:=by
 unfold VZ at e;split at e
 .exact⟨_,‹_›,e⟩
 .cases e
theorem zQ{ty:TypeId}{x:Operand}{k:Nat}(ho:o.op= .fieldAddr ty x k)(e:(jJ P s L ty x k).run f t l h n= .ok v h' n')(hT:RT s θ t ac.tmps)(hL:LR s θ L l ac.tmps)(H:RH P sl θ h n w):gM P sl θ h n w ((execOp ac.eval o).run P w) v h' n':=by
 unfold jJ at e;split at e
 .cases e
 rename_i d hd;split at e
 .cases e
 rename_i sz hsz;obtain⟨i,hi,rfl⟩:=iL hsz;obtain⟨fs,hu,hf⟩:=Df hd;cases hz:Nat.beq i.size 0 with
 |true=>rw[hz]at e;cases e
 |false=>
  rw[hz,fU]at e;have hz':¬i.size=0:=λe0=>by rw[e0]at hz;cases hz
  simp only at e;split at e
  .rename_i b m h0
   obtain⟨r,c,hr,hp⟩:=EO h0 hT hL;cases e
   refine .same H ?_ ⟨r,c,hr,rfl⟩;simp[execOp,ho,hp,Instr.fieldAt,Instr.sureAddr,run_underlying hu,hf,fieldPlace,sizeOf,typeInfo,hi,hz',Addr.add_mid]
  .cases e
theorem tF{ty:TypeId}{c:List AV}{vs:List Value}{k:Nat}(e:(KF P ty).run c k=some v)(hv:eU θ c vs)(h1:∀x∈vs,x.oneCell'=true):∃u,(part ty vs.toArray k).run P w= .ok u w/\aV θ v u:=by
 rcases K9 e hv h1 with⟨us,d,g1,g2,g3,g4,g5,g6⟩|⟨u,d,g1,g2,g3,g4⟩
 .refine⟨_,?_,g1⟩
  have ha:(isAgg ty).run P w= .ok true w:=by
   unfold isAgg;rw[Sem.run_bind,run_underlying g2 w];cases d<;>first|rfl|(simp at g3;done)
  cases hi:P.info? ty with
  |none=>rw[hi]at g4;cases g4
  |some i=>
   rw[hi]at g4;have hs:i.size=us.length:=by simpa using g4
   simp only[part,ha,Sem.run_bind,Result.andThen_ok,if_true,sizeOf,typeInfo,run_program,hi,Sem.run_pure,hs];congr 2;apply Array.toList_inj.1;rw[Array.toList_extract,List.extract_eq_take_drop,Nat.add_sub_cancel_left];exact g6.symm
 .refine⟨u,?_,g1⟩
  have ha:(isAgg ty).run P w= .ok false w:=run_isAgg_plain g2 (by cases d<;>first|rfl|simp at g3) w;simp[part,ha,g4]
theorem IZ{ty:TypeId}{x:Operand}{k:Nat}(ho:o.op= .field ty x k)(e:(xV P s L ty x k).run f t l h n= .ok v h' n')(hT:RT s θ t ac.tmps)(hL:LR s θ L l ac.tmps)(H:RH P sl θ h n w):gM P sl θ h n w ((execOp ac.eval o).run P w) v h' n':=by
 unfold xV at e;split at e
 .cases e
 rename_i d hd;obtain⟨fs,hu,hf⟩:=Df hd;simp only at e;split at e
 .rename_i c h0
  obtain⟨vs,hv,hone,hp⟩:=bF h0 hT hL;obtain⟨h1,rfl,rfl⟩:=gT e;obtain⟨u,h2,h3⟩:=tF (w:=w) h1 hv hone;refine .same H ?_ h3;simp[execOp,ho,hp,Instr.field,run_underlying hu,hf,asAgg,h2]
 .cases e
theorem Dh{x:Operand}{k:Nat}(ho:o.op= .extract x k)(e:(oJ s L x k).run f t l h n= .ok v h' n')(hT:RT s θ t ac.tmps)(hL:LR s θ L l ac.tmps)(H:RH P sl θ h n w):gM P sl θ h n w ((execOp ac.eval o).run P w) v h' n':=by
 simp only[oJ]at e;split at e
 .rename_i c h0
  obtain⟨vs,hv,hp⟩:=bF h0 hT hL;obtain⟨h1,rfl,rfl⟩:=gT e;rw[mW]at h1;obtain⟨u,h2,h3⟩:=hv.get k h1;refine .same H ?_ h3;simp[execOp,ho,hp,Instr.extract,h2]
 .cases e
theorem zR{ty:TypeId}{x ix:Operand}(ho:o.op= .indexAddr ty x ix)(e:(jK P s L ty x ix).run f t l h n= .ok v h' n')(hT:RT s θ t ac.tmps)(hL:LR s θ L l ac.tmps)(H:RH P sl θ h n w):gM P sl θ h n w ((execOp ac.eval o).run P w) v h' n':=by
 unfold jK at e;split at e
 .rename_i el hu
  split at e
  .cases e
  rename_i sz hsz;obtain⟨i,hi,rfl⟩:=iL hsz;simp only at e;split at e
  .rename_i b l0 o0 m c0 k0 k h0 h1
   obtain⟨r,c,hr,_,hp⟩:=bF h0 hT hL;have hk:ac.eval ix= .int k0 k:=bF h1 hT hL;obtain⟨h2,rfl,rfl⟩:=gT e;obtain⟨j,rfl,hj,h3⟩:=sZ h2;cases h3
   refine .same H ?_ ⟨r,c,hr,rfl⟩;simp[execOp,ho,hp,hk,Instr.indexAt,asIntOf,run_underlying hu,hj,sizeOf,typeInfo,hi,Addr.add_mid]
  .cases e
 .rename_i m el hu
  split at e
  .cases e
  rename_i sz hsz;obtain⟨i,hi,rfl⟩:=iL hsz;simp only at e;split at e
  .rename_i b o0 k0 k h0 h1
   obtain⟨r,c,hr,hp⟩:=bF h0 hT hL;have hk:ac.eval ix= .int k0 k:=bF h1 hT hL;obtain⟨h2,rfl,rfl⟩:=gT e;obtain⟨j,rfl,hj,h3⟩:=sZ h2;cases h3
   refine .same H ?_ ⟨r,c,hr,rfl⟩;simp[execOp,ho,hp,hk,Instr.indexAt,Instr.sureAddr,asIntOf,run_underlying hu,hj,sizeOf,typeInfo,hi,Addr.add_mid]
  .cases e
 .cases e
end
end
section
section
variable {P:Program} {sl:FuncId->Sl} {θ:Th} {h h':AH} {n n':Nat} {w:World} {s:Sl} {L:List Tmp} {t:Tr AV} {l:List AV} {ac:Act} {o:Oper} {f:FT} {v:AV}
theorem Bo{j k:IntKind}(h:wT j k=true):j=k:=of_decide_eq_true h
theorem Bp{D:Nat}{q:TypeId->KW}(hq:∀ty x y e U V,(q ty).run x y=some e->aV θ x U->aV θ y V->(Op.equalIn D ty U V).run P w= .ok e w)
 {a b:List AV}{xs ys:List Value}(ha:eU θ a xs)(hb:eU θ b ys)(h1:∀x∈xs,x.oneCell'=true)(h2:∀x∈ys,x.oneCell'=true):∀(fs:List Field)(r:Bool),(EB P q fs).run (.agg a) (.agg b)=some r->
 (forIn fs ((none,()):Option Bool×Unit) λf _=>(if f.name≠ "_" then do
  let u <-part f.type xs.toArray f.offset;let v <-part f.type ys.toArray f.offset;let e <-Op.equalIn D f.type u v;if(!e)=true then pure (ForInStep.done (some false,()))else pure (ForInStep.yield (none,()))
  else pure (ForInStep.yield (none,())):Sem (ForInStep (Option Bool×Unit)))).run P w= .ok (bc r none (some false),()) w
 |[],r,e=>by cases e;rfl
 |d::fs,r,e=>by
  rw[List.forIn_cons,Sem.run_bind];cases hn:(d.name== "_")with
  |true=>
   have hn':d.name= "_":=by simpa using hn
   have e':(EB P q fs).run (.agg a) (.agg b)=some r:=by
    have:(bc (d.name== "_") (EB P q fs) _:KW).run (.agg a) (.agg b)=some r:=e
    rwa [hn,bD]at this
   rw[if_neg (by simp[hn'])];exact Bp hq ha hb h1 h2 fs r e'
  |false=>
   have hn':d.name≠ "_":=by simpa using hn
   have e0:(bc (d.name== "_") (EB P q fs) _:KW).run (.agg a) (.agg b)=some r:=e;rw[hn,fU]at e0;obtain⟨u,g1,g2⟩:=aB e0;obtain⟨v,g3,g4⟩:=aB g2;obtain⟨b0,g5,g6⟩:=aB g4;obtain⟨U,k1,k2⟩:=tF (P:=P) (w:=w) g1 ha h1;obtain⟨V,k3,k4⟩:=tF (P:=P) (w:=w) g3 hb h2;have k5:=hq _ _ _ _ _ _ g5 k2 k4;rw[if_pos hn',Sem.run_bind,k1,Result.andThen_ok,Sem.run_bind,k3,Result.andThen_ok,Sem.run_bind,k5,Result.andThen_ok];cases b0 with
   |false=>cases g6;rfl
   |true=>exact Bp hq ha hb h1 h2 fs r g6
theorem Bq(w:World):∀(d:Nat)(ty:TypeId)(x y:AV)(e:Bool)(U V:Value),(qQ P d ty).run x y=some e->aV θ x U->aV θ y V->∀D,d<=D->(Op.equalIn D ty U V).run P w= .ok e w
 |0,_,_,_,_,_,_,h,_,_,_,_=>by cases h
 |d+1,ty,x,y,e,U,V,h,hx,hy,0,hD=>by omega
 |d+1,ty,x,y,e,U,V,h,hx,hy,D+1,hD=>by
  cases hu:P.underlying ty with
  |none=>
   have hud:und P ty= .invalid:=by unfold und;rw[hu];rfl
   unfold qQ at h;rw[hud]at h;cases h
  |some dd=>
   have hud:=K8 hu;unfold qQ at h;rw[hud]at h;cases dd<;>try(cases h;done)
   case bool=>
    cases x<;>cases y<;>try(cases h;done)
    cases hx;cases hy
    rename_i p q;simp only[Op.equalIn,Sem.run_bind,run_underlying hu,Result.andThen_ok];cases p<;>cases q<;>cases h<;>rfl
   case int k=>
    cases x<;>cases y<;>try(cases h;done)
    cases hx;cases hy
    obtain⟨h1,h2⟩:=bI h;cases Bo h1;cases h2
    simp only[Op.equalIn,Sem.run_bind,run_underlying hu,Result.andThen_ok,if_true,cK];rfl
   case string=>
    cases x<;>cases y<;>try(cases h;done)
    cases hx;cases hy;cases h
    rename_i p q;simp only[Op.equalIn,Sem.run_bind,run_underlying hu,Result.andThen_ok,iV];rw[show((⟨p.toArray⟩:ByteArray)==⟨q.toArray⟩)=(p==q)from by show(p.toArray==q.toArray)=_;simp];rfl
   case pointer el=>
    simp only at h;split at h<;>cases h
    .cases hx;cases hy
     simp only[Op.equalIn,Sem.run_bind,run_underlying hu,Result.andThen_ok,kv];rfl
    .cases hx;obtain⟨r,c,_,rfl⟩:=hy
     simp only[Op.equalIn,Sem.run_bind,run_underlying hu,Result.andThen_ok,kv];rfl
    .cases hy;obtain⟨r,c,_,rfl⟩:=hx
     simp only[Op.equalIn,Sem.run_bind,run_underlying hu,Result.andThen_ok,kv];rfl
   case slice el=>
    simp only at h;split at h<;>cases h
    .cases hx;cases hy
     simp only[Op.equalIn,Sem.run_bind,run_underlying hu,Result.andThen_ok,kv];rfl
    .cases hx;obtain⟨r,c,_,_,rfl⟩:=hy
     simp only[Op.equalIn,Sem.run_bind,run_underlying hu,Result.andThen_ok,kv];rfl
    .cases hy;obtain⟨r,c,_,_,rfl⟩:=hx
     simp only[Op.equalIn,Sem.run_bind,run_underlying hu,Result.andThen_ok,kv];rfl
    .cases hx;obtain⟨_,_,rfl⟩:=hy
     simp only[Op.equalIn,Sem.run_bind,run_underlying hu,Result.andThen_ok,kv];rfl
    .cases hy;obtain⟨_,_,rfl⟩:=hx
     simp only[Op.equalIn,Sem.run_bind,run_underlying hu,Result.andThen_ok,kv];rfl
   case map k el=>
    simp only at h;split at h<;>cases h
    .cases hx;cases hy
     simp only[Op.equalIn,Sem.run_bind,run_underlying hu,Result.andThen_ok,kv];rfl
    .cases hx;obtain⟨r,c,_,rfl⟩:=hy
     simp only[Op.equalIn,Sem.run_bind,run_underlying hu,Result.andThen_ok,kv];rfl
    .cases hy;obtain⟨r,c,_,rfl⟩:=hx
     simp only[Op.equalIn,Sem.run_bind,run_underlying hu,Result.andThen_ok,kv];rfl
   case func a b c=>
    simp only at h;split at h<;>cases h
    .cases hx;cases hy
     simp only[Op.equalIn,Sem.run_bind,run_underlying hu,Result.andThen_ok,kv];rfl
    .cases hx;obtain⟨r,_,rfl⟩:=hy
     simp only[Op.equalIn,Sem.run_bind,run_underlying hu,Result.andThen_ok,kv];rfl
    .cases hy;obtain⟨r,_,rfl⟩:=hx
     simp only[Op.equalIn,Sem.run_bind,run_underlying hu,Result.andThen_ok,kv];rfl
   case interface ms=>
    simp only at h;split at h<;>cases h
    .cases hx;obtain⟨r,_,rfl⟩:=hy
     simp only[Op.equalIn,Sem.run_bind,run_underlying hu,Result.andThen_ok,kv];rfl
    .cases hy;obtain⟨r,_,rfl⟩:=hx
     simp only[Op.equalIn,Sem.run_bind,run_underlying hu,Result.andThen_ok,kv];rfl
   case struct fs=>
    cases hs:P.stoodInHeld ty with
    |true=>rw[hs]at h;cases h
    |false=>
     rw[hs]at h;simp only[fU]at h;split at h
     .obtain⟨xs,h1,h2,rfl⟩:=hx
      obtain⟨ys,h3,h4,rfl⟩:=hy;have k:=Bp (P:=P) (w:=w) (D:=D) (λty x y e U V g1 g2 g3=>Bq w d ty x y e U V g1 g2 g3 D (by omega)) h1 h3 h2 h4 fs.toList e h;simp only[Op.equalIn,Sem.run_bind,run_underlying hu,Result.andThen_ok,run_program,hs,Bool.false_eq_true,if_false];rw[<-Array.forIn_toList,k];cases e<;>rfl
     .cases h
end
end
section
section
variable {P:Program} {sl:FuncId->Sl} {θ:Th} {h h':AH} {n n':Nat} {w:World} {s:Sl} {L:List Tmp} {t:Tr AV} {l:List AV} {ac:Act} {o:Oper} {f:FT} {v:AV}
theorem I4{g:IntKind->Int->Int->Option AV}{q:AV->AV->Option AV}{x y:AV}(e:sS g q x y=some v):(∃j a b,x= .i j a/\y= .i j b/\g j a b=some v)\/((∀j a k b,¬(x= .i j a/\y= .i k b))/\q x y=some v):=by
 unfold sS at e;split at e
 .obtain⟨h1,h2⟩:=bI e
  cases Bo h1
  exact .inl ⟨_,_,_,rfl,rfl,h2⟩
 .rename_i hn
  exact .inr ⟨λj a k b ⟨h1,h2⟩=>hn j a k b h1 h2,e⟩
theorem OX{α:Type}[DecidableEq α](a b:α):(a==b)=decide (a=b):=rfl
theorem Rs(a b:Int):p9 (kY b a)=decide (a<b):=by
 rw[ji,eP,Bool.eq_iff_iff];simp
theorem WY(a b:Int):p9 (fM a b)=(a !=b):=by
 rw[ji,cK,Bool.eq_iff_iff];simp
theorem OY(a b:Int):Int.sub a b=a - b:=rfl
def xY:Value->Bool
 | .float _ _| .complex _ _ _=>false
 |_=>true
theorem tH(c:Nat):kv c= .pointer none\/kv c= .slice none 0 0\/kv c= .map none\/kv c= .nilFunc\/kv c= .nilIface:=by
 unfold kv;split<;>simp
theorem aV.plain{x:AV}{U:Value}(hx:aV θ x U):xY U=true:=by
 cases x with
 |p x o=>obtain⟨r,c,_,rfl⟩:=hx;rfl
 |sl x a b c d=>obtain⟨r,c,_,_,rfl⟩:=hx;rfl
 |m x=>obtain⟨r,c,_,rfl⟩:=hx;rfl
 |f g c=>obtain⟨r,_,rfl⟩:=hx;rfl
 |y x=>obtain⟨r,c,_,rfl⟩:=hx;rfl
 |zH t x=>obtain⟨r,_,rfl⟩:=hx;rfl
 |agg l=>obtain⟨r,_,_,rfl⟩:=hx;rfl
 |bQ l=>obtain⟨r,_,rfl⟩:=hx;rfl
 |es a c=>obtain⟨_,_,rfl⟩:=hx;rfl
 |k c=>cases hx;rcases tH c with e|e|e|e|e<;>rw[e]<;>rfl
 |_=>cases hx;rfl
theorem binOp_eql(ty:TypeId){U V:Value}{r:Bool}(h1:∀j a k b,¬(U= .int j a/\V= .int k b))(h2:∀a b,¬(U= .string a/\V= .string b))(h3:xY U=true)(h4:xY V=true)
 (hr:(Op.equal ty U V).run P w= .ok r w):(binOp .eql ty U V).run P w= .ok (.bool r) w/\(binOp .neq ty U V).run P w= .ok (.bool (!r)) w:=by
 cases U<;>cases V<;>first
  |exact absurd ⟨rfl,rfl⟩ (h1 _ _ _ _)
  |exact absurd ⟨rfl,rfl⟩ (h2 _ _)
  |(simp[xY]at h3;done)
  |(simp[xY]at h4;done)
  |exact⟨by simp only[binOp,Sem.run_bind,hr,Result.andThen_ok];rfl,by simp only[binOp,Sem.run_bind,hr,Result.andThen_ok];rfl⟩
theorem WZ(d:Nat)(ty:TypeId)(a b:Nat){r:Bool}(e:(qQ P d ty).run (.k a) (.k b)=some r):a<4:=by
 cases d with
 |zero=>cases e
 |succ d=>
  unfold qQ at e;split at e;all_goals(try(cases e;done))
  all_goals(try(cases hs:P.stoodInHeld ty<;>(rw[hs]at e;exact absurd e (λh=>by cases h))))
  all_goals first|(simp only at e;cases e;done)|(simp only at e;split at e<;>first|(cases e;done)|simp_all)
theorem EP{q:BinOp}{ty:TypeId}{xo yo:Operand}{U V:Value}(hq:q= .eql\/q= .neq)(h5:¬(U= .nilIface/\V= .nilIface))(hg:P.eqGuardType P.depth ty=false):(eqGuard q ty xo yo U V).run P w= .ok () w:=by
 rcases hq with rfl|rfl<;>cases U<;>cases V<;>first
  |exact absurd ⟨rfl,rfl⟩ h5
  |rfl
  |simp[eqGuard,hg]
theorem Lb{ty:TypeId}{neg:Bool}{x y:AV}{U V:Value}{xo yo:Operand}{op:BinOp}(hop:op=if neg then .neq else .eql)(e:(eqO P ty neg).run x y=some v)(hx:aV θ x U)(hy:aV θ y V)(hni:∀j a k b,¬(x= .i j a/\y= .i k b)):
 ∃u,((do eqGuard op ty xo yo U V;binOp op ty U V:Sem Value)).run P w= .ok u w/\aV θ v u:=by
 simp only[eqO]at e;split at e
 .cases e;cases hx;cases hy
  refine⟨_,?_,rfl⟩;cases neg<;>subst hop<;>simp[eqGuard,binOp,Op.stringOp,ByteArray.toList_eq,iV,bc,ji]
 .rename_i hns
  cases hg:P.eqGuardType P.depth ty with
  |true=>rw[hg]at e;cases e
  |false=>
   rw[hg,fU]at e;obtain⟨r,h1,h2⟩:=aB e;cases h2
   have k:=Bq (P:=P) w 30 ty x y r U V h1 hx hy Op.maxDepth (by decide);have inv:∀{z:AV}{Z:Value},aV θ z Z->(∀j a,Z= .int j a->z= .i j a)/\(∀b,Z= .string b->∃l,z= .s l)/\(Z= .nilIface->∃c,z= .k c/\4<=c):=by
    intro z Z hz;cases z with
    |b x=>cases hz;simp
    |i j a=>cases hz;simp
    |s l=>cases hz;simp
    |p x o=>obtain⟨r,c,_,rfl⟩:=hz;simp
    |sl x a b c d=>obtain⟨r,c,_,_,rfl⟩:=hz;simp
    |m x=>obtain⟨r,c,_,rfl⟩:=hz;simp
    |f g c=>obtain⟨r,_,rfl⟩:=hz;simp
    |y x=>obtain⟨r,c,_,rfl⟩:=hz;simp
    |zH t x=>obtain⟨r,_,rfl⟩:=hz;simp
    |agg l=>obtain⟨r,_,_,rfl⟩:=hz;simp
    |bQ l=>obtain⟨r,_,rfl⟩:=hz;simp
    |es a c=>obtain⟨_,_,rfl⟩:=hz;simp
    |k c=>
     cases hz
     refine⟨λj a e=>?_,λb e=>?_,λe=>⟨c,rfl,?_⟩⟩
     .rcases tH c with e'|e'|e'|e'|e'<;>rw[e']at e<;>cases e
     .rcases tH c with e'|e'|e'|e'|e'<;>rw[e']at e<;>cases e
     .match c,e with
      |0,e=>cases e
      |1,e=>cases e
      |2,e=>cases e
      |3,e=>cases e
      |c+4,_=>omega
   obtain⟨x1,x2,x3⟩:=inv hx;obtain⟨y1,y2,y3⟩:=inv hy;obtain⟨b1,b2⟩:=binOp_eql (P:=P) (w:=w) ty (U:=U) (V:=V) (r:=r) (λj a k b ⟨e1,e2⟩=>hni j a k b ⟨x1 j a e1,y1 k b e2⟩)
    (λa b ⟨e1,e2⟩=>by obtain⟨p,hp⟩:=x2 a e1;obtain⟨q,hq⟩:=y2 b e2;exact hns p q hp hq) hx.plain hy.plain k
   have hgd:(eqGuard op ty xo yo U V).run P w= .ok () w:=by
    refine EP (by subst hop;cases neg<;>simp) ?_ hg;rintro⟨e1,e2⟩;obtain⟨c,rfl,hc⟩:=x3 e1;obtain⟨d,rfl,_⟩:=y3 e2;have:=WZ _ _ _ _ h1;omega
   refine⟨_,?_,rfl⟩;rw[Sem.run_bind,hgd,Result.andThen_ok];subst hop;cases neg
   .exact b1
   .rw[bD,ji];exact b2
theorem OZ{ty:TypeId}{op:BinOp}{x y:AV}{U V:Value}{xo yo:Operand}(e:(dY P ty op).run x y=some v)(hx:aV θ x U)(hy:aV θ y V):
 ∃u,((do eqGuard op ty xo yo U V;binOp op ty U V:Sem Value)).run P w= .ok u w/\aV θ v u:=by
 cases op<;>simp only[dY]at e<;>(try(cases e;done))<;>rcases I4 e with⟨j,a,b,rfl,rfl,h1⟩|⟨hni,h1⟩<;>(try(cases h1;done))
 case add.inr=>
  split at h1
  .obtain⟨h2,h3⟩:=bI h1
   cases h3;cases hx;cases hy
   refine⟨_,?_,rfl⟩;rename_i p q;have h4:p.length+q.length<=1048576:=by
    have:=Nat.le_of_ble_eq_true h2;rw[eF,eF]at this;exact this
   have h5:¬(((p.length+q.length:Nat):Int) > IntKind.i64.max):=by
    rw[show IntKind.i64.max=9223372036854775807 from by decide];omega
   rw[iK];simp only[eqGuard,binOp,Op.stringOp];have h6:(⟨p.toArray⟩:ByteArray)++⟨q.toArray⟩=⟨(p++q).toArray⟩:=by
    apply ByteArray.ext;rw[ByteArray.data_append];simp
   have h7:(⟨p.toArray⟩:ByteArray).size+(⟨q.toArray⟩:ByteArray).size=p.length+q.length:=by
    show p.toArray.size+q.toArray.size=_;simp
   rw[h6,h7,if_neg h5];simp
  .cases h1
 case shr.inl=>
  cases hz:fM b 1 with
  |false=>rw[hz]at h1;cases h1
  |true=>
   rw[hz]at h1;cases h1;rw[cK]at hz;have hz:b=1:=by simpa using hz
   subst hz;cases hx;cases hy
   refine⟨_,?_,rfl⟩;have h2:Op.shift .shr j a j 1=pure (.int j (a/2 ^ (1:Int).toNat)):=shift_shr j j a 1 (by decide) (by cases j<;>decide);have h3:binOp .shr ty (.int j a) (.int j 1)=Op.shift .shr j a j 1:=rfl;simp only[eqGuard,h3,h2];rfl
 all_goals first
  |((try rw[Rs]at h1);(try rw[WY]at h1);cases hx;cases hy;cases h1;refine⟨_,?_,rfl⟩;simp[eqGuard,binOp,Op.intArith,Op.intCmp,uY,cK,eP,OX,OY];done)
  |(
   cases hx;cases hy
   cases hz:fM b 0 with
   |true=>rw[hz]at h1;cases h1
   |false=>
    rw[hz]at h1;cases h1;have hz':¬b=0:=by rw[cK]at hz;simpa using hz
    refine⟨_,?_,rfl⟩;simp[eqGuard,binOp,Op.intDiv,hz',uY];done)
  |exact Lb (neg:=false) rfl h1 hx hy hni
  |exact Lb (neg:=true) rfl h1 hx hy hni
end
end
section
section
variable {P:Program} {sl:FuncId->Sl} {θ:Th} {h h':AH} {n n':Nat} {w:World} {s:Sl} {L:List Tmp} {t:Tr AV} {l:List AV} {ac:Act} {o:Oper} {f:FT} {v:AV}
theorem I5{op:BinOp}{ty EL:TypeId}{x y:Operand}(ho:o.op= .binOp op ty x y EL)(e:(A8 P s L op ty x y).run f t l h n= .ok v h' n')(hT:RT s θ t ac.tmps)(hL:LR s θ L l ac.tmps)(H:RH P sl θ h n w):gM P sl θ h n w ((execOp ac.eval o).run P w) v h' n':=by
 obtain⟨a,h1,h2⟩:=aS (show aJ ((co s L x).run t l) _= .ok v h' n' from e);obtain⟨b,h3,h4⟩:=aS h2;obtain⟨h5,rfl,rfl⟩:=gT h4;obtain⟨u,h6,h7⟩:=OZ (w:=w) (xo:=x) (yo:=y) h5 (bF h1 hT hL) (bF h3 hT hL);refine .same H ?_ h7;simp only[execOp,ho];rw[Sem.run_bind,h6];rfl
theorem Ah:∀(l:List UInt8),eU θ (xP l) (l.map λb=>.int .u8 b.toNat)
 |[]=>rfl
 |b::l=>⟨_,_,rfl,Ah l,rfl⟩
theorem I6(H:RH P sl θ h n w){x r c o0 k:Nat}{l m:List AV}(e:iD (h.get x) o0 k=some l)(hr:θ x=some (r,c))(hm:mO k l=some m):
 ∃us,(∀w':World,w'.heap=w.heap->(loadCells ⟨r,o0,none⟩ k).run P w'= .ok us.toArray w')/\eU θ m us/\(∀y∈us,y.oneCell'=true)/\us.length=k:=by
 obtain⟨r',c',cs,t0,fz,vs,e1,e2,e4,e5,e6⟩:=H.cut e;rw[hr]at e1;cases e1;obtain⟨g1,rfl⟩:=jN hm;have hl:(vs.take k).length=k:=by
  rw[List.length_take,e4.length];omega
 refine⟨vs.take k,λw' hw=>?_,e4.take k,λy hy=>e5 y (List.mem_of_mem_take hy),hl⟩;have:=run_loadCells_list (P:=P) w' ⟨r,o0,none⟩ (vs.take k) (λj v hv=>by
  rw[Addr.add_mid,iy (w:=w') (by rw[hw];exact e2)];rw[List.getElem?_take]at hv;split at hv
  .exact e6 _ _ hv
  .cases hv)
 rwa [hl]at this
theorem xA{a:AV}{U:Value}{m k:Nat}{c:List AV}(e:iZ h m k a=some c)(hv:aV θ a U)(H:RH P sl θ h n w):
 ∃us,(∀w':World,w'.heap=w.heap->(Builtin.firstCells m k U).run P w'= .ok us.toArray w')/\eU θ c us/\(∀x∈us,x.oneCell'=true)/\(lM a=some k->us.length=k*m):=by
 unfold iZ at e;split at e
 .cases e;cases hv;exact⟨[],λ_ _=>rfl,rfl,by simp,λh=>by cases h;simp⟩
 .obtain⟨hm1,e⟩:=bI e
  have hm1:=beq_eq hm1;obtain⟨l0,h1,h2⟩:=aB e;cases h2;cases hv
  obtain⟨h3,rfl⟩:=jN h1;refine⟨_,λw' _=>?_,Ah _,?_,λ_=>by simp[hm1];omega⟩
  .simp only[Builtin.firstCells,Sem.run_pure]
   congr 1;apply Array.toList_inj.1;simp[ByteArray.data_extract]
  .intro x hx
   obtain⟨b,_,rfl⟩:=List.mem_map.1 hx;rfl
 .obtain⟨h1,h2⟩:=bI e
  obtain rfl:=beq_eq h1;cases h2;obtain⟨_,_,rfl⟩:=hv
  exact⟨[],λ_ _=>by simp[Builtin.firstCells,loadCells,loadCellsFrom],rfl,by simp,λ_=>by simp⟩
 .rename_i x q o0 n0 c0
  obtain⟨l0,h1,h2⟩:=aB e;obtain⟨r,d,hr,_,rfl⟩:=hv;obtain⟨us,g1,g2,g3,g4⟩:=I6 (P:=P) H h1 hr h2;exact⟨us,g1,g2,g3,λ_=>g4⟩
 .cases e
theorem G_{a:AV}{U:Value}{k:Nat}(e:lM a=some k)(hv:aV θ a U):(Builtin.lenOf U).run P w= .ok k w/\((∃b c,U= .slice b k c)\/∃s,U= .string s/\s.size=k):=by
 unfold lM at e;split at e<;>cases e
 .cases hv;exact⟨rfl,.inl ⟨none,0,rfl⟩⟩
 .cases hv;rw[eF];exact⟨by simp[Builtin.lenOf,ByteArray.size],.inr ⟨_,rfl,by simp[ByteArray.size]⟩⟩
 .obtain⟨r,c,_,_,rfl⟩:=hv;exact⟨rfl,.inl ⟨_,_,rfl⟩⟩
 .obtain⟨_,_,rfl⟩:=hv;exact⟨rfl,.inl ⟨_,_,rfl⟩⟩
theorem I7{ty:TypeId}{x ix:Operand}(ho:o.op= .index ty x ix)(e:(xW P s L ty x ix).run f t l h n= .ok v h' n')(hT:RT s θ t ac.tmps)(hL:LR s θ L l ac.tmps)(H:RH P sl θ h n w):gM P sl θ h n w ((execOp ac.eval o).run P w) v h' n':=by
 unfold xW at e;split at e
 .rename_i hu
  simp only at e;split at e
  .rename_i c k0 k h0 h1
   have hp:ac.eval x= .string ⟨c.toArray⟩:=bF h0 hT hL;have hk:ac.eval ix= .int k0 k:=bF h1 hT hL;obtain⟨h2,rfl,rfl⟩:=gT e;obtain⟨j,rfl,hj,h3⟩:=sZ h2;obtain⟨b,h4,h5⟩:=aB h3;cases h5
   rw[mW]at h4;refine .same H (u:=.int .u8 b.toNat) ?_ rfl;have hb:(⟨c.toArray⟩:ByteArray)[j]?=some b:=by
    have hj2:j<c.length:=(List.getElem?_eq_some_iff.1 h4).1;have hs:(⟨c.toArray⟩:ByteArray).size=c.length:=by show c.toArray.size=_;simp
    rw[getElem?_pos _ _ (by rw[hs];exact hj2)];have:=(List.getElem?_eq_some_iff.1 h4).2;rw[<-this];rfl
   simp[execOp,ho,hp,hk,Instr.index,asIntOf,run_underlying hu,hb]
  .cases e
 .rename_i m el hu
  split at e
  .cases e
  rename_i sz hsz;obtain⟨i,hi,rfl⟩:=iL hsz;simp only at e;split at e
  .rename_i c k0 k h0 h1
   obtain⟨vs,hv,hone,hp⟩:=bF h0 hT hL;have hk:ac.eval ix= .int k0 k:=bF h1 hT hL;obtain⟨h2,rfl,rfl⟩:=gT e;obtain⟨j,rfl,hj,h3⟩:=sZ h2;obtain⟨u,h4,h5⟩:=tF (P:=P) (w:=w) h3 hv hone;refine .same H ?_ h5;have h4':(part el vs.toArray (j*i.size)).run P w= .ok u w:=h4;simp[execOp,ho,hp,hk,Instr.index,asIntOf,run_underlying hu,hj,sizeOf,typeInfo,hi,h4']
  .cases e
 .cases e
theorem O1{c:Call}{x y:Operand}(ho:o.op= .call c)(hc:c.callee= .builtin .max)(ha:c.args.toList=[x,y])(e:(K3 s L x y).run f t l h n= .ok v h' n')(hT:RT s θ t ac.tmps)(hL:LR s θ L l ac.tmps)(H:RH P sl θ h n w):gM P sl θ h n w ((execOp ac.eval o).run P w) v h' n':=by
 simp only[K3]at e;split at e
 .rename_i k0 a k1 b h0 h1
  have hp:ac.eval x= .int k0 a:=bF h0 hT hL;have hk:ac.eval y= .int k1 b:=bF h1 hT hL;cases e
  refine .same H ?_ rfl;simp[execOp,ho,resolve,hc,invoke,builtin,Builtin.max_,ha,hp,hk,Builtin.max2,eP,bc];by_cases hb:b<=a
  .rw[if_neg (by omega),decide_eq_true hb]
  .rw[if_pos (by omega),decide_eq_false hb]
 .cases e
theorem O4{c:Call}{x y:Operand}(ho:o.op= .call c)(hc:c.callee= .builtin .min)(ha:c.args.toList=[x,y])(e:(K4 s L x y).run f t l h n= .ok v h' n')(hT:RT s θ t ac.tmps)(hL:LR s θ L l ac.tmps)(H:RH P sl θ h n w):gM P sl θ h n w ((execOp ac.eval o).run P w) v h' n':=by
 simp only[K4]at e;split at e
 .rename_i k0 a k1 b h0 h1
  have hp:ac.eval x= .int k0 a:=bF h0 hT hL;have hk:ac.eval y= .int k1 b:=bF h1 hT hL;cases e
  refine .same H ?_ rfl;simp[execOp,ho,resolve,hc,invoke,builtin,Builtin.min_,ha,hp,hk,Builtin.min2,eP,bc];by_cases hb:a<=b
  .rw[if_neg (by omega),decide_eq_true hb]
  .rw[if_pos (by omega),decide_eq_false hb]
 .cases e
end
end
section
variable {P:Program} {sl:FuncId->Sl} {θ:Th} {h h':AH} {n n':Nat} {w:World} {s:Sl} {L:List Tmp} {t:Tr AV} {l:List AV} {ac:Act} {o:Oper} {f:FT} {v:AV}
theorem RH.drew(H:RH P sl θ h n w):RH P sl θ h n w.drew:=⟨H.at_,H.inj,H.new,H.gl⟩
theorem Fr.drew'{bP:Th}{h':AH}{w':World}(a:Fr θ h w.drew bP h' w'):Fr θ h w bP h' w':=⟨a.os,a.tape,a.output,a.size,a.block,a.le,a.from_,a.kind,a.low,a.ro⟩
theorem RH.sub(H:RH P sl θ h n w){g:AH}(hs:∀x o,g.get x=some o->h.get x=some o):RH P sl θ g n w where
 at_:=λx o e=>H.at_ x o (hs x o e)
 inj:=λx y r c d hx hy=>H.inj x y r c d (by obtain⟨o,e⟩:=Option.isSome_iff_exists.1 hx;rw[hs _ _ e];rfl) (by obtain⟨o,e⟩:=Option.isSome_iff_exists.1 hy;rw[hs _ _ e];rfl)
 new:=H.new
 gl:=λk e=>let⟨ty,q,e1,e2⟩:=H.gl k e;⟨ty,q,e1,λ⟨x,c,hx,hr⟩=>e2 ⟨x,c,by obtain⟨o,e⟩:=Option.isSome_iff_exists.1 (gH hx);rw[hs _ _ e,<-e];exact hx,hr⟩⟩
theorem Fr.sub(H:RH P sl θ h n w){g h':AH}{bP:Th}{w':World}(hs:∀x o,g.get x=some o->h.get x=some o)(a:Fr θ g w bP h' w'):Fr θ h w bP h' w':=
 ⟨a.os,a.tape,a.output,a.size,λk hk hn=>a.block k hk (λ⟨x,c,hx,e⟩=>hn ⟨x,c,by obtain⟨o,e⟩:=Option.isSome_iff_exists.1 (gH hx);rw[hs _ _ e,<-e];exact hx,e⟩),a.le,
  λk e=>(a.from_ k e).imp (λ⟨x,c,hx,e⟩=>⟨x,c,by obtain⟨o,e⟩:=Option.isSome_iff_exists.1 (gH hx);rw[hs _ _ e,<-e];exact hx,e⟩) id,a.kind,a.low,λx f e=>hs x _ (a.ro x f e)⟩
theorem Tk{a:AV}{U:Value}{m k:Nat}{c:List AV}{tx:TypeId}(e:iZ h m k a=some c)(hl:lM a=some k)(hv:aV θ a U)(H:RH P sl θ h n w)(hk:V3 P tx=true):
 ∃us,Src P m tx U k us w/\eU θ c us:=by
 obtain⟨us,h1,h2,h3,h4⟩:=xA (P:=P) e hv H;refine⟨us,⟨?_,λw'=>(G_ (P:=P) (w:=w') hl hv).1,h1 w rfl,h1 w.drew rfl,h4 hl,h3⟩,h2⟩;unfold V3 at hk;split at hk
 .exact .inl ⟨_,‹_›⟩
 .exact .inr ‹_›
 .cases hk
theorem zS{z:Array Value}{k:Nat}{y:Value}(hy:y∈(Builtin.zeroCells z k).toList):y∈z.toList:=by
 unfold Builtin.zeroCells at hy;simp only[Array.toList_map,List.mem_map]at hy;obtain⟨i,hi,rfl⟩:=hy;have hi':i<k*z.size:=by simpa using hi
 have hz:0<z.size:=by
  rcases Nat.eq_zero_or_pos z.size with e|e
  .rw[e]at hi';simp at hi'
  .exact e
 have:=Nat.mod_lt i hz;rw[getElem!_pos z _ this];exact Array.getElem_mem_toList _
theorem oM{ty tx rt e:TypeId}{i:TypeInfo}{z x:Value}(ht:P.underlying ty=some (.slice e))(hi:P.info? e=some i)(hz:i.zero=some z)(hzs:z.cells.size=i.size)(hz1:∀y∈z.cells.toList,y.oneCell'=true)
 {base:Option Addr}{ls cap ly:Nat}{olds news:List Value}{cx cy:List AV}(hold:(Builtin.firstCells i.size ls (.slice base ls cap)).run P w.drew= .ok olds.toArray w.drew)(hol:olds.length=ls*i.size)(ho1:∀y∈olds,y.oneCell'=true)
 (hs:Src P i.size tx x ly news w)(hg:cap<ls+ly)(hle:ls+ly<=1048576)(hby:i.bytes<=65536)(hcx:eU θ cx olds)(hcy:eU θ cy news)(H:RH P sl θ h n w):
 ∃c w',ls+ly<=c/\(Builtin.append_ #[ty,tx] rt #[.slice base ls cap,x]).run P w= .ok (.slice (some ⟨w.heap.size,0,none⟩) (ls+ly) c) w'/\
  RH P sl (θ.ins n (w.heap.size,c)) (h.set n (.row e (cx++cy))) (n+1) w'/\Fr θ h w (θ.ins n (w.heap.size,c)) (h.set n (.row e (cx++cy))) w':=by
 have hb:(2*(ls+ly))*i.bytes<=281474976710656:=Nat.le_trans (Nat.mul_le_mul (by omega:2*(ls+ly)<=2097152) hby) (by decide);have hrun:=run_append_grow_src (P:=P) w ty tx rt e i z ht hi hz base ls cap olds hold x ly news hs hg (by omega) (Nat.le_trans (Nat.mul_le_mul_right _ (Go.Room.nextslicecap_le' hg)) hb);have hge:=grownCap_ge w (ls+ly) cap e;refine⟨grownCap w (ls+ly) cap e,_,hge,hrun,?_⟩;have hsz:((olds++news).toArray++Builtin.zeroCells z.cells (grownCap w (ls+ly) cap e - (ls+ly))).size=grownCap w (ls+ly) cap e*P.cellsOf e:=by
  rw[Array.size_append,size_zeroCells,hzs,List.size_toArray,List.length_append,hol,hs.newsLen,show P.cellsOf e=i.size from qh hi,<-Nat.add_mul,<-Nat.add_mul];congr 1;omega
 have:=H.drew.alloc (grownCap w (ls+ly) cap e) (o:=.row e (cx++cy)) (obj:=.cells ((olds++news).toArray++Builtin.zeroCells z.cells (grownCap w (ls+ly) cap e - (ls+ly))) e (0,0))
  ⟨_,olds++news,(Builtin.zeroCells z.cells (grownCap w (ls+ly) cap e - (ls+ly))).toList,rfl,hsz,by simp,hcx.append hcy,?_⟩
 .exact⟨this.1,this.2.drew'⟩
 .intro y hy
  rw[Array.toList_append]at hy;rcases List.mem_append.1 hy with hy|hy
  .rcases List.mem_append.1 (by simpa using hy:y∈olds++news)with hy|hy
   .exact ho1 y hy
   .exact hs.one y hy
  .exact hz1 y (zS hy)
theorem Di{ty e:TypeId}(ht:P.underlying ty=some (.slice e)):qR P ty=e:=by unfold qR;rw[K8 ht]
theorem Dj{ty tx rt e:TypeId}{i:TypeInfo}{z x:Value}(ht:P.underlying ty=some (.slice e))(hi:P.info? e=some i)(hz:i.zero=some z)(hzs:z.cells.size=i.size)(hz1:∀y∈z.cells.toList,y.oneCell'=true)
 {b r d ls ly:Nat}{l0:List AV}{news:List Value}{cy:List AV}(hb:h.get b=some (.row e l0))(hr:θ b=some (r,d))(hl0:l0.length=ls*i.size)
 (hs:Src P i.size tx x ly news w)(hle:ls+ly<=1048576)(hby:i.bytes<=65536)(hcy:eU θ cy news)(H:RH P sl θ h n w):
 ∃r' c w',ls+ly<=c/\(Builtin.append_ #[ty,tx] rt #[.slice (some ⟨r,0,none⟩) ls d,x]).run P w= .ok (.slice (some ⟨r',0,none⟩) (ls+ly) c) w'/\
  RH P sl (θ.ins n (r',c)) ((h.del b).set n (.row e (l0++cy))) (n+1) w'/\Fr θ h w (θ.ins n (r',c)) ((h.del b).set n (.row e (l0++cy))) w':=by
 obtain⟨r0,d0,cs,vs,e1,e2,e3,e4,e5,e6,e7,rest,e8⟩:=H.row hb;rw[hr]at e1;cases e1;have hbn:=H.dom hb;have hdel:∀x o,(h.del b).get x=some o->h.get x=some o:=λx o hx=>by
  rw[Bd]at hx;split at hx
  .cases hx
  .exact hx
 have hsz:P.cellsOf e=i.size:=qh hi;by_cases hroom:ls+ly<=d
 .have hcs:cs.size=d*i.size:=by rw[<-hsz];exact e3
  have hlen:vs.length=ls*i.size:=by omega
  have hfit:ls*i.size+news.length<=cs.size:=by
   rw[hs.newsLen,<-Nat.add_mul,hcs];exact Nat.mul_le_mul_right _ hroom
  have hrun:=run_append_room_src (P:=P) w ty tx rt e i ht hi r 0 ls d x ly news hs hroom
   (λj hj=>by rw[iy e2,Array.getElem?_eq_getElem (by omega)];rfl) (λj hj=>jO e2 _)
  rw[Nat.zero_add]at hrun;obtain⟨cs',f1,f2,f3,f4,f5,f6⟩:=kZ news (ls*i.size) w cs e2 hfit;refine⟨r,d,_,hroom,hrun,?_⟩;have acF:cs'.size=cs.size:=by
   have:cs.toList.length=cs.size:=Array.length_toList;rw[<-Array.length_toList,f1,List.length_append,List.length_append,List.length_take,List.length_drop];omega
  have htake:cs.toList.take (ls*i.size)=vs:=by rw[e8,<-hlen,List.take_left'];rfl
  have hle':=iq.ins H (r,d);have hget:∀x,((h.del b).set n (.row e (l0++cy))).get x=if x=n then some (.row e (l0++cy))else if x=b then none else h.get x:=λx=>by
   rw[h_,Bd]
  have hA:rO P sl (θ.ins n (r,d)) d (.row e (l0++cy)) (.cells cs' e (0,0)):=by
   refine⟨cs',vs++news,cs.toList.drop (ls*i.size+news.length),rfl,by rw[acF];exact e3,by rw[f1,htake];simp,(eU.mono hle' _ e4).append (eU.mono hle' _ hcy),?_⟩;intro y hy;rw[f1]at hy;rcases List.mem_append.1 hy with hy|hy
   .exact e5 y (List.mem_of_mem_take hy)
   .rcases List.mem_append.1 hy with hy|hy
    .exact hs.one y hy
    .exact e5 y (List.mem_of_mem_drop hy)
  refine H.WO ?_ ?_ ?_ ⟨f4,f5,f6,Nat.le_of_eq f3.symm,?_,hle',?_,λk q ek=>⟨q,by
   rw[f2,if_neg ?_];· exact ek
   rintro rfl;rw[e2]at ek;cases ek⟩,H.G7 _,λx f e=>by
   rw[hget]at e;split at e
   .cases e
   .split at e
    .cases e
    .exact e⟩
  .intro x a ha
   rw[hget]at ha;split at ha
   .rename_i hx;cases ha;subst hx
    exact⟨r,d,_,Th.cZ _ _ _,by rw[f2,if_pos rfl],hA⟩
   .split at ha
    .cases ha
    .rename_i hx1 hx2
     obtain⟨r2,d2,ob,g1,g2,g3⟩:=H.at_ x a ha;refine⟨r2,d2,ob,hle' _ _ g1,?_,rO.mono hle' g3⟩;rw[f2,if_neg ?_];· exact g2
     rintro rfl;exact hx2 (H.inj x b r2 d2 d (by rw[ha];rfl) (by rw[hb];rfl) g1 hr)
  .intro x y q c1 d1 hx hy g1 g2
   rw[hget]at hx hy;unfold Th.ins at g1 g2;by_cases hx1:x=n
   .by_cases hy1:y=n
    .rw[hx1,hy1]
    .exfalso
     rw[if_pos hx1]at g1;cases g1;rw[if_neg hy1]at g2 hy;by_cases hy2:y=b
     .rw[if_pos hy2]at hy;cases hy
     .rw[if_neg hy2]at hy
      exact hy2 (H.inj y b r d1 d hy (by rw[hb];rfl) g2 hr)
   .rw[if_neg hx1]at g1 hx
    by_cases hx2:x=b
    .rw[if_pos hx2]at hx;cases hx
    .rw[if_neg hx2]at hx
     by_cases hy1:y=n
     .exfalso
      rw[if_pos hy1]at g2;cases g2;exact hx2 (H.inj x b r c1 d hx (by rw[hb];rfl) g1 hr)
     .rw[if_neg hy1]at g2 hy
      by_cases hy2:y=b
      .rw[if_pos hy2]at hy;cases hy
      .rw[if_neg hy2]at hy
       exact H.inj x y q c1 d1 hx hy g1 g2
  .intro x hx
   unfold Th.ins;rw[if_neg (by omega)];exact H.new x (by omega)
  .intro k _ hk
   rw[f2,if_neg];rintro rfl;exact hk ⟨b,d,by rw[hb];rfl,hr⟩
  .rintro k ⟨x,c,hx,g⟩
   rw[hget]at hx;unfold Th.ins at g;by_cases hx1:x=n
   .rw[if_pos hx1]at g;cases g;exact .inl ⟨b,d,by rw[hb];rfl,hr⟩
   .rw[if_neg hx1]at g hx
    by_cases hx2:x=b
    .rw[if_pos hx2]at hx;cases hx
    .rw[if_neg hx2]at hx;exact .inl ⟨x,c,hx,g⟩
 .have hold:(Builtin.firstCells i.size ls (.slice (some ⟨r,0,none⟩) ls d)).run P w.drew= .ok vs.toArray w.drew:=by
   have:=run_loadCells_list (P:=P) w.drew ⟨r,0,none⟩ vs (λj v hv=>by
    rw[Addr.add_mid,iy (w:=w.drew) e2,Nat.zero_add];exact e6 _ _ hv)
   rw[show vs.length=ls*i.size by omega]at this;exact this
  obtain⟨c,w',g0,g1,g2,g3⟩:=oM (sl:=sl) (rt:=rt) ht hi hz hzs hz1 hold (by omega) (λy hy=>e5 y (by rw[e8];exact List.mem_append_left _ hy)) hs (by omega) hle hby e4 hcy (H.sub hdel);exact⟨_,c,w',g0,g1,g2,Fr.sub H hdel g3⟩
theorem ER{ty tx rt e:TypeId}{i:TypeInfo}{z:Value}(ht:P.underlying ty=some (.slice e))(hi:P.info? e=some i)(hz:i.zero=some z)(hzs:z.cells.size=i.size)(hz1:∀y∈z.cells.toList,y.oneCell'=true)
 (hby:i.bytes<=65536)(hk:V3 P tx=true){a x:AV}{U X:Value}(er:(jq e i.size).run h n a x= .ok v h' n')(ha:aV θ a U)(hx:aV θ x X)(H:RH P sl θ h n w):
 ∃bP u w',(Builtin.append_ #[ty,tx] rt #[U,X]).run P w= .ok u w'/\aV bP v u/\RH P sl bP h' n' w'/\Fr θ h w bP h' w':=by
 replace er:=aS (show aJ (lM a) _= .ok v h' n' from er);obtain⟨ls,h1,er⟩:=er;replace er:=aS er;obtain⟨ly,h2,er⟩:=er;replace er:=aS er;obtain⟨cx,h3,er⟩:=er;replace er:=aS er;obtain⟨cy,h4,er⟩:=er;replace er:=iN er;obtain⟨h5,er⟩:=er;have hle:ls+ly<=1048576:=Nat.le_of_ble_eq_true h5;obtain⟨news,hs,hcy⟩:=Tk (P:=P) h4 h2 hx H hk;split at er
 .-- a slice whose capacity is known
  rename_i b m o0 k c;cases h1
  obtain⟨r,d,hr,hd,rfl⟩:=id ha;cases hroom:Nat.ble (Nat.add ls ly) c with
  |true=>
   rw[hroom,bD]at er;have hroom':ls+ly<=c:=Nat.le_of_ble_eq_true hroom;split at er
   case h_2=>cases er
   rename_i t0 l0 hg;obtain⟨m0,h6,er⟩:=aS er;cases er
   obtain⟨q1,q2,q3⟩:=H.write (P:=P) hg hr h6 hcy hs.one;obtain⟨r0,d0,cs,vs,e1,e2,e3,e4,e5,e6,e7,rest,e8⟩:=H.row hg;rw[hr]at e1;cases e1;obtain⟨g1,_⟩:=lT h6;have hcl:=hcy.length;have hcs:vs.length+rest.length=cs.size:=by rw[<-Array.length_toList,e8,List.length_append]
   have g1':o0+ls*i.size+cy.length<=l0.length:=g1;have hrun:=run_append_room_src (P:=P) w ty tx rt e i ht hi r o0 ls c X ly news hs hroom' (λj hj=>by rw[iy e2,Array.getElem?_eq_getElem (by omega)];rfl) (λj hj=>jO e2 _);exact⟨θ,_,_,hrun,⟨r,d,hr,(λh=>by cases h),rfl⟩,q2,q3⟩
  |false=>
   rw[hroom,fU]at er;have hroom':c<ls+ly:=by
    rcases Nat.lt_or_ge c (ls+ly)with h6|h6
    .exact h6
    .rw[show Nat.ble (Nat.add ls ly) c=true from Nat.ble_eq_true_of_le h6]at hroom;cases hroom
   obtain⟨rfl,rfl,rfl⟩:=Ae er;obtain⟨olds,g1,g2,g3,g4⟩:=xA (P:=P) h3 ha H;obtain⟨q,w',k0,k1,k2,k3⟩:=oM (sl:=sl) (rt:=rt) (n:=n) ht hi hz hzs hz1 (g1 w.drew rfl) (g4 rfl) g3 hs hroom' hle hby g2 hcy H;rw[iK];exact⟨_,_,w',k1,⟨w.heap.size,q,Th.cZ _ _ _,λ_=>by show 0+_<=q;first|omega|exact(Nat.zero_add _).symm▸k0,by simp⟩,k2,k3⟩
 .-- a nil slice
  cases h1;cases h3;cases ha
  cases hz0:Nat.beq ly 0 with
  |true=>
   rw[hz0,bD]at er;cases er;obtain rfl:=beq_eq hz0;have hnil:news=[]:=List.eq_nil_of_length_eq_zero (by rw[hs.newsLen];simp);subst hnil;exact⟨θ,_,w,run_append_nothing (P:=P) w ty tx rt e i ht hi none 0 0 (Nat.le_refl _) X hs,rfl,H,Fr.refl _ _ _⟩
  |false=>
   rw[hz0,fU]at er;obtain⟨rfl,rfl,rfl⟩:=Ae er;have hpos:0<0+ly:=by
    rcases Nat.eq_zero_or_pos ly with e0|e0
    .rw[e0]at hz0;cases hz0
    .omega
   obtain⟨q,w',k0,k1,k2,k3⟩:=oM (sl:=sl) (rt:=rt) (n:=n) (olds:=[]) (cx:=[]) ht hi hz hzs hz1 (base:=none) (ls:=0) (cap:=0) rfl (by simp) (by simp) hs hpos hle hby rfl hcy H;rw[Nat.zero_add]at k1;exact⟨_,_,w',k1,⟨w.heap.size,q,Th.cZ _ _ _,λ_=>by show 0+_<=q;first|omega|exact(Nat.zero_add _).symm▸k0,by simp⟩,by simpa using k2,by simpa using k3⟩
 .-- an open slice
  rename_i b k;cases h1
  obtain⟨r,d,hr,hd,rfl⟩:=id ha;split at er
  case h_2=>cases er
  rename_i t0 l0 hg;obtain⟨h6,er⟩:=iN er;obtain rfl:=beq_eq h6;cases h7:Nat.beq (mM l0) (Nat.mul ls i.size)with
  |false=>
   rw[h7,fU]at er;cases hw0:Nat.beq i.size 0 with
   |true=>rw[hw0]at er;cases er
   |false=>
   rw[hw0,fU]at er;have hi0:0<i.size:=Nat.pos_of_ne_zero λh=>by rw[h]at hw0;cases hw0
   obtain⟨m0,h6,er⟩:=aS er;cases er
   obtain⟨q1,q2,q3⟩:=H.write (P:=P) hg hr h6 hcy hs.one;obtain⟨r0,d0,cs,vs,e1,e2,e3,e4,e5,e6,e7,rest,e8⟩:=H.row hg;rw[hr]at e1;cases e1;obtain⟨g1,_⟩:=lT h6;have hcl:=hcy.length;have hcs:vs.length+rest.length=cs.size:=by rw[<-Array.length_toList,e8,List.length_append]
   have g1':ls*i.size+cy.length<=l0.length:=g1;have hnl:=hs.newsLen;have hroom:ls+ly<=d:=by
    have hsz:P.cellsOf t0=i.size:=qh hi;have:(ls+ly)*i.size<=d*i.size:=by rw[Nat.add_mul,<-hsz,<-e3,hsz];omega
    exact Nat.le_of_mul_le_mul_right this hi0
   have hrun:=run_append_room_src (P:=P) w ty tx rt t0 i ht hi r 0 ls d X ly news hs hroom (λj hj=>by rw[iy e2,Array.getElem?_eq_getElem (by omega)];rfl) (λj hj=>jO e2 _);rw[Nat.zero_add]at hrun;simp only[Option.getD_none,Nat.sub_zero];exact⟨θ,_,_,hrun,⟨r,d,hr,λ_=>(by show 0+(ls+ly)<=d;omega),by simp⟩,q2,q3⟩
  |true=>
  rw[h7,bD]at er;have hl0:=beq_eq h7;rw[eF]at hl0;obtain⟨rfl,rfl,rfl⟩:=Ae er;have hcx:cx=l0:=by
   obtain⟨l1,g1,g2⟩:=aB (show bnd (iD (h.get b) 0 _) _=some cx from h3);rw[hg]at g1;cases g1;obtain⟨_,rfl⟩:=jN g2;rw[rP];simp only[List.drop_zero];exact List.take_of_length_le (Nat.le_of_eq hl0)
  subst hcx;obtain⟨r',c',w',k0,k1,k2,k3⟩:=Dj (sl:=sl) (rt:=rt) (n:=n) ht hi hz hzs hz1 hg hr hl0 hs hle hby hcy H;rw[iK];simp only[Option.getD_none,Nat.sub_zero];exact⟨_,_,w',k1,⟨r',c',Th.cZ _ _ _,λ_=>by show 0+_<=c';first|omega|exact(Nat.zero_add _).symm▸k0,by simp⟩,k2,k3⟩
 .cases er
end
end Go.Proofs.YtjoohkjmoghmoaaGreatDoor
