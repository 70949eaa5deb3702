/- part -/
import Derived.Test.YtjoohkjmoghmoaaGreatDoorP00
import Derived.Deep.MidRow
import Derived.Shelf.Abstract
import Derived.Deep.Upon
import Derived.Room.Entries
set_option linter.all false
namespace Go.Proofs.YtjoohkjmoghmoaaGreatDoor
section
mutual
theorem ni{θ:Th}:∀{v:Value}{a:AV},RF v=some a->aV θ a v
 | .bool _,_,h=>by cases h;rfl
 | .int _ _,_,h=>by cases h;rfl
 | .string _,_,h=>by cases h;rfl
 | .pointer none,_,h=>by cases h;rfl
 | .slice none 0 0,_,h=>by cases h;rfl
 | .map none,_,h=>by cases h;rfl
 | .nilFunc,_,h=>by cases h;rfl
 | .nilIface,_,h=>by cases h;rfl
 | .func (.func g) ⟨[]⟩ ⟨[]⟩,_,h=>by cases h;exact⟨[],rfl,rfl⟩
 | .agg ⟨cs⟩,a,h=>by
  obtain⟨h1,h2⟩:=bI (show bc (cs.all (·.oneCell')) (bnd (K5 cs) λl=>some (.agg l)) none=some a from h);obtain⟨l,h3,h4⟩:=aB h2;cases h4
  exact⟨cs,Hu h3,by simpa using h1,rfl⟩
theorem Hu{θ:Th}:∀{vs:List Value}{l:List AV},K5 vs=some l->eU θ l vs
 |[],_,h=>by cases h;rfl
 |v::vs,l,h=>by
  obtain⟨a,h1,h2⟩:=aB (show bnd (RF v) (λa=>bnd (K5 vs) λb=>some (a::b))=some l from h);obtain⟨b,h3,h4⟩:=aB h2;cases h4
  exact⟨v,vs,ni h1,Hu h3,rfl⟩
end
def LR(s:Sl)(θ:Th)(L:List Tmp)(l:List AV)(tm:Array Value):Prop:=∀k j a,s.S k=false->idx k L=some j->l[j]?=some a->∃v,tm[k]?=some v/\aV θ a v
theorem LR.nil(s:Sl)(θ:Th)(tm:Array Value):LR s θ [] [] tm:=λ_ _ _ _ h=>by cases h
theorem LR.mono{s:Sl}{θ bR:Th}{L:List Tmp}{l:List AV}{tm:Array Value}(h:iy θ bR)(k:LR s θ L l tm):LR s bR L l tm:=
 λi j a e0 e1 e2=>let⟨v,h1,h2⟩:=k i j a e0 e1 e2;⟨v,h1,aV.mono h a h2⟩
theorem jv:∀(j:Nat)(l:List AV),(Dh j).run l=l[j]?
 |0,[]=>rfl
 |0,_::_=>rfl
 |_+1,[]=>rfl
 |j+1,_::r=>by show(Dh j).run r=_;rw[jv j];rfl
theorem EY{s:Sl}{L:List Tmp}{k:Tmp}{t:Tr AV}{l:List AV}{θ:Th}{tm:Array Value}{a:AV}(h:(KL s L k).run t l=some a)(hT:RT s θ t tm)(hL:LR s θ L l tm):∃v,tm[k]?=some v/\aV θ a v:=by
 unfold KL at h;cases hS:s.S k with
 |true=>
  rw[hS,bF]at h;exact hT.at_ k a hS (by rw[<-lC 20];exact h)
 |false=>
  rw[hS,gu]at h;cases hi:idx k L with
  |none=>rw[hi]at h;cases h
  |some j=>rw[hi]at h;exact hL k j a hS hi (by rw[<-jv];exact h)
theorem bG{s:Sl}{L:List Tmp}{x:Operand}{t:Tr AV}{l:List AV}{θ:Th}{ac:Act}{a:AV}(h:(co s L x).run t l=some a)(hT:RT s θ t ac.tmps)(hL:LR s θ L l ac.tmps):aV θ a (ac.eval x):=by
 cases x with
 |tmp k=>
  obtain⟨v,h1,h2⟩:=EY (show(KL s L k).run t l=some a from h) hT hL;show aV θ a (ac.tmps.getD k undef);rw[Array.getD_eq_getD_getElem?,h1];exact h2
 |const v=>exact ni (show RF v=some a from h)
 |global g=>cases h
 |func f=>cases h;exact⟨[],rfl,rfl⟩
theorem Br{s:Sl}{L:List Tmp}{t:Tr AV}{l:List AV}{θ:Th}{ac:Act}(hT:RT s θ t ac.tmps)(hL:LR s θ L l ac.tmps):∀{xs:List Operand}{us:List AV},(col s L xs).run t l=some us->eU θ us (xs.map ac.eval)
 |[],_,h=>by cases h;rfl
 |x::xs,us,h=>by
  obtain⟨a,h1,h2⟩:=aB (show bnd ((co s L x).run t l) (λa=>bnd ((col s L xs).run t l) λb=>some (a::b))=some us from h);obtain⟨b,h3,h4⟩:=aB h2;cases h4
  exact⟨_,_,bG h1 hT hL,Br hT hL h3,rfl⟩
theorem TD(c:Nat):(kv c).oneCell'=true:=by
 unfold kv;split<;>rfl
theorem Bt{θ:Th}{a:AV}{v:Value}{c:List AV}(h:qM a=some c)(hv:aV θ a v):eU θ c v.cells.toList/\∀x∈v.cells.toList,x.oneCell'=true:=by
 have one:v.oneCell'=true->v.cells=#[v]->eU θ [a] v.cells.toList/\∀x∈v.cells.toList,x.oneCell'=true:=λh1 h2=>by
  rw[h2];exact⟨⟨v,[],hv,rfl,rfl⟩,by simpa using h1⟩
 cases a with
 |agg l=>cases h;obtain⟨vs,h1,h2,rfl⟩:=hv;exact⟨by simpa [Value.cells]using h1,by simpa [Value.cells]using h2⟩
 |bN l=>cases h
 |b x=>cases h;have e:v= .bool x:=hv;subst e;exact one rfl rfl
 |i k n=>cases h;have e:v= .int k n:=hv;subst e;exact one rfl rfl
 |s l=>cases h;have e:v= .string ⟨l.toArray⟩:=hv;subst e;exact one rfl rfl
 |p x o=>cases h;obtain⟨r,d,_,e⟩:=id hv;subst e;exact one rfl rfl
 |sl x m o n d=>cases h;obtain⟨r,d,_,_,e⟩:=id hv;subst e;exact one rfl rfl
 |m x=>cases h;obtain⟨r,d,_,e⟩:=id hv;subst e;exact one rfl rfl
 |f g cap=>cases h;obtain⟨r,_,e⟩:=id hv;subst e;exact one rfl rfl
 |y l=>cases h;obtain⟨r,d,_,e⟩:=id hv;subst e;exact one rfl rfl
 |zP t u=>cases h;obtain⟨r,_,e⟩:=id hv;subst e;exact one rfl rfl
 |es a d=>cases h;obtain⟨_,_,e⟩:=id hv;subst e;exact one rfl rfl
 |k c=>cases h;have e:v=kv c:=hv;subst e;refine one (TD c) ?_;unfold kv;split<;>rfl
theorem Am{x:Option AO}{l:List (AV×AV×Nat)}(h:I8 x=some l):∃c,x=some (.mp l c):=by
 obtain⟨o,rfl,h2⟩:=aB h;cases o with
 |row t m=>cases h2
 |mp es c=>cases h2;exact⟨c,rfl⟩
 |lp=>cases h2
 |it=>cases h2
 |ro=>cases h2
section
variable {P:Program} {sl:FuncId->Sl} {θ:Th} {h:AH} {n:Nat} {w:World}
theorem Le{t:TypeId}{d:TypeDesc}(e:P.underlying t=some d):und P t=d:=by unfold und;rw[e];rfl
theorem Dr{t:TypeId}{d:TypeDesc}(e:P.underlying t=some d):∃i,P.info? t=some i:=by
 unfold Program.underlying at e;split at e
 .exact⟨_,‹_›⟩
 .exact⟨_,‹_›⟩
 .cases e
theorem qw{t:TypeId}{i:TypeInfo}(e:P.info? t=some i):sz P t=i.size:=by unfold sz Program.cellsOf;rw[e];rfl
theorem iL{t:TypeId}{k:Nat}(e:Ak P t=some k):∃i,P.info? t=some i/\i.size=k:=by
 unfold Ak at e;cases hi:P.info? t with
 |none=>rw[hi]at e;cases e
 |some i=>rw[hi]at e;cases e;exact⟨i,rfl,rfl⟩
theorem RH.row(H:RH P sl θ h n w){x:Nat}{t:TypeId}{l:List AV}(e:h.get x=some (.row t l)):
 ∃(r c:Nat)(cs:Array Value)(vs:List Value),θ x=some (r,c)/\w.heap[r]?=some (.cells cs t (0,0))/\cs.size=c*P.cellsOf t/\eU θ l vs/\(∀v∈cs.toList,v.oneCell'=true)/\(∀(j:Nat)(v:Value),vs[j]?=some v->cs[j]?=some v)/\vs.length=l.length/\∃rest,cs.toList=vs++rest:=by
 obtain⟨r,c,obj,h1,h2,cs,vs,rest,rfl,h3,h4,h5,h6⟩:=H.at_ x _ e;refine⟨r,c,cs,vs,h1,h2,h3,h5,h6,λj v hv=>?_,h5.length,rest,h4⟩;rw[<-Array.getElem?_toList,h4,List.getElem?_append_left];· exact hv
 exact(List.getElem?_eq_some_iff.1 hv).1
theorem iB{r:Nat}{cs:Array Value}{t:TypeId}{fz:Nat×Nat}(e:w.heap[r]?=some (.cells cs t fz))(j:Nat):w.cell? ⟨r,j,none⟩=cs[j]?:=by
 unfold World.cell?;simp only[e];rfl
theorem jQ{r:Nat}{cs:Array Value}{t:TypeId}(e:w.heap[r]?=some (.cells cs t (0,0)))(j:Nat):w.frozen? ⟨r,j,none⟩=false:=by
 unfold World.frozen?;simp only[e];simp
theorem RH.cut(H:RH P sl θ h n w){x k m:Nat}{l:List AV}(e:iA (h.get x) k m=some l):
 ∃(r c:Nat)(cs:Array Value)(t:TypeId)(fz:Nat×Nat)(vs:List Value),θ x=some (r,c)/\w.heap[r]?=some (.cells cs t fz)/\eU θ l vs/\(∀v∈vs,v.oneCell'=true)/\∀(j:Nat)(v:Value),vs[j]?=some v->cs[k+j]?=some v:=by
 obtain⟨o,h1,h2⟩:=aB e;cases o with
 |row t l0=>
  cases h2
  obtain⟨r,c,cs,vs,e1,e2,e3,e4,e5,e6,e7,rest,e8⟩:=H.row h1;refine⟨r,c,cs,t,_,vs.drop k,e1,e2,by rw[rY];exact e4.drop k,λv hv=>e5 v (by rw[e8];exact List.mem_append_left _ (List.mem_of_mem_drop hv)),λj v hv=>e6 _ _ ?_⟩
  rwa [List.getElem?_drop]at hv
 |mp _ _=>cases h2
 |lp=>cases h2
 |it=>cases h2
 |ro f=>
  obtain⟨r,c,obj,e1,e2,cs,t,fz,rfl,e3⟩:=H.at_ x _ h1;obtain⟨vs,e4,e5,e6⟩:=e3 k m l h2;exact⟨r,c,cs,t,fz,vs,e1,e2,e4,e5,e6⟩
theorem Lf{t:TypeId}{l:List AV}{vs:List Value}{o:Nat}{a:AV}(e:(KM P t).run l o=some a)(hv:eU θ l vs)(h1:∀x∈vs,x.oneCell'=true):
 (∃cs d,aV θ a (.agg cs.toArray)/\P.underlying t=some d/\d.isRow=true/\(P.info? t).map (·.size)=some cs.length/\(∀j v,cs[j]?=some v->vs[o+j]?=some v)/\cs=(vs.drop o).take cs.length)\/
 (∃v d,aV θ a v/\P.underlying t=some d/\d.isRow=false/\vs[o]?=some v):=by
 unfold KM at e;have row:∀d,P.underlying t=some d->d.isRow=true->bnd (lQ (sz P t) (qL o l)) (λx=>some (AV.agg x))=some a->
  ∃cs d,aV θ a (.agg cs.toArray)/\P.underlying t=some d/\d.isRow=true/\(P.info? t).map (·.size)=some cs.length/\(∀j v,cs[j]?=some v->vs[o+j]?=some v)/\cs=(vs.drop o).take cs.length:=by
  intro d hd hr hh;obtain⟨x,h2,h3⟩:=aB hh;cases h3
  obtain⟨h4,rfl⟩:=jP h2;rw[rY]at h4⊢;obtain⟨i,hi⟩:=Dr hd;have hlen:=hv.length;have hl:((vs.drop o).take (sz P t)).length=sz P t:=by
   rw[List.length_take,List.length_drop];rw[List.length_drop]at h4;omega
  refine⟨(vs.drop o).take (sz P t),d,?_,hd,hr,by rw[hi,hl,Option.map_some,<-qw hi],?_,by rw[hl]⟩
  .exact⟨_,(hv.drop o).take _,λx hx=>h1 x (List.mem_of_mem_drop (List.mem_of_mem_take hx)),rfl⟩
  .intro j v hj
   rw[List.getElem?_take]at hj;split at hj
   .rwa [List.getElem?_drop]at hj
   .cases hj
 split at e
 .cases e
 .exact .inl (row _ ‹_› rfl e)
 .exact .inl (row _ ‹_› rfl e)
 .rename_i d hn1 hn2 hdd
  replace e:hd (qL o l)=some a:=e;rw[m_]at e;obtain⟨v,h2,h3⟩:=hv.get o e;refine .inr ⟨v,d,h3,hdd,?_,h2⟩;cases d<;>first|rfl|(exfalso;first|exact hn1 _ rfl|exact hn2 _ _ rfl)
end
end
section
def KN(P:Program)(sl:FuncId->Sl)(θ:Th)(h:AH)(w:World)(r:Result Next)(v:AV)(h':AH)(n':Nat):Prop:=
 ∃bR u w',(r= .ok (.value u) w'\/(r= .ok .skip w'/\u=undef))/\aV bR v u/\RH P sl bR h' n' w'/\Fr θ h w bR h' w'
section
variable {P:Program} {sl:FuncId->Sl} {θ:Th} {h h':AH} {n n':Nat} {w:World} {s:Sl} {L:List Tmp} {t:Tr AV} {l:List AV} {ac:Act} {o:Oper} {f:FT} {v:AV}
variable (P sl θ h n w)in
inductive gP (r:Result Next):AV->AH->Nat->Prop
 |Xu {v:AV} {u:Value} (hr:r= .ok (.value u) w) (hv:aV θ v u):gP r v h n
 |alloc {v u:AV} {ob:AO} {obj:Obj} {x:Value} {h':AH} {n':Nat} (e:mk h n v ob= .ok u h' n') (c:Nat) (hA:rW P sl θ c ob obj) (hr:r= .ok (.value x) (w.alloc obj))
  (hv:aV (θ.ins n (w.heap.size,c)) v x) (ho:zV (some ob)=true:=by rfl):gP r u h' n'
theorem gP.same{r:Result Next}{v:AV}{u:Value}(_:RH P sl θ h n w)(hr:r= .ok (.value u) w)(hv:aV θ v u):gP P sl θ h n w r v h n:=.Xu hr hv
theorem gP.ok{r:Result Next}(H:RH P sl θ h n w)(k:gP P sl θ h n w r v h' n'):KN P sl θ h w r v h' n':=by
 cases k with
 |Xu hr hv=>exact⟨θ,_,w,.inl hr,hv,H,Fr.refl _ _ _⟩
 |alloc e c hA hr hv ho=>
  obtain⟨rfl,rfl,rfl⟩:=Al e;obtain⟨h1,h2⟩:=H.alloc c hA ho;exact⟨_,_,_,.inl hr,hv,h1,h2⟩
theorem Dt{x:Operand}(ho:o.op= .move x\/o.op= .assign x)(e:(K8 s L x).run f t l h n= .ok v h' n')(hT:RT s θ t ac.tmps)(hL:LR s θ L l ac.tmps)(H:RH P sl θ h n w):gP P sl θ h n w ((execOp ac.eval o).run P w) v h' n':=by
 obtain⟨h1,rfl,rfl⟩:=gV (show ok1 ((co s L x).run t l) h n= .ok v h' n' from e);refine .same H ?_ (bG h1 hT hL);rcases ho with ho|ho<;>simp only[execOp,ho]<;>rfl
theorem Lg{c a b:Operand}(ho:o.op= .pick c a b)(e:(Dj s L c a b).run f t l h n= .ok v h' n')(hT:RT s θ t ac.tmps)(hL:LR s θ L l ac.tmps)(H:RH P sl θ h n w):gP P sl θ h n w ((execOp ac.eval o).run P w) v h' n':=by
 simp only[Dj]at e;split at e
 .rename_i h0
  have hc:ac.eval c= .bool true:=bG h0 hT hL;obtain⟨h1,rfl,rfl⟩:=gV e;exact .same H (by simp[execOp,ho,hc,asBool]) (bG h1 hT hL)
 .rename_i h0
  have hc:ac.eval c= .bool false:=bG h0 hT hL;obtain⟨h1,rfl,rfl⟩:=gV e;exact .same H (by simp[execOp,ho,hc,asBool]) (bG h1 hT hL)
 .cases e
theorem r9{ty:TypeId}{a:AV}(e:zeroV P ty=some a):∃i z,P.info? ty=some i/\i.zero=some z/\aV θ a z:=by
 obtain⟨z,h1,h2⟩:=aB e;cases hi:P.info? ty with
 |none=>rw[hi]at h1;cases h1
 |some i=>rw[hi]at h1;exact⟨i,z,rfl,h1,ni h2⟩
theorem jR{ty:TypeId}{c:List AV}(e:kL P ty=some c):∃i z,P.info? ty=some i/\i.zero=some z/\eU θ c z.cells.toList/\∀x∈z.cells.toList,x.oneCell'=true:=by
 obtain⟨a,h1,h2⟩:=aB e;obtain⟨i,z,h3,h4,h5⟩:=r9 (θ:=θ) h1;obtain⟨h6,h7⟩:=Bt h2 h5;exact⟨i,z,h3,h4,h6,h7⟩
theorem rW.whole{ty:TypeId}{c:List AV}{cs:Array Value}{k:Nat}(hk:cs.size=k*P.cellsOf ty)(hv:eU θ c cs.toList)(h1:∀x∈cs.toList,x.oneCell'=true):rW P sl θ k (.row ty c) (.cells cs ty (0,0)):=
 ⟨cs,cs.toList,[],rfl,hk,by simp,hv,h1⟩
theorem Ao{ty:TypeId}(ho:o.op= .alloc ty)(e:(ET P s L ty).run f t l h n= .ok v h' n'):gP P sl θ h n w ((execOp ac.eval o).run P w) v h' n':=by
 obtain⟨z,h1,h2⟩:=aT (show aM (kL P ty) _= .ok v h' n' from e);obtain⟨h3,h4⟩:=iP h2;obtain⟨i,zv,hi,hz,hv,hone⟩:=jR (θ:=θ) h1;have hlen:zv.cells.size=P.cellsOf ty:=by
  have:=beq_eq h3;rw[eD]at this;have h5:=hv.length;rw[Array.length_toList]at h5;rw[h5];exact this
 refine .alloc h4 1 (rW.whole (by rw[hlen];omega) hv hone) (x:=.pointer (some ⟨w.heap.size,0,none⟩)) ?_ ⟨w.heap.size,1,Th.dx _ _ _,rfl⟩;simp[execOp,ho,Instr.alloc,zeroValue,typeInfo,hi,hz,newVar,newRow]
theorem Hw{ty:TypeId}{x:Operand}(ho:o.op= .box ty x)(e:(Tz P s L ty x).run f t l h n= .ok v h' n')(hT:RT s θ t ac.tmps)(hL:LR s θ L l ac.tmps):gP P sl θ h n w ((execOp ac.eval o).run P w) v h' n':=by
 obtain⟨a,h1,h2⟩:=aT (show aM ((co s L x).run t l) _= .ok v h' n' from e);obtain⟨c,h3,h4⟩:=aT h2;obtain⟨h5,h6⟩:=iP h4;obtain⟨hv,hone⟩:=Bt h3 (bG h1 hT hL);have hlen:(ac.eval x).cells.size=P.cellsOf ty:=by
  have:=beq_eq h5;rw[eD]at this;have h7:=hv.length;rw[Array.length_toList]at h7;rw[h7];exact this
 refine .alloc h6 1 (rW.whole (by rw[hlen];omega) hv hone) (x:=.pointer (some ⟨w.heap.size,0,none⟩)) ?_ ⟨w.heap.size,1,Th.dx _ _ _,rfl⟩;simp[execOp,ho,Instr.box,newVar,newRow]
theorem EZ{x:Operand}{b k:Nat}(e:(co s L x).run t l=some (.p b k))(hT:RT s θ t ac.tmps)(hL:LR s θ L l ac.tmps):∃r c,θ b=some (r,c)/\ac.eval x= .pointer (some ⟨r,k,none⟩):=bG e hT hL
theorem Du{ty:TypeId}{b k r c:Nat}(e:yc P ty h b k=some v)(hr:θ b=some (r,c))(H:RH P sl θ h n w):∃u,(loadVar ty ⟨r,k,none⟩).run P w= .ok u w/\aV θ v u:=by
 obtain⟨c0,h1,h2⟩:=aB e;obtain⟨r',c',cs,t0,fz,vs,e1,e2,e4,hone,e6⟩:=H.cut h1;rw[hr]at e1;cases e1;rcases Lf h2 e4 hone with⟨us,d,g1,g2,g3,g4,g5,_⟩|⟨u,d,g1,g2,g3,g4⟩
 .exact⟨_,run_loadVar_mid w r k ty us d (λj u hu=>by rw[iB e2];exact e6 _ _ (by have:=g5 j u hu;rwa [Nat.zero_add]at this)) g2 g3 g4,g1⟩
 .refine⟨u,?_,g1⟩
  have hc:w.cell? ⟨r,k,none⟩=some u:=by rw[iB e2];exact e6 _ _ g4
  have ha:(isAgg ty).run P w= .ok false w:=run_isAgg_plain g2 (by cases d<;>first|rfl|simp at g3) w;simp[loadVar,ha,load,Sem.run,hc]
theorem Lh{ty:TypeId}{x:Operand}(ho:o.op= .load ty x)(e:(Dl P s L ty x).run f t l h n= .ok v h' n')(hT:RT s θ t ac.tmps)(hL:LR s θ L l ac.tmps)(H:RH P sl θ h n w):gP P sl θ h n w ((execOp ac.eval o).run P w) v h' n':=by
 simp only[Dl]at e;split at e
 .rename_i b k h0
  obtain⟨r,c,hr,hp⟩:=EZ h0 hT hL;obtain⟨h1,rfl,rfl⟩:=gV e;obtain⟨u,h2,h3⟩:=Du h1 hr H;exact .same H (by simp[execOp,ho,hp,Instr.loadAt,Instr.sureAddr,h2]) h3
 .cases e
theorem lF{b:Nat}{ty:TypeId}:∀(us:List Value)(o:Nat)(w:World)(cs:Array Value),w.heap[b]?=some (.cells cs ty (0,0))->o+us.length<=cs.size->
 ∃cs':Array Value,cs'.toList=cs.toList.take o++(us++cs.toList.drop (o+us.length))/\(∀k,(w.setCells b o us).heap[k]?=if k=b then some (.cells cs' ty (0,0))else w.heap[k]?)/\
  (w.setCells b o us).heap.size=w.heap.size/\(w.setCells b o us).os=w.os/\(w.setCells b o us).tape=w.tape/\(w.setCells b o us).output=w.output
 |[],o,w,cs,h,_=>⟨cs,by simp,λk=>by show w.heap[k]?=_;split<;>simp_all,rfl,rfl,rfl,rfl⟩
 |u::us,o,w,cs,h,hle=>by
  have hb:(w.setCell ⟨b,o,none⟩ u).heap[b]?=some (.cells (cs.setIfInBounds o u) ty (0,0)):=by
   show(w.heap.modify b _)[b]?=_;rw[Array.getElem?_modify,if_pos rfl,h];rfl
  have ho:o<cs.size:=by simp at hle;omega
  obtain⟨cs',h1,h2,h3,h4,h5,h6⟩:=lF us (o+1) (w.setCell ⟨b,o,none⟩ u) (cs.setIfInBounds o u) hb (by simp at hle⊢;omega);refine⟨cs',?_,λk=>?_,?_,h4,h5,h6⟩
  .rw[h1,Array.toList_setIfInBounds]
   have ho':o<cs.toList.length:=by simpa using ho
   have e1:(cs.toList.set o u).take (o+1)=cs.toList.take o++[u]:=by
    have hlen:(cs.toList.take o).length=o:=by rw[List.length_take];omega
    rw[List.take_set,List.take_succ_eq_append_getElem ho',List.set_append_right _ _ (by omega),hlen,Nat.sub_self];rfl
   have e2:(cs.toList.set o u).drop (o+1+us.length)=cs.toList.drop (o+(us.length+1)):=by
    rw[List.drop_set_of_lt (by omega),show o+1+us.length=o+(us.length+1) by omega]
   rw[e1,e2];simp
  .rw[show w.setCells b o (u::us)=(w.setCell ⟨b,o,none⟩ u).setCells b (o+1) us from rfl,h2]
   split
   .rfl
   .rename_i hk
    exact Go.RowKit.Below.heap_setCell w ⟨b,o,none⟩ u k hk
  .rw[show w.setCells b o (u::us)=(w.setCell ⟨b,o,none⟩ u).setCells b (o+1) us from rfl,h3];simp[World.setCell]
end
end
section
section
variable {P:Program} {sl:FuncId->Sl} {θ:Th} {h h':AH} {n n':Nat} {w:World} {s:Sl} {L:List Tmp} {t:Tr AV} {l:List AV} {ac:Act} {o:Oper} {f:FT} {v:AV}
theorem RH.write(H:RH P sl θ h n w){x r c:Nat}{ty:TypeId}{l m u:List AV}{us:List Value}{k:Nat}(e:h.get x=some (.row ty l))(hr:θ x=some (r,c))(hm:u_ u k l=some m)(hu:eU θ u us)(h1:∀y∈us,y.oneCell'=true):
 (storeCells ⟨r,k,none⟩ us).run P w= .ok () (w.setCells r k us)/\RH P sl θ (h.set x (.row ty m)) n (w.setCells r k us)/\Fr θ h w θ (h.set x (.row ty m)) (w.setCells r k us):=by
 obtain⟨r',c',cs,vs,e1,e2,e3,e4,e5,e6,e7,rest,e8⟩:=H.row e;rw[hr]at e1;cases e1;obtain⟨g1,rfl⟩:=lW hm;have Bu:=hu.length;have hcs:cs.size=vs.length+rest.length:=by rw[<-Array.length_toList,e8,List.length_append]
 have hle:k+us.length<=cs.size:=by omega
 obtain⟨cs',f1,f2,f3,f4,f5,f6⟩:=lF us k w cs e2 hle;have hrun:=run_storeCells_cells (P:=P) r k us 0 w (λj hj=>by rw[iB e2,Array.getElem?_eq_getElem (by omega)];rfl) (λj hj=>jQ e2 _) h1;refine⟨by simpa using hrun,?_⟩;have hsz:cs'.size=cs.size:=by
  rw[<-Array.length_toList,f1,List.length_append,List.length_append,List.length_take,List.length_drop,Array.length_toList];omega
 have h2:eU θ (l.take k++(u++l.drop (k+u.length))) (vs.take k++(us++vs.drop (k+us.length))):=by
  rw[Bu];exact(e4.take k).append (hu.append (e4.drop _))
 refine H.turn e hr (o':=.row ty (l.take k++(u++l.drop (k+u.length)))) (zX:=.cells cs' ty (0,0)) ⟨cs',_,rest,rfl,by rw[hsz];exact e3,?_,h2,?_⟩ f4 f5 f6 f3 f2 (λ_ _ ⟨_,_,_,q,_⟩=>by cases q)
 .rw[f1,e8,List.take_append_of_le_length (by omega),List.drop_append_of_le_length (by omega)];simp
 .intro y hy
  rw[f1]at hy;rcases List.mem_append.1 hy with hy|hy
  .exact e5 y (List.mem_of_mem_take hy)
  .rcases List.mem_append.1 hy with hy|hy
   .exact h1 y hy
   .exact e5 y (List.mem_of_mem_drop hy)
theorem Jc{ty:TypeId}{a x:Operand}(ho:o.op= .store ty a x)(e:(EU P s L ty a x).run f t l h n= .ok v h' n')(hT:RT s θ t ac.tmps)(hL:LR s θ L l ac.tmps)(H:RH P sl θ h n w):KN P sl θ h w ((execOp ac.eval o).run P w) v h' n':=by
 obtain⟨av,h1,h2⟩:=aT (show aM ((co s L a).run t l) _= .ok v h' n' from e);obtain⟨xv,h3,h4⟩:=aT h2;obtain⟨sz,h5,h6⟩:=aT h4;obtain⟨i,hi,hsz⟩:=iL h5;unfold yj at h6;split at h6
 case h_2=>cases h6
 rename_i b k;obtain⟨r,c,hr,hp⟩:=EZ h1 hT hL;split at h6
 case h_2=>cases h6
 rename_i t0 l0 hg;obtain⟨u,h7,h8⟩:=aT h6;obtain⟨h9,h10⟩:=iP h8;obtain⟨m,h11,h12⟩:=aT h10;cases h12
 obtain⟨hv,hone⟩:=Bt h7 (bG h3 hT hL);obtain⟨g1,g2,g3⟩:=H.write hg hr h11 hv hone;have hlen:(ac.eval x).cells.size=i.size:=by
  have:=beq_eq h9;rw[eD]at this;have Xx:=hv.length;rw[Array.length_toList]at Xx;omega
 refine⟨θ,undef,_,.inr ⟨?_,rfl⟩,⟨[],rfl,rfl⟩,g2,g3⟩;simp[execOp,ho,hp,Instr.storeAt,Instr.sureAddr,storeVar,sizeOf,typeInfo,hi,hlen,g1]
theorem Bv{x:Operand}(ho:o.op= .nilCheck x)(e:(qj s L x).run f t l h n= .ok v h' n')(hT:RT s θ t ac.tmps)(hL:LR s θ L l ac.tmps)(H:RH P sl θ h n w):gP P sl θ h n w ((execOp ac.eval o).run P w) v h' n':=by
 obtain⟨a,h1,h2⟩:=aT (show aM ((co s L x).run t l) _= .ok v h' n' from e);have hv:=bG h1 hT hL;split at h2
 .cases h2;refine .same H ?_ hv
  obtain⟨r,c,hr,hp⟩:=id hv;simp[execOp,ho,hp]
 .cases h2;refine .same H ?_ hv
  obtain⟨vs,_,hp⟩:=id hv;simp[execOp,ho,hp]
 .cases h2;refine .same H ?_ hv
  obtain⟨r,c,hr,hp⟩:=id hv;simp[execOp,ho,hp]
 .cases h2
theorem Pf{ty:TypeId}{x:Operand}(ho:o.op= .unOp .not ty x)(e:(O7 s L x).run f t l h n= .ok v h' n')(hT:RT s θ t ac.tmps)(hL:LR s θ L l ac.tmps)(H:RH P sl θ h n w):gP P sl θ h n w ((execOp ac.eval o).run P w) v h' n':=by
 obtain⟨a,h1,h2⟩:=aT (show aM ((co s L x).run t l) _= .ok v h' n' from e);have hv:=bG h1 hT hL;split at h2
 .cases h2
  have hp:ac.eval x= .bool _:=hv;refine .same H ?_ rfl;simp[execOp,ho,hp,Op.unary,jk]
 .cases h2
theorem Pg{ty:TypeId}{x:Operand}(ho:o.op= .unOp .neg ty x)(e:(O8 s L x).run f t l h n= .ok v h' n')(hT:RT s θ t ac.tmps)(hL:LR s θ L l ac.tmps)(H:RH P sl θ h n w):gP P sl θ h n w ((execOp ac.eval o).run P w) v h' n':=by
 obtain⟨a,h1,h2⟩:=aT (show aM ((co s L x).run t l) _= .ok v h' n' from e);have hv:=bG h1 hT hL;split at h2
 .cases h2
  have hp:ac.eval x= .int _ _:=hv;refine .same H ?_ rfl;simp only[execOp,ho,hp,Op.unary,Op.intArith,vD];rfl
 .cases h2
theorem tO{ty:TypeId}{x:Operand}(ho:o.op= .makeInterface ty x)(e:(iJ P s L ty x).run f t l h n= .ok v h' n')(hT:RT s θ t ac.tmps)(hL:LR s θ L l ac.tmps)(H:RH P sl θ h n w):gP P sl θ h n w ((execOp ac.eval o).run P w) v h' n':=by
 obtain⟨a,h1,h2⟩:=aT (show aM ((co s L x).run t l) _= .ok v h' n' from e);have hv:=bG h1 hT hL;split at h2
 .cases h2
 .rename_i d hn hd
  cases h2
  refine .same H ?_ ⟨_,hv,rfl⟩;simp only[execOp,ho,Instr.makeInterface,Sem.run_bind,run_underlying hd,Result.andThen_ok];cases d<;>first|rfl|exact absurd rfl (hn _)
 .cases h2
theorem Bw{g:FuncId}{cs:List Operand}{ca:Array Operand}(ho:o.op= .makeFunc (.func g) ⟨[]⟩ ca)(hc:ca.toList=cs)(e:(qm s L g cs).run f t l h n= .ok v h' n')(hT:RT s θ t ac.tmps)(hL:LR s θ L l ac.tmps)(H:RH P sl θ h n w):gP P sl θ h n w ((execOp ac.eval o).run P w) v h' n':=by
 obtain⟨a,h1,h2⟩:=aT (show aM ((col s L cs).run t l) _= .ok v h' n' from e);cases h2
 refine .same H ?_ ⟨_,Br hT hL h1,rfl⟩;subst hc;simp only[execOp,ho,Instr.makeFunc];rw[show(List.map ac.eval ca.toList).toArray=ca.map ac.eval from Array.toList_inj.1 (by simp)];simp
theorem rW.Xz(P:Program)(sl:FuncId->Sl)(θ:Th):rW P sl θ 0 (.mp [] 0) (.map #[] 0):=⟨#[],rfl,rfl⟩
theorem wI{ty:TypeId}(ho:o.op= .makeMap ty none)(e:(Dm s L).run f t l h n= .ok v h' n'):gP P sl θ h n w ((execOp ac.eval o).run P w) v h' n':=by
 refine .alloc e 0 (rW.Xz P sl θ) (x:=.map (some w.heap.size)) ?_ ⟨w.heap.size,0,Th.dx _ _ _,rfl⟩;simp[execOp,ho,Instr.makeMap]
theorem tQ{ty:TypeId}{k:IntKind}{i:Int}(ho:o.op= .makeMap ty (some (.const (.int k i))))(e:(qo P s L ty).run f t l h n= .ok v h' n'):gP P sl θ h n w ((execOp ac.eval o).run P w) v h' n':=by
 simp only[qo]at e;split at e
 .rename_i a b hd
  refine .alloc e 0 (rW.Xz P sl θ) (x:=.map (some w.heap.size)) ?_ ⟨w.heap.size,0,Th.dx _ _ _,rfl⟩;simp[execOp,ho,Instr.makeMap,run_underlying hd,Act.eval,asInt,asIntOf]
 .cases e
theorem Dv{ty:TypeId}{k:Nat}{d:Field}(e:Ws P ty k=some d):∃fs,P.underlying ty=some (.struct fs)/\fs[k]?=some d:=by
 unfold Ws at e;split at e
 .exact⟨_,‹_›,e⟩
 .cases e
theorem zY{ty:TypeId}{x:Operand}{k:Nat}(ho:o.op= .fieldAddr ty x k)(e:(jL P s L ty x k).run f t l h n= .ok v h' n')(hT:RT s θ t ac.tmps)(hL:LR s θ L l ac.tmps)(H:RH P sl θ h n w):gP P sl θ h n w ((execOp ac.eval o).run P w) v h' n':=by
 unfold jL at e;split at e
 .cases e
 rename_i d hd;split at e
 .cases e
 rename_i sz hsz;obtain⟨i,hi,rfl⟩:=iL hsz;obtain⟨fs,hu,hf⟩:=Dv hd;cases hz:Nat.beq i.size 0 with
 |true=>rw[hz]at e;cases e
 |false=>
  rw[hz,gu]at e;have hz':¬i.size=0:=λe0=>by rw[e0]at hz;cases hz
  simp only at e;split at e
  .rename_i b m h0
   obtain⟨r,c,hr,hp⟩:=EZ h0 hT hL;cases e
   refine .same H ?_ ⟨r,c,hr,rfl⟩;simp[execOp,ho,hp,Instr.fieldAt,Instr.sureAddr,run_underlying hu,hf,fieldPlace,sizeOf,typeInfo,hi,hz',Addr.add_mid]
  .cases e
theorem tT{ty:TypeId}{c:List AV}{vs:List Value}{k:Nat}(e:(KM P ty).run c k=some v)(hv:eU θ c vs)(h1:∀x∈vs,x.oneCell'=true):∃u,(part ty vs.toArray k).run P w= .ok u w/\aV θ v u:=by
 rcases Lf e hv h1 with⟨us,d,g1,g2,g3,g4,g5,g6⟩|⟨u,d,g1,g2,g3,g4⟩
 .refine⟨_,?_,g1⟩
  have ha:(isAgg ty).run P w= .ok true w:=by
   unfold isAgg;rw[Sem.run_bind,run_underlying g2 w];cases d<;>first|rfl|(simp at g3;done)
  cases hi:P.info? ty with
  |none=>rw[hi]at g4;cases g4
  |some i=>
   rw[hi]at g4;have hs:i.size=us.length:=by simpa using g4
   simp only[part,ha,Sem.run_bind,Result.andThen_ok,if_true,sizeOf,typeInfo,run_program,hi,Sem.run_pure,hs];congr 2;apply Array.toList_inj.1;rw[Array.toList_extract,List.extract_eq_take_drop,Nat.add_sub_cancel_left];exact g6.symm
 .refine⟨u,?_,g1⟩
  have ha:(isAgg ty).run P w= .ok false w:=run_isAgg_plain g2 (by cases d<;>first|rfl|simp at g3) w;simp[part,ha,g4]
theorem Je{ty:TypeId}{x:Operand}{k:Nat}(ho:o.op= .field ty x k)(e:(yx P s L ty x k).run f t l h n= .ok v h' n')(hT:RT s θ t ac.tmps)(hL:LR s θ L l ac.tmps)(H:RH P sl θ h n w):gP P sl θ h n w ((execOp ac.eval o).run P w) v h' n':=by
 unfold yx at e;split at e
 .cases e
 rename_i d hd;obtain⟨fs,hu,hf⟩:=Dv hd;simp only at e;split at e
 .rename_i c h0
  obtain⟨vs,hv,hone,hp⟩:=bG h0 hT hL;obtain⟨h1,rfl,rfl⟩:=gV e;obtain⟨u,h2,h3⟩:=tT (w:=w) h1 hv hone;refine .same H ?_ h3;simp[execOp,ho,hp,Instr.field,run_underlying hu,hf,asAgg,h2]
 .cases e
theorem Dw{x:Operand}{k:Nat}(ho:o.op= .extract x k)(e:(oM s L x k).run f t l h n= .ok v h' n')(hT:RT s θ t ac.tmps)(hL:LR s θ L l ac.tmps)(H:RH P sl θ h n w):gP P sl θ h n w ((execOp ac.eval o).run P w) v h' n':=by
 simp only[oM]at e;split at e
 .rename_i c h0
  obtain⟨vs,hv,hp⟩:=bG h0 hT hL;obtain⟨h1,rfl,rfl⟩:=gV e;rw[m_]at h1;obtain⟨u,h2,h3⟩:=hv.get k h1;refine .same H ?_ h3;simp[execOp,ho,hp,Instr.extract,h2]
 .cases e
theorem zZ{ty:TypeId}{x ix:Operand}(ho:o.op= .indexAddr ty x ix)(e:(jM P s L ty x ix).run f t l h n= .ok v h' n')(hT:RT s θ t ac.tmps)(hL:LR s θ L l ac.tmps)(H:RH P sl θ h n w):gP P sl θ h n w ((execOp ac.eval o).run P w) v h' n':=by
 unfold jM at e;split at e
 .rename_i el hu
  split at e
  .cases e
  rename_i sz hsz;obtain⟨i,hi,rfl⟩:=iL hsz;simp only at e;split at e
  .rename_i b l0 o0 m c0 k0 k h0 h1
   obtain⟨r,c,hr,_,hp⟩:=bG h0 hT hL;have hk:ac.eval ix= .int k0 k:=bG h1 hT hL;obtain⟨h2,rfl,rfl⟩:=gV e;obtain⟨j,rfl,hj,h3⟩:=tN h2;cases h3
   refine .same H ?_ ⟨r,c,hr,rfl⟩;simp[execOp,ho,hp,hk,Instr.indexAt,asIntOf,run_underlying hu,hj,sizeOf,typeInfo,hi,Addr.add_mid]
  .cases e
 .rename_i m el hu
  split at e
  .cases e
  rename_i sz hsz;obtain⟨i,hi,rfl⟩:=iL hsz;simp only at e;split at e
  .rename_i b o0 k0 k h0 h1
   obtain⟨r,c,hr,hp⟩:=bG h0 hT hL;have hk:ac.eval ix= .int k0 k:=bG h1 hT hL;obtain⟨h2,rfl,rfl⟩:=gV e;obtain⟨j,rfl,hj,h3⟩:=tN h2;cases h3
   refine .same H ?_ ⟨r,c,hr,rfl⟩;simp[execOp,ho,hp,hk,Instr.indexAt,Instr.sureAddr,asIntOf,run_underlying hu,hj,sizeOf,typeInfo,hi,Addr.add_mid]
  .cases e
 .cases e
end
end
section
section
variable {P:Program} {sl:FuncId->Sl} {θ:Th} {h h':AH} {n n':Nat} {w:World} {s:Sl} {L:List Tmp} {t:Tr AV} {l:List AV} {ac:Act} {o:Oper} {f:FT} {v:AV}
theorem Bz{j k:IntKind}(h:w9 j k=true):j=k:=of_decide_eq_true h
theorem BA{D:Nat}{q:TypeId->K6}(hq:∀ty x y e U V,(q ty).run x y=some e->aV θ x U->aV θ y V->(Op.equalIn D ty U V).run P w= .ok e w)
 {a b:List AV}{xs ys:List Value}(ha:eU θ a xs)(hb:eU θ b ys)(h1:∀x∈xs,x.oneCell'=true)(h2:∀x∈ys,x.oneCell'=true):∀(fs:List Field)(r:Bool),(EM P q fs).run (.agg a) (.agg b)=some r->
 (forIn fs ((none,()):Option Bool×Unit) λf _=>(if f.name≠ "_" then do
  let u <-part f.type xs.toArray f.offset;let v <-part f.type ys.toArray f.offset;let e <-Op.equalIn D f.type u v;if(!e)=true then pure (ForInStep.done (some false,()))else pure (ForInStep.yield (none,()))
  else pure (ForInStep.yield (none,())):Sem (ForInStep (Option Bool×Unit)))).run P w= .ok (bc r none (some false),()) w
 |[],r,e=>by cases e;rfl
 |d::fs,r,e=>by
  rw[List.forIn_cons,Sem.run_bind];cases hn:(d.name== "_")with
  |true=>
   have hn':d.name= "_":=by simpa using hn
   have e':(EM P q fs).run (.agg a) (.agg b)=some r:=by
    have:(bc (d.name== "_") (EM P q fs) _:K6).run (.agg a) (.agg b)=some r:=e
    rwa [hn,bF]at this
   rw[if_neg (by simp[hn'])];exact BA hq ha hb h1 h2 fs r e'
  |false=>
   have hn':d.name≠ "_":=by simpa using hn
   have e0:(bc (d.name== "_") (EM P q fs) _:K6).run (.agg a) (.agg b)=some r:=e;rw[hn,gu]at e0;obtain⟨u,g1,g2⟩:=aB e0;obtain⟨v,g3,g4⟩:=aB g2;obtain⟨b0,g5,g6⟩:=aB g4;obtain⟨U,k1,k2⟩:=tT (P:=P) (w:=w) g1 ha h1;obtain⟨V,k3,k4⟩:=tT (P:=P) (w:=w) g3 hb h2;have k5:=hq _ _ _ _ _ _ g5 k2 k4;rw[if_pos hn',Sem.run_bind,k1,Result.andThen_ok,Sem.run_bind,k3,Result.andThen_ok,Sem.run_bind,k5,Result.andThen_ok];cases b0 with
   |false=>cases g6;rfl
   |true=>exact BA hq ha hb h1 h2 fs r g6
theorem BD(w:World):∀(d:Nat)(ty:TypeId)(x y:AV)(e:Bool)(U V:Value),(qZ P d ty).run x y=some e->aV θ x U->aV θ y V->∀D,d<=D->(Op.equalIn D ty U V).run P w= .ok e w
 |0,_,_,_,_,_,_,h,_,_,_,_=>by cases h
 |d+1,ty,x,y,e,U,V,h,hx,hy,0,hD=>by omega
 |d+1,ty,x,y,e,U,V,h,hx,hy,D+1,hD=>by
  cases hu:P.underlying ty with
  |none=>
   have hud:und P ty= .invalid:=by unfold und;rw[hu];rfl
   unfold qZ at h;rw[hud]at h;cases h
  |some dd=>
   have hud:=Le hu;unfold qZ at h;rw[hud]at h;cases dd<;>try(cases h;done)
   case bool=>
    cases x<;>cases y<;>try(cases h;done)
    cases hx;cases hy
    rename_i p q;simp only[Op.equalIn,Sem.run_bind,run_underlying hu,Result.andThen_ok];cases p<;>cases q<;>cases h<;>rfl
   case int k=>
    cases x<;>cases y<;>try(cases h;done)
    cases hx;cases hy
    obtain⟨h1,h2⟩:=bI h;cases Bz h1;cases h2
    simp only[Op.equalIn,Sem.run_bind,run_underlying hu,Result.andThen_ok,if_true,cK];rfl
   case string=>
    cases x<;>cases y<;>try(cases h;done)
    cases hx;cases hy;cases h
    rename_i p q;simp only[Op.equalIn,Sem.run_bind,run_underlying hu,Result.andThen_ok,iX];rw[show((⟨p.toArray⟩:ByteArray)==⟨q.toArray⟩)=(p==q)from by show(p.toArray==q.toArray)=_;simp];rfl
   case pointer el=>
    simp only at h;split at h<;>cases h
    .cases hx;cases hy
     simp only[Op.equalIn,Sem.run_bind,run_underlying hu,Result.andThen_ok,kv];rfl
    .cases hx;obtain⟨r,c,_,rfl⟩:=hy
     simp only[Op.equalIn,Sem.run_bind,run_underlying hu,Result.andThen_ok,kv];rfl
    .cases hy;obtain⟨r,c,_,rfl⟩:=hx
     simp only[Op.equalIn,Sem.run_bind,run_underlying hu,Result.andThen_ok,kv];rfl
   case slice el=>
    simp only at h;split at h<;>cases h
    .cases hx;cases hy
     simp only[Op.equalIn,Sem.run_bind,run_underlying hu,Result.andThen_ok,kv];rfl
    .cases hx;obtain⟨r,c,_,_,rfl⟩:=hy
     simp only[Op.equalIn,Sem.run_bind,run_underlying hu,Result.andThen_ok,kv];rfl
    .cases hy;obtain⟨r,c,_,_,rfl⟩:=hx
     simp only[Op.equalIn,Sem.run_bind,run_underlying hu,Result.andThen_ok,kv];rfl
    .cases hx;obtain⟨_,_,rfl⟩:=hy
     simp only[Op.equalIn,Sem.run_bind,run_underlying hu,Result.andThen_ok,kv];rfl
    .cases hy;obtain⟨_,_,rfl⟩:=hx
     simp only[Op.equalIn,Sem.run_bind,run_underlying hu,Result.andThen_ok,kv];rfl
   case map k el=>
    simp only at h;split at h<;>cases h
    .cases hx;cases hy
     simp only[Op.equalIn,Sem.run_bind,run_underlying hu,Result.andThen_ok,kv];rfl
    .cases hx;obtain⟨r,c,_,rfl⟩:=hy
     simp only[Op.equalIn,Sem.run_bind,run_underlying hu,Result.andThen_ok,kv];rfl
    .cases hy;obtain⟨r,c,_,rfl⟩:=hx
     simp only[Op.equalIn,Sem.run_bind,run_underlying hu,Result.andThen_ok,kv];rfl
   case func a b c=>
    simp only at h;split at h<;>cases h
    .cases hx;cases hy
     simp only[Op.equalIn,Sem.run_bind,run_underlying hu,Result.andThen_ok,kv];rfl
    .cases hx;obtain⟨r,_,rfl⟩:=hy
     simp only[Op.equalIn,Sem.run_bind,run_underlying hu,Result.andThen_ok,kv];rfl
    .cases hy;obtain⟨r,_,rfl⟩:=hx
     simp only[Op.equalIn,Sem.run_bind,run_underlying hu,Result.andThen_ok,kv];rfl
   case interface ms=>
    simp only at h;split at h<;>cases h
    .cases hx;obtain⟨r,_,rfl⟩:=hy
     simp only[Op.equalIn,Sem.run_bind,run_underlying hu,Result.andThen_ok,kv];rfl
    .cases hy;obtain⟨r,_,rfl⟩:=hx
     simp only[Op.equalIn,Sem.run_bind,run_underlying hu,Result.andThen_ok,kv];rfl
   case struct fs=>
    cases hs:P.stoodInHeld ty with
    |true=>rw[hs]at h;cases h
    |false=>
     rw[hs]at h;simp only[gu]at h;split at h
     .obtain⟨xs,h1,h2,rfl⟩:=hx
      obtain⟨ys,h3,h4,rfl⟩:=hy;have k:=BA (P:=P) (w:=w) (D:=D) (λty x y e U V g1 g2 g3=>BD w d ty x y e U V g1 g2 g3 D (by omega)) h1 h3 h2 h4 fs.toList e h;simp only[Op.equalIn,Sem.run_bind,run_underlying hu,Result.andThen_ok,run_program,hs,Bool.false_eq_true,if_false];rw[<-Array.forIn_toList,k];cases e<;>rfl
     .cases h
end
end
section
section
variable {P:Program} {sl:FuncId->Sl} {θ:Th} {h h':AH} {n n':Nat} {w:World} {s:Sl} {L:List Tmp} {t:Tr AV} {l:List AV} {ac:Act} {o:Oper} {f:FT} {v:AV}
theorem Jf{g:IntKind->Int->Int->Option AV}{q:AV->AV->Option AV}{x y:AV}(e:tH g q x y=some v):(∃j a b,x= .i j a/\y= .i j b/\g j a b=some v)\/((∀j a k b,¬(x= .i j a/\y= .i k b))/\q x y=some v):=by
 unfold tH at e;split at e
 .obtain⟨h1,h2⟩:=bI e
  cases Bz h1
  exact .inl ⟨_,_,_,rfl,rfl,h2⟩
 .rename_i hn
  exact .inr ⟨λj a k b ⟨h1,h2⟩=>hn j a k b h1 h2,e⟩
theorem Ph{α:Type}[DecidableEq α](a b:α):(a==b)=decide (a=b):=rfl
theorem RL(a b:Int):qh (lD b a)=decide (a<b):=by
 rw[jk,eP,Bool.eq_iff_iff];simp
theorem XA(a b:Int):qh (fM a b)=(a !=b):=by
 rw[jk,cK,Bool.eq_iff_iff];simp
theorem Pj(a b:Int):Int.sub a b=a - b:=rfl
def yC:Value->Bool
 | .float _ _| .complex _ _ _=>false
 |_=>true
theorem tV(c:Nat):kv c= .pointer none\/kv c= .slice none 0 0\/kv c= .map none\/kv c= .nilFunc\/kv c= .nilIface:=by
 unfold kv;split<;>simp
theorem aV.plain{x:AV}{U:Value}(hx:aV θ x U):yC U=true:=by
 cases x with
 |p x o=>obtain⟨r,c,_,rfl⟩:=hx;rfl
 |sl x a b c d=>obtain⟨r,c,_,_,rfl⟩:=hx;rfl
 |m x=>obtain⟨r,c,_,rfl⟩:=hx;rfl
 |f g c=>obtain⟨r,_,rfl⟩:=hx;rfl
 |y x=>obtain⟨r,c,_,rfl⟩:=hx;rfl
 |zP t x=>obtain⟨r,_,rfl⟩:=hx;rfl
 |agg l=>obtain⟨r,_,_,rfl⟩:=hx;rfl
 |bN l=>obtain⟨r,_,rfl⟩:=hx;rfl
 |es a c=>obtain⟨_,_,rfl⟩:=hx;rfl
 |k c=>cases hx;rcases tV c with e|e|e|e|e<;>rw[e]<;>rfl
 |_=>cases hx;rfl
theorem binOp_eql(ty:TypeId){U V:Value}{r:Bool}(h1:∀j a k b,¬(U= .int j a/\V= .int k b))(h2:∀a b,¬(U= .string a/\V= .string b))(h3:yC U=true)(h4:yC V=true)
 (hr:(Op.equal ty U V).run P w= .ok r w):(binOp .eql ty U V).run P w= .ok (.bool r) w/\(binOp .neq ty U V).run P w= .ok (.bool (!r)) w:=by
 cases U<;>cases V<;>first
  |exact absurd ⟨rfl,rfl⟩ (h1 _ _ _ _)
  |exact absurd ⟨rfl,rfl⟩ (h2 _ _)
  |(simp[yC]at h3;done)
  |(simp[yC]at h4;done)
  |exact⟨by simp only[binOp,Sem.run_bind,hr,Result.andThen_ok];rfl,by simp only[binOp,Sem.run_bind,hr,Result.andThen_ok];rfl⟩
theorem XB(d:Nat)(ty:TypeId)(a b:Nat){r:Bool}(e:(qZ P d ty).run (.k a) (.k b)=some r):a<4:=by
 cases d with
 |zero=>cases e
 |succ d=>
  unfold qZ at e;split at e;all_goals(try(cases e;done))
  all_goals(try(cases hs:P.stoodInHeld ty<;>(rw[hs]at e;exact absurd e (λh=>by cases h))))
  all_goals first|(simp only at e;cases e;done)|(simp only at e;split at e<;>first|(cases e;done)|simp_all)
theorem E5{q:BinOp}{ty:TypeId}{xo yo:Operand}{U V:Value}(hq:q= .eql\/q= .neq)(h5:¬(U= .nilIface/\V= .nilIface))(hg:P.eqGuardType P.depth ty=false):(eqGuard q ty xo yo U V).run P w= .ok () w:=by
 rcases hq with rfl|rfl<;>cases U<;>cases V<;>first
  |exact absurd ⟨rfl,rfl⟩ h5
  |rfl
  |simp[eqGuard,hg]
theorem Li{ty:TypeId}{neg:Bool}{x y:AV}{U V:Value}{xo yo:Operand}{op:BinOp}(hop:op=if neg then .neq else .eql)(e:(eqO P ty neg).run x y=some v)(hx:aV θ x U)(hy:aV θ y V)(hni:∀j a k b,¬(x= .i j a/\y= .i k b)):
 ∃u,((do eqGuard op ty xo yo U V;binOp op ty U V:Sem Value)).run P w= .ok u w/\aV θ v u:=by
 simp only[eqO]at e;split at e
 .cases e;cases hx;cases hy
  refine⟨_,?_,rfl⟩;cases neg<;>subst hop<;>simp[eqGuard,binOp,Op.stringOp,ByteArray.toList_eq,iX,bc,jk]
 .rename_i hns
  cases hg:P.eqGuardType P.depth ty with
  |true=>rw[hg]at e;cases e
  |false=>
   rw[hg,gu]at e;obtain⟨r,h1,h2⟩:=aB e;cases h2
   have k:=BD (P:=P) w 30 ty x y r U V h1 hx hy Op.maxDepth (by decide);have inv:∀{z:AV}{Z:Value},aV θ z Z->(∀j a,Z= .int j a->z= .i j a)/\(∀b,Z= .string b->∃l,z= .s l)/\(Z= .nilIface->∃c,z= .k c/\4<=c):=by
    intro z Z hz;cases z with
    |b x=>cases hz;simp
    |i j a=>cases hz;simp
    |s l=>cases hz;simp
    |p x o=>obtain⟨r,c,_,rfl⟩:=hz;simp
    |sl x a b c d=>obtain⟨r,c,_,_,rfl⟩:=hz;simp
    |m x=>obtain⟨r,c,_,rfl⟩:=hz;simp
    |f g c=>obtain⟨r,_,rfl⟩:=hz;simp
    |y x=>obtain⟨r,c,_,rfl⟩:=hz;simp
    |zP t x=>obtain⟨r,_,rfl⟩:=hz;simp
    |agg l=>obtain⟨r,_,_,rfl⟩:=hz;simp
    |bN l=>obtain⟨r,_,rfl⟩:=hz;simp
    |es a c=>obtain⟨_,_,rfl⟩:=hz;simp
    |k c=>
     cases hz
     refine⟨λj a e=>?_,λb e=>?_,λe=>⟨c,rfl,?_⟩⟩
     .rcases tV c with e'|e'|e'|e'|e'<;>rw[e']at e<;>cases e
     .rcases tV c with e'|e'|e'|e'|e'<;>rw[e']at e<;>cases e
     .match c,e with
      |0,e=>cases e
      |1,e=>cases e
      |2,e=>cases e
      |3,e=>cases e
      |c+4,_=>omega
   obtain⟨x1,x2,x3⟩:=inv hx;obtain⟨y1,y2,y3⟩:=inv hy;obtain⟨b1,b2⟩:=binOp_eql (P:=P) (w:=w) ty (U:=U) (V:=V) (r:=r) (λj a k b ⟨e1,e2⟩=>hni j a k b ⟨x1 j a e1,y1 k b e2⟩)
    (λa b ⟨e1,e2⟩=>by obtain⟨p,hp⟩:=x2 a e1;obtain⟨q,hq⟩:=y2 b e2;exact hns p q hp hq) hx.plain hy.plain k
   have hgd:(eqGuard op ty xo yo U V).run P w= .ok () w:=by
    refine E5 (by subst hop;cases neg<;>simp) ?_ hg;rintro⟨e1,e2⟩;obtain⟨c,rfl,hc⟩:=x3 e1;obtain⟨d,rfl,_⟩:=y3 e2;have:=XB _ _ _ _ h1;omega
   refine⟨_,?_,rfl⟩;rw[Sem.run_bind,hgd,Result.andThen_ok];subst hop;cases neg
   .exact b1
   .rw[bF,jk];exact b2
theorem Pk{ty:TypeId}{op:BinOp}{x y:AV}{U V:Value}{xo yo:Operand}(e:(dY P ty op).run x y=some v)(hx:aV θ x U)(hy:aV θ y V):
 ∃u,((do eqGuard op ty xo yo U V;binOp op ty U V:Sem Value)).run P w= .ok u w/\aV θ v u:=by
 cases op<;>simp only[dY]at e<;>(try(cases e;done))<;>rcases Jf e with⟨j,a,b,rfl,rfl,h1⟩|⟨hni,h1⟩<;>(try(cases h1;done))
 case add.inr=>
  split at h1
  .obtain⟨h2,h3⟩:=bI h1
   cases h3;cases hx;cases hy
   refine⟨_,?_,rfl⟩;rename_i p q;have h4:p.length+q.length<=1048576:=by
    have:=Nat.le_of_ble_eq_true h2;rw[eD,eD]at this;exact this
   have h5:¬(((p.length+q.length:Nat):Int) > IntKind.i64.max):=by
    rw[show IntKind.i64.max=9223372036854775807 from by decide];omega
   rw[iK];simp only[eqGuard,binOp,Op.stringOp];have h6:(⟨p.toArray⟩:ByteArray)++⟨q.toArray⟩=⟨(p++q).toArray⟩:=by
    apply ByteArray.ext;rw[ByteArray.data_append];simp
   have h7:(⟨p.toArray⟩:ByteArray).size+(⟨q.toArray⟩:ByteArray).size=p.length+q.length:=by
    show p.toArray.size+q.toArray.size=_;simp
   rw[h6,h7,if_neg h5];simp
  .cases h1
 case shr.inl=>
  cases hz:fM b 1 with
  |false=>rw[hz]at h1;cases h1
  |true=>
   rw[hz]at h1;cases h1;rw[cK]at hz;have hz:b=1:=by simpa using hz
   subst hz;cases hx;cases hy
   refine⟨_,?_,rfl⟩;have h2:Op.shift .shr j a j 1=pure (.int j (a/2 ^ (1:Int).toNat)):=shift_shr j j a 1 (by decide) (by cases j<;>decide);have h3:binOp .shr ty (.int j a) (.int j 1)=Op.shift .shr j a j 1:=rfl;simp only[eqGuard,h3,h2];rfl
 all_goals first
  |((try rw[RL]at h1);(try rw[XA]at h1);cases hx;cases hy;cases h1;refine⟨_,?_,rfl⟩;simp[eqGuard,binOp,Op.intArith,Op.intCmp,vD,cK,eP,Ph,Pj];done)
  |(
   cases hx;cases hy
   cases hz:fM b 0 with
   |true=>rw[hz]at h1;cases h1
   |false=>
    rw[hz]at h1;cases h1;have hz':¬b=0:=by rw[cK]at hz;simpa using hz
    refine⟨_,?_,rfl⟩;simp[eqGuard,binOp,Op.intDiv,hz',vD];done)
  |exact Li (neg:=false) rfl h1 hx hy hni
  |exact Li (neg:=true) rfl h1 hx hy hni
end
end
section
section
variable {P:Program} {sl:FuncId->Sl} {θ:Th} {h h':AH} {n n':Nat} {w:World} {s:Sl} {L:List Tmp} {t:Tr AV} {l:List AV} {ac:Act} {o:Oper} {f:FT} {v:AV}
theorem Jg{op:BinOp}{ty EW:TypeId}{x y:Operand}(ho:o.op= .binOp op ty x y EW)(e:(Bg P s L op ty x y).run f t l h n= .ok v h' n')(hT:RT s θ t ac.tmps)(hL:LR s θ L l ac.tmps)(H:RH P sl θ h n w):gP P sl θ h n w ((execOp ac.eval o).run P w) v h' n':=by
 obtain⟨a,h1,h2⟩:=aT (show aM ((co s L x).run t l) _= .ok v h' n' from e);obtain⟨b,h3,h4⟩:=aT h2;obtain⟨h5,rfl,rfl⟩:=gV h4;obtain⟨u,h6,h7⟩:=Pk (w:=w) (xo:=x) (yo:=y) h5 (bG h1 hT hL) (bG h3 hT hL);refine .same H ?_ h7;simp only[execOp,ho];rw[Sem.run_bind,h6];rfl
theorem Ap:∀(l:List UInt8),eU θ (yg l) (l.map λb=>.int .u8 b.toNat)
 |[]=>rfl
 |b::l=>⟨_,_,rfl,Ap l,rfl⟩
theorem Jh(H:RH P sl θ h n w){x r c o0 k:Nat}{l m:List AV}(e:iA (h.get x) o0 k=some l)(hr:θ x=some (r,c))(hm:lQ k l=some m):
 ∃us,(∀w':World,w'.heap=w.heap->(loadCells ⟨r,o0,none⟩ k).run P w'= .ok us.toArray w')/\eU θ m us/\(∀y∈us,y.oneCell'=true)/\us.length=k:=by
 obtain⟨r',c',cs,t0,fz,vs,e1,e2,e4,e5,e6⟩:=H.cut e;rw[hr]at e1;cases e1;obtain⟨g1,rfl⟩:=jP hm;have hl:(vs.take k).length=k:=by
  rw[List.length_take,e4.length];omega
 refine⟨vs.take k,λw' hw=>?_,e4.take k,λy hy=>e5 y (List.mem_of_mem_take hy),hl⟩;have:=run_loadCells_list (P:=P) w' ⟨r,o0,none⟩ (vs.take k) (λj v hv=>by
  rw[Addr.add_mid,iB (w:=w') (by rw[hw];exact e2)];rw[List.getElem?_take]at hv;split at hv
  .exact e6 _ _ hv
  .cases hv)
 rwa [hl]at this
theorem xI{a:AV}{U:Value}{m k:Nat}{c:List AV}(e:je h m k a=some c)(hv:aV θ a U)(H:RH P sl θ h n w):
 ∃us,(∀w':World,w'.heap=w.heap->(Builtin.firstCells m k U).run P w'= .ok us.toArray w')/\eU θ c us/\(∀x∈us,x.oneCell'=true)/\(lS a=some k->us.length=k*m):=by
 unfold je at e;split at e
 .cases e;cases hv;exact⟨[],λ_ _=>rfl,rfl,by simp,λh=>by cases h;simp⟩
 .obtain⟨hm1,e⟩:=bI e
  have hm1:=beq_eq hm1;obtain⟨l0,h1,h2⟩:=aB e;cases h2;cases hv
  obtain⟨h3,rfl⟩:=jP h1;refine⟨_,λw' _=>?_,Ap _,?_,λ_=>by simp[hm1];omega⟩
  .simp only[Builtin.firstCells,Sem.run_pure]
   congr 1;apply Array.toList_inj.1;simp[ByteArray.data_extract]
  .intro x hx
   obtain⟨b,_,rfl⟩:=List.mem_map.1 hx;rfl
 .obtain⟨h1,h2⟩:=bI e
  obtain rfl:=beq_eq h1;cases h2;obtain⟨_,_,rfl⟩:=hv
  exact⟨[],λ_ _=>by simp[Builtin.firstCells,loadCells,loadCellsFrom],rfl,by simp,λ_=>by simp⟩
 .rename_i x q o0 n0 c0
  obtain⟨l0,h1,h2⟩:=aB e;obtain⟨r,d,hr,_,rfl⟩:=hv;obtain⟨us,g1,g2,g3,g4⟩:=Jh (P:=P) H h1 hr h2;exact⟨us,g1,g2,g3,λ_=>g4⟩
 .cases e
theorem Hy{a:AV}{U:Value}{k:Nat}(e:lS a=some k)(hv:aV θ a U):(Builtin.lenOf U).run P w= .ok k w/\((∃b c,U= .slice b k c)\/∃s,U= .string s/\s.size=k):=by
 unfold lS at e;split at e<;>cases e
 .cases hv;exact⟨rfl,.inl ⟨none,0,rfl⟩⟩
 .cases hv;rw[eD];exact⟨by simp[Builtin.lenOf,ByteArray.size],.inr ⟨_,rfl,by simp[ByteArray.size]⟩⟩
 .obtain⟨r,c,_,_,rfl⟩:=hv;exact⟨rfl,.inl ⟨_,_,rfl⟩⟩
 .obtain⟨_,_,rfl⟩:=hv;exact⟨rfl,.inl ⟨_,_,rfl⟩⟩
theorem Ji{ty:TypeId}{x ix:Operand}(ho:o.op= .index ty x ix)(e:(yA P s L ty x ix).run f t l h n= .ok v h' n')(hT:RT s θ t ac.tmps)(hL:LR s θ L l ac.tmps)(H:RH P sl θ h n w):gP P sl θ h n w ((execOp ac.eval o).run P w) v h' n':=by
 unfold yA at e;split at e
 .rename_i hu
  simp only at e;split at e
  .rename_i c k0 k h0 h1
   have hp:ac.eval x= .string ⟨c.toArray⟩:=bG h0 hT hL;have hk:ac.eval ix= .int k0 k:=bG h1 hT hL;obtain⟨h2,rfl,rfl⟩:=gV e;obtain⟨j,rfl,hj,h3⟩:=tN h2;obtain⟨b,h4,h5⟩:=aB h3;cases h5
   rw[m_]at h4;refine .same H (u:=.int .u8 b.toNat) ?_ rfl;have hb:(⟨c.toArray⟩:ByteArray)[j]?=some b:=by
    have hj2:j<c.length:=(List.getElem?_eq_some_iff.1 h4).1;have hs:(⟨c.toArray⟩:ByteArray).size=c.length:=by show c.toArray.size=_;simp
    rw[getElem?_pos _ _ (by rw[hs];exact hj2)];have:=(List.getElem?_eq_some_iff.1 h4).2;rw[<-this];rfl
   simp[execOp,ho,hp,hk,Instr.index,asIntOf,run_underlying hu,hb]
  .cases e
 .rename_i m el hu
  split at e
  .cases e
  rename_i sz hsz;obtain⟨i,hi,rfl⟩:=iL hsz;simp only at e;split at e
  .rename_i c k0 k h0 h1
   obtain⟨vs,hv,hone,hp⟩:=bG h0 hT hL;have hk:ac.eval ix= .int k0 k:=bG h1 hT hL;obtain⟨h2,rfl,rfl⟩:=gV e;obtain⟨j,rfl,hj,h3⟩:=tN h2;obtain⟨u,h4,h5⟩:=tT (P:=P) (w:=w) h3 hv hone;refine .same H ?_ h5;have h4':(part el vs.toArray (j*i.size)).run P w= .ok u w:=h4;simp[execOp,ho,hp,hk,Instr.index,asIntOf,run_underlying hu,hj,sizeOf,typeInfo,hi,h4']
  .cases e
 .cases e
theorem Pm{c:Call}{x y:Operand}(ho:o.op= .call c)(hc:c.callee= .builtin .max)(ha:c.args.toList=[x,y])(e:(K_ s L x y).run f t l h n= .ok v h' n')(hT:RT s θ t ac.tmps)(hL:LR s θ L l ac.tmps)(H:RH P sl θ h n w):gP P sl θ h n w ((execOp ac.eval o).run P w) v h' n':=by
 simp only[K_]at e;split at e
 .rename_i k0 a k1 b h0 h1
  have hp:ac.eval x= .int k0 a:=bG h0 hT hL;have hk:ac.eval y= .int k1 b:=bG h1 hT hL;cases e
  refine .same H ?_ rfl;simp[execOp,ho,resolve,hc,invoke,builtin,Builtin.max_,ha,hp,hk,Builtin.max2,eP,bc];by_cases hb:b<=a
  .rw[if_neg (by omega),decide_eq_true hb]
  .rw[if_pos (by omega),decide_eq_false hb]
 .cases e
theorem Pn{c:Call}{x y:Operand}(ho:o.op= .call c)(hc:c.callee= .builtin .min)(ha:c.args.toList=[x,y])(e:(La s L x y).run f t l h n= .ok v h' n')(hT:RT s θ t ac.tmps)(hL:LR s θ L l ac.tmps)(H:RH P sl θ h n w):gP P sl θ h n w ((execOp ac.eval o).run P w) v h' n':=by
 simp only[La]at e;split at e
 .rename_i k0 a k1 b h0 h1
  have hp:ac.eval x= .int k0 a:=bG h0 hT hL;have hk:ac.eval y= .int k1 b:=bG h1 hT hL;cases e
  refine .same H ?_ rfl;simp[execOp,ho,resolve,hc,invoke,builtin,Builtin.min_,ha,hp,hk,Builtin.min2,eP,bc];by_cases hb:a<=b
  .rw[if_neg (by omega),decide_eq_true hb]
  .rw[if_pos (by omega),decide_eq_false hb]
 .cases e
end
end
section
variable {P:Program} {sl:FuncId->Sl} {θ:Th} {h h':AH} {n n':Nat} {w:World} {s:Sl} {L:List Tmp} {t:Tr AV} {l:List AV} {ac:Act} {o:Oper} {f:FT} {v:AV}
theorem RH.drew(H:RH P sl θ h n w):RH P sl θ h n w.drew:=⟨H.at_,H.inj,H.new,H.gl⟩
theorem Fr.drew'{bR:Th}{h':AH}{w':World}(a:Fr θ h w.drew bR h' w'):Fr θ h w bR h' w':=⟨a.os,a.tape,a.output,a.size,a.block,a.le,a.from_,a.kind,a.low,a.ro⟩
theorem RH.sub(H:RH P sl θ h n w){g:AH}(hs:∀x o,g.get x=some o->h.get x=some o):RH P sl θ g n w where
 at_:=λx o e=>H.at_ x o (hs x o e)
 inj:=λx y r c d hx hy=>H.inj x y r c d (by obtain⟨o,e⟩:=Option.isSome_iff_exists.1 hx;rw[hs _ _ e];rfl) (by obtain⟨o,e⟩:=Option.isSome_iff_exists.1 hy;rw[hs _ _ e];rfl)
 new:=H.new
 gl:=λk e=>let⟨ty,q,e1,e2⟩:=H.gl k e;⟨ty,q,e1,λ⟨x,c,hx,hr⟩=>e2 ⟨x,c,by obtain⟨o,e⟩:=Option.isSome_iff_exists.1 (gH hx);rw[hs _ _ e,<-e];exact hx,hr⟩⟩
theorem Fr.sub(H:RH P sl θ h n w){g h':AH}{bR:Th}{w':World}(hs:∀x o,g.get x=some o->h.get x=some o)(a:Fr θ g w bR h' w'):Fr θ h w bR h' w':=
 ⟨a.os,a.tape,a.output,a.size,λk hk hn=>a.block k hk (λ⟨x,c,hx,e⟩=>hn ⟨x,c,by obtain⟨o,e⟩:=Option.isSome_iff_exists.1 (gH hx);rw[hs _ _ e,<-e];exact hx,e⟩),a.le,
  λk e=>(a.from_ k e).imp (λ⟨x,c,hx,e⟩=>⟨x,c,by obtain⟨o,e⟩:=Option.isSome_iff_exists.1 (gH hx);rw[hs _ _ e,<-e];exact hx,e⟩) id,a.kind,a.low,λx f e=>hs x _ (a.ro x f e)⟩
theorem TF{a:AV}{U:Value}{m k:Nat}{c:List AV}{tx:TypeId}(e:je h m k a=some c)(hl:lS a=some k)(hv:aV θ a U)(H:RH P sl θ h n w)(hk:Wt P tx=true):
 ∃us,Src P m tx U k us w/\eU θ c us:=by
 obtain⟨us,h1,h2,h3,h4⟩:=xI (P:=P) e hv H;refine⟨us,⟨?_,λw'=>(Hy (P:=P) (w:=w') hl hv).1,h1 w rfl,h1 w.drew rfl,h4 hl,h3⟩,h2⟩;unfold Wt at hk;split at hk
 .exact .inl ⟨_,‹_›⟩
 .exact .inr ‹_›
 .cases hk
theorem z8{z:Array Value}{k:Nat}{y:Value}(hy:y∈(Builtin.zeroCells z k).toList):y∈z.toList:=by
 unfold Builtin.zeroCells at hy;simp only[Array.toList_map,List.mem_map]at hy;obtain⟨i,hi,rfl⟩:=hy;have hi':i<k*z.size:=by simpa using hi
 have hz:0<z.size:=by
  rcases Nat.eq_zero_or_pos z.size with e|e
  .rw[e]at hi';simp at hi'
  .exact e
 have:=Nat.mod_lt i hz;rw[getElem!_pos z _ this];exact Array.getElem_mem_toList _
theorem oP{ty tx rt e:TypeId}{i:TypeInfo}{z x:Value}(ht:P.underlying ty=some (.slice e))(hi:P.info? e=some i)(hz:i.zero=some z)(hzs:z.cells.size=i.size)(hz1:∀y∈z.cells.toList,y.oneCell'=true)
 {base:Option Addr}{ls cap ly:Nat}{olds news:List Value}{cx cy:List AV}(hold:(Builtin.firstCells i.size ls (.slice base ls cap)).run P w.drew= .ok olds.toArray w.drew)(hol:olds.length=ls*i.size)(ho1:∀y∈olds,y.oneCell'=true)
 (hs:Src P i.size tx x ly news w)(hg:cap<ls+ly)(hle:ls+ly<=1048576)(hby:i.bytes<=65536)(hcx:eU θ cx olds)(hcy:eU θ cy news)(H:RH P sl θ h n w):
 ∃c w',ls+ly<=c/\(Builtin.append_ #[ty,tx] rt #[.slice base ls cap,x]).run P w= .ok (.slice (some ⟨w.heap.size,0,none⟩) (ls+ly) c) w'/\
  RH P sl (θ.ins n (w.heap.size,c)) (h.set n (.row e (cx++cy))) (n+1) w'/\Fr θ h w (θ.ins n (w.heap.size,c)) (h.set n (.row e (cx++cy))) w':=by
 have hb:(2*(ls+ly))*i.bytes<=281474976710656:=Nat.le_trans (Nat.mul_le_mul (by omega:2*(ls+ly)<=2097152) hby) (by decide);have hrun:=run_append_grow_src (P:=P) w ty tx rt e i z ht hi hz base ls cap olds hold x ly news hs hg (by omega) (Nat.le_trans (Nat.mul_le_mul_right _ (Go.Room.nextslicecap_le' hg)) hb);have hge:=grownCap_ge w (ls+ly) cap e;refine⟨grownCap w (ls+ly) cap e,_,hge,hrun,?_⟩;have hsz:((olds++news).toArray++Builtin.zeroCells z.cells (grownCap w (ls+ly) cap e - (ls+ly))).size=grownCap w (ls+ly) cap e*P.cellsOf e:=by
  rw[Array.size_append,size_zeroCells,hzs,List.size_toArray,List.length_append,hol,hs.newsLen,show P.cellsOf e=i.size from qw hi,<-Nat.add_mul,<-Nat.add_mul];congr 1;omega
 have:=H.drew.alloc (grownCap w (ls+ly) cap e) (o:=.row e (cx++cy)) (obj:=.cells ((olds++news).toArray++Builtin.zeroCells z.cells (grownCap w (ls+ly) cap e - (ls+ly))) e (0,0))
  ⟨_,olds++news,(Builtin.zeroCells z.cells (grownCap w (ls+ly) cap e - (ls+ly))).toList,rfl,hsz,by simp,hcx.append hcy,?_⟩
 .exact⟨this.1,this.2.drew'⟩
 .intro y hy
  rw[Array.toList_append]at hy;rcases List.mem_append.1 hy with hy|hy
  .rcases List.mem_append.1 (by simpa using hy:y∈olds++news)with hy|hy
   .exact ho1 y hy
   .exact hs.one y hy
  .exact hz1 y (z8 hy)
theorem Dx{ty e:TypeId}(ht:P.underlying ty=some (.slice e)):ru P ty=e:=by unfold ru;rw[Le ht]
theorem Dy{ty tx rt e:TypeId}{i:TypeInfo}{z x:Value}(ht:P.underlying ty=some (.slice e))(hi:P.info? e=some i)(hz:i.zero=some z)(hzs:z.cells.size=i.size)(hz1:∀y∈z.cells.toList,y.oneCell'=true)
 {b r d ls ly:Nat}{l0:List AV}{news:List Value}{cy:List AV}(hb:h.get b=some (.row e l0))(hr:θ b=some (r,d))(hl0:l0.length=ls*i.size)
 (hs:Src P i.size tx x ly news w)(hle:ls+ly<=1048576)(hby:i.bytes<=65536)(hcy:eU θ cy news)(H:RH P sl θ h n w):
 ∃r' c w',ls+ly<=c/\(Builtin.append_ #[ty,tx] rt #[.slice (some ⟨r,0,none⟩) ls d,x]).run P w= .ok (.slice (some ⟨r',0,none⟩) (ls+ly) c) w'/\
  RH P sl (θ.ins n (r',c)) ((h.del b).set n (.row e (l0++cy))) (n+1) w'/\Fr θ h w (θ.ins n (r',c)) ((h.del b).set n (.row e (l0++cy))) w':=by
 obtain⟨r0,d0,cs,vs,e1,e2,e3,e4,e5,e6,e7,rest,e8⟩:=H.row hb;rw[hr]at e1;cases e1;have hbn:=H.dom hb;have hdel:∀x o,(h.del b).get x=some o->h.get x=some o:=λx o hx=>by
  rw[Bq]at hx;split at hx
  .cases hx
  .exact hx
 have hsz:P.cellsOf e=i.size:=qw hi;by_cases hroom:ls+ly<=d
 .have hcs:cs.size=d*i.size:=by rw[<-hsz];exact e3
  have hlen:vs.length=ls*i.size:=by omega
  have hfit:ls*i.size+news.length<=cs.size:=by
   rw[hs.newsLen,<-Nat.add_mul,hcs];exact Nat.mul_le_mul_right _ hroom
  have hrun:=run_append_room_src (P:=P) w ty tx rt e i ht hi r 0 ls d x ly news hs hroom
   (λj hj=>by rw[iB e2,Array.getElem?_eq_getElem (by omega)];rfl) (λj hj=>jQ e2 _)
  rw[Nat.zero_add]at hrun;obtain⟨cs',f1,f2,f3,f4,f5,f6⟩:=lF news (ls*i.size) w cs e2 hfit;refine⟨r,d,_,hroom,hrun,?_⟩;have acX:cs'.size=cs.size:=by
   have:cs.toList.length=cs.size:=Array.length_toList;rw[<-Array.length_toList,f1,List.length_append,List.length_append,List.length_take,List.length_drop];omega
  have htake:cs.toList.take (ls*i.size)=vs:=by rw[e8,<-hlen,List.take_left'];rfl
  have hle':=iy.ins H (r,d);have hget:∀x,((h.del b).set n (.row e (l0++cy))).get x=if x=n then some (.row e (l0++cy))else if x=b then none else h.get x:=λx=>by
   rw[iq,Bq]
  have hA:rW P sl (θ.ins n (r,d)) d (.row e (l0++cy)) (.cells cs' e (0,0)):=by
   refine⟨cs',vs++news,cs.toList.drop (ls*i.size+news.length),rfl,by rw[acX];exact e3,by rw[f1,htake];simp,(eU.mono hle' _ e4).append (eU.mono hle' _ hcy),?_⟩;intro y hy;rw[f1]at hy;rcases List.mem_append.1 hy with hy|hy
   .exact e5 y (List.mem_of_mem_take hy)
   .rcases List.mem_append.1 hy with hy|hy
    .exact hs.one y hy
    .exact e5 y (List.mem_of_mem_drop hy)
  refine H.Xi ?_ ?_ ?_ ⟨f4,f5,f6,Nat.le_of_eq f3.symm,?_,hle',?_,λk q ek=>⟨q,by
   rw[f2,if_neg ?_];· exact ek
   rintro rfl;rw[e2]at ek;cases ek⟩,H.Ht _,λx f e=>by
   rw[hget]at e;split at e
   .cases e
   .split at e
    .cases e
    .exact e⟩
  .intro x a ha
   rw[hget]at ha;split at ha
   .rename_i hx;cases ha;subst hx
    exact⟨r,d,_,Th.dx _ _ _,by rw[f2,if_pos rfl],hA⟩
   .split at ha
    .cases ha
    .rename_i hx1 hx2
     obtain⟨r2,d2,ob,g1,g2,g3⟩:=H.at_ x a ha;refine⟨r2,d2,ob,hle' _ _ g1,?_,rW.mono hle' g3⟩;rw[f2,if_neg ?_];· exact g2
     rintro rfl;exact hx2 (H.inj x b r2 d2 d (by rw[ha];rfl) (by rw[hb];rfl) g1 hr)
  .intro x y q c1 d1 hx hy g1 g2
   rw[hget]at hx hy;unfold Th.ins at g1 g2;by_cases hx1:x=n
   .by_cases hy1:y=n
    .rw[hx1,hy1]
    .exfalso
     rw[if_pos hx1]at g1;cases g1;rw[if_neg hy1]at g2 hy;by_cases hy2:y=b
     .rw[if_pos hy2]at hy;cases hy
     .rw[if_neg hy2]at hy
      exact hy2 (H.inj y b r d1 d hy (by rw[hb];rfl) g2 hr)
   .rw[if_neg hx1]at g1 hx
    by_cases hx2:x=b
    .rw[if_pos hx2]at hx;cases hx
    .rw[if_neg hx2]at hx
     by_cases hy1:y=n
     .exfalso
      rw[if_pos hy1]at g2;cases g2;exact hx2 (H.inj x b r c1 d hx (by rw[hb];rfl) g1 hr)
     .rw[if_neg hy1]at g2 hy
      by_cases hy2:y=b
      .rw[if_pos hy2]at hy;cases hy
      .rw[if_neg hy2]at hy
       exact H.inj x y q c1 d1 hx hy g1 g2
  .intro x hx
   unfold Th.ins;rw[if_neg (by omega)];exact H.new x (by omega)
  .intro k _ hk
   rw[f2,if_neg];rintro rfl;exact hk ⟨b,d,by rw[hb];rfl,hr⟩
  .rintro k ⟨x,c,hx,g⟩
   rw[hget]at hx;unfold Th.ins at g;by_cases hx1:x=n
   .rw[if_pos hx1]at g;cases g;exact .inl ⟨b,d,by rw[hb];rfl,hr⟩
   .rw[if_neg hx1]at g hx
    by_cases hx2:x=b
    .rw[if_pos hx2]at hx;cases hx
    .rw[if_neg hx2]at hx;exact .inl ⟨x,c,hx,g⟩
 .have hold:(Builtin.firstCells i.size ls (.slice (some ⟨r,0,none⟩) ls d)).run P w.drew= .ok vs.toArray w.drew:=by
   have:=run_loadCells_list (P:=P) w.drew ⟨r,0,none⟩ vs (λj v hv=>by
    rw[Addr.add_mid,iB (w:=w.drew) e2,Nat.zero_add];exact e6 _ _ hv)
   rw[show vs.length=ls*i.size by omega]at this;exact this
  obtain⟨c,w',g0,g1,g2,g3⟩:=oP (sl:=sl) (rt:=rt) ht hi hz hzs hz1 hold (by omega) (λy hy=>e5 y (by rw[e8];exact List.mem_append_left _ hy)) hs (by omega) hle hby e4 hcy (H.sub hdel);exact⟨_,c,w',g0,g1,g2,Fr.sub H hdel g3⟩
theorem E8{ty tx rt e:TypeId}{i:TypeInfo}{z:Value}(ht:P.underlying ty=some (.slice e))(hi:P.info? e=some i)(hz:i.zero=some z)(hzs:z.cells.size=i.size)(hz1:∀y∈z.cells.toList,y.oneCell'=true)
 (hby:i.bytes<=65536)(hk:Wt P tx=true){a x:AV}{U X:Value}(er:(jr e i.size).run h n a x= .ok v h' n')(ha:aV θ a U)(hx:aV θ x X)(H:RH P sl θ h n w):
 ∃bR u w',(Builtin.append_ #[ty,tx] rt #[U,X]).run P w= .ok u w'/\aV bR v u/\RH P sl bR h' n' w'/\Fr θ h w bR h' w':=by
 replace er:=aT (show aM (lS a) _= .ok v h' n' from er);obtain⟨ls,h1,er⟩:=er;replace er:=aT er;obtain⟨ly,h2,er⟩:=er;replace er:=aT er;obtain⟨cx,h3,er⟩:=er;replace er:=aT er;obtain⟨cy,h4,er⟩:=er;replace er:=iP er;obtain⟨h5,er⟩:=er;have hle:ls+ly<=1048576:=Nat.le_of_ble_eq_true h5;obtain⟨news,hs,hcy⟩:=TF (P:=P) h4 h2 hx H hk;split at er
 .-- a slice whose capacity is known
  rename_i b m o0 k c;cases h1
  obtain⟨r,d,hr,hd,rfl⟩:=id ha;cases hroom:Nat.ble (Nat.add ls ly) c with
  |true=>
   rw[hroom,bF]at er;have hroom':ls+ly<=c:=Nat.le_of_ble_eq_true hroom;split at er
   case h_2=>cases er
   rename_i t0 l0 hg;obtain⟨m0,h6,er⟩:=aT er;cases er
   obtain⟨q1,q2,q3⟩:=H.write (P:=P) hg hr h6 hcy hs.one;obtain⟨r0,d0,cs,vs,e1,e2,e3,e4,e5,e6,e7,rest,e8⟩:=H.row hg;rw[hr]at e1;cases e1;obtain⟨g1,_⟩:=lW h6;have hcl:=hcy.length;have hcs:vs.length+rest.length=cs.size:=by rw[<-Array.length_toList,e8,List.length_append]
   have g1':o0+ls*i.size+cy.length<=l0.length:=g1;have hrun:=run_append_room_src (P:=P) w ty tx rt e i ht hi r o0 ls c X ly news hs hroom' (λj hj=>by rw[iB e2,Array.getElem?_eq_getElem (by omega)];rfl) (λj hj=>jQ e2 _);exact⟨θ,_,_,hrun,⟨r,d,hr,(λh=>by cases h),rfl⟩,q2,q3⟩
  |false=>
   rw[hroom,gu]at er;have hroom':c<ls+ly:=by
    rcases Nat.lt_or_ge c (ls+ly)with h6|h6
    .exact h6
    .rw[show Nat.ble (Nat.add ls ly) c=true from Nat.ble_eq_true_of_le h6]at hroom;cases hroom
   obtain⟨rfl,rfl,rfl⟩:=Al er;obtain⟨olds,g1,g2,g3,g4⟩:=xI (P:=P) h3 ha H;obtain⟨q,w',k0,k1,k2,k3⟩:=oP (sl:=sl) (rt:=rt) (n:=n) ht hi hz hzs hz1 (g1 w.drew rfl) (g4 rfl) g3 hs hroom' hle hby g2 hcy H;rw[iK];exact⟨_,_,w',k1,⟨w.heap.size,q,Th.dx _ _ _,λ_=>by show 0+_<=q;first|omega|exact(Nat.zero_add _).symm▸k0,by simp⟩,k2,k3⟩
 .-- a nil slice
  cases h1;cases h3;cases ha
  cases hz0:Nat.beq ly 0 with
  |true=>
   rw[hz0,bF]at er;cases er;obtain rfl:=beq_eq hz0;have hnil:news=[]:=List.eq_nil_of_length_eq_zero (by rw[hs.newsLen];simp);subst hnil;exact⟨θ,_,w,run_append_nothing (P:=P) w ty tx rt e i ht hi none 0 0 (Nat.le_refl _) X hs,rfl,H,Fr.refl _ _ _⟩
  |false=>
   rw[hz0,gu]at er;obtain⟨rfl,rfl,rfl⟩:=Al er;have hpos:0<0+ly:=by
    rcases Nat.eq_zero_or_pos ly with e0|e0
    .rw[e0]at hz0;cases hz0
    .omega
   obtain⟨q,w',k0,k1,k2,k3⟩:=oP (sl:=sl) (rt:=rt) (n:=n) (olds:=[]) (cx:=[]) ht hi hz hzs hz1 (base:=none) (ls:=0) (cap:=0) rfl (by simp) (by simp) hs hpos hle hby rfl hcy H;rw[Nat.zero_add]at k1;exact⟨_,_,w',k1,⟨w.heap.size,q,Th.dx _ _ _,λ_=>by show 0+_<=q;first|omega|exact(Nat.zero_add _).symm▸k0,by simp⟩,by simpa using k2,by simpa using k3⟩
 .-- an open slice
  rename_i b k;cases h1
  obtain⟨r,d,hr,hd,rfl⟩:=id ha;split at er
  case h_2=>cases er
  rename_i t0 l0 hg;obtain⟨h6,er⟩:=iP er;obtain rfl:=beq_eq h6;cases h7:Nat.beq (mU l0) (Nat.mul ls i.size)with
  |false=>
   rw[h7,gu]at er;cases hw0:Nat.beq i.size 0 with
   |true=>rw[hw0]at er;cases er
   |false=>
   rw[hw0,gu]at er;have hi0:0<i.size:=Nat.pos_of_ne_zero λh=>by rw[h]at hw0;cases hw0
   obtain⟨m0,h6,er⟩:=aT er;cases er
   obtain⟨q1,q2,q3⟩:=H.write (P:=P) hg hr h6 hcy hs.one;obtain⟨r0,d0,cs,vs,e1,e2,e3,e4,e5,e6,e7,rest,e8⟩:=H.row hg;rw[hr]at e1;cases e1;obtain⟨g1,_⟩:=lW h6;have hcl:=hcy.length;have hcs:vs.length+rest.length=cs.size:=by rw[<-Array.length_toList,e8,List.length_append]
   have g1':ls*i.size+cy.length<=l0.length:=g1;have hnl:=hs.newsLen;have hroom:ls+ly<=d:=by
    have hsz:P.cellsOf t0=i.size:=qw hi;have:(ls+ly)*i.size<=d*i.size:=by rw[Nat.add_mul,<-hsz,<-e3,hsz];omega
    exact Nat.le_of_mul_le_mul_right this hi0
   have hrun:=run_append_room_src (P:=P) w ty tx rt t0 i ht hi r 0 ls d X ly news hs hroom (λj hj=>by rw[iB e2,Array.getElem?_eq_getElem (by omega)];rfl) (λj hj=>jQ e2 _);rw[Nat.zero_add]at hrun;simp only[Option.getD_none,Nat.sub_zero];exact⟨θ,_,_,hrun,⟨r,d,hr,λ_=>(by show 0+(ls+ly)<=d;omega),by simp⟩,q2,q3⟩
  |true=>
  rw[h7,bF]at er;have hl0:=beq_eq h7;rw[eD]at hl0;obtain⟨rfl,rfl,rfl⟩:=Al er;have hcx:cx=l0:=by
   obtain⟨l1,g1,g2⟩:=aB (show bnd (iA (h.get b) 0 _) _=some cx from h3);rw[hg]at g1;cases g1;obtain⟨_,rfl⟩:=jP g2;rw[rY];simp only[List.drop_zero];exact List.take_of_length_le (Nat.le_of_eq hl0)
  subst hcx;obtain⟨r',c',w',k0,k1,k2,k3⟩:=Dy (sl:=sl) (rt:=rt) (n:=n) ht hi hz hzs hz1 hg hr hl0 hs hle hby hcy H;rw[iK];simp only[Option.getD_none,Nat.sub_zero];exact⟨_,_,w',k1,⟨r',c',Th.dx _ _ _,λ_=>by show 0+_<=c';first|omega|exact(Nat.zero_add _).symm▸k0,by simp⟩,k2,k3⟩
 .cases er
end
end Go.Proofs.YtjoohkjmoghmoaaGreatDoor
