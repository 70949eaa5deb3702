/- part -/
import Derived.Deep.AppendLies
import Derived.Sort.OwnSortedInts
import Derived.Test.YtpmdedcnbockhaaGreatDoorS23
set_option maxRecDepth 100000
set_option maxHeartbeats 8000000
namespace Go.Proofs.YtpmdedcnbockhaaGreatDoor
section
open Go.RowKit Go.Shelf Tryz
theorem O_(l:List Int):(aZ l).length=l.length:=dU _
theorem oN(l:List Int)(x:Int):aZ (l++[x])=aZ l++[.int .i64 x]:=by simp[aZ]
theorem DL(l:List Int):∀u∈aZ l,u.oneCell'=true:=by
 intro u hu;obtain⟨x,_,rfl⟩:=cZ.1 hu;rfl
theorem ig{l:List Int}{i:Nat}{x:Int}(h:l[i]?=some x):(aZ l)[i]?=some (.int .i64 x):=by simp[aZ,h]
section
variable {w w':World} {B:Nat} {e:TypeId} {size n:Nat} {v:Value} {xs:List Value}
theorem bV{S:Nat->Prop}(h:w.ownsRow B e size v n xs)(hu:aG S w w')(hS:∀k,v.ownBlock=some k->¬S k):w'.ownsRow B e size v n xs:=by
 refine⟨h.1,?_⟩;rcases h.2 with h0|⟨g,cap,cur,rfl,hB,hg,r⟩
 .exact .inl h0
 .exact .inr ⟨g,cap,cur,rfl,hB,hu.keep hg (hS g rfl),r⟩
theorem Cr{B':Nat}(h:w.ownsRow B e size v n xs)(hb:∀g,v.ownBlock=some g->B'<=g):w.ownsRow B' e size v n xs:=by
 refine⟨h.1,?_⟩;rcases h.2 with h0|⟨g,cap,cur,rfl,hB,hg,r⟩
 .exact .inl h0
 .exact .inr ⟨g,cap,cur,rfl,hb g rfl,hg,r⟩
theorem nT{A:Option Addr}{c:Nat}(h:w.ownsRow B e size (.slice A n c) n xs)(hn:0<n):∃g,A=some ⟨g,0,none⟩/\B<=g/\g<w.heap.size/\n<=c/\c<=maxLen/\∀i u,xs[i]?=some u->w.cell? ⟨g,i,none⟩=some u:=by
 rcases su h with⟨h0,_⟩|⟨g,rfl,hB,ho⟩
 .omega
 .rcases h.2 with⟨_,h0⟩|⟨g',cap,cur,hv,_,_,h2,h3,_⟩
  .omega
  .simp only[Value.slice.injEq,true_and]at hv
   obtain⟨_,rfl⟩:=hv;exact⟨g,rfl,hB,ho.lt,h2,h3,λi u hi=>ho.cell hi⟩
end
theorem yS{F:Fence}{nf:Nat}{P:Program}{w:World}{ops:Array Oper}{rest:List Oper}{o:Oper}{a:Act}{Q:Exit->Act->World->Prop}
 (hg:o.guard=none)(s x:Operand)(t:TypeId)(hop:o.op=Op.call {callee:=Callee.builtin Builtin.append,args:=#[s,x],argTypes:=#[t,t]})
 (base:Nat)(e:TypeId)(i:TypeInfo)(z:Value)(size bytes:Nat)(ht:P.underlying t=some (.slice e))(hi:P.info? e=some i)(hz:i.zero=some z)(hsize:i.size=size)(hby:i.bytes=bytes)(hzs:z.cells.size=size)(hsz:0<size)
 (v:Value)(n:Nat)(xs:List Value)(hs:a.eval s=v)(hown:w.ownsRow base e size v n xs)(bx:Nat)(cs:Array Value)(tx:TypeId)(fr:Nat×Nat)(hx:a.eval x= .slice (some ⟨bx,0,none⟩) 1 1)(hbx:w.heap[bx]?=some (.cells cs tx fr))(hl:cs.size=size)(h1:∀u∈cs.toList,u.oneCell'=true)
 (h63:n+1<=maxLen)(jR:(n+1)*bytes<=140737488355328)(hbase:base<=w.heap.size)
 (hK:∀g cap w',w'.ownsRow base e size (.slice (some ⟨g,0,none⟩) (n+1) cap) (n+1) (xs++cs.toList)->w.grownBy w' v.ownBlock->(v.ownBlock=some g\/g=w.heap.size)->wpListIn F nf P ops Q rest (a.put o.dst (.slice (some ⟨g,0,none⟩) (n+1) cap)) w'):
 wpListIn F nf P ops Q (o::rest) a w:=by
 refine wpListIn_plain hg λK hK'=>?_;obtain⟨g,cap,w',hrun,r1,r2,r3,_⟩:=run_append_lies (P:=P) w t o.type base e i z size bytes ht hi hz hsize hby hzs hsz v n xs hown ⟨bx,0,none⟩ 1 1 cs.toList (by simp[hl]) (World.news_of_block hbx) h1 (by omega) h63 jR hbase _ rfl;unfold Oper.wpIn;refine⟨?_,?_⟩
 .simp[Oper.about,hop,resolve,Target.leads,Sem.run_pure]
 .rw[Oper.semAt_plain F _ _ (by rw[hop];intro c hc';cases hc')]
  simp[execOp,hop,resolve,invoke,builtin,hs,hx,hrun,Result.andThen];exact hK' _ _ (hK g cap w' r1 r2 r3)
def Pb(W0:World)(e:TypeId)(cs:Array Value):bP:=
 ⟨λv=>∃b,W0.heap.size<=b/\v= .slice (some ⟨b,0,none⟩) 1 1,λv z=>∀b,v= .slice (some ⟨b,0,none⟩) 1 1->z.heap[b]?=some (.cells cs e (0,0))⟩
theorem IJ(W0:World)(e:TypeId)(cs:Array Value):(Pb W0 e cs).Keeps:=λv z z' h hb b hv=>by
 have h1:=h b hv;rw[hb.block b (aB h1)];exact h1
structure bZ(w:World)(B rb:Nat)(vs:List Value)(L:List (List Int))(k:Nat):Prop where
 own:Own w 22 rb vs
 len:vs.length=L.length
 row:∀(i:Nat) v l,k<=i->vs[i]?=some v->L[i]?=some l->w.ownsRow B 3 1 v l.length (aZ l)
 sep:∀(i j:Nat) v v' b,i≠j->vs[i]?=some v->vs[j]?=some v'->v.ownBlock=some b->v'.ownBlock≠some b
 low:∀v∈vs,∀b,v.ownBlock=some b->B<=b/\b<w.heap.size/\b≠rb
section
variable {w w':World} {B rb k:Nat} {vs:List Value} {L:List (List Int)}
theorem bZ.below(h:bZ w B rb vs L k)(hb:Below w.heap.size w w'):bZ w' B rb vs L k:=
 ⟨h.own.below hb,h.len,λi v l hk hv hl=>dF (h.row i v l hk hv hl) hb,h.sep,λv hv b hb'=>⟨(h.low v hv b hb').1,uH (h.low v hv b hb').2.1 hb.size,(h.low v hv b hb').2.2⟩⟩
theorem bZ.upd{S:Nat->Prop}(h:bZ w B rb vs L k)(hu:aG S w w')(hr:¬S rb)(hS:∀v∈vs,∀b,v.ownBlock=some b->¬S b):bZ w' B rb vs L k:=
 ⟨h.own.keep hu hr,h.len,λi v l hk hv hl=>bV (h.row i v l hk hv hl) hu (hS v (cK hv)),h.sep,λv hv b hb'=>⟨(h.low v hv b hb').1,uH (h.low v hv b hb').2.1 hu.size,(h.low v hv b hb').2.2⟩⟩
theorem bZ.get(h:bZ w B rb vs L k){i:Nat}{l:List Int}(hk:k<=i)(hl:L[i]?=some l):∃A c,vs[i]?=some (.slice A l.length c)/\w.ownsRow B 3 1 (.slice A l.length c) l.length (aZ l):=by
 have hi:i<vs.length:=by rw[h.len];exact(bB.1 hl).1
 have hv:=aS hi;have hr:=h.row i _ l hk hv hl;obtain⟨A,c,e⟩:=ownsRow_form hr;rw[e]at hv hr;exact⟨A,c,hv,hr⟩
theorem bZ.turned(h:bZ w B rb vs L k){i:Nat}{v v':Value}{l':List Int}{S:Nat->Prop}{W:World}(hv:vs[i]?=some v)(hu:aG S w W)(hS:∀b,S b->v.ownBlock=some b\/w.heap.size<=b)(hrow:W.ownsRow B 3 1 v' l'.length (aZ l'))(uy:v'.ownBlock=v.ownBlock\/∀b,v'.ownBlock=some b->w.heap.size<=b):
 bZ (W.setCell ⟨rb,i,none⟩ v') B rb (vs.set i v') (L.set i l') k:=by
 have hi:i<vs.length:=(bB.1 hv).1;have hrb:=h.own.lt;have hl0:=h.low v (cK hv);have hnr:¬S rb:=λhs=>by
  rcases hS rb hs with e|e
  .exact(hl0 rb e).2.2 rfl
  .omega
 have hown:=h.own.keep hu hnr;have hu2:aG (λb=>b=rb) W (W.setCell ⟨rb,i,none⟩ v'):=(aG.refl (λb=>b=rb) W).setCell (p:=⟨rb,i,none⟩) (.inl rfl) v';have hnew:∀b,v'.ownBlock=some b->B<=b/\b<W.heap.size/\b≠rb:=λb hb=>by
  have h1:=hrow.lt b hb;refine⟨h1.1,h1.2,?_⟩;rintro rfl;rcases uy with e|e
  .rw[e]at hb
   exact(hl0 _ hb).2.2 rfl
  .have:=e _ hb;omega
 have hother:∀(j:Nat) v2,j≠i->vs[j]?=some v2->∀b,v2.ownBlock=some b->¬S b/\v'.ownBlock≠some b:=λj v2 hj hv2 b hb=>by
  have hlt:=(h.low v2 (cK hv2) b hb).2.1;refine⟨λhs=>?_,λe2=>?_⟩
  .rcases hS b hs with e|e
   .exact h.sep i j v v2 b (λe=>hj e.symm) hv hv2 e hb
   .omega
  .rcases uy with e|e
   .rw[e]at e2
    exact h.sep i j v v2 b (λe=>hj e.symm) hv hv2 e2 hb
   .have:=e b e2;omega
 refine⟨hown.set hi _,by simp[h.len],λj v2 l2 hk hv2 hl2=>?_,λj j2 v2 v3 b hne h2 h3 hb=>?_,λv2 hv2 b hb=>?_⟩
 .rw[j_]at hv2 hl2
  by_cases e:i=j
  .subst e
   rw[if_pos rfl,if_pos hi]at hv2;rw[if_pos rfl,if_pos (by rw[<-h.len];exact hi)]at hl2;cases hv2
   cases hl2
   exact bV hrow hu2 (λb hb=>(hnew b hb).2.2)
  .rw[if_neg e]at hv2 hl2
   have hr:=h.row j v2 l2 hk hv2 hl2;refine bV (bV hr hu (λb hb=>(hother j v2 (λe2=>e e2.symm) hv2 b hb).1)) hu2 (λb hb=>(h.low v2 (cK hv2) b hb).2.2)
 .rw[j_]at h2 h3
  by_cases e:i=j
  .subst e
   rw[if_pos rfl,if_pos hi]at h2;rw[if_neg hne]at h3;cases h2
   exactλe2=>(hother j2 v3 (λe3=>hne e3.symm) h3 b e2).2 hb
  .rw[if_neg e]at h2
   by_cases e2:i=j2
   .subst e2
    rw[if_pos rfl,if_pos hi]at h3;cases h3
    exact(hother j v2 hne h2 b hb).2
   .rw[if_neg e2]at h3
    exact h.sep j j2 v2 v3 b hne h2 h3 hb
 .rw[World.size_setCell]
  rcases List.mem_or_eq_of_mem_set hv2 with h2|rfl
  .have h3:=h.low v2 h2 b hb
   exact⟨h3.1,uH h3.2.1 hu.size,h3.2.2⟩
  .exact hnew b hb
theorem bZ.changed(h:bZ w B rb vs L k){S:Nat->Prop}{W:World}{v:Value}(hv:vs[k]?=some v)(hu:aG S w W)(hS:∀b,S b->v.ownBlock=some b):bZ W B rb vs L (k+1):=by
 have hl0:=h.low v (cK hv);refine⟨h.own.keep hu (λhs=>(hl0 rb (hS rb hs)).2.2 rfl),h.len,λi v2 l hk hv2 hl=>bV (h.row i v2 l (by omega) hv2 hl) hu (λb hb hs=>h.sep k i v v2 b (by omega) hv hv2 (hS b hs) hb),h.sep,λv2 hv2 b hb'=>?_⟩;have h3:=h.low v2 hv2 b hb';exact⟨h3.1,uH h3.2.1 hu.size,h3.2.2⟩
theorem bZ.made{n:Nat}(h:Own w 22 rb (List.replicate n (.slice none 0 0))):bZ w B rb (List.replicate n (.slice none 0 0)) (List.replicate n []) 0:=by
 refine⟨h,by simp,λi v l _ hv hl=>?_,λi j v v' b _ hv _ hb=>?_,λv hv b hb=>?_⟩
 .rw[Bv]at hv hl
  split at hv
  .rename_i hi
   rw[if_pos hi]at hl;cases hv
   cases hl
   exact World.ownsRow_nil _ _ _ _
  .cases hv
 .rw[Bv]at hv
  split at hv
  .cases hv;cases hb
  .cases hv
 .rw[List.eq_of_mem_replicate hv]at hb
  cases hb
end
theorem KS(n:Nat):(madeCells (Value.cells (.slice none 0 0)) (n*1)).toList=List.replicate n (.slice none 0 0):=by
 apply lX;intro j;rcases iH j n with h|h
 .simp[madeCells,Value.cells,h,Nat.mod_one]
 .simp[madeCells,Value.cells,h]
theorem Pf{B:Nat}{A:Option Addr}{c:Nat}{l:List Int}(w:World)(h:w.ownsRow B 3 1 (.slice A l.length c) l.length (aZ l))(hl:l.length<=1000000):
 Calls prog 40 #[.slice A l.length c] w (λe w'=>e= .returned (.tuple #[])/\w'.ownsRow B 3 1 (.slice A l.length c) l.length (aZ (l.mergeSort (λx y=>decide (x<=y))))/\aG (λb=>(Value.slice A l.length c).ownBlock=some b) w w'):=by
 have hlen:(l.mergeSort (λx y=>decide (x<=y))).length=l.length:=(List.mergeSort_perm l _).length_eq;rcases h.2 with⟨hv,h0⟩|⟨g,cap,cur,hv,hB,hg,h2,h3,h4,h5⟩
 .simp only[Value.slice.injEq]at hv
  obtain⟨rfl,h0',rfl⟩:=hv;obtain rfl:=wZ h0;refine(AnyM.slices_Sort_int_none Tryz.sortItI none 0 w).mono ?_;rintro e w' ⟨rfl,rfl⟩;exact⟨rfl,by simpa using h,aG.refl _ _⟩
 .simp only[Value.slice.injEq,true_and]at hv
  obtain⟨rfl,rfl⟩:=hv;rw[Nat.mul_one]at h5 h4;refine(AnyM.slices_Sort_int Tryz.sortItI g 0 c l w (holds_of_blockI hg h5) (aB hg) (by omega)).mono ?_;rintro e w' ⟨rfl,n,os,rfl⟩;refine⟨rfl,?_,aG.jK (grownBy_sortedI _)⟩;exact ownsRow_sortedI (cur:=cur) hlen hB hg h2 h3 (by rw[h4,Nat.mul_one])
end
section
open Go.RowKit Go.Shelf Tryz
def wT(F:List ay)(r:Int):Option Value:=(F.find? (λx=>x.ref==r)).map (λx=>Value.int .i64 x.act)
theorem Vx{F:List ay}{x:ay}(h:wT F x.ref=none)(r:Int):(if r=x.ref then some (Value.int .i64 x.act)else wT F r)=wT (F++[x]) r:=by
 unfold wT at*;rw[List.find?_append];by_cases e:r=x.ref
 .subst e
  rw[if_pos rfl];simp only[Option.map_eq_none_iff]at h;rw[h];simp
 .rw[if_neg e]
  have:List.find? (λy:ay=>y.ref==r) [x]=none:=by simp[show(x.ref==r)=false by simp;exactλh2=>e h2.symm]
  rw[this,Option.or_none]
theorem DN{F:List ay}{r:Int}:wT F r=none↔r∉F.map (·.ref):=by
 unfold wT;simp only[Option.map_eq_none_iff,List.find?_eq_none,cZ];simp
theorem MB{F:List ay}{x:ay}(h:fJ F)(hx:wT F x.ref=none):fJ (F++[x]):=by
 unfold fJ at*;rw[DN]at hx;rw[pG,List.nodup_append];exact⟨h,by simp,λa ha b hb e=>by simp at hb;rw[e,hb]at ha;exact hx ha⟩
theorem Pg{F:List ay}{k:Nat}{x:ay}{v:Value}(hx:F[k]?=some x)(hv:wT (F.take k) x.ref=some v):¬fJ F:=λh=>by
 have h1:x.ref∈(F.take k).map (·.ref):=by
  apply Classical.byContradiction;intro h2;rw[<-DN,hv]at h2;cases h2
 obtain⟨y,hy,e⟩:=cZ.1 h1;obtain⟨i,hi⟩:=jW.1 hy;rw[lT]at hi;split at hi
 .rename_i hik
  obtain⟨a1,rfl⟩:=bB.1 hi;obtain⟨a2,rfl⟩:=bB.1 hx;have h3:=Ea.1 h i k (by simpa using a1) (by simpa using a2) hik;simp at h3;exact h3 e
 .cases hi
def j6(F:List ay)(D:List Int)(n k:Nat):List (List Int):=(List.range n).map (λd:Nat=>fU (F.take k) (D.take k) (d:Int))
theorem Ph(F:List ay)(D:List Int)(n:Nat):j6 F D n 0=List.replicate n []:=by
 apply lX;intro i;simp[j6,fU,Bv];by_cases h:i<n<;>simp[h]
theorem yT{F:List ay}{D:List Int}(hl:F.length=D.length)(x:ay)(e d:Int):fU (F++[x]) (D++[e]) d=fU F D d++if e=d then[x.ref]else[]:=by
 unfold fU;rw[List.zip_append hl,List.filter_append,pG];congr 1;by_cases h:e=d<;>simp[h]
theorem Pj{F:List ay}{D:List Int}{n k:Nat}(hl:F.length=D.length){x:ay}{e:Int}(hx:F[k]?=some x)(he:D[k]?=some e)(h:¬(0<=e/\e<n)):j6 F D n (k+1)=j6 F D n k:=by
 unfold j6;refine List.map_congr_left λd hd=>?_;rw[bT hx,bT he,yT (by simp[hl]),if_neg (by have:=List.mem_range.1 hd;omega),bU]
theorem RI{F:List ay}{D:List Int}{n k:Nat}(hl:F.length=D.length){x:ay}{d:Nat}(hx:F[k]?=some x)(he:D[k]?=some (d:Int))(h:d<n):j6 F D n (k+1)=(j6 F D n k).set d (fU (F.take k) (D.take k) d++[x.ref]):=by
 apply lX;intro i;unfold j6;rw[j_];simp only[gK,dU,List.length_range];rw[bT hx,bT he];by_cases e:d=i
 .subst e
  rw[if_pos rfl,if_pos h,Bz h,mZ,yT (by simp[hl]),if_pos rfl]
 .rw[if_neg e]
  cases hr:(List.range n)[i]? with
  |none=>rfl
  |some j=>
   have hj:j=i:=by
    obtain⟨a,b⟩:=bB.1 hr;simp at b;exact b.symm
   rw[mZ,mZ,yT (by simp[hl]),if_neg (by omega),bU]
theorem RJ{F:List ay}{D:List Int}{n k d:Nat}(h:d<n):(j6 F D n k)[d]?=some (fU (F.take k) (D.take k) d):=by
 unfold j6;rw[gK,Bz h,mZ]
theorem IK(F:List ay)(D:List Int)(d:Int):(fU F D d).length<=F.length:=by
 unfold fU;rw[dU];refine bI (List.length_filter_le _ _) ?_;rw[List.length_zip];omega
theorem MC{l:List Int}(h:l.Nodup):l.mergeSort (λx y=>decide (x<=y))=nC l:=by
 have hp:=List.mergeSort_perm l (λx y:Int=>decide (x<=y));refine NP ?_ (Lu l) (λx=>hp.mem_iff.trans (rD l x).symm);have h1:=List.pairwise_mergeSort (le:=λx y:Int=>decide (x<=y)) (λa b c h h'=>by simp only[decide_eq_true_eq]at*;omega) (λa b=>by simp only[qH,decide_eq_true_eq];omega) l;have h2:(l.mergeSort (λx y=>decide (x<=y))).Nodup:=hp.nodup_iff.2 h;exact List.Pairwise.imp₂ (λa b h3 h4=>by simp only[decide_eq_true_eq]at h3;omega) h1 h2
theorem aa2{F:List ay}{r:Int}(h:r∈F.map (·.ref)):wT F r=some (.int .i64 (jN F r)):=by
 cases e:wT F r with
 |none=>exact absurd h (DN.1 e)
 |some v=>
  unfold wT at e;unfold jN;cases e2:F.find? (λx=>x.ref==r)with
  |none=>rw[e2]at e;cases e
  |some x=>
   rw[e2]at e;simp only[mZ,Option.some.injEq]at e;rw[<-e];rfl
theorem Ct{F:List ay}{D:List Int}(hl:F.length=D.length)(h:fJ F)(n:Nat):(blocks F D n).length<=F.length+n:=by
 rw[JJ hl h,hl];have:=List.countP_le_length (p:=λe=>decide (0<=e)&&decide (e<(n:Int))) (l:=D);omega
def aa3(l:List Int)(w:World)(e:Ending)(w':World):Prop:=
 ∃(A:Option Addr)(c:Nat),e= .returned (.slice A l.length c)/\w'.ownsRow w.heap.size 3 1 (.slice A l.length c) l.length (aZ l)/\Below w.heap.size w w'
attribute [local go_sem] kD stillUpon bM
theorem Vy(fA:Option Addr)(fc:Nat)(dA:Option Addr)(dc:Nat)(F:List ay)(D:List Int)(u:Int)(w:World)(hF:At w 6 fA F.length fc (bH F))(hD:At w 1 dA D.length dc (aZ D))(hR:∀x∈F,iK x.ref)(hn:F.length<=4000):
 Calls prog 16 #[.slice fA F.length fc,.slice dA D.length dc,.int .i64 u] w (aa3 (gY F D u) w):=by
 have HF:=ah hF;clear hF;have HD:=ah hD;clear hD;have HR:=ah hR;clear hR;obtain⟨T,HT⟩:∃T,Hid (T=gY F D u):=⟨_,rfl⟩;rw[<-HT.out];by_cases h1:F.length=D.length
 .by_cases h2:0<=u
  .by_cases h3:u<=2000
   .obtain⟨n,rfl⟩:∃n:Nat,u=n:=⟨u.toNat,by omega⟩
    have hn2:n<=2000:=by omega
    have q1:((F.length:Int)!=(D.length:Int))=false:=by simp[h1]
    have q2:((n:Int)<0)=False:=by simp
    have q3:((2000:Int)<n)=False:=by simp;omega
    have Ua:=ah h1;clear h1 h2 h3;have hmm:=@run_makeMap prog;go_enter func16,ntmps16;obtain⟨ip,hip,hpz,hps,hpb⟩:=info_parts' (P:=prog) (t:=22) (z:=some (.slice none 0 0)) (s:=1) (b:=24) (by kernel_rfl);obtain⟨ii,hii,hiz,his,hib⟩:=info_parts' (P:=prog) (t:=3) (z:=some (.int .i64 0)) (s:=1) (b:=8) (by kernel_rfl);have hmk:=λw:World=>run_makeSlice (P:=prog) (w:=w) 84 22 ip _ underlying84 hip hpz .i64 .i64 (n:Int) (n:Int) (by omega) (by omega) (by rw[hps];simp;omega) (by rw[hpb];omega) (by omega);simp only[sM,hps]at hmk;go_upto_region 4 with(fail)
    have hM:eD iK 3 encI (w.alloc (.map #[] 0)) w.heap.size 0 (λ_=>none):=eD.made w;have hsz1:(w.alloc (.map #[] 0)).heap.size=w.heap.size+1:=aT _ _;generalize hW1:w.alloc (.map #[] 0)=W1 at hM hsz1⊢;have hb1:Below w.heap.size w W1:=by rw[<-hW1];exact aJ (aC _ _) _
    clear hW1;have hx:=hmk W1;clear hmk;go_upto_region 5 with(fail)
    generalize Dx:World.alloc _ _=Wb;have hbb:Below W1.heap.size W1 Wb:=by rw[<-Dx];exact aJ (aC _ _) _
    have hOW:Own Wb 22 (w.heap.size+1) (List.replicate n (.slice none 0 0)):=by
     refine⟨[],?_⟩;rw[bU,<-KS,Array.toArray_toList,<-Dx,<-hsz1,Nat.mul_one];exact bK W1 _
    have HR0:Hid (bZ (Bl.val (⟨Wb,av hb1 hbb⟩:Bl w)) (w.heap.size+2) (w.heap.size+1) (List.replicate n (.slice none 0 0)) (j6 F D n 0) 0):=by
     show bZ _ _ _ _ _ _;rw[Ph];exact bZ.made hOW
    have YP:Hid (eD iK 3 encI (Bl.val (⟨Wb,av hb1 hbb⟩:Bl w)) w.heap.size 0 (wT (F.take 0))):=hM.below hM.lt hbb;change Code.wp _ _ _ _ (Bl.val (⟨Wb,av hb1 hbb⟩:Bl w));generalize(⟨Wb,av hb1 hbb⟩:Bl w)=s0 at HR0 YP⊢;clear hOW hbb Dx hx hM hb1 hsz1 hip hpz hps hpb ip W1;go_wp2
    go_loopg [37] F.length (λgk v37 wr=>∃(k nn:Nat)(z:Bl w)(vs:List Value),gk=F.length - k/\k<=F.length/\v37= .int .i64 k/\wr=z.val/\nn<=k/\Hid (eD iK 3 encI z.val w.heap.size nn (wT (F.take k)))/\Hid (bZ z.val (w.heap.size+2) (w.heap.size+1) vs (j6 F D n k) 0)/\Hid (fJ (F.take k)))
    case atStart=>
     have ak5:Hid (fJ (F.take 0)):=by show fJ _;simp[fJ]
     exact⟨0,0,s0,_,rfl,aU _,rfl,rfl,bJ _,YP,HR0,ak5⟩
    case round=>
     obtain⟨k,nn,z,vs,eO,hk,rfl,rfl,hnn,HM,HRW,Ih⟩:=hrel;have iw:=ah eO;clear eO YP HR0;by_cases hlt:k<F.length
     .obtain⟨fb,fo,lG,hfb,hcell⟩:=HF.out.fact (by omega)
      subst lG;obtain⟨⟨re,ac,lo,hi,fi,se⟩,hx⟩:∃x,F[k]?=some x:=⟨F[k],aS hlt⟩;obtain⟨e0,e1,e2,e3,e4,e5⟩:=UQ (λz hz=>hcell k _ hx z hz) rfl;have hre:iK re:=HR.out _ (cK hx);have hfd:=Ua.out;obtain⟨db,ag4,hDA,hdb,hdc⟩:=HD.out.1.form (by omega) (by omega);subst hDA;obtain⟨d,hd⟩:∃d,D[k]?=some d:=⟨D[k]'(by omega),aS (by omega)⟩;have ed:∀z:Bl w,z.val.cell? ⟨db,ag4+k,none⟩=some (.int .i64 d):=λz=>by
       rw[z.prop.cell (p:=⟨db,ag4+k,none⟩) hdb,hdc k (by omega)];exact ig hd
      have HX:=ah hx;clear hx hcell;have HDX:=ah hd;clear hd hdc;have j1:(k:Int)<(F.length:Int):=by omega
      have j2:(k:Int)<(D.length:Int):=by omega
      clear hfd;go_upto_region 8 with(fail)
      generalize hWa:World.alloc _ _=Wa;obtain⟨hba,hxa⟩:=bx1' hWa;clear hWa;have oU:Hid (Below w.heap.size w Wa):=av z.prop hba;obtain⟨d0,d1,d2,d3,d4,d5⟩:=kc6 hxa;have HXA:Hid (Own Wa 56 z.val.heap.size [.int .i64 re,.int .i64 ac,.int .i64 lo,.int .i64 hi,.int .i64 fi,.bool se]):=⟨[],by rw[bU];exact hxa⟩;clear e0 e1 e2 e3 e4 e5;have hma:=HM.out.below HM.out.lt hba;have WH:=ah (HRW.out.below hba);have lk:=eD.GJ BP underlying90 hma (Tf Wa) hre (Dc hre);have q0:=d0 ⟨Wa,aC _ _⟩;have q1':=d1 ⟨Wa,aC _ _⟩;have HB0:=ah d0;clear d0 d1 d2 d3 d4 d5;simp only at q0 q1';cases hav:wT (F.take k) re with
      |some v=>
       rw[hav]at lk;simp only[Option.getD_some,Option.isSome_some]at lk;have hT:T=[]:=by
        rw[HT.out];unfold gY;rw[if_neg (λh=>Pg HX.out hav h.2.2.2)]
       subst hT;clear hav hma HM HRW WH Ih HB0 HXA q1';go_wp2;go_ret;exact⟨none,0,rfl,World.ownsRow_nil _ _ _ _,oU.out⟩
      |none=>
       obtain⟨w2,hrun,hm2,htr⟩:=eD.put rW BP underlying90 hma (by unfold maxLen;omega) hre (Dc hre) (.int .i64 ac);rw[hav]at lk;simp only[Option.getD_none,Option.isSome_none]at lk;go_upto_region 12 with(fail)
       have HAV:Hid (fJ (F.take (k+1))):=by show fJ _;rw[bT HX.out];exact MB Ih.out hav
       have Bo:Hid (eD iK 3 encI w2 w.heap.size (if((wT (F.take k)) re).isSome then nn else nn+1) (wT (F.take (k+1)))):=by
        show eD _ _ _ _ _ _ _;rw[bT HX.out];exact hm2.congr (λr=>Vx (x:=(⟨re,ac,lo,hi,fi,se⟩:ay)) hav r)
       obtain⟨nn',adO⟩:∃nn',nn'=(if((wT (F.take k)) re).isSome then nn else nn+1):=⟨_,rfl⟩;rw[<-adO]at Bo;have adP:nn'<=k+1:=by rw[adO];split<;>omega
       clear adO hav hm2 hrun lk hma HM Ih;have hzs:=z.prop.size;have vD:Hid (aG (λb=>b=w.heap.size) Wa w2):=h_ htr;have ak7:w.heap.size<z.val.heap.size:=by have:=HRW.out.own.lt;omega
       have zD:Hid (Own w2 56 z.val.heap.size [.int .i64 re,.int .i64 ac,.int .i64 lo,.int .i64 hi,.int .i64 fi,.bool se]):=HXA.out.keep vD.out (by omega);have HR2:Hid (bZ w2 (w.heap.size+2) (w.heap.size+1) vs (j6 F D n k) 0):=WH.out.upd vD.out (by omega) (λv hv b hb e=>by have:=(WH.out.low v hv b hb).1;omega);have HB2:Hid (Below w.heap.size w w2):=oU.out.trans (wH htr (bJ _));clear htr WH HB0 oU HXA q0 q1';obtain⟨bx,hbx⟩:∃bx,bx=z.val.heap.size:=⟨_,rfl⟩;rw[<-hbx]at zD⊢;have apU:w.heap.size+2<=bx:=by have:=HRW.out.own.lt;omega
       clear vD ak7 hzs hba HRW hbx;have ed2:=ed ⟨w2,HB2.out⟩;simp only at ed2;clear ed;by_cases hin:0<=d/\d<(n:Int)
       .obtain⟨dd,rfl⟩:∃dd:Nat,d=dd:=⟨d.toNat,by omega⟩
        have hdn:dd<n:=by omega
        go_upto_region 14 with(fail)
        obtain⟨rA,rc,hvd,hrow⟩:=HR2.out.get (aU dd) (RJ hdn);have Ub:Hid (j6 F D n (k+1)=(j6 F D n k).set dd (fU (F.take k) (D.take k) dd++[re])):=RI Ua.out HX.out HDX.out hdn;have hlr:=IK (F.take k) (D.take k) dd;rw[pz]at hlr;have J8:=ah hvd;clear hvd;obtain⟨l,HL⟩:∃l,Hid (l=fU (F.take k) (D.take k) dd):=⟨_,rfl⟩;rw[<-HL.out]at hrow hlr Ub J8;have mW:=ah hrow;clear hrow;have hll:l.length<=4000:=by omega
        clear hlr;obtain⟨rb,hrb⟩:∃rb,rb=w.heap.size+1:=⟨_,rfl⟩;rw[<-hrb]at HR2⊢;have Ni:=ah hrb;clear hrb;have x0:∀y:Bl w2,y.val.cell? ⟨bx,0,none⟩=some (.int .i64 re):=λy=>(zD.out.below y.prop).cell rfl;have x1:∀y:Bl w2,y.val.cell? ⟨rb,dd,none⟩=some (.slice rA l.length rc):=λy=>(HR2.out.below y.prop).own.cell J8.out;have x2:∀y:Bl w2,y.val.frozen? ⟨rb,dd,none⟩=false:=λy=>(HR2.out.below y.prop).own.frozen dd;refine GX (s:=(⟨w2,aC _ _⟩:Bl w2)) 9 (λi=>match i with
         |8=>some (Pb w2 3 #[.int .i64 re])
         |_=>none) (λ_=>[]) [] [0,1] (by simp) (by kernel_rfl) (by kernel_rfl) (by simp) ?panics (by kernel_rfl) (by intro p hp;simp at hp) ?keeps ?_
        case panics=>
         intro e _ o v c a w _ h;revert h;cases o.dst<;>exact id
        case keeps=>
         intro i sp h;split at h
         .injection h with h;subst h;exact IJ _ _ _
         .cases h
        simp only[gF,bW,gI,b_];repeat(refine UL rfl (λK hK=>?_);go_simp;refine hK _ ?_;clear hK K)
        refine XJ _ rfl rfl ?_ (λy _=>?_) ?_
        .exact⟨_,w2.heap.size,bJ _,rfl⟩
        .go_simp
         refine⟨⟨_,y.prop.size,rfl⟩,λb hb=>?_,aJ (aC _ _) _⟩;simp only[Value.slice.injEq,Option.some.injEq,Addr.mk.injEq,and_true]at hb;subst hb;exact bK _ _
        rintro _ ⟨gb,hgb,rfl⟩;refine aao ?_;rintro y ⟨_,hA⟩;have hnew:=hA gb rfl;clear hA;have hRy:=HR2.out.below y.prop;have hly:=hRy.own.lt;refine yS rfl _ _ 22 rfl (w.heap.size+2) 3 ii (.int .i64 0) 1 8 underlying22 hii hiz his hib rfl (by decide) _ l.length _ rfl (dF mW.out y.prop) gb #[.int .i64 re] 3 (0,0) rfl hnew rfl (by intro u hu;simp only[eB]at hu;subst hu;rfl) (by unfold maxLen;omega) (by omega) (by have:=Ni.out;omega) ?_;intro g6 c6 w6 h6 ZP uy;have Dz:aG (λb=>(Value.slice rA l.length rc).ownBlock=some b) y.val w6:=aG.jK ZP;have adQ:¬(Value.slice rA l.length rc).ownBlock=some rb:=λe=>(HR2.out.low _ (cK J8.out) rb e).2.2 rfl;have y0:w6.cell? ⟨rb,dd,none⟩=some (.slice rA l.length rc):=(bQ Dz hly adQ).trans (x1 y);have y1:w6.frozen? ⟨rb,dd,none⟩=false:=(U2 Dz hly adQ).trans (x2 y);have HT6:Hid (bZ (w6.setCell ⟨rb,dd,none⟩ (.slice (some ⟨g6,0,none⟩) (l.length+1) c6)) (w.heap.size+2) rb (vs.set dd (.slice (some ⟨g6,0,none⟩) (l.length+1) c6)) (j6 F D n (k+1)) 0):=by
         show bZ _ _ _ _ _ _;rw[Ub.out];refine hRy.turned J8.out Dz (λb hb=>.inl hb) ?_ ?_
         .have e:(l++[re]).length=l.length+1:=by simp
          rw[e,oN];exact h6
         .rcases uy with e|e
          .have e':(Value.slice rA l.length rc).ownBlock=some g6:=e
           exact .inl (by rw[e'];rfl)
          .exact .inr (λb hb=>by simp only[Value.ownBlock,Option.some.injEq]at hb;omega)
        have vS:Hid (aG (λb=>w.heap.size+1<=b) w2 (w6.setCell ⟨rb,dd,none⟩ (.slice (some ⟨g6,0,none⟩) (l.length+1) c6))):=by
         refine aG.setCell ((l8 (aG.refl (λb=>w.heap.size+1<=b) w2) y.prop).trans Dz (λi hi hs=>?_)) (.inl ?_) _
         .have:=(HR2.out.low _ (cK J8.out) i hs).1
          omega
         .show w.heap.size+1<=rb
          rw[Ni.out];exact bJ _
        clear h6 ZP uy Dz adQ hRy hnew x0 x1 x2 mW HL;gi_wp2;have hrb:=Ni.out;clear Ni;subst hrb;have O7:=ah (Bo.out.upd vS.out (by omega));have Rj:Hid (Below w.heap.size w (w6.setCell ⟨w.heap.size+1,dd,none⟩ (.slice (some ⟨g6,0,none⟩) (l.length+1) c6))):=HB2.out.trans (vS.out.below HB2.out.size (λi hi=>by omega));clear vS Bo HB2 zD HR2 y0 y1;generalize w6.setCell ⟨w.heap.size+1,dd,none⟩ (.slice (some ⟨g6,0,none⟩) (l.length+1) c6)=Wf at O7 Rj HT6⊢;go_wp2
        go_roundg (F.length - (k+1))
        case measure=>rw[iw.out];omega
        case rel=>exact⟨k+1,nn',⟨Wf,Rj.out⟩,_,rfl,by omega,by go_num,rfl,adP,O7,HT6,HAV⟩
       .have Ub:Hid (bZ w2 (w.heap.size+2) (w.heap.size+1) vs (j6 F D n (k+1)) 0):=by
         show bZ _ _ _ _ _ _;rw[Pj Ua.out HX.out HDX.out hin];exact HR2.out
        have hgo:d<0\/(0<=d/\(n:Int)<=d):=by omega
        rcases hgo with h0|⟨h0,h00⟩
        .go_wp2
         go_roundg (F.length - (k+1))
         case measure=>rw[iw.out];omega
         case rel=>exact⟨k+1,nn',⟨w2,HB2.out⟩,vs,rfl,by omega,by go_num,rfl,adP,Bo,Ub,HAV⟩
        .go_wp2
         go_roundg (F.length - (k+1))
         case measure=>rw[iw.out];omega
         case rel=>exact⟨k+1,nn',⟨w2,HB2.out⟩,vs,rfl,by omega,by go_num,rfl,adP,Bo,Ub,HAV⟩
     .obtain rfl:k=F.length:=by omega
      clear iw hlt;rw[iG]at HM Ih;have HTB:Hid (T=blocks F D n):=by
       show _=_;rw[HT.out,Gu Ua.out (by omega) (by omega) Ih.out,sM]
      have hLL:j6 F D n F.length=(List.range n).map (λd:Nat=>fU F D (d:Int)):=by
       unfold j6;rw[iG,Ua.out,iG]
      rw[hLL]at HRW;clear hLL HT;obtain⟨Z,HZ⟩:∃Z,Z=z.val:=⟨_,rfl⟩;have Io:Hid (Below w.heap.size w Z):=by show Below _ _ _;rw[HZ];exact z.prop
      rw[<-HZ]at HM HRW⊢;clear HZ z;have adR:Hid (∀v∈vs,∀b,v.ownBlock=some b->b<Z.heap.size):=λv hv b hb=>(HRW.out.low v hv b hb).2.1;have apW:=HRW.out.own.lt;have hvl:vs.length=n:=by rw[HRW.out.len];simp
      go_wp2
      go_loopg [80,14] n (λgk v80 v14 wr=>∃(k:Nat)(A:Option Addr)(c:Nat),gk=n - k/\k<=n/\v80= .int .i64 k/\v14= .slice A (blocks F D k).length c/\Hid (wr.ownsRow Z.heap.size 3 1 (.slice A (blocks F D k).length c) (blocks F D k).length (aZ (blocks F D k)))/\Hid (eD iK 3 encI wr w.heap.size nn (wT F))/\Hid (bZ wr (w.heap.size+2) (w.heap.size+1) vs ((List.range n).map (λd:Nat=>fU F D (d:Int))) k)/\Hid (Below w.heap.size w wr)/\Z.heap.size<=wr.heap.size)
      case atStart=>exact⟨0,none,0,rfl,aU _,rfl,rfl,World.ownsRow_nil _ _ _ _,HM,HRW,Io,bJ _⟩
      case round=>
       obtain⟨k,A,c,eO,hk,rfl,rfl,rT,Bo,Ng,vE,hzw⟩:=hrel;have iw:=ah eO;clear eO HM HRW;by_cases hlt:k<n
       .have hget:((List.range n).map (λd:Nat=>fU F D (d:Int)))[k]?=some (fU F D (k:Int)):=by rw[gK,Bz hlt];rfl
        obtain⟨lA,lc,hvk,hrow⟩:=Ng.out.get (bJ k) hget;have hrl:=IK F D (k:Int);have adS:Hid (∀r∈nC (fU F D (k:Int)),r∈F.map (·.ref)):=λr hr=>by
         rw[rD,vN]at hr;obtain⟨i,x,h1,_,rfl⟩:=hr;exact List.mem_map_of_mem (cK h1)
        have HND:Hid ((fU F D (k:Int)).Nodup):=BK Ih.out Ua.out _;have Qe:Hid (blocks F D (k+1)=blocks F D k++((nC (fU F D (k:Int))).map (jN F)++[-1])):=pJ F D k;have hbl:=Ct Ua.out Ih.out k;obtain⟨l,HL⟩:∃l,Hid (l=fU F D (k:Int)):=⟨_,rfl⟩;rw[<-HL.out]at hvk hrow hrl adS HND Qe;have x1:wr.cell? ⟨w.heap.size+1,k,none⟩=some (.slice lA l.length lc):=Ng.out.own.cell hvk;have k0:(k:Int)<(n:Int):=by omega
        have uZ:=ah (Pf wr hrow (by omega));have HVK:=ah hvk;clear hrow hvk hget;go_wp2_with (go_at_call 40;refine uZ.out.mono ?_;rintro e z3 ⟨rfl,hrow3,hu3⟩;refine Hid.out ?_);refine ah ?_;have hmv:=cK HVK.out;have Uc:∀b,(Value.slice lA l.length lc).ownBlock=some b->w.heap.size+2<=b/\b<Z.heap.size:=λb hb=>⟨(Ng.out.low _ hmv b hb).1,adR.out _ hmv b hb⟩;have ag5:=ah (Ng.out.changed HVK.out hu3 (λb hb=>hb));have ag6:=ah (bV rT.out hu3 (λb hb hs=>by have:=(rT.out.lt b hb).1;have:=(Uc b hs).2;omega));have Nj:=ah (Bo.out.upd hu3 (λhs=>by have:=(Uc _ hs).1;omega));have adU:Hid (Below w.heap.size w z3):=vE.out.trans (hu3.below vE.out.size (λb hb=>by have:=(Uc b hb).1;omega));have hz3:Z.heap.size<=z3.heap.size:=bI hzw hu3.size;rw[MC HND.out]at hrow3;have hSl:(nC l).length=l.length:=(Gx HND.out).length_eq;have YQ:=ah hrow3;clear hrow3 hu3 Ng rT Bo vE HVK hmv uZ HL x1;obtain⟨S,HS⟩:∃S,Hid (S=nC l):=⟨_,rfl⟩;rw[<-HS.out]at hSl YQ adS Qe;have k4:l.length<=4000:=by omega
        go_wp2
        go_loopg [88,14] l.length (λgk v88 v14 wr=>∃(j:Nat)(A:Option Addr)(c:Nat),gk=l.length - j/\j<=l.length/\v88= .int .i64 j/\v14= .slice A (blocks F D k++(S.take j).map (jN F)).length c/\Hid (wr.ownsRow Z.heap.size 3 1 (.slice A (blocks F D k++(S.take j).map (jN F)).length c) (blocks F D k++(S.take j).map (jN F)).length (aZ (blocks F D k++(S.take j).map (jN F))))/\Hid (aG (λb=>Z.heap.size<=b) z3 wr))
        case atStart=>
         refine⟨0,A,c,rfl,aU _,rfl,by simp,?_,aG.refl _ _⟩;have h:=ag6;simpa using h
        case round=>
         obtain⟨j,A,c,eO,hj,rfl,rfl,rT,HU⟩:=hrel;have Qn:=ah eO;clear eO ag6;by_cases hlj:j<l.length
         .obtain⟨r,hr⟩:∃r,S[j]?=some r:=⟨S[j]'(by omega),aS (by omega)⟩
          have hrm:=adS.out r (cK hr);have ag7:iK r:=by
           obtain⟨x,hx,rfl⟩:=cZ.1 hrm;exact HR.out x hx
          have hMw:=Nj.out.upd HU.out (by omega);have lk:=eD.look BP underlying90 hMw (Tf wr) ag7 (Dc ag7);rw[aa2 hrm]at lk;simp only[Option.getD_some]at lk;have hRw:=bV YQ.out HU.out (λb hb hs=>by have:=(Uc b hb).2;omega);obtain⟨g,rfl,hBg,hgl,hlc,hcm,hcell⟩:=nT hRw (by omega);have x2:wr.cell? ⟨g,j,none⟩=some (.int .i64 r):=hcell j _ (ig hr);have j0:(j:Int)<(l.length:Int):=by omega
          have hwz:=HU.out.size;have hrl2:(blocks F D k++(S.take j).map (jN F)).length<=10000:=by simp;omega
          have hzr:Z.heap.size<=wr.heap.size:=by omega
          generalize hRL:blocks F D k++(S.take j).map (jN F)=RL at rT hrl2⊢;have FM:=ah hRL;clear hRL;have HRJ:=ah hr;clear hRw hcell hMw hr hrm;go_wp2_with (at_builtin;refine iV rfl _ _ 22 rfl 3 ii (.int .i64 0) 1 8 underlying22 hii hiz his hib rfl (by decide) Z.heap.size _ _ _ rfl rT.out [.int .i64 (jN F r)] _ rfl rfl (by intro u hu;simp only[eB]at hu;subst hu;rfl) rfl (by unfold maxLen;omega) (by omega) hzr ?_;intro g6 c6 w6 h1 h2;refine Hid.out ?_);refine ah ?_;have hnb:∀b,(Value.slice A RL.length c).ownBlock=some b->Z.heap.size<=b:=λb e=>(rT.out.lt b e).1;have vS:Hid (aG (λb=>Z.heap.size<=b) wr w6):=((aG.refl _ wr).alloc _).trans (aG.jK h2) (λb _ h=>hnb b h);have hR6:w6.ownsRow Z.heap.size 3 1 (.slice (some ⟨g6,0,none⟩) (blocks F D k++(S.take (j+1)).map (jN F)).length c6) (blocks F D k++(S.take (j+1)).map (jN F)).length (aZ (blocks F D k++(S.take (j+1)).map (jN F))):=by
           rw[bT HRJ.out,pG,<-zX,FM.out];rw[show(RL++List.map (jN F) [r]).length=RL.length+1 by simp,show aZ (RL++List.map (jN F) [r])=aZ RL++[.int .i64 (jN F r)]from oN _ _];exact h1
          have acg:(blocks F D k++(S.take (j+1)).map (jN F)).length=RL.length+1:=by
           rw[bT HRJ.out,pG,<-zX,FM.out];simp
          have FN:=ah hR6;have HL6:=ah acg;clear hR6 acg h1 h2 hnb lk x2;go_wp2
          go_roundg (l.length - (j+1))
          case measure=>rw[Qn.out];omega
          case rel=>exact⟨j+1,_,_,rfl,by omega,by go_num,by rw[HL6.out],FN,HU.out.trans vS.out (λb _ h=>h)⟩
         .obtain rfl:j=l.length:=by omega
          have hST:S.take l.length=S:=by rw[<-hSl,iG]
          rw[hST]at rT;rw[hST];clear hST Qn hlj;have hwz:=HU.out.size;have hrl2:(blocks F D k++S.map (jN F)).length<=10000:=by simp;omega
          have hzr:Z.heap.size<=wr.heap.size:=by omega
          have ag9:=ah (ag5.out.upd HU.out (by omega) (λv hv b hb hs=>by have:=adR.out v hv b hb;omega));have HMW:=ah (Nj.out.upd HU.out (by omega));have adV:Hid (Below w.heap.size w wr):=adU.out.trans (HU.out.below adU.out.size (λb hb=>by omega));rw[<-zX]at Qe;generalize blocks F D k++S.map (jN F)=RL at rT hrl2 Qe⊢;clear YQ ag5 Nj adU HU;go_wp2_with (at_builtin;refine iV rfl _ _ 22 rfl 3 ii (.int .i64 0) 1 8 underlying22 hii hiz his hib rfl (by decide) Z.heap.size _ _ _ rfl rT.out [.int .i64 (-1)] _ rfl rfl (by intro u hu;simp only[eB]at hu;subst hu;rfl) rfl (by unfold maxLen;omega) (by omega) hzr ?_;intro g6 c6 w6 h1 h2;refine Hid.out ?_);refine ah ?_;have hnb:∀b,(Value.slice A RL.length c).ownBlock=some b->Z.heap.size<=b:=λb e=>(rT.out.lt b e).1;have vS:Hid (aG (λb=>Z.heap.size<=b) wr w6):=((aG.refl _ wr).alloc _).trans (aG.jK h2) (λb _ h=>hnb b h);have hl6:(blocks F D (k+1)).length=RL.length+1:=by rw[Qe.out];simp
          have hR6:w6.ownsRow Z.heap.size 3 1 (.slice (some ⟨g6,0,none⟩) (blocks F D (k+1)).length c6) (blocks F D (k+1)).length (aZ (blocks F D (k+1))):=by
           rw[hl6,Qe.out,oN];exact h1
          have FN:=ah hR6;have HL6:=ah hl6;have YA:=ah (ag9.out.upd vS.out (by omega) (λv hv b hb hs=>by have:=adR.out v hv b hb;omega));have HM6:=ah (HMW.out.upd vS.out (by omega));have WL:Hid (Below w.heap.size w w6):=adV.out.trans (vS.out.below adV.out.size (λb hb=>by omega));have hz6:Z.heap.size<=w6.heap.size:=bI hzr vS.out.size;clear hR6 hl6 h1 h2 hnb vS ag9 HMW adV;go_wp2
          go_roundg (n - (k+1))
          case measure=>rw[iw.out];omega
          case rel=>exact⟨k+1,_,_,rfl,by omega,by go_num,by rw[HL6.out],FN,HM6,YA,WL,hz6⟩
       .obtain rfl:k=n:=by omega
        clear iw hlt Bo Ng;have hT:=HTB.out;subst hT;clear HTB;go_wp2;go_ret;exact⟨_,_,rfl,Cr rT.out (λg hg=>by have:=(rT.out.lt g hg).1;have:=Io.out.size;omega),vE.out⟩
   .have hT:T=[]:=by rw[HT.out];unfold gY;rw[if_neg (λh=>h3 h.2.2.1)]
    subst hT;have q1:((F.length:Int)!=(D.length:Int))=false:=by simp[h1]
    have q2:(u<0)=False:=by simp;omega
    have q3:((2000:Int)<u)=True:=by simp;omega
    clear h1 h2 h3 HT;go_enter func16,ntmps16;go_wp2;go_ret;exact⟨none,0,rfl,World.ownsRow_nil _ _ _ _,aC _ _⟩
  .have hT:T=[]:=by rw[HT.out];unfold gY;rw[if_neg (λh=>h2 h.2.1)]
   subst hT;have q1:((F.length:Int)!=(D.length:Int))=false:=by simp[h1]
   have q2:(u<0)=True:=by simp;omega
   clear h1 h2 HT;go_enter func16,ntmps16;go_wp2;go_ret;exact⟨none,0,rfl,World.ownsRow_nil _ _ _ _,aC _ _⟩
 .have hT:T=[]:=by rw[HT.out];unfold gY;rw[if_neg (λh=>h1 h.1)]
  subst hT;have q1:((F.length:Int)!=(D.length:Int))=true:=by simp;omega
  go_enter func16,ntmps16;go_wp2;go_ret;exact⟨none,0,rfl,World.ownsRow_nil _ _ _ _,aC _ _⟩
end
section
open Go.RowKit Go.Shelf Tryz
def DR(lo hi:Nat->Int)(is:List Nat):List Value:=is.flatMap (λi=>[.int .i64 (lo i),.int .i64 (hi i)])
def Fq(lo hi:Nat->Int)(n:Nat):List Value:=DR lo hi (List.range n)
theorem nU(lo hi:Nat->Int)(n:Nat):(Fq lo hi n).length=n*2:=by
 unfold Fq DR;rw[gW (λi:Nat=>[Value.int .i64 (lo i),.int .i64 (hi i)]) 2 (λ_=>rfl),List.length_range]
theorem dO(lo hi:Nat->Int){n i j:Nat}(h:i<n)(hj:j<2):(Fq lo hi n)[i*2+j]?=([.int .i64 (lo i),.int .i64 (hi i)]:List Value)[j]?:=
 bG (λi:Nat=>[Value.int .i64 (lo i),.int .i64 (hi i)]) 2 (λ_=>rfl) (List.range n) i j i (Bz h) hj
theorem Pk(lo hi:Nat->Int){n i:Nat}(h:i<n)(l u:Int):((Fq lo hi n).set (i*2) (.int .i64 l)).set (i*2+1) (.int .i64 u)=Fq (setAt lo i l) (setAt hi i u) n:=by
 apply lX;intro q;rcases iH q (n*2)with hq|hq
 .have hr:=dO (setAt lo i l) (setAt hi i u) (n:=n) (i:=q/2) (j:=q % 2) (by omega) (by omega)
  have ho:=dO lo hi (n:=n) (i:=q/2) (j:=q % 2) (by omega) (by omega);rw[show q/2*2+q % 2=q by omega]at hr ho;rw[hr,j_,j_];by_cases e1:i*2+1=q
  .rw[if_pos e1,if_pos (by simp[nU];omega),show q/2=i by omega,show q % 2=1 by omega]
   simp[fD]
  .rw[if_neg e1]
   by_cases e2:i*2=q
   .rw[if_pos e2,if_pos (by rw[nU];omega),show q/2=i by omega,show q % 2=0 by omega]
    simp[fD]
   .rw[if_neg e2,ho,fG _ _ (by omega),fG _ _ (by omega)]
 .rw[mX (by simp[nU];omega),mX (by rw[nU];exact hq)]
def DT(t:TypeId):Prop:=t=175\/t=177\/t=222
structure SX where
 B:Nat
 sb:Nat
 bb:Nat
 rb:Nat
 ab:Nat
 n:Nat
 vb:List Value
 va:List Value
 Lb:List (List Int)
 La:List (List Int)
def SSet(X:SX)(V:World)(k:Nat):Prop:=X.B<=k/\∃(cs:Array Value)(t:TypeId)(fz:Nat×Nat),V.heap[k]?=some (.cells cs t fz)/\DT t/\(k=X.sb\/k=X.bb\/t=222)
def qE(X:SX)(V V':World):Prop:=aG (SSet X V) V V'
theorem qE.trans{X:SX}{a b c:World}(h:qE X a b)(k:qE X b c):qE X a c:=by
 refine aG.trans h k (λi hi ⟨h1,cs,t,fz,h2,h3⟩=>?_);by_cases hz:SSet X a i
 .exact hz
 .rw[h.block i hi hz]at h2
  exact⟨h1,cs,t,fz,h2,h3⟩
theorem qE.of_below{X:SX}{V V':World}(h:Below V.heap.size V V'):qE X V V':=⟨h.os,h.tape,h.output,h.size,λk hk _=>h.block k hk⟩
theorem qE.ME{S:Nat->Prop}{X:SX}{V V':World}(h:aG S V V')(hS:∀i,S i->i<V.heap.size->SSet X V i):qE X V V':=h.mono (λi hi hs=>hS i hs hi)
theorem Cu{X:SX}{V:World}{k:Nat}{cs:Array Value}{t:TypeId}{fz:Nat×Nat}(h:V.heap[k]?=some (.cells cs t fz))(ht:¬DT t):¬SSet X V k:=λ⟨_,cs',t',fz',h1,h2,_⟩=>by
 rw[h]at h1;cases h1
 exact ht h2
theorem Own.FR{X:SX}{w w':World}{t:TypeId}{b:Nat}{cs:List Value}(h:Own w t b cs)(hm:qE X w w')(ht:¬DT t):Own w' t b cs:=by
 obtain⟨tl,h⟩:=h;exact⟨tl,hm.keep h (Cu h ht)⟩
theorem Own.ahd{X:SX}{w w':World}{t:TypeId}{b:Nat}{cs:List Value}(h:Own w t b cs)(hm:qE X w w')(h1:b≠X.sb)(h2:b≠X.bb)(ht:t≠222):Own w' t b cs:=by
 obtain⟨tl,h⟩:=h;refine⟨tl,hm.keep h (λ⟨_,cs',t',fz',h3,_,h4⟩=>?_)⟩;rw[h]at h3;cases h3
 rcases h4 with h4|h4|h4
 .exact h1 h4
 .exact h2 h4
 .exact ht h4
theorem tH{X:SX}{B':Nat}{w w':World}{e:TypeId}{size n:Nat}{v:Value}{xs:List Value}(h:w.ownsRow B' e size v n xs)(hm:qE X w w')(ht:¬DT e):w'.ownsRow B' e size v n xs:=by
 refine⟨h.1,?_⟩;rcases h.2 with h0|⟨g,cap,cur,rfl,hB,hg,r⟩
 .exact .inl h0
 .exact .inr ⟨g,cap,cur,rfl,hB,hm.keep hg (Cu hg ht),r⟩
theorem Own.sset{X:SX}{w:World}{t:TypeId}{b:Nat}{cs:List Value}(h:Own w t b cs)(hB:X.B<=b)(ht:DT t)(hx:b=X.sb\/b=X.bb\/t=222):SSet X w b:=by
 obtain⟨tl,h⟩:=h;exact⟨hB,_,_,_,h,ht,hx⟩
theorem Own.ne{w:World}{t t':TypeId}{b b':Nat}{cs cs':List Value}(h:Own w t b cs)(h':Own w t' b' cs')(ht:t≠t'):b≠b':=by
 rintro rfl;obtain⟨tl,h⟩:=h;obtain⟨tl',h'⟩:=h';rw[h]at h';injection h' with h'
 injection h' with _ h' _
 exact ht h'
theorem MF{X:SX}{B':Nat}{w:World}{size n:Nat}{v:Value}{xs:List Value}(h:w.ownsRow B' 222 size v n xs)(hB:X.B<=B'){k:Nat}(hk:v.ownBlock=some k):SSet X w k:=by
 rcases h.2 with⟨rfl,_⟩|⟨g,cap,cur,rfl,h1,h2,_⟩
 .cases hk
 .simp only[Value.ownBlock,Option.some.injEq]at hk
  subst hk;exact⟨bI hB h1,_,_,_,h2,.inr (.inr rfl),.inr (.inr rfl)⟩
theorem bZ.FR{X:SX}{B':Nat}{w w':World}{rb:Nat}{vs:List Value}{L:List (List Int)}(h:bZ w B' rb vs L 0)(hm:qE X w w'):bZ w' B' rb vs L 0:=by
 refine h.upd hm ?_ (λv hv b hb=>?_)
 .obtain⟨tl,h1⟩:=h.own
  exact Cu h1 (by unfold DT;decide)
 .obtain⟨i,hi⟩:=jW.1 hv
  have hl:i<L.length:=by rw[<-h.len];exact(bB.1 hi).1
  rcases(h.row i v _ (aU _) hi (aS hl)).2 with⟨rfl,_⟩|⟨g,cap,cur,rfl,_,h2,_⟩
  .cases hb
  .simp only[Value.ownBlock,Option.some.injEq]at hb
   subst hb;exact Cu h2 (by unfold DT;decide)
structure aO(w:World)(X:SX)(lo hi:Nat->Int)(A:Option Addr)(oc:Nat)(H:List (Nat×Int×Int)):Prop where
 vB:bZ w X.B X.rb X.vb X.Lb 0
 wW:bZ w X.B X.ab X.va X.La 0
 IL:X.Lb.length=X.n
 IQ:X.La.length=X.n
 box:Own w 175 X.sb [.slice (some ⟨X.bb,0,none⟩) X.n X.n,.slice (some ⟨X.rb,0,none⟩) X.n X.n,.slice (some ⟨X.ab,0,none⟩) X.n X.n,.slice A H.length oc]
 bnd:Own w 177 X.bb (Fq lo hi X.n)
 old:w.ownsRow X.B 222 3 (.slice A H.length oc) H.length (H.flatMap pV)
 low:X.B<=X.sb/\X.B<=X.bb
theorem aO.below{w w':World}{X:SX}{lo hi:Nat->Int}{A:Option Addr}{oc:Nat}{H:List (Nat×Int×Int)}(h:aO w X lo hi A oc H)(hb:Below w.heap.size w w'):aO w' X lo hi A oc H:=
 ⟨h.vB.below hb,h.wW.below hb,h.IL,h.IQ,h.box.below hb,h.bnd.below hb,dF h.old hb,h.low⟩
theorem aO.YR{w:World}{X:SX}{lo hi:Nat->Int}{A:Option Addr}{oc:Nat}{H:List (Nat×Int×Int)}(h:aO w X lo hi A oc H)(m:Nat){i:Nat}(hi':i<X.n)(l u:Int):
 aO (((w.drewN m).setCell ⟨X.bb,i*2,none⟩ (.int .i64 l)).setCell ⟨X.bb,i*2+1,none⟩ (.int .i64 u)) X (setAt lo i l) (setAt hi i u) A oc H/\qE X w (((w.drewN m).setCell ⟨X.bb,i*2,none⟩ (.int .i64 l)).setCell ⟨X.bb,i*2+1,none⟩ (.int .i64 u)):=by
 have hbd:=h.bnd;have hbx:=h.box;have hud:aG (λ_=>False) w (w.drewN m):=(aG.refl _ _).drewN m;have Vz:=((hbd.keep hud (λh=>h)).set (i:=i*2) (by rw[nU];omega) (.int .i64 l)).set (i:=i*2+1) (by rw[List.length_set,nU];omega) (.int .i64 u);rw[Pk lo hi hi']at Vz;have RN:aG (λb=>b=X.bb) w (((w.drewN m).setCell ⟨X.bb,i*2,none⟩ (.int .i64 l)).setCell ⟨X.bb,i*2+1,none⟩ (.int .i64 u)):=
  (((aG.refl (λb=>b=X.bb) w).drewN m).setCell (p:=⟨X.bb,i*2,none⟩) (.inl rfl) _).setCell (p:=⟨X.bb,i*2+1,none⟩) (.inl rfl) _
 have Pm:qE X w (((w.drewN m).setCell ⟨X.bb,i*2,none⟩ (.int .i64 l)).setCell ⟨X.bb,i*2+1,none⟩ (.int .i64 u)):=
  qE.ME RN (λk hk _=>by subst hk;exact hbd.sset h.low.2 (.inr (.inl rfl)) (.inr (.inl rfl)))
 refine⟨⟨h.vB.FR Pm,h.wW.FR Pm,h.IL,h.IQ,hbx.keep RN (λe=>hbx.ne hbd (by decide) e),Vz,bV h.old RN (λb hb e=>?_),h.low⟩,Pm⟩;subst e;obtain⟨tl,hbd⟩:=hbd;exact cO h.old hbd (by decide) hb
theorem RO{lo hi lo' hi':Nat->Int}{n:Nat}(h:∀i,i<n->lo i=lo' i/\hi i=hi' i):Fq lo hi n=Fq lo' hi' n:=by
 have key:∀l:List Nat,(∀i∈l,i<n)->DR lo hi l=DR lo' hi' l:=λl hl=>by
  unfold DR;induction l with
  |nil=>rfl
  |cons i l ih=>rw[rQ,rQ,ih (λj hj=>hl j (kG _ hj)),(h i (hl i (by simp))).1,(h i (hl i (by simp))).2]
 exact key _ (λi hi=>List.mem_range.1 hi)
theorem aO.congr{w:World}{X:SX}{lo hi lo' hi':Nat->Int}{A:Option Addr}{oc:Nat}{H:List (Nat×Int×Int)}(h:aO w X lo hi A oc H)(e:∀i,i<X.n->lo i=lo' i/\hi i=hi' i):aO w X lo' hi' A oc H:=
 ⟨h.vB,h.wW,h.IL,h.IQ,h.box,by rw[<-RO e];exact h.bnd,h.old,h.low⟩
theorem YS(H:List (Nat×Int×Int)):∀u∈H.flatMap pV,u.oneCell'=true:=by
 intro u hu;obtain⟨x,_,hx⟩:=Br.1 hu;simp only[pV,dx,iQ,or_false]at hx;rcases hx with rfl|rfl|rfl<;>rfl
theorem aO.adW{w W:World}{X:SX}{lo hi:Nat->Int}{A:Option Addr}{oc:Nat}{H:List (Nat×Int×Int)}(h:aO w X lo hi A oc H){i:Nat}{v v':Value}{l':List Int}(hv:X.vb[i]?=some v)(hu:aG (λb=>v.ownBlock=some b) w W)
 (hrow:W.ownsRow X.B 3 1 v' l'.length (aZ l'))(uy:v'.ownBlock=v.ownBlock\/∀b,v'.ownBlock=some b->w.heap.size<=b)(hne:X.rb≠X.ab)(hsep:∀v∈X.vb,∀v'∈X.va,∀b,v.ownBlock=some b->v'.ownBlock≠some b):
 aO (W.setCell ⟨X.rb,i,none⟩ v') {X with vb:=X.vb.set i v',Lb:=X.Lb.set i l'} lo hi A oc H/\aG (λb=>v.ownBlock=some b\/b=X.rb) w (W.setCell ⟨X.rb,i,none⟩ v')/\
  (∀u∈X.vb.set i v',∀u'∈X.va,∀b,u.ownBlock=some b->u'.ownBlock≠some b):=by
 have hi:i<X.vb.length:=(bB.1 hv).1;have hl:=aS (l:=X.Lb) (i:=i) (by rw[<-h.vB.len];exact hi);have hr0:=h.vB.row i v _ (aU _) hv hl;have hmv:=cK hv;have hS:∀{t:TypeId}{b:Nat}{cs:List Value},Own w t b cs->t≠3->¬(v.ownBlock=some b):=λho ht=>by
  obtain⟨tl,ho⟩:=ho;exact cO hr0 ho ht
 have hu2:aG (λb=>v.ownBlock=some b\/b=X.rb) w (W.setCell ⟨X.rb,i,none⟩ v'):=(hu.mono (λ_ _ h=>.inl h)).setCell (p:=⟨X.rb,i,none⟩) (.inl (.inr rfl)) v';have hk:∀{t:TypeId}{b:Nat}{cs:List Value},Own w t b cs->t≠3->b≠X.rb->Own (W.setCell ⟨X.rb,i,none⟩ v') t b cs:=λho ht hb=>ho.keep hu2 (λe=>by
  rcases e with e|e
  .exact hS ho ht e
  .exact hb e)
 have hother:∀u∈X.va,∀b,u.ownBlock=some b->v.ownBlock≠some b/\v'.ownBlock≠some b/\b≠X.rb:=λu hu' b hb=>by
  have h1:=h.wW.low u hu' b hb;have h2:v.ownBlock≠some b:=λe=>hsep v hmv u hu' b e hb;refine⟨h2,λe=>?_,λe=>?_⟩
  .rcases uy with e2|e2
   .rw[e2]at e;exact h2 e
   .have:=e2 b e;omega
  .subst e
   obtain⟨j,hj⟩:=jW.1 hu';have hlj:j<X.La.length:=by rw[<-h.wW.len];exact(bB.1 hj).1
   obtain⟨tl,ho⟩:=h.vB.own;exact cO (h.wW.row j u _ (aU _) hj (aS hlj)) ho (by decide) hb
 have ht:=h.vB.turned hv hu (λb hb=>.inl hb) hrow uy;have hq:bZ (W.setCell ⟨X.rb,i,none⟩ v') X.B X.ab X.va X.La 0:=h.wW.upd hu2 (λe=>by
  rcases e with e|e
  .exact hS h.wW.own (by decide) e
  .exact hne e.symm) (λu hu' b hb e=>by
  rcases e with e|e
  .exact(hother u hu' b hb).1 e
  .exact(hother u hu' b hb).2.2 e)
 have hold:(W.setCell ⟨X.rb,i,none⟩ v').ownsRow X.B 222 3 (.slice A H.length oc) H.length (H.flatMap pV):=bV h.old hu2 (λb hb e=>by
  rcases e with e|e
  .rcases hr0.2 with⟨rfl,_⟩|⟨g,cap,cur,rfl,_,hg,_⟩
   .cases e
   .simp only[Value.ownBlock,Option.some.injEq]at e
    subst e;exact cO h.old hg (by decide) hb
  .subst e
   obtain⟨tl,ho⟩:=h.vB.own;exact cO h.old ho (by decide) hb)
 refine⟨⟨ht,hq,by simpa using h.IL,h.IQ,hk h.box (by decide) (λe=>h.box.ne h.vB.own (by decide) e),hk h.bnd (by decide) (λe=>h.bnd.ne h.vB.own (by decide) e),hold,h.low⟩,hu2,λu hu1 u' aa5 b hb=>?_⟩;rcases List.mem_or_eq_of_mem_set hu1 with h2|rfl
 .exact hsep u h2 u' aa5 b hb
 .exactλe=>(hother u' aa5 b e).2.1 hb
theorem aO.adX{w W:World}{X:SX}{lo hi:Nat->Int}{A:Option Addr}{oc:Nat}{H:List (Nat×Int×Int)}(h:aO w X lo hi A oc H){i:Nat}{v v':Value}{l':List Int}(hv:X.va[i]?=some v)(hu:aG (λb=>v.ownBlock=some b) w W)
 (hrow:W.ownsRow X.B 3 1 v' l'.length (aZ l'))(uy:v'.ownBlock=v.ownBlock\/∀b,v'.ownBlock=some b->w.heap.size<=b)(hne:X.rb≠X.ab)(hsep:∀v∈X.vb,∀v'∈X.va,∀b,v.ownBlock=some b->v'.ownBlock≠some b):
 aO (W.setCell ⟨X.ab,i,none⟩ v') {X with va:=X.va.set i v',La:=X.La.set i l'} lo hi A oc H/\aG (λb=>v.ownBlock=some b\/b=X.ab) w (W.setCell ⟨X.ab,i,none⟩ v')/\
  (∀u∈X.vb,∀u'∈X.va.set i v',∀b,u.ownBlock=some b->u'.ownBlock≠some b):=by
 have hi:i<X.va.length:=(bB.1 hv).1;have hl:=aS (l:=X.La) (i:=i) (by rw[<-h.wW.len];exact hi);have hr0:=h.wW.row i v _ (aU _) hv hl;have hmv:=cK hv;have hS:∀{t:TypeId}{b:Nat}{cs:List Value},Own w t b cs->t≠3->¬(v.ownBlock=some b):=λho ht=>by
  obtain⟨tl,ho⟩:=ho;exact cO hr0 ho ht
 have hu2:aG (λb=>v.ownBlock=some b\/b=X.ab) w (W.setCell ⟨X.ab,i,none⟩ v'):=(hu.mono (λ_ _ h=>.inl h)).setCell (p:=⟨X.ab,i,none⟩) (.inl (.inr rfl)) v';have hk:∀{t:TypeId}{b:Nat}{cs:List Value},Own w t b cs->t≠3->b≠X.ab->Own (W.setCell ⟨X.ab,i,none⟩ v') t b cs:=λho ht hb=>ho.keep hu2 (λe=>by
  rcases e with e|e
  .exact hS ho ht e
  .exact hb e)
 have hother:∀u∈X.vb,∀b,u.ownBlock=some b->v.ownBlock≠some b/\v'.ownBlock≠some b/\b≠X.ab:=λu hu' b hb=>by
  have h1:=h.vB.low u hu' b hb;have h2:v.ownBlock≠some b:=λe=>hsep u hu' v hmv b hb e;refine⟨h2,λe=>?_,λe=>?_⟩
  .rcases uy with e2|e2
   .rw[e2]at e;exact h2 e
   .have:=e2 b e;omega
  .subst e
   obtain⟨j,hj⟩:=jW.1 hu';have hlj:j<X.Lb.length:=by rw[<-h.vB.len];exact(bB.1 hj).1
   obtain⟨tl,ho⟩:=h.wW.own;exact cO (h.vB.row j u _ (aU _) hj (aS hlj)) ho (by decide) hb
 have ht:=h.wW.turned hv hu (λb hb=>.inl hb) hrow uy;have hq:bZ (W.setCell ⟨X.ab,i,none⟩ v') X.B X.rb X.vb X.Lb 0:=h.vB.upd hu2 (λe=>by
  rcases e with e|e
  .exact hS h.vB.own (by decide) e
  .exact hne e) (λu hu' b hb e=>by
  rcases e with e|e
  .exact(hother u hu' b hb).1 e
  .exact(hother u hu' b hb).2.2 e)
 have hold:(W.setCell ⟨X.ab,i,none⟩ v').ownsRow X.B 222 3 (.slice A H.length oc) H.length (H.flatMap pV):=bV h.old hu2 (λb hb e=>by
  rcases e with e|e
  .rcases hr0.2 with⟨rfl,_⟩|⟨g,cap,cur,rfl,_,hg,_⟩
   .cases e
   .simp only[Value.ownBlock,Option.some.injEq]at e
    subst e;exact cO h.old hg (by decide) hb
  .subst e
   obtain⟨tl,ho⟩:=h.wW.own;exact cO h.old ho (by decide) hb)
 refine⟨⟨hq,ht,h.IL,by simpa using h.IQ,hk h.box (by decide) (λe=>h.box.ne h.wW.own (by decide) e),hk h.bnd (by decide) (λe=>h.bnd.ne h.wW.own (by decide) e),hold,h.low⟩,hu2,λu hu1 u' aa5 b hb=>?_⟩;rcases List.mem_or_eq_of_mem_set aa5 with h2|rfl
 .exact hsep u hu1 u' h2 b hb
 .exact(hother u hu1 b hb).2.1
def Cv(Z:World)(B:Nat)(e:TypeId)(size n:Nat)(v:Value)(xs:List Value):bP:=
 ⟨λu=>∃g c,u= .slice (some ⟨g,0,none⟩) n c,λu z=>z.ownsRow B e size u n xs/\(u.ownBlock=v.ownBlock\/∀b,u.ownBlock=some b->Z.heap.size<=b)⟩
theorem uz(Z:World)(B:Nat)(e:TypeId)(size n:Nat)(v:Value)(xs:List Value):(Cv Z B e size n v xs).Keeps:=λ_ _ _ h hb=>⟨dF h.1 hb,h.2⟩
def oO(W0:World)(e:TypeId)(cs:Array Value):bP:=
 ⟨λv=>∃b,W0.heap.size<=b/\v= .slice (some ⟨b,0,none⟩) 1 1,λv z=>∀b,v= .slice (some ⟨b,0,none⟩) 1 1->W0.heap.size<=b/\z.heap[b]?=some (.cells cs e (0,0))⟩
theorem qF{ops:Array Oper}(W0:World)(e:TypeId)(cs:Array Value)(S:Nat->Prop)(f i:Nat)(hS:∀k,S k->k<W0.heap.size):AL ops (aG S) f i (oO W0 e cs):=by
 refine⟨λv z z' h hb b hv=>?_,λ_ _ v z z' h hu b hv=>?_⟩
 .obtain⟨h1,h2⟩:=h b hv
  exact⟨h1,(hb.block b (aB h2)).trans h2⟩
 .obtain⟨h1,h2⟩:=h b hv
  exact⟨h1,hu.keep h2 (λhs=>by have:=hS _ hs;omega)⟩
theorem DU(Z:World)(S:Nat->Prop):Turns (λz=>Below Z.heap.size Z z) (λz=>aG S Z z) (λz z'=>aG S z z') where
 sub:=λ_ h=>⟨h.os,h.tape,h.output,h.size,λk hk _=>h.block k hk⟩
 b0:=λ_ _ h hb=>av h hb
 b1:=λ_ _ h hb=>l8 h hb
 t:=λ_ _ h hu=>aG.trans (S:=S) ⟨h.os,h.tape,h.output,h.size,λk hk _=>h.block k hk⟩ hu (λ_ _ h=>h)
theorem uD{P:Program}{Z z:World}{o:Oper}{ρ:Operand->Value}(s x:Operand)(t:TypeId)(hop:o.op=Op.call {callee:=Callee.builtin Builtin.append,args:=#[s,x],argTypes:=#[t,t]})
 (base:Nat)(e:TypeId)(i:TypeInfo)(z0:Value)(size bytes:Nat)(ht:P.underlying t=some (.slice e))(hi:P.info? e=some i)(hz:i.zero=some z0)(hsize:i.size=size)(hby:i.bytes=bytes)(hzs:z0.cells.size=size)(hsz:0<size)
 (v:Value)(n:Nat)(xs:List Value)(hs:ρ s=v)(hown:z.ownsRow base e size v n xs)(bx:Nat)(cs:Array Value)(tx:TypeId)(fr:Nat×Nat)(hx:ρ x= .slice (some ⟨bx,0,none⟩) 1 1)(hbx:z.heap[bx]?=some (.cells cs tx fr))(hl:cs.size=size)(h1:∀u∈cs.toList,u.oneCell'=true)
 (h63:n+1<=maxLen)(jR:(n+1)*bytes<=140737488355328)(hbase:base<=z.heap.size)(hZ:Z.heap.size<=z.heap.size):
 oG (aG (λb=>v.ownBlock=some b)) z (Cv Z base e size (n+1) v (xs++cs.toList)) ((execOp ρ o).run P z):=by
 obtain⟨g,cap,w',hrun,r1,r2,r3,_⟩:=run_append_lies (P:=P) z t o.type base e i z0 size bytes ht hi hz hsize hby hzs hsz v n xs hown ⟨bx,0,none⟩ 1 1 cs.toList (by simp[hl]) (World.news_of_block hbx) h1 (by omega) h63 jR hbase _ rfl;simp only[execOp,hop,resolve,invoke,builtin,Sem.run_bind,Sem.run_pure,Result.andThen_ok,List.map_toArray,kN,List.map_nil,hs,hx,hrun];refine⟨⟨g,cap,rfl⟩,⟨r1,?_⟩,aG.jK r2⟩;rcases r3 with r3|r3
 .exact .inl (by rw[r3];rfl)
 .exact .inr (λb hb=>by simp only[Value.ownBlock,Option.some.injEq]at hb;omega)
end
section
open Go.RowKit Go.Shelf Tryz
def aa6(X:SX)(lo hi:Nat->Int)(H:List (Nat×Int×Int))(v:Value)(w:World)(e:Ending)(w':World):Prop:=
 ∃(A:Option Addr)(oc:Nat),e= .returned v/\aO w' X lo hi A oc H/\qE X w w'
theorem ahe(a b c d:Int)(w:World):(Op.equalIn 10000 177 (.agg #[.int .i64 a,.int .i64 b]) (.agg #[.int .i64 c,.int .i64 d])).run prog w= .ok (decide (a=c)&&decide (b=d)) w:=by
 have u3:=underlying3;have hS:prog.underlying 177=some (.struct (prog.fieldsOf 177)):=by kernel_rfl
 rw[show(10000:Nat)=9999+1 from rfl,run_equalIn_agg w 9999 177 _ _ hS (by kernel_rfl)];simp only[Program.fieldsOf,underlying177];go_simp;by_cases h1:a=c<;>by_cases h2:b=d<;>simp[h1,h2]
attribute [local go_sem] kD GQ stillUpon bM
theorem MG(X:SX)(lo hi:Nat->Int)(A:Option Addr)(oc:Nat)(H:List (Nat×Int×Int))(a:Nat)(l u:Int)(w:World)(hS:aO w X lo hi A oc H)(ha:a<X.n)(hH:H.length<=1000000):
 Calls prog 141 #[.pointer (some ⟨X.sb,0,none⟩),.int .i64 a,.agg #[.int .i64 l,.int .i64 u]] w
  (aa6 X (if lo a=l/\hi a=u then lo else setAt lo a l) (if lo a=l/\hi a=u then hi else setAt hi a u) (if lo a=l/\hi a=u then H else H++[(a,lo a,hi a)]) (.bool (!decide (lo a=l/\hi a=u))) w):=by
 by_cases he:lo a=l/\hi a=u
 .simp only[if_pos he,decide_eq_true he,Bool.not_true]
  have HE:=ah he;clear he;have HS:=ah hS;clear hS;go_enter func141,ntmps141;go_upto_region 1 with(fail)
  generalize hW0:World.alloc _ _=W0;obtain⟨HB,hh0⟩:=bx1 hW0;have HX0:Hid (Own W0 177 w.heap.size [.int .i64 l,.int .i64 u]):=⟨[],by rw[bU];exact hh0⟩;have zR:=ah (HS.out.below HB.out);clear hh0 hW0 HS;have b0:∀z:Bl W0,z.val.cell? ⟨w.heap.size,0,none⟩=some (.int .i64 l):=λz=>(HX0.out.below z.prop).cell rfl;have b1:∀z:Bl W0,z.val.cell? ⟨w.heap.size,1,none⟩=some (.int .i64 u):=λz=>(HX0.out.below z.prop).cell rfl;have s0:∀z:Bl W0,z.val.cell? ⟨X.sb,0,none⟩=some (.slice (some ⟨X.bb,0,none⟩) X.n X.n):=λz=>(zR.out.below z.prop).box.cell rfl;have s3:∀z:Bl W0,z.val.cell? ⟨X.sb,3,none⟩=some (.slice A H.length oc):=λz=>(zR.out.below z.prop).box.cell rfl;have d0:∀z:Bl W0,z.val.cell? ⟨X.bb,a*2,none⟩=some (.int .i64 (lo a)):=λz=>(zR.out.below z.prop).bnd.cell (dO lo hi ha (j:=0) (by omega));have d1:∀z:Bl W0,z.val.cell? ⟨X.bb,a*2+1,none⟩=some (.int .i64 (hi a)):=λz=>(zR.out.below z.prop).bnd.cell (dO lo hi ha (j:=1) (by omega));have ha0:(a:Int)<(X.n:Int):=by omega
  simp only[HE.out.1]at d0;simp only[HE.out.2]at d1;change Code.wp _ _ _ _ (Bl.val (⟨W0,aC _ _⟩:Bl W0));generalize(⟨W0,aC _ _⟩:Bl W0)=z0;refine aI ?_;repeat(go_big_quiet_step (fail))
  refine aY ?_;rintro _ ⟨z1,rfl⟩;go_wp2;go_ret;exact⟨A,oc,rfl,zR.out.below z1.prop,qE.of_below (av HB.out z1.prop)⟩
 .simp only[if_neg he,decide_eq_false he,Bool.not_false]
  have q1:∀w:World,(Op.equalIn 10000 177 (.agg #[.int .i64 (lo a),.int .i64 (hi a)]) (.agg #[.int .i64 l,.int .i64 u])).run prog w= .ok false w:=λw=>by
   rw[ahe];congr 1;cases h1:decide (lo a=l)<;>cases h2:decide (hi a=u)<;>simp_all
  have HE:=ah he;clear he;have HS:=ah hS;clear hS;go_enter func141,ntmps141;go_upto_region 1 with(fail)
  generalize hW0:World.alloc _ _=W0;obtain⟨HB,hh0⟩:=bx1 hW0;have HX0:Hid (Own W0 177 w.heap.size [.int .i64 l,.int .i64 u]):=⟨[],by rw[bU];exact hh0⟩;have zR:=ah (HS.out.below HB.out);clear hh0 hW0 HS;have b0:∀z:Bl W0,z.val.cell? ⟨w.heap.size,0,none⟩=some (.int .i64 l):=λz=>(HX0.out.below z.prop).cell rfl;have b1:∀z:Bl W0,z.val.cell? ⟨w.heap.size,1,none⟩=some (.int .i64 u):=λz=>(HX0.out.below z.prop).cell rfl;have s0:∀z:Bl W0,z.val.cell? ⟨X.sb,0,none⟩=some (.slice (some ⟨X.bb,0,none⟩) X.n X.n):=λz=>(zR.out.below z.prop).box.cell rfl;have s3:∀z:Bl W0,z.val.cell? ⟨X.sb,3,none⟩=some (.slice A H.length oc):=λz=>(zR.out.below z.prop).box.cell rfl;have d0:∀z:Bl W0,z.val.cell? ⟨X.bb,a*2,none⟩=some (.int .i64 (lo a)):=λz=>(zR.out.below z.prop).bnd.cell (dO lo hi ha (j:=0) (by omega));have d1:∀z:Bl W0,z.val.cell? ⟨X.bb,a*2+1,none⟩=some (.int .i64 (hi a)):=λz=>(zR.out.below z.prop).bnd.cell (dO lo hi ha (j:=1) (by omega));have ha0:(a:Int)<(X.n:Int):=by omega
  change Code.wp _ _ _ _ (Bl.val (⟨W0,aC _ _⟩:Bl W0));generalize(⟨W0,aC _ _⟩:Bl W0)=z0;refine aI ?_;repeat(go_big_quiet_step (fail))
  refine aY ?_;rintro _ ⟨z1,rfl⟩;have mV:Hid (Below w.heap.size w z1.val):=av HB.out z1.prop;have vG:=ah (zR.out.below z1.prop);have q9:=ah (HX0.out.below z1.prop);clear q1 b0 b1 s0 s3 d0 d1 zR HX0 HB;go_upto_region 3 with(fail)
  generalize z1.val=Z at mV vG q9⊢;clear z0 z1;obtain⟨S,hSd⟩:∃S:Nat->Prop,S=λb=>(Value.slice A H.length oc).ownBlock=some b:=⟨_,rfl⟩;have qD:Hid (∀(t:TypeId)(b:Nat)(cs:List Value),Own Z t b cs->t≠222->¬S b):=λt b cs ho ht hs=>by
   obtain⟨tl,ho⟩:=ho;rw[hSd]at hs;exact cO vG.out.old ho ht hs
  have HSL:Hid (∀b,S b->SSet X Z b/\b<Z.heap.size):=λb hs=>by
   rw[hSd]at hs;exact⟨MF vG.out.old (bJ _) hs,(vG.out.old.lt b hs).2⟩
  have x0:∀y:Wl (λz=>aG S Z z),y.val.cell? ⟨X.sb,0,none⟩=some (.slice (some ⟨X.bb,0,none⟩) X.n X.n):=λy=>(vG.out.box.keep y.prop (qD.out _ _ _ vG.out.box (by decide))).cell rfl;have x3:∀y:Wl (λz=>aG S Z z),y.val.cell? ⟨X.sb,3,none⟩=some (.slice A H.length oc):=λy=>(vG.out.box.keep y.prop (qD.out _ _ _ vG.out.box (by decide))).cell rfl;have d0:∀y:Wl (λz=>aG S Z z),y.val.cell? ⟨X.bb,a*2,none⟩=some (.int .i64 (lo a)):=λy=>(vG.out.bnd.keep y.prop (qD.out _ _ _ vG.out.bnd (by decide))).cell (dO lo hi ha (j:=0) (by omega));have d1:∀y:Wl (λz=>aG S Z z),y.val.cell? ⟨X.bb,a*2+1,none⟩=some (.int .i64 (hi a)):=λy=>(vG.out.bnd.keep y.prop (qD.out _ _ _ vG.out.bnd (by decide))).cell (dO lo hi ha (j:=1) (by omega));obtain⟨ii,hii,hiz,his,hib⟩:=info_parts' (P:=prog) (t:=222) (z:=some (.agg #[.int .i64 0,.int .i64 0,.int .i64 0])) (s:=3) (b:=24) (by kernel_rfl)
  haveI:Inhabited (Wl (λz=>aG S Z z)):=⟨⟨Z,aG.refl _ _⟩⟩
  refine rY (s:=(⟨Z,aC _ _⟩:Wl (λz=>Below Z.heap.size Z z))) (C1:=λz=>aG S Z z) (T:=aG S) (f:=15) 16 (λi=>match i with
   |14=>some (oO Z 222 #[.int .i64 a,.int .i64 (lo a),.int .i64 (hi a)])
   |15=>some (Cv Z X.B 222 3 (H.length+1) (.slice A H.length oc) (H.flatMap pV++[.int .i64 a,.int .i64 (lo a),.int .i64 (hi a)]))
   |_=>none) (λi=>match i with
   |15=>[14]
   |_=>[]) [14] [] (by simp) (by kernel_rfl) (by kernel_rfl) (by simp) (by simp) (by kernel_rfl) ?bnd ?keeps (DU Z S) ?_
  case bnd=>
   intro p hp o t ho ht;simp only[eB]at hp;subst hp;simp only[List.getElem?_toArray,List.getElem?_cons_succ,Bu,Option.some.injEq]at ho;subst ho;simp only[Option.some.injEq]at ht;subst ht;simp
  case keeps=>
   intro i sp h;split at h
   .injection h with h;subst h;exact qF _ _ _ _ _ _ (λk hk=>(HSL.out k hk).2)
   .injection h with h;subst h;exact⟨uz _ _ _ _ _ _ _,λh=>absurd rfl h⟩
   .cases h
  simp only[gF,bW,gI,b_];repeat(refine Di rfl (λK hK=>?_);go_simp;refine hK _ ?_;clear hK K)
  refine GU _ rfl rfl rfl ?_ (λy _=>?_) ?_
  .exact⟨_,Z.heap.size,bJ _,rfl⟩
  .go_simp
   refine⟨⟨_,bI y.prop.size (bJ _),rfl⟩,λb hb=>?_,aJ (aC _ _) _⟩;simp only[Value.slice.injEq,Option.some.injEq,Addr.mk.injEq,and_true]at hb;subst hb;exact⟨y.prop.size,bK _ _⟩
  rintro _ ⟨gb,hgb,rfl⟩;refine GV _ rfl rfl rfl ?_ (λy hpre=>?_) ?_
  .exact⟨_,0,0,rfl⟩
  .have hp:=hpre 14 (by simp) (oO Z 222 #[.int .i64 a,.int .i64 (lo a),.int .i64 (hi a)]) rfl _ _ rfl rfl gb rfl
   rw[hSd];exact uD (P:=prog) (Z:=Z) (z:=y.val) (.tmp 20) (.tmp 30) 173 rfl X.B 222 ii (.agg #[.int .i64 0,.int .i64 0,.int .i64 0]) 3 24 underlying173 hii hiz his hib rfl (by decide) (.slice A H.length oc) H.length (H.flatMap pV) rfl (dF vG.out.old y.prop) gb #[.int .i64 a,.int .i64 (lo a),.int .i64 (hi a)] 222 (0,0) rfl hp.2 rfl (by intro u hu;simp only[dx,iQ,or_false]at hu;rcases hu with rfl|rfl|rfl<;>rfl) (by unfold maxLen;omega) (by omega) (by have h1:=vG.out.low.1;have h2:=vG.out.box.lt;have h3:=y.prop.size;omega) y.prop.size
  rintro _ ⟨g6,c6,rfl⟩;refine LD ?_;rintro y ⟨⟨_,_⟩,hrow,uy⟩;have IU:=vG.out.box.keep y.prop (qD.out _ _ _ vG.out.box (by decide));have VA:=vG.out.bnd.keep y.prop (qD.out _ _ _ vG.out.bnd (by decide));have hxb:=q9.out.keep y.prop (qD.out _ _ _ q9.out (by decide));have hsb:X.sb<y.val.heap.size:=IU.lt;have z3:=x3 y;have f3:=IU.frozen 3;have hmv:qE X Z (y.val.setCell ⟨X.sb,3,none⟩ (.slice (some ⟨g6,0,none⟩) (H.length+1) c6)):=by
   refine qE.ME (S:=λb=>S b\/b=X.sb) ((y.prop.mono (λi _ h=>.inl h)).setCell (.inl (.inr rfl)) _) (λk hk _=>?_);rcases hk with hk|rfl
   .exact(HSL.out k hk).1
   .exact vG.out.box.sset vG.out.low.1 (.inl rfl) (.inl rfl)
  have Jt:Hid (aO (y.val.setCell ⟨X.sb,3,none⟩ (.slice (some ⟨g6,0,none⟩) (H.length+1) c6)) X lo hi (some ⟨g6,0,none⟩) c6 (H++[(a,lo a,hi a)])):=by
   have hl:(H++[(a,lo a,hi a)]).length=H.length+1:=by simp
   have hu2:aG (λb=>b=X.sb) y.val (y.val.setCell ⟨X.sb,3,none⟩ (.slice (some ⟨g6,0,none⟩) (H.length+1) c6)):=(aG.refl (λb=>b=X.sb) y.val).setCell (p:=⟨X.sb,3,none⟩) (.inl rfl) _;refine⟨vG.out.vB.FR hmv,vG.out.wW.FR hmv,vG.out.IL,vG.out.IQ,?_,VA.keep hu2 (λe=>VA.ne IU (by decide) e),?_,vG.out.low⟩
   .rw[hl]
    exact IU.set (i:=3) (by simp) _
   .rw[hl,show(H++[(a,lo a,hi a)]).flatMap pV=H.flatMap pV++[.int .i64 a,.int .i64 (lo a),.int .i64 (hi a)] by rw[Bt];rfl]
    refine bV hrow hu2 (λb hb e=>?_);subst e;obtain⟨tl,IU⟩:=IU;exact cO hrow IU (by decide) hb
  have yR:Hid (Own (y.val.setCell ⟨X.sb,3,none⟩ (.slice (some ⟨g6,0,none⟩) (H.length+1) c6)) 177 w.heap.size [.int .i64 l,.int .i64 u]):=
   hxb.keep ((aG.refl (λb=>b=X.sb) y.val).setCell (p:=⟨X.sb,3,none⟩) (.inl rfl) _) (λe=>hxb.ne IU (by decide) e)
  have Nj:=ah ((qE.of_below mV.out).trans hmv);clear hmv IU VA hxb hrow uy x0 x3 d0 d1 vG q9 hgb;gi_wp2;generalize y.val.setCell ⟨X.sb,3,none⟩ (.slice (some ⟨g6,0,none⟩) (H.length+1) c6)=W3 at Jt yR Nj⊢;clear z3 f3;have b0:=yR.out.cell (i:=0) rfl;have b1:=yR.out.cell (i:=1) rfl;have s0:W3.cell? ⟨X.sb,0,none⟩=some (.slice (some ⟨X.bb,0,none⟩) X.n X.n):=Jt.out.box.cell rfl;have d0:=Jt.out.bnd.cell (dO lo hi ha (j:=0) (by omega));have d1:=Jt.out.bnd.cell (dO lo hi ha (j:=1) (by omega));rw[kP]at d0;have f0:=Jt.out.bnd.frozen (a*2);have f1:=Jt.out.bnd.frozen (a*2+1);go_upto_region 4 with(fail)
  refine iU 6 ?_;simp only[gF,bW,gI,b_];repeat(go_big_quiet_step (fail))
  refine aY ?_;rintro _ ⟨mq,rfl⟩;gi_wp2;have hbd:=Jt.out.bnd;have hbx:=Jt.out.box;have hud:aG (λ_=>False) W3 (W3.drewN mq):=(aG.refl _ _).drewN mq;have Vz:=((hbd.keep hud (λh=>h)).set (i:=a*2) (by rw[nU];omega) (.int .i64 l)).set (i:=a*2+1) (by rw[List.length_set,nU];omega) (.int .i64 u);rw[Pk lo hi ha]at Vz;have RN:aG (λb=>b=X.bb) W3 (((W3.drewN mq).setCell ⟨X.bb,a*2,none⟩ (.int .i64 l)).setCell ⟨X.bb,a*2+1,none⟩ (.int .i64 u)):=
   (((aG.refl (λb=>b=X.bb) W3).drewN mq).setCell (p:=⟨X.bb,a*2,none⟩) (.inl rfl) _).setCell (p:=⟨X.bb,a*2+1,none⟩) (.inl rfl) _
  have Pm:qE X W3 (((W3.drewN mq).setCell ⟨X.bb,a*2,none⟩ (.int .i64 l)).setCell ⟨X.bb,a*2+1,none⟩ (.int .i64 u)):=
   qE.ME RN (λk hk _=>by subst hk;exact hbd.sset Jt.out.low.2 (.inr (.inl rfl)) (.inr (.inl rfl)))
  have HS4:Hid (aO (((W3.drewN mq).setCell ⟨X.bb,a*2,none⟩ (.int .i64 l)).setCell ⟨X.bb,a*2+1,none⟩ (.int .i64 u)) X (setAt lo a l) (setAt hi a u) (some ⟨g6,0,none⟩) c6 (H++[(a,lo a,hi a)])):=by
   refine⟨Jt.out.vB.FR Pm,Jt.out.wW.FR Pm,Jt.out.IL,Jt.out.IQ,hbx.keep RN (λe=>hbx.ne hbd (by decide) e),Vz,bV Jt.out.old RN (λb hb e=>?_),Jt.out.low⟩;subst e;obtain⟨tl,hbd⟩:=hbd;exact cO Jt.out.old hbd (by decide) hb
  have HM4:=ah (Nj.out.trans Pm);clear Pm RN Vz hud hbx hbd b0 b1 s0 d0 d1 f0 f1 Jt yR Nj;go_wp2;go_ret;exact⟨_,_,rfl,HS4.out,HM4.out⟩
end
section
open Go.RowKit Go.Shelf Tryz
def yU(W0:World)(e:TypeId)(n:Nat)(cs:Array Value):bP:=
 ⟨λv=>∃b,W0.heap.size<=b/\v= .slice (some ⟨b,0,none⟩) n n,λv z=>∀b,v= .slice (some ⟨b,0,none⟩) n n->z.heap[b]?=some (.cells cs e (0,0))⟩
theorem sw(W0:World)(e:TypeId)(n:Nat)(cs:Array Value):(yU W0 e n cs).Keeps:=λv z z' h hb b hv=>by
 have h1:=h b hv;rw[hb.block b (aB h1)];exact h1
def PrN(n:Nat)(_ _:Nat)(u v:Value):Prop:=∀b b',u= .slice (some ⟨b,0,none⟩) n n->v= .slice (some ⟨b',0,none⟩) n n->b≠b'
theorem A_{P:Program}{W0:World}{o:Oper}{ρ:Operand->Value}{mk:Nat->Option bP}{ds:List Nat}{j:Nat}(t:TypeId)(l c:Operand)(hop:o.op=Op.makeSlice t l c)(e:TypeId)(i:TypeInfo)(z:Value)(size:Nat)(ht:P.underlying t=some (.slice e))(hi:P.info? e=some i)(hz:i.zero=some z)(hsz:i.size=size)
 (n:Nat)(hl:ρ l= .int .i64 (n:Int))(hc:ρ c= .int .i64 (n:Int))(hb:i.bytes*n<=281474976710656)(h63:n<=9223372036854775807)(w:World)(hw:W0.heap.size<=w.heap.size)(hp:j∈ds->∀p∈ds,p≠j->∀sp,mk p=some sp->∀u,sp.S u w->∀b,u= .slice (some ⟨b,0,none⟩) n n->b<w.heap.size):
 bM P w (N8 (yU W0 e n (madeCells z.cells (n*size))) (KD mk ds (PrN n) j w)) ((execOp ρ o).run P w):=by
 subst hsz;have hb':(i.bytes:Int)*(n:Int)<=281474976710656:=by
  have h:((i.bytes*n:Nat):Int)<=281474976710656:=by omega
  rwa [Int.natCast_mul]at h
 have hr:=run_make (P:=P) w t e i z ht hi hz .i64 .i64 n n (by omega) (iY _) hb' (by omega);simp only[sM]at hr;simp only[execOp,hop,hl,hc,Sem.run_bind,hr,Result.andThen_ok,Sem.run_pure];refine⟨⟨⟨w.heap.size,hw,rfl⟩,λhj p hpd hne sp hsp u hu=>?_⟩,λb hv=>?_,aJ (aC _ _) _⟩
 .have h1:=hp hj p hpd hne sp hsp u hu
  refine⟨λb b' e1 e2=>?_,λb b' e1 e2=>?_⟩
  .have:=h1 b e1
   simp only[Value.slice.injEq,Option.some.injEq,Addr.mk.injEq,and_true]at e2;omega
  .have:=h1 b' e2
   simp only[Value.slice.injEq,Option.some.injEq,Addr.mk.injEq,and_true]at e1;omega
 .simp only[Value.slice.injEq,Option.some.injEq,Addr.mk.injEq,and_true]at hv
  subst hv;exact bK w _
theorem VB(n:Nat):(madeCells (Value.cells (.agg #[.int .i64 0,.int .i64 0])) (n*2)).toList=Fq (λ_=>0) (λ_=>0) n:=by
 rw[Hq];unfold Fq DR iB;apply lX;intro j;rcases iH j (n*2)with hj|hj
 .have h1:=fZ (P:=List.replicate n (0,0)) (i:=j/2) (j:=j % 2) (p:=(0,0)) (by rw[Bv,if_pos (by omega)]) (by omega)
  have h2:=dO (λ_=>0) (λ_=>0) (n:=n) (i:=j/2) (j:=j % 2) (by omega) (by omega);rw[show j/2*2+j % 2=j by omega]at h1 h2;exact h1.trans h2.symm
 .have h1:=l9 (List.replicate n (0,0))
  have h2:=nU (λ_=>0) (λ_=>0) n;rw[mY]at h1;rw[mX (by show(iB (List.replicate n (0,0))).length<=j;rw[h1];exact hj),mX (by show(Fq (λ_=>0) (λ_=>0) n).length<=j;rw[h2];exact hj)]
def oz(P:List (Nat×Nat))(n k:Nat):List (List Int):=(List.range n).map (λi=>((P.take k).filter (λp=>p.2==i)).map (λp=>(p.1:Int)))
def oC(P:List (Nat×Nat))(n k:Nat):List (List Int):=(List.range n).map (λi=>((P.take k).filter (λp=>p.1==i)).map (λp=>(p.2:Int)))
theorem RP(P:List (Nat×Nat))(n:Nat):oz P n 0=List.replicate n []:=by
 apply lX;intro i;by_cases h:i<n<;>simp[oz,h]
theorem RQ(P:List (Nat×Nat))(n:Nat):oC P n 0=List.replicate n []:=by
 apply lX;intro i;by_cases h:i<n<;>simp[oC,h]
theorem KT{P:List (Nat×Nat)}{n k i:Nat}(h:i<n):(oz P n k)[i]?=some (((P.take k).filter (λp=>p.2==i)).map (λp=>(p.1:Int))):=by
 unfold oz;rw[gK,Bz h];rfl
theorem KU{P:List (Nat×Nat)}{n k i:Nat}(h:i<n):(oC P n k)[i]?=some (((P.take k).filter (λp=>p.1==i)).map (λp=>(p.2:Int))):=by
 unfold oC;rw[gK,Bz h];rfl
theorem Am{α:Type}{f g:Nat->α}{n j:Nat}(h:∀i,i≠j->g i=f i):(List.range n).map g=((List.range n).map f).set j (g j):=by
 apply lX;intro i;rw[j_];simp only[gK,dU,List.length_range];by_cases e:j=i
 .subst e
  rw[if_pos rfl];by_cases hj:j<n
  .rw[if_pos hj,Bz hj];rfl
  .rw[if_neg hj,mX (by simp;omega)];rfl
 .rw[if_neg e]
  by_cases hi:i<n
  .rw[Bz hi]
   simp only[mZ];rw[h i (λe2=>e e2.symm)]
  .rw[mX (by simp;omega)];rfl
theorem VD{P:List (Nat×Nat)}{n k:Nat}{p:Nat×Nat}(hp:P[k]?=some p):oz P n (k+1)=(oz P n k).set p.2 (((P.take k).filter (λq=>q.2==p.2)).map (λq=>(q.1:Int))++[(p.1:Int)]):=by
 unfold oz;rw[bT hp,Am (f:=λi=>((P.take k).filter (λq=>q.2==i)).map (λq=>(q.1:Int))) (j:=p.2) (λi hi=>?_)]
 .simp[List.filter_append]
 .rw[List.filter_append,pG]
  have:(p.2==i)=false:=by simp;exactλe=>hi e.symm
  simp[this]
theorem VE{P:List (Nat×Nat)}{n k:Nat}{p:Nat×Nat}(hp:P[k]?=some p):oC P n (k+1)=(oC P n k).set p.1 (((P.take k).filter (λq=>q.1==p.1)).map (λq=>(q.2:Int))++[(p.2:Int)]):=by
 unfold oC;rw[bT hp,Am (f:=λi=>((P.take k).filter (λq=>q.1==i)).map (λq=>(q.2:Int))) (j:=p.1) (λi hi=>?_)]
 .simp[List.filter_append]
 .rw[List.filter_append,pG]
  have:(p.1==i)=false:=by simp;exactλe=>hi e.symm
  simp[this]
def aa8(F:List ay)(O:List aX)(u:Int)(w:World)(e:Ending)(w':World):Prop:=
 ∃X:SX,e= .returned (.pointer (some ⟨X.sb,0,none⟩))/\X.B=w.heap.size/\(X.B<=X.rb/\X.B<=X.ab)/\X.n=F.length/\X.Lb=oz (bL F O) F.length O.length/\X.La=oC (bL F O) F.length O.length/\aO w' X (JK F u) (JM F u) none 0 []/\Below w.heap.size w w'
attribute [local go_sem] kD GQ stillUpon bM
theorem J9(fv:FV)(ho:Int)(F:List ay)(O:List aX)(u:Int)(w:World)(hF:gJ w fv ⟨ho,F,O⟩)(hR:∀x∈F,iK x.ref)(hD:bF F)(hF4:F.length<=4000)(hO4:O.length<=4000)(hK:Known F O):
 Calls prog 63 #[fv.val ⟨ho,F,O⟩,.int .i64 u] w (aa8 F O u w):=by
 obtain⟨⟨fA,fc⟩,⟨oA,oc⟩⟩:=fv;have HF:=ah hF;clear hF;have HR:=ah hR;clear hR;have HD:=ah hD;clear hD;have HK:=ah hK;clear hK;simp only[FV.val,FV.cells];obtain⟨n,HN⟩:∃n,Hid (n=F.length):=⟨_,rfl⟩;rw[<-HN.out];have Tt:n<=4000:=by rw[HN.out];exact hF4
 go_enter func63,ntmps63;go_upto_region 1 with(fail)
 generalize hW0:World.alloc _ _=W0;obtain⟨HB,hh0⟩:=bx1 hW0;obtain⟨iC,iD,iI⟩:=kc3 hh0;have hs0:w.heap.size<W0.heap.size:=aB hh0;clear hh0 hW0;change Code.wp _ _ _ _ (Bl.val (⟨W0,aC _ _⟩:Bl W0));generalize hz0:(⟨W0,aC _ _⟩:Bl W0)=z0;go_upto_region 2 with(fail)
 rw[<-hz0];clear hz0 z0;obtain⟨i1,hi1,hz1,hsz1,ala⟩:=info_parts' (P:=prog) (t:=177) (z:=some (.agg #[.int .i64 0,.int .i64 0])) (s:=2) (b:=16) (by kernel_rfl);obtain⟨i2,hi2,hz2,hsz2,ahf⟩:=info_parts' (P:=prog) (t:=22) (z:=some (.slice none 0 0)) (s:=1) (b:=24) (by kernel_rfl);refine G6 (s:=(⟨W0,aC _ _⟩:Bl W0)) 7 (λi=>match i with
  |1=>some (yU W0 177 n (madeCells (Value.cells (.agg #[.int .i64 0,.int .i64 0])) (n*2)))
  |3=>some (yU W0 22 n (madeCells (Value.cells (.slice none 0 0)) (n*1)))
  |5=>some (yU W0 22 n (madeCells (Value.cells (.slice none 0 0)) (n*1)))
  |_=>none) (λ_=>[]) [3,5] [] (PrN n) (by simp) (by kernel_rfl) (by kernel_rfl) (by simp) (by simp) (by kernel_rfl) ?bnd ?keeps (by simp) ?_
 case bnd=>
  intro p hp o t ho ht;simp only[dx,iQ,or_false]at hp;rcases hp with rfl|rfl
  all_goals
   simp only[List.getElem?_toArray,List.getElem?_cons_succ,Bu,Option.some.injEq]at ho;subst ho;simp only[Option.some.injEq]at ht;subst ht;simp
 case keeps=>
  intro i sp h;split at h
  .injection h with h;subst h;exact sw _ _ _ _
  .injection h with h;subst h;exact sw _ _ _ _
  .injection h with h;subst h;exact sw _ _ _ _
  .cases h
 simp only[gF,bW,gI,b_];repeat(refine zw rfl (λK hK=>?_);go_simp;refine hK _ ?_;clear hK K)
 refine G5 _ rfl rfl ?_ (λy _=>A_ 172 (.tmp 16) (.tmp 16) rfl 177 i1 (.agg #[.int .i64 0,.int .i64 0]) 2 underlying172 hi1 hz1 hsz1 n rfl rfl (by rw[ala];omega) (by omega) y.val y.prop.size ?_) ?_
 .exact⟨_,W0.heap.size,bJ _,rfl⟩
 .intro h;simp at h
 rintro _ ⟨bb,hbb,rfl⟩;repeat(refine zw rfl (λK hK=>?_);go_simp;refine hK _ ?_;clear hK K)
 refine G5 _ rfl rfl ?_ (λy _=>A_ 84 (.tmp 18) (.tmp 18) rfl 22 i2 (.slice none 0 0) 1 underlying84 hi2 hz2 hsz2 n rfl rfl (by rw[ahf];omega) (by omega) y.val y.prop.size ?_) ?_
 .exact⟨_,W0.heap.size,bJ _,rfl⟩
 .intro _ p hp hne sp hsp u hu b hb
  simp only[dx,iQ,or_false]at hp;rcases hp with rfl|rfl
  .exact absurd rfl hne
  .injection hsp with hsp
   subst hsp;exact aB (hu b hb)
 rintro _ ⟨rb,hrb,rfl⟩;repeat(refine zw rfl (λK hK=>?_);go_simp;refine hK _ ?_;clear hK K)
 refine G5 _ rfl rfl ?_ (λy _=>A_ 84 (.tmp 20) (.tmp 20) rfl 22 i2 (.slice none 0 0) 1 underlying84 hi2 hz2 hsz2 n rfl rfl (by rw[ahf];omega) (by omega) y.val y.prop.size ?_) ?_
 .exact⟨_,W0.heap.size,bJ _,rfl⟩
 .intro _ p hp hne sp hsp u hu b hb
  simp only[dx,iQ,or_false]at hp;rcases hp with rfl|rfl
  .injection hsp with hsp
   subst hsp;exact aB (hu b hb)
  .exact absurd rfl hne
 rintro _ ⟨ab,hab,rfl⟩;repeat(refine zw rfl (λK hK=>?_);go_simp;refine hK _ ?_;clear hK K)
 refine aas ?_;rintro YT y ⟨⟨⟨_,hA⟩,hC⟩,hE⟩;have hne:rb≠ab:=YT 3 (by simp) 5 (by simp) (by omega) rfl rfl _ rfl _ rfl _ _ _ _ rfl rfl rfl rfl rb ab rfl rfl;have g1:=hA bb rfl;have g2:=hC rb rfl;have g3:=hE ab rfl;clear hA hC hE YT;gi_wp2;obtain⟨sb,hsb⟩:∃sb,sb=y.val.heap.size:=⟨_,rfl⟩;rw[<-hsb];generalize hW1:World.alloc _ _=W1;have hb1:Below y.val.heap.size y.val W1:=by rw[<-hW1];exact aJ (aC _ _) _
 have hbW:Below W0.heap.size W0 W1:=av y.prop hb1;have hBX:Own W1 175 sb [.slice (some ⟨bb,0,none⟩) n n,.slice (some ⟨rb,0,none⟩) n n,.slice (some ⟨ab,0,none⟩) n n,.slice none 0 0]:=by
  rw[<-hW1,hsb];exact Own.new _ _ _
 have hrows:∀b,y.val.heap[b]?=some (.cells (madeCells (Value.slice none 0 0).cells (n*1)) 22 (0,0))->Own W1 22 b (List.replicate n (.slice none 0 0)):=λb hb=>by
  refine⟨[],?_⟩;rw[bU,<-KS,Array.toArray_toList];exact(hb1.block b (aB hb)).trans hb
 have VA:Own W1 177 bb (Fq (λ_=>0) (λ_=>0) n):=by
  refine⟨[],?_⟩;rw[bU,<-VB,Array.toArray_toList];exact(hb1.block bb (aB g1)).trans g1
 have vG:Hid (aO (Bl.val (⟨W1,hbW⟩:Bl W0)) ⟨w.heap.size,sb,bb,rb,ab,n,List.replicate n (.slice none 0 0),List.replicate n (.slice none 0 0),List.replicate n [],List.replicate n []⟩ (λi=>if i<0 then JK F u i else 0) (λi=>if i<0 then JM F u i else 0) none 0 []):=by
  refine⟨bZ.made (hrows rb g2),bZ.made (hrows ab g3),by simp,by simp,hBX,?_,World.ownsRow_nil _ _ _ _,?_⟩
  .simpa using VA
  .have:=y.prop.size
   constructor
   .show w.heap.size<=sb
    omega
   .show w.heap.size<=bb
    omega
 have hlow:w.heap.size<sb/\w.heap.size<bb/\w.heap.size<rb/\w.heap.size<ab/\W0.heap.size<=bb:=by
  have:=y.prop.size;omega
 have J7:Hid (∀z:Bl W0,Below w.heap.size w z.val):=λz=>av HB.out z.prop;change Code.wp _ _ _ _ (Bl.val (⟨W1,hbW⟩:Bl W0));generalize(⟨W1,hbW⟩:Bl W0)=s1 at vG⊢;clear hBX hrows VA hb1 hbW hW1 hsb g1 g2 g3 hbb hrb hab y;go_wp2
 go_loopg [27] n (λgk v27 wr=>∃(k:Nat)(z:Bl W0),gk=n - k/\k<=n/\v27= .int .i64 k/\wr=z.val/\Hid (aO z.val ⟨w.heap.size,sb,bb,rb,ab,n,List.replicate n (.slice none 0 0),List.replicate n (.slice none 0 0),List.replicate n [],List.replicate n []⟩ (λi=>if i<k then JK F u i else 0) (λi=>if i<k then JM F u i else 0) none 0 []))
 case atStart=>exact⟨0,s1,rfl,aU _,rfl,rfl,vG⟩
 case round=>
  obtain⟨k,z,eO,hk,rfl,rfl,HS⟩:=hrel;have iw:=ah eO;clear eO vG;by_cases hlt:k<n
  .have HNF:=HN.out
   obtain⟨fb,fo,lG,hfb,hcell⟩:=HF.out.facts.fact (by show 0<F.length;omega);simp only at lG;subst lG;obtain⟨⟨re,ac,lo,hi,fi,se⟩,hx⟩:∃x,F[k]?=some x:=⟨F[k]'(by omega),aS (by omega)⟩;obtain⟨e0,e1,e2,e3,e4,e5⟩:=UQ (λz hz=>hcell k _ hx z (av HB.out hz)) rfl;have HX:=ah hx;clear hx hcell HNF;have j1:(k:Int)<(n:Int):=by omega
   go_upto_region 6 with(fail)
   generalize hWa:World.alloc _ _=Wa;obtain⟨hba,hxa⟩:=bx1' hWa;clear hWa;have hSa:=HS.out.below hba;have HBa:Hid (Below W0.heap.size W0 Wa):=av z.prop hba;obtain⟨d0,d1,d2,d3,d4,d5⟩:=kc6 hxa;have q2:=d2 ⟨Wa,aC _ _⟩;have q3:=d3 ⟨Wa,aC _ _⟩;simp only at q2 q3;have s0:Wa.cell? ⟨sb,0,none⟩=some (.slice (some ⟨bb,0,none⟩) n n):=hSa.box.cell rfl;have c0:=hSa.bnd.cell (dO _ _ hlt (j:=0) (by omega));have c1:=hSa.bnd.cell (dO _ _ hlt (j:=1) (by omega));rw[kP]at c0;simp only[Nat.lt_irrefl,if_false]at c0 c1;have f0:=hSa.bnd.frozen (k*2);have f1:=hSa.bnd.frozen (k*2+1);have Nh:=ah hSa;clear hSa;clear d0 d1 d2 d3 d4 d5 e0 e1 e2 e3 e4 e5 hxa hba;refine iU 14 ?_;simp only[gF,bW,gI,b_];repeat(go_big_quiet_step (fail))
   refine aY ?_;rintro _ ⟨mq,rfl⟩;gi_wp2;have vF:=Nh.out.YR mq (i:=k) hlt (min lo u) (min hi u);have zV:=ah (vF.1.congr (lo':=λi=>if i<k+1 then JK F u i else 0) (hi':=λi=>if i<k+1 then JM F u i else 0) (λi hi'=>by
    by_cases e:i=k
    .subst e
     rw[fD,fD,if_pos (by omega),if_pos (by omega)];unfold JK JM;rw[getD_map HX.out,getD_map HX.out];exact⟨rfl,rfl⟩
    .rw[fG _ _ e,fG _ _ e]
     by_cases h2:i<k
     .rw[if_pos h2,if_pos h2,if_pos (by omega),if_pos (by omega)]
      exact⟨rfl,rfl⟩
     .rw[if_neg h2,if_neg h2,if_neg (by omega),if_neg (by omega)]
      exact⟨rfl,rfl⟩))
   have HBC:Hid (Below W0.heap.size W0 (((Wa.drewN mq).setCell ⟨bb,k*2,none⟩ (.int .i64 (min lo u))).setCell ⟨bb,k*2+1,none⟩ (.int .i64 (min hi u)))):=by
    have h:=(aG.of_below HBa.out).drewN mq;have ahg:W0.heap.size<=bb:=hlow.2.2.2.2;exact aG.below ((h.setCell (p:=⟨bb,k*2,none⟩) (.inl ahg) (.int .i64 (min lo u))).setCell (p:=⟨bb,k*2+1,none⟩) (.inl ahg) (.int .i64 (min hi u))) (bJ _) (λi hi=>hi)
   clear vF Nh HBa q2 q3 s0 c0 c1 f0 f1 HS;generalize(((Wa.drewN mq).setCell ⟨bb,k*2,none⟩ (.int .i64 (min lo u))).setCell ⟨bb,k*2+1,none⟩ (.int .i64 (min hi u)))=Wc at zV HBC⊢;go_wp2
   go_roundg (n - (k+1))
   case measure=>rw[iw.out];omega
   case rel=>exact⟨k+1,⟨Wc,HBC.out⟩,rfl,by omega,by go_num,rfl,zV⟩
  .obtain rfl:n=k:=by omega
   clear iw hlt;have zR:=ah (HS.out.congr (lo':=JK F u) (hi':=JM F u) (λi hi'=>by
    have h:i<n:=hi';rw[if_pos h,if_pos h];exact⟨rfl,rfl⟩))
   clear HS;have CX:=ah (Hr ⟨⟨fA,fc⟩,⟨oA,oc⟩⟩ ⟨ho,F,O⟩ z.val (HF.out.below (J7.out z)) HR.out HD.out hF4 hO4 HK.out);simp only[FV.val,FV.cells]at CX;rw[<-HN.out]at CX;go_wp2_with (go_at_call 99;refine CX.out.mono ?_;rintro e Z ⟨pA,pc,rfl,hP,hpn,hz⟩;refine Hid.out ?_);refine ah ?_;have uE:=ah (Oi HD.out HK.out);have YU:Hid ((bL F O).length=O.length):=by show _=_;unfold bL;rw[dU]
   have hP4:(bL F O).length<=4000:=by rw[YU.out];exact hO4
   have Io:Hid (Below w.heap.size w Z):=(J7.out z).trans (hz.mono (J7.out z).size);have hrz:rb<z.val.heap.size/\ab<z.val.heap.size:=⟨zR.out.vB.own.lt,zR.out.wW.own.lt⟩;have HPN:Hid (∀b off,pA=some ⟨b,off,none⟩->¬(b=rb\/b=ab)):=λb off e=>by have:=hpn b off e;omega
   have zN:=zR.out.below hz;have Ba:Hid (aO Z ⟨w.heap.size,sb,bb,rb,ab,n,List.replicate n (.slice none 0 0),List.replicate n (.slice none 0 0),oz (bL F O) n 0,oC (bL F O) n 0⟩ (JK F u) (JM F u) none 0 []):=by
    show aO _ _ _ _ _ _ _;rw[RP,RQ];exact zN
   have JZ:Hid (rb≠ab):=hne;have HPZ:=ah hP;rw[<-HN.out]at uE;clear zN zR hP hpn hrz CX hne;generalize hPP:bL F O=P at HPZ hP4 uE Ba YU;have HPP:=ah hPP;clear hPP;obtain⟨ii,hii,hiz,his,hib⟩:=info_parts' (P:=prog) (t:=3) (z:=some (.int .i64 0)) (s:=1) (b:=8) (by kernel_rfl);have hwZ:=Io.out.size;have hsz:=hz.size;clear hz;go_wp2
   go_loopg [51] P.length (λgk v51 wr=>∃(j:Nat)(vb va:List Value),gk=P.length - j/\j<=P.length/\v51= .int .i64 j/\Hid (aO wr ⟨w.heap.size,sb,bb,rb,ab,n,vb,va,oz P n j,oC P n j⟩ (JK F u) (JM F u) none 0 [])/\Hid (aG (λi=>i=rb\/i=ab) Z wr)/\Hid (∀v,v∈vb\/v∈va->∀b,v.ownBlock=some b->Z.heap.size<=b)/\Hid (∀v∈vb,∀v'∈va,∀b,v.ownBlock=some b->v'.ownBlock≠some b))
   case atStart=>
    refine⟨0,_,_,rfl,aU _,rfl,Ba,aG.refl _ _,λv hv b hb=>?_,λv hv v' hv' b hb=>?_⟩
    .rcases hv with hv|hv
     .rw[List.eq_of_mem_replicate hv]at hb;cases hb
     .rw[List.eq_of_mem_replicate hv]at hb;cases hb
    .rw[List.eq_of_mem_replicate hv]at hb;cases hb
   case round=>
    obtain⟨j,vb,va,eO,hj,rfl,L6,HU,Qm,KQ⟩:=hrel;have Qn:=ah eO;clear eO Ba;by_cases hlj:j<P.length
    .obtain⟨⟨x,y⟩,hp⟩:∃p,P[j]?=some p:=⟨P[j],aS hlj⟩
     obtain⟨hx,hy⟩:=uE.out _ (cK hp);simp only at hx hy;have HPW:=uS HPZ.out (by omega) HU.out HPN.out;obtain⟨pb,po,hPA,hpb,hpc⟩:=HPW.1.form (by omega) (by omega);subst hPA;have e0:wr.cell? ⟨pb,po+j*2,none⟩=some (.int .i64 x):=by
      have h:=hpc (j*2) (by omega);rw[h];exact fZ (j:=0) hp (by omega)
     have e1:wr.cell? ⟨pb,po+j*2+1,none⟩=some (.int .i64 y):=by
      have h:=hpc (j*2+1) (by omega);rw[iR,h];exact fZ (j:=1) hp (by omega)
     have HPJ:=ah hp;clear hp hpc HPW;have j1:(j:Int)<(P.length:Int):=by omega
     have x1':(x:Int)<(n:Int):=by omega
     have y1':(y:Int)<(n:Int):=by omega
     go_upto_region 11 with(fail)
     generalize hWa:World.alloc _ _=Wa;obtain⟨hba,hxa⟩:=bx1' hWa;have q0:∀z:Bl Wa,z.val.cell? ⟨wr.heap.size,0,none⟩=some (.int .i64 x):=λz=>(z.prop.cell (p:=⟨wr.heap.size,0,none⟩) (aB hxa)).trans ((aK Wa _ 0 _ _ _ hxa).trans rfl);have q1:∀z:Bl Wa,z.val.cell? ⟨wr.heap.size,1,none⟩=some (.int .i64 y):=λz=>(z.prop.cell (p:=⟨wr.heap.size,1,none⟩) (aB hxa)).trans ((aK Wa _ 1 _ _ _ hxa).trans rfl);have Nh:=ah (L6.out.below hba);have HUA:=ah (l8 HU.out hba);clear hWa hba hxa e0 e1 L6 HU;change Code.wp _ _ _ _ (Bl.val (⟨Wa,aC _ _⟩:Bl Wa));generalize(⟨Wa,aC _ _⟩:Bl Wa)=za;refine aI ?_;repeat(go_big_quiet_step (fail))
     refine aY ?_;rintro _ ⟨zb,rfl⟩;have VF:=ah (Nh.out.below zb.prop);have HUR:=ah (l8 HUA.out zb.prop);clear q0 q1 Nh HUA;go_upto_region 12 with(fail)
     generalize zb.val=Wr at VF HUR⊢;obtain⟨rA,rc,hvd,hrow⟩:=VF.out.vB.get (aU y) (KT hy);have J8:=ah hvd;clear hvd;have HPT:Hid (oz P n (j+1)=(oz P n j).set y (((P.take j).filter (λq=>q.2==y)).map (λq=>(q.1:Int))++[(x:Int)])):=VD HPJ.out;have hlr:(((P.take j).filter (λq=>q.2==y)).map (λq=>(q.1:Int))).length<=4000:=by
      rw[dU];refine bI (List.length_filter_le _ _) ?_;rw[pz];omega
     generalize((P.take j).filter (λq=>q.2==y)).map (λq=>(q.1:Int))=l at hrow J8 HPT hlr;have mW:=ah hrow;clear hrow;have qD:Hid (∀(t:TypeId)(b:Nat)(cs:List Value),Own Wr t b cs->t≠3->¬(Value.slice rA l.length rc).ownBlock=some b):=λt b cs ho ht hs=>by
      obtain⟨tl,ho⟩:=ho;exact cO mW.out ho ht hs
     obtain⟨S,hSd⟩:∃S:Nat->Prop,S=λb=>(Value.slice rA l.length rc).ownBlock=some b:=⟨_,rfl⟩;have x0:∀q:Wl (λz=>aG S Wr z),q.val.cell? ⟨sb,1,none⟩=some (.slice (some ⟨rb,0,none⟩) n n):=λq=>(VF.out.box.keep q.prop (by rw[hSd];exact qD.out _ _ _ VF.out.box (by decide))).cell rfl;have x1:∀q:Wl (λz=>aG S Wr z),q.val.cell? ⟨rb,y,none⟩=some (.slice rA l.length rc):=λq=>(VF.out.vB.own.keep q.prop (by rw[hSd];exact qD.out _ _ _ VF.out.vB.own (by decide))).cell J8.out;have x2:∀q:Wl (λz=>aG S Wr z),q.val.frozen? ⟨rb,y,none⟩=false:=λq=>(VF.out.vB.own.keep q.prop (by rw[hSd];exact qD.out _ _ _ VF.out.vB.own (by decide))).frozen y;have hSl:∀k,S k->k<Wr.heap.size:=λk hk=>by
      rw[hSd]at hk;exact(mW.out.lt k hk).2
     have ad1:w.heap.size<=Wr.heap.size:=by have:=VF.out.box.lt;simp only at this;omega
     haveI:Inhabited (Wl (λz=>aG S Wr z)):=⟨⟨Wr,aG.refl _ _⟩⟩
     refine rY (s:=(⟨Wr,aC _ _⟩:Wl (λz=>Below Wr.heap.size Wr z))) (C1:=λz=>aG S Wr z) (T:=aG S) (f:=14) 15 (λi=>match i with
      |13=>some (oO Wr 3 #[.int .i64 (x:Nat)])
      |14=>some (Cv Wr w.heap.size 3 1 (l.length+1) (.slice rA l.length rc) (aZ l++[.int .i64 (x:Nat)]))
      |_=>none) (λi=>match i with
      |14=>[13]
      |_=>[]) [13] [] (by simp) (by kernel_rfl) (by kernel_rfl) (by simp) (by simp) (by kernel_rfl) ?alb ?ad2 (DU Wr S) ?_
     case alb=>
      intro p hp o t ho ht;simp only[eB]at hp;subst hp;simp only[List.getElem?_toArray,List.getElem?_cons_succ,Bu,Option.some.injEq]at ho;subst ho;simp only[Option.some.injEq]at ht;subst ht;simp
     case ad2=>
      intro i sp h;split at h
      .injection h with h;subst h;exact qF _ _ _ _ _ _ hSl
      .injection h with h;subst h;exact⟨uz _ _ _ _ _ _ _,λh=>absurd rfl h⟩
      .cases h
     simp only[gF,bW,gI,b_];repeat(refine Di rfl (λK hK=>?_);go_simp;refine hK _ ?_;clear hK K)
     refine GU _ rfl rfl rfl ?_ (λq _=>?_) ?_
     .exact⟨_,Wr.heap.size,bJ _,rfl⟩
     .go_simp
      refine⟨⟨_,bI q.prop.size (bJ _),rfl⟩,λb hb=>?_,aJ (aC _ _) _⟩;simp only[Value.slice.injEq,Option.some.injEq,Addr.mk.injEq,and_true]at hb;subst hb;exact⟨q.prop.size,bK _ _⟩
     rintro _ ⟨gb,hgb,rfl⟩;refine GV _ rfl rfl rfl ?_ (λq hpre=>?_) ?_
     .exact⟨_,0,0,rfl⟩
     .have hp:=hpre 13 (by simp) (oO Wr 3 #[.int .i64 (x:Nat)]) rfl _ _ rfl rfl gb rfl
      rw[hSd];exact uD (P:=prog) (Z:=Wr) (z:=q.val) _ _ 22 rfl w.heap.size 3 ii (.int .i64 0) 1 8 underlying22 hii hiz his hib rfl (by decide) (.slice rA l.length rc) l.length (aZ l) rfl (dF mW.out q.prop) gb #[.int .i64 (x:Nat)] 3 (0,0) rfl hp.2 rfl (by intro u hu;simp only[eB]at hu;subst hu;rfl) (by unfold maxLen;omega) (by omega) (by have h3:=q.prop.size;omega) q.prop.size
     rintro _ ⟨g6,c6,rfl⟩;refine LD ?_;rintro q ⟨⟨_,_⟩,EI,uy⟩;have z1:=x1 q;have z2:=x2 q;have hqp:aG (λb=>(Value.slice rA l.length rc).ownBlock=some b) Wr q.val:=q.prop.mono (λi _ h=>by rw[hSd]at h;exact h);have e6:(l++[(x:Int)]).length=l.length+1:=by simp
     have hput:=VF.out.adW (l':=l++[(x:Int)]) J8.out hqp (by rw[e6,oN];exact EI) uy JZ.out KQ.out;have HOWN:Hid (∀b,(Value.slice (some ⟨g6,0,none⟩) (l.length+1) c6).ownBlock=some b->(Value.slice rA l.length rc).ownBlock=some b\/Wr.heap.size<=b):=λb hb=>by
      rcases uy with e|e
      .exact .inl (by rw[<-e];exact hb)
      .exact .inr (e b hb)
     have HNR:=HPT.out;simp only at hput;rw[<-HNR]at hput;clear HNR EI uy hqp e6 ad1 hSl qD;have Fu:=ah hput.1;have Vn:=ah hput.2.2;have YV:Hid (aG (λi=>i=rb\/i=ab) Z (Wr.alloc (.map #[] 0))\/True):=.inr trivial;have ad3:Hid (aG (λi=>i=rb\/i=ab) Z (q.val.setCell ⟨rb,y,none⟩ (.slice (some ⟨g6,0,none⟩) (l.length+1) c6))):=HUR.out.trans hput.2.1 (λi hi hs=>by
      rcases hs with hs|hs
      .have h1:=Qm.out _ (.inl (cK J8.out)) i hs
       omega
      .exact .inl hs)
     have ad4:Hid (∀v,v∈vb.set y (.slice (some ⟨g6,0,none⟩) (l.length+1) c6)\/v∈va->∀b,v.ownBlock=some b->Z.heap.size<=b):=λv hv b hb=>by
      have hzw:=HUR.out.size;rcases hv with hv|hv
      .rcases List.mem_or_eq_of_mem_set hv with h2|rfl
       .exact Qm.out v (.inl h2) b hb
       .rcases HOWN.out b hb with h3|h3
        .exact Qm.out _ (.inl (cK J8.out)) b h3
        .omega
      .exact Qm.out v (.inr hv) b hb
     clear hput YV KQ Qm VF HUR HOWN HPT J8 mW x0 x1 x2;gi_wp2;clear z1 z2;generalize q.val.setCell ⟨rb,y,none⟩ (.slice (some ⟨g6,0,none⟩) (l.length+1) c6)=Wr at Fu ad3⊢;generalize vb.set y (.slice (some ⟨g6,0,none⟩) (l.length+1) c6)=vb2 at Fu Vn ad4;have KQ:=Vn;clear Vn;have Qm:=ad4;clear ad4;have HUR:=ad3;clear ad3;go_upto_region 13 with(fail)
     obtain⟨rA,rc,hvd,hrow⟩:=Fu.out.wW.get (aU x) (KU hx);have J8:=ah hvd;clear hvd;have HPT:Hid (oC P n (j+1)=(oC P n j).set x (((P.take j).filter (λq=>q.1==x)).map (λq=>(q.2:Int))++[(y:Int)])):=VE HPJ.out;have hlr:(((P.take j).filter (λq=>q.1==x)).map (λq=>(q.2:Int))).length<=4000:=by
      rw[dU];refine bI (List.length_filter_le _ _) ?_;rw[pz];omega
     generalize((P.take j).filter (λq=>q.1==x)).map (λq=>(q.2:Int))=l at hrow J8 HPT hlr;have mW:=ah hrow;clear hrow;have qD:Hid (∀(t:TypeId)(b:Nat)(cs:List Value),Own Wr t b cs->t≠3->¬(Value.slice rA l.length rc).ownBlock=some b):=λt b cs ho ht hs=>by
      obtain⟨tl,ho⟩:=ho;exact cO mW.out ho ht hs
     obtain⟨S,hSd⟩:∃S:Nat->Prop,S=λb=>(Value.slice rA l.length rc).ownBlock=some b:=⟨_,rfl⟩;have x0:∀q:Wl (λz=>aG S Wr z),q.val.cell? ⟨sb,2,none⟩=some (.slice (some ⟨ab,0,none⟩) n n):=λq=>(Fu.out.box.keep q.prop (by rw[hSd];exact qD.out _ _ _ Fu.out.box (by decide))).cell rfl;have x1:∀q:Wl (λz=>aG S Wr z),q.val.cell? ⟨ab,x,none⟩=some (.slice rA l.length rc):=λq=>(Fu.out.wW.own.keep q.prop (by rw[hSd];exact qD.out _ _ _ Fu.out.wW.own (by decide))).cell J8.out;have x2:∀q:Wl (λz=>aG S Wr z),q.val.frozen? ⟨ab,x,none⟩=false:=λq=>(Fu.out.wW.own.keep q.prop (by rw[hSd];exact qD.out _ _ _ Fu.out.wW.own (by decide))).frozen x;have hSl:∀k,S k->k<Wr.heap.size:=λk hk=>by
      rw[hSd]at hk;exact(mW.out.lt k hk).2
     have ad1:w.heap.size<=Wr.heap.size:=by have:=Fu.out.box.lt;simp only at this;omega
     haveI:Inhabited (Wl (λz=>aG S Wr z)):=⟨⟨Wr,aG.refl _ _⟩⟩
     refine rY (s:=(⟨Wr,aC _ _⟩:Wl (λz=>Below Wr.heap.size Wr z))) (C1:=λz=>aG S Wr z) (T:=aG S) (f:=14) 15 (λi=>match i with
      |13=>some (oO Wr 3 #[.int .i64 (y:Nat)])
      |14=>some (Cv Wr w.heap.size 3 1 (l.length+1) (.slice rA l.length rc) (aZ l++[.int .i64 (y:Nat)]))
      |_=>none) (λi=>match i with
      |14=>[13]
      |_=>[]) [13] [] (by simp) (by kernel_rfl) (by kernel_rfl) (by simp) (by simp) (by kernel_rfl) ?alc ?ad5 (DU Wr S) ?_
     case alc=>
      intro p hp o t ho ht;simp only[eB]at hp;subst hp;simp only[List.getElem?_toArray,List.getElem?_cons_succ,Bu,Option.some.injEq]at ho;subst ho;simp only[Option.some.injEq]at ht;subst ht;simp
     case ad5=>
      intro i sp h;split at h
      .injection h with h;subst h;exact qF _ _ _ _ _ _ hSl
      .injection h with h;subst h;exact⟨uz _ _ _ _ _ _ _,λh=>absurd rfl h⟩
      .cases h
     simp only[gF,bW,gI,b_];repeat(refine Di rfl (λK hK=>?_);go_simp;refine hK _ ?_;clear hK K)
     refine GU _ rfl rfl rfl ?_ (λq _=>?_) ?_
     .exact⟨_,Wr.heap.size,bJ _,rfl⟩
     .go_simp
      refine⟨⟨_,bI q.prop.size (bJ _),rfl⟩,λb hb=>?_,aJ (aC _ _) _⟩;simp only[Value.slice.injEq,Option.some.injEq,Addr.mk.injEq,and_true]at hb;subst hb;exact⟨q.prop.size,bK _ _⟩
     rintro _ ⟨gb,hgb,rfl⟩;refine GV _ rfl rfl rfl ?_ (λq hpre=>?_) ?_
     .exact⟨_,0,0,rfl⟩
     .have hp:=hpre 13 (by simp) (oO Wr 3 #[.int .i64 (y:Nat)]) rfl _ _ rfl rfl gb rfl
      rw[hSd];exact uD (P:=prog) (Z:=Wr) (z:=q.val) _ _ 22 rfl w.heap.size 3 ii (.int .i64 0) 1 8 underlying22 hii hiz his hib rfl (by decide) (.slice rA l.length rc) l.length (aZ l) rfl (dF mW.out q.prop) gb #[.int .i64 (y:Nat)] 3 (0,0) rfl hp.2 rfl (by intro u hu;simp only[eB]at hu;subst hu;rfl) (by unfold maxLen;omega) (by omega) (by have h3:=q.prop.size;omega) q.prop.size
     rintro _ ⟨g6,c6,rfl⟩;refine LD ?_;rintro q ⟨⟨_,_⟩,EI,uy⟩;have z1:=x1 q;have z2:=x2 q;have hqp:aG (λb=>(Value.slice rA l.length rc).ownBlock=some b) Wr q.val:=q.prop.mono (λi _ h=>by rw[hSd]at h;exact h);have e6:(l++[(y:Int)]).length=l.length+1:=by simp
     have hput:=Fu.out.adX (l':=l++[(y:Int)]) J8.out hqp (by rw[e6,oN];exact EI) uy JZ.out KQ.out;have HOWN:Hid (∀b,(Value.slice (some ⟨g6,0,none⟩) (l.length+1) c6).ownBlock=some b->(Value.slice rA l.length rc).ownBlock=some b\/Wr.heap.size<=b):=λb hb=>by
      rcases uy with e|e
      .exact .inl (by rw[<-e];exact hb)
      .exact .inr (e b hb)
     have HNR:=HPT.out;simp only at hput;rw[<-HNR]at hput;clear HNR EI uy hqp e6 ad1 hSl qD;have ad6:=ah hput.1;have ahk:=ah hput.2.2;have ahl:Hid (aG (λi=>i=rb\/i=ab) Z (q.val.setCell ⟨ab,x,none⟩ (.slice (some ⟨g6,0,none⟩) (l.length+1) c6))):=HUR.out.trans hput.2.1 (λi hi hs=>by
      rcases hs with hs|hs
      .have h1:=Qm.out _ (.inr (cK J8.out)) i hs
       omega
      .exact .inr hs)
     have ahm:Hid (∀v,v∈vb2\/v∈va.set x (.slice (some ⟨g6,0,none⟩) (l.length+1) c6)->∀b,v.ownBlock=some b->Z.heap.size<=b):=λv hv b hb=>by
      have hzw:=HUR.out.size;rcases hv with hv|hv
      .exact Qm.out v (.inl hv) b hb
      .rcases List.mem_or_eq_of_mem_set hv with h2|rfl
       .exact Qm.out v (.inr h2) b hb
       .rcases HOWN.out b hb with h3|h3
        .exact Qm.out _ (.inr (cK J8.out)) b h3
        .omega
     clear hput KQ Qm Fu HUR HOWN HPT J8 mW x0 x1 x2;gi_wp2;clear z1 z2;generalize q.val.setCell ⟨ab,x,none⟩ (.slice (some ⟨g6,0,none⟩) (l.length+1) c6)=Wm at ad6 ahl⊢;generalize va.set x (.slice (some ⟨g6,0,none⟩) (l.length+1) c6)=va2 at ad6 ahk ahm;go_wp2
     go_roundg (P.length - (j+1))
     case measure=>rw[Qn.out];omega
     case rel=>exact⟨j+1,vb2,va2,rfl,by omega,by go_num,ad6,ahl,ahm,ahk⟩
    .obtain rfl:j=P.length:=by omega
     clear Qn hlj;have Rj:Hid (Below w.heap.size w wr):=Io.out.trans (HU.out.below Io.out.size (λi hi=>by omega));rw[YU.out,<-HPP.out]at L6;go_wp2;go_ret;exact⟨⟨w.heap.size,sb,bb,rb,ab,n,vb,va,oz (bL F O) n O.length,oC (bL F O) n O.length⟩,rfl,rfl,⟨Nat.le_of_lt hlow.2.2.1,Nat.le_of_lt hlow.2.2.2.1⟩,HN.out,by rw[<-HN.out],by rw[<-HN.out],L6.out,Rj.out⟩
end
open Go.RowKit Go.Shelf Tryz
def pX:List (Nat×Int×Int)->(Nat->Int)->Nat->Int
 |[],f=>f
 |c::H,f=>setAt (pX H f) c.1 c.2.1
def pY:List (Nat×Int×Int)->(Nat->Int)->Nat->Int
 |[],f=>f
 |c::H,f=>setAt (pY H f) c.1 c.2.2
theorem IV(H:List (Nat×Int×Int))(c:Nat×Int×Int)(f:Nat->Int):pX (H++[c]) f=pX H (setAt f c.1 c.2.1):=by
 induction H with
 |nil=>rfl
 |cons d H ih=>show setAt (pX (H++[c]) f) d.1 d.2.1=_;rw[ih];rfl
theorem IW(H:List (Nat×Int×Int))(c:Nat×Int×Int)(f:Nat->Int):pY (H++[c]) f=pY H (setAt f c.1 c.2.2):=by
 induction H with
 |nil=>rfl
 |cons d H ih=>show setAt (pY (H++[c]) f) d.1 d.2.2=_;rw[ih];rfl
theorem vX(f:Nat->Int)(i:Nat)(v:Int):setAt (setAt f i v) i (f i)=f:=by
 funext x;by_cases e:x=i
 .subst e;rw[fD]
 .rw[fG _ _ e,fG _ _ e]
theorem kZ(f:Nat->Int)(i:Nat):setAt f i (f i)=f:=by
 funext x;by_cases e:x=i
 .subst e;rw[fD]
 .rw[fG _ _ e]
theorem aO.RS{w w':World}{X:SX}{lo hi:Nat->Int}{A:Option Addr}{oc:Nat}{H:List (Nat×Int×Int)}{S:Nat->Prop}(h:aO w X lo hi A oc H)(hu:aG S w w')(hT:∀k,S k->∃cs fz,w.heap[k]?=some (.cells cs 3 fz))(hR:∀v,v∈X.vb\/v∈X.va->∀b,v.ownBlock=some b->¬S b):aO w' X lo hi A oc H:=by
 have key:∀{t:TypeId}{b:Nat}{cs:List Value},Own w t b cs->t≠3->¬S b:=λho ht hs=>by
  obtain⟨tl,ho⟩:=ho;obtain⟨cs,fz,h1⟩:=hT _ hs;rw[ho]at h1;injection h1 with h1
  injection h1 with _ h1 _
  exact ht h1
 refine⟨h.vB.upd hu (key h.vB.own (by decide)) (λv hv b hb=>hR v (.inl hv) b hb),h.wW.upd hu (key h.wW.own (by decide)) (λv hv b hb=>hR v (.inr hv) b hb),h.IL,h.IQ,h.box.keep hu (key h.box (by decide)),h.bnd.keep hu (key h.bnd (by decide)),bV h.old hu (λb hb hs=>?_),h.low⟩;obtain⟨cs,fz,h1⟩:=hT _ hs;exact cO h.old h1 (by decide) hb
def sK(l:List Nat):List Int:=l.map (λx:Nat=>(x:Int))
theorem KV(l:List Nat)(x:Nat):sK (l++[x])=sK l++[(x:Int)]:=by simp[sK]
theorem Cw(l:List Nat):(sK l).length=l.length:=dU _
theorem Cx{l:List Nat}{i x:Nat}(h:l[i]?=some x):(sK l)[i]?=some (x:Int):=by simp[sK,h]
theorem qE.new{X:SX}{w wr w':World}{S:Nat->Prop}(h:qE X w wr)(hu:aG S wr w')(hS:∀k,S k->w.heap.size<=k):qE X w w':=aG.trans h hu (λi hi hs=>by have:=hS i hs;omega)
theorem iO{w:World}{B:Nat}{e:TypeId}{size n:Nat}{v:Value}{xs:List Value}(h:w.ownsRow B e size v n xs):∀k,v.ownBlock=some k->∃cs fz,w.heap[k]?=some (.cells cs e fz):=λk hk=>by
 rcases h.2 with⟨rfl,_⟩|⟨g,cap,cur,rfl,_,hg,_⟩
 .cases hk
 .simp only[Value.ownBlock,Option.some.injEq]at hk
  subst hk;exact⟨_,_,hg⟩
def nV(P:List (Nat×Nat))(y:Nat):List Nat:=(P.filter (λp=>p.1==y)).map (·.2)
theorem IY{P:List (Nat×Nat)}{y b:Nat}:b∈nV P y↔(y,b)∈P:=by
 unfold nV;simp only[cZ,List.mem_filter,beq_iff_eq];constructor
 .rintro⟨⟨p1,p2⟩,⟨h1,rfl⟩,rfl⟩;exact h1
 .exactλh=>⟨(y,b),⟨h,rfl⟩,rfl⟩
theorem IZ(P:List (Nat×Nat))(y:Nat):(nV P y).length<=P.length:=by
 unfold nV;rw[dU];exact List.length_filter_le _ _
theorem I4{P:List (Nat×Nat)}{n i:Nat}(h:i<n):(oC P n P.length)[i]?=some (sK (nV P i)):=by
 rw[KU h,iG];simp[sK,nV]
theorem I5{P:List (Nat×Nat)}{n i:Nat}(h:i<n):(oz P n P.length)[i]?=some (sK (nV (P.map (λp=>(p.2,p.1))) i)):=by
 rw[KT h,iG];congr 1;unfold sK nV;rw[List.filter_map,List.map_map,List.map_map];rfl
theorem VG(f:Nat->Int)(i:Nat)(v:Int):setAt (λi=> - f i) i (-v)=λj=> - setAt f i v j:=by
 funext x;by_cases e:x=i
 .subst e;rw[fD,fD]
 .rw[fG _ _ e,fG _ _ e]
theorem aa9{n:Nat}{lo hi:Nat->Int}{P:List (Nat×Nat)}(hB:Qc n lo hi P):Qc n (λi=> - hi i) (λi=> - lo i) (P.map (λp=>(p.2,p.1))):=by
 refine⟨λi hn=>by have:=hB.le i hn;omega,λp hp=>?_,λp hp=>?_,λp hp=>?_⟩;all_goals
  obtain⟨q,hq,rfl⟩:=cZ.1 hp;simp only
 .have:=hB.clH q hq;omega
 .have:=hB.clL q hq;omega
 .exact⟨(hB.inn q hq).2,(hB.inn q hq).1⟩
def RU(X:SX)(P:List (Nat×Nat))(lo hi:Nat->Int)(H:List (Nat×Int×Int))(a:Nat)(v:Int)(w:World)(e:Ending)(w':World):Prop:=
 ∃(lo' hi':Nat->Int)(A:Option Addr)(oc:Nat)(H2:List (Nat×Int×Int)),e= .returned (.tuple #[])/\aO w' X lo' hi' A oc (H++H2)/\qE X w w'/\H2.length<=2*X.n+1/\pX H2 lo'=lo/\pY H2 hi'=hi/\(∀c∈H2,c.1<X.n)/\
  (∃later,Up X.n lo hi P a v lo' later/\∀y∈later,∀b,(y,b)∈P->v<=lo' b)/\
  ∃earlier,Up X.n (λi=> - hi i) (λi=> - lo i) (P.map (λp=>(p.2,p.1))) a (-v) (λi=> - hi' i) earlier/\∀y∈earlier,∀b,(y,b)∈P.map (λp=>(p.2,p.1))-> -v<= - hi' b
attribute [local go_sem] kD GQ stillUpon bM
theorem RV(X:SX)(P:List (Nat×Nat))(lo hi:Nat->Int)(A:Option Addr)(oc:Nat)(H:List (Nat×Int×Int))(a:Nat)(v:Int)(w:World)(hS:aO w X lo hi A oc H)(hB:Qc X.n lo hi P)(hLb:X.Lb=oz P X.n P.length)(hLa:X.La=oC P X.n P.length)(ha:a<X.n)(h1:lo a<=v)(h2:v<=hi a)(hn:X.n<=4000)(hP:P.length<=4000)(hH:H.length+2*X.n+1<=1000000):
 Calls prog 102 #[.pointer (some ⟨X.sb,0,none⟩),.int .i64 a,.int .i64 v] w (RU X P lo hi H a v w):=by
 have HS:=ah hS;clear hS;have HB:=ah hB;clear hB;have HLB:=ah hLb;clear hLb;have HLA:=ah hLa;clear hLa;have Oa:Hid (∀u,u∈X.vb\/u∈X.va->∀b,u.ownBlock=some b->b<w.heap.size):=λu hu b hb=>by
  rcases hu with hu|hu
  .exact(HS.out.vB.low u hu b hb).2.1
  .exact(HS.out.wW.low u hu b hb).2.1
 have HST:=ah (MG X lo hi A oc H a v v w HS.out ha (by omega));have ald:=ah (Up.start (P:=P) ha h1 h2);have ale:Hid (Up X.n (λi=> - hi i) (λi=> - lo i) (P.map (λp=>(p.2,p.1))) a (-v) (λi=> - setAt hi a v i) [a]):=by
  have h:=Up.start (n:=X.n) (lo:=λi=> - hi i) (hi:=λi=> - lo i) (P:=P.map (λp=>(p.2,p.1))) (v:= -v) ha (by omega) (by omega);have e:(λi=> - setAt hi a v i)=setAt (λi=> - hi i) a (-v):=by
   funext i;by_cases e:i=a
   .subst e;rw[fD,fD]
   .rw[fG _ _ e,fG _ _ e]
  show Up _ _ _ _ _ _ _ _;rw[e];exact h
 clear h1 h2;obtain⟨H1,hH1⟩:∃H1:List (Nat×Int×Int),H1=(if lo a=v/\hi a=v then[]else[(a,lo a,hi a)]):=⟨_,rfl⟩;have YW:Hid (Calls prog 141 #[.pointer (some ⟨X.sb,0,none⟩),.int .i64 a,.agg #[.int .i64 v,.int .i64 v]] w (λe w'=>∃A oc b,e= .returned (.bool b)/\aO w' X (setAt lo a v) (setAt hi a v) A oc (H++H1)/\qE X w w')):=by
  refine HST.out.mono ?_;rintro e w' ⟨A,oc,rfl,h3,h4⟩;refine⟨A,oc,_,rfl,?_,h4⟩;by_cases c:lo a=v/\hi a=v
  .rw[if_pos c,if_pos c,if_pos c]at h3
   rw[hH1,if_pos c,bU];have e1:setAt lo a v=lo:=by rw[<-c.1];exact kZ lo a
   have e2:setAt hi a v=hi:=by rw[<-c.2];exact kZ hi a
   rw[e1,e2];exact h3
  .rw[if_neg c,if_neg c,if_neg c]at h3
   rw[hH1,if_neg c];exact h3
 have VH:Hid (H1.length<=1/\pX H1 (setAt lo a v)=lo/\pY H1 (setAt hi a v)=hi/\∀c∈H1,c.1<X.n):=by
  rw[hH1];by_cases c:lo a=v/\hi a=v
  .rw[if_pos c]
   refine⟨by simp,?_,?_⟩
   .show setAt lo a v=lo
    rw[<-c.1];exact kZ lo a
   .refine⟨?_,λc hc=>by cases hc⟩
    show setAt hi a v=hi;rw[<-c.2];exact kZ hi a
  .rw[if_neg c]
   exact⟨by simp,vX lo a v,vX hi a v,λc hc=>by rw[eB.1 hc];exact ha⟩
 clear hH1 HST;go_enter func102,ntmps102;go_wp2_with (go_at_call 141;refine YW.out.mono ?_;rintro e Z ⟨A1,oc1,b1,rfl,hs1,hm1⟩;refine Hid.out ?_);refine ah ?_;have vG:=ah hs1;clear hs1;have Nk:=ah hm1;clear hm1;clear YW HS;go_upto_region 2 with(fail)
 obtain⟨lb,hlb⟩:∃lb,lb=Z.heap.size:=⟨_,rfl⟩;rw[<-hlb];generalize Dx:World.alloc _ _=Wb;have hbb:Below Z.heap.size Z Wb:=by rw[<-Dx];exact aJ (aC _ _) _
 have mW:Hid (Wb.ownsRow w.heap.size 3 1 (.slice (some ⟨lb,0,none⟩) [a].length 1) [a].length (aZ (sK [a]))):=by
  refine⟨rfl,.inr ⟨lb,1,#[.int .i64 a],rfl,?_,?_,bJ _,by unfold maxLen;omega,rfl,rfl⟩⟩
  .rw[hlb];exact Nk.out.size
  .rw[<-Dx,hlb];exact bK Z _
 have HS2:=ah (vG.out.below hbb);have Bo:=ah (Nk.out.trans (qE.of_below hbb));clear Dx hbb hlb vG Nk;obtain⟨ii,hii,hiz,his,hib⟩:=info_parts' (P:=prog) (t:=3) (z:=some (.int .i64 0)) (s:=1) (b:=8) (by kernel_rfl);have HBN:=HB.out;go_wp2
 go_loopg [7,6] X.n (λgk v7 v6 wr=>∃(i:Nat)(loc:Nat->Int)(Hc:List (Nat×Int×Int))(later:List Nat)(A6:Option Addr)(c6:Nat)(A':Option Addr)(VI:Nat),gk=X.n - i/\i<=later.length/\v7= .int .i64 i/\v6= .slice A6 later.length c6/\Hid (aO wr X loc (setAt hi a v) A' VI (H++Hc))/\Hid (qE X w wr)/\Hid (wr.ownsRow w.heap.size 3 1 (.slice A6 later.length c6) later.length (aZ (sK later)))/\Hid (Up X.n lo hi P a v loc later)/\Hid (∀y∈later.take i,∀b,(y,b)∈P->v<=loc b)/\Hid (pX Hc loc=lo/\pY Hc (setAt hi a v)=hi/\∀c∈Hc,c.1<X.n)/\Hc.length<=later.length)
 case atStart=>exact⟨0,_,H1,[a],_,1,A1,oc1,rfl,aU _,rfl,rfl,HS2,Bo,mW,ald,(λy hy=>by simp at hy),VH.out.2,VH.out.1⟩
 case round=>
  obtain⟨i,loc,Hc,later,A6,c6,A',VI,eO,hi',rfl,rfl,zV,Au,rT,FT,KW,wO,hlc⟩:=hrel;have iw:=ah eO;clear eO HS2 Bo mW;have hll:=FT.out.length;by_cases hlt:i<later.length
  .obtain⟨y,hy⟩:∃y,later[i]?=some y:=⟨_,aS hlt⟩
   have hyn:=FT.out.lt y (cK hy);have hgl:X.La[y]?=some (sK (nV P y)):=by rw[HLA.out];exact I4 hyn
   obtain⟨rA,rc,hva,hrw⟩:=zV.out.wW.get (aU y) hgl;have hRl:=IZ P y;have Ql:Hid (∀b,b∈nV P y↔(y,b)∈P):=λb=>IY;obtain⟨R,HR⟩:∃R,Hid (R=nV P y):=⟨_,rfl⟩;rw[<-HR.out]at hgl hva hrw hRl Ql;rw[Cw]at hva hrw;obtain⟨g6,hA6,_,ZP,_,_,hc6⟩:=nT rT.out (by omega);subst hA6;have x6:∀z:Bl wr,z.val.cell? ⟨g6,i,none⟩=some (.int .i64 y):=λz=>(z.prop.cell (p:=⟨g6,i,none⟩) ZP).trans (hc6 i _ (ig (Cx hy)));have x2:∀z:Bl wr,z.val.cell? ⟨X.sb,2,none⟩=some (.slice (some ⟨X.ab,0,none⟩) X.n X.n):=λz=>(zV.out.below z.prop).box.cell rfl;have xr:∀z:Bl wr,z.val.cell? ⟨X.ab,y,none⟩=some (.slice rA R.length rc):=λz=>(zV.out.below z.prop).wW.own.cell hva;have i1:(i:Int)<(later.length:Int):=by omega
   have y1:(y:Int)<(X.n:Int):=by omega
   have HY:=ah hy;have HVA:=ah hva;clear hrw hc6 hy hva hgl;go_upto_region 5 with(fail)
   change Code.wp _ _ _ _ (Bl.val (⟨wr,aC _ _⟩:Bl wr));generalize(⟨wr,aC _ _⟩:Bl wr)=za;refine aI ?_;repeat(go_big_quiet_step (fail))
   refine aY ?_;rintro _ ⟨zb,rfl⟩;have HSD:=ah (zV.out.below zb.prop);have HMD:=ah (Au.out.trans (qE.of_below zb.prop));have ZG:=ah (dF rT.out zb.prop);have WE:Hid (later.take i=later.take i):=rfl;clear x6 x2 xr zV Au rT;generalize zb.val=Wd at HSD HMD ZG⊢;have hR4:R.length<=4000:=by omega
   go_wp2
   go_loopg [41,6] R.length (λgk v41 v6 wr=>∃(j:Nat)(loc:Nat->Int)(Hc:List (Nat×Int×Int))(later:List Nat)(A6:Option Addr)(c6:Nat)(A':Option Addr)(VI:Nat),gk=R.length - j/\j<=R.length/\i<later.length/\v41= .int .i64 j/\v6= .slice A6 later.length c6/\Hid (aO wr X loc (setAt hi a v) A' VI (H++Hc))/\Hid (qE X w wr)/\Hid (wr.ownsRow w.heap.size 3 1 (.slice A6 later.length c6) later.length (aZ (sK later)))/\Hid (Up X.n lo hi P a v loc later)/\Hid (∀y∈later.take i,∀b,(y,b)∈P->v<=loc b)/\Hid (later[i]?=some y)/\Hid (∀b∈R.take j,v<=loc b)/\Hid (pX Hc loc=lo/\pY Hc (setAt hi a v)=hi/\∀c∈Hc,c.1<X.n)/\Hc.length<=later.length)
   case atStart=>exact⟨0,loc,Hc,later,_,c6,A',VI,rfl,aU _,hlt,rfl,rfl,HSD,HMD,ZG,FT,KW,HY,(λb hb=>by simp at hb),wO,hlc⟩
   case round=>
    clear HSD HMD ZG FT KW HY wO hlc hll WE hyn i1;obtain⟨j,loc,Hc,later,A6,c6,A',VI,eO,hj,hil,rfl,rfl,zV,Au,rT,FT,KW,HY,HDJ,wO,hlc⟩:=hrel;have Qn:=ah eO;clear eO;have hll:=FT.out.length;by_cases hlj:j<R.length
    .obtain⟨x,hx⟩:∃x,R[j]?=some x:=⟨_,aS hlj⟩
     have hyx:=(Ql.out x).1 (cK hx);have hxn:=(HB.out.inn _ hyx).2;simp only at hxn;have hstep:=FT.out.step HB.out (cK HY.out) hyx;have HXJ:=ah hx;have hgl:X.La[y]?=some (sK R):=by rw[HLA.out,HR.out];exact I4 (FT.out.lt y (cK HY.out))
     have hrw:=zV.out.wW.row y _ _ (aU _) HVA.out hgl;rw[Cw]at hrw;obtain⟨g,hrA,_,hg,_,_,hcg⟩:=nT hrw (by omega);subst hrA;have x0:wr.cell? ⟨g,j,none⟩=some (.int .i64 x):=hcg j _ (ig (Cx hx));have x1:wr.cell? ⟨X.sb,0,none⟩=some (.slice (some ⟨X.bb,0,none⟩) X.n X.n):=zV.out.box.cell rfl;have x3:=zV.out.bnd.cell (dO _ _ hxn (j:=0) (by omega));have x4:=zV.out.bnd.cell (dO _ _ hxn (j:=1) (by omega));rw[kP]at x3;have j1:(j:Int)<(R.length:Int):=by omega
     have xn1:(x:Int)<(X.n:Int):=by omega
     clear hrw hcg hx hgl hyx;go_upto_region 9 with(fail)
     generalize Dx:World.alloc _ _=Wb;obtain⟨hbb,hxb⟩:=bx1' Dx;have q0:Wb.cell? ⟨wr.heap.size,0,none⟩=some (.int .i64 (loc x)):=(aK Wb _ 0 _ _ _ hxb).trans rfl;have q1:Wb.cell? ⟨wr.heap.size,1,none⟩=some (.int .i64 (setAt hi a v x)):=(aK Wb _ 1 _ _ _ hxb).trans rfl;have vF:=ah (zV.out.below hbb);have wX:=ah (Au.out.trans (qE.of_below hbb));have Ni:=ah (dF rT.out hbb);have hst:=MG X loc (setAt hi a v) A' VI (H++Hc) x (max (loc x) v) (setAt hi a v x) Wb vF.out hxn (by simp;omega);clear Dx hbb hxb x0 x1 x3 x4 zV Au rT;have MH:∀f:Nat->Int,(∀c,loc c<=f c)->v<=f x->Hid (∀b∈R.take (j+1),v<=f b):=λf hf hv b hb=>by
      rw[bT HXJ.out]at hb;rcases jU.1 hb with hb|hb
      .exact Int.le_trans (HDJ.out b hb) (hf b)
      .rw[eB.1 hb];exact hv
     rcases hstep with⟨hvx,hmx⟩|⟨hvx,hmx,hnb,VJ⟩
     .have c:loc x=max (loc x) v/\setAt hi a v x=setAt hi a v x:=⟨hmx.symm,rfl⟩
      rw[if_pos c,if_pos c,if_pos c,decide_eq_true c]at hst;have HST:=ah hst;have RX:=MH loc (λ_=>iY _) hvx;clear hst c hmx MH;go_wp2_with (go_at_call 141;refine HST.out.mono ?_;rintro e W5 ⟨A5,VK,rfl,hs5,RY⟩;refine Hid.out ?_);refine ah ?_;have WQ:=ah hs5;have VL:=ah (wX.out.trans RY);have KO:=ah (tH Ni.out RY (by unfold DT;decide));clear hs5 RY vF wX Ni HST q0 q1;go_wp2
      go_roundg (R.length - (j+1))
      case measure=>rw[Qn.out];omega
      case rel=>exact⟨j+1,loc,Hc,later,A6,c6,A5,VK,rfl,by omega,hil,by go_num,rfl,WQ,VL,KO,FT,KW,HY,RX,wO,hlc⟩
     .have c:¬(loc x=max (loc x) v/\setAt hi a v x=setAt hi a v x):=λh=>by have:=h.1;omega
      rw[if_neg c,if_neg c,if_neg c,decide_eq_false c]at hst;have HST:=ah hst;have qB:=ah hmx;have YV:=ah VJ;have HGE:Hid (∀c,loc c<=setAt loc x v c):=λc=>by
       by_cases e:c=x
       .subst e;rw[fD];omega
       .rw[fG _ _ e];exact iY _
      have RX:=MH (setAt loc x v) HGE.out (by rw[fD];exact iY _);have ad_:Hid (∀y∈(later++[x]).take i,∀b,(y,b)∈P->v<=setAt loc x v b):=λy' hy' b hb=>by
       rw[List.take_append_of_le_length (by omega)]at hy';exact Int.le_trans (KW.out y' hy' b hb) (HGE.out b)
      have YX:Hid ((later++[x])[i]?=some y):=by show _=_;rw[kH hil];exact HY.out
      clear hst c hmx VJ MH hnb;go_wp2_with (first|(go_at_call 141;refine HST.out.mono ?_;rintro e W5 ⟨A5,VK,rfl,hs5,RY⟩;refine Hid.out ?_)|fail);refine ah ?_;rw[qB.out,kZ]at hs5;have WQ:=ah hs5;have VL:=ah (wX.out.trans RY);have KO:=ah (tH Ni.out RY (by unfold DT;decide));clear hs5 RY vF wX Ni HST q0 q1;have hw5:w.heap.size<=W5.heap.size:=VL.out.size;go_wp2_with (at_builtin;refine iV rfl _ _ 22 rfl 3 ii (.int .i64 0) 1 8 underlying22 hii hiz his hib rfl (by decide) w.heap.size _ _ _ rfl KO.out [.int .i64 x] _ rfl rfl (by intro u hu;simp only[eB]at hu;subst hu;rfl) rfl (by unfold maxLen;omega) (by omega) hw5 ?_;intro g7 c7 w7 hr7 hg7;refine Hid.out ?_);refine ah ?_;have EZ:Hid (aG (λk=>(Value.slice A6 later.length c6).ownBlock=some k) W5 w7):=((aG.refl _ W5).alloc _).trans (aG.jK hg7) (λ_ _ h=>h);have HS7:=ah (WQ.out.RS EZ.out (iO KO.out) (λu hu b hb hs=>by have h1:=Oa.out u hu b hb;have h2:=(KO.out.lt b hs).1;omega));have HM7:=ah (VL.out.new EZ.out (λk hk=>(KO.out.lt k hk).1));have hl7:(later++[x]).length=later.length+1:=by simp
      have HR7:Hid (w7.ownsRow w.heap.size 3 1 (.slice (some ⟨g7,0,none⟩) (later++[x]).length c7) (later++[x]).length (aZ (sK (later++[x])))):=by
       show World.ownsRow _ _ _ _ _ _ _;rw[hl7,KV,oN];exact hr7
      have YZ:=ah hl7;have aeb:Hid (pX (Hc++[(x,loc x,setAt hi a v x)]) (setAt loc x v)=lo/\pY (Hc++[(x,loc x,setAt hi a v x)]) (setAt hi a v)=hi/\∀c∈Hc++[(x,loc x,setAt hi a v x)],c.1<X.n):=by
       refine⟨?_,?_,?_⟩
       .rw[IV,vX];exact wO.out.1
       .rw[IW,kZ];exact wO.out.2.1
       .exactλc hc=>(jU.1 hc).elim (wO.out.2.2 c) (λh=>by rw[eB.1 h];exact hxn)
      rw[zX]at HS7;clear hr7 hg7 EZ WQ VL KO hl7;go_wp2
      go_roundg (R.length - (j+1))
      case measure=>rw[Qn.out];omega
      case rel=>exact⟨j+1,setAt loc x v,Hc++[(x,loc x,setAt hi a v x)],later++[x],_,c7,A5,VK,rfl,by omega,by rw[YZ.out];omega,by go_num,by rw[YZ.out],HS7,HM7,HR7,YV,ad_,YX,RX,aeb,by rw[YZ.out];simp;omega⟩
    .obtain rfl:j=R.length:=by omega
     have aec:Hid (∀y'∈later.take (i+1),∀b,(y',b)∈P->v<=loc b):=λy' hy' b hb=>by
      rw[bT HY.out]at hy';rcases jU.1 hy' with hy'|hy'
      .exact KW.out y' hy' b hb
      .rw[eB.1 hy']at hb
       exact HDJ.out b (by rw[iG];exact(Ql.out b).2 hb)
     clear Qn hlj HDJ KW;go_wp2
     go_roundg (X.n - (i+1))
     case measure=>rw[iw.out];omega
     case rel=>exact⟨i+1,loc,Hc,later,A6,c6,A',VI,rfl,by omega,by go_num,rfl,zV,Au,rT,FT,aec,wO,hlc⟩
  .obtain rfl:i=later.length:=by omega
   rw[iG]at KW;clear iw hlt;have ahq:=FT;clear FT;have aln:=KW;clear KW;have ahr:=ah (aa9 HB.out);go_upto_region 13 with(fail)
   obtain⟨lb,hlb⟩:∃lb,lb=wr.heap.size:=⟨_,rfl⟩;rw[<-hlb];generalize Dx:World.alloc _ _=Wb;have hbb:Below wr.heap.size wr Wb:=by rw[<-Dx];exact aJ (aC _ _) _
   have mW:Hid (Wb.ownsRow w.heap.size 3 1 (.slice (some ⟨lb,0,none⟩) [a].length 1) [a].length (aZ (sK [a]))):=by
    refine⟨rfl,.inr ⟨lb,1,#[.int .i64 a],rfl,?_,?_,bJ _,by unfold maxLen;omega,rfl,rfl⟩⟩
    .rw[hlb];exact Au.out.size
    .rw[<-Dx,hlb];exact bK wr _
   have HS2:=ah (zV.out.below hbb);have Bo:=ah (Au.out.trans (qE.of_below hbb));have alo:=wO;clear wO;clear Dx hbb hlb zV Au rT hi';go_wp2
   go_loopg [12,11] X.n (λgk v12 v11 wr=>∃(i:Nat)(hic:Nat->Int)(Hd:List (Nat×Int×Int))(earlier:List Nat)(A6:Option Addr)(c6:Nat)(A':Option Addr)(VI:Nat),gk=X.n - i/\i<=earlier.length/\v12= .int .i64 i/\v11= .slice A6 earlier.length c6/\Hid (aO wr X loc hic A' VI (H++Hd))/\Hid (qE X w wr)/\Hid (wr.ownsRow w.heap.size 3 1 (.slice A6 earlier.length c6) earlier.length (aZ (sK earlier)))/\Hid (Up X.n (λi=> - hi i) (λi=> - lo i) (P.map (λp=>(p.2,p.1))) a (-v) (λi=> - hic i) earlier)/\Hid (∀y∈earlier.take i,∀b,(y,b)∈P.map (λp=>(p.2,p.1))-> -v<= - hic b)/\Hid (pX Hd loc=lo/\pY Hd hic=hi/\∀c∈Hd,c.1<X.n)/\Hd.length<=Hc.length+earlier.length)
   case atStart=>exact⟨0,_,Hc,[a],_,1,A',VI,rfl,aU _,rfl,rfl,HS2,Bo,mW,ale,(λy hy=>by simp at hy),alo,Nat.le_add_right _ _⟩
   case round=>
    obtain⟨i,hic,Hd,earlier,A6,c6,A2,Y0,eO,hi',rfl,rfl,zV,Au,rT,FT,KW,wO,hlc⟩:=hrel;have iw:=ah eO;clear eO HS2 Bo mW;have hll:=FT.out.length;by_cases hlt:i<earlier.length
    .obtain⟨y,hy⟩:∃y,earlier[i]?=some y:=⟨_,aS hlt⟩
     have hyn:=FT.out.lt y (cK hy);have hgl:X.Lb[y]?=some (sK (nV (P.map (λp=>(p.2,p.1))) y)):=by rw[HLB.out];exact I5 hyn
     obtain⟨rA,rc,hva,hrw⟩:=zV.out.vB.get (aU y) hgl;have hRl:=IZ (P.map (λp=>(p.2,p.1))) y;have Ql:Hid (∀b,b∈nV (P.map (λp=>(p.2,p.1))) y↔(y,b)∈P.map (λp=>(p.2,p.1))):=λb=>IY;obtain⟨R,HR⟩:∃R,Hid (R=nV (P.map (λp=>(p.2,p.1))) y):=⟨_,rfl⟩;rw[<-HR.out]at hgl hva hrw hRl Ql;rw[Cw]at hva hrw;rw[dU]at hRl;obtain⟨g6,hA6,_,ZP,_,_,hc6⟩:=nT rT.out (by omega);subst hA6;have x6:∀z:Bl wr,z.val.cell? ⟨g6,i,none⟩=some (.int .i64 y):=λz=>(z.prop.cell (p:=⟨g6,i,none⟩) ZP).trans (hc6 i _ (ig (Cx hy)));have x2:∀z:Bl wr,z.val.cell? ⟨X.sb,1,none⟩=some (.slice (some ⟨X.rb,0,none⟩) X.n X.n):=λz=>(zV.out.below z.prop).box.cell rfl;have xr:∀z:Bl wr,z.val.cell? ⟨X.rb,y,none⟩=some (.slice rA R.length rc):=λz=>(zV.out.below z.prop).vB.own.cell hva;have i1:(i:Int)<(earlier.length:Int):=by omega
     have y1:(y:Int)<(X.n:Int):=by omega
     have HY:=ah hy;have HVA:=ah hva;clear hrw hc6 hy hva hgl;go_upto_region 16 with(fail)
     change Code.wp _ _ _ _ (Bl.val (⟨wr,aC _ _⟩:Bl wr));generalize(⟨wr,aC _ _⟩:Bl wr)=za;refine aI ?_;repeat(go_big_quiet_step (fail))
     refine aY ?_;rintro _ ⟨zb,rfl⟩;have HSD:=ah (zV.out.below zb.prop);have HMD:=ah (Au.out.trans (qE.of_below zb.prop));have ZG:=ah (dF rT.out zb.prop);have WE:Hid (earlier.take i=earlier.take i):=rfl;clear x6 x2 xr zV Au rT;generalize zb.val=Wd at HSD HMD ZG⊢;have hR4:R.length<=4000:=by omega
     go_wp2
     go_loopg [86,11] R.length (λgk v86 v11 wr=>∃(j:Nat)(hic:Nat->Int)(Hd:List (Nat×Int×Int))(earlier:List Nat)(A6:Option Addr)(c6:Nat)(A':Option Addr)(VI:Nat),gk=R.length - j/\j<=R.length/\i<earlier.length/\v86= .int .i64 j/\v11= .slice A6 earlier.length c6/\Hid (aO wr X loc hic A' VI (H++Hd))/\Hid (qE X w wr)/\Hid (wr.ownsRow w.heap.size 3 1 (.slice A6 earlier.length c6) earlier.length (aZ (sK earlier)))/\Hid (Up X.n (λi=> - hi i) (λi=> - lo i) (P.map (λp=>(p.2,p.1))) a (-v) (λi=> - hic i) earlier)/\Hid (∀y∈earlier.take i,∀b,(y,b)∈P.map (λp=>(p.2,p.1))-> -v<= - hic b)/\Hid (earlier[i]?=some y)/\Hid (∀b∈R.take j, -v<= - hic b)/\Hid (pX Hd loc=lo/\pY Hd hic=hi/\∀c∈Hd,c.1<X.n)/\Hd.length<=Hc.length+earlier.length)
     case atStart=>exact⟨0,hic,Hd,earlier,_,c6,A2,Y0,rfl,aU _,hlt,rfl,rfl,HSD,HMD,ZG,FT,KW,HY,(λb hb=>by simp at hb),wO,hlc⟩
     case round=>
      clear HSD HMD ZG FT KW HY wO hlc hll WE hyn i1;obtain⟨j,hic,Hd,earlier,A6,c6,A2,Y0,eO,hj,hil,rfl,rfl,zV,Au,rT,FT,KW,HY,HDJ,wO,hlc⟩:=hrel;have Qn:=ah eO;clear eO;have hll:=FT.out.length;by_cases hlj:j<R.length
      .obtain⟨x,hx⟩:∃x,R[j]?=some x:=⟨_,aS hlj⟩
       have hyx:=(Ql.out x).1 (cK hx);have hxn:=(ahr.out.inn _ hyx).2;simp only at hxn;have hstep:=FT.out.step ahr.out (cK HY.out) hyx;have HXJ:=ah hx;have hgl:X.Lb[y]?=some (sK R):=by rw[HLB.out,HR.out];exact I5 (FT.out.lt y (cK HY.out))
       have hrw:=zV.out.vB.row y _ _ (aU _) HVA.out hgl;rw[Cw]at hrw;obtain⟨g,hrA,_,hg,_,_,hcg⟩:=nT hrw (by omega);subst hrA;have x0:wr.cell? ⟨g,j,none⟩=some (.int .i64 x):=hcg j _ (ig (Cx hx));have x1:wr.cell? ⟨X.sb,0,none⟩=some (.slice (some ⟨X.bb,0,none⟩) X.n X.n):=zV.out.box.cell rfl;have x3:=zV.out.bnd.cell (dO _ _ hxn (j:=0) (by omega));have x4:=zV.out.bnd.cell (dO _ _ hxn (j:=1) (by omega));rw[kP]at x3;have j1:(j:Int)<(R.length:Int):=by omega
       have xn1:(x:Int)<(X.n:Int):=by omega
       clear hrw hcg hx hgl hyx;go_upto_region 20 with(fail)
       generalize Dx:World.alloc _ _=Wb;obtain⟨hbb,hxb⟩:=bx1' Dx;have q0:Wb.cell? ⟨wr.heap.size,0,none⟩=some (.int .i64 (loc x)):=(aK Wb _ 0 _ _ _ hxb).trans rfl;have q1:Wb.cell? ⟨wr.heap.size,1,none⟩=some (.int .i64 (hic x)):=(aK Wb _ 1 _ _ _ hxb).trans rfl;have vF:=ah (zV.out.below hbb);have wX:=ah (Au.out.trans (qE.of_below hbb));have Ni:=ah (dF rT.out hbb);have hst:=MG X loc hic A2 Y0 (H++Hd) x (loc x) (min (hic x) v) Wb vF.out hxn (by simp;omega);clear Dx hbb hxb x0 x1 x3 x4 zV Au rT;have MH:∀f:Nat->Int,(∀c,f c<=hic c)-> -v<= - f x->Hid (∀b∈R.take (j+1), -v<= - f b):=λf hf hv b hb=>by
        rw[bT HXJ.out]at hb;rcases jU.1 hb with hb|hb
        .have h3:=HDJ.out b hb;have h4:=hf b;omega
        .rw[eB.1 hb];exact hv
       rcases hstep with⟨hvx,hmx⟩|⟨hvx,hmx,hnb,VJ⟩
       .have c:loc x=loc x/\hic x=min (hic x) v:=⟨rfl,by omega⟩
        rw[if_pos c,if_pos c,if_pos c,decide_eq_true c]at hst;have HST:=ah hst;have RX:=MH hic (λ_=>iY _) hvx;clear hst c hmx MH;go_wp2_with (go_at_call 141;refine HST.out.mono ?_;rintro e W5 ⟨A5,VK,rfl,hs5,RY⟩;refine Hid.out ?_);refine ah ?_;have WQ:=ah hs5;have VL:=ah (wX.out.trans RY);have KO:=ah (tH Ni.out RY (by unfold DT;decide));clear hs5 RY vF wX Ni HST q0 q1;go_wp2
        go_roundg (R.length - (j+1))
        case measure=>rw[Qn.out];omega
        case rel=>exact⟨j+1,hic,Hd,earlier,A6,c6,A5,VK,rfl,by omega,hil,by go_num,rfl,WQ,VL,KO,FT,KW,HY,RX,wO,hlc⟩
       .have c:¬(loc x=loc x/\hic x=min (hic x) v):=λh=>by have:=h.2;omega
        rw[if_neg c,if_neg c,if_neg c,decide_eq_false c]at hst;have HST:=ah hst;have qB:Hid (min (hic x) v=v):=by show _=_;omega
        rw[VG]at VJ;have YV:=ah VJ;have HGE:Hid (∀c,setAt hic x v c<=hic c):=λc=>by
         by_cases e:c=x
         .subst e;rw[fD];omega
         .rw[fG _ _ e];exact iY _
        have RX:=MH (setAt hic x v) HGE.out (by rw[fD];exact iY _);have ad_:Hid (∀y∈(earlier++[x]).take i,∀b,(y,b)∈P.map (λp=>(p.2,p.1))-> -v<= - setAt hic x v b):=λy' hy' b hb=>by
         rw[List.take_append_of_le_length (by omega)]at hy';have h3:=KW.out y' hy' b hb;have h4:=HGE.out b;omega
        have YX:Hid ((earlier++[x])[i]?=some y):=by show _=_;rw[kH hil];exact HY.out
        clear hst c hmx VJ MH hnb;go_wp2_with (first|(go_at_call 141;refine HST.out.mono ?_;rintro e W5 ⟨A5,VK,rfl,hs5,RY⟩;refine Hid.out ?_)|fail);refine ah ?_;rw[qB.out,kZ]at hs5;have WQ:=ah hs5;have VL:=ah (wX.out.trans RY);have KO:=ah (tH Ni.out RY (by unfold DT;decide));clear hs5 RY vF wX Ni HST q0 q1;have hw5:w.heap.size<=W5.heap.size:=VL.out.size;go_wp2_with (at_builtin;refine iV rfl _ _ 22 rfl 3 ii (.int .i64 0) 1 8 underlying22 hii hiz his hib rfl (by decide) w.heap.size _ _ _ rfl KO.out [.int .i64 x] _ rfl rfl (by intro u hu;simp only[eB]at hu;subst hu;rfl) rfl (by unfold maxLen;omega) (by omega) hw5 ?_;intro g7 c7 w7 hr7 hg7;refine Hid.out ?_);refine ah ?_;have EZ:Hid (aG (λk=>(Value.slice A6 earlier.length c6).ownBlock=some k) W5 w7):=((aG.refl _ W5).alloc _).trans (aG.jK hg7) (λ_ _ h=>h);have HS7:=ah (WQ.out.RS EZ.out (iO KO.out) (λu hu b hb hs=>by have h1:=Oa.out u hu b hb;have h2:=(KO.out.lt b hs).1;omega));have HM7:=ah (VL.out.new EZ.out (λk hk=>(KO.out.lt k hk).1));have hl7:(earlier++[x]).length=earlier.length+1:=by simp
        have HR7:Hid (w7.ownsRow w.heap.size 3 1 (.slice (some ⟨g7,0,none⟩) (earlier++[x]).length c7) (earlier++[x]).length (aZ (sK (earlier++[x])))):=by
         show World.ownsRow _ _ _ _ _ _ _;rw[hl7,KV,oN];exact hr7
        have YZ:=ah hl7;have aeb:Hid (pX (Hd++[(x,loc x,hic x)]) loc=lo/\pY (Hd++[(x,loc x,hic x)]) (setAt hic x v)=hi/\∀c∈Hd++[(x,loc x,hic x)],c.1<X.n):=by
         refine⟨?_,?_,?_⟩
         .rw[IV,kZ];exact wO.out.1
         .rw[IW,vX];exact wO.out.2.1
         .exactλc hc=>(jU.1 hc).elim (wO.out.2.2 c) (λh=>by rw[eB.1 h];exact hxn)
        rw[zX]at HS7;clear hr7 hg7 EZ WQ VL KO hl7;go_wp2
        go_roundg (R.length - (j+1))
        case measure=>rw[Qn.out];omega
        case rel=>exact⟨j+1,setAt hic x v,Hd++[(x,loc x,hic x)],earlier++[x],_,c7,A5,VK,rfl,by omega,by rw[YZ.out];omega,by go_num,by rw[YZ.out],HS7,HM7,HR7,YV,ad_,YX,RX,aeb,by rw[YZ.out];simp;omega⟩
      .obtain rfl:j=R.length:=by omega
       have aec:Hid (∀y'∈earlier.take (i+1),∀b,(y',b)∈P.map (λp=>(p.2,p.1))-> -v<= - hic b):=λy' hy' b hb=>by
        rw[bT HY.out]at hy';rcases jU.1 hy' with hy'|hy'
        .exact KW.out y' hy' b hb
        .rw[eB.1 hy']at hb
         exact HDJ.out b (by rw[iG];exact(Ql.out b).2 hb)
       clear Qn hlj HDJ KW;go_wp2
       go_roundg (X.n - (i+1))
       case measure=>rw[iw.out];omega
       case rel=>exact⟨i+1,hic,Hd,earlier,A6,c6,A2,Y0,rfl,by omega,by go_num,rfl,zV,Au,rT,FT,aec,wO,hlc⟩
    .obtain rfl:i=earlier.length:=by omega
     rw[iG]at KW;clear iw hlt;have hlf:=ahq.out.length;go_wp2;refine bodyPost_ret (v:=.tuple #[]) (by simp[results,results102,go_sem]) rfl ⟨loc,hic,A2,Y0,Hd,rfl,zV.out,Au.out,by omega,wO.out.1,wO.out.2.1,wO.out.2.2,⟨later,ahq.out,aln.out⟩,earlier,FT.out,KW.out⟩
end Go.Proofs.YtpmdedcnbockhaaGreatDoor
