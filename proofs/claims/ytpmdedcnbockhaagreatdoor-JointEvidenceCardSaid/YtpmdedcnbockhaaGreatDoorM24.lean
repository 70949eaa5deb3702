/-
  CtA; CtB; CtC; CtD; CtE; CtF
-/
import Derived.Deep.AppendLies
import Derived.Sort.OwnSortedInts
import Derived.Test.YtpmdedcnbockhaaGreatDoorM23
set_option maxRecDepth 100000
set_option maxHeartbeats 8000000
namespace Go.Proofs.YtpmdedcnbockhaaGreatDoor
section
open Go.RowKit Go.Shelf
theorem Pb(l:List Int):(aY l).length=l.length:=dS _
theorem oP(l:List Int)(x:Int):aY (l++[x])=aY l++[.int .i64 x]:=by simp[aY]
theorem zO(l:List Int):∀u∈aY l,u.oneCell'=true:=by
 intro u hu;obtain⟨x,_,rfl⟩:=dF.1 hu;rfl
theorem fI{l:List Int}{i:Nat}{x:Int}(h:l[i]?=some x):(aY l)[i]?=some (.int .i64 x):=by simp[aY,h]
section
variable {w w':World} {B:Nat} {e:TypeId} {size n:Nat} {v:Value} {xs:List Value}
theorem bZ{S:Nat->Prop}(h:w.ownsRow B e size v n xs)(hu:aH S w w')(hS:∀k,v.ownBlock=some k->¬S k):w'.ownsRow B e size v n xs:=by
 refine⟨h.1,?_⟩;rcases h.2 with h0|⟨g,cap,cur,rfl,hB,hg,r⟩
 .exact .inl h0
 .exact .inr ⟨g,cap,cur,rfl,hB,hu.keep hg (hS g rfl),r⟩
theorem Cz{B':Nat}(h:w.ownsRow B e size v n xs)(hb:∀g,v.ownBlock=some g->B'<=g):w.ownsRow B' e size v n xs:=by
 refine⟨h.1,?_⟩;rcases h.2 with h0|⟨g,cap,cur,rfl,hB,hg,r⟩
 .exact .inl h0
 .exact .inr ⟨g,cap,cur,rfl,hb g rfl,hg,r⟩
theorem nW{A:Option Addr}{c:Nat}(h:w.ownsRow B e size (.slice A n c) n xs)(hn:0<n):∃g,A=some ⟨g,0,none⟩/\B<=g/\g<w.heap.size/\n<=c/\c<=maxLen/\∀i u,xs[i]?=some u->w.cell? ⟨g,i,none⟩=some u:=by
 rcases sJ h with⟨h0,_⟩|⟨g,rfl,hB,ho⟩
 .omega
 .rcases h.2 with⟨_,h0⟩|⟨g',cap,cur,hv,_,_,h2,h3,_⟩
  .omega
  .simp only[Value.slice.injEq,true_and]at hv
   obtain⟨_,rfl⟩:=hv;exact⟨g,rfl,hB,ho.lt,h2,h3,λi u hi=>ho.cell hi⟩
end
theorem yY{F:Fence}{nf:Nat}{P:Program}{w:World}{ops:Array Oper}{rest:List Oper}{o:Oper}{a:Act}{Q:Exit->Act->World->Prop}
 (hg:o.guard=none)(s x:Operand)(t:TypeId)(hop:o.op=Op.call {callee:=Callee.builtin Builtin.append,args:=#[s,x],argTypes:=#[t,t]})
 (base:Nat)(e:TypeId)(i:TypeInfo)(z:Value)(size bytes:Nat)(ht:P.underlying t=some (.slice e))(hi:P.info? e=some i)(hz:i.zero=some z)(hsize:i.size=size)(hby:i.bytes=bytes)(hzs:z.cells.size=size)(hsz:0<size)
 (v:Value)(n:Nat)(xs:List Value)(hs:a.eval s=v)(hown:w.ownsRow base e size v n xs)(bx:Nat)(cs:Array Value)(tx:TypeId)(fr:Nat×Nat)(hx:a.eval x= .slice (some ⟨bx,0,none⟩) 1 1)(hbx:w.heap[bx]?=some (.cells cs tx fr))(hl:cs.size=size)(h1:∀u∈cs.toList,u.oneCell'=true)
 (h63:n+1<=maxLen)(jM:(n+1)*bytes<=140737488355328)(hbase:base<=w.heap.size)
 (hK:∀g cap w',w'.ownsRow base e size (.slice (some ⟨g,0,none⟩) (n+1) cap) (n+1) (xs++cs.toList)->w.grownBy w' v.ownBlock->(v.ownBlock=some g\/g=w.heap.size)->wpListIn F nf P ops Q rest (a.put o.dst (.slice (some ⟨g,0,none⟩) (n+1) cap)) w'):
 wpListIn F nf P ops Q (o::rest) a w:=by
 refine wpListIn_plain hg λK hK'=>?_;obtain⟨g,cap,w',hrun,r1,r2,r3,_⟩:=run_append_lies (P:=P) w t o.type base e i z size bytes ht hi hz hsize hby hzs hsz v n xs hown ⟨bx,0,none⟩ 1 1 cs.toList (by simp[hl]) (World.news_of_block hbx) h1 (by omega) h63 jM hbase _ rfl;unfold Oper.wpIn;refine⟨?_,?_⟩
 .simp[Oper.about,hop,resolve,Target.leads,Sem.run_pure]
 .rw[Oper.semAt_plain F _ _ (by rw[hop];intro c hc';cases hc')]
  simp[execOp,hop,resolve,invoke,builtin,hs,hx,hrun,Result.andThen];exact hK' _ _ (hK g cap w' r1 r2 r3)
def Pf(W0:World)(e:TypeId)(cs:Array Value):bK:=
 ⟨λv=>∃b,W0.heap.size<=b/\v= .slice (some ⟨b,0,none⟩) 1 1,λv z=>∀b,v= .slice (some ⟨b,0,none⟩) 1 1->z.heap[b]?=some (.cells cs e (0,0))⟩
theorem Ir(W0:World)(e:TypeId)(cs:Array Value):(Pf W0 e cs).Keeps:=λv z z' h hb b hv=>by
 have h1:=h b hv;rw[hb.block b (aF h1)];exact h1
structure cZ(w:World)(B rb:Nat)(vs:List Value)(L:List (List Int))(k:Nat):Prop where
 own:Own w 22 rb vs
 len:vs.length=L.length
 row:∀(i:Nat) v l,k<=i->vs[i]?=some v->L[i]?=some l->w.ownsRow B 3 1 v l.length (aY l)
 sep:∀(i j:Nat) v v' b,i≠j->vs[i]?=some v->vs[j]?=some v'->v.ownBlock=some b->v'.ownBlock≠some b
 low:∀v∈vs,∀b,v.ownBlock=some b->B<=b/\b<w.heap.size/\b≠rb
section
variable {w w':World} {B rb k:Nat} {vs:List Value} {L:List (List Int)}
theorem cZ.below(h:cZ w B rb vs L k)(hb:Below w.heap.size w w'):cZ w' B rb vs L k:=
 ⟨h.own.below hb,h.len,λi v l hk hv hl=>dx (h.row i v l hk hv hl) hb,h.sep,λv hv b hb'=>⟨(h.low v hv b hb').1,uZ (h.low v hv b hb').2.1 hb.size,(h.low v hv b hb').2.2⟩⟩
theorem cZ.upd{S:Nat->Prop}(h:cZ w B rb vs L k)(hu:aH S w w')(hr:¬S rb)(hS:∀v∈vs,∀b,v.ownBlock=some b->¬S b):cZ w' B rb vs L k:=
 ⟨h.own.keep hu hr,h.len,λi v l hk hv hl=>bZ (h.row i v l hk hv hl) hu (hS v (bT hv)),h.sep,λv hv b hb'=>⟨(h.low v hv b hb').1,uZ (h.low v hv b hb').2.1 hu.size,(h.low v hv b hb').2.2⟩⟩
theorem cZ.get(h:cZ w B rb vs L k){i:Nat}{l:List Int}(hk:k<=i)(hl:L[i]?=some l):∃A c,vs[i]?=some (.slice A l.length c)/\w.ownsRow B 3 1 (.slice A l.length c) l.length (aY l):=by
 have hi:i<vs.length:=by rw[h.len];exact(bC.1 hl).1
 have hv:=aW hi;have hr:=h.row i _ l hk hv hl;obtain⟨A,c,e⟩:=ownsRow_form hr;rw[e]at hv hr;exact⟨A,c,hv,hr⟩
theorem cZ.turned(h:cZ w B rb vs L k){i:Nat}{v v':Value}{l':List Int}{S:Nat->Prop}{W:World}(hv:vs[i]?=some v)(hu:aH S w W)(hS:∀b,S b->v.ownBlock=some b\/w.heap.size<=b)(hrow:W.ownsRow B 3 1 v' l'.length (aY l'))(uS:v'.ownBlock=v.ownBlock\/∀b,v'.ownBlock=some b->w.heap.size<=b):
 cZ (W.setCell ⟨rb,i,none⟩ v') B rb (vs.set i v') (L.set i l') k:=by
 have hi:i<vs.length:=(bC.1 hv).1;have hrb:=h.own.lt;have hl0:=h.low v (bT hv);have hnr:¬S rb:=λhs=>by
  rcases hS rb hs with e|e
  .exact(hl0 rb e).2.2 rfl
  .omega
 have hown:=h.own.keep hu hnr;have hu2:aH (λb=>b=rb) W (W.setCell ⟨rb,i,none⟩ v'):=(aH.refl (λb=>b=rb) W).setCell (p:=⟨rb,i,none⟩) (.inl rfl) v';have hnew:∀b,v'.ownBlock=some b->B<=b/\b<W.heap.size/\b≠rb:=λb hb=>by
  have h1:=hrow.lt b hb;refine⟨h1.1,h1.2,?_⟩;rintro rfl;rcases uS with e|e
  .rw[e]at hb
   exact(hl0 _ hb).2.2 rfl
  .have:=e _ hb;omega
 have hother:∀(j:Nat) v2,j≠i->vs[j]?=some v2->∀b,v2.ownBlock=some b->¬S b/\v'.ownBlock≠some b:=λj v2 hj hv2 b hb=>by
  have hlt:=(h.low v2 (bT hv2) b hb).2.1;refine⟨λhs=>?_,λe2=>?_⟩
  .rcases hS b hs with e|e
   .exact h.sep i j v v2 b (λe=>hj e.symm) hv hv2 e hb
   .omega
  .rcases uS with e|e
   .rw[e]at e2
    exact h.sep i j v v2 b (λe=>hj e.symm) hv hv2 e2 hb
   .have:=e b e2;omega
 refine⟨hown.set hi _,by simp[h.len],λj v2 l2 hk hv2 hl2=>?_,λj j2 v2 v3 b hne h2 h3 hb=>?_,λv2 hv2 b hb=>?_⟩
 .rw[j4]at hv2 hl2
  by_cases e:i=j
  .subst e
   rw[if_pos rfl,if_pos hi]at hv2;rw[if_pos rfl,if_pos (by rw[<-h.len];exact hi)]at hl2;cases hv2
   cases hl2
   exact bZ hrow hu2 (λb hb=>(hnew b hb).2.2)
  .rw[if_neg e]at hv2 hl2
   have hr:=h.row j v2 l2 hk hv2 hl2;refine bZ (bZ hr hu (λb hb=>(hother j v2 (λe2=>e e2.symm) hv2 b hb).1)) hu2 (λb hb=>(h.low v2 (bT hv2) b hb).2.2)
 .rw[j4]at h2 h3
  by_cases e:i=j
  .subst e
   rw[if_pos rfl,if_pos hi]at h2;rw[if_neg hne]at h3;cases h2
   exactλe2=>(hother j2 v3 (λe3=>hne e3.symm) h3 b e2).2 hb
  .rw[if_neg e]at h2
   by_cases e2:i=j2
   .subst e2
    rw[if_pos rfl,if_pos hi]at h3;cases h3
    exact(hother j v2 hne h2 b hb).2
   .rw[if_neg e2]at h3
    exact h.sep j j2 v2 v3 b hne h2 h3 hb
 .rw[World.size_setCell]
  rcases List.mem_or_eq_of_mem_set hv2 with h2|rfl
  .have h3:=h.low v2 h2 b hb
   exact⟨h3.1,uZ h3.2.1 hu.size,h3.2.2⟩
  .exact hnew b hb
theorem cZ.changed(h:cZ w B rb vs L k){S:Nat->Prop}{W:World}{v:Value}(hv:vs[k]?=some v)(hu:aH S w W)(hS:∀b,S b->v.ownBlock=some b):cZ W B rb vs L (k+1):=by
 have hl0:=h.low v (bT hv);refine⟨h.own.keep hu (λhs=>(hl0 rb (hS rb hs)).2.2 rfl),h.len,λi v2 l hk hv2 hl=>bZ (h.row i v2 l (by omega) hv2 hl) hu (λb hb hs=>h.sep k i v v2 b (by omega) hv hv2 (hS b hs) hb),h.sep,λv2 hv2 b hb'=>?_⟩;have h3:=h.low v2 hv2 b hb';exact⟨h3.1,uZ h3.2.1 hu.size,h3.2.2⟩
theorem cZ.made{n:Nat}(h:Own w 22 rb (List.replicate n (.slice none 0 0))):cZ w B rb (List.replicate n (.slice none 0 0)) (List.replicate n []) 0:=by
 refine⟨h,by simp,λi v l _ hv hl=>?_,λi j v v' b _ hv _ hb=>?_,λv hv b hb=>?_⟩
 .rw[BK]at hv hl
  split at hv
  .rename_i hi
   rw[if_pos hi]at hl;cases hv
   cases hl
   exact World.ownsRow_nil _ _ _ _
  .cases hv
 .rw[BK]at hv
  split at hv
  .cases hv;cases hb
  .cases hv
 .rw[List.eq_of_mem_replicate hv]at hb
  cases hb
end
theorem KX(n:Nat):(madeCells (Value.cells (.slice none 0 0)) (n*1)).toList=List.replicate n (.slice none 0 0):=by
 apply kM;intro j;rcases iO j n with h|h
 .simp[madeCells,Value.cells,h,Nat.mod_one]
 .simp[madeCells,Value.cells,h]
theorem Pg{B:Nat}{A:Option Addr}{c:Nat}{l:List Int}(w:World)(h:w.ownsRow B 3 1 (.slice A l.length c) l.length (aY l))(hl:l.length<=1000000):
 Calls Tryz.prog 40 #[.slice A l.length c] w (λe w'=>e= .returned (.tuple #[])/\w'.ownsRow B 3 1 (.slice A l.length c) l.length (aY (l.mergeSort (λx y=>decide (x<=y))))/\aH (λb=>(Value.slice A l.length c).ownBlock=some b) w w'):=by
 have hlen:(l.mergeSort (λx y=>decide (x<=y))).length=l.length:=(List.mergeSort_perm l _).length_eq;rcases h.2 with⟨hv,h0⟩|⟨g,cap,cur,hv,hB,hg,h2,h3,h4,h5⟩
 .simp only[Value.slice.injEq]at hv
  obtain⟨rfl,h0',rfl⟩:=hv;obtain rfl:=BJ h0;refine(AnyM.slices_Sort_int_none Tryz.sortItI none 0 w).mono ?_;rintro e w' ⟨rfl,rfl⟩;exact⟨rfl,by simpa using h,aH.refl _ _⟩
 .simp only[Value.slice.injEq,true_and]at hv
  obtain⟨rfl,rfl⟩:=hv;rw[Nat.mul_one]at h5 h4;refine(AnyM.slices_Sort_int Tryz.sortItI g 0 c l w (holds_of_blockI hg h5) (aF hg) (by omega)).mono ?_;rintro e w' ⟨rfl,n,os,rfl⟩;refine⟨rfl,?_,aH.jG (grownBy_sortedI _)⟩;exact ownsRow_sortedI (cur:=cur) hlen hB hg h2 h3 (by rw[h4,Nat.mul_one])
end
section
open Go.RowKit Go.Shelf
def xL(F:List au)(r:Int):Option Value:=(F.find? (λx=>x.ref==r)).map (λx=>Value.int .i64 x.act)
theorem Vw{F:List au}{x:au}(h:xL F x.ref=none)(r:Int):(if r=x.ref then some (Value.int .i64 x.act)else xL F r)=xL (F++[x]) r:=by
 unfold xL at*;rw[List.find?_append];by_cases e:r=x.ref
 .subst e
  rw[if_pos rfl];simp only[Option.map_eq_none_iff]at h;rw[h];simp
 .rw[if_neg e]
  have:List.find? (λy:au=>y.ref==r) [x]=none:=by simp[show(x.ref==r)=false by simp;exactλh2=>e h2.symm]
  rw[this,Option.or_none]
theorem DX{F:List au}{r:Int}:xL F r=none↔r∉F.map (·.ref):=by
 unfold xL;simp only[Option.map_eq_none_iff,List.find?_eq_none,dF];simp
theorem ME{F:List au}{x:au}(h:dW F)(hx:xL F x.ref=none):dW (F++[x]):=by
 unfold dW at*;rw[DX]at hx;rw[tK,List.nodup_append];exact⟨h,by simp,λa ha b hb e=>by simp at hb;rw[e,hb]at ha;exact hx ha⟩
theorem Ph{F:List au}{k:Nat}{x:au}{v:Value}(hx:F[k]?=some x)(hv:xL (F.take k) x.ref=some v):¬dW F:=λh=>by
 have h1:x.ref∈(F.take k).map (·.ref):=by
  apply Classical.byContradiction;intro h2;rw[<-DX,hv]at h2;cases h2
 obtain⟨y,hy,e⟩:=dF.1 h1;obtain⟨i,hi⟩:=j3.1 hy;rw[lU]at hi;split at hi
 .rename_i hik
  obtain⟨a1,rfl⟩:=bC.1 hi;obtain⟨a2,rfl⟩:=bC.1 hx;have h3:=Eh.1 h i k (by simpa using a1) (by simpa using a2) hik;simp at h3;exact h3 e
 .cases hi
def jW(F:List au)(D:List Int)(n k:Nat):List (List Int):=(List.range n).map (λd:Nat=>eX (F.take k) (D.take k) (d:Int))
theorem Pj(F:List au)(D:List Int)(n:Nat):jW F D n 0=List.replicate n []:=by
 apply kM;intro i;simp[jW,eX,BK];by_cases h:i<n<;>simp[h]
theorem yZ{F:List au}{D:List Int}(hl:F.length=D.length)(x:au)(e d:Int):eX (F++[x]) (D++[e]) d=eX F D d++if e=d then[x.ref]else[]:=by
 unfold eX;rw[List.zip_append hl,List.filter_append,tK];congr 1;by_cases h:e=d<;>simp[h]
theorem Pk{F:List au}{D:List Int}{n k:Nat}(hl:F.length=D.length){x:au}{e:Int}(hx:F[k]?=some x)(he:D[k]?=some e)(h:¬(0<=e/\e<n)):jW F D n (k+1)=jW F D n k:=by
 unfold jW;refine List.map_congr_left λd hd=>?_;rw[bS hx,bS he,yZ (by simp[hl]),if_neg (by have:=List.mem_range.1 hd;omega),bV]
theorem RQ{F:List au}{D:List Int}{n k:Nat}(hl:F.length=D.length){x:au}{d:Nat}(hx:F[k]?=some x)(he:D[k]?=some (d:Int))(h:d<n):jW F D n (k+1)=(jW F D n k).set d (eX (F.take k) (D.take k) d++[x.ref]):=by
 apply kM;intro i;unfold jW;rw[j4];simp only[fM,dS,List.length_range];rw[bS hx,bS he];by_cases e:d=i
 .subst e
  rw[if_pos rfl,if_pos h,Ab h,kG,yZ (by simp[hl]),if_pos rfl]
 .rw[if_neg e]
  cases hr:(List.range n)[i]? with
  |none=>rfl
  |some j=>
   have hj:j=i:=by
    obtain⟨a,b⟩:=bC.1 hr;simp at b;exact b.symm
   rw[kG,kG,yZ (by simp[hl]),if_neg (by omega),bV]
theorem RS{F:List au}{D:List Int}{n k d:Nat}(h:d<n):(jW F D n k)[d]?=some (eX (F.take k) (D.take k) d):=by
 unfold jW;rw[fM,Ab h,kG]
theorem Iu(F:List au)(D:List Int)(d:Int):(eX F D d).length<=F.length:=by
 unfold eX;rw[dS];refine bL (List.length_filter_le _ _) ?_;rw[List.length_zip];omega
theorem MF{l:List Int}(h:l.Nodup):l.mergeSort (λx y=>decide (x<=y))=kI l:=by
 have hp:=List.mergeSort_perm l (λx y:Int=>decide (x<=y));refine Ew ?_ (wD l) (λx=>hp.mem_iff.trans (mY l x).symm);have h1:=List.pairwise_mergeSort (le:=λx y:Int=>decide (x<=y)) (λa b c h h'=>by simp only[decide_eq_true_eq]at*;omega) (λa b=>by simp only[rR,decide_eq_true_eq];omega) l;have h2:(l.mergeSort (λx y=>decide (x<=y))).Nodup:=hp.nodup_iff.2 h;exact List.Pairwise.imp₂ (λa b h3 h4=>by simp only[decide_eq_true_eq]at h3;omega) h1 h2
theorem aay{F:List au}{r:Int}(h:r∈F.map (·.ref)):xL F r=some (.int .i64 (iD F r)):=by
 cases e:xL F r with
 |none=>exact absurd h (DX.1 e)
 |some v=>
  unfold xL at e;unfold iD;cases e2:F.find? (λx=>x.ref==r)with
  |none=>rw[e2]at e;cases e
  |some x=>
   rw[e2]at e;simp only[kG,Option.some.injEq]at e;rw[<-e];rfl
theorem CF{F:List au}{D:List Int}(hl:F.length=D.length)(h:dW F)(n:Nat):(blocks F D n).length<=F.length+n:=by
 rw[JV hl h,hl];have:=List.countP_le_length (p:=λe=>decide (0<=e)&&decide (e<(n:Int))) (l:=D);omega
def aaz(l:List Int)(w:World)(e:Ending)(w':World):Prop:=
 ∃(A:Option Addr)(c:Nat),e= .returned (.slice A l.length c)/\w'.ownsRow w.heap.size 3 1 (.slice A l.length c) l.length (aY l)/\Below w.heap.size w w'
attribute [local go_sem] jJ stillUpon bH
theorem KY(fA:Option Addr)(fc:Nat)(dA:Option Addr)(dc:Nat)(F:List au)(D:List Int)(u:Int)(w:World)(hF:At w 6 fA F.length fc (bE F))(hD:At w 1 dA D.length dc (aY D))(hR:∀x∈F,fD x.ref)(hn:F.length<=4000):
 Calls Tryz.prog 16 #[.slice fA F.length fc,.slice dA D.length dc,.int .i64 u] w (aaz (bW F D u) w):=by
 have HF:=ah hF;clear hF;have HD:=ah hD;clear hD;have HR:=ah hR;clear hR;obtain⟨T,HT⟩:∃T,Hid (T=bW F D u):=⟨_,rfl⟩;rw[<-HT.out];by_cases h1:F.length=D.length
 .by_cases h2:0<=u
  .by_cases h3:u<=2000
   .obtain⟨n,rfl⟩:∃n:Nat,u=n:=⟨u.toNat,by omega⟩
    have hn2:n<=2000:=by omega
    have q1:((F.length:Int)!=(D.length:Int))=false:=by simp[h1]
    have q2:((n:Int)<0)=False:=by simp
    have q3:((2000:Int)<n)=False:=by simp;omega
    have TY:=ah h1;clear h1 h2 h3;have hmm:=@run_makeMap Tryz.prog;go_enter Tryz.func16,Tryz.ntmps16;obtain⟨ip,hip,hpz,hps,hpb⟩:=info_parts' (P:=Tryz.prog) (t:=22) (z:=some (.slice none 0 0)) (s:=1) (b:=24) (by kernel_rfl);obtain⟨ii,hii,hiz,his,hib⟩:=info_parts' (P:=Tryz.prog) (t:=3) (z:=some (.int .i64 0)) (s:=1) (b:=8) (by kernel_rfl);have hmk:=λw:World=>run_makeSlice (P:=Tryz.prog) (w:=w) 84 22 ip _ Tryz.underlying84 hip hpz .i64 .i64 (n:Int) (n:Int) (by omega) (by omega) (by rw[hps];simp;omega) (by rw[hpb];omega) (by omega);simp only[xg,hps]at hmk;go_upto_region 4 with(fail)
    have hM:eF fD 3 encI (w.alloc (.map #[] 0)) w.heap.size 0 (λ_=>none):=eF.made w;have hsz1:(w.alloc (.map #[] 0)).heap.size=w.heap.size+1:=bg _ _;generalize hW1:w.alloc (.map #[] 0)=W1 at hM hsz1⊢;have hb1:Below w.heap.size w W1:=by rw[<-hW1];exact aN (aC _ _) _
    clear hW1;have hx:=hmk W1;clear hmk;go_upto_region 5 with(fail)
    generalize DL:World.alloc _ _=Wb;have hbb:Below W1.heap.size W1 Wb:=by rw[<-DL];exact aN (aC _ _) _
    have hOW:Own Wb 22 (w.heap.size+1) (List.replicate n (.slice none 0 0)):=by
     refine⟨[],?_⟩;rw[bV,<-KX,Array.toArray_toList,<-DL,<-hsz1,Nat.mul_one];exact bQ W1 _
    have HR0:Hid (cZ (Bl.val (⟨Wb,ay hb1 hbb⟩:Bl w)) (w.heap.size+2) (w.heap.size+1) (List.replicate n (.slice none 0 0)) (jW F D n 0) 0):=by
     show cZ _ _ _ _ _ _;rw[Pj];exact cZ.made hOW
    have Yp:Hid (eF fD 3 encI (Bl.val (⟨Wb,ay hb1 hbb⟩:Bl w)) w.heap.size 0 (xL (F.take 0))):=hM.below hM.lt hbb;change Code.wp _ _ _ _ (Bl.val (⟨Wb,ay hb1 hbb⟩:Bl w));generalize(⟨Wb,ay hb1 hbb⟩:Bl w)=s0 at HR0 Yp⊢;clear hOW hbb DL hx hM hb1 hsz1 hip hpz hps hpb ip W1;go_wp2
    go_loopg [37] F.length (λgk v37 wr=>∃(k nn:Nat)(z:Bl w)(vs:List Value),gk=F.length - k/\k<=F.length/\v37= .int .i64 k/\wr=z.val/\nn<=k/\Hid (eF fD 3 encI z.val w.heap.size nn (xL (F.take k)))/\Hid (cZ z.val (w.heap.size+2) (w.heap.size+1) vs (jW F D n k) 0)/\Hid (dW (F.take k)))
    case atStart=>
     have ake:Hid (dW (F.take 0)):=by show dW _;simp[dW]
     exact⟨0,0,s0,_,rfl,aZ _,rfl,rfl,bJ _,Yp,HR0,ake⟩
    case round=>
     obtain⟨k,nn,z,vs,eZ,hk,rfl,rfl,hnn,HM,HRW,Qo⟩:=hrel;have iL:=ah eZ;clear eZ Yp HR0;by_cases hlt:k<F.length
     .obtain⟨fb,fo,jB,hfb,hcell⟩:=HF.out.fact (by omega)
      subst jB;obtain⟨⟨re,ac,lo,hi,fi,se⟩,hx⟩:∃x,F[k]?=some x:=⟨F[k],aW hlt⟩;obtain⟨e0,e1,e2,e3,e4,e5⟩:=UR (λz hz=>hcell k _ hx z hz) rfl;have hre:fD re:=HR.out _ (bT hx);have hfd:=TY.out;obtain⟨db,agG,hDA,hdb,hdc⟩:=HD.out.1.form (by omega) (by omega);subst hDA;obtain⟨d,hd⟩:∃d,D[k]?=some d:=⟨D[k]'(by omega),aW (by omega)⟩;have ed:∀z:Bl w,z.val.cell? ⟨db,agG+k,none⟩=some (.int .i64 d):=λz=>by
       rw[z.prop.cell (p:=⟨db,agG+k,none⟩) hdb,hdc k (by omega)];exact fI hd
      have HX:=ah hx;clear hx hcell;have HDX:=ah hd;clear hd hdc;have j1:(k:Int)<(F.length:Int):=by omega
      have j2:(k:Int)<(D.length:Int):=by omega
      clear hfd;go_upto_region 8 with(fail)
      generalize hWa:World.alloc _ _=Wa;obtain⟨hba,hxa⟩:=bx1' hWa;clear hWa;have ql:Hid (Below w.heap.size w Wa):=ay z.prop hba;obtain⟨d0,d1,d2,d3,d4,d5⟩:=kc6 hxa;have HXA:Hid (Own Wa 56 z.val.heap.size [.int .i64 re,.int .i64 ac,.int .i64 lo,.int .i64 hi,.int .i64 fi,.bool se]):=⟨[],by rw[bV];exact hxa⟩;clear e0 e1 e2 e3 e4 e5;have hma:=HM.out.below HM.out.lt hba;have Vx:=ah (HRW.out.below hba);have lk:=eF.LV B_ Tryz.underlying90 hma (Tg Wa) hre (Dp hre);have q0:=d0 ⟨Wa,aC _ _⟩;have q1':=d1 ⟨Wa,aC _ _⟩;have HB0:=ah d0;clear d0 d1 d2 d3 d4 d5;simp only at q0 q1';cases hav:xL (F.take k) re with
      |some v=>
       rw[hav]at lk;simp only[Option.getD_some,Option.isSome_some]at lk;have hT:T=[]:=by
        rw[HT.out];unfold bW;rw[if_neg (λh=>Ph HX.out hav h.2.2.2)]
       subst hT;clear hav hma HM HRW Vx Qo HB0 HXA q1';go_wp2;go_ret;exact⟨none,0,rfl,World.ownsRow_nil _ _ _ _,ql.out⟩
      |none=>
       obtain⟨w2,hrun,hm2,htr⟩:=eF.put su B_ Tryz.underlying90 hma (by unfold maxLen;omega) hre (Dp hre) (.int .i64 ac);rw[hav]at lk;simp only[Option.getD_none,Option.isSome_none]at lk;go_upto_region 12 with(fail)
       have HAV:Hid (dW (F.take (k+1))):=by show dW _;rw[bS HX.out];exact ME Qo.out hav
       have BF:Hid (eF fD 3 encI w2 w.heap.size (if((xL (F.take k)) re).isSome then nn else nn+1) (xL (F.take (k+1)))):=by
        show eF _ _ _ _ _ _ _;rw[bS HX.out];exact hm2.congr (λr=>Vw (x:=(⟨re,ac,lo,hi,fi,se⟩:au)) hav r)
       obtain⟨nn',adz⟩:∃nn',nn'=(if((xL (F.take k)) re).isSome then nn else nn+1):=⟨_,rfl⟩;rw[<-adz]at BF;have adA:nn'<=k+1:=by rw[adz];split<;>omega
       clear adz hav hm2 hrun lk hma HM Qo;have hzs:=z.prop.size;have vZ:Hid (aH (λb=>b=w.heap.size) Wa w2):=gZ htr;have akg:w.heap.size<z.val.heap.size:=by have:=HRW.out.own.lt;omega
       have KS:Hid (Own w2 56 z.val.heap.size [.int .i64 re,.int .i64 ac,.int .i64 lo,.int .i64 hi,.int .i64 fi,.bool se]):=HXA.out.keep vZ.out (by omega);have HR2:Hid (cZ w2 (w.heap.size+2) (w.heap.size+1) vs (jW F D n k) 0):=Vx.out.upd vZ.out (by omega) (λv hv b hb e=>by have:=(Vx.out.low v hv b hb).1;omega);have HB2:Hid (Below w.heap.size w w2):=ql.out.trans (xq htr (bJ _));clear htr Vx HB0 ql HXA q0 q1';obtain⟨bx,hbx⟩:∃bx,bx=z.val.heap.size:=⟨_,rfl⟩;rw[<-hbx]at KS⊢;have aoT:w.heap.size+2<=bx:=by have:=HRW.out.own.lt;omega
       clear vZ akg hzs hba HRW hbx;have ed2:=ed ⟨w2,HB2.out⟩;simp only at ed2;clear ed;by_cases hin:0<=d/\d<(n:Int)
       .obtain⟨dd,rfl⟩:∃dd:Nat,d=dd:=⟨d.toNat,by omega⟩
        have hdn:dd<n:=by omega
        go_upto_region 14 with(fail)
        obtain⟨rA,rc,hvd,hrow⟩:=HR2.out.get (aZ dd) (RS hdn);have Zt:Hid (jW F D n (k+1)=(jW F D n k).set dd (eX (F.take k) (D.take k) dd++[re])):=RQ TY.out HX.out HDX.out hdn;have hlr:=Iu (F.take k) (D.take k) dd;rw[mV]at hlr;have FR:=ah hvd;clear hvd;obtain⟨l,HL⟩:∃l,Hid (l=eX (F.take k) (D.take k) dd):=⟨_,rfl⟩;rw[<-HL.out]at hrow hlr Zt FR;have nE:=ah hrow;clear hrow;have hll:l.length<=4000:=by omega
        clear hlr;obtain⟨rb,hrb⟩:∃rb,rb=w.heap.size+1:=⟨_,rfl⟩;rw[<-hrb]at HR2⊢;have Ng:=ah hrb;clear hrb;have x0:∀y:Bl w2,y.val.cell? ⟨bx,0,none⟩=some (.int .i64 re):=λy=>(KS.out.below y.prop).cell rfl;have x1:∀y:Bl w2,y.val.cell? ⟨rb,dd,none⟩=some (.slice rA l.length rc):=λy=>(HR2.out.below y.prop).own.cell FR.out;have x2:∀y:Bl w2,y.val.frozen? ⟨rb,dd,none⟩=false:=λy=>(HR2.out.below y.prop).own.frozen dd;refine sG (s:=(⟨w2,aC _ _⟩:Bl w2)) 9 (λi=>match i with
         |8=>some (Pf w2 3 #[.int .i64 re])
         |_=>none) (λ_=>[]) [] [0,1] (by simp) (by kernel_rfl) (by kernel_rfl) (by simp) ?panics (by kernel_rfl) (by intro p hp;simp at hp) ?keeps ?_
        case panics=>
         intro e _ o v c a w _ h;revert h;cases o.dst<;>exact id
        case keeps=>
         intro i sp h;split at h
         .injection h with h;subst h;exact Ir _ _ _
         .cases h
        simp only[fP,bX,fZ,bY];repeat(refine vM rfl (λK hK=>?_);go_simp;refine hK _ ?_;clear hK K)
        refine Cb _ rfl rfl ?_ (λy _=>?_) ?_
        .exact⟨_,w2.heap.size,bJ _,rfl⟩
        .go_simp
         refine⟨⟨_,y.prop.size,rfl⟩,λb hb=>?_,aN (aC _ _) _⟩;simp only[Value.slice.injEq,Option.some.injEq,Addr.mk.injEq,and_true]at hb;subst hb;exact bQ _ _
        rintro _ ⟨gb,hgb,rfl⟩;refine L6 ?_;rintro y ⟨_,hA⟩;have hnew:=hA gb rfl;clear hA;have hRy:=HR2.out.below y.prop;have hly:=hRy.own.lt;refine yY rfl _ _ 22 rfl (w.heap.size+2) 3 ii (.int .i64 0) 1 8 Tryz.underlying22 hii hiz his hib rfl (by decide) _ l.length _ rfl (dx nE.out y.prop) gb #[.int .i64 re] 3 (0,0) rfl hnew rfl (by intro u hu;simp only[d_]at hu;subst hu;rfl) (by unfold maxLen;omega) (by omega) (by have:=Ng.out;omega) ?_;intro g6 c6 w6 h6 Zr uS;have J9:aH (λb=>(Value.slice rA l.length rc).ownBlock=some b) y.val w6:=aH.jG Zr;have adB:¬(Value.slice rA l.length rc).ownBlock=some rb:=λe=>(HR2.out.low _ (bT FR.out) rb e).2.2 rfl;have y0:w6.cell? ⟨rb,dd,none⟩=some (.slice rA l.length rc):=(bO J9 hly adB).trans (x1 y);have y1:w6.frozen? ⟨rb,dd,none⟩=false:=(U4 J9 hly adB).trans (x2 y);have HT6:Hid (cZ (w6.setCell ⟨rb,dd,none⟩ (.slice (some ⟨g6,0,none⟩) (l.length+1) c6)) (w.heap.size+2) rb (vs.set dd (.slice (some ⟨g6,0,none⟩) (l.length+1) c6)) (jW F D n (k+1)) 0):=by
         show cZ _ _ _ _ _ _;rw[Zt.out];refine hRy.turned FR.out J9 (λb hb=>.inl hb) ?_ ?_
         .have e:(l++[re]).length=l.length+1:=by simp
          rw[e,oP];exact h6
         .rcases uS with e|e
          .have e':(Value.slice rA l.length rc).ownBlock=some g6:=e
           exact .inl (by rw[e'];rfl)
          .exact .inr (λb hb=>by simp only[Value.ownBlock,Option.some.injEq]at hb;omega)
        have wK:Hid (aH (λb=>w.heap.size+1<=b) w2 (w6.setCell ⟨rb,dd,none⟩ (.slice (some ⟨g6,0,none⟩) (l.length+1) c6))):=by
         refine aH.setCell ((mD (aH.refl (λb=>w.heap.size+1<=b) w2) y.prop).trans J9 (λi hi hs=>?_)) (.inl ?_) _
         .have:=(HR2.out.low _ (bT FR.out) i hs).1
          omega
         .show w.heap.size+1<=rb
          rw[Ng.out];exact bJ _
        clear h6 Zr uS J9 adB hRy hnew x0 x1 x2 nE HL;gi_wp2;have hrb:=Ng.out;clear Ng;subst hrb;have O_:=ah (BF.out.upd wK.out (by omega));have Rs:Hid (Below w.heap.size w (w6.setCell ⟨w.heap.size+1,dd,none⟩ (.slice (some ⟨g6,0,none⟩) (l.length+1) c6))):=HB2.out.trans (wK.out.below HB2.out.size (λi hi=>by omega));clear wK BF HB2 KS HR2 y0 y1;generalize w6.setCell ⟨w.heap.size+1,dd,none⟩ (.slice (some ⟨g6,0,none⟩) (l.length+1) c6)=Wf at O_ Rs HT6⊢;go_wp2
        go_roundg (F.length - (k+1))
        case measure=>rw[iL.out];omega
        case rel=>exact⟨k+1,nn',⟨Wf,Rs.out⟩,_,rfl,by omega,by go_num,rfl,adA,O_,HT6,HAV⟩
       .have Zt:Hid (cZ w2 (w.heap.size+2) (w.heap.size+1) vs (jW F D n (k+1)) 0):=by
         show cZ _ _ _ _ _ _;rw[Pk TY.out HX.out HDX.out hin];exact HR2.out
        have hgo:d<0\/(0<=d/\(n:Int)<=d):=by omega
        rcases hgo with h0|⟨h0,h00⟩
        .go_wp2
         go_roundg (F.length - (k+1))
         case measure=>rw[iL.out];omega
         case rel=>exact⟨k+1,nn',⟨w2,HB2.out⟩,vs,rfl,by omega,by go_num,rfl,adA,BF,Zt,HAV⟩
        .go_wp2
         go_roundg (F.length - (k+1))
         case measure=>rw[iL.out];omega
         case rel=>exact⟨k+1,nn',⟨w2,HB2.out⟩,vs,rfl,by omega,by go_num,rfl,adA,BF,Zt,HAV⟩
     .obtain rfl:k=F.length:=by omega
      clear iL hlt;rw[gW]at HM Qo;have HTB:Hid (T=blocks F D n):=by
       show _=_;rw[HT.out,wE TY.out (by omega) (by omega) Qo.out,xg]
      have hLL:jW F D n F.length=(List.range n).map (λd:Nat=>eX F D (d:Int)):=by
       unfold jW;rw[gW,TY.out,gW]
      rw[hLL]at HRW;clear hLL HT;obtain⟨Z,HZ⟩:∃Z,Z=z.val:=⟨_,rfl⟩;have Vn:Hid (Below w.heap.size w Z):=by show Below _ _ _;rw[HZ];exact z.prop
      rw[<-HZ]at HM HRW⊢;clear HZ z;have adC:Hid (∀v∈vs,∀b,v.ownBlock=some b->b<Z.heap.size):=λv hv b hb=>(HRW.out.low v hv b hb).2.1;have aoV:=HRW.out.own.lt;have hvl:vs.length=n:=by rw[HRW.out.len];simp
      go_wp2
      go_loopg [80,14] n (λgk v80 v14 wr=>∃(k:Nat)(A:Option Addr)(c:Nat),gk=n - k/\k<=n/\v80= .int .i64 k/\v14= .slice A (blocks F D k).length c/\Hid (wr.ownsRow Z.heap.size 3 1 (.slice A (blocks F D k).length c) (blocks F D k).length (aY (blocks F D k)))/\Hid (eF fD 3 encI wr w.heap.size nn (xL F))/\Hid (cZ wr (w.heap.size+2) (w.heap.size+1) vs ((List.range n).map (λd:Nat=>eX F D (d:Int))) k)/\Hid (Below w.heap.size w wr)/\Z.heap.size<=wr.heap.size)
      case atStart=>exact⟨0,none,0,rfl,aZ _,rfl,rfl,World.ownsRow_nil _ _ _ _,HM,HRW,Vn,bJ _⟩
      case round=>
       obtain⟨k,A,c,eZ,hk,rfl,rfl,rX,BF,TW,kL,hzw⟩:=hrel;have iL:=ah eZ;clear eZ HM HRW;by_cases hlt:k<n
       .have hget:((List.range n).map (λd:Nat=>eX F D (d:Int)))[k]?=some (eX F D (k:Int)):=by rw[fM,Ab hlt];rfl
        obtain⟨lA,lc,hvk,hrow⟩:=TW.out.get (bJ k) hget;have hrl:=Iu F D (k:Int);have adD:Hid (∀r∈kI (eX F D (k:Int)),r∈F.map (·.ref)):=λr hr=>by
         rw[mY,oI]at hr;obtain⟨i,x,h1,_,rfl⟩:=hr;exact List.mem_map_of_mem (bT h1)
        have HND:Hid ((eX F D (k:Int)).Nodup):=BR Qo.out TY.out _;have Qj:Hid (blocks F D (k+1)=blocks F D k++((kI (eX F D (k:Int))).map (iD F)++[-1])):=kR F D k;have hbl:=CF TY.out Qo.out k;obtain⟨l,HL⟩:∃l,Hid (l=eX F D (k:Int)):=⟨_,rfl⟩;rw[<-HL.out]at hvk hrow hrl adD HND Qj;have x1:wr.cell? ⟨w.heap.size+1,k,none⟩=some (.slice lA l.length lc):=TW.out.own.cell hvk;have k0:(k:Int)<(n:Int):=by omega
        have Ip:=ah (Pg wr hrow (by omega));have HVK:=ah hvk;clear hrow hvk hget;go_wp2_with (go_at_call 40;refine Ip.out.mono ?_;rintro e z3 ⟨rfl,hrow3,hu3⟩;refine Hid.out ?_);refine ah ?_;have hmv:=bT HVK.out;have T9:∀b,(Value.slice lA l.length lc).ownBlock=some b->w.heap.size+2<=b/\b<Z.heap.size:=λb hb=>⟨(TW.out.low _ hmv b hb).1,adC.out _ hmv b hb⟩;have agH:=ah (TW.out.changed HVK.out hu3 (λb hb=>hb));have agI:=ah (bZ rX.out hu3 (λb hb hs=>by have:=(rX.out.lt b hb).1;have:=(T9 b hs).2;omega));have Ni:=ah (BF.out.upd hu3 (λhs=>by have:=(T9 _ hs).1;omega));have adF:Hid (Below w.heap.size w z3):=kL.out.trans (hu3.below kL.out.size (λb hb=>by have:=(T9 b hb).1;omega));have hz3:Z.heap.size<=z3.heap.size:=bL hzw hu3.size;rw[MF HND.out]at hrow3;have hSl:(kI l).length=l.length:=(Gz HND.out).length_eq;have Yq:=ah hrow3;clear hrow3 hu3 TW rX BF kL HVK hmv Ip HL x1;obtain⟨S,HS⟩:∃S,Hid (S=kI l):=⟨_,rfl⟩;rw[<-HS.out]at hSl Yq adD Qj;have k4:l.length<=4000:=by omega
        go_wp2
        go_loopg [88,14] l.length (λgk v88 v14 wr=>∃(j:Nat)(A:Option Addr)(c:Nat),gk=l.length - j/\j<=l.length/\v88= .int .i64 j/\v14= .slice A (blocks F D k++(S.take j).map (iD F)).length c/\Hid (wr.ownsRow Z.heap.size 3 1 (.slice A (blocks F D k++(S.take j).map (iD F)).length c) (blocks F D k++(S.take j).map (iD F)).length (aY (blocks F D k++(S.take j).map (iD F))))/\Hid (aH (λb=>Z.heap.size<=b) z3 wr))
        case atStart=>
         refine⟨0,A,c,rfl,aZ _,rfl,by simp,?_,aH.refl _ _⟩;have h:=agI;simpa using h
        case round=>
         obtain⟨j,A,c,eZ,hj,rfl,rfl,rX,HU⟩:=hrel;have Nj:=ah eZ;clear eZ agI;by_cases hlj:j<l.length
         .obtain⟨r,hr⟩:∃r,S[j]?=some r:=⟨S[j]'(by omega),aW (by omega)⟩
          have hrm:=adD.out r (bT hr);have agJ:fD r:=by
           obtain⟨x,hx,rfl⟩:=dF.1 hrm;exact HR.out x hx
          have hMw:=Ni.out.upd HU.out (by omega);have lk:=eF.look B_ Tryz.underlying90 hMw (Tg wr) agJ (Dp agJ);rw[aay hrm]at lk;simp only[Option.getD_some]at lk;have hRw:=bZ Yq.out HU.out (λb hb hs=>by have:=(T9 b hb).2;omega);obtain⟨g,rfl,hBg,hgl,hlc,hcm,hcell⟩:=nW hRw (by omega);have x2:wr.cell? ⟨g,j,none⟩=some (.int .i64 r):=hcell j _ (fI hr);have j0:(j:Int)<(l.length:Int):=by omega
          have hwz:=HU.out.size;have hrl2:(blocks F D k++(S.take j).map (iD F)).length<=10000:=by simp;omega
          have hzr:Z.heap.size<=wr.heap.size:=by omega
          generalize hRL:blocks F D k++(S.take j).map (iD F)=RL at rX hrl2⊢;have Vy:=ah hRL;clear hRL;have HRJ:=ah hr;clear hRw hcell hMw hr hrm;go_wp2_with (at_builtin;refine iQ rfl _ _ 22 rfl 3 ii (.int .i64 0) 1 8 Tryz.underlying22 hii hiz his hib rfl (by decide) Z.heap.size _ _ _ rfl rX.out [.int .i64 (iD F r)] _ rfl rfl (by intro u hu;simp only[d_]at hu;subst hu;rfl) rfl (by unfold maxLen;omega) (by omega) hzr ?_;intro g6 c6 w6 h1 h2;refine Hid.out ?_);refine ah ?_;have hnb:∀b,(Value.slice A RL.length c).ownBlock=some b->Z.heap.size<=b:=λb e=>(rX.out.lt b e).1;have wK:Hid (aH (λb=>Z.heap.size<=b) wr w6):=((aH.refl _ wr).alloc _).trans (aH.jG h2) (λb _ h=>hnb b h);have hR6:w6.ownsRow Z.heap.size 3 1 (.slice (some ⟨g6,0,none⟩) (blocks F D k++(S.take (j+1)).map (iD F)).length c6) (blocks F D k++(S.take (j+1)).map (iD F)).length (aY (blocks F D k++(S.take (j+1)).map (iD F))):=by
           rw[bS HRJ.out,tK,<-uW,Vy.out];rw[show(RL++List.map (iD F) [r]).length=RL.length+1 by simp,show aY (RL++List.map (iD F) [r])=aY RL++[.int .i64 (iD F r)]from oP _ _];exact h1
          have abT:(blocks F D k++(S.take (j+1)).map (iD F)).length=RL.length+1:=by
           rw[bS HRJ.out,tK,<-uW,Vy.out];simp
          have Jz:=ah hR6;have HL6:=ah abT;clear hR6 abT h1 h2 hnb lk x2;go_wp2
          go_roundg (l.length - (j+1))
          case measure=>rw[Nj.out];omega
          case rel=>exact⟨j+1,_,_,rfl,by omega,by go_num,by rw[HL6.out],Jz,HU.out.trans wK.out (λb _ h=>h)⟩
         .obtain rfl:j=l.length:=by omega
          have hST:S.take l.length=S:=by rw[<-hSl,gW]
          rw[hST]at rX;rw[hST];clear hST Nj hlj;have hwz:=HU.out.size;have hrl2:(blocks F D k++S.map (iD F)).length<=10000:=by simp;omega
          have hzr:Z.heap.size<=wr.heap.size:=by omega
          have agL:=ah (agH.out.upd HU.out (by omega) (λv hv b hb hs=>by have:=adC.out v hv b hb;omega));have HMW:=ah (Ni.out.upd HU.out (by omega));have adG:Hid (Below w.heap.size w wr):=adF.out.trans (HU.out.below adF.out.size (λb hb=>by omega));rw[<-uW]at Qj;generalize blocks F D k++S.map (iD F)=RL at rX hrl2 Qj⊢;clear Yq agH Ni adF HU;go_wp2_with (at_builtin;refine iQ rfl _ _ 22 rfl 3 ii (.int .i64 0) 1 8 Tryz.underlying22 hii hiz his hib rfl (by decide) Z.heap.size _ _ _ rfl rX.out [.int .i64 (-1)] _ rfl rfl (by intro u hu;simp only[d_]at hu;subst hu;rfl) rfl (by unfold maxLen;omega) (by omega) hzr ?_;intro g6 c6 w6 h1 h2;refine Hid.out ?_);refine ah ?_;have hnb:∀b,(Value.slice A RL.length c).ownBlock=some b->Z.heap.size<=b:=λb e=>(rX.out.lt b e).1;have wK:Hid (aH (λb=>Z.heap.size<=b) wr w6):=((aH.refl _ wr).alloc _).trans (aH.jG h2) (λb _ h=>hnb b h);have hl6:(blocks F D (k+1)).length=RL.length+1:=by rw[Qj.out];simp
          have hR6:w6.ownsRow Z.heap.size 3 1 (.slice (some ⟨g6,0,none⟩) (blocks F D (k+1)).length c6) (blocks F D (k+1)).length (aY (blocks F D (k+1))):=by
           rw[hl6,Qj.out,oP];exact h1
          have Jz:=ah hR6;have HL6:=ah hl6;have adH:=ah (agL.out.upd wK.out (by omega) (λv hv b hb hs=>by have:=adC.out v hv b hb;omega));have HM6:=ah (HMW.out.upd wK.out (by omega));have JA:Hid (Below w.heap.size w w6):=adG.out.trans (wK.out.below adG.out.size (λb hb=>by omega));have hz6:Z.heap.size<=w6.heap.size:=bL hzr wK.out.size;clear hR6 hl6 h1 h2 hnb wK agL HMW adG;go_wp2
          go_roundg (n - (k+1))
          case measure=>rw[iL.out];omega
          case rel=>exact⟨k+1,_,_,rfl,by omega,by go_num,by rw[HL6.out],Jz,HM6,adH,JA,hz6⟩
       .obtain rfl:k=n:=by omega
        clear iL hlt BF TW;have hT:=HTB.out;subst hT;clear HTB;go_wp2;go_ret;exact⟨_,_,rfl,Cz rX.out (λg hg=>by have:=(rX.out.lt g hg).1;have:=Vn.out.size;omega),kL.out⟩
   .have hT:T=[]:=by rw[HT.out];unfold bW;rw[if_neg (λh=>h3 h.2.2.1)]
    subst hT;have q1:((F.length:Int)!=(D.length:Int))=false:=by simp[h1]
    have q2:(u<0)=False:=by simp;omega
    have q3:((2000:Int)<u)=True:=by simp;omega
    clear h1 h2 h3 HT;go_enter Tryz.func16,Tryz.ntmps16;go_wp2;go_ret;exact⟨none,0,rfl,World.ownsRow_nil _ _ _ _,aC _ _⟩
  .have hT:T=[]:=by rw[HT.out];unfold bW;rw[if_neg (λh=>h2 h.2.1)]
   subst hT;have q1:((F.length:Int)!=(D.length:Int))=false:=by simp[h1]
   have q2:(u<0)=True:=by simp;omega
   clear h1 h2 HT;go_enter Tryz.func16,Tryz.ntmps16;go_wp2;go_ret;exact⟨none,0,rfl,World.ownsRow_nil _ _ _ _,aC _ _⟩
 .have hT:T=[]:=by rw[HT.out];unfold bW;rw[if_neg (λh=>h1 h.1)]
  subst hT;have q1:((F.length:Int)!=(D.length:Int))=true:=by simp;omega
  go_enter Tryz.func16,Tryz.ntmps16;go_wp2;go_ret;exact⟨none,0,rfl,World.ownsRow_nil _ _ _ _,aC _ _⟩
end
section
open Go.RowKit Go.Shelf
def DY(lo hi:Nat->Int)(is:List Nat):List Value:=is.flatMap (λi=>[.int .i64 (lo i),.int .i64 (hi i)])
def Fy(lo hi:Nat->Int)(n:Nat):List Value:=DY lo hi (List.range n)
theorem nX(lo hi:Nat->Int)(n:Nat):(Fy lo hi n).length=n*2:=by
 unfold Fy DY;rw[f_ (λi:Nat=>[Value.int .i64 (lo i),.int .i64 (hi i)]) 2 (λ_=>rfl),List.length_range]
theorem dV(lo hi:Nat->Int){n i j:Nat}(h:i<n)(hj:j<2):(Fy lo hi n)[i*2+j]?=([.int .i64 (lo i),.int .i64 (hi i)]:List Value)[j]?:=
 dh (λi:Nat=>[Value.int .i64 (lo i),.int .i64 (hi i)]) 2 (λ_=>rfl) (List.range n) i j i (Ab h) hj
theorem Pm(lo hi:Nat->Int){n i:Nat}(h:i<n)(l u:Int):((Fy lo hi n).set (i*2) (.int .i64 l)).set (i*2+1) (.int .i64 u)=Fy (setAt lo i l) (setAt hi i u) n:=by
 apply kM;intro q;rcases iO q (n*2)with hq|hq
 .have hr:=dV (setAt lo i l) (setAt hi i u) (n:=n) (i:=q/2) (j:=q % 2) (by omega) (by omega)
  have ho:=dV lo hi (n:=n) (i:=q/2) (j:=q % 2) (by omega) (by omega);rw[show q/2*2+q % 2=q by omega]at hr ho;rw[hr,j4,j4];by_cases e1:i*2+1=q
  .rw[if_pos e1,if_pos (by simp[nX];omega),show q/2=i by omega,show q % 2=1 by omega]
   simp[eY]
  .rw[if_neg e1]
   by_cases e2:i*2=q
   .rw[if_pos e2,if_pos (by rw[nX];omega),show q/2=i by omega,show q % 2=0 by omega]
    simp[eY]
   .rw[if_neg e2,ho,fq _ _ (by omega),fq _ _ (by omega)]
 .rw[nH (by simp[nX];omega),nH (by rw[nX];exact hq)]
def DZ(t:TypeId):Prop:=t=175\/t=177\/t=222
structure SX where
 B:Nat
 sb:Nat
 bb:Nat
 rb:Nat
 ab:Nat
 n:Nat
 vb:List Value
 va:List Value
 Lb:List (List Int)
 La:List (List Int)
def SSet(X:SX)(V:World)(k:Nat):Prop:=X.B<=k/\∃(cs:Array Value)(t:TypeId)(fz:Nat×Nat),V.heap[k]?=some (.cells cs t fz)/\DZ t/\(k=X.sb\/k=X.bb\/t=222)
def oQ(X:SX)(V V':World):Prop:=aH (SSet X V) V V'
theorem oQ.refl(X:SX)(V:World):oQ X V V:=aH.refl _ _
theorem oQ.trans{X:SX}{a b c:World}(h:oQ X a b)(k:oQ X b c):oQ X a c:=by
 refine aH.trans h k (λi hi ⟨h1,cs,t,fz,h2,h3⟩=>?_);by_cases hz:SSet X a i
 .exact hz
 .rw[h.block i hi hz]at h2
  exact⟨h1,cs,t,fz,h2,h3⟩
theorem oQ.of_below{X:SX}{V V':World}(h:Below V.heap.size V V'):oQ X V V':=⟨h.os,h.tape,h.output,h.size,λk hk _=>h.block k hk⟩
theorem oQ.below{X:SX}{V V':World}(h:oQ X V V'){m:Nat}(hm:m<=V.heap.size)(hB:m<=X.B):Below m V V':=aH.below h hm (λ_ hk=>bL hB hk.1)
theorem oQ.MG{S:Nat->Prop}{X:SX}{V V':World}(h:aH S V V')(hS:∀i,S i->i<V.heap.size->SSet X V i):oQ X V V':=h.mono (λi hi hs=>hS i hs hi)
theorem CG{X:SX}{V:World}{k:Nat}{cs:Array Value}{t:TypeId}{fz:Nat×Nat}(h:V.heap[k]?=some (.cells cs t fz))(ht:¬DZ t):¬SSet X V k:=λ⟨_,cs',t',fz',h1,h2,_⟩=>by
 rw[h]at h1;cases h1
 exact ht h2
theorem Own.FT{X:SX}{w w':World}{t:TypeId}{b:Nat}{cs:List Value}(h:Own w t b cs)(hm:oQ X w w')(ht:¬DZ t):Own w' t b cs:=by
 obtain⟨tl,h⟩:=h;exact⟨tl,hm.keep h (CG h ht)⟩
theorem Own.agP{X:SX}{w w':World}{t:TypeId}{b:Nat}{cs:List Value}(h:Own w t b cs)(hm:oQ X w w')(h1:b≠X.sb)(h2:b≠X.bb)(ht:t≠222):Own w' t b cs:=by
 obtain⟨tl,h⟩:=h;refine⟨tl,hm.keep h (λ⟨_,cs',t',fz',h3,_,h4⟩=>?_)⟩;rw[h]at h3;cases h3
 rcases h4 with h4|h4|h4
 .exact h1 h4
 .exact h2 h4
 .exact ht h4
theorem uq{X:SX}{B':Nat}{w w':World}{e:TypeId}{size n:Nat}{v:Value}{xs:List Value}(h:w.ownsRow B' e size v n xs)(hm:oQ X w w')(ht:¬DZ e):w'.ownsRow B' e size v n xs:=by
 refine⟨h.1,?_⟩;rcases h.2 with h0|⟨g,cap,cur,rfl,hB,hg,r⟩
 .exact .inl h0
 .exact .inr ⟨g,cap,cur,rfl,hB,hm.keep hg (CG hg ht),r⟩
theorem Own.sset{X:SX}{w:World}{t:TypeId}{b:Nat}{cs:List Value}(h:Own w t b cs)(hB:X.B<=b)(ht:DZ t)(hx:b=X.sb\/b=X.bb\/t=222):SSet X w b:=by
 obtain⟨tl,h⟩:=h;exact⟨hB,_,_,_,h,ht,hx⟩
theorem Own.ne{w:World}{t t':TypeId}{b b':Nat}{cs cs':List Value}(h:Own w t b cs)(h':Own w t' b' cs')(ht:t≠t'):b≠b':=by
 rintro rfl;obtain⟨tl,h⟩:=h;obtain⟨tl',h'⟩:=h';rw[h]at h';injection h' with h'
 injection h' with _ h' _
 exact ht h'
theorem MH{X:SX}{B':Nat}{w:World}{size n:Nat}{v:Value}{xs:List Value}(h:w.ownsRow B' 222 size v n xs)(hB:X.B<=B'){k:Nat}(hk:v.ownBlock=some k):SSet X w k:=by
 rcases h.2 with⟨rfl,_⟩|⟨g,cap,cur,rfl,h1,h2,_⟩
 .cases hk
 .simp only[Value.ownBlock,Option.some.injEq]at hk
  subst hk;exact⟨bL hB h1,_,_,_,h2,.inr (.inr rfl),.inr (.inr rfl)⟩
theorem cZ.FT{X:SX}{B':Nat}{w w':World}{rb:Nat}{vs:List Value}{L:List (List Int)}(h:cZ w B' rb vs L 0)(hm:oQ X w w'):cZ w' B' rb vs L 0:=by
 refine h.upd hm ?_ (λv hv b hb=>?_)
 .obtain⟨tl,h1⟩:=h.own
  exact CG h1 (by unfold DZ;decide)
 .obtain⟨i,hi⟩:=j3.1 hv
  have hl:i<L.length:=by rw[<-h.len];exact(bC.1 hi).1
  rcases(h.row i v _ (aZ _) hi (aW hl)).2 with⟨rfl,_⟩|⟨g,cap,cur,rfl,_,h2,_⟩
  .cases hb
  .simp only[Value.ownBlock,Option.some.injEq]at hb
   subst hb;exact CG h2 (by unfold DZ;decide)
structure aR(w:World)(X:SX)(lo hi:Nat->Int)(A:Option Addr)(oc:Nat)(H:List (Nat×Int×Int)):Prop where
 vI:cZ w X.B X.rb X.vb X.Lb 0
 xP:cZ w X.B X.ab X.va X.La 0
 Iw:X.Lb.length=X.n
 Iy:X.La.length=X.n
 box:Own w 175 X.sb [.slice (some ⟨X.bb,0,none⟩) X.n X.n,.slice (some ⟨X.rb,0,none⟩) X.n X.n,.slice (some ⟨X.ab,0,none⟩) X.n X.n,.slice A H.length oc]
 bnd:Own w 177 X.bb (Fy lo hi X.n)
 old:w.ownsRow X.B 222 3 (.slice A H.length oc) H.length (H.flatMap p8)
 low:X.B<=X.sb/\X.B<=X.bb
theorem aR.below{w w':World}{X:SX}{lo hi:Nat->Int}{A:Option Addr}{oc:Nat}{H:List (Nat×Int×Int)}(h:aR w X lo hi A oc H)(hb:Below w.heap.size w w'):aR w' X lo hi A oc H:=
 ⟨h.vI.below hb,h.xP.below hb,h.Iw,h.Iy,h.box.below hb,h.bnd.below hb,dx h.old hb,h.low⟩
theorem aR.Yr{w:World}{X:SX}{lo hi:Nat->Int}{A:Option Addr}{oc:Nat}{H:List (Nat×Int×Int)}(h:aR w X lo hi A oc H)(m:Nat){i:Nat}(hi':i<X.n)(l u:Int):
 aR (((w.drewN m).setCell ⟨X.bb,i*2,none⟩ (.int .i64 l)).setCell ⟨X.bb,i*2+1,none⟩ (.int .i64 u)) X (setAt lo i l) (setAt hi i u) A oc H/\oQ X w (((w.drewN m).setCell ⟨X.bb,i*2,none⟩ (.int .i64 l)).setCell ⟨X.bb,i*2+1,none⟩ (.int .i64 u)):=by
 have hbd:=h.bnd;have hbx:=h.box;have hud:aH (λ_=>False) w (w.drewN m):=(aH.refl _ _).drewN m;have Vz:=((hbd.keep hud (λh=>h)).set (i:=i*2) (by rw[nX];omega) (.int .i64 l)).set (i:=i*2+1) (by rw[List.length_set,nX];omega) (.int .i64 u);rw[Pm lo hi hi']at Vz;have RU:aH (λb=>b=X.bb) w (((w.drewN m).setCell ⟨X.bb,i*2,none⟩ (.int .i64 l)).setCell ⟨X.bb,i*2+1,none⟩ (.int .i64 u)):=
  (((aH.refl (λb=>b=X.bb) w).drewN m).setCell (p:=⟨X.bb,i*2,none⟩) (.inl rfl) _).setCell (p:=⟨X.bb,i*2+1,none⟩) (.inl rfl) _
 have Pn:oQ X w (((w.drewN m).setCell ⟨X.bb,i*2,none⟩ (.int .i64 l)).setCell ⟨X.bb,i*2+1,none⟩ (.int .i64 u)):=
  oQ.MG RU (λk hk _=>by subst hk;exact hbd.sset h.low.2 (.inr (.inl rfl)) (.inr (.inl rfl)))
 refine⟨⟨h.vI.FT Pn,h.xP.FT Pn,h.Iw,h.Iy,hbx.keep RU (λe=>hbx.ne hbd (by decide) e),Vz,bZ h.old RU (λb hb e=>?_),h.low⟩,Pn⟩;subst e;obtain⟨tl,hbd⟩:=hbd;exact dz h.old hbd (by decide) hb
theorem RV{lo hi lo' hi':Nat->Int}{n:Nat}(h:∀i,i<n->lo i=lo' i/\hi i=hi' i):Fy lo hi n=Fy lo' hi' n:=by
 have key:∀l:List Nat,(∀i∈l,i<n)->DY lo hi l=DY lo' hi' l:=λl hl=>by
  unfold DY;induction l with
  |nil=>rfl
  |cons i l ih=>rw[pK,pK,ih (λj hj=>hl j (jf _ hj)),(h i (hl i (by simp))).1,(h i (hl i (by simp))).2]
 exact key _ (λi hi=>List.mem_range.1 hi)
theorem aR.congr{w:World}{X:SX}{lo hi lo' hi':Nat->Int}{A:Option Addr}{oc:Nat}{H:List (Nat×Int×Int)}(h:aR w X lo hi A oc H)(e:∀i,i<X.n->lo i=lo' i/\hi i=hi' i):aR w X lo' hi' A oc H:=
 ⟨h.vI,h.xP,h.Iw,h.Iy,h.box,by rw[<-RV e];exact h.bnd,h.old,h.low⟩
theorem Yt(H:List (Nat×Int×Int)):∀u∈H.flatMap p8,u.oneCell'=true:=by
 intro u hu;obtain⟨x,_,hx⟩:=mU.1 hu;simp only[p8,dI,gN,or_false]at hx;rcases hx with rfl|rfl|rfl<;>rfl
theorem aR.adI{w W:World}{X:SX}{lo hi:Nat->Int}{A:Option Addr}{oc:Nat}{H:List (Nat×Int×Int)}(h:aR w X lo hi A oc H){i:Nat}{v v':Value}{l':List Int}(hv:X.vb[i]?=some v)(hu:aH (λb=>v.ownBlock=some b) w W)
 (hrow:W.ownsRow X.B 3 1 v' l'.length (aY l'))(uS:v'.ownBlock=v.ownBlock\/∀b,v'.ownBlock=some b->w.heap.size<=b)(hne:X.rb≠X.ab)(hsep:∀v∈X.vb,∀v'∈X.va,∀b,v.ownBlock=some b->v'.ownBlock≠some b):
 aR (W.setCell ⟨X.rb,i,none⟩ v') {X with vb:=X.vb.set i v',Lb:=X.Lb.set i l'} lo hi A oc H/\aH (λb=>v.ownBlock=some b\/b=X.rb) w (W.setCell ⟨X.rb,i,none⟩ v')/\
  (∀u∈X.vb.set i v',∀u'∈X.va,∀b,u.ownBlock=some b->u'.ownBlock≠some b):=by
 have hi:i<X.vb.length:=(bC.1 hv).1;have hl:=aW (l:=X.Lb) (i:=i) (by rw[<-h.vI.len];exact hi);have hr0:=h.vI.row i v _ (aZ _) hv hl;have hmv:=bT hv;have hS:∀{t:TypeId}{b:Nat}{cs:List Value},Own w t b cs->t≠3->¬(v.ownBlock=some b):=λho ht=>by
  obtain⟨tl,ho⟩:=ho;exact dz hr0 ho ht
 have hu2:aH (λb=>v.ownBlock=some b\/b=X.rb) w (W.setCell ⟨X.rb,i,none⟩ v'):=(hu.mono (λ_ _ h=>.inl h)).setCell (p:=⟨X.rb,i,none⟩) (.inl (.inr rfl)) v';have hk:∀{t:TypeId}{b:Nat}{cs:List Value},Own w t b cs->t≠3->b≠X.rb->Own (W.setCell ⟨X.rb,i,none⟩ v') t b cs:=λho ht hb=>ho.keep hu2 (λe=>by
  rcases e with e|e
  .exact hS ho ht e
  .exact hb e)
 have hother:∀u∈X.va,∀b,u.ownBlock=some b->v.ownBlock≠some b/\v'.ownBlock≠some b/\b≠X.rb:=λu hu' b hb=>by
  have h1:=h.xP.low u hu' b hb;have h2:v.ownBlock≠some b:=λe=>hsep v hmv u hu' b e hb;refine⟨h2,λe=>?_,λe=>?_⟩
  .rcases uS with e2|e2
   .rw[e2]at e;exact h2 e
   .have:=e2 b e;omega
  .subst e
   obtain⟨j,hj⟩:=j3.1 hu';have hlj:j<X.La.length:=by rw[<-h.xP.len];exact(bC.1 hj).1
   obtain⟨tl,ho⟩:=h.vI.own;exact dz (h.xP.row j u _ (aZ _) hj (aW hlj)) ho (by decide) hb
 have ht:=h.vI.turned hv hu (λb hb=>.inl hb) hrow uS;have hq:cZ (W.setCell ⟨X.rb,i,none⟩ v') X.B X.ab X.va X.La 0:=h.xP.upd hu2 (λe=>by
  rcases e with e|e
  .exact hS h.xP.own (by decide) e
  .exact hne e.symm) (λu hu' b hb e=>by
  rcases e with e|e
  .exact(hother u hu' b hb).1 e
  .exact(hother u hu' b hb).2.2 e)
 have hold:(W.setCell ⟨X.rb,i,none⟩ v').ownsRow X.B 222 3 (.slice A H.length oc) H.length (H.flatMap p8):=bZ h.old hu2 (λb hb e=>by
  rcases e with e|e
  .rcases hr0.2 with⟨rfl,_⟩|⟨g,cap,cur,rfl,_,hg,_⟩
   .cases e
   .simp only[Value.ownBlock,Option.some.injEq]at e
    subst e;exact dz h.old hg (by decide) hb
  .subst e
   obtain⟨tl,ho⟩:=h.vI.own;exact dz h.old ho (by decide) hb)
 refine⟨⟨ht,hq,by simpa using h.Iw,h.Iy,hk h.box (by decide) (λe=>h.box.ne h.vI.own (by decide) e),hk h.bnd (by decide) (λe=>h.bnd.ne h.vI.own (by decide) e),hold,h.low⟩,hu2,λu hu1 u' aaA b hb=>?_⟩;rcases List.mem_or_eq_of_mem_set hu1 with h2|rfl
 .exact hsep u h2 u' aaA b hb
 .exactλe=>(hother u' aaA b e).2.1 hb
theorem aR.adJ{w W:World}{X:SX}{lo hi:Nat->Int}{A:Option Addr}{oc:Nat}{H:List (Nat×Int×Int)}(h:aR w X lo hi A oc H){i:Nat}{v v':Value}{l':List Int}(hv:X.va[i]?=some v)(hu:aH (λb=>v.ownBlock=some b) w W)
 (hrow:W.ownsRow X.B 3 1 v' l'.length (aY l'))(uS:v'.ownBlock=v.ownBlock\/∀b,v'.ownBlock=some b->w.heap.size<=b)(hne:X.rb≠X.ab)(hsep:∀v∈X.vb,∀v'∈X.va,∀b,v.ownBlock=some b->v'.ownBlock≠some b):
 aR (W.setCell ⟨X.ab,i,none⟩ v') {X with va:=X.va.set i v',La:=X.La.set i l'} lo hi A oc H/\aH (λb=>v.ownBlock=some b\/b=X.ab) w (W.setCell ⟨X.ab,i,none⟩ v')/\
  (∀u∈X.vb,∀u'∈X.va.set i v',∀b,u.ownBlock=some b->u'.ownBlock≠some b):=by
 have hi:i<X.va.length:=(bC.1 hv).1;have hl:=aW (l:=X.La) (i:=i) (by rw[<-h.xP.len];exact hi);have hr0:=h.xP.row i v _ (aZ _) hv hl;have hmv:=bT hv;have hS:∀{t:TypeId}{b:Nat}{cs:List Value},Own w t b cs->t≠3->¬(v.ownBlock=some b):=λho ht=>by
  obtain⟨tl,ho⟩:=ho;exact dz hr0 ho ht
 have hu2:aH (λb=>v.ownBlock=some b\/b=X.ab) w (W.setCell ⟨X.ab,i,none⟩ v'):=(hu.mono (λ_ _ h=>.inl h)).setCell (p:=⟨X.ab,i,none⟩) (.inl (.inr rfl)) v';have hk:∀{t:TypeId}{b:Nat}{cs:List Value},Own w t b cs->t≠3->b≠X.ab->Own (W.setCell ⟨X.ab,i,none⟩ v') t b cs:=λho ht hb=>ho.keep hu2 (λe=>by
  rcases e with e|e
  .exact hS ho ht e
  .exact hb e)
 have hother:∀u∈X.vb,∀b,u.ownBlock=some b->v.ownBlock≠some b/\v'.ownBlock≠some b/\b≠X.ab:=λu hu' b hb=>by
  have h1:=h.vI.low u hu' b hb;have h2:v.ownBlock≠some b:=λe=>hsep u hu' v hmv b hb e;refine⟨h2,λe=>?_,λe=>?_⟩
  .rcases uS with e2|e2
   .rw[e2]at e;exact h2 e
   .have:=e2 b e;omega
  .subst e
   obtain⟨j,hj⟩:=j3.1 hu';have hlj:j<X.Lb.length:=by rw[<-h.vI.len];exact(bC.1 hj).1
   obtain⟨tl,ho⟩:=h.xP.own;exact dz (h.vI.row j u _ (aZ _) hj (aW hlj)) ho (by decide) hb
 have ht:=h.xP.turned hv hu (λb hb=>.inl hb) hrow uS;have hq:cZ (W.setCell ⟨X.ab,i,none⟩ v') X.B X.rb X.vb X.Lb 0:=h.vI.upd hu2 (λe=>by
  rcases e with e|e
  .exact hS h.vI.own (by decide) e
  .exact hne e) (λu hu' b hb e=>by
  rcases e with e|e
  .exact(hother u hu' b hb).1 e
  .exact(hother u hu' b hb).2.2 e)
 have hold:(W.setCell ⟨X.ab,i,none⟩ v').ownsRow X.B 222 3 (.slice A H.length oc) H.length (H.flatMap p8):=bZ h.old hu2 (λb hb e=>by
  rcases e with e|e
  .rcases hr0.2 with⟨rfl,_⟩|⟨g,cap,cur,rfl,_,hg,_⟩
   .cases e
   .simp only[Value.ownBlock,Option.some.injEq]at e
    subst e;exact dz h.old hg (by decide) hb
  .subst e
   obtain⟨tl,ho⟩:=h.xP.own;exact dz h.old ho (by decide) hb)
 refine⟨⟨hq,ht,h.Iw,by simpa using h.Iy,hk h.box (by decide) (λe=>h.box.ne h.xP.own (by decide) e),hk h.bnd (by decide) (λe=>h.bnd.ne h.xP.own (by decide) e),hold,h.low⟩,hu2,λu hu1 u' aaA b hb=>?_⟩;rcases List.mem_or_eq_of_mem_set aaA with h2|rfl
 .exact hsep u hu1 u' h2 b hb
 .exact(hother u hu1 b hb).2.1
def CJ(Z:World)(B:Nat)(e:TypeId)(size n:Nat)(v:Value)(xs:List Value):bK:=
 ⟨λu=>∃g c,u= .slice (some ⟨g,0,none⟩) n c,λu z=>z.ownsRow B e size u n xs/\(u.ownBlock=v.ownBlock\/∀b,u.ownBlock=some b->Z.heap.size<=b)⟩
theorem uT(Z:World)(B:Nat)(e:TypeId)(size n:Nat)(v:Value)(xs:List Value):(CJ Z B e size n v xs).Keeps:=λ_ _ _ h hb=>⟨dx h.1 hb,h.2⟩
def oU(W0:World)(e:TypeId)(cs:Array Value):bK:=
 ⟨λv=>∃b,W0.heap.size<=b/\v= .slice (some ⟨b,0,none⟩) 1 1,λv z=>∀b,v= .slice (some ⟨b,0,none⟩) 1 1->W0.heap.size<=b/\z.heap[b]?=some (.cells cs e (0,0))⟩
theorem qK{ops:Array Oper}(W0:World)(e:TypeId)(cs:Array Value)(S:Nat->Prop)(f i:Nat)(hS:∀k,S k->k<W0.heap.size):AV ops (aH S) f i (oU W0 e cs):=by
 refine⟨λv z z' h hb b hv=>?_,λ_ _ v z z' h hu b hv=>?_⟩
 .obtain⟨h1,h2⟩:=h b hv
  exact⟨h1,(hb.block b (aF h2)).trans h2⟩
 .obtain⟨h1,h2⟩:=h b hv
  exact⟨h1,hu.keep h2 (λhs=>by have:=hS _ hs;omega)⟩
theorem D5(Z:World)(S:Nat->Prop):Turns (λz=>Below Z.heap.size Z z) (λz=>aH S Z z) (λz z'=>aH S z z') where
 sub:=λ_ h=>⟨h.os,h.tape,h.output,h.size,λk hk _=>h.block k hk⟩
 b0:=λ_ _ h hb=>ay h hb
 b1:=λ_ _ h hb=>mD h hb
 t:=λ_ _ h hu=>aH.trans (S:=S) ⟨h.os,h.tape,h.output,h.size,λk hk _=>h.block k hk⟩ hu (λ_ _ h=>h)
theorem uU{P:Program}{Z z:World}{o:Oper}{ρ:Operand->Value}(s x:Operand)(t:TypeId)(hop:o.op=Op.call {callee:=Callee.builtin Builtin.append,args:=#[s,x],argTypes:=#[t,t]})
 (base:Nat)(e:TypeId)(i:TypeInfo)(z0:Value)(size bytes:Nat)(ht:P.underlying t=some (.slice e))(hi:P.info? e=some i)(hz:i.zero=some z0)(hsize:i.size=size)(hby:i.bytes=bytes)(hzs:z0.cells.size=size)(hsz:0<size)
 (v:Value)(n:Nat)(xs:List Value)(hs:ρ s=v)(hown:z.ownsRow base e size v n xs)(bx:Nat)(cs:Array Value)(tx:TypeId)(fr:Nat×Nat)(hx:ρ x= .slice (some ⟨bx,0,none⟩) 1 1)(hbx:z.heap[bx]?=some (.cells cs tx fr))(hl:cs.size=size)(h1:∀u∈cs.toList,u.oneCell'=true)
 (h63:n+1<=maxLen)(jM:(n+1)*bytes<=140737488355328)(hbase:base<=z.heap.size)(hZ:Z.heap.size<=z.heap.size):
 oK (aH (λb=>v.ownBlock=some b)) z (CJ Z base e size (n+1) v (xs++cs.toList)) ((execOp ρ o).run P z):=by
 obtain⟨g,cap,w',hrun,r1,r2,r3,_⟩:=run_append_lies (P:=P) z t o.type base e i z0 size bytes ht hi hz hsize hby hzs hsz v n xs hown ⟨bx,0,none⟩ 1 1 cs.toList (by simp[hl]) (World.news_of_block hbx) h1 (by omega) h63 jM hbase _ rfl;simp only[execOp,hop,resolve,invoke,builtin,Sem.run_bind,Sem.run_pure,Result.andThen_ok,List.map_toArray,kN,List.map_nil,hs,hx,hrun];refine⟨⟨g,cap,rfl⟩,⟨r1,?_⟩,aH.jG r2⟩;rcases r3 with r3|r3
 .exact .inl (by rw[r3];rfl)
 .exact .inr (λb hb=>by simp only[Value.ownBlock,Option.some.injEq]at hb;omega)
end
section
open Go.RowKit Go.Shelf
def aaB(X:SX)(lo hi:Nat->Int)(H:List (Nat×Int×Int))(v:Value)(w:World)(e:Ending)(w':World):Prop:=
 ∃(A:Option Addr)(oc:Nat),e= .returned v/\aR w' X lo hi A oc H/\oQ X w w'
theorem agQ(a b c d:Int)(w:World):(Op.equalIn 10000 177 (.agg #[.int .i64 a,.int .i64 b]) (.agg #[.int .i64 c,.int .i64 d])).run Tryz.prog w= .ok (decide (a=c)&&decide (b=d)) w:=by
 have u3:=Tryz.underlying3;have hS:Tryz.prog.underlying 177=some (.struct (Tryz.prog.fieldsOf 177)):=by kernel_rfl
 rw[show(10000:Nat)=9999+1 from rfl,run_equalIn_agg w 9999 177 _ _ hS (by kernel_rfl)];simp only[Program.fieldsOf,Tryz.underlying177];go_simp;by_cases h1:a=c<;>by_cases h2:b=d<;>simp[h1,h2]
attribute [local go_sem] jJ GR stillUpon bH
theorem MI(X:SX)(lo hi:Nat->Int)(A:Option Addr)(oc:Nat)(H:List (Nat×Int×Int))(a:Nat)(l u:Int)(w:World)(hS:aR w X lo hi A oc H)(ha:a<X.n)(hH:H.length<=1000000):
 Calls Tryz.prog 141 #[.pointer (some ⟨X.sb,0,none⟩),.int .i64 a,.agg #[.int .i64 l,.int .i64 u]] w
  (aaB X (if lo a=l/\hi a=u then lo else setAt lo a l) (if lo a=l/\hi a=u then hi else setAt hi a u) (if lo a=l/\hi a=u then H else H++[(a,lo a,hi a)]) (.bool (!decide (lo a=l/\hi a=u))) w):=by
 by_cases he:lo a=l/\hi a=u
 .simp only[if_pos he,decide_eq_true he,Bool.not_true]
  have HE:=ah he;clear he;have HS:=ah hS;clear hS;go_enter Tryz.func141,Tryz.ntmps141;go_upto_region 1 with(fail)
  generalize hW0:World.alloc _ _=W0;obtain⟨HB,hh0⟩:=bx1 hW0;have HX0:Hid (Own W0 177 w.heap.size [.int .i64 l,.int .i64 u]):=⟨[],by rw[bV];exact hh0⟩;have zZ:=ah (HS.out.below HB.out);clear hh0 hW0 HS;have b0:∀z:Bl W0,z.val.cell? ⟨w.heap.size,0,none⟩=some (.int .i64 l):=λz=>(HX0.out.below z.prop).cell rfl;have b1:∀z:Bl W0,z.val.cell? ⟨w.heap.size,1,none⟩=some (.int .i64 u):=λz=>(HX0.out.below z.prop).cell rfl;have s0:∀z:Bl W0,z.val.cell? ⟨X.sb,0,none⟩=some (.slice (some ⟨X.bb,0,none⟩) X.n X.n):=λz=>(zZ.out.below z.prop).box.cell rfl;have s3:∀z:Bl W0,z.val.cell? ⟨X.sb,3,none⟩=some (.slice A H.length oc):=λz=>(zZ.out.below z.prop).box.cell rfl;have d0:∀z:Bl W0,z.val.cell? ⟨X.bb,a*2,none⟩=some (.int .i64 (lo a)):=λz=>(zZ.out.below z.prop).bnd.cell (dV lo hi ha (j:=0) (by omega));have d1:∀z:Bl W0,z.val.cell? ⟨X.bb,a*2+1,none⟩=some (.int .i64 (hi a)):=λz=>(zZ.out.below z.prop).bnd.cell (dV lo hi ha (j:=1) (by omega));have ha0:(a:Int)<(X.n:Int):=by omega
  simp only[HE.out.1]at d0;simp only[HE.out.2]at d1;change Code.wp _ _ _ _ (Bl.val (⟨W0,aC _ _⟩:Bl W0));generalize(⟨W0,aC _ _⟩:Bl W0)=z0;refine aI (by kernel_rfl) (by kernel_rfl) ?_;repeat(go_big_quiet_step (fail))
  refine aS ?_;rintro _ ⟨z1,rfl⟩;go_wp2;go_ret;exact⟨A,oc,rfl,zZ.out.below z1.prop,oQ.of_below (ay HB.out z1.prop)⟩
 .simp only[if_neg he,decide_eq_false he,Bool.not_false]
  have q1:∀w:World,(Op.equalIn 10000 177 (.agg #[.int .i64 (lo a),.int .i64 (hi a)]) (.agg #[.int .i64 l,.int .i64 u])).run Tryz.prog w= .ok false w:=λw=>by
   rw[agQ];congr 1;cases h1:decide (lo a=l)<;>cases h2:decide (hi a=u)<;>simp_all
  have HE:=ah he;clear he;have HS:=ah hS;clear hS;go_enter Tryz.func141,Tryz.ntmps141;go_upto_region 1 with(fail)
  generalize hW0:World.alloc _ _=W0;obtain⟨HB,hh0⟩:=bx1 hW0;have HX0:Hid (Own W0 177 w.heap.size [.int .i64 l,.int .i64 u]):=⟨[],by rw[bV];exact hh0⟩;have zZ:=ah (HS.out.below HB.out);clear hh0 hW0 HS;have b0:∀z:Bl W0,z.val.cell? ⟨w.heap.size,0,none⟩=some (.int .i64 l):=λz=>(HX0.out.below z.prop).cell rfl;have b1:∀z:Bl W0,z.val.cell? ⟨w.heap.size,1,none⟩=some (.int .i64 u):=λz=>(HX0.out.below z.prop).cell rfl;have s0:∀z:Bl W0,z.val.cell? ⟨X.sb,0,none⟩=some (.slice (some ⟨X.bb,0,none⟩) X.n X.n):=λz=>(zZ.out.below z.prop).box.cell rfl;have s3:∀z:Bl W0,z.val.cell? ⟨X.sb,3,none⟩=some (.slice A H.length oc):=λz=>(zZ.out.below z.prop).box.cell rfl;have d0:∀z:Bl W0,z.val.cell? ⟨X.bb,a*2,none⟩=some (.int .i64 (lo a)):=λz=>(zZ.out.below z.prop).bnd.cell (dV lo hi ha (j:=0) (by omega));have d1:∀z:Bl W0,z.val.cell? ⟨X.bb,a*2+1,none⟩=some (.int .i64 (hi a)):=λz=>(zZ.out.below z.prop).bnd.cell (dV lo hi ha (j:=1) (by omega));have ha0:(a:Int)<(X.n:Int):=by omega
  change Code.wp _ _ _ _ (Bl.val (⟨W0,aC _ _⟩:Bl W0));generalize(⟨W0,aC _ _⟩:Bl W0)=z0;refine aI (by kernel_rfl) (by kernel_rfl) ?_;repeat(go_big_quiet_step (fail))
  refine aS ?_;rintro _ ⟨z1,rfl⟩;have nC:Hid (Below w.heap.size w z1.val):=ay HB.out z1.prop;have xM:=ah (zZ.out.below z1.prop);have nY:=ah (HX0.out.below z1.prop);clear q1 b0 b1 s0 s3 d0 d1 zZ HX0 HB;go_upto_region 3 with(fail)
  generalize z1.val=Z at nC xM nY⊢;clear z0 z1;obtain⟨S,hSd⟩:∃S:Nat->Prop,S=λb=>(Value.slice A H.length oc).ownBlock=some b:=⟨_,rfl⟩;have uf:Hid (∀(t:TypeId)(b:Nat)(cs:List Value),Own Z t b cs->t≠222->¬S b):=λt b cs ho ht hs=>by
   obtain⟨tl,ho⟩:=ho;rw[hSd]at hs;exact dz xM.out.old ho ht hs
  have HSL:Hid (∀b,S b->SSet X Z b/\b<Z.heap.size):=λb hs=>by
   rw[hSd]at hs;exact⟨MH xM.out.old (bJ _) hs,(xM.out.old.lt b hs).2⟩
  have x0:∀y:Wl (λz=>aH S Z z),y.val.cell? ⟨X.sb,0,none⟩=some (.slice (some ⟨X.bb,0,none⟩) X.n X.n):=λy=>(xM.out.box.keep y.prop (uf.out _ _ _ xM.out.box (by decide))).cell rfl;have x3:∀y:Wl (λz=>aH S Z z),y.val.cell? ⟨X.sb,3,none⟩=some (.slice A H.length oc):=λy=>(xM.out.box.keep y.prop (uf.out _ _ _ xM.out.box (by decide))).cell rfl;have d0:∀y:Wl (λz=>aH S Z z),y.val.cell? ⟨X.bb,a*2,none⟩=some (.int .i64 (lo a)):=λy=>(xM.out.bnd.keep y.prop (uf.out _ _ _ xM.out.bnd (by decide))).cell (dV lo hi ha (j:=0) (by omega));have d1:∀y:Wl (λz=>aH S Z z),y.val.cell? ⟨X.bb,a*2+1,none⟩=some (.int .i64 (hi a)):=λy=>(xM.out.bnd.keep y.prop (uf.out _ _ _ xM.out.bnd (by decide))).cell (dV lo hi ha (j:=1) (by omega));obtain⟨ii,hii,hiz,his,hib⟩:=info_parts' (P:=Tryz.prog) (t:=222) (z:=some (.agg #[.int .i64 0,.int .i64 0,.int .i64 0])) (s:=3) (b:=24) (by kernel_rfl)
  haveI:Inhabited (Wl (λz=>aH S Z z)):=⟨⟨Z,aH.refl _ _⟩⟩
  refine sF (s:=(⟨Z,aC _ _⟩:Wl (λz=>Below Z.heap.size Z z))) (C1:=λz=>aH S Z z) (T:=aH S) (f:=15) 16 (λi=>match i with
   |14=>some (oU Z 222 #[.int .i64 a,.int .i64 (lo a),.int .i64 (hi a)])
   |15=>some (CJ Z X.B 222 3 (H.length+1) (.slice A H.length oc) (H.flatMap p8++[.int .i64 a,.int .i64 (lo a),.int .i64 (hi a)]))
   |_=>none) (λi=>match i with
   |15=>[14]
   |_=>[]) [14] [] (by simp) (by kernel_rfl) (by kernel_rfl) (by simp) (by simp) (by kernel_rfl) ?bnd ?keeps (D5 Z S) ?_
  case bnd=>
   intro p hp o t ho ht;simp only[d_]at hp;subst hp;simp only[List.getElem?_toArray,List.getElem?_cons_succ,Aa,Option.some.injEq]at ho;subst ho;simp only[Option.some.injEq]at ht;subst ht;simp
  case keeps=>
   intro i sp h;split at h
   .injection h with h;subst h;exact qK _ _ _ _ _ _ (λk hk=>(HSL.out k hk).2)
   .injection h with h;subst h;exact⟨uT _ _ _ _ _ _ _,λh=>absurd rfl h⟩
   .cases h
  simp only[fP,bX,fZ,bY];repeat(refine Dt rfl (λK hK=>?_);go_simp;refine hK _ ?_;clear hK K)
  refine GV _ rfl rfl rfl ?_ (λy _=>?_) ?_
  .exact⟨_,Z.heap.size,bJ _,rfl⟩
  .go_simp
   refine⟨⟨_,bL y.prop.size (bJ _),rfl⟩,λb hb=>?_,aN (aC _ _) _⟩;simp only[Value.slice.injEq,Option.some.injEq,Addr.mk.injEq,and_true]at hb;subst hb;exact⟨y.prop.size,bQ _ _⟩
  rintro _ ⟨gb,hgb,rfl⟩;refine GX _ rfl rfl rfl ?_ (λy hpre=>?_) ?_
  .exact⟨_,0,0,rfl⟩
  .have hp:=hpre 14 (by simp) (oU Z 222 #[.int .i64 a,.int .i64 (lo a),.int .i64 (hi a)]) rfl _ _ rfl rfl gb rfl
   rw[hSd];exact uU (P:=Tryz.prog) (Z:=Z) (z:=y.val) (.tmp 20) (.tmp 30) 173 rfl X.B 222 ii (.agg #[.int .i64 0,.int .i64 0,.int .i64 0]) 3 24 Tryz.underlying173 hii hiz his hib rfl (by decide) (.slice A H.length oc) H.length (H.flatMap p8) rfl (dx xM.out.old y.prop) gb #[.int .i64 a,.int .i64 (lo a),.int .i64 (hi a)] 222 (0,0) rfl hp.2 rfl (by intro u hu;simp only[dI,gN,or_false]at hu;rcases hu with rfl|rfl|rfl<;>rfl) (by unfold maxLen;omega) (by omega) (by have h1:=xM.out.low.1;have h2:=xM.out.box.lt;have h3:=y.prop.size;omega) y.prop.size
  rintro _ ⟨g6,c6,rfl⟩;refine LY ?_;rintro y ⟨⟨_,_⟩,hrow,uS⟩;have Iz:=xM.out.box.keep y.prop (uf.out _ _ _ xM.out.box (by decide));have VA:=xM.out.bnd.keep y.prop (uf.out _ _ _ xM.out.bnd (by decide));have hxb:=nY.out.keep y.prop (uf.out _ _ _ nY.out (by decide));have hsb:X.sb<y.val.heap.size:=Iz.lt;have z3:=x3 y;have f3:=Iz.frozen 3;have hmv:oQ X Z (y.val.setCell ⟨X.sb,3,none⟩ (.slice (some ⟨g6,0,none⟩) (H.length+1) c6)):=by
   refine oQ.MG (S:=λb=>S b\/b=X.sb) ((y.prop.mono (λi _ h=>.inl h)).setCell (.inl (.inr rfl)) _) (λk hk _=>?_);rcases hk with hk|rfl
   .exact(HSL.out k hk).1
   .exact xM.out.box.sset xM.out.low.1 (.inl rfl) (.inl rfl)
  have JB:Hid (aR (y.val.setCell ⟨X.sb,3,none⟩ (.slice (some ⟨g6,0,none⟩) (H.length+1) c6)) X lo hi (some ⟨g6,0,none⟩) c6 (H++[(a,lo a,hi a)])):=by
   have hl:(H++[(a,lo a,hi a)]).length=H.length+1:=by simp
   have hu2:aH (λb=>b=X.sb) y.val (y.val.setCell ⟨X.sb,3,none⟩ (.slice (some ⟨g6,0,none⟩) (H.length+1) c6)):=(aH.refl (λb=>b=X.sb) y.val).setCell (p:=⟨X.sb,3,none⟩) (.inl rfl) _;refine⟨xM.out.vI.FT hmv,xM.out.xP.FT hmv,xM.out.Iw,xM.out.Iy,?_,VA.keep hu2 (λe=>VA.ne Iz (by decide) e),?_,xM.out.low⟩
   .rw[hl]
    exact Iz.set (i:=3) (by simp) _
   .rw[hl,show(H++[(a,lo a,hi a)]).flatMap p8=H.flatMap p8++[.int .i64 a,.int .i64 (lo a),.int .i64 (hi a)] by rw[Ef];rfl]
    refine bZ hrow hu2 (λb hb e=>?_);subst e;obtain⟨tl,Iz⟩:=Iz;exact dz hrow Iz (by decide) hb
  have uj:Hid (Own (y.val.setCell ⟨X.sb,3,none⟩ (.slice (some ⟨g6,0,none⟩) (H.length+1) c6)) 177 w.heap.size [.int .i64 l,.int .i64 u]):=
   hxb.keep ((aH.refl (λb=>b=X.sb) y.val).setCell (p:=⟨X.sb,3,none⟩) (.inl rfl) _) (λe=>hxb.ne Iz (by decide) e)
  have Ni:=ah ((oQ.of_below nC.out).trans hmv);clear hmv Iz VA hxb hrow uS x0 x3 d0 d1 xM nY hgb;gi_wp2;generalize y.val.setCell ⟨X.sb,3,none⟩ (.slice (some ⟨g6,0,none⟩) (H.length+1) c6)=W3 at JB uj Ni⊢;clear z3 f3;have b0:=uj.out.cell (i:=0) rfl;have b1:=uj.out.cell (i:=1) rfl;have s0:W3.cell? ⟨X.sb,0,none⟩=some (.slice (some ⟨X.bb,0,none⟩) X.n X.n):=JB.out.box.cell rfl;have d0:=JB.out.bnd.cell (dV lo hi ha (j:=0) (by omega));have d1:=JB.out.bnd.cell (dV lo hi ha (j:=1) (by omega));rw[kH]at d0;have f0:=JB.out.bnd.frozen (a*2);have f1:=JB.out.bnd.frozen (a*2+1);go_upto_region 4 with(fail)
  refine iP 6 (by simp) (by kernel_rfl) (by kernel_rfl) ?_;simp only[fP,bX,fZ,bY];repeat(go_big_quiet_step (fail))
  refine aS ?_;rintro _ ⟨mq,rfl⟩;gi_wp2;have hbd:=JB.out.bnd;have hbx:=JB.out.box;have hud:aH (λ_=>False) W3 (W3.drewN mq):=(aH.refl _ _).drewN mq;have Vz:=((hbd.keep hud (λh=>h)).set (i:=a*2) (by rw[nX];omega) (.int .i64 l)).set (i:=a*2+1) (by rw[List.length_set,nX];omega) (.int .i64 u);rw[Pm lo hi ha]at Vz;have RU:aH (λb=>b=X.bb) W3 (((W3.drewN mq).setCell ⟨X.bb,a*2,none⟩ (.int .i64 l)).setCell ⟨X.bb,a*2+1,none⟩ (.int .i64 u)):=
   (((aH.refl (λb=>b=X.bb) W3).drewN mq).setCell (p:=⟨X.bb,a*2,none⟩) (.inl rfl) _).setCell (p:=⟨X.bb,a*2+1,none⟩) (.inl rfl) _
  have Pn:oQ X W3 (((W3.drewN mq).setCell ⟨X.bb,a*2,none⟩ (.int .i64 l)).setCell ⟨X.bb,a*2+1,none⟩ (.int .i64 u)):=
   oQ.MG RU (λk hk _=>by subst hk;exact hbd.sset JB.out.low.2 (.inr (.inl rfl)) (.inr (.inl rfl)))
  have HS4:Hid (aR (((W3.drewN mq).setCell ⟨X.bb,a*2,none⟩ (.int .i64 l)).setCell ⟨X.bb,a*2+1,none⟩ (.int .i64 u)) X (setAt lo a l) (setAt hi a u) (some ⟨g6,0,none⟩) c6 (H++[(a,lo a,hi a)])):=by
   refine⟨JB.out.vI.FT Pn,JB.out.xP.FT Pn,JB.out.Iw,JB.out.Iy,hbx.keep RU (λe=>hbx.ne hbd (by decide) e),Vz,bZ JB.out.old RU (λb hb e=>?_),JB.out.low⟩;subst e;obtain⟨tl,hbd⟩:=hbd;exact dz JB.out.old hbd (by decide) hb
  have HM4:=ah (Ni.out.trans Pn);clear Pn RU Vz hud hbx hbd b0 b1 s0 d0 d1 f0 f1 JB uj Ni;go_wp2;go_ret;exact⟨_,_,rfl,HS4.out,HM4.out⟩
end
section
open Go.RowKit Go.Shelf
def ze(W0:World)(e:TypeId)(n:Nat)(cs:Array Value):bK:=
 ⟨λv=>∃b,W0.heap.size<=b/\v= .slice (some ⟨b,0,none⟩) n n,λv z=>∀b,v= .slice (some ⟨b,0,none⟩) n n->z.heap[b]?=some (.cells cs e (0,0))⟩
theorem sM(W0:World)(e:TypeId)(n:Nat)(cs:Array Value):(ze W0 e n cs).Keeps:=λv z z' h hb b hv=>by
 have h1:=h b hv;rw[hb.block b (aF h1)];exact h1
def PrN(n:Nat)(_ _:Nat)(u v:Value):Prop:=∀b b',u= .slice (some ⟨b,0,none⟩) n n->v= .slice (some ⟨b',0,none⟩) n n->b≠b'
theorem Bj{P:Program}{W0:World}{o:Oper}{ρ:Operand->Value}{mk:Nat->Option bK}{ds:List Nat}{j:Nat}(t:TypeId)(l c:Operand)(hop:o.op=Op.makeSlice t l c)(e:TypeId)(i:TypeInfo)(z:Value)(size:Nat)(ht:P.underlying t=some (.slice e))(hi:P.info? e=some i)(hz:i.zero=some z)(hsz:i.size=size)
 (n:Nat)(hl:ρ l= .int .i64 (n:Int))(hc:ρ c= .int .i64 (n:Int))(hb:i.bytes*n<=281474976710656)(h63:n<=9223372036854775807)(w:World)(hw:W0.heap.size<=w.heap.size)(hp:j∈ds->∀p∈ds,p≠j->∀sp,mk p=some sp->∀u,sp.S u w->∀b,u= .slice (some ⟨b,0,none⟩) n n->b<w.heap.size):
 bH P w (Og (ze W0 e n (madeCells z.cells (n*size))) (KH mk ds (PrN n) j w)) ((execOp ρ o).run P w):=by
 subst hsz;have hb':(i.bytes:Int)*(n:Int)<=281474976710656:=by
  have h:((i.bytes*n:Nat):Int)<=281474976710656:=by omega
  rwa [Int.natCast_mul]at h
 have hr:=run_make (P:=P) w t e i z ht hi hz .i64 .i64 n n (by omega) (iI _) hb' (by omega);simp only[xg]at hr;simp only[execOp,hop,hl,hc,Sem.run_bind,hr,Result.andThen_ok,Sem.run_pure];refine⟨⟨⟨w.heap.size,hw,rfl⟩,λhj p hpd hne sp hsp u hu=>?_⟩,λb hv=>?_,aN (aC _ _) _⟩
 .have h1:=hp hj p hpd hne sp hsp u hu
  refine⟨λb b' e1 e2=>?_,λb b' e1 e2=>?_⟩
  .have:=h1 b e1
   simp only[Value.slice.injEq,Option.some.injEq,Addr.mk.injEq,and_true]at e2;omega
  .have:=h1 b' e2
   simp only[Value.slice.injEq,Option.some.injEq,Addr.mk.injEq,and_true]at e1;omega
 .simp only[Value.slice.injEq,Option.some.injEq,Addr.mk.injEq,and_true]at hv
  subst hv;exact bQ w _
theorem VB(n:Nat):(madeCells (Value.cells (.agg #[.int .i64 0,.int .i64 0])) (n*2)).toList=Fy (λ_=>0) (λ_=>0) n:=by
 rw[Hr];unfold Fy DY iy;apply kM;intro j;rcases iO j (n*2)with hj|hj
 .have h1:=fO (P:=List.replicate n (0,0)) (i:=j/2) (j:=j % 2) (p:=(0,0)) (by rw[BK,if_pos (by omega)]) (by omega)
  have h2:=dV (λ_=>0) (λ_=>0) (n:=n) (i:=j/2) (j:=j % 2) (by omega) (by omega);rw[show j/2*2+j % 2=j by omega]at h1 h2;exact h1.trans h2.symm
 .have h1:=mE (List.replicate n (0,0))
  have h2:=nX (λ_=>0) (λ_=>0) n;rw[nI]at h1;rw[nH (by show(iy (List.replicate n (0,0))).length<=j;rw[h1];exact hj),nH (by show(Fy (λ_=>0) (λ_=>0) n).length<=j;rw[h2];exact hj)]
def oz(P:List (Nat×Nat))(n k:Nat):List (List Int):=(List.range n).map (λi=>((P.take k).filter (λp=>p.2==i)).map (λp=>(p.1:Int)))
def oC(P:List (Nat×Nat))(n k:Nat):List (List Int):=(List.range n).map (λi=>((P.take k).filter (λp=>p.1==i)).map (λp=>(p.2:Int)))
theorem RX(P:List (Nat×Nat))(n:Nat):oz P n 0=List.replicate n []:=by
 apply kM;intro i;by_cases h:i<n<;>simp[oz,h]
theorem RY(P:List (Nat×Nat))(n:Nat):oC P n 0=List.replicate n []:=by
 apply kM;intro i;by_cases h:i<n<;>simp[oC,h]
theorem KZ{P:List (Nat×Nat)}{n k i:Nat}(h:i<n):(oz P n k)[i]?=some (((P.take k).filter (λp=>p.2==i)).map (λp=>(p.1:Int))):=by
 unfold oz;rw[fM,Ab h];rfl
theorem K3{P:List (Nat×Nat)}{n k i:Nat}(h:i<n):(oC P n k)[i]?=some (((P.take k).filter (λp=>p.1==i)).map (λp=>(p.2:Int))):=by
 unfold oC;rw[fM,Ab h];rfl
theorem Ar{α:Type}{f g:Nat->α}{n j:Nat}(h:∀i,i≠j->g i=f i):(List.range n).map g=((List.range n).map f).set j (g j):=by
 apply kM;intro i;rw[j4];simp only[fM,dS,List.length_range];by_cases e:j=i
 .subst e
  rw[if_pos rfl];by_cases hj:j<n
  .rw[if_pos hj,Ab hj];rfl
  .rw[if_neg hj,nH (by simp;omega)];rfl
 .rw[if_neg e]
  by_cases hi:i<n
  .rw[Ab hi]
   simp only[kG];rw[h i (λe2=>e e2.symm)]
  .rw[nH (by simp;omega)];rfl
theorem VD{P:List (Nat×Nat)}{n k:Nat}{p:Nat×Nat}(hp:P[k]?=some p):oz P n (k+1)=(oz P n k).set p.2 (((P.take k).filter (λq=>q.2==p.2)).map (λq=>(q.1:Int))++[(p.1:Int)]):=by
 unfold oz;rw[bS hp,Ar (f:=λi=>((P.take k).filter (λq=>q.2==i)).map (λq=>(q.1:Int))) (j:=p.2) (λi hi=>?_)]
 .simp[List.filter_append]
 .rw[List.filter_append,tK]
  have:(p.2==i)=false:=by simp;exactλe=>hi e.symm
  simp[this]
theorem VE{P:List (Nat×Nat)}{n k:Nat}{p:Nat×Nat}(hp:P[k]?=some p):oC P n (k+1)=(oC P n k).set p.1 (((P.take k).filter (λq=>q.1==p.1)).map (λq=>(q.2:Int))++[(p.2:Int)]):=by
 unfold oC;rw[bS hp,Ar (f:=λi=>((P.take k).filter (λq=>q.1==i)).map (λq=>(q.2:Int))) (j:=p.1) (λi hi=>?_)]
 .simp[List.filter_append]
 .rw[List.filter_append,tK]
  have:(p.1==i)=false:=by simp;exactλe=>hi e.symm
  simp[this]
def aaD(F:List au)(O:List aP)(u:Int)(w:World)(e:Ending)(w':World):Prop:=
 ∃X:SX,e= .returned (.pointer (some ⟨X.sb,0,none⟩))/\X.B=w.heap.size/\(X.B<=X.rb/\X.B<=X.ab)/\X.n=F.length/\X.Lb=oz (bI F O) F.length O.length/\X.La=oC (bI F O) F.length O.length/\aR w' X (JW F u) (JX F u) none 0 []/\Below w.heap.size w w'
attribute [local go_sem] jJ GR stillUpon bH
theorem Kc(fv:FV)(ho:Int)(F:List au)(O:List aP)(u:Int)(w:World)(hF:dB w fv ⟨ho,F,O⟩)(hR:∀x∈F,fD x.ref)(hD:aT F)(hF4:F.length<=4000)(hO4:O.length<=4000)(hK:Known F O):
 Calls Tryz.prog 63 #[fv.val ⟨ho,F,O⟩,.int .i64 u] w (aaD F O u w):=by
 obtain⟨⟨fA,fc⟩,⟨oA,oc⟩⟩:=fv;have HF:=ah hF;clear hF;have HR:=ah hR;clear hR;have HD:=ah hD;clear hD;have HK:=ah hK;clear hK;simp only[FV.val,FV.cells];obtain⟨n,HN⟩:∃n,Hid (n=F.length):=⟨_,rfl⟩;rw[<-HN.out];have Tp:n<=4000:=by rw[HN.out];exact hF4
 go_enter Tryz.func63,Tryz.ntmps63;go_upto_region 1 with(fail)
 generalize hW0:World.alloc _ _=W0;obtain⟨HB,hh0⟩:=bx1 hW0;obtain⟨j5,j6,kE⟩:=kc3 hh0;have hs0:w.heap.size<W0.heap.size:=aF hh0;clear hh0 hW0;change Code.wp _ _ _ _ (Bl.val (⟨W0,aC _ _⟩:Bl W0));generalize hz0:(⟨W0,aC _ _⟩:Bl W0)=z0;go_upto_region 2 with(fail)
 rw[<-hz0];clear hz0 z0;obtain⟨i1,hi1,hz1,hsz1,akl⟩:=info_parts' (P:=Tryz.prog) (t:=177) (z:=some (.agg #[.int .i64 0,.int .i64 0])) (s:=2) (b:=16) (by kernel_rfl);obtain⟨i2,hi2,hz2,hsz2,agR⟩:=info_parts' (P:=Tryz.prog) (t:=22) (z:=some (.slice none 0 0)) (s:=1) (b:=24) (by kernel_rfl);refine G5 (s:=(⟨W0,aC _ _⟩:Bl W0)) 7 (λi=>match i with
  |1=>some (ze W0 177 n (madeCells (Value.cells (.agg #[.int .i64 0,.int .i64 0])) (n*2)))
  |3=>some (ze W0 22 n (madeCells (Value.cells (.slice none 0 0)) (n*1)))
  |5=>some (ze W0 22 n (madeCells (Value.cells (.slice none 0 0)) (n*1)))
  |_=>none) (λ_=>[]) [3,5] [] (PrN n) (by simp) (by kernel_rfl) (by kernel_rfl) (by simp) (by simp) (by kernel_rfl) ?bnd ?keeps (by simp) ?_
 case bnd=>
  intro p hp o t ho ht;simp only[dI,gN,or_false]at hp;rcases hp with rfl|rfl
  all_goals
   simp only[List.getElem?_toArray,List.getElem?_cons_succ,Aa,Option.some.injEq]at ho;subst ho;simp only[Option.some.injEq]at ht;subst ht;simp
 case keeps=>
  intro i sp h;split at h
  .injection h with h;subst h;exact sM _ _ _ _
  .injection h with h;subst h;exact sM _ _ _ _
  .injection h with h;subst h;exact sM _ _ _ _
  .cases h
 simp only[fP,bX,fZ,bY];repeat(refine zG rfl (λK hK=>?_);go_simp;refine hK _ ?_;clear hK K)
 refine GZ _ rfl rfl ?_ (λy _=>Bj 172 (.tmp 16) (.tmp 16) rfl 177 i1 (.agg #[.int .i64 0,.int .i64 0]) 2 Tryz.underlying172 hi1 hz1 hsz1 n rfl rfl (by rw[akl];omega) (by omega) y.val y.prop.size ?_) ?_
 .exact⟨_,W0.heap.size,bJ _,rfl⟩
 .intro h;simp at h
 rintro _ ⟨bb,hbb,rfl⟩;repeat(refine zG rfl (λK hK=>?_);go_simp;refine hK _ ?_;clear hK K)
 refine GZ _ rfl rfl ?_ (λy _=>Bj 84 (.tmp 18) (.tmp 18) rfl 22 i2 (.slice none 0 0) 1 Tryz.underlying84 hi2 hz2 hsz2 n rfl rfl (by rw[agR];omega) (by omega) y.val y.prop.size ?_) ?_
 .exact⟨_,W0.heap.size,bJ _,rfl⟩
 .intro _ p hp hne sp hsp u hu b hb
  simp only[dI,gN,or_false]at hp;rcases hp with rfl|rfl
  .exact absurd rfl hne
  .injection hsp with hsp
   subst hsp;exact aF (hu b hb)
 rintro _ ⟨rb,hrb,rfl⟩;repeat(refine zG rfl (λK hK=>?_);go_simp;refine hK _ ?_;clear hK K)
 refine GZ _ rfl rfl ?_ (λy _=>Bj 84 (.tmp 20) (.tmp 20) rfl 22 i2 (.slice none 0 0) 1 Tryz.underlying84 hi2 hz2 hsz2 n rfl rfl (by rw[agR];omega) (by omega) y.val y.prop.size ?_) ?_
 .exact⟨_,W0.heap.size,bJ _,rfl⟩
 .intro _ p hp hne sp hsp u hu b hb
  simp only[dI,gN,or_false]at hp;rcases hp with rfl|rfl
  .injection hsp with hsp
   subst hsp;exact aF (hu b hb)
  .exact absurd rfl hne
 rintro _ ⟨ab,hab,rfl⟩;repeat(refine zG rfl (λK hK=>?_);go_simp;refine hK _ ?_;clear hK K)
 refine ZW ?_;rintro Yu y ⟨⟨⟨_,hA⟩,hC⟩,hE⟩;have hne:rb≠ab:=Yu 3 (by simp) 5 (by simp) (by omega) rfl rfl _ rfl _ rfl _ _ _ _ rfl rfl rfl rfl rb ab rfl rfl;have g1:=hA bb rfl;have g2:=hC rb rfl;have g3:=hE ab rfl;clear hA hC hE Yu;gi_wp2;obtain⟨sb,hsb⟩:∃sb,sb=y.val.heap.size:=⟨_,rfl⟩;rw[<-hsb];generalize hW1:World.alloc _ _=W1;have hb1:Below y.val.heap.size y.val W1:=by rw[<-hW1];exact aN (aC _ _) _
 have hbW:Below W0.heap.size W0 W1:=ay y.prop hb1;have hBX:Own W1 175 sb [.slice (some ⟨bb,0,none⟩) n n,.slice (some ⟨rb,0,none⟩) n n,.slice (some ⟨ab,0,none⟩) n n,.slice none 0 0]:=by
  rw[<-hW1,hsb];exact Own.new _ _ _
 have hrows:∀b,y.val.heap[b]?=some (.cells (madeCells (Value.slice none 0 0).cells (n*1)) 22 (0,0))->Own W1 22 b (List.replicate n (.slice none 0 0)):=λb hb=>by
  refine⟨[],?_⟩;rw[bV,<-KX,Array.toArray_toList];exact(hb1.block b (aF hb)).trans hb
 have VA:Own W1 177 bb (Fy (λ_=>0) (λ_=>0) n):=by
  refine⟨[],?_⟩;rw[bV,<-VB,Array.toArray_toList];exact(hb1.block bb (aF g1)).trans g1
 have xM:Hid (aR (Bl.val (⟨W1,hbW⟩:Bl W0)) ⟨w.heap.size,sb,bb,rb,ab,n,List.replicate n (.slice none 0 0),List.replicate n (.slice none 0 0),List.replicate n [],List.replicate n []⟩ (λi=>if i<0 then JW F u i else 0) (λi=>if i<0 then JX F u i else 0) none 0 []):=by
  refine⟨cZ.made (hrows rb g2),cZ.made (hrows ab g3),by simp,by simp,hBX,?_,World.ownsRow_nil _ _ _ _,?_⟩
  .simpa using VA
  .have:=y.prop.size
   constructor
   .show w.heap.size<=sb
    omega
   .show w.heap.size<=bb
    omega
 have hlow:w.heap.size<sb/\w.heap.size<bb/\w.heap.size<rb/\w.heap.size<ab/\W0.heap.size<=bb:=by
  have:=y.prop.size;omega
 have uR:Hid (∀z:Bl W0,Below w.heap.size w z.val):=λz=>ay HB.out z.prop;change Code.wp _ _ _ _ (Bl.val (⟨W1,hbW⟩:Bl W0));generalize(⟨W1,hbW⟩:Bl W0)=s1 at xM⊢;clear hBX hrows VA hb1 hbW hW1 hsb g1 g2 g3 hbb hrb hab y;go_wp2
 go_loopg [27] n (λgk v27 wr=>∃(k:Nat)(z:Bl W0),gk=n - k/\k<=n/\v27= .int .i64 k/\wr=z.val/\Hid (aR z.val ⟨w.heap.size,sb,bb,rb,ab,n,List.replicate n (.slice none 0 0),List.replicate n (.slice none 0 0),List.replicate n [],List.replicate n []⟩ (λi=>if i<k then JW F u i else 0) (λi=>if i<k then JX F u i else 0) none 0 []))
 case atStart=>exact⟨0,s1,rfl,aZ _,rfl,rfl,xM⟩
 case round=>
  obtain⟨k,z,eZ,hk,rfl,rfl,HS⟩:=hrel;have iL:=ah eZ;clear eZ xM;by_cases hlt:k<n
  .have HNF:=HN.out
   obtain⟨fb,fo,jB,hfb,hcell⟩:=HF.out.facts.fact (by show 0<F.length;omega);simp only at jB;subst jB;obtain⟨⟨re,ac,lo,hi,fi,se⟩,hx⟩:∃x,F[k]?=some x:=⟨F[k]'(by omega),aW (by omega)⟩;obtain⟨e0,e1,e2,e3,e4,e5⟩:=UR (λz hz=>hcell k _ hx z (ay HB.out hz)) rfl;have HX:=ah hx;clear hx hcell HNF;have j1:(k:Int)<(n:Int):=by omega
   go_upto_region 6 with(fail)
   generalize hWa:World.alloc _ _=Wa;obtain⟨hba,hxa⟩:=bx1' hWa;clear hWa;have hSa:=HS.out.below hba;have HBa:Hid (Below W0.heap.size W0 Wa):=ay z.prop hba;obtain⟨d0,d1,d2,d3,d4,d5⟩:=kc6 hxa;have q2:=d2 ⟨Wa,aC _ _⟩;have q3:=d3 ⟨Wa,aC _ _⟩;simp only at q2 q3;have s0:Wa.cell? ⟨sb,0,none⟩=some (.slice (some ⟨bb,0,none⟩) n n):=hSa.box.cell rfl;have c0:=hSa.bnd.cell (dV _ _ hlt (j:=0) (by omega));have c1:=hSa.bnd.cell (dV _ _ hlt (j:=1) (by omega));rw[kH]at c0;simp only[Nat.lt_irrefl,if_false]at c0 c1;have f0:=hSa.bnd.frozen (k*2);have f1:=hSa.bnd.frozen (k*2+1);have HSA:=ah hSa;clear hSa;clear d0 d1 d2 d3 d4 d5 e0 e1 e2 e3 e4 e5 hxa hba;refine iP 14 (by simp) (by kernel_rfl) (by kernel_rfl) ?_;simp only[fP,bX,fZ,bY];repeat(go_big_quiet_step (fail))
   refine aS ?_;rintro _ ⟨mq,rfl⟩;gi_wp2;have xI:=HSA.out.Yr mq (i:=k) hlt (min lo u) (min hi u);have z_:=ah (xI.1.congr (lo':=λi=>if i<k+1 then JW F u i else 0) (hi':=λi=>if i<k+1 then JX F u i else 0) (λi hi'=>by
    by_cases e:i=k
    .subst e
     rw[eY,eY,if_pos (by omega),if_pos (by omega)];unfold JW JX;rw[getD_map HX.out,getD_map HX.out];exact⟨rfl,rfl⟩
    .rw[fq _ _ e,fq _ _ e]
     by_cases h2:i<k
     .rw[if_pos h2,if_pos h2,if_pos (by omega),if_pos (by omega)]
      exact⟨rfl,rfl⟩
     .rw[if_neg h2,if_neg h2,if_neg (by omega),if_neg (by omega)]
      exact⟨rfl,rfl⟩))
   have HBC:Hid (Below W0.heap.size W0 (((Wa.drewN mq).setCell ⟨bb,k*2,none⟩ (.int .i64 (min lo u))).setCell ⟨bb,k*2+1,none⟩ (.int .i64 (min hi u)))):=by
    have h:=(aH.of_below HBa.out).drewN mq;have agS:W0.heap.size<=bb:=hlow.2.2.2.2;exact aH.below ((h.setCell (p:=⟨bb,k*2,none⟩) (.inl agS) (.int .i64 (min lo u))).setCell (p:=⟨bb,k*2+1,none⟩) (.inl agS) (.int .i64 (min hi u))) (bJ _) (λi hi=>hi)
   clear xI HSA HBa q2 q3 s0 c0 c1 f0 f1 HS;generalize(((Wa.drewN mq).setCell ⟨bb,k*2,none⟩ (.int .i64 (min lo u))).setCell ⟨bb,k*2+1,none⟩ (.int .i64 (min hi u)))=Wc at z_ HBC⊢;go_wp2
   go_roundg (n - (k+1))
   case measure=>rw[iL.out];omega
   case rel=>exact⟨k+1,⟨Wc,HBC.out⟩,rfl,by omega,by go_num,rfl,z_⟩
  .obtain rfl:n=k:=by omega
   clear iL hlt;have zZ:=ah (HS.out.congr (lo':=JW F u) (hi':=JX F u) (λi hi'=>by
    have h:i<n:=hi';rw[if_pos h,if_pos h];exact⟨rfl,rfl⟩))
   clear HS;have Dh:=ah (Ht ⟨⟨fA,fc⟩,⟨oA,oc⟩⟩ ⟨ho,F,O⟩ z.val (HF.out.below (uR.out z)) HR.out HD.out hF4 hO4 HK.out);simp only[FV.val,FV.cells]at Dh;rw[<-HN.out]at Dh;go_wp2_with (go_at_call 99;refine Dh.out.mono ?_;rintro e Z ⟨pA,pc,rfl,hP,hpn,hz⟩;refine Hid.out ?_);refine ah ?_;have sV:=ah (Ou HD.out HK.out);have Yv:Hid ((bI F O).length=O.length):=by show _=_;unfold bI;rw[dS]
   have hP4:(bI F O).length<=4000:=by rw[Yv.out];exact hO4
   have Vn:Hid (Below w.heap.size w Z):=(uR.out z).trans (hz.mono (uR.out z).size);have hrz:rb<z.val.heap.size/\ab<z.val.heap.size:=⟨zZ.out.vI.own.lt,zZ.out.xP.own.lt⟩;have HPN:Hid (∀b off,pA=some ⟨b,off,none⟩->¬(b=rb\/b=ab)):=λb off e=>by have:=hpn b off e;omega
   have zW:=zZ.out.below hz;have Bn:Hid (aR Z ⟨w.heap.size,sb,bb,rb,ab,n,List.replicate n (.slice none 0 0),List.replicate n (.slice none 0 0),oz (bI F O) n 0,oC (bI F O) n 0⟩ (JW F u) (JX F u) none 0 []):=by
    show aR _ _ _ _ _ _ _;rw[RX,RY];exact zW
   have Nf:Hid (rb≠ab):=hne;have HPZ:=ah hP;rw[<-HN.out]at sV;clear zW zZ hP hpn hrz Dh hne;generalize hPP:bI F O=P at HPZ hP4 sV Bn Yv;have HPP:=ah hPP;clear hPP;obtain⟨ii,hii,hiz,his,hib⟩:=info_parts' (P:=Tryz.prog) (t:=3) (z:=some (.int .i64 0)) (s:=1) (b:=8) (by kernel_rfl);have hwZ:=Vn.out.size;have hsz:=hz.size;clear hz;go_wp2
   go_loopg [51] P.length (λgk v51 wr=>∃(j:Nat)(vb va:List Value),gk=P.length - j/\j<=P.length/\v51= .int .i64 j/\Hid (aR wr ⟨w.heap.size,sb,bb,rb,ab,n,vb,va,oz P n j,oC P n j⟩ (JW F u) (JX F u) none 0 [])/\Hid (aH (λi=>i=rb\/i=ab) Z wr)/\Hid (∀v,v∈vb\/v∈va->∀b,v.ownBlock=some b->Z.heap.size<=b)/\Hid (∀v∈vb,∀v'∈va,∀b,v.ownBlock=some b->v'.ownBlock≠some b))
   case atStart=>
    refine⟨0,_,_,rfl,aZ _,rfl,Bn,aH.refl _ _,λv hv b hb=>?_,λv hv v' hv' b hb=>?_⟩
    .rcases hv with hv|hv
     .rw[List.eq_of_mem_replicate hv]at hb;cases hb
     .rw[List.eq_of_mem_replicate hv]at hb;cases hb
    .rw[List.eq_of_mem_replicate hv]at hb;cases hb
   case round=>
    obtain⟨j,vb,va,eZ,hj,rfl,Mi,HU,Qq,Ry⟩:=hrel;have Nj:=ah eZ;clear eZ Bn;by_cases hlj:j<P.length
    .obtain⟨⟨x,y⟩,hp⟩:∃p,P[j]?=some p:=⟨P[j],aW hlj⟩
     obtain⟨hx,hy⟩:=sV.out _ (bT hp);simp only at hx hy;have HPW:=vP HPZ.out (by omega) HU.out HPN.out;obtain⟨pb,po,hPA,hpb,hpc⟩:=HPW.1.form (by omega) (by omega);subst hPA;have e0:wr.cell? ⟨pb,po+j*2,none⟩=some (.int .i64 x):=by
      have h:=hpc (j*2) (by omega);rw[h];exact fO (j:=0) hp (by omega)
     have e1:wr.cell? ⟨pb,po+j*2+1,none⟩=some (.int .i64 y):=by
      have h:=hpc (j*2+1) (by omega);rw[lV,h];exact fO (j:=1) hp (by omega)
     have HPJ:=ah hp;clear hp hpc HPW;have j1:(j:Int)<(P.length:Int):=by omega
     have x1':(x:Int)<(n:Int):=by omega
     have y1':(y:Int)<(n:Int):=by omega
     go_upto_region 11 with(fail)
     generalize hWa:World.alloc _ _=Wa;obtain⟨hba,hxa⟩:=bx1' hWa;have q0:∀z:Bl Wa,z.val.cell? ⟨wr.heap.size,0,none⟩=some (.int .i64 x):=λz=>(z.prop.cell (p:=⟨wr.heap.size,0,none⟩) (aF hxa)).trans ((aL Wa _ 0 _ _ _ hxa).trans rfl);have q1:∀z:Bl Wa,z.val.cell? ⟨wr.heap.size,1,none⟩=some (.int .i64 y):=λz=>(z.prop.cell (p:=⟨wr.heap.size,1,none⟩) (aF hxa)).trans ((aL Wa _ 1 _ _ _ hxa).trans rfl);have HSA:=ah (Mi.out.below hba);have HUA:=ah (mD HU.out hba);clear hWa hba hxa e0 e1 Mi HU;change Code.wp _ _ _ _ (Bl.val (⟨Wa,aC _ _⟩:Bl Wa));generalize(⟨Wa,aC _ _⟩:Bl Wa)=za;refine aI (by kernel_rfl) (by kernel_rfl) ?_;repeat(go_big_quiet_step (fail))
     refine aS ?_;rintro _ ⟨zb,rfl⟩;have VF:=ah (HSA.out.below zb.prop);have HUR:=ah (mD HUA.out zb.prop);clear q0 q1 HSA HUA;go_upto_region 12 with(fail)
     generalize zb.val=Wr at VF HUR⊢;obtain⟨rA,rc,hvd,hrow⟩:=VF.out.vI.get (aZ y) (KZ hy);have FR:=ah hvd;clear hvd;have HPT:Hid (oz P n (j+1)=(oz P n j).set y (((P.take j).filter (λq=>q.2==y)).map (λq=>(q.1:Int))++[(x:Int)])):=VD HPJ.out;have hlr:(((P.take j).filter (λq=>q.2==y)).map (λq=>(q.1:Int))).length<=4000:=by
      rw[dS];refine bL (List.length_filter_le _ _) ?_;rw[mV];omega
     generalize((P.take j).filter (λq=>q.2==y)).map (λq=>(q.1:Int))=l at hrow FR HPT hlr;have nE:=ah hrow;clear hrow;have uf:Hid (∀(t:TypeId)(b:Nat)(cs:List Value),Own Wr t b cs->t≠3->¬(Value.slice rA l.length rc).ownBlock=some b):=λt b cs ho ht hs=>by
      obtain⟨tl,ho⟩:=ho;exact dz nE.out ho ht hs
     obtain⟨S,hSd⟩:∃S:Nat->Prop,S=λb=>(Value.slice rA l.length rc).ownBlock=some b:=⟨_,rfl⟩;have x0:∀q:Wl (λz=>aH S Wr z),q.val.cell? ⟨sb,1,none⟩=some (.slice (some ⟨rb,0,none⟩) n n):=λq=>(VF.out.box.keep q.prop (by rw[hSd];exact uf.out _ _ _ VF.out.box (by decide))).cell rfl;have x1:∀q:Wl (λz=>aH S Wr z),q.val.cell? ⟨rb,y,none⟩=some (.slice rA l.length rc):=λq=>(VF.out.vI.own.keep q.prop (by rw[hSd];exact uf.out _ _ _ VF.out.vI.own (by decide))).cell FR.out;have x2:∀q:Wl (λz=>aH S Wr z),q.val.frozen? ⟨rb,y,none⟩=false:=λq=>(VF.out.vI.own.keep q.prop (by rw[hSd];exact uf.out _ _ _ VF.out.vI.own (by decide))).frozen y;have hSl:∀k,S k->k<Wr.heap.size:=λk hk=>by
      rw[hSd]at hk;exact(nE.out.lt k hk).2
     have adM:w.heap.size<=Wr.heap.size:=by have:=VF.out.box.lt;simp only at this;omega
     haveI:Inhabited (Wl (λz=>aH S Wr z)):=⟨⟨Wr,aH.refl _ _⟩⟩
     refine sF (s:=(⟨Wr,aC _ _⟩:Wl (λz=>Below Wr.heap.size Wr z))) (C1:=λz=>aH S Wr z) (T:=aH S) (f:=14) 15 (λi=>match i with
      |13=>some (oU Wr 3 #[.int .i64 (x:Nat)])
      |14=>some (CJ Wr w.heap.size 3 1 (l.length+1) (.slice rA l.length rc) (aY l++[.int .i64 (x:Nat)]))
      |_=>none) (λi=>match i with
      |14=>[13]
      |_=>[]) [13] [] (by simp) (by kernel_rfl) (by kernel_rfl) (by simp) (by simp) (by kernel_rfl) ?akm ?adN (D5 Wr S) ?_
     case akm=>
      intro p hp o t ho ht;simp only[d_]at hp;subst hp;simp only[List.getElem?_toArray,List.getElem?_cons_succ,Aa,Option.some.injEq]at ho;subst ho;simp only[Option.some.injEq]at ht;subst ht;simp
     case adN=>
      intro i sp h;split at h
      .injection h with h;subst h;exact qK _ _ _ _ _ _ hSl
      .injection h with h;subst h;exact⟨uT _ _ _ _ _ _ _,λh=>absurd rfl h⟩
      .cases h
     simp only[fP,bX,fZ,bY];repeat(refine Dt rfl (λK hK=>?_);go_simp;refine hK _ ?_;clear hK K)
     refine GV _ rfl rfl rfl ?_ (λq _=>?_) ?_
     .exact⟨_,Wr.heap.size,bJ _,rfl⟩
     .go_simp
      refine⟨⟨_,bL q.prop.size (bJ _),rfl⟩,λb hb=>?_,aN (aC _ _) _⟩;simp only[Value.slice.injEq,Option.some.injEq,Addr.mk.injEq,and_true]at hb;subst hb;exact⟨q.prop.size,bQ _ _⟩
     rintro _ ⟨gb,hgb,rfl⟩;refine GX _ rfl rfl rfl ?_ (λq hpre=>?_) ?_
     .exact⟨_,0,0,rfl⟩
     .have hp:=hpre 13 (by simp) (oU Wr 3 #[.int .i64 (x:Nat)]) rfl _ _ rfl rfl gb rfl
      rw[hSd];exact uU (P:=Tryz.prog) (Z:=Wr) (z:=q.val) _ _ 22 rfl w.heap.size 3 ii (.int .i64 0) 1 8 Tryz.underlying22 hii hiz his hib rfl (by decide) (.slice rA l.length rc) l.length (aY l) rfl (dx nE.out q.prop) gb #[.int .i64 (x:Nat)] 3 (0,0) rfl hp.2 rfl (by intro u hu;simp only[d_]at hu;subst hu;rfl) (by unfold maxLen;omega) (by omega) (by have h3:=q.prop.size;omega) q.prop.size
     rintro _ ⟨g6,c6,rfl⟩;refine LY ?_;rintro q ⟨⟨_,_⟩,EW,uS⟩;have z1:=x1 q;have z2:=x2 q;have hqp:aH (λb=>(Value.slice rA l.length rc).ownBlock=some b) Wr q.val:=q.prop.mono (λi _ h=>by rw[hSd]at h;exact h);have e6:(l++[(x:Int)]).length=l.length+1:=by simp
     have hput:=VF.out.adI (l':=l++[(x:Int)]) FR.out hqp (by rw[e6,oP];exact EW) uS Nf.out Ry.out;have HOWN:Hid (∀b,(Value.slice (some ⟨g6,0,none⟩) (l.length+1) c6).ownBlock=some b->(Value.slice rA l.length rc).ownBlock=some b\/Wr.heap.size<=b):=λb hb=>by
      rcases uS with e|e
      .exact .inl (by rw[<-e];exact hb)
      .exact .inr (e b hb)
     have HNR:=HPT.out;simp only at hput;rw[<-HNR]at hput;clear HNR EW uS hqp e6 adM hSl uf;have Fz:=ah hput.1;have adO:=ah hput.2.2;have Yw:Hid (aH (λi=>i=rb\/i=ab) Z (Wr.alloc (.map #[] 0))\/True):=.inr trivial;have adP:Hid (aH (λi=>i=rb\/i=ab) Z (q.val.setCell ⟨rb,y,none⟩ (.slice (some ⟨g6,0,none⟩) (l.length+1) c6))):=HUR.out.trans hput.2.1 (λi hi hs=>by
      rcases hs with hs|hs
      .have h1:=Qq.out _ (.inl (bT FR.out)) i hs
       omega
      .exact .inl hs)
     have adQ:Hid (∀v,v∈vb.set y (.slice (some ⟨g6,0,none⟩) (l.length+1) c6)\/v∈va->∀b,v.ownBlock=some b->Z.heap.size<=b):=λv hv b hb=>by
      have hzw:=HUR.out.size;rcases hv with hv|hv
      .rcases List.mem_or_eq_of_mem_set hv with h2|rfl
       .exact Qq.out v (.inl h2) b hb
       .rcases HOWN.out b hb with h3|h3
        .exact Qq.out _ (.inl (bT FR.out)) b h3
        .omega
      .exact Qq.out v (.inr hv) b hb
     clear hput Yw Ry Qq VF HUR HOWN HPT FR nE x0 x1 x2;gi_wp2;clear z1 z2;generalize q.val.setCell ⟨rb,y,none⟩ (.slice (some ⟨g6,0,none⟩) (l.length+1) c6)=Wr at Fz adP⊢;generalize vb.set y (.slice (some ⟨g6,0,none⟩) (l.length+1) c6)=vb2 at Fz adO adQ;have Ry:=adO;clear adO;have Qq:=adQ;clear adQ;have HUR:=adP;clear adP;go_upto_region 13 with(fail)
     obtain⟨rA,rc,hvd,hrow⟩:=Fz.out.xP.get (aZ x) (K3 hx);have FR:=ah hvd;clear hvd;have HPT:Hid (oC P n (j+1)=(oC P n j).set x (((P.take j).filter (λq=>q.1==x)).map (λq=>(q.2:Int))++[(y:Int)])):=VE HPJ.out;have hlr:(((P.take j).filter (λq=>q.1==x)).map (λq=>(q.2:Int))).length<=4000:=by
      rw[dS];refine bL (List.length_filter_le _ _) ?_;rw[mV];omega
     generalize((P.take j).filter (λq=>q.1==x)).map (λq=>(q.2:Int))=l at hrow FR HPT hlr;have nE:=ah hrow;clear hrow;have uf:Hid (∀(t:TypeId)(b:Nat)(cs:List Value),Own Wr t b cs->t≠3->¬(Value.slice rA l.length rc).ownBlock=some b):=λt b cs ho ht hs=>by
      obtain⟨tl,ho⟩:=ho;exact dz nE.out ho ht hs
     obtain⟨S,hSd⟩:∃S:Nat->Prop,S=λb=>(Value.slice rA l.length rc).ownBlock=some b:=⟨_,rfl⟩;have x0:∀q:Wl (λz=>aH S Wr z),q.val.cell? ⟨sb,2,none⟩=some (.slice (some ⟨ab,0,none⟩) n n):=λq=>(Fz.out.box.keep q.prop (by rw[hSd];exact uf.out _ _ _ Fz.out.box (by decide))).cell rfl;have x1:∀q:Wl (λz=>aH S Wr z),q.val.cell? ⟨ab,x,none⟩=some (.slice rA l.length rc):=λq=>(Fz.out.xP.own.keep q.prop (by rw[hSd];exact uf.out _ _ _ Fz.out.xP.own (by decide))).cell FR.out;have x2:∀q:Wl (λz=>aH S Wr z),q.val.frozen? ⟨ab,x,none⟩=false:=λq=>(Fz.out.xP.own.keep q.prop (by rw[hSd];exact uf.out _ _ _ Fz.out.xP.own (by decide))).frozen x;have hSl:∀k,S k->k<Wr.heap.size:=λk hk=>by
      rw[hSd]at hk;exact(nE.out.lt k hk).2
     have adM:w.heap.size<=Wr.heap.size:=by have:=Fz.out.box.lt;simp only at this;omega
     haveI:Inhabited (Wl (λz=>aH S Wr z)):=⟨⟨Wr,aH.refl _ _⟩⟩
     refine sF (s:=(⟨Wr,aC _ _⟩:Wl (λz=>Below Wr.heap.size Wr z))) (C1:=λz=>aH S Wr z) (T:=aH S) (f:=14) 15 (λi=>match i with
      |13=>some (oU Wr 3 #[.int .i64 (y:Nat)])
      |14=>some (CJ Wr w.heap.size 3 1 (l.length+1) (.slice rA l.length rc) (aY l++[.int .i64 (y:Nat)]))
      |_=>none) (λi=>match i with
      |14=>[13]
      |_=>[]) [13] [] (by simp) (by kernel_rfl) (by kernel_rfl) (by simp) (by simp) (by kernel_rfl) ?akn ?adR (D5 Wr S) ?_
     case akn=>
      intro p hp o t ho ht;simp only[d_]at hp;subst hp;simp only[List.getElem?_toArray,List.getElem?_cons_succ,Aa,Option.some.injEq]at ho;subst ho;simp only[Option.some.injEq]at ht;subst ht;simp
     case adR=>
      intro i sp h;split at h
      .injection h with h;subst h;exact qK _ _ _ _ _ _ hSl
      .injection h with h;subst h;exact⟨uT _ _ _ _ _ _ _,λh=>absurd rfl h⟩
      .cases h
     simp only[fP,bX,fZ,bY];repeat(refine Dt rfl (λK hK=>?_);go_simp;refine hK _ ?_;clear hK K)
     refine GV _ rfl rfl rfl ?_ (λq _=>?_) ?_
     .exact⟨_,Wr.heap.size,bJ _,rfl⟩
     .go_simp
      refine⟨⟨_,bL q.prop.size (bJ _),rfl⟩,λb hb=>?_,aN (aC _ _) _⟩;simp only[Value.slice.injEq,Option.some.injEq,Addr.mk.injEq,and_true]at hb;subst hb;exact⟨q.prop.size,bQ _ _⟩
     rintro _ ⟨gb,hgb,rfl⟩;refine GX _ rfl rfl rfl ?_ (λq hpre=>?_) ?_
     .exact⟨_,0,0,rfl⟩
     .have hp:=hpre 13 (by simp) (oU Wr 3 #[.int .i64 (y:Nat)]) rfl _ _ rfl rfl gb rfl
      rw[hSd];exact uU (P:=Tryz.prog) (Z:=Wr) (z:=q.val) _ _ 22 rfl w.heap.size 3 ii (.int .i64 0) 1 8 Tryz.underlying22 hii hiz his hib rfl (by decide) (.slice rA l.length rc) l.length (aY l) rfl (dx nE.out q.prop) gb #[.int .i64 (y:Nat)] 3 (0,0) rfl hp.2 rfl (by intro u hu;simp only[d_]at hu;subst hu;rfl) (by unfold maxLen;omega) (by omega) (by have h3:=q.prop.size;omega) q.prop.size
     rintro _ ⟨g6,c6,rfl⟩;refine LY ?_;rintro q ⟨⟨_,_⟩,EW,uS⟩;have z1:=x1 q;have z2:=x2 q;have hqp:aH (λb=>(Value.slice rA l.length rc).ownBlock=some b) Wr q.val:=q.prop.mono (λi _ h=>by rw[hSd]at h;exact h);have e6:(l++[(y:Int)]).length=l.length+1:=by simp
     have hput:=Fz.out.adJ (l':=l++[(y:Int)]) FR.out hqp (by rw[e6,oP];exact EW) uS Nf.out Ry.out;have HOWN:Hid (∀b,(Value.slice (some ⟨g6,0,none⟩) (l.length+1) c6).ownBlock=some b->(Value.slice rA l.length rc).ownBlock=some b\/Wr.heap.size<=b):=λb hb=>by
      rcases uS with e|e
      .exact .inl (by rw[<-e];exact hb)
      .exact .inr (e b hb)
     have HNR:=HPT.out;simp only at hput;rw[<-HNR]at hput;clear HNR EW uS hqp e6 adM hSl uf;have adS:=ah hput.1;have agV:=ah hput.2.2;have agW:Hid (aH (λi=>i=rb\/i=ab) Z (q.val.setCell ⟨ab,x,none⟩ (.slice (some ⟨g6,0,none⟩) (l.length+1) c6))):=HUR.out.trans hput.2.1 (λi hi hs=>by
      rcases hs with hs|hs
      .have h1:=Qq.out _ (.inr (bT FR.out)) i hs
       omega
      .exact .inr hs)
     have agX:Hid (∀v,v∈vb2\/v∈va.set x (.slice (some ⟨g6,0,none⟩) (l.length+1) c6)->∀b,v.ownBlock=some b->Z.heap.size<=b):=λv hv b hb=>by
      have hzw:=HUR.out.size;rcases hv with hv|hv
      .exact Qq.out v (.inl hv) b hb
      .rcases List.mem_or_eq_of_mem_set hv with h2|rfl
       .exact Qq.out v (.inr h2) b hb
       .rcases HOWN.out b hb with h3|h3
        .exact Qq.out _ (.inr (bT FR.out)) b h3
        .omega
     clear hput Ry Qq Fz HUR HOWN HPT FR nE x0 x1 x2;gi_wp2;clear z1 z2;generalize q.val.setCell ⟨ab,x,none⟩ (.slice (some ⟨g6,0,none⟩) (l.length+1) c6)=Wm at adS agW⊢;generalize va.set x (.slice (some ⟨g6,0,none⟩) (l.length+1) c6)=va2 at adS agV agX;go_wp2
     go_roundg (P.length - (j+1))
     case measure=>rw[Nj.out];omega
     case rel=>exact⟨j+1,vb2,va2,rfl,by omega,by go_num,adS,agW,agX,agV⟩
    .obtain rfl:j=P.length:=by omega
     clear Nj hlj;have Rs:Hid (Below w.heap.size w wr):=Vn.out.trans (HU.out.below Vn.out.size (λi hi=>by omega));rw[Yv.out,<-HPP.out]at Mi;go_wp2;go_ret;exact⟨⟨w.heap.size,sb,bb,rb,ab,n,vb,va,oz (bI F O) n O.length,oC (bI F O) n O.length⟩,rfl,rfl,⟨Nat.le_of_lt hlow.2.2.1,Nat.le_of_lt hlow.2.2.2.1⟩,HN.out,by rw[<-HN.out],by rw[<-HN.out],Mi.out,Rs.out⟩
end
open Go.RowKit Go.Shelf
def qg:List (Nat×Int×Int)->(Nat->Int)->Nat->Int
 |[],f=>f
 |c::H,f=>setAt (qg H f) c.1 c.2.1
def qh:List (Nat×Int×Int)->(Nat->Int)->Nat->Int
 |[],f=>f
 |c::H,f=>setAt (qh H f) c.1 c.2.2
theorem IB(H:List (Nat×Int×Int))(c:Nat×Int×Int)(f:Nat->Int):qg (H++[c]) f=qg H (setAt f c.1 c.2.1):=by
 induction H with
 |nil=>rfl
 |cons d H ih=>show setAt (qg (H++[c]) f) d.1 d.2.1=_;rw[ih];rfl
theorem IC(H:List (Nat×Int×Int))(c:Nat×Int×Int)(f:Nat->Int):qh (H++[c]) f=qh H (setAt f c.1 c.2.2):=by
 induction H with
 |nil=>rfl
 |cons d H ih=>show setAt (qh (H++[c]) f) d.1 d.2.2=_;rw[ih];rfl
theorem wR(f:Nat->Int)(i:Nat)(v:Int):setAt (setAt f i v) i (f i)=f:=by
 funext x;by_cases e:x=i
 .subst e;rw[eY]
 .rw[fq _ _ e,fq _ _ e]
theorem kW(f:Nat->Int)(i:Nat):setAt f i (f i)=f:=by
 funext x;by_cases e:x=i
 .subst e;rw[eY]
 .rw[fq _ _ e]
theorem aR.RZ{w w':World}{X:SX}{lo hi:Nat->Int}{A:Option Addr}{oc:Nat}{H:List (Nat×Int×Int)}{S:Nat->Prop}(h:aR w X lo hi A oc H)(hu:aH S w w')(hT:∀k,S k->∃cs fz,w.heap[k]?=some (.cells cs 3 fz))(hR:∀v,v∈X.vb\/v∈X.va->∀b,v.ownBlock=some b->¬S b):aR w' X lo hi A oc H:=by
 have key:∀{t:TypeId}{b:Nat}{cs:List Value},Own w t b cs->t≠3->¬S b:=λho ht hs=>by
  obtain⟨tl,ho⟩:=ho;obtain⟨cs,fz,h1⟩:=hT _ hs;rw[ho]at h1;injection h1 with h1
  injection h1 with _ h1 _
  exact ht h1
 refine⟨h.vI.upd hu (key h.vI.own (by decide)) (λv hv b hb=>hR v (.inl hv) b hb),h.xP.upd hu (key h.xP.own (by decide)) (λv hv b hb=>hR v (.inr hv) b hb),h.Iw,h.Iy,h.box.keep hu (key h.box (by decide)),h.bnd.keep hu (key h.bnd (by decide)),bZ h.old hu (λb hb hs=>?_),h.low⟩;obtain⟨cs,fz,h1⟩:=hT _ hs;exact dz h.old h1 (by decide) hb
def tC(l:List Nat):List Int:=l.map (λx:Nat=>(x:Int))
theorem K4(l:List Nat)(x:Nat):tC (l++[x])=tC l++[(x:Int)]:=by simp[tC]
theorem CK(l:List Nat):(tC l).length=l.length:=dS _
theorem CO{l:List Nat}{i x:Nat}(h:l[i]?=some x):(tC l)[i]?=some (x:Int):=by simp[tC,h]
theorem oQ.new{X:SX}{w wr w':World}{S:Nat->Prop}(h:oQ X w wr)(hu:aH S wr w')(hS:∀k,S k->w.heap.size<=k):oQ X w w':=aH.trans h hu (λi hi hs=>by have:=hS i hs;omega)
theorem iK{w:World}{B:Nat}{e:TypeId}{size n:Nat}{v:Value}{xs:List Value}(h:w.ownsRow B e size v n xs):∀k,v.ownBlock=some k->∃cs fz,w.heap[k]?=some (.cells cs e fz):=λk hk=>by
 rcases h.2 with⟨rfl,_⟩|⟨g,cap,cur,rfl,_,hg,_⟩
 .cases hk
 .simp only[Value.ownBlock,Option.some.injEq]at hk
  subst hk;exact⟨_,_,hg⟩
def nZ(P:List (Nat×Nat))(y:Nat):List Nat:=(P.filter (λp=>p.1==y)).map (·.2)
theorem IE{P:List (Nat×Nat)}{y b:Nat}:b∈nZ P y↔(y,b)∈P:=by
 unfold nZ;simp only[dF,List.mem_filter,beq_iff_eq];constructor
 .rintro⟨⟨p1,p2⟩,⟨h1,rfl⟩,rfl⟩;exact h1
 .exactλh=>⟨(y,b),⟨h,rfl⟩,rfl⟩
theorem IG(P:List (Nat×Nat))(y:Nat):(nZ P y).length<=P.length:=by
 unfold nZ;rw[dS];exact List.length_filter_le _ _
theorem II{P:List (Nat×Nat)}{n i:Nat}(h:i<n):(oC P n P.length)[i]?=some (tC (nZ P i)):=by
 rw[K3 h,gW];simp[tC,nZ]
theorem IJ{P:List (Nat×Nat)}{n i:Nat}(h:i<n):(oz P n P.length)[i]?=some (tC (nZ (P.map (λp=>(p.2,p.1))) i)):=by
 rw[KZ h,gW];congr 1;unfold tC nZ;rw[List.filter_map,ow,ow];rfl
theorem VG(f:Nat->Int)(i:Nat)(v:Int):setAt (λi=> - f i) i (-v)=λj=> - setAt f i v j:=by
 funext x;by_cases e:x=i
 .subst e;rw[eY,eY]
 .rw[fq _ _ e,fq _ _ e]
theorem aaE{n:Nat}{lo hi:Nat->Int}{P:List (Nat×Nat)}(hB:Qh n lo hi P):Qh n (λi=> - hi i) (λi=> - lo i) (P.map (λp=>(p.2,p.1))):=by
 refine⟨λi hn=>by have:=hB.le i hn;omega,λp hp=>?_,λp hp=>?_,λp hp=>?_⟩;all_goals
  obtain⟨q,hq,rfl⟩:=dF.1 hp;simp only
 .have:=hB.clH q hq;omega
 .have:=hB.clL q hq;omega
 .exact⟨(hB.inn q hq).2,(hB.inn q hq).1⟩
def R5(X:SX)(P:List (Nat×Nat))(lo hi:Nat->Int)(H:List (Nat×Int×Int))(a:Nat)(v:Int)(w:World)(e:Ending)(w':World):Prop:=
 ∃(lo' hi':Nat->Int)(A:Option Addr)(oc:Nat)(H2:List (Nat×Int×Int)),e= .returned (.tuple #[])/\aR w' X lo' hi' A oc (H++H2)/\oQ X w w'/\H2.length<=2*X.n+1/\qg H2 lo'=lo/\qh H2 hi'=hi/\(∀c∈H2,c.1<X.n)/\
  (∃later,Up X.n lo hi P a v lo' later/\∀y∈later,∀b,(y,b)∈P->v<=lo' b)/\
  ∃earlier,Up X.n (λi=> - hi i) (λi=> - lo i) (P.map (λp=>(p.2,p.1))) a (-v) (λi=> - hi' i) earlier/\∀y∈earlier,∀b,(y,b)∈P.map (λp=>(p.2,p.1))-> -v<= - hi' b
attribute [local go_sem] jJ GR stillUpon bH
theorem R6(X:SX)(P:List (Nat×Nat))(lo hi:Nat->Int)(A:Option Addr)(oc:Nat)(H:List (Nat×Int×Int))(a:Nat)(v:Int)(w:World)(hS:aR w X lo hi A oc H)(hB:Qh X.n lo hi P)(hLb:X.Lb=oz P X.n P.length)(hLa:X.La=oC P X.n P.length)(ha:a<X.n)(h1:lo a<=v)(h2:v<=hi a)(hn:X.n<=4000)(hP:P.length<=4000)(hH:H.length+2*X.n+1<=1000000):
 Calls Tryz.prog 102 #[.pointer (some ⟨X.sb,0,none⟩),.int .i64 a,.int .i64 v] w (R5 X P lo hi H a v w):=by
 have HS:=ah hS;clear hS;have HB:=ah hB;clear hB;have HLB:=ah hLb;clear hLb;have HLA:=ah hLa;clear hLa;have Oj:Hid (∀u,u∈X.vb\/u∈X.va->∀b,u.ownBlock=some b->b<w.heap.size):=λu hu b hb=>by
  rcases hu with hu|hu
  .exact(HS.out.vI.low u hu b hb).2.1
  .exact(HS.out.xP.low u hu b hb).2.1
 have HST:=ah (MI X lo hi A oc H a v v w HS.out ha (by omega));have ako:=ah (Up.start (P:=P) ha h1 h2);have akp:Hid (Up X.n (λi=> - hi i) (λi=> - lo i) (P.map (λp=>(p.2,p.1))) a (-v) (λi=> - setAt hi a v i) [a]):=by
  have h:=Up.start (n:=X.n) (lo:=λi=> - hi i) (hi:=λi=> - lo i) (P:=P.map (λp=>(p.2,p.1))) (v:= -v) ha (by omega) (by omega);have e:(λi=> - setAt hi a v i)=setAt (λi=> - hi i) a (-v):=by
   funext i;by_cases e:i=a
   .subst e;rw[eY,eY]
   .rw[fq _ _ e,fq _ _ e]
  show Up _ _ _ _ _ _ _ _;rw[e];exact h
 clear h1 h2;obtain⟨H1,hH1⟩:∃H1:List (Nat×Int×Int),H1=(if lo a=v/\hi a=v then[]else[(a,lo a,hi a)]):=⟨_,rfl⟩;have Yx:Hid (Calls Tryz.prog 141 #[.pointer (some ⟨X.sb,0,none⟩),.int .i64 a,.agg #[.int .i64 v,.int .i64 v]] w (λe w'=>∃A oc b,e= .returned (.bool b)/\aR w' X (setAt lo a v) (setAt hi a v) A oc (H++H1)/\oQ X w w')):=by
  refine HST.out.mono ?_;rintro e w' ⟨A,oc,rfl,h3,h4⟩;refine⟨A,oc,_,rfl,?_,h4⟩;by_cases c:lo a=v/\hi a=v
  .rw[if_pos c,if_pos c,if_pos c]at h3
   rw[hH1,if_pos c,bV];have e1:setAt lo a v=lo:=by rw[<-c.1];exact kW lo a
   have e2:setAt hi a v=hi:=by rw[<-c.2];exact kW hi a
   rw[e1,e2];exact h3
  .rw[if_neg c,if_neg c,if_neg c]at h3
   rw[hH1,if_neg c];exact h3
 have VH:Hid (H1.length<=1/\qg H1 (setAt lo a v)=lo/\qh H1 (setAt hi a v)=hi/\∀c∈H1,c.1<X.n):=by
  rw[hH1];by_cases c:lo a=v/\hi a=v
  .rw[if_pos c]
   refine⟨by simp,?_,?_⟩
   .show setAt lo a v=lo
    rw[<-c.1];exact kW lo a
   .refine⟨?_,λc hc=>by cases hc⟩
    show setAt hi a v=hi;rw[<-c.2];exact kW hi a
  .rw[if_neg c]
   exact⟨by simp,wR lo a v,wR hi a v,λc hc=>by rw[d_.1 hc];exact ha⟩
 clear hH1 HST;go_enter Tryz.func102,Tryz.ntmps102;go_wp2_with (go_at_call 141;refine Yx.out.mono ?_;rintro e Z ⟨A1,oc1,b1,rfl,hs1,hm1⟩;refine Hid.out ?_);refine ah ?_;have xM:=ah hs1;clear hs1;have Nk:=ah hm1;clear hm1;clear Yx HS;go_upto_region 2 with(fail)
 obtain⟨lb,hlb⟩:∃lb,lb=Z.heap.size:=⟨_,rfl⟩;rw[<-hlb];generalize DL:World.alloc _ _=Wb;have hbb:Below Z.heap.size Z Wb:=by rw[<-DL];exact aN (aC _ _) _
 have nE:Hid (Wb.ownsRow w.heap.size 3 1 (.slice (some ⟨lb,0,none⟩) [a].length 1) [a].length (aY (tC [a]))):=by
  refine⟨rfl,.inr ⟨lb,1,#[.int .i64 a],rfl,?_,?_,bJ _,by unfold maxLen;omega,rfl,rfl⟩⟩
  .rw[hlb];exact Nk.out.size
  .rw[<-DL,hlb];exact bQ Z _
 have HS2:=ah (xM.out.below hbb);have BF:=ah (Nk.out.trans (oQ.of_below hbb));clear DL hbb hlb xM Nk;obtain⟨ii,hii,hiz,his,hib⟩:=info_parts' (P:=Tryz.prog) (t:=3) (z:=some (.int .i64 0)) (s:=1) (b:=8) (by kernel_rfl);have HBN:=HB.out;go_wp2
 go_loopg [7,6] X.n (λgk v7 v6 wr=>∃(i:Nat)(loc:Nat->Int)(Hc:List (Nat×Int×Int))(later:List Nat)(A6:Option Addr)(c6:Nat)(A':Option Addr)(VI:Nat),gk=X.n - i/\i<=later.length/\v7= .int .i64 i/\v6= .slice A6 later.length c6/\Hid (aR wr X loc (setAt hi a v) A' VI (H++Hc))/\Hid (oQ X w wr)/\Hid (wr.ownsRow w.heap.size 3 1 (.slice A6 later.length c6) later.length (aY (tC later)))/\Hid (Up X.n lo hi P a v loc later)/\Hid (∀y∈later.take i,∀b,(y,b)∈P->v<=loc b)/\Hid (qg Hc loc=lo/\qh Hc (setAt hi a v)=hi/\∀c∈Hc,c.1<X.n)/\Hc.length<=later.length)
 case atStart=>exact⟨0,_,H1,[a],_,1,A1,oc1,rfl,aZ _,rfl,rfl,HS2,BF,nE,ako,(λy hy=>by simp at hy),VH.out.2,VH.out.1⟩
 case round=>
  obtain⟨i,loc,Hc,later,A6,c6,A',VI,eZ,hi',rfl,rfl,z_,AA,rX,FU,K5,xD,hlc⟩:=hrel;have iL:=ah eZ;clear eZ HS2 BF nE;have hll:=FU.out.length;by_cases hlt:i<later.length
  .obtain⟨y,hy⟩:∃y,later[i]?=some y:=⟨_,aW hlt⟩
   have hyn:=FU.out.lt y (bT hy);have hgl:X.La[y]?=some (tC (nZ P y)):=by rw[HLA.out];exact II hyn
   obtain⟨rA,rc,hva,hrw⟩:=z_.out.xP.get (aZ y) hgl;have hRl:=IG P y;have Zu:Hid (∀b,b∈nZ P y↔(y,b)∈P):=λb=>IE;obtain⟨R,HR⟩:∃R,Hid (R=nZ P y):=⟨_,rfl⟩;rw[<-HR.out]at hgl hva hrw hRl Zu;rw[CK]at hva hrw;obtain⟨g6,hA6,_,Zr,_,_,hc6⟩:=nW rX.out (by omega);subst hA6;have x6:∀z:Bl wr,z.val.cell? ⟨g6,i,none⟩=some (.int .i64 y):=λz=>(z.prop.cell (p:=⟨g6,i,none⟩) Zr).trans (hc6 i _ (fI (CO hy)));have x2:∀z:Bl wr,z.val.cell? ⟨X.sb,2,none⟩=some (.slice (some ⟨X.ab,0,none⟩) X.n X.n):=λz=>(z_.out.below z.prop).box.cell rfl;have xr:∀z:Bl wr,z.val.cell? ⟨X.ab,y,none⟩=some (.slice rA R.length rc):=λz=>(z_.out.below z.prop).xP.own.cell hva;have i1:(i:Int)<(later.length:Int):=by omega
   have y1:(y:Int)<(X.n:Int):=by omega
   have HY:=ah hy;have HVA:=ah hva;clear hrw hc6 hy hva hgl;go_upto_region 5 with(fail)
   change Code.wp _ _ _ _ (Bl.val (⟨wr,aC _ _⟩:Bl wr));generalize(⟨wr,aC _ _⟩:Bl wr)=za;refine aI (by kernel_rfl) (by kernel_rfl) ?_;repeat(go_big_quiet_step (fail))
   refine aS ?_;rintro _ ⟨zb,rfl⟩;have HSD:=ah (z_.out.below zb.prop);have HMD:=ah (AA.out.trans (oQ.of_below zb.prop));have Zk:=ah (dx rX.out zb.prop);have Wy:Hid (later.take i=later.take i):=rfl;clear x6 x2 xr z_ AA rX;generalize zb.val=Wd at HSD HMD Zk⊢;have hR4:R.length<=4000:=by omega
   go_wp2
   go_loopg [41,6] R.length (λgk v41 v6 wr=>∃(j:Nat)(loc:Nat->Int)(Hc:List (Nat×Int×Int))(later:List Nat)(A6:Option Addr)(c6:Nat)(A':Option Addr)(VI:Nat),gk=R.length - j/\j<=R.length/\i<later.length/\v41= .int .i64 j/\v6= .slice A6 later.length c6/\Hid (aR wr X loc (setAt hi a v) A' VI (H++Hc))/\Hid (oQ X w wr)/\Hid (wr.ownsRow w.heap.size 3 1 (.slice A6 later.length c6) later.length (aY (tC later)))/\Hid (Up X.n lo hi P a v loc later)/\Hid (∀y∈later.take i,∀b,(y,b)∈P->v<=loc b)/\Hid (later[i]?=some y)/\Hid (∀b∈R.take j,v<=loc b)/\Hid (qg Hc loc=lo/\qh Hc (setAt hi a v)=hi/\∀c∈Hc,c.1<X.n)/\Hc.length<=later.length)
   case atStart=>exact⟨0,loc,Hc,later,_,c6,A',VI,rfl,aZ _,hlt,rfl,rfl,HSD,HMD,Zk,FU,K5,HY,(λb hb=>by simp at hb),xD,hlc⟩
   case round=>
    clear HSD HMD Zk FU K5 HY xD hlc hll Wy hyn i1;obtain⟨j,loc,Hc,later,A6,c6,A',VI,eZ,hj,hil,rfl,rfl,z_,AA,rX,FU,K5,HY,HDJ,xD,hlc⟩:=hrel;have Nj:=ah eZ;clear eZ;have hll:=FU.out.length;by_cases hlj:j<R.length
    .obtain⟨x,hx⟩:∃x,R[j]?=some x:=⟨_,aW hlj⟩
     have hyx:=(Zu.out x).1 (bT hx);have hxn:=(HB.out.inn _ hyx).2;simp only at hxn;have hstep:=FU.out.step HB.out (bT HY.out) hyx;have HXJ:=ah hx;have hgl:X.La[y]?=some (tC R):=by rw[HLA.out,HR.out];exact II (FU.out.lt y (bT HY.out))
     have hrw:=z_.out.xP.row y _ _ (aZ _) HVA.out hgl;rw[CK]at hrw;obtain⟨g,hrA,_,hg,_,_,hcg⟩:=nW hrw (by omega);subst hrA;have x0:wr.cell? ⟨g,j,none⟩=some (.int .i64 x):=hcg j _ (fI (CO hx));have x1:wr.cell? ⟨X.sb,0,none⟩=some (.slice (some ⟨X.bb,0,none⟩) X.n X.n):=z_.out.box.cell rfl;have x3:=z_.out.bnd.cell (dV _ _ hxn (j:=0) (by omega));have x4:=z_.out.bnd.cell (dV _ _ hxn (j:=1) (by omega));rw[kH]at x3;have j1:(j:Int)<(R.length:Int):=by omega
     have xn1:(x:Int)<(X.n:Int):=by omega
     clear hrw hcg hx hgl hyx;go_upto_region 9 with(fail)
     generalize DL:World.alloc _ _=Wb;obtain⟨hbb,hxb⟩:=bx1' DL;have q0:Wb.cell? ⟨wr.heap.size,0,none⟩=some (.int .i64 (loc x)):=(aL Wb _ 0 _ _ _ hxb).trans rfl;have q1:Wb.cell? ⟨wr.heap.size,1,none⟩=some (.int .i64 (setAt hi a v x)):=(aL Wb _ 1 _ _ _ hxb).trans rfl;have xI:=ah (z_.out.below hbb);have xQ:=ah (AA.out.trans (oQ.of_below hbb));have Ng:=ah (dx rX.out hbb);have hst:=MI X loc (setAt hi a v) A' VI (H++Hc) x (max (loc x) v) (setAt hi a v x) Wb xI.out hxn (by simp;omega);clear DL hbb hxb x0 x1 x3 x4 z_ AA rX;have MJ:∀f:Nat->Int,(∀c,loc c<=f c)->v<=f x->Hid (∀b∈R.take (j+1),v<=f b):=λf hf hv b hb=>by
      rw[bS HXJ.out]at hb;rcases dJ.1 hb with hb|hb
      .exact Int.le_trans (HDJ.out b hb) (hf b)
      .rw[d_.1 hb];exact hv
     rcases hstep with⟨hvx,hmx⟩|⟨hvx,hmx,hnb,VJ⟩
     .have c:loc x=max (loc x) v/\setAt hi a v x=setAt hi a v x:=⟨hmx.symm,rfl⟩
      rw[if_pos c,if_pos c,if_pos c,decide_eq_true c]at hst;have HST:=ah hst;have R7:=MJ loc (λ_=>iI _) hvx;clear hst c hmx MJ;go_wp2_with (go_at_call 141;refine HST.out.mono ?_;rintro e W5 ⟨A5,VK,rfl,hs5,R8⟩;refine Hid.out ?_);refine ah ?_;have WG:=ah hs5;have VL:=ah (xQ.out.trans R8);have Nh:=ah (uq Ng.out R8 (by unfold DZ;decide));clear hs5 R8 xI xQ Ng HST q0 q1;go_wp2
      go_roundg (R.length - (j+1))
      case measure=>rw[Nj.out];omega
      case rel=>exact⟨j+1,loc,Hc,later,A6,c6,A5,VK,rfl,by omega,hil,by go_num,rfl,WG,VL,Nh,FU,K5,HY,R7,xD,hlc⟩
     .have c:¬(loc x=max (loc x) v/\setAt hi a v x=setAt hi a v x):=λh=>by have:=h.1;omega
      rw[if_neg c,if_neg c,if_neg c,decide_eq_false c]at hst;have HST:=ah hst;have o_:=ah hmx;have Yw:=ah VJ;have HGE:Hid (∀c,loc c<=setAt loc x v c):=λc=>by
       by_cases e:c=x
       .subst e;rw[eY];omega
       .rw[fq _ _ e];exact iI _
      have R7:=MJ (setAt loc x v) HGE.out (by rw[eY];exact iI _);have adX:Hid (∀y∈(later++[x]).take i,∀b,(y,b)∈P->v<=setAt loc x v b):=λy' hy' b hb=>by
       rw[List.take_append_of_le_length (by omega)]at hy';exact Int.le_trans (K5.out y' hy' b hb) (HGE.out b)
      have Qr:Hid ((later++[x])[i]?=some y):=by show _=_;rw[nG hil];exact HY.out
      clear hst c hmx VJ MJ hnb;go_wp2_with (first|(go_at_call 141;refine HST.out.mono ?_;rintro e W5 ⟨A5,VK,rfl,hs5,R8⟩;refine Hid.out ?_)|fail);refine ah ?_;rw[o_.out,kW]at hs5;have WG:=ah hs5;have VL:=ah (xQ.out.trans R8);have Nh:=ah (uq Ng.out R8 (by unfold DZ;decide));clear hs5 R8 xI xQ Ng HST q0 q1;have hw5:w.heap.size<=W5.heap.size:=VL.out.size;go_wp2_with (at_builtin;refine iQ rfl _ _ 22 rfl 3 ii (.int .i64 0) 1 8 Tryz.underlying22 hii hiz his hib rfl (by decide) w.heap.size _ _ _ rfl Nh.out [.int .i64 x] _ rfl rfl (by intro u hu;simp only[d_]at hu;subst hu;rfl) rfl (by unfold maxLen;omega) (by omega) hw5 ?_;intro g7 c7 w7 hr7 hg7;refine Hid.out ?_);refine ah ?_;have Fu:Hid (aH (λk=>(Value.slice A6 later.length c6).ownBlock=some k) W5 w7):=((aH.refl _ W5).alloc _).trans (aH.jG hg7) (λ_ _ h=>h);have HS7:=ah (WG.out.RZ Fu.out (iK Nh.out) (λu hu b hb hs=>by have h1:=Oj.out u hu b hb;have h2:=(Nh.out.lt b hs).1;omega));have HM7:=ah (VL.out.new Fu.out (λk hk=>(Nh.out.lt k hk).1));have hl7:(later++[x]).length=later.length+1:=by simp
      have HR7:Hid (w7.ownsRow w.heap.size 3 1 (.slice (some ⟨g7,0,none⟩) (later++[x]).length c7) (later++[x]).length (aY (tC (later++[x])))):=by
       show World.ownsRow _ _ _ _ _ _ _;rw[hl7,K4,oP];exact hr7
      have Yy:=ah hl7;have adZ:Hid (qg (Hc++[(x,loc x,setAt hi a v x)]) (setAt loc x v)=lo/\qh (Hc++[(x,loc x,setAt hi a v x)]) (setAt hi a v)=hi/\∀c∈Hc++[(x,loc x,setAt hi a v x)],c.1<X.n):=by
       refine⟨?_,?_,?_⟩
       .rw[IB,wR];exact xD.out.1
       .rw[IC,kW];exact xD.out.2.1
       .exactλc hc=>(dJ.1 hc).elim (xD.out.2.2 c) (λh=>by rw[d_.1 h];exact hxn)
      rw[uW]at HS7;clear hr7 hg7 Fu WG VL Nh hl7;go_wp2
      go_roundg (R.length - (j+1))
      case measure=>rw[Nj.out];omega
      case rel=>exact⟨j+1,setAt loc x v,Hc++[(x,loc x,setAt hi a v x)],later++[x],_,c7,A5,VK,rfl,by omega,by rw[Yy.out];omega,by go_num,by rw[Yy.out],HS7,HM7,HR7,Yw,adX,Qr,R7,adZ,by rw[Yy.out];simp;omega⟩
    .obtain rfl:j=R.length:=by omega
     have ad1:Hid (∀y'∈later.take (i+1),∀b,(y',b)∈P->v<=loc b):=λy' hy' b hb=>by
      rw[bS HY.out]at hy';rcases dJ.1 hy' with hy'|hy'
      .exact K5.out y' hy' b hb
      .rw[d_.1 hy']at hb
       exact HDJ.out b (by rw[gW];exact(Zu.out b).2 hb)
     clear Nj hlj HDJ K5;go_wp2
     go_roundg (X.n - (i+1))
     case measure=>rw[iL.out];omega
     case rel=>exact⟨i+1,loc,Hc,later,A6,c6,A',VI,rfl,by omega,by go_num,rfl,z_,AA,rX,FU,ad1,xD,hlc⟩
  .obtain rfl:i=later.length:=by omega
   rw[gW]at K5;clear iL hlt;have ag3:=FU;clear FU;have akx:=K5;clear K5;have ag4:=ah (aaE HB.out);go_upto_region 13 with(fail)
   obtain⟨lb,hlb⟩:∃lb,lb=wr.heap.size:=⟨_,rfl⟩;rw[<-hlb];generalize DL:World.alloc _ _=Wb;have hbb:Below wr.heap.size wr Wb:=by rw[<-DL];exact aN (aC _ _) _
   have nE:Hid (Wb.ownsRow w.heap.size 3 1 (.slice (some ⟨lb,0,none⟩) [a].length 1) [a].length (aY (tC [a]))):=by
    refine⟨rfl,.inr ⟨lb,1,#[.int .i64 a],rfl,?_,?_,bJ _,by unfold maxLen;omega,rfl,rfl⟩⟩
    .rw[hlb];exact AA.out.size
    .rw[<-DL,hlb];exact bQ wr _
   have HS2:=ah (z_.out.below hbb);have BF:=ah (AA.out.trans (oQ.of_below hbb));have aky:=xD;clear xD;clear DL hbb hlb z_ AA rX hi';go_wp2
   go_loopg [12,11] X.n (λgk v12 v11 wr=>∃(i:Nat)(hic:Nat->Int)(Hd:List (Nat×Int×Int))(earlier:List Nat)(A6:Option Addr)(c6:Nat)(A':Option Addr)(VI:Nat),gk=X.n - i/\i<=earlier.length/\v12= .int .i64 i/\v11= .slice A6 earlier.length c6/\Hid (aR wr X loc hic A' VI (H++Hd))/\Hid (oQ X w wr)/\Hid (wr.ownsRow w.heap.size 3 1 (.slice A6 earlier.length c6) earlier.length (aY (tC earlier)))/\Hid (Up X.n (λi=> - hi i) (λi=> - lo i) (P.map (λp=>(p.2,p.1))) a (-v) (λi=> - hic i) earlier)/\Hid (∀y∈earlier.take i,∀b,(y,b)∈P.map (λp=>(p.2,p.1))-> -v<= - hic b)/\Hid (qg Hd loc=lo/\qh Hd hic=hi/\∀c∈Hd,c.1<X.n)/\Hd.length<=Hc.length+earlier.length)
   case atStart=>exact⟨0,_,Hc,[a],_,1,A',VI,rfl,aZ _,rfl,rfl,HS2,BF,nE,akp,(λy hy=>by simp at hy),aky,Nat.le_add_right _ _⟩
   case round=>
    obtain⟨i,hic,Hd,earlier,A6,c6,A2,Yz,eZ,hi',rfl,rfl,z_,AA,rX,FU,K5,xD,hlc⟩:=hrel;have iL:=ah eZ;clear eZ HS2 BF nE;have hll:=FU.out.length;by_cases hlt:i<earlier.length
    .obtain⟨y,hy⟩:∃y,earlier[i]?=some y:=⟨_,aW hlt⟩
     have hyn:=FU.out.lt y (bT hy);have hgl:X.Lb[y]?=some (tC (nZ (P.map (λp=>(p.2,p.1))) y)):=by rw[HLB.out];exact IJ hyn
     obtain⟨rA,rc,hva,hrw⟩:=z_.out.vI.get (aZ y) hgl;have hRl:=IG (P.map (λp=>(p.2,p.1))) y;have Zu:Hid (∀b,b∈nZ (P.map (λp=>(p.2,p.1))) y↔(y,b)∈P.map (λp=>(p.2,p.1))):=λb=>IE;obtain⟨R,HR⟩:∃R,Hid (R=nZ (P.map (λp=>(p.2,p.1))) y):=⟨_,rfl⟩;rw[<-HR.out]at hgl hva hrw hRl Zu;rw[CK]at hva hrw;rw[dS]at hRl;obtain⟨g6,hA6,_,Zr,_,_,hc6⟩:=nW rX.out (by omega);subst hA6;have x6:∀z:Bl wr,z.val.cell? ⟨g6,i,none⟩=some (.int .i64 y):=λz=>(z.prop.cell (p:=⟨g6,i,none⟩) Zr).trans (hc6 i _ (fI (CO hy)));have x2:∀z:Bl wr,z.val.cell? ⟨X.sb,1,none⟩=some (.slice (some ⟨X.rb,0,none⟩) X.n X.n):=λz=>(z_.out.below z.prop).box.cell rfl;have xr:∀z:Bl wr,z.val.cell? ⟨X.rb,y,none⟩=some (.slice rA R.length rc):=λz=>(z_.out.below z.prop).vI.own.cell hva;have i1:(i:Int)<(earlier.length:Int):=by omega
     have y1:(y:Int)<(X.n:Int):=by omega
     have HY:=ah hy;have HVA:=ah hva;clear hrw hc6 hy hva hgl;go_upto_region 16 with(fail)
     change Code.wp _ _ _ _ (Bl.val (⟨wr,aC _ _⟩:Bl wr));generalize(⟨wr,aC _ _⟩:Bl wr)=za;refine aI (by kernel_rfl) (by kernel_rfl) ?_;repeat(go_big_quiet_step (fail))
     refine aS ?_;rintro _ ⟨zb,rfl⟩;have HSD:=ah (z_.out.below zb.prop);have HMD:=ah (AA.out.trans (oQ.of_below zb.prop));have Zk:=ah (dx rX.out zb.prop);have Wy:Hid (earlier.take i=earlier.take i):=rfl;clear x6 x2 xr z_ AA rX;generalize zb.val=Wd at HSD HMD Zk⊢;have hR4:R.length<=4000:=by omega
     go_wp2
     go_loopg [86,11] R.length (λgk v86 v11 wr=>∃(j:Nat)(hic:Nat->Int)(Hd:List (Nat×Int×Int))(earlier:List Nat)(A6:Option Addr)(c6:Nat)(A':Option Addr)(VI:Nat),gk=R.length - j/\j<=R.length/\i<earlier.length/\v86= .int .i64 j/\v11= .slice A6 earlier.length c6/\Hid (aR wr X loc hic A' VI (H++Hd))/\Hid (oQ X w wr)/\Hid (wr.ownsRow w.heap.size 3 1 (.slice A6 earlier.length c6) earlier.length (aY (tC earlier)))/\Hid (Up X.n (λi=> - hi i) (λi=> - lo i) (P.map (λp=>(p.2,p.1))) a (-v) (λi=> - hic i) earlier)/\Hid (∀y∈earlier.take i,∀b,(y,b)∈P.map (λp=>(p.2,p.1))-> -v<= - hic b)/\Hid (earlier[i]?=some y)/\Hid (∀b∈R.take j, -v<= - hic b)/\Hid (qg Hd loc=lo/\qh Hd hic=hi/\∀c∈Hd,c.1<X.n)/\Hd.length<=Hc.length+earlier.length)
     case atStart=>exact⟨0,hic,Hd,earlier,_,c6,A2,Yz,rfl,aZ _,hlt,rfl,rfl,HSD,HMD,Zk,FU,K5,HY,(λb hb=>by simp at hb),xD,hlc⟩
     case round=>
      clear HSD HMD Zk FU K5 HY xD hlc hll Wy hyn i1;obtain⟨j,hic,Hd,earlier,A6,c6,A2,Yz,eZ,hj,hil,rfl,rfl,z_,AA,rX,FU,K5,HY,HDJ,xD,hlc⟩:=hrel;have Nj:=ah eZ;clear eZ;have hll:=FU.out.length;by_cases hlj:j<R.length
      .obtain⟨x,hx⟩:∃x,R[j]?=some x:=⟨_,aW hlj⟩
       have hyx:=(Zu.out x).1 (bT hx);have hxn:=(ag4.out.inn _ hyx).2;simp only at hxn;have hstep:=FU.out.step ag4.out (bT HY.out) hyx;have HXJ:=ah hx;have hgl:X.Lb[y]?=some (tC R):=by rw[HLB.out,HR.out];exact IJ (FU.out.lt y (bT HY.out))
       have hrw:=z_.out.vI.row y _ _ (aZ _) HVA.out hgl;rw[CK]at hrw;obtain⟨g,hrA,_,hg,_,_,hcg⟩:=nW hrw (by omega);subst hrA;have x0:wr.cell? ⟨g,j,none⟩=some (.int .i64 x):=hcg j _ (fI (CO hx));have x1:wr.cell? ⟨X.sb,0,none⟩=some (.slice (some ⟨X.bb,0,none⟩) X.n X.n):=z_.out.box.cell rfl;have x3:=z_.out.bnd.cell (dV _ _ hxn (j:=0) (by omega));have x4:=z_.out.bnd.cell (dV _ _ hxn (j:=1) (by omega));rw[kH]at x3;have j1:(j:Int)<(R.length:Int):=by omega
       have xn1:(x:Int)<(X.n:Int):=by omega
       clear hrw hcg hx hgl hyx;go_upto_region 20 with(fail)
       generalize DL:World.alloc _ _=Wb;obtain⟨hbb,hxb⟩:=bx1' DL;have q0:Wb.cell? ⟨wr.heap.size,0,none⟩=some (.int .i64 (loc x)):=(aL Wb _ 0 _ _ _ hxb).trans rfl;have q1:Wb.cell? ⟨wr.heap.size,1,none⟩=some (.int .i64 (hic x)):=(aL Wb _ 1 _ _ _ hxb).trans rfl;have xI:=ah (z_.out.below hbb);have xQ:=ah (AA.out.trans (oQ.of_below hbb));have Ng:=ah (dx rX.out hbb);have hst:=MI X loc hic A2 Yz (H++Hd) x (loc x) (min (hic x) v) Wb xI.out hxn (by simp;omega);clear DL hbb hxb x0 x1 x3 x4 z_ AA rX;have MJ:∀f:Nat->Int,(∀c,f c<=hic c)-> -v<= - f x->Hid (∀b∈R.take (j+1), -v<= - f b):=λf hf hv b hb=>by
        rw[bS HXJ.out]at hb;rcases dJ.1 hb with hb|hb
        .have h3:=HDJ.out b hb;have h4:=hf b;omega
        .rw[d_.1 hb];exact hv
       rcases hstep with⟨hvx,hmx⟩|⟨hvx,hmx,hnb,VJ⟩
       .have c:loc x=loc x/\hic x=min (hic x) v:=⟨rfl,by omega⟩
        rw[if_pos c,if_pos c,if_pos c,decide_eq_true c]at hst;have HST:=ah hst;have R7:=MJ hic (λ_=>iI _) hvx;clear hst c hmx MJ;go_wp2_with (go_at_call 141;refine HST.out.mono ?_;rintro e W5 ⟨A5,VK,rfl,hs5,R8⟩;refine Hid.out ?_);refine ah ?_;have WG:=ah hs5;have VL:=ah (xQ.out.trans R8);have Nh:=ah (uq Ng.out R8 (by unfold DZ;decide));clear hs5 R8 xI xQ Ng HST q0 q1;go_wp2
        go_roundg (R.length - (j+1))
        case measure=>rw[Nj.out];omega
        case rel=>exact⟨j+1,hic,Hd,earlier,A6,c6,A5,VK,rfl,by omega,hil,by go_num,rfl,WG,VL,Nh,FU,K5,HY,R7,xD,hlc⟩
       .have c:¬(loc x=loc x/\hic x=min (hic x) v):=λh=>by have:=h.2;omega
        rw[if_neg c,if_neg c,if_neg c,decide_eq_false c]at hst;have HST:=ah hst;have o_:Hid (min (hic x) v=v):=by show _=_;omega
        rw[VG]at VJ;have Yw:=ah VJ;have HGE:Hid (∀c,setAt hic x v c<=hic c):=λc=>by
         by_cases e:c=x
         .subst e;rw[eY];omega
         .rw[fq _ _ e];exact iI _
        have R7:=MJ (setAt hic x v) HGE.out (by rw[eY];exact iI _);have adX:Hid (∀y∈(earlier++[x]).take i,∀b,(y,b)∈P.map (λp=>(p.2,p.1))-> -v<= - setAt hic x v b):=λy' hy' b hb=>by
         rw[List.take_append_of_le_length (by omega)]at hy';have h3:=K5.out y' hy' b hb;have h4:=HGE.out b;omega
        have Qr:Hid ((earlier++[x])[i]?=some y):=by show _=_;rw[nG hil];exact HY.out
        clear hst c hmx VJ MJ hnb;go_wp2_with (first|(go_at_call 141;refine HST.out.mono ?_;rintro e W5 ⟨A5,VK,rfl,hs5,R8⟩;refine Hid.out ?_)|fail);refine ah ?_;rw[o_.out,kW]at hs5;have WG:=ah hs5;have VL:=ah (xQ.out.trans R8);have Nh:=ah (uq Ng.out R8 (by unfold DZ;decide));clear hs5 R8 xI xQ Ng HST q0 q1;have hw5:w.heap.size<=W5.heap.size:=VL.out.size;go_wp2_with (at_builtin;refine iQ rfl _ _ 22 rfl 3 ii (.int .i64 0) 1 8 Tryz.underlying22 hii hiz his hib rfl (by decide) w.heap.size _ _ _ rfl Nh.out [.int .i64 x] _ rfl rfl (by intro u hu;simp only[d_]at hu;subst hu;rfl) rfl (by unfold maxLen;omega) (by omega) hw5 ?_;intro g7 c7 w7 hr7 hg7;refine Hid.out ?_);refine ah ?_;have Fu:Hid (aH (λk=>(Value.slice A6 earlier.length c6).ownBlock=some k) W5 w7):=((aH.refl _ W5).alloc _).trans (aH.jG hg7) (λ_ _ h=>h);have HS7:=ah (WG.out.RZ Fu.out (iK Nh.out) (λu hu b hb hs=>by have h1:=Oj.out u hu b hb;have h2:=(Nh.out.lt b hs).1;omega));have HM7:=ah (VL.out.new Fu.out (λk hk=>(Nh.out.lt k hk).1));have hl7:(earlier++[x]).length=earlier.length+1:=by simp
        have HR7:Hid (w7.ownsRow w.heap.size 3 1 (.slice (some ⟨g7,0,none⟩) (earlier++[x]).length c7) (earlier++[x]).length (aY (tC (earlier++[x])))):=by
         show World.ownsRow _ _ _ _ _ _ _;rw[hl7,K4,oP];exact hr7
        have Yy:=ah hl7;have adZ:Hid (qg (Hd++[(x,loc x,hic x)]) loc=lo/\qh (Hd++[(x,loc x,hic x)]) (setAt hic x v)=hi/\∀c∈Hd++[(x,loc x,hic x)],c.1<X.n):=by
         refine⟨?_,?_,?_⟩
         .rw[IB,kW];exact xD.out.1
         .rw[IC,wR];exact xD.out.2.1
         .exactλc hc=>(dJ.1 hc).elim (xD.out.2.2 c) (λh=>by rw[d_.1 h];exact hxn)
        rw[uW]at HS7;clear hr7 hg7 Fu WG VL Nh hl7;go_wp2
        go_roundg (R.length - (j+1))
        case measure=>rw[Nj.out];omega
        case rel=>exact⟨j+1,setAt hic x v,Hd++[(x,loc x,hic x)],earlier++[x],_,c7,A5,VK,rfl,by omega,by rw[Yy.out];omega,by go_num,by rw[Yy.out],HS7,HM7,HR7,Yw,adX,Qr,R7,adZ,by rw[Yy.out];simp;omega⟩
      .obtain rfl:j=R.length:=by omega
       have ad1:Hid (∀y'∈earlier.take (i+1),∀b,(y',b)∈P.map (λp=>(p.2,p.1))-> -v<= - hic b):=λy' hy' b hb=>by
        rw[bS HY.out]at hy';rcases dJ.1 hy' with hy'|hy'
        .exact K5.out y' hy' b hb
        .rw[d_.1 hy']at hb
         exact HDJ.out b (by rw[gW];exact(Zu.out b).2 hb)
       clear Nj hlj HDJ K5;go_wp2
       go_roundg (X.n - (i+1))
       case measure=>rw[iL.out];omega
       case rel=>exact⟨i+1,hic,Hd,earlier,A6,c6,A2,Yz,rfl,by omega,by go_num,rfl,z_,AA,rX,FU,ad1,xD,hlc⟩
    .obtain rfl:i=earlier.length:=by omega
     rw[gW]at K5;clear iL hlt;have hlf:=ag3.out.length;go_wp2;refine bodyPost_ret (v:=.tuple #[]) (by simp[results,Tryz.results102,go_sem]) rfl ⟨loc,hic,A2,Yz,Hd,rfl,z_.out,AA.out,by omega,xD.out.1,xD.out.2.1,xD.out.2.2,⟨later,ag3.out,akx.out⟩,earlier,FU.out,K5.out⟩
end Go.Proofs.YtpmdedcnbockhaaGreatDoor
