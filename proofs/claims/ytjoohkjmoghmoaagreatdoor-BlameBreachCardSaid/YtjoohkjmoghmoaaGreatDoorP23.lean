/- part -/
import Derived.Test.YtjoohkjmoghmoaaGreatDoorP22
import Derived.ProofKit
import Derived.OpenShut
import Derived.ShutString
import Derived.Deep.Slices
import Derived.LaidHandle
set_option linter.all false
namespace Go.Proofs.YtjoohkjmoghmoaaGreatDoor
section
noncomputable section
def hdR(args:List AV)(h:AH)(n:Nat):Option eY:=match args with|[]=>some (.ok (.b true) h n)|_=>none
theorem aay:zV Tryz.prog sl0 O0:=λf hf g args h n v h' n' e=>by
 have e':bc (Nat.beq g OA) (hdR args h n) (OD f g args h n)=some (.ok v h' n'):=e;cases hg:Nat.beq g OA with
 |false=>rw[hg,fU]at e';exact Td f hf g args h n v h' n' e'
 |true=>
  rw[hg,bD]at e';obtain rfl:=beq_eq hg;unfold hdR at e';split at e'
  case h_2=>cases e'
  cases e'
  refine⟨⟨_,_,Tryz.func8,rfl⟩,λθ w vs H ha=>?_⟩;have hz:RH Tryz.prog sl0 (λ_=>none) .z 0 w:=⟨λx o e=>(by rw[Tr.iI]at e;cases e),λx y r c d hx=>(by rw[Tr.iI]at hx;cases hx),λ_ _=>rfl,λg e=>let⟨ty,q,e1,_⟩:=H.gl g e;⟨ty,q,e1,λ⟨x,c,hx,_⟩=>(by rw[Tr.iI]at hx;cases hx)⟩⟩;obtain rfl:vs=[]:=ha;refine((apart Rb aax Oj (by rfl) (λx o e=>by rw[Tr.iI]at e;cases e)).2 _ w [] hz rfl).mono ?_;rintro en w' ⟨bP,u,rfl,q1,q2,F⟩;have hblk:∀k,k<w.heap.size->w'.heap[k]?=w.heap[k]?:=λk hk=>F.block k hk λ⟨x,c,hx,_⟩=>by rw[Tr.iI]at hx;cases hx
  refine⟨θ,u,rfl,q1,⟨λx o e=>?_,H.inj,H.new,λg e=>?_⟩,F.os,F.tape,F.output,F.size,λk hk _=>hblk k hk,iq.refl _,λk q=>.inl q,λk r e=>⟨r,(hblk k (bG e)).trans e⟩,λx y e1 e2=>absurd e1 e2,λ_ _ e=>e⟩
  .obtain⟨r,c,obj,k1,k2,k3⟩:=H.at_ x o e
   exact⟨r,c,obj,k1,(hblk r (bG k2)).trans k2,k3⟩
  .obtain⟨ty,q,e1,e2⟩:=H.gl g e
   exact⟨ty,q,(hblk g (bG e1)).trans e1,e2⟩
end
end
section
open Go.RowKit
noncomputable section
theorem Rc(K:Nat){h:AH}{n:Nat}{Q:AV->AH->Nat->Prop}(hQ:∀h' n',Up h n h' n'->Q (.b true) h' n'):CW (EF (K+1)) 8 [] h n Q:=⟨_,_,_,rfl,hQ _ _ (Up.refl _ _)⟩
theorem Em{w:World}{cv:CS}{C:aA}{party:Int}{ov:AV}{l:List Int}{u0 u1:Value}(hT:Lib.TabIs Tryz.prog w "internal/strconv.uint64pow10" .u64 Lib.pow10Tab)(h0:aV (IG w) (.agg (cv.av C)) u0)(h1:aV (IG w) ov u1)(hC:aY (hW w) w.heap.size cv C)(hO:SL (hW w) w.heap.size 1 ov (λx:Int=>[AV.i .i64 x]) l):
 Calls Tryz.prog 5 #[u0,u1,.int .i64 party] w λe w'=>e= .returned (.bool true)/\Below w.heap.size w w':=by
 have h:=KA (sl:=sl0) (O:=O0) Rb aay hT (vs:=[u0,u1,.int .i64 party]) (Q:=λv _ _=>v= .b true) (Ky 0 (party:=party) (λhQ=>Rc 409 hQ) hC hO (λ_ _ _=>rfl)) ⟨_,_,h0,⟨_,_,h1,⟨_,_,rfl,rfl,rfl⟩,rfl⟩,rfl⟩;refine h.mono ?_;rintro e w' ⟨v,h',n',bP,u,rfl,rfl,hv,hb⟩;exact⟨by rw[show u= .bool true from hv],hb⟩
end
end
open Go.ChangeShapes Go.WideShapes Go.ChangeAt Go.RowKit Go.Deep
noncomputable section
theorem wS{α:Type}{p:Nat->α->Prop}:∀(n:Nat),(∀i,i<n->∃a,p i a)->∃l:List α,l.length=n/\∀i a,l[i]?=some a->p i a
 |0,_=>⟨[],rfl,λi a h=>by simp at h⟩
 |n+1,h=>by
  obtain⟨l,hl,hp⟩:=wS n (λi hi=>h i (by omega));obtain⟨a,ha⟩:=h n (by omega);refine⟨l++[a],by simp[hl],λi b hb=>?_⟩;rw[List.getElem?_append]at hb;split at hb
  .exact hp i b hb
  .rename_i hi
   have:i=n:=by
    by_cases e:i=n
    .exact e
    .rw[List.getElem?_eq_none (by simp;omega)]at hb;cases hb
   subst this;rw[hl,Nat.sub_self]at hb;simp at hb;subst hb;exact ha
theorem zip_unzip{α β:Type}:∀xs:List (α×β),(xs.map (·.1)).zip (xs.map (·.2))=xs
 |[]=>rfl
 |x::xs=>by simp[zip_unzip xs]
theorem AL{β γ:Type}{c:β->List γ}{size:Nat}:∀(xs:List β),(∀x∈xs,(c x).length=size)->∀(j:Nat)(v:γ),(xs.flatMap c)[j]?=some v->∃i r x,xs[i]?=some x/\j=i*size+r/\r<size/\(c x)[r]?=some v
 |[],_,j,v,h=>by simp at h
 |x::xs,hc,j,v,h=>by
  have hx:=hc x (List.mem_cons_self ..);rw[List.flatMap_cons,List.getElem?_append]at h;split at h
  .exact⟨0,j,x,rfl,by omega,by omega,h⟩
  .obtain⟨i,r,y,h1,h2,h3,h4⟩:=AL xs (λy hy=>hc y (List.mem_cons_of_mem _ hy)) _ v h
   exact⟨i+1,r,y,h1,by rw[Nat.succ_mul];omega,h3,h4⟩
theorem AQ{β γ:Type}{c:β->List γ}{size:Nat}(h:∀x,(c x).length=size):∀xs:List β,(xs.flatMap c).length=xs.length*size
 |[]=>by simp
 |y::ys=>by rw[List.flatMap_cons,List.length_append,h,AQ h ys,List.length_cons,Nat.succ_mul];omega
theorem Ol{w:World}{a:Addr}{n c:Nat}:KT w (.slice (some a) n c)=if n=0 then some (.es a c)else if a.spot=none/\a.block<w.heap.size then some (.sl a.block 0 a.off n (some c))else none:=rfl
theorem dS{w:World}{v:Value}{l:List Value}{a:AV}{b:List AV}(h1:KT w v=some a)(h2:qP w l=some b):qP w (v::l)=some (a::b):=by unfold qP;rw[h1,h2]
theorem aaz{w:World}(s:ByteArray):KT w (.string s)=some (.s s.toList):=by rw[ByteArray.toList_eq];rfl
section
variable {H:Type} {enc:TypeId×Value->H} {P:Program} {w:World} {spare:Nat->Bool} {held:Bool}
theorem uQ{α:Type}(g:α->List AV)(G:α->Prop)(size:Nat)(hpos:0<size)(hg:∀a,(g a).length=size){t e:TypeId}(ht:P.underlying t=some (.slice e))(hC:P.cellsOf e=size)
 (dec:∀n cs y,DataW.trod enc P w 0 spare held n e cs=some y->∃a,qP w cs=some (g a)/\G a){u:Value}{fuel:Nat}{x:DataW H×List MemPlace}(h:DataW.trod enc P w 0 spare held fuel t [u]=some x):
 ∃(a:AV)(xs:List α),KT w u=some a/\SL (hW w) w.heap.size size a g xs/\∀a∈xs,G a:=by
 rcases open_slice ht h with⟨h0,_⟩|⟨a,l,c,m,n,D,Pl,hcs,_,hl,hm,hmm,_,hi⟩
 .cases h0
  exact⟨.k 1,[],rfl,⟨hg,.inl ⟨rfl,rfl,rfl⟩⟩,λa ha=>by cases ha⟩
 .cases hcs
  have hlm:l<=m:=by subst hmm;split<;>omega
  rw[hC]at hi;obtain⟨xs,hxl,hx⟩:=wS (p:=λi (b:α×List Value)=>(∀j,j<size->w.cell? (a.add (i*size+j))=b.2[j]?)/\b.2.length=size/\qP w b.2=some (g b.1)/\G b.1) l (λi hil=>by
   obtain⟨cs',hc,ht'⟩:=hi i (by omega);obtain⟨b,hb,hG⟩:=dec _ _ _ ht';obtain⟨_,hcl,hat⟩:=World.cells?_some hc;exact⟨(b,cs'),λj hj=>by rw[<-Go.Deep.add_add,hat j hj],hcl,hb,hG⟩)
  subst hxl;have hxm:∀b∈xs,b.2.length=size/\qP w b.2=some (g b.1)/\G b.1:=λb hb=>by
   obtain⟨i,hi',he⟩:=List.mem_iff_getElem.1 hb;exact(hx i b (by rw[List.getElem?_eq_getElem hi',he])).2
  have hG:∀a∈xs.map (·.1),G a:=λb hb=>by
   obtain⟨y,hy,rfl⟩:=List.mem_map.1 hb;exact(hxm y hy).2.2
  have hcell:∀j v,(xs.flatMap (·.2))[j]?=some v->w.cell? (a.add j)=some v:=λj v hv=>by
   obtain⟨i,r,y,h1,rfl,h3,h4⟩:=AL xs (λy hy=>(hxm y hy).1) j v hv;rw[(hx i y h1).1 r h3,h4]
  have hab:qP w (xs.flatMap (·.2))=some (xs.flatMap λb=>g b.1):=El λb hb=>(hxm b hb).2.1;have hfm:(xs.map (·.1)).flatMap g=xs.flatMap λb=>g b.1:=by rw[List.flatMap_map]
  have hlen:(xs.flatMap λb=>g b.1).length=xs.length*size:=AQ (λb=>hg b.1) xs;by_cases h0:xs.length=0
  .have hnil:xs=[]:=List.eq_nil_of_length_eq_zero h0
   subst hnil;exact⟨.es a c,[],by rw[Ol];exact if_pos rfl,⟨hg,.inr (.inr ⟨a,c,rfl,rfl,rfl⟩)⟩,λa ha=>by cases ha⟩
  .have hvl:=IJ hab
   have hpl:0<xs.length*size:=Nat.mul_pos (by omega) hpos;obtain⟨v,hv⟩:∃v,(xs.flatMap (·.2))[0]?=some v:=⟨_,List.getElem?_eq_getElem (by omega)⟩;have hc0:=hcell 0 v hv;obtain⟨b,o,s⟩:=a;have hs:s=none/\b<w.heap.size:=by
    unfold World.cell? at hc0;split at hc0
    .rename_i h3
     refine⟨?_,bG h3⟩;cases s with
     |none=>rfl
     |some _=>simp[Addr.add]at hc0
    .cases hc0
   obtain⟨rfl,hb⟩:=hs;refine⟨.sl b 0 o xs.length (some c),xs.map (·.1),by rw[Ol,if_neg h0,if_pos ⟨rfl,hb⟩],⟨hg,.inr (.inl ⟨b,0,o,some c,by rw[List.length_map],hb,?_,by rw[hfm,hlen,List.length_map],λk e=>by cases e;rw[List.length_map];exact hl⟩)⟩,hG⟩;rw[hfm];exact KC hb (λj v hv=>by have:=hcell j v hv;rwa [Addr.add_mid]at this) (by omega) hab
end
section
variable {H:Type} {enc:TypeId×Value->H} {w:World} {spare:Nat->Bool} {held:Bool}
theorem Om:Tryz.prog.cellsOf 3=1:=by kernel_rfl
theorem VU:Tryz.prog.cellsOf 4=1:=by kernel_rfl
theorem VW:Tryz.prog.cellsOf 9=1:=by kernel_rfl
theorem Rf:Tryz.prog.cellsOf 55=2:=by kernel_rfl
theorem En:Tryz.prog.cellsOf 169=7:=by kernel_rfl
theorem Eo:Tryz.prog.cellsOf 191=2:=by kernel_rfl
theorem Ep:Tryz.prog.cellsOf 167=5:=by kernel_rfl
theorem Er:Tryz.prog.cellsOf 112=16:=by kernel_rfl
theorem IL:Tryz.prog.cellsOf 22=1:=by kernel_rfl
theorem Oo:Tryz.prog.cellsOf 110=1:=by kernel_rfl
theorem Rh:Tryz.prog.cellsOf 23=1:=by kernel_rfl
theorem Ri:Tryz.prog.cellsOf 24=1:=by kernel_rfl
theorem Rj:Tryz.prog.cellsOf 25=1:=by kernel_rfl
theorem Rk:Tryz.prog.cellsOf 27=7:=by kernel_rfl
theorem take1{cs:List Value}{k:Nat}{v:Value}(h:(cs.drop k).take 1=[v]):cs[k]?=some v:=by
 have:((cs.drop k).take 1)[0]?=some v:=by rw[h];rfl
 rw[List.getElem?_take]at this;simpa using this
theorem zG{m i k:Nat}{cs:List Value}{xs:List (DataW H×List MemPlace)}(h:DataW.trod enc Tryz.prog w 0 spare held m 3 ((cs.drop k).take (Tryz.prog.cellsOf 3))=xs[i]?)(hi:i<xs.length):∃z,cs[k]?=some (.int .i64 z):=by
 rw[List.getElem?_eq_getElem hi,Om]at h;obtain⟨v,e,_⟩:=DataW.trod_int Tryz.underlying3 h;exact⟨v,take1 e⟩
theorem f_b{m i k:Nat}{cs:List Value}{xs:List (DataW H×List MemPlace)}(h:DataW.trod enc Tryz.prog w 0 spare held m 4 ((cs.drop k).take (Tryz.prog.cellsOf 4))=xs[i]?)(hi:i<xs.length):∃z,cs[k]?=some (.bool z):=by
 rw[List.getElem?_eq_getElem hi,VU]at h;obtain⟨v,e,_⟩:=DataW.trod_bool Tryz.underlying4 h;exact⟨v,take1 e⟩
theorem f_s{m i k:Nat}{cs:List Value}{xs:List (DataW H×List MemPlace)}(h:DataW.trod enc Tryz.prog w 0 spare held m 9 ((cs.drop k).take (Tryz.prog.cellsOf 9))=xs[i]?)(hi:i<xs.length):∃z,cs[k]?=some (.string z):=by
 rw[List.getElem?_eq_getElem hi,VW]at h;obtain⟨v,e,_⟩:=DataW.trod_string Tryz.underlying9 h;exact⟨v,take1 e⟩
theorem WL{m i k:Nat}{t:TypeId}{cs:List Value}{xs:List (DataW H×List MemPlace)}(hi:i<xs.length)(hk:k<cs.length)(hc:Tryz.prog.cellsOf t=1)(h:DataW.trod enc Tryz.prog w 0 spare held m t ((cs.drop k).take (Tryz.prog.cellsOf t))=xs[i]?):∃u,cs[k]?=some u/\∃y,DataW.trod enc Tryz.prog w 0 spare held m t [u]=some y:=by
 rw[List.getElem?_eq_getElem hi,hc]at h;have e:(cs.drop k).take 1=[cs[k]]:=by rw[List.drop_eq_getElem_cons hk];rfl
 rw[e]at h;exact⟨_,List.getElem?_eq_getElem hk,_,h⟩
theorem f_r{m i k:Nat}{cs:List Value}{xs:List (DataW H×List MemPlace)}(h:DataW.trod enc Tryz.prog w 0 spare held m 55 ((cs.drop k).take (Tryz.prog.cellsOf 55))=xs[i]?)(hi:i<xs.length):∃p q,cs[k]?=some (.int .i64 p)/\cs[k+1]?=some (.int .i64 q):=by
 rw[List.getElem?_eq_getElem hi,Rf]at h;obtain⟨ys,m',_,_,hl,hy,hf⟩:=DataW.trod_struct Tryz.underlying55 h;have hy:ys.length=2:=hy;obtain⟨p,e1⟩:=zG (k:=0) (hf 0 _ rfl) (by omega);obtain⟨q,e2⟩:=zG (k:=1) (hf 1 _ rfl) (by omega);rw[List.getElem?_take]at e1 e2;refine⟨p,q,?_,?_⟩
 .simpa using e1
 .simpa [List.getElem?_drop]using e2
theorem Rl{m:Nat}{cs:List Value}{y:DataW H×List MemPlace}(h:DataW.trod enc Tryz.prog w 0 spare held m 3 cs=some y):∃a:Int,qP w cs=some [AV.i .i64 a]:=by
 obtain⟨v,rfl,_⟩:=DataW.trod_int Tryz.underlying3 h;exact⟨v,rfl⟩
set_option maxRecDepth 100000 in
theorem Rm{m:Nat}{cs:List Value}{y:DataW H×List MemPlace}(h:DataW.trod enc Tryz.prog w 0 spare held m 169 cs=some y):∃a:dh,qP w cs=some a.av:=by
 obtain⟨xs,m,_,_,hl,hx,hf⟩:=DataW.trod_struct Tryz.underlying169 h;have hx:xs.length=6:=hx;rw[En]at hl
 match cs,hl with
 |[c0,c1,c2,c3,c4,c5,c6],_=>
  obtain⟨v0,e0⟩:=zG (k:=0) (hf 0 _ rfl) (by omega);cases e0
  obtain⟨v1,e1⟩:=zG (k:=1) (hf 1 _ rfl) (by omega);cases e1
  obtain⟨v2,e2⟩:=zG (k:=2) (hf 2 _ rfl) (by omega);cases e2
  obtain⟨v3,e3⟩:=zG (k:=3) (hf 3 _ rfl) (by omega);cases e3
  obtain⟨v4,e4⟩:=zG (k:=4) (hf 4 _ rfl) (by omega);cases e4
  obtain⟨p5,q5,e5,g5⟩:=f_r (k:=5) (hf 5 _ rfl) (by omega);cases e5;cases g5
  exact⟨⟨v0,v1,v2,v3,v4,⟨p5,q5⟩⟩,dS rfl (dS rfl (dS rfl (dS rfl (dS rfl (dS rfl (dS rfl (rfl)))))))⟩
set_option maxRecDepth 100000 in
theorem Oq{m:Nat}{cs:List Value}{y:DataW H×List MemPlace}(h:DataW.trod enc Tryz.prog w 0 spare held m 191 cs=some y):∃a:bN,qP w cs=some a.av:=by
 obtain⟨xs,m,_,_,hl,hx,hf⟩:=DataW.trod_struct Tryz.underlying191 h;have hx:xs.length=2:=hx;rw[Eo]at hl
 match cs,hl with
 |[c0,c1],_=>
  obtain⟨v0,e0⟩:=zG (k:=0) (hf 0 _ rfl) (by omega);cases e0
  obtain⟨v1,e1⟩:=zG (k:=1) (hf 1 _ rfl) (by omega);cases e1
  exact⟨⟨v0,v1⟩,dS rfl (dS rfl (rfl))⟩
set_option maxRecDepth 100000 in
theorem Ot{m:Nat}{cs:List Value}{y:DataW H×List MemPlace}(h:DataW.trod enc Tryz.prog w 0 spare held m 167 cs=some y):∃a:dB,qP w cs=some a.av:=by
 obtain⟨xs,m,_,_,hl,hx,hf⟩:=DataW.trod_struct Tryz.underlying167 h;have hx:xs.length=4:=hx;rw[Ep]at hl
 match cs,hl with
 |[c0,c1,c2,c3,c4],_=>
  obtain⟨v0,e0⟩:=f_s (k:=0) (hf 0 _ rfl) (by omega);cases e0
  obtain⟨v1,e1⟩:=zG (k:=1) (hf 1 _ rfl) (by omega);cases e1
  obtain⟨v2,e2⟩:=zG (k:=2) (hf 2 _ rfl) (by omega);cases e2
  obtain⟨p3,q3,e3,g3⟩:=f_r (k:=3) (hf 3 _ rfl) (by omega);cases e3;cases g3
  exact⟨⟨v0,v1,v2,⟨p3,q3⟩⟩,dS (aaz _) (dS rfl (dS rfl (dS rfl (dS rfl (rfl)))))⟩
set_option maxRecDepth 100000 in
theorem GN{m:Nat}{u:Value}{y:DataW H×List MemPlace}(h:DataW.trod enc Tryz.prog w 0 spare held m 110 [u]=some y):∃(t:AV)(l:List bN),KT w u=some t/\SL (hW w) w.heap.size 2 t bN.av l:=by
 obtain⟨t,l,h1,h2,_⟩:=uQ bN.av (λ_=>True) 2 (by omega) (λ_=>rfl) Tryz.underlying110 Eo (λn cs y h=>by obtain⟨a,ha⟩:=Oq h;exact⟨a,ha,trivial⟩) h;exact⟨t,l,h1,h2⟩
set_option maxRecDepth 100000 in
theorem GQ{m:Nat}{u:Value}{y:DataW H×List MemPlace}(h:DataW.trod enc Tryz.prog w 0 spare held m 23 [u]=some y):∃(t:AV)(l:List dB),KT w u=some t/\SL (hW w) w.heap.size 5 t dB.av l:=by
 obtain⟨t,l,h1,h2,_⟩:=uQ dB.av (λ_=>True) 5 (by omega) (λ_=>rfl) Tryz.underlying23 Ep (λn cs y h=>by obtain⟨a,ha⟩:=Ot h;exact⟨a,ha,trivial⟩) h;exact⟨t,l,h1,h2⟩
set_option maxRecDepth 100000 in
theorem KD{m:Nat}{u:Value}{y:DataW H×List MemPlace}(h:DataW.trod enc Tryz.prog w 0 spare held m 24 [u]=some y):∃(t:AV)(l:List dh),KT w u=some t/\SL (hW w) w.heap.size 7 t dh.av l:=by
 obtain⟨t,l,h1,h2,_⟩:=uQ dh.av (λ_=>True) 7 (by omega) (λ_=>rfl) Tryz.underlying24 En (λn cs y h=>by obtain⟨a,ha⟩:=Rm h;exact⟨a,ha,trivial⟩) h;exact⟨t,l,h1,h2⟩
set_option maxRecDepth 100000 in
theorem wu{m:Nat}{u:Value}{y:DataW H×List MemPlace}(h:DataW.trod enc Tryz.prog w 0 spare held m 22 [u]=some y):∃(t:AV)(l:List Int),KT w u=some t/\SL (hW w) w.heap.size 1 t (λx:Int=>[AV.i .i64 x]) l:=by
 obtain⟨t,l,h1,h2,_⟩:=uQ (λx:Int=>[AV.i .i64 x]) (λ_=>True) 1 (by omega) (λ_=>rfl) Tryz.underlying22 Om (λn cs y h=>by obtain⟨a,ha⟩:=Rl h;exact⟨a,ha,trivial⟩) h;exact⟨t,l,h1,h2⟩
set_option maxRecDepth 100000 in
theorem GR{m:Nat}{cs:List Value}{y:DataW H×List MemPlace}(h:DataW.trod enc Tryz.prog w 0 spare held m 112 cs=some y):∃a:aF×AV,qP w cs=some (a.1.av a.2)/\SL (hW w) w.heap.size 2 a.2 bN.av a.1.start:=by
 obtain⟨xs,m,_,_,hl,hx,hf⟩:=DataW.trod_struct Tryz.underlying112 h;have hx:xs.length=15:=hx;rw[Er]at hl
 match cs,hl with
 |[c0,c1,c2,c3,c4,c5,c6,c7,c8,c9,c10,c11,c12,c13,c14,c15],_=>
  obtain⟨v0,e0⟩:=zG (k:=0) (hf 0 _ rfl) (by omega);cases e0
  obtain⟨v1,e1⟩:=zG (k:=1) (hf 1 _ rfl) (by omega);cases e1
  obtain⟨v2,e2⟩:=zG (k:=2) (hf 2 _ rfl) (by omega);cases e2
  obtain⟨v3,e3⟩:=zG (k:=3) (hf 3 _ rfl) (by omega);cases e3
  obtain⟨u4,e4,VX⟩:=WL (k:=4) (by omega:4<xs.length) (by simp) Oo (hf 4 _ rfl);cases e4
  obtain⟨y4,VX⟩:=VX;obtain⟨t4,v4,a4,s4⟩:=GN VX;obtain⟨v5,e5⟩:=zG (k:=5) (hf 5 _ rfl) (by omega);cases e5
  obtain⟨v6,e6⟩:=zG (k:=6) (hf 6 _ rfl) (by omega);cases e6
  obtain⟨v7,e7⟩:=f_b (k:=7) (hf 7 _ rfl) (by omega);cases e7
  obtain⟨v8,e8⟩:=f_b (k:=8) (hf 8 _ rfl) (by omega);cases e8
  obtain⟨v9,e9⟩:=zG (k:=9) (hf 9 _ rfl) (by omega);cases e9
  obtain⟨v10,e10⟩:=zG (k:=10) (hf 10 _ rfl) (by omega);cases e10
  obtain⟨p11,Ey,e11,g11⟩:=f_r (k:=11) (hf 11 _ rfl) (by omega);cases e11;cases g11
  obtain⟨v12,e12⟩:=zG (k:=13) (hf 12 _ rfl) (by omega);cases e12
  obtain⟨v13,e13⟩:=zG (k:=14) (hf 13 _ rfl) (by omega);cases e13
  obtain⟨v14,e14⟩:=f_b (k:=15) (hf 14 _ rfl) (by omega);cases e14
  exact⟨(⟨v0,v1,v2,v3,v4,v5,v6,v7,v8,v9,v10,⟨p11,Ey⟩,v12,v13,v14⟩,t4),dS rfl (dS rfl (dS rfl (dS rfl (dS a4 (dS rfl (dS rfl (dS rfl (dS rfl (dS rfl (dS rfl (dS rfl (dS rfl (dS rfl (dS rfl (dS rfl (rfl)))))))))))))))),s4⟩
set_option maxRecDepth 100000 in
theorem CG{m:Nat}{u:Value}{y:DataW H×List MemPlace}(h:DataW.trod enc Tryz.prog w 0 spare held m 25 [u]=some y):∃(t:AV)(l:List aF),KT w u=some t/\∃ss,Ao (hW w) w.heap.size t l ss:=by
 obtain⟨t,l,h1,h2,h3⟩:=uQ (λa:aF×AV=>a.1.av a.2) (λa=>SL (hW w) w.heap.size 2 a.2 bN.av a.1.start) 16 (by omega) (λ_=>rfl) Tryz.underlying25 Er (λn cs y h=>GR h) h;refine⟨t,l.map (·.1),h1,l.map (·.2),by simp,?_,λi k t e1 e2=>?_⟩
 .rw[zip_unzip,List.length_map];exact h2.2
 .rw[List.getElem?_map]at e1 e2
  cases hl:l[i]? with
  |none=>rw[hl]at e1;cases e1
  |some a=>
   rw[hl]at e1 e2;cases e1;cases e2;exact h3 a (List.mem_of_getElem? hl)
set_option maxRecDepth 100000 in
theorem Rn{m:Nat}{cs:List Value}{y:DataW H×List MemPlace}(h:DataW.trod enc Tryz.prog w 0 spare held m 27 cs=some y):∃(v:CS)(C:aA),qP w cs=some (v.av C)/\aY (hW w) w.heap.size v C:=by
 obtain⟨xs,m,_,_,hl,hx,hf⟩:=DataW.trod_struct Tryz.underlying27 h;have hx:xs.length=7:=hx;rw[Rk]at hl
 match cs,hl with
 |[c0,c1,c2,c3,c4,c5,c6],_=>
  obtain⟨v0,e0⟩:=zG (k:=0) (hf 0 _ rfl) (by omega);cases e0
  obtain⟨u1,e1,hu1⟩:=WL (k:=1) (by omega:1<xs.length) (by simp) IL (hf 1 _ rfl);cases e1
  obtain⟨y1,hu1⟩:=hu1;obtain⟨t1,v1,a1,s1⟩:=wu hu1;obtain⟨u2,e2,hu2⟩:=WL (k:=2) (by omega:2<xs.length) (by simp) Rh (hf 2 _ rfl);cases e2
  obtain⟨y2,hu2⟩:=hu2;obtain⟨t2,v2,a2,s2⟩:=GQ hu2;obtain⟨u3,e3,hu3⟩:=WL (k:=3) (by omega:3<xs.length) (by simp) Ri (hf 3 _ rfl);cases e3
  obtain⟨y3,hu3⟩:=hu3;obtain⟨t3,v3,a3,s3⟩:=KD hu3;obtain⟨u4,e4,VX⟩:=WL (k:=4) (by omega:4<xs.length) (by simp) Rj (hf 4 _ rfl);cases e4
  obtain⟨y4,VX⟩:=VX;obtain⟨t4,v4,a4,s4⟩:=CG VX;obtain⟨v5,e5⟩:=zG (k:=5) (hf 5 _ rfl) (by omega);cases e5
  obtain⟨u6,e6,hu6⟩:=WL (k:=6) (by omega:6<xs.length) (by simp) IL (hf 6 _ rfl);cases e6
  obtain⟨y6,hu6⟩:=hu6;obtain⟨t6,v6,a6,s6⟩:=wu hu6;exact⟨⟨t1,t2,t3,t4,t6⟩,⟨v0,v1,v2,v3,v4,v5,v6⟩,dS rfl (dS a1 (dS a2 (dS a3 (dS a4 (dS rfl (dS a6 (rfl))))))),⟨s1,s2,s3,s4,s6⟩⟩
set_option maxRecDepth 100000 in
theorem Ou{v:Value}{d:DataW H}{p:List MemPlace}{r:Go.Reach}{base:Nat}(hv:Value.okWide Tryz.prog w r base 27 v)(h:DataW.Trod enc Tryz.prog w 0 (λ_=>true) true 27 v d p):∃(cv:CS)(C:aA),aV (IG w) (.agg (cv.av C)) v/\aY (hW w) w.heap.size cv C:=by
 obtain⟨cs,rfl,_⟩:=okWide_struct Tryz.underlying27 hv;obtain⟨fuel,hf⟩:=h;obtain⟨cv,C,hy,hC⟩:=Rn hf;obtain⟨l⟩:=cs;obtain⟨h1,h2⟩:=Cz hy;exact⟨cv,C,⟨_,h1,h2,rfl⟩,hC⟩
set_option maxRecDepth 100000 in
theorem open_ints{v:Value}{d:DataW H}{p:List MemPlace}{r:Go.Reach}{base:Nat}(hv:Value.okWide Tryz.prog w r base 22 v)(h:DataW.Trod enc Tryz.prog w 0 (λ_=>true) true 22 v d p):∃(t:AV)(l:List Int),aV (IG w) t v/\SL (hW w) w.heap.size 1 t (λx:Int=>[AV.i .i64 x]) l:=by
 obtain⟨A,len,cap,rfl⟩:=okWide_slice Tryz.underlying22 hv;obtain⟨fuel,hf⟩:=h;obtain⟨t,l,h1,h2⟩:=wu (show DataW.trod enc Tryz.prog w 0 (λ_=>true) true fuel 22 [.slice A len cap]=some _ from hf);exact⟨t,l,(Og h1).1,h2⟩
end
end
end Go.Proofs.YtjoohkjmoghmoaaGreatDoor
