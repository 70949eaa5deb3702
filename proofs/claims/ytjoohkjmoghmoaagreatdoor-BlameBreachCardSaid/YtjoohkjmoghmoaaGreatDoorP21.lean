/- part -/
import Derived.Test.YtjoohkjmoghmoaaGreatDoorP20
import Derived.ProofKit
import Derived.OpenShut
import Derived.ShutString
import Derived.Deep.Slices
import Derived.LaidHandle
import Derived.Shelf.Strconv.Itoa1
set_option linter.all false
namespace Go.Proofs.YtjoohkjmoghmoaaGreatDoor
open Go.ChangeShapes Go.WideShapes Go.ChangeAt Go.RowKit Go.Deep
noncomputable section
theorem wI{α:Type}{p:Nat->α->Prop}:∀(n:Nat),(∀i,i<n->∃a,p i a)->∃l:List α,l.length=n/\∀i a,l[i]?=some a->p i a
 |0,_=>⟨[],rfl,λi a h=>by simp at h⟩
 |n+1,h=>by
  obtain⟨l,hl,hp⟩:=wI n (λi hi=>h i (by omega));obtain⟨a,ha⟩:=h n (by omega);refine⟨l++[a],by simp[hl],λi b hb=>?_⟩;rw[List.getElem?_append]at hb;split at hb
  .exact hp i b hb
  .rename_i hi
   have:i=n:=by
    by_cases e:i=n
    .exact e
    .rw[List.getElem?_eq_none (by simp;omega)]at hb;cases hb
   subst this;rw[hl,Nat.sub_self]at hb;simp at hb;subst hb;exact ha
theorem zip_unzip{α β:Type}:∀xs:List (α×β),(xs.map (·.1)).zip (xs.map (·.2))=xs
 |[]=>rfl
 |x::xs=>by simp[zip_unzip xs]
theorem Aq{β γ:Type}{c:β->List γ}{size:Nat}:∀(xs:List β),(∀x∈xs,(c x).length=size)->∀(j:Nat)(v:γ),(xs.flatMap c)[j]?=some v->∃i r x,xs[i]?=some x/\j=i*size+r/\r<size/\(c x)[r]?=some v
 |[],_,j,v,h=>by simp at h
 |x::xs,hc,j,v,h=>by
  have hx:=hc x (List.mem_cons_self ..);rw[List.flatMap_cons,List.getElem?_append]at h;split at h
  .exact⟨0,j,x,rfl,by omega,by omega,h⟩
  .obtain⟨i,r,y,h1,h2,h3,h4⟩:=Aq xs (λy hy=>hc y (List.mem_cons_of_mem _ hy)) _ v h
   exact⟨i+1,r,y,h1,by rw[Nat.succ_mul];omega,h3,h4⟩
theorem Ar{β γ:Type}{c:β->List γ}{size:Nat}(h:∀x,(c x).length=size):∀xs:List β,(xs.flatMap c).length=xs.length*size
 |[]=>by simp
 |y::ys=>by rw[List.flatMap_cons,List.length_append,h,Ar h ys,List.length_cons,Nat.succ_mul];omega
theorem OP{w:World}{a:Addr}{n c:Nat}:KL w (.slice (some a) n c)=if n=0 then some (.es a c)else if a.spot=none/\a.block<w.heap.size then some (.sl a.block 0 a.off n (some c))else none:=rfl
theorem dY{w:World}{v:Value}{l:List Value}{a:AV}{b:List AV}(h1:KL w v=some a)(h2:qL w l=some b):qL w (v::l)=some (a::b):=by unfold qL;rw[h1,h2]
theorem aaY{w:World}(s:ByteArray):KL w (.string s)=some (.s s.toList):=by rw[ByteArray.toList_eq];rfl
section
variable {H:Type} {enc:TypeId×Value->H} {P:Program} {w:World} {spare:Nat->Bool} {held:Bool}
theorem uN{α:Type}(g:α->List AV)(G:α->Prop)(size:Nat)(hpos:0<size)(hg:∀a,(g a).length=size){t e:TypeId}(ht:P.underlying t=some (.slice e))(hC:P.cellsOf e=size)
 (dec:∀n cs y,DataW.trod enc P w 0 spare held n e cs=some y->∃a,qL w cs=some (g a)/\G a){u:Value}{fuel:Nat}{x:DataW H×List MemPlace}(h:DataW.trod enc P w 0 spare held fuel t [u]=some x):
 ∃(a:AV)(xs:List α),KL w u=some a/\SL (hW w) w.heap.size size a g xs/\∀a∈xs,G a:=by
 rcases open_slice ht h with⟨h0,_⟩|⟨a,l,c,m,n,D,Pl,hcs,_,hl,hm,hmm,_,hi⟩
 .cases h0
  exact⟨.k 1,[],rfl,⟨hg,.inl ⟨rfl,rfl,rfl⟩⟩,λa ha=>by cases ha⟩
 .cases hcs
  have hlm:l<=m:=by subst hmm;split<;>omega
  rw[hC]at hi;obtain⟨xs,hxl,hx⟩:=wI (p:=λi (b:α×List Value)=>(∀j,j<size->w.cell? (a.add (i*size+j))=b.2[j]?)/\b.2.length=size/\qL w b.2=some (g b.1)/\G b.1) l (λi hil=>by
   obtain⟨cs',hc,ht'⟩:=hi i (by omega);obtain⟨b,hb,hG⟩:=dec _ _ _ ht';obtain⟨_,hcl,hat⟩:=World.cells?_some hc;exact⟨(b,cs'),λj hj=>by rw[<-Go.Deep.add_add,hat j hj],hcl,hb,hG⟩)
  subst hxl;have hxm:∀b∈xs,b.2.length=size/\qL w b.2=some (g b.1)/\G b.1:=λb hb=>by
   obtain⟨i,hi',he⟩:=List.mem_iff_getElem.1 hb;exact(hx i b (by rw[List.getElem?_eq_getElem hi',he])).2
  have hG:∀a∈xs.map (·.1),G a:=λb hb=>by
   obtain⟨y,hy,rfl⟩:=List.mem_map.1 hb;exact(hxm y hy).2.2
  have hcell:∀j v,(xs.flatMap (·.2))[j]?=some v->w.cell? (a.add j)=some v:=λj v hv=>by
   obtain⟨i,r,y,h1,rfl,h3,h4⟩:=Aq xs (λy hy=>(hxm y hy).1) j v hv;rw[(hx i y h1).1 r h3,h4]
  have hab:qL w (xs.flatMap (·.2))=some (xs.flatMap λb=>g b.1):=D_ λb hb=>(hxm b hb).2.1;have hfm:(xs.map (·.1)).flatMap g=xs.flatMap λb=>g b.1:=by rw[List.flatMap_map]
  have hlen:(xs.flatMap λb=>g b.1).length=xs.length*size:=Ar (λb=>hg b.1) xs;by_cases h0:xs.length=0
  .have hnil:xs=[]:=List.eq_nil_of_length_eq_zero h0
   subst hnil;exact⟨.es a c,[],by rw[OP];exact if_pos rfl,⟨hg,.inr (.inr ⟨a,c,rfl,rfl,rfl⟩)⟩,λa ha=>by cases ha⟩
  .have hvl:=Iz hab
   have hpl:0<xs.length*size:=Nat.mul_pos (by omega) hpos;obtain⟨v,hv⟩:∃v,(xs.flatMap (·.2))[0]?=some v:=⟨_,List.getElem?_eq_getElem (by omega)⟩;have hc0:=hcell 0 v hv;obtain⟨b,o,s⟩:=a;have hs:s=none/\b<w.heap.size:=by
    unfold World.cell? at hc0;split at hc0
    .rename_i h3
     refine⟨?_,bH h3⟩;cases s with
     |none=>rfl
     |some _=>simp[Addr.add]at hc0
    .cases hc0
   obtain⟨rfl,hb⟩:=hs;refine⟨.sl b 0 o xs.length (some c),xs.map (·.1),by rw[OP,if_neg h0,if_pos ⟨rfl,hb⟩],⟨hg,.inr (.inl ⟨b,0,o,some c,by rw[List.length_map],hb,?_,by rw[hfm,hlen,List.length_map],λk e=>by cases e;rw[List.length_map];exact hl⟩)⟩,hG⟩;rw[hfm];exact Kw hb (λj v hv=>by have:=hcell j v hv;rwa [Addr.add_mid]at this) (by omega) hab
end
section
variable {H:Type} {enc:TypeId×Value->H} {w:World} {spare:Nat->Bool} {held:Bool}
theorem OQ:Tryz.prog.cellsOf 3=1:=by kernel_rfl
theorem Wm:Tryz.prog.cellsOf 4=1:=by kernel_rfl
theorem Wn:Tryz.prog.cellsOf 9=1:=by kernel_rfl
theorem Rw:Tryz.prog.cellsOf 55=2:=by kernel_rfl
theorem Ea:Tryz.prog.cellsOf 169=7:=by kernel_rfl
theorem Eb:Tryz.prog.cellsOf 191=2:=by kernel_rfl
theorem Ec:Tryz.prog.cellsOf 167=5:=by kernel_rfl
theorem Ed:Tryz.prog.cellsOf 112=16:=by kernel_rfl
theorem IC:Tryz.prog.cellsOf 22=1:=by kernel_rfl
theorem OU:Tryz.prog.cellsOf 110=1:=by kernel_rfl
theorem Rx:Tryz.prog.cellsOf 23=1:=by kernel_rfl
theorem Ry:Tryz.prog.cellsOf 24=1:=by kernel_rfl
theorem Rz:Tryz.prog.cellsOf 25=1:=by kernel_rfl
theorem RA:Tryz.prog.cellsOf 27=7:=by kernel_rfl
theorem take1{cs:List Value}{k:Nat}{v:Value}(h:(cs.drop k).take 1=[v]):cs[k]?=some v:=by
 have:((cs.drop k).take 1)[0]?=some v:=by rw[h];rfl
 rw[List.getElem?_take]at this;simpa using this
theorem zm{m i k:Nat}{cs:List Value}{xs:List (DataW H×List MemPlace)}(h:DataW.trod enc Tryz.prog w 0 spare held m 3 ((cs.drop k).take (Tryz.prog.cellsOf 3))=xs[i]?)(hi:i<xs.length):∃z,cs[k]?=some (.int .i64 z):=by
 rw[List.getElem?_eq_getElem hi,OQ]at h;obtain⟨v,e,_⟩:=DataW.trod_int Tryz.underlying3 h;exact⟨v,take1 e⟩
theorem f_b{m i k:Nat}{cs:List Value}{xs:List (DataW H×List MemPlace)}(h:DataW.trod enc Tryz.prog w 0 spare held m 4 ((cs.drop k).take (Tryz.prog.cellsOf 4))=xs[i]?)(hi:i<xs.length):∃z,cs[k]?=some (.bool z):=by
 rw[List.getElem?_eq_getElem hi,Wm]at h;obtain⟨v,e,_⟩:=DataW.trod_bool Tryz.underlying4 h;exact⟨v,take1 e⟩
theorem f_s{m i k:Nat}{cs:List Value}{xs:List (DataW H×List MemPlace)}(h:DataW.trod enc Tryz.prog w 0 spare held m 9 ((cs.drop k).take (Tryz.prog.cellsOf 9))=xs[i]?)(hi:i<xs.length):∃z,cs[k]?=some (.string z):=by
 rw[List.getElem?_eq_getElem hi,Wn]at h;obtain⟨v,e,_⟩:=DataW.trod_string Tryz.underlying9 h;exact⟨v,take1 e⟩
theorem Xn{m i k:Nat}{t:TypeId}{cs:List Value}{xs:List (DataW H×List MemPlace)}(hi:i<xs.length)(hk:k<cs.length)(hc:Tryz.prog.cellsOf t=1)(h:DataW.trod enc Tryz.prog w 0 spare held m t ((cs.drop k).take (Tryz.prog.cellsOf t))=xs[i]?):∃u,cs[k]?=some u/\∃y,DataW.trod enc Tryz.prog w 0 spare held m t [u]=some y:=by
 rw[List.getElem?_eq_getElem hi,hc]at h;have e:(cs.drop k).take 1=[cs[k]]:=by rw[List.drop_eq_getElem_cons hk];rfl
 rw[e]at h;exact⟨_,List.getElem?_eq_getElem hk,_,h⟩
theorem f_r{m i k:Nat}{cs:List Value}{xs:List (DataW H×List MemPlace)}(h:DataW.trod enc Tryz.prog w 0 spare held m 55 ((cs.drop k).take (Tryz.prog.cellsOf 55))=xs[i]?)(hi:i<xs.length):∃p q,cs[k]?=some (.int .i64 p)/\cs[k+1]?=some (.int .i64 q):=by
 rw[List.getElem?_eq_getElem hi,Rw]at h;obtain⟨ys,m',_,_,hl,hy,hf⟩:=DataW.trod_struct Tryz.underlying55 h;have hy:ys.length=2:=hy;obtain⟨p,e1⟩:=zm (k:=0) (hf 0 _ rfl) (by omega);obtain⟨q,e2⟩:=zm (k:=1) (hf 1 _ rfl) (by omega);rw[List.getElem?_take]at e1 e2;refine⟨p,q,?_,?_⟩
 .simpa using e1
 .simpa [List.getElem?_drop]using e2
theorem RB{m:Nat}{cs:List Value}{y:DataW H×List MemPlace}(h:DataW.trod enc Tryz.prog w 0 spare held m 3 cs=some y):∃a:Int,qL w cs=some [AV.i .i64 a]:=by
 obtain⟨v,rfl,_⟩:=DataW.trod_int Tryz.underlying3 h;exact⟨v,rfl⟩
set_option maxRecDepth 100000 in
theorem RF{m:Nat}{cs:List Value}{y:DataW H×List MemPlace}(h:DataW.trod enc Tryz.prog w 0 spare held m 169 cs=some y):∃a:dB,qL w cs=some a.av:=by
 obtain⟨xs,m,_,_,hl,hx,hf⟩:=DataW.trod_struct Tryz.underlying169 h;have hx:xs.length=6:=hx;rw[Ea]at hl
 match cs,hl with
 |[c0,c1,c2,c3,c4,c5,c6],_=>
  obtain⟨v0,e0⟩:=zm (k:=0) (hf 0 _ rfl) (by omega);cases e0
  obtain⟨v1,e1⟩:=zm (k:=1) (hf 1 _ rfl) (by omega);cases e1
  obtain⟨v2,e2⟩:=zm (k:=2) (hf 2 _ rfl) (by omega);cases e2
  obtain⟨v3,e3⟩:=zm (k:=3) (hf 3 _ rfl) (by omega);cases e3
  obtain⟨v4,e4⟩:=zm (k:=4) (hf 4 _ rfl) (by omega);cases e4
  obtain⟨p5,q5,e5,g5⟩:=f_r (k:=5) (hf 5 _ rfl) (by omega);cases e5;cases g5
  exact⟨⟨v0,v1,v2,v3,v4,⟨p5,q5⟩⟩,dY rfl (dY rfl (dY rfl (dY rfl (dY rfl (dY rfl (dY rfl (rfl)))))))⟩
set_option maxRecDepth 100000 in
theorem OV{m:Nat}{cs:List Value}{y:DataW H×List MemPlace}(h:DataW.trod enc Tryz.prog w 0 spare held m 191 cs=some y):∃a:bP,qL w cs=some a.av:=by
 obtain⟨xs,m,_,_,hl,hx,hf⟩:=DataW.trod_struct Tryz.underlying191 h;have hx:xs.length=2:=hx;rw[Eb]at hl
 match cs,hl with
 |[c0,c1],_=>
  obtain⟨v0,e0⟩:=zm (k:=0) (hf 0 _ rfl) (by omega);cases e0
  obtain⟨v1,e1⟩:=zm (k:=1) (hf 1 _ rfl) (by omega);cases e1
  exact⟨⟨v0,v1⟩,dY rfl (dY rfl (rfl))⟩
set_option maxRecDepth 100000 in
theorem OW{m:Nat}{cs:List Value}{y:DataW H×List MemPlace}(h:DataW.trod enc Tryz.prog w 0 spare held m 167 cs=some y):∃a:dI,qL w cs=some a.av:=by
 obtain⟨xs,m,_,_,hl,hx,hf⟩:=DataW.trod_struct Tryz.underlying167 h;have hx:xs.length=4:=hx;rw[Ec]at hl
 match cs,hl with
 |[c0,c1,c2,c3,c4],_=>
  obtain⟨v0,e0⟩:=f_s (k:=0) (hf 0 _ rfl) (by omega);cases e0
  obtain⟨v1,e1⟩:=zm (k:=1) (hf 1 _ rfl) (by omega);cases e1
  obtain⟨v2,e2⟩:=zm (k:=2) (hf 2 _ rfl) (by omega);cases e2
  obtain⟨p3,q3,e3,g3⟩:=f_r (k:=3) (hf 3 _ rfl) (by omega);cases e3;cases g3
  exact⟨⟨v0,v1,v2,⟨p3,q3⟩⟩,dY (aaY _) (dY rfl (dY rfl (dY rfl (dY rfl (rfl)))))⟩
set_option maxRecDepth 100000 in
theorem GI{m:Nat}{u:Value}{y:DataW H×List MemPlace}(h:DataW.trod enc Tryz.prog w 0 spare held m 110 [u]=some y):∃(t:AV)(l:List bP),KL w u=some t/\SL (hW w) w.heap.size 2 t bP.av l:=by
 obtain⟨t,l,h1,h2,_⟩:=uN bP.av (λ_=>True) 2 (by omega) (λ_=>rfl) Tryz.underlying110 Eb (λn cs y h=>by obtain⟨a,ha⟩:=OV h;exact⟨a,ha,trivial⟩) h;exact⟨t,l,h1,h2⟩
set_option maxRecDepth 100000 in
theorem GJ{m:Nat}{u:Value}{y:DataW H×List MemPlace}(h:DataW.trod enc Tryz.prog w 0 spare held m 23 [u]=some y):∃(t:AV)(l:List dI),KL w u=some t/\SL (hW w) w.heap.size 5 t dI.av l:=by
 obtain⟨t,l,h1,h2,_⟩:=uN dI.av (λ_=>True) 5 (by omega) (λ_=>rfl) Tryz.underlying23 Ec (λn cs y h=>by obtain⟨a,ha⟩:=OW h;exact⟨a,ha,trivial⟩) h;exact⟨t,l,h1,h2⟩
set_option maxRecDepth 100000 in
theorem Ky{m:Nat}{u:Value}{y:DataW H×List MemPlace}(h:DataW.trod enc Tryz.prog w 0 spare held m 24 [u]=some y):∃(t:AV)(l:List dB),KL w u=some t/\SL (hW w) w.heap.size 7 t dB.av l:=by
 obtain⟨t,l,h1,h2,_⟩:=uN dB.av (λ_=>True) 7 (by omega) (λ_=>rfl) Tryz.underlying24 Ea (λn cs y h=>by obtain⟨a,ha⟩:=RF h;exact⟨a,ha,trivial⟩) h;exact⟨t,l,h1,h2⟩
set_option maxRecDepth 100000 in
theorem vT{m:Nat}{u:Value}{y:DataW H×List MemPlace}(h:DataW.trod enc Tryz.prog w 0 spare held m 22 [u]=some y):∃(t:AV)(l:List Int),KL w u=some t/\SL (hW w) w.heap.size 1 t (λx:Int=>[AV.i .i64 x]) l:=by
 obtain⟨t,l,h1,h2,_⟩:=uN (λx:Int=>[AV.i .i64 x]) (λ_=>True) 1 (by omega) (λ_=>rfl) Tryz.underlying22 OQ (λn cs y h=>by obtain⟨a,ha⟩:=RB h;exact⟨a,ha,trivial⟩) h;exact⟨t,l,h1,h2⟩
set_option maxRecDepth 100000 in
theorem GK{m:Nat}{cs:List Value}{y:DataW H×List MemPlace}(h:DataW.trod enc Tryz.prog w 0 spare held m 112 cs=some y):∃a:aF×AV,qL w cs=some (a.1.av a.2)/\SL (hW w) w.heap.size 2 a.2 bP.av a.1.start:=by
 obtain⟨xs,m,_,_,hl,hx,hf⟩:=DataW.trod_struct Tryz.underlying112 h;have hx:xs.length=15:=hx;rw[Ed]at hl
 match cs,hl with
 |[c0,c1,c2,c3,c4,c5,c6,c7,c8,c9,c10,c11,c12,c13,c14,c15],_=>
  obtain⟨v0,e0⟩:=zm (k:=0) (hf 0 _ rfl) (by omega);cases e0
  obtain⟨v1,e1⟩:=zm (k:=1) (hf 1 _ rfl) (by omega);cases e1
  obtain⟨v2,e2⟩:=zm (k:=2) (hf 2 _ rfl) (by omega);cases e2
  obtain⟨v3,e3⟩:=zm (k:=3) (hf 3 _ rfl) (by omega);cases e3
  obtain⟨u4,e4,Wo⟩:=Xn (k:=4) (by omega:4<xs.length) (by simp) OU (hf 4 _ rfl);cases e4
  obtain⟨y4,Wo⟩:=Wo;obtain⟨t4,v4,a4,s4⟩:=GI Wo;obtain⟨v5,e5⟩:=zm (k:=5) (hf 5 _ rfl) (by omega);cases e5
  obtain⟨v6,e6⟩:=zm (k:=6) (hf 6 _ rfl) (by omega);cases e6
  obtain⟨v7,e7⟩:=f_b (k:=7) (hf 7 _ rfl) (by omega);cases e7
  obtain⟨v8,e8⟩:=f_b (k:=8) (hf 8 _ rfl) (by omega);cases e8
  obtain⟨v9,e9⟩:=zm (k:=9) (hf 9 _ rfl) (by omega);cases e9
  obtain⟨v10,e10⟩:=zm (k:=10) (hf 10 _ rfl) (by omega);cases e10
  obtain⟨p11,El,e11,g11⟩:=f_r (k:=11) (hf 11 _ rfl) (by omega);cases e11;cases g11
  obtain⟨v12,e12⟩:=zm (k:=13) (hf 12 _ rfl) (by omega);cases e12
  obtain⟨v13,e13⟩:=zm (k:=14) (hf 13 _ rfl) (by omega);cases e13
  obtain⟨v14,e14⟩:=f_b (k:=15) (hf 14 _ rfl) (by omega);cases e14
  exact⟨(⟨v0,v1,v2,v3,v4,v5,v6,v7,v8,v9,v10,⟨p11,El⟩,v12,v13,v14⟩,t4),dY rfl (dY rfl (dY rfl (dY rfl (dY a4 (dY rfl (dY rfl (dY rfl (dY rfl (dY rfl (dY rfl (dY rfl (dY rfl (dY rfl (dY rfl (dY rfl (rfl)))))))))))))))),s4⟩
set_option maxRecDepth 100000 in
theorem Cr{m:Nat}{u:Value}{y:DataW H×List MemPlace}(h:DataW.trod enc Tryz.prog w 0 spare held m 25 [u]=some y):∃(t:AV)(l:List aF),KL w u=some t/\∃ss,Ae (hW w) w.heap.size t l ss:=by
 obtain⟨t,l,h1,h2,h3⟩:=uN (λa:aF×AV=>a.1.av a.2) (λa=>SL (hW w) w.heap.size 2 a.2 bP.av a.1.start) 16 (by omega) (λ_=>rfl) Tryz.underlying25 Ed (λn cs y h=>GK h) h;refine⟨t,l.map (·.1),h1,l.map (·.2),by simp,?_,λi k t e1 e2=>?_⟩
 .rw[zip_unzip,List.length_map];exact h2.2
 .rw[List.getElem?_map]at e1 e2
  cases hl:l[i]? with
  |none=>rw[hl]at e1;cases e1
  |some a=>
   rw[hl]at e1 e2;cases e1;cases e2;exact h3 a (List.mem_of_getElem? hl)
set_option maxRecDepth 100000 in
theorem RG{m:Nat}{cs:List Value}{y:DataW H×List MemPlace}(h:DataW.trod enc Tryz.prog w 0 spare held m 27 cs=some y):∃(v:CS)(C:aA),qL w cs=some (v.av C)/\aZ (hW w) w.heap.size v C:=by
 obtain⟨xs,m,_,_,hl,hx,hf⟩:=DataW.trod_struct Tryz.underlying27 h;have hx:xs.length=7:=hx;rw[RA]at hl
 match cs,hl with
 |[c0,c1,c2,c3,c4,c5,c6],_=>
  obtain⟨v0,e0⟩:=zm (k:=0) (hf 0 _ rfl) (by omega);cases e0
  obtain⟨u1,e1,hu1⟩:=Xn (k:=1) (by omega:1<xs.length) (by simp) IC (hf 1 _ rfl);cases e1
  obtain⟨y1,hu1⟩:=hu1;obtain⟨t1,v1,a1,s1⟩:=vT hu1;obtain⟨u2,e2,hu2⟩:=Xn (k:=2) (by omega:2<xs.length) (by simp) Rx (hf 2 _ rfl);cases e2
  obtain⟨y2,hu2⟩:=hu2;obtain⟨t2,v2,a2,s2⟩:=GJ hu2;obtain⟨u3,e3,hu3⟩:=Xn (k:=3) (by omega:3<xs.length) (by simp) Ry (hf 3 _ rfl);cases e3
  obtain⟨y3,hu3⟩:=hu3;obtain⟨t3,v3,a3,s3⟩:=Ky hu3;obtain⟨u4,e4,Wo⟩:=Xn (k:=4) (by omega:4<xs.length) (by simp) Rz (hf 4 _ rfl);cases e4
  obtain⟨y4,Wo⟩:=Wo;obtain⟨t4,v4,a4,s4⟩:=Cr Wo;obtain⟨v5,e5⟩:=zm (k:=5) (hf 5 _ rfl) (by omega);cases e5
  obtain⟨u6,e6,hu6⟩:=Xn (k:=6) (by omega:6<xs.length) (by simp) IC (hf 6 _ rfl);cases e6
  obtain⟨y6,hu6⟩:=hu6;obtain⟨t6,v6,a6,s6⟩:=vT hu6;exact⟨⟨t1,t2,t3,t4,t6⟩,⟨v0,v1,v2,v3,v4,v5,v6⟩,dY rfl (dY a1 (dY a2 (dY a3 (dY a4 (dY rfl (dY a6 (rfl))))))),⟨s1,s2,s3,s4,s6⟩⟩
set_option maxRecDepth 100000 in
theorem OX{v:Value}{d:DataW H}{p:List MemPlace}{r:Go.Reach}{base:Nat}(hv:Value.okWide Tryz.prog w r base 27 v)(h:DataW.Trod enc Tryz.prog w 0 (λ_=>true) true 27 v d p):∃(cv:CS)(C:aA),aV (Iw w) (.agg (cv.av C)) v/\aZ (hW w) w.heap.size cv C:=by
 obtain⟨cs,rfl,_⟩:=okWide_struct Tryz.underlying27 hv;obtain⟨fuel,hf⟩:=h;obtain⟨cv,C,hy,hC⟩:=RG hf;obtain⟨l⟩:=cs;obtain⟨h1,h2⟩:=Co hy;exact⟨cv,C,⟨_,h1,h2,rfl⟩,hC⟩
set_option maxRecDepth 100000 in
theorem open_ints{v:Value}{d:DataW H}{p:List MemPlace}{r:Go.Reach}{base:Nat}(hv:Value.okWide Tryz.prog w r base 22 v)(h:DataW.Trod enc Tryz.prog w 0 (λ_=>true) true 22 v d p):∃(t:AV)(l:List Int),aV (Iw w) t v/\SL (hW w) w.heap.size 1 t (λx:Int=>[AV.i .i64 x]) l:=by
 obtain⟨A,len,cap,rfl⟩:=okWide_slice Tryz.underlying22 hv;obtain⟨fuel,hf⟩:=h;obtain⟨t,l,h1,h2⟩:=vT (show DataW.trod enc Tryz.prog w 0 (λ_=>true) true fuel 22 [.slice A len cap]=some _ from hf);exact⟨t,l,(OO h1).1,h2⟩
end
end
end Go.Proofs.YtjoohkjmoghmoaaGreatDoor
namespace Go.Proofs
open Go.Shelf
def Tryz.laysDigits_ren:Go.Shelf.Ren:=⟨λ|284=>287|129=>204|317=>311|318=>312|n=>n,λ|53=>338|3=>3|212=>419|0=>0|4=>4|46=>248|5=>5|9=>9|n=>n,λ|17=>0|n=>n⟩
theorem Tryz.laysDigits:Go.Proofs.LaysM.n284 Tryz.prog Tryz.laysDigits_ren:={
 mixed:=by kernel_rfl
 f129:=Tryz.func204.trans (congrArg some (by kernel_rfl))
 f284:=Tryz.func287.trans (congrArg some (by kernel_rfl))
 f317:=Tryz.func311.trans (congrArg some (by kernel_rfl))
 f318:=Tryz.func312.trans (congrArg some (by kernel_rfl))
 t0:=Tryz.underlying0
 a0:=Tryz.isAgg0
 z0:=Tryz.sizeOf0
 v0:=Tryz.zeroValue0
 t3:=Tryz.underlying3
 a3:=Tryz.isAgg3
 z3:=Tryz.sizeOf3
 v3:=Tryz.zeroValue3
 t4:=Tryz.underlying4
 a4:=Tryz.isAgg4
 z4:=Tryz.sizeOf4
 v4:=Tryz.zeroValue4
 t5:=Tryz.underlying5
 a5:=Tryz.isAgg5
 z5:=Tryz.sizeOf5
 v5:=Tryz.zeroValue5
 t9:=Tryz.underlying9
 a9:=Tryz.isAgg9
 z9:=Tryz.sizeOf9
 v9:=Tryz.zeroValue9
 t46:=Tryz.underlying248
 a46:=Tryz.isAgg248
 z46:=Tryz.sizeOf248
 v46:=Tryz.zeroValue248
 t53:=Tryz.underlying338
 a53:=Tryz.isAgg338
 z53:=Tryz.sizeOf338
 v53:=Tryz.zeroValue338
 t212:=Tryz.underlying419
 a212:=Tryz.isAgg419
 z212:=Tryz.sizeOf419
 v212:=Tryz.zeroValue419
 g17:=by kernel_rfl
 i0:=by kernel_rfl
 i3:=by kernel_rfl
 i4:=by kernel_rfl
 i5:=by kernel_rfl
 i9:=by kernel_rfl
 i46:=by kernel_rfl
 i53:=by kernel_rfl
 i212:=by kernel_rfl
 m17:=by kernel_rfl}
end Go.Proofs
namespace Go.Proofs.YtjoohkjmoghmoaaGreatDoor
section
noncomputable section
theorem RJ:qG Tryz.prog:=by
 refine⟨by kernel_rfl,λg fn e=>?_⟩;have h:Tryz.prog.funcs.toList.all (λfn=> !(fn.name== "runtime.NumGoroutine"))=true:=by kernel_rfl
 have:=List.all_eq_true.1 h fn (by
  rw[<-Array.getElem?_toList]at e;exact List.mem_of_getElem? e)
 simpa using this
def OE:OT:=λf g args h n=>bc (Nat.beq g 43) (some (Ul f args h n)) (OD f g args h n)
theorem TB:zJ Tryz.prog sl0 OD:=λf hf g args h n v h' n' e=>by
 obtain⟨e1,e2⟩:=bK (show bc (Nat.beq g Uj) _ none=some _ from e);obtain rfl:=beq_eq e1;split at e2
 case h_2=>cases e2
 rename_i u;obtain⟨e3,e4⟩:=bK e2;obtain⟨e5,e6⟩:=bK e4;cases e6
 refine⟨⟨_,_,Tryz.func287,rfl⟩,λθ w vs H ha=>?_⟩;obtain⟨_,_,rfl,rfl,rfl⟩:=ha;have hg:Tryz.prog.globalNamed "internal/strconv.uint64pow10"=some 0:=by kernel_rfl
 obtain⟨ty,q,k1,_⟩:=H.gl 0 hg;have ht:Lib.TabIs Tryz.prog w "internal/strconv.uint64pow10" .u64 Lib.pow10Tab:=by
  unfold Lib.TabIs World.var?;rw[hg];simp only[Option.bind_some,k1]
 refine(Any.internal_strconv_numDigits Tryz.laysDigits u (Nat.le_of_ble_eq_true e3) (Nat.lt_succ_of_le (Nat.le_of_ble_eq_true e5)) w ht).mono ?_;rintro en w' ⟨rfl,rfl⟩;exact⟨θ,_,rfl,rfl,H,Fr.refl _ _ _⟩
theorem IE:zJ Tryz.prog sl0 OE:=λf hf g args h n v h' n' e=>by
 have e':bc (Nat.beq g 43) (some (Ul f args h n)) (OD f g args h n)=some (.ok v h' n'):=e;cases hg:Nat.beq g 43 with
 |true=>
  rw[hg,bF]at e';obtain rfl:=beq_eq hg;exact P_ RJ hf (Option.some.inj e')
 |false=>rw[hg,fU]at e';exact TB f hf g args h n v h' n' e'
end
end
noncomputable section
def kn(g0:Nat)(A:List AV)(G:AH)(n0:Nat)(v:AV)(O:OT):OT:=λf g args h n=>bc (bc (Nat.beq g g0) (bc (Nat.beq n n0) (bc (uT args A) (std G h n0) false) false) false) (some (.ok v h n)) (O f g args h n)
theorem OY{g0 n0 K:Nat}{A:List AV}{G:AH}{v:AV}{O O':OT}(hO':zJ Tryz.prog sl0 O')(e:WJ v G n0 (lJ Tryz.prog sl0 O' K g0 A G n0)=true)(hn:∀x o,G.get x=some o->x<n0)(hO:zJ Tryz.prog sl0 O):zJ Tryz.prog sl0 (kn g0 A G n0 v O):=λf hf g args h n v' h' n' e'=>by
 cases hc:bc (Nat.beq g g0) (bc (Nat.beq n n0) (bc (uT args A) (std G h n0) false) false) false with
 |false=>
  refine hO f hf g args h n v' h' n' ?_;rw[<-e'];unfold kn;rw[hc];rfl
 |true=>
  have e2:some (fq.ok v h n)=some (.ok v' h' n'):=by rw[<-e'];unfold kn;rw[hc];rfl
  cases e2
  obtain⟨h1,h2⟩:=cZ hc;obtain⟨h3,h4⟩:=cZ h2;obtain⟨h5,h6⟩:=cZ h4;obtain rfl:=beq_eq h1;obtain rfl:=beq_eq h3;obtain rfl:=qb _ _ h5;exact apart RJ hO' e h6 hn
def sA:AV:=.agg [.i .i64 1,.sl 4 0 0 1 (some 1),.sl 5 0 0 1 (some 1),.sl 6 0 0 1 (some 1),.sl 7 0 0 1 (some 1),.i .i64 5,.k 1]
def sG:AH:=(((Tr.z.set 4 (AO.row 3 [.i .i64 0])).set 5 (.row 167 [.s [69,85,82],.i .i64 2,.i .i64 0,.i .i64 1,.i .i64 1])).set 6 (.row 169 [.i .i64 1,.i .i64 0,.i .i64 0,.i .i64 (.negSucc 0),.i .i64 (.negSucc 0),.i .i64 0,.i .i64 1])).set 7
 (.row 112 [.i .i64 1,.i .i64 0,.i .i64 0,.i .i64 1,.k 1,.i .i64 2,.i .i64 0,.b false,.b true,.i .i64 (.negSucc 0),.i .i64 (.negSucc 0),.i .i64 50,.i .i64 1,.i .i64 0,.i .i64 0,.b false])
theorem OZ{k:Nat}(hk:8<=k):∀x o,sG.get x=some o->x<k:=λx o e=>by
 unfold sG at e;simp only[gX]at e;repeat' split at e
 all_goals first|omega|cases e
theorem Ct{G:AH}{k j:Nat}{a:AO}(hG:∀x o,G.get x=some o->x<k)(hj:j<k):∀x o,(G.set j a).get x=some o->x<k:=λx o e=>by
 rw[gX]at e;split at e
 .omega
 .exact hG x o e
end
end Go.Proofs.YtjoohkjmoghmoaaGreatDoor
