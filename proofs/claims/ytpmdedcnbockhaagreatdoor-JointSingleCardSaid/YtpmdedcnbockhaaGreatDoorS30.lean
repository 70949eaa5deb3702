/- part -/
import Derived.Test.YtpmdedcnbockhaaGreatDoorS26
import Derived.ProofKit
import Derived.OpenShut
import Derived.ShutString
import Derived.LaidHandle
set_option maxRecDepth 100000
set_option maxHeartbeats 8000000
namespace Go.Proofs.YtpmdedcnbockhaaGreatDoor
open Go.ChangeShapes Go.WideShapes Go.ChangeAt Go.RowKit Go.Deep Tryz
set_option linter.unusedVariables false
theorem own:ownKnob prog.godebug=none:=by kernel_rfl
theorem laidOut:laidOutB prog=true:=by kernel_rfl
theorem EM{α:Type}{p:Nat->α->Prop}:∀(n:Nat),(∀i,i<n->∃a,p i a)->∃l:List α,l.length=n/\∀i a,l[i]?=some a->p i a
 |0,_=>⟨[],rfl,λi a h=>by simp at h⟩
 |n+1,h=>by
  obtain⟨l,hl,hp⟩:=EM n (λi hi=>h i (by omega));obtain⟨a,ha⟩:=h n (by omega);refine⟨l++[a],by simp[hl],λi b hb=>?_⟩;rw[List.getElem?_append]at hb;split at hb
  .exact hp i b hb
  .rename_i hi
   have:i=n:=by
    by_cases e:i=n
    .exact e
    .rw[mX (by simp;omega)]at hb;cases hb
   subst this;rw[hl,Nat.sub_self]at hb;simp at hb;subst hb;exact ha
section
variable {H:Type} {enc:TypeId×Value->H} {P:Program} {w:World} {spare:Nat->Bool} {held:Bool}
theorem vw{α:Type}(f:α->List Value)(G:α->Prop)(size:Nat)(hpos:0<size)(hf:∀a,(f a).length=size)(h1:∀a,∀u∈f a,u.oneCell'=true){t e:TypeId}(ht:P.underlying t=some (.slice e))(hC:P.cellsOf e=size)
 (dec:∀n cs y,DataW.trod enc P w 0 spare held n e cs=some y->∃a,cs=f a/\G a){cs:List Value}{fuel:Nat}{x:DataW H×List MemPlace}(h:DataW.trod enc P w 0 spare held fuel t cs=some x):
 ∃(A:Option Addr)(c:Nat)(xs:List α),cs=[.slice A xs.length c]/\At w size A xs.length c (xs.flatMap f)/\∀a∈xs,G a:=by
 rcases open_slice ht h with⟨h0,_⟩|⟨a,l,c,m,n,D,Pl,hcs,_,hl,hm,hmm,_,hi⟩
 .subst h0
  exact⟨none,0,[],rfl,gD w size,λa ha=>by cases ha⟩
 .subst hcs
  have hlm:l<=m:=by subst hmm;split<;>omega
  rw[hC]at hi;obtain⟨xs,hxl,hx⟩:=EM (p:=λi b=>(∀j u,(f b)[j]?=some u->w.cell? (a.add (i*size+j))=some u)/\G b) l (λi hil=>by
   obtain⟨cs',hc,ht'⟩:=hi i (by omega);obtain⟨b,rfl,hG⟩:=dec _ _ _ ht';obtain⟨_,hcl,hat⟩:=World.cells?_some hc;refine⟨b,(λj u hu=>?_),hG⟩;have hj:j<size:=by rw[<-hf b];exact(bB.1 hu).1
   rw[<-Go.Deep.add_add,hat j hj,hu])
  subst hxl;refine⟨some a,c,xs,rfl,⟨⟨gW f size hf xs,?_,λ_=>⟨a,rfl,λj u hu=>?_⟩⟩,(λh=>by cases h),hl,hm⟩,λb hb=>?_⟩
  .intro u hu
   obtain⟨b,_,hb⟩:=Br.1 hu;exact h1 b u hb
  .have hj:j<xs.length*size:=by rw[<-gW f size hf xs];exact(bB.1 hu).1
   have hd:j/size<xs.length:=Nat.div_lt_of_lt_mul (by rw[Nat.mul_comm];exact hj);have hr:j % size<size:=Nat.mod_lt _ hpos;have ej:j=j/size*size+j % size:=by rw[Nat.mul_comm];exact(Nat.div_add_mod j size).symm
   have hb:xs[j/size]?=some xs[j/size]:=aS hd;have hg:=bG f size hf xs (j/size) (j % size) _ hb hr;rw[<-ej,hu]at hg;have:=(hx (j/size) _ hb).1 (j % size) u hg.symm;rw[<-ej]at this;exact this
  .obtain⟨i,hi',he⟩:=List.mem_iff_getElem.1 hb
   exact(hx i b (by rw[aS hi',he])).2
theorem zip_unzip{α β:Type}:∀xs:List (α×β),(xs.map (·.1)).zip (xs.map (·.2))=xs
 |[]=>rfl
 |x::xs=>by simp[zip_unzip xs]
end
section
variable {H:Type} {enc:TypeId×Value->H} {w:World} {spare:Nat->Bool} {held:Bool}
theorem iN:prog.cellsOf 3=1:=by kernel_rfl
theorem Sj:prog.cellsOf 4=1:=by kernel_rfl
theorem aeE:prog.cellsOf 9=1:=by kernel_rfl
theorem CJ:prog.cellsOf 107=2:=by kernel_rfl
theorem PI:prog.cellsOf 109=7:=by kernel_rfl
theorem PK:prog.cellsOf 153=2:=by kernel_rfl
theorem PL:prog.cellsOf 156=5:=by kernel_rfl
theorem PN:prog.cellsOf 112=16:=by kernel_rfl
theorem Uj:prog.cellsOf 22=1:=by kernel_rfl
theorem Zo:prog.cellsOf 110=1:=by kernel_rfl
theorem abn:prog.cellsOf 23=1:=by kernel_rfl
theorem abo:prog.cellsOf 24=1:=by kernel_rfl
theorem abp:prog.cellsOf 25=1:=by kernel_rfl
theorem abq:prog.cellsOf 27=7:=by kernel_rfl
theorem DY(n:Nat)(cs:List Value)(y:DataW H×List MemPlace)(h:DataW.trod enc prog w 0 spare held n 107 cs=some y):∃a:dz,cs=a.cells:=by
 obtain⟨xs,m,_,_,hl,hx,hf⟩:=DataW.trod_struct underlying107 h;rw[CJ]at hl
 match cs,hl with
 |[c0,c1],_=>
  match xs,hx with
  |[y0,y1],_=>
   have h0:DataW.trod enc prog w 0 spare held m 3 (([c0,c1].drop 0).take (prog.cellsOf 3))=[y0,y1][0]?:=hf 0 _ rfl;rw[iN]at h0;obtain⟨v0,e0,_⟩:=DataW.trod_int underlying3 h0;have h1:DataW.trod enc prog w 0 spare held m 3 (([c0,c1].drop 1).take (prog.cellsOf 3))=[y0,y1][1]?:=hf 1 _ rfl;rw[iN]at h1;obtain⟨v1,e1,_⟩:=DataW.trod_int underlying3 h1;simp at e0 e1;exact⟨⟨v0,v1⟩,by rw[e0,e1];rfl⟩
theorem abr(n:Nat)(cs:List Value)(y:DataW H×List MemPlace)(h:DataW.trod enc prog w 0 spare held n 109 cs=some y):∃a:jy,cs=a.cells:=by
 obtain⟨xs,m,_,_,hl,hx,hf⟩:=DataW.trod_struct underlying109 h;rw[PI]at hl
 match cs,hl with
 |[c0,c1,c2,c3,c4,c5,c6],_=>
  match xs,hx with
  |[y0,y1,y2,y3,y4,y5],_=>
   have h0:DataW.trod enc prog w 0 spare held m 3 (([c0,c1,c2,c3,c4,c5,c6].drop 0).take (prog.cellsOf 3))=[y0,y1,y2,y3,y4,y5][0]?:=hf 0 _ rfl;rw[iN]at h0;obtain⟨v0,e0,_⟩:=DataW.trod_int underlying3 h0;have h1:DataW.trod enc prog w 0 spare held m 3 (([c0,c1,c2,c3,c4,c5,c6].drop 1).take (prog.cellsOf 3))=[y0,y1,y2,y3,y4,y5][1]?:=hf 1 _ rfl;rw[iN]at h1;obtain⟨v1,e1,_⟩:=DataW.trod_int underlying3 h1;have h2:DataW.trod enc prog w 0 spare held m 3 (([c0,c1,c2,c3,c4,c5,c6].drop 2).take (prog.cellsOf 3))=[y0,y1,y2,y3,y4,y5][2]?:=hf 2 _ rfl;rw[iN]at h2;obtain⟨v2,e2,_⟩:=DataW.trod_int underlying3 h2;have h3:DataW.trod enc prog w 0 spare held m 3 (([c0,c1,c2,c3,c4,c5,c6].drop 3).take (prog.cellsOf 3))=[y0,y1,y2,y3,y4,y5][3]?:=hf 3 _ rfl;rw[iN]at h3;obtain⟨v3,e3,_⟩:=DataW.trod_int underlying3 h3;have h4:DataW.trod enc prog w 0 spare held m 3 (([c0,c1,c2,c3,c4,c5,c6].drop 4).take (prog.cellsOf 3))=[y0,y1,y2,y3,y4,y5][4]?:=hf 4 _ rfl;rw[iN]at h4;obtain⟨v4,e4,_⟩:=DataW.trod_int underlying3 h4;have h5:DataW.trod enc prog w 0 spare held m 107 (([c0,c1,c2,c3,c4,c5,c6].drop 5).take (prog.cellsOf 107))=[y0,y1,y2,y3,y4,y5][5]?:=hf 5 _ rfl;rw[CJ]at h5;obtain⟨v5,e5⟩:=DY _ _ _ h5;simp[dz.cells]at e0 e1 e2 e3 e4 e5;exact⟨⟨v0,v1,v2,v3,v4,v5⟩,by rw[e0,e1,e2,e3,e4,e5.1,e5.2];rfl⟩
theorem Zp(n:Nat)(cs:List Value)(y:DataW H×List MemPlace)(h:DataW.trod enc prog w 0 spare held n 153 cs=some y):∃a:iZ,cs=a.cells:=by
 obtain⟨xs,m,_,_,hl,hx,hf⟩:=DataW.trod_struct underlying153 h;rw[PK]at hl
 match cs,hl with
 |[c0,c1],_=>
  match xs,hx with
  |[y0,y1],_=>
   have h0:DataW.trod enc prog w 0 spare held m 3 (([c0,c1].drop 0).take (prog.cellsOf 3))=[y0,y1][0]?:=hf 0 _ rfl;rw[iN]at h0;obtain⟨v0,e0,_⟩:=DataW.trod_int underlying3 h0;have h1:DataW.trod enc prog w 0 spare held m 3 (([c0,c1].drop 1).take (prog.cellsOf 3))=[y0,y1][1]?:=hf 1 _ rfl;rw[iN]at h1;obtain⟨v1,e1,_⟩:=DataW.trod_int underlying3 h1;simp at e0 e1;exact⟨⟨v0,v1⟩,by rw[e0,e1];rfl⟩
theorem Zq(n:Nat)(cs:List Value)(y:DataW H×List MemPlace)(h:DataW.trod enc prog w 0 spare held n 156 cs=some y):∃a:gH,cs=a.cells:=by
 obtain⟨xs,m,_,_,hl,hx,hf⟩:=DataW.trod_struct underlying156 h;rw[PL]at hl
 match cs,hl with
 |[c0,c1,c2,c3,c4],_=>
  match xs,hx with
  |[y0,y1,y2,y3],_=>
   have h0:DataW.trod enc prog w 0 spare held m 9 (([c0,c1,c2,c3,c4].drop 0).take (prog.cellsOf 9))=[y0,y1,y2,y3][0]?:=hf 0 _ rfl;rw[aeE]at h0;obtain⟨v0,e0,_⟩:=DataW.trod_string underlying9 h0;have h1:DataW.trod enc prog w 0 spare held m 3 (([c0,c1,c2,c3,c4].drop 1).take (prog.cellsOf 3))=[y0,y1,y2,y3][1]?:=hf 1 _ rfl;rw[iN]at h1;obtain⟨v1,e1,_⟩:=DataW.trod_int underlying3 h1;have h2:DataW.trod enc prog w 0 spare held m 3 (([c0,c1,c2,c3,c4].drop 2).take (prog.cellsOf 3))=[y0,y1,y2,y3][2]?:=hf 2 _ rfl;rw[iN]at h2;obtain⟨v2,e2,_⟩:=DataW.trod_int underlying3 h2;have h3:DataW.trod enc prog w 0 spare held m 107 (([c0,c1,c2,c3,c4].drop 3).take (prog.cellsOf 107))=[y0,y1,y2,y3][3]?:=hf 3 _ rfl;rw[CJ]at h3;obtain⟨v3,e3⟩:=DY _ _ _ h3;simp[dz.cells]at e0 e1 e2 e3;exact⟨⟨v0,v1,v2,v3⟩,by rw[e0,e1,e2,e3.1,e3.2];rfl⟩
theorem abt(n:Nat)(cs:List Value)(y:DataW H×List MemPlace)(h:DataW.trod enc prog w 0 spare held n 3 cs=some y):∃a:Int,cs=[Value.int .i64 a]:=by
 obtain⟨v,e,_⟩:=DataW.trod_int underlying3 h;exact⟨v,e⟩
theorem V_(l:List Int):l.flatMap (λa=>[Value.int .i64 a])=aZ l:=by
 induction l with
 |nil=>rfl
 |cons a l ih=>rw[rQ,ih];rfl
theorem DZ{m:Nat}{cs:List Value}{y:DataW H×List MemPlace}(h:DataW.trod enc prog w 0 spare held m 22 cs=some y):∃(A:Option Addr)(c:Nat)(xs:List Int),cs=[.slice A xs.length c]/\At w 1 A xs.length c (aZ xs)/\True:=by
 obtain⟨A,c,xs,h1,h2,_⟩:=vw (λa:Int=>[Value.int .i64 a]) (λ_=>True) 1 (by omega) (λ_=>rfl) (λa u hu=>by
  simp only[eB]at hu;subst hu;rfl) underlying22 iN (λn cs y h=>by obtain⟨a,ha⟩:=abt n cs y h;exact⟨a,ha,trivial⟩) h
 rw[V_]at h2;exact⟨A,c,xs,h1,h2,trivial⟩
theorem Sk{m:Nat}{cs:List Value}{y:DataW H×List MemPlace}(h:DataW.trod enc prog w 0 spare held m 110 cs=some y):∃(A:Option Addr)(c:Nat)(xs:List iZ),cs=[.slice A xs.length c]/\At w 2 A xs.length c (xs.flatMap iZ.cells)/\True:=by
 obtain⟨A,c,xs,h1,h2,_⟩:=vw iZ.cells (λ_=>True) 2 (by omega) (λ_=>rfl) (λa u hu=>by
  simp only[iZ.cells,dx,iQ,or_false]at hu;rcases hu with rfl|rfl<;>rfl) underlying110 PK (λn cs y h=>by obtain⟨a,ha⟩:=Zp n cs y h;exact⟨a,ha,trivial⟩) h
 exact⟨A,c,xs,h1,h2,trivial⟩
theorem Sl{m:Nat}{cs:List Value}{y:DataW H×List MemPlace}(h:DataW.trod enc prog w 0 spare held m 23 cs=some y):∃(A:Option Addr)(c:Nat)(xs:List gH),cs=[.slice A xs.length c]/\At w 5 A xs.length c (xs.flatMap gH.cells)/\True:=by
 obtain⟨A,c,xs,h1,h2,_⟩:=vw gH.cells (λ_=>True) 5 (by omega) (λ_=>rfl) (λa u hu=>by
  simp only[gH.cells,dx,iQ,or_false]at hu;rcases hu with rfl|rfl|rfl|rfl|rfl<;>rfl) underlying23 PL (λn cs y h=>by obtain⟨a,ha⟩:=Zq n cs y h;exact⟨a,ha,trivial⟩) h
 exact⟨A,c,xs,h1,h2,trivial⟩
theorem Wh{m:Nat}{cs:List Value}{y:DataW H×List MemPlace}(h:DataW.trod enc prog w 0 spare held m 24 cs=some y):∃(A:Option Addr)(c:Nat)(xs:List jy),cs=[.slice A xs.length c]/\At w 7 A xs.length c (xs.flatMap jy.cells)/\True:=by
 obtain⟨A,c,xs,h1,h2,_⟩:=vw jy.cells (λ_=>True) 7 (by omega) (λ_=>rfl) (λa u hu=>by
  simp only[jy.cells,dx,iQ,or_false]at hu;rcases hu with rfl|rfl|rfl|rfl|rfl|rfl|rfl<;>rfl) underlying24 PI (λn cs y h=>by obtain⟨a,ha⟩:=abr n cs y h;exact⟨a,ha,trivial⟩) h
 exact⟨A,c,xs,h1,h2,trivial⟩
theorem Sm(n:Nat)(cs:List Value)(y:DataW H×List MemPlace)(h:DataW.trod enc prog w 0 spare held n 112 cs=some y):∃a:aP×SV,cs=a.1.cells a.2/\At w 2 a.2.A a.1.start.length a.2.c (a.1.start.flatMap iZ.cells):=by
 obtain⟨xs,m,_,_,hl,hx,hf⟩:=DataW.trod_struct underlying112 h;rw[PN]at hl
 match cs,hl with
 |[c0,c1,c2,c3,c4,c5,c6,c7,c8,c9,c10,c11,c12,c13,c14,c15],_=>
  match xs,hx with
  |[y0,y1,y2,y3,y4,y5,y6,y7,y8,y9,Qi,Sn,Sq,y13,Sr],_=>
   have h0:DataW.trod enc prog w 0 spare held m 3 (([c0,c1,c2,c3,c4,c5,c6,c7,c8,c9,c10,c11,c12,c13,c14,c15].drop 0).take (prog.cellsOf 3))=[y0,y1,y2,y3,y4,y5,y6,y7,y8,y9,Qi,Sn,Sq,y13,Sr][0]?:=hf 0 _ rfl;rw[iN]at h0;obtain⟨v0,e0,_⟩:=DataW.trod_int underlying3 h0;have h1:DataW.trod enc prog w 0 spare held m 3 (([c0,c1,c2,c3,c4,c5,c6,c7,c8,c9,c10,c11,c12,c13,c14,c15].drop 1).take (prog.cellsOf 3))=[y0,y1,y2,y3,y4,y5,y6,y7,y8,y9,Qi,Sn,Sq,y13,Sr][1]?:=hf 1 _ rfl;rw[iN]at h1;obtain⟨v1,e1,_⟩:=DataW.trod_int underlying3 h1;have h2:DataW.trod enc prog w 0 spare held m 3 (([c0,c1,c2,c3,c4,c5,c6,c7,c8,c9,c10,c11,c12,c13,c14,c15].drop 2).take (prog.cellsOf 3))=[y0,y1,y2,y3,y4,y5,y6,y7,y8,y9,Qi,Sn,Sq,y13,Sr][2]?:=hf 2 _ rfl;rw[iN]at h2;obtain⟨v2,e2,_⟩:=DataW.trod_int underlying3 h2;have h3:DataW.trod enc prog w 0 spare held m 3 (([c0,c1,c2,c3,c4,c5,c6,c7,c8,c9,c10,c11,c12,c13,c14,c15].drop 3).take (prog.cellsOf 3))=[y0,y1,y2,y3,y4,y5,y6,y7,y8,y9,Qi,Sn,Sq,y13,Sr][3]?:=hf 3 _ rfl;rw[iN]at h3;obtain⟨v3,e3,_⟩:=DataW.trod_int underlying3 h3;have h4:DataW.trod enc prog w 0 spare held m 110 (([c0,c1,c2,c3,c4,c5,c6,c7,c8,c9,c10,c11,c12,c13,c14,c15].drop 4).take (prog.cellsOf 110))=[y0,y1,y2,y3,y4,y5,y6,y7,y8,y9,Qi,Sn,Sq,y13,Sr][4]?:=hf 4 _ rfl;rw[Zo]at h4;obtain⟨A4,z4,v4,e4,a4,g4⟩:=Sk (show DataW.trod enc prog w 0 spare held m 110 [c4]=some _ from h4);have h5:DataW.trod enc prog w 0 spare held m 3 (([c0,c1,c2,c3,c4,c5,c6,c7,c8,c9,c10,c11,c12,c13,c14,c15].drop 5).take (prog.cellsOf 3))=[y0,y1,y2,y3,y4,y5,y6,y7,y8,y9,Qi,Sn,Sq,y13,Sr][5]?:=hf 5 _ rfl;rw[iN]at h5;obtain⟨v5,e5,_⟩:=DataW.trod_int underlying3 h5;have h6:DataW.trod enc prog w 0 spare held m 3 (([c0,c1,c2,c3,c4,c5,c6,c7,c8,c9,c10,c11,c12,c13,c14,c15].drop 6).take (prog.cellsOf 3))=[y0,y1,y2,y3,y4,y5,y6,y7,y8,y9,Qi,Sn,Sq,y13,Sr][6]?:=hf 6 _ rfl;rw[iN]at h6;obtain⟨v6,e6,_⟩:=DataW.trod_int underlying3 h6;have h7:DataW.trod enc prog w 0 spare held m 4 (([c0,c1,c2,c3,c4,c5,c6,c7,c8,c9,c10,c11,c12,c13,c14,c15].drop 7).take (prog.cellsOf 4))=[y0,y1,y2,y3,y4,y5,y6,y7,y8,y9,Qi,Sn,Sq,y13,Sr][7]?:=hf 7 _ rfl;rw[Sj]at h7;obtain⟨v7,e7,_⟩:=DataW.trod_bool underlying4 h7;have h8:DataW.trod enc prog w 0 spare held m 4 (([c0,c1,c2,c3,c4,c5,c6,c7,c8,c9,c10,c11,c12,c13,c14,c15].drop 8).take (prog.cellsOf 4))=[y0,y1,y2,y3,y4,y5,y6,y7,y8,y9,Qi,Sn,Sq,y13,Sr][8]?:=hf 8 _ rfl;rw[Sj]at h8;obtain⟨v8,e8,_⟩:=DataW.trod_bool underlying4 h8;have h9:DataW.trod enc prog w 0 spare held m 3 (([c0,c1,c2,c3,c4,c5,c6,c7,c8,c9,c10,c11,c12,c13,c14,c15].drop 9).take (prog.cellsOf 3))=[y0,y1,y2,y3,y4,y5,y6,y7,y8,y9,Qi,Sn,Sq,y13,Sr][9]?:=hf 9 _ rfl;rw[iN]at h9;obtain⟨v9,e9,_⟩:=DataW.trod_int underlying3 h9;have h10:DataW.trod enc prog w 0 spare held m 3 (([c0,c1,c2,c3,c4,c5,c6,c7,c8,c9,c10,c11,c12,c13,c14,c15].drop 10).take (prog.cellsOf 3))=[y0,y1,y2,y3,y4,y5,y6,y7,y8,y9,Qi,Sn,Sq,y13,Sr][10]?:=hf 10 _ rfl;rw[iN]at h10;obtain⟨v10,e10,_⟩:=DataW.trod_int underlying3 h10;have h11:DataW.trod enc prog w 0 spare held m 107 (([c0,c1,c2,c3,c4,c5,c6,c7,c8,c9,c10,c11,c12,c13,c14,c15].drop 11).take (prog.cellsOf 107))=[y0,y1,y2,y3,y4,y5,y6,y7,y8,y9,Qi,Sn,Sq,y13,Sr][11]?:=hf 11 _ rfl;rw[CJ]at h11;obtain⟨v11,e11⟩:=DY _ _ _ h11;have h12:DataW.trod enc prog w 0 spare held m 3 (([c0,c1,c2,c3,c4,c5,c6,c7,c8,c9,c10,c11,c12,c13,c14,c15].drop 13).take (prog.cellsOf 3))=[y0,y1,y2,y3,y4,y5,y6,y7,y8,y9,Qi,Sn,Sq,y13,Sr][12]?:=hf 12 _ rfl;rw[iN]at h12;obtain⟨v12,e12,_⟩:=DataW.trod_int underlying3 h12;have h13:DataW.trod enc prog w 0 spare held m 3 (([c0,c1,c2,c3,c4,c5,c6,c7,c8,c9,c10,c11,c12,c13,c14,c15].drop 14).take (prog.cellsOf 3))=[y0,y1,y2,y3,y4,y5,y6,y7,y8,y9,Qi,Sn,Sq,y13,Sr][13]?:=hf 13 _ rfl;rw[iN]at h13;obtain⟨v13,e13,_⟩:=DataW.trod_int underlying3 h13;have h14:DataW.trod enc prog w 0 spare held m 4 (([c0,c1,c2,c3,c4,c5,c6,c7,c8,c9,c10,c11,c12,c13,c14,c15].drop 15).take (prog.cellsOf 4))=[y0,y1,y2,y3,y4,y5,y6,y7,y8,y9,Qi,Sn,Sq,y13,Sr][14]?:=hf 14 _ rfl;rw[Sj]at h14;obtain⟨v14,e14,_⟩:=DataW.trod_bool underlying4 h14;simp[dz.cells]at e0 e1 e2 e3 e4 e5 e6 e7 e8 e9 e10 e11 e12 e13 e14;exact⟨(⟨v0,v1,v2,v3,v4,v5,v6,v7,v8,v9,v10,v11,v12,v13,v14⟩,⟨A4,z4⟩),by rw[e0,e1,e2,e3,e4,e5,e6,e7,e8,e9,e10,e11.1,e11.2,e12,e13,e14];rfl,a4⟩
theorem MR{m:Nat}{cs:List Value}{y:DataW H×List MemPlace}(h:DataW.trod enc prog w 0 spare held m 25 cs=some y):∃(A:Option Addr)(c:Nat)(xs:List aP),cs=[.slice A xs.length c]/\Kl w ⟨A,c⟩ xs/\True:=by
 obtain⟨A,c,xs,h1,h2,h3⟩:=vw (λa:aP×SV=>a.1.cells a.2) (λa=>At w 2 a.2.A a.1.start.length a.2.c (a.1.start.flatMap iZ.cells)) 16 (by omega) (λ_=>rfl) (λa u hu=>by
  simp only[aP.cells,dx,iQ,or_false]at hu;rcases hu with rfl|rfl|rfl|rfl|rfl|rfl|rfl|rfl|rfl|rfl|rfl|rfl|rfl|rfl|rfl|rfl<;>rfl) underlying25 PN Sm h
 refine⟨A,c,xs.map (·.1),by rw[dU];exact h1,⟨xs.map (·.2),by simp,?_,λi k t hk ht=>?_⟩,trivial⟩
 .rw[dU,zip_unzip];exact h2
 .simp only[gK,Option.map_eq_some_iff]at hk ht
  obtain⟨a,ha,rfl⟩:=hk;obtain⟨b,hb,rfl⟩:=ht;rw[ha]at hb;cases hb;exact h3 a (cK ha)
theorem abu(n:Nat)(cs:List Value)(y:DataW H×List MemPlace)(h:DataW.trod enc prog w 0 spare held n 27 cs=some y):∃(v:CV)(C:au),cs=v.cells C/\bO w v C:=by
 obtain⟨xs,m,_,_,hl,hx,hf⟩:=DataW.trod_struct underlying27 h;rw[abq]at hl
 match cs,hl with
 |[c0,c1,c2,c3,c4,c5,c6],_=>
  match xs,hx with
  |[y0,y1,y2,y3,y4,y5,y6],_=>
   have h0:DataW.trod enc prog w 0 spare held m 3 (([c0,c1,c2,c3,c4,c5,c6].drop 0).take (prog.cellsOf 3))=[y0,y1,y2,y3,y4,y5,y6][0]?:=hf 0 _ rfl;rw[iN]at h0;obtain⟨v0,e0,_⟩:=DataW.trod_int underlying3 h0;have h1:DataW.trod enc prog w 0 spare held m 22 (([c0,c1,c2,c3,c4,c5,c6].drop 1).take (prog.cellsOf 22))=[y0,y1,y2,y3,y4,y5,y6][1]?:=hf 1 _ rfl;rw[Uj]at h1;obtain⟨A1,z1,v1,e1,a1,g1⟩:=DZ (show DataW.trod enc prog w 0 spare held m 22 [c1]=some _ from h1);have h2:DataW.trod enc prog w 0 spare held m 23 (([c0,c1,c2,c3,c4,c5,c6].drop 2).take (prog.cellsOf 23))=[y0,y1,y2,y3,y4,y5,y6][2]?:=hf 2 _ rfl;rw[abn]at h2;obtain⟨A2,z2,v2,e2,a2,g2⟩:=Sl (show DataW.trod enc prog w 0 spare held m 23 [c2]=some _ from h2);have h3:DataW.trod enc prog w 0 spare held m 24 (([c0,c1,c2,c3,c4,c5,c6].drop 3).take (prog.cellsOf 24))=[y0,y1,y2,y3,y4,y5,y6][3]?:=hf 3 _ rfl;rw[abo]at h3;obtain⟨A3,z3,v3,e3,a3,g3⟩:=Wh (show DataW.trod enc prog w 0 spare held m 24 [c3]=some _ from h3);have h4:DataW.trod enc prog w 0 spare held m 25 (([c0,c1,c2,c3,c4,c5,c6].drop 4).take (prog.cellsOf 25))=[y0,y1,y2,y3,y4,y5,y6][4]?:=hf 4 _ rfl;rw[abp]at h4;obtain⟨A4,z4,v4,e4,a4,g4⟩:=MR (show DataW.trod enc prog w 0 spare held m 25 [c4]=some _ from h4);have h5:DataW.trod enc prog w 0 spare held m 3 (([c0,c1,c2,c3,c4,c5,c6].drop 5).take (prog.cellsOf 3))=[y0,y1,y2,y3,y4,y5,y6][5]?:=hf 5 _ rfl;rw[iN]at h5;obtain⟨v5,e5,_⟩:=DataW.trod_int underlying3 h5;have h6:DataW.trod enc prog w 0 spare held m 22 (([c0,c1,c2,c3,c4,c5,c6].drop 6).take (prog.cellsOf 22))=[y0,y1,y2,y3,y4,y5,y6][6]?:=hf 6 _ rfl;rw[Uj]at h6;obtain⟨A6,z6,v6,e6,a6,g6⟩:=DZ (show DataW.trod enc prog w 0 spare held m 22 [c6]=some _ from h6);simp at e0 e1 e2 e3 e4 e5 e6;exact⟨⟨⟨A1,z1⟩,⟨A2,z2⟩,⟨A3,z3⟩,⟨A4,z4⟩,⟨A6,z6⟩⟩,⟨v0,v1,v2,v3,v4,v5,v6⟩,by rw[e0,e1,e2,e3,e4,e5,e6];rfl,⟨a1,a2,a3,a4,a6⟩⟩
theorem WX{v:Value}{d:DataW H}{p:List MemPlace}{r:Go.Reach}{base:Nat}(hv:Value.okWide prog w r base 27 v)(h:DataW.Trod enc prog w 0 (λ_=>true) true 27 v d p):∃(cv:CV)(C:au),v=cv.val C/\bO w cv C:=by
 obtain⟨cs,rfl,_⟩:=okWide_struct underlying27 hv;obtain⟨fuel,hf⟩:=h;obtain⟨cv,C,hy,hC⟩:=abu _ _ _ hf;obtain⟨l⟩:=cs;simp only[Value.cells]at hy;have e:l=cv.cells C:=hy;exact⟨cv,C,by rw[e];rfl,hC⟩
theorem open_ints{v:Value}{d:DataW H}{p:List MemPlace}{r:Go.Reach}{base:Nat}(hv:Value.okWide prog w r base 22 v)(h:DataW.Trod enc prog w 0 (λ_=>true) true 22 v d p):∃(sv:SV)(l:List Int),v= .slice sv.A l.length sv.c/\At w 1 sv.A l.length sv.c (aZ l):=by
 obtain⟨A,len,cap,rfl⟩:=okWide_slice underlying22 hv;obtain⟨fuel,hf⟩:=h;obtain⟨A',c,xs,h1,h2,_⟩:=DZ hf;simp only[Value.cells,List.cons.injEq,Value.slice.injEq,and_true]at h1;obtain⟨rfl,rfl,rfl⟩:=h1;exact⟨⟨A,cap⟩,xs,rfl,h2⟩
end
end Go.Proofs.YtpmdedcnbockhaaGreatDoor
