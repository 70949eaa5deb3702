/-
  Mon1; Prj2; Work1; Work2; Work3; Start0; Start1; Start2; Doer
-/
import Derived.Test.YtpmdedcnbockhaaGreatDoorP03
set_option maxRecDepth 100000
set_option maxHeartbeats 8000000
namespace Go.Proofs.YtpmdedcnbockhaaGreatDoor
section
open Go.RowKit
def jL(w:World)(v:SV)(l:List ak):Prop:=
 ∃ts:List TV,ts.length=l.length/\At w 4 v.A l.length v.c ((l.zip ts).flatMap (λp=>TV.cells p.2 p.1))/\∀(i:Nat)(s:ak)(t:TV),l[i]?=some s->ts[i]?=some t->aW w t s
theorem jL.below{w w':World}{v:SV}{l:List ak}(h:jL w v l)(hb:Below w.heap.size w w'):jL w' v l:=by
 obtain⟨ts,h1,h2,h3⟩:=h;exact⟨ts,h1,h2.below (by omega) hb,λi s t hs ht=>(h3 i s t hs ht).below hb⟩
theorem jL.form{w:World}{v:SV}{l:List ak}(h:jL w v l)(hl:0<l.length):
 ∃b off,v.A=some ⟨b,off,none⟩/\b<w.heap.size/\∀(i:Nat)(s:ak),l[i]?=some s->∃t:TV,aW w t s/\∀W,Below w.heap.size w W->∀j,j<4->W.cell? ⟨b,off+i*4+j,none⟩=(t.cells s)[j]?:=by
 obtain⟨ts,h1,h2,h3⟩:=h;obtain⟨b,off,hA,hb,hc⟩:=h2.1.form hl (by omega);refine⟨b,off,hA,hb,λi s hs=>?_⟩;have hi:i<l.length:=(aZ.1 hs).1;have ht:ts[i]?=some (ts[i]'(by omega)):=aT _;refine⟨ts[i]'(by omega),h3 i s _ hs ht,λW hW j hj=>?_⟩;rw[hW.cell (p:=⟨b,off+i*4+j,none⟩) hb,iM,hc _ (by omega)];have hz:(l.zip ts)[i]?=some (s,ts[i]'(by omega)):=by rw[Jy];exact⟨hs,ht⟩
 exact bG (λp:ak×TV=>TV.cells p.2 p.1) 4 (λ_=>rfl) (l.zip ts) i j _ hz hj
end
section
open Go.RowKit
def au.wN(C:au)(s:ak)(pt ac:Int):Bool:=match C.acts[ac.toNat]? with|some a=>zi s a pt|none=>false
def au.sees(C:au)(s:ak)(pt ac:Int):Bool:=((C.fC s)&&(decide (0<=pt)&&(decide (pt<C.aF)&&(decide (0<=ac)&&(decide (ac<(C.acts.length:Int))&&(C.wN s pt ac))))))
theorem wO{C:au}{a:iO}(h:C.vO a=true):((a.kind==1)=true->(a.tgt== -1)=false->C.role a.tgt=true)/\((a.role== -1)=false->C.role a.role=true):=by
 unfold au.vO zH at h;refine⟨λh1 h2=>?_,λh1=>?_⟩
 .rw[h1,h2]at h
  cases h3:C.role a.tgt with
  |true=>rfl
  |false=>
   rw[h3]at h;cases h4:C.role a.role<;>cases h5:(a.role== -1)<;>cases h6:(a.give==0)<;>rw[h4]at h<;>simp[h5,h6]at h
 .cases h4:C.role a.role with
  |true=>rfl
  |false=>
   rw[h4,h1]at h;cases h5:(a.kind==1)<;>simp[h5]at h
theorem TJ{C:au}(h:C.valid=true){i:Nat}{a:iO}(ha:C.acts[i]?=some a):C.vO a=true:=by
 unfold au.valid at h;simp only[bM]at h;have h1:=h.2.1;unfold au.framed at h1;simp only[bM]at h1;cases e:C.vO a with
 |true=>rfl
 |false=>rw[Fz ha e]at h1;simp at h1
theorem I5{C:au}(h:C.valid=true):0<C.aj.length:=by
 unfold au.valid at h;simp only[bM]at h;have h1:=h.2.1;unfold au.framed Tx at h1;simp only[bM,iE,beq_eq_false_iff_ne,ne_eq]at h1;omega
theorem I6{C:au}{s:ak}(h:C.fC s=true):C.valid=true:=by
 unfold au.fC at h;simp only[bM]at h;exact h.1
theorem MN{C:au}{r:Int}(h:C.role r=true):0<=r/\r<C.aj.length:=by simpa [au.role]using h
theorem MO(v:CV)(C:au)(tv:TV)(s:ak)(pt ac:Int)(w:World)(hC:bU w v C)(hS:aW w tv s):Calls Tryz.prog 76 #[v.val C,tv.val s,.int .i64 pt,.int .i64 ac] w (dx (.bool (C.sees s pt ac)) w):=by
 obtain⟨⟨hA,hcp⟩,⟨uA,Ad⟩,⟨aA,BX⟩,⟨kA,yt⟩,⟨oA,BZ⟩⟩:=v;obtain⟨⟨Tz,TB⟩,⟨TD,TF⟩,⟨smA,RO⟩⟩:=tv;have HC:=ah hC;clear hC;have HS:=ah hS;clear hS;simp only[CV.val,CV.cells,TV.val,TV.cells,ak.cells];generalize hE:C.sees s pt ac=E;have HE:=ah hE;clear hE;go_enter Tryz.func76,Tryz.ntmps76;go_upto_region 1 with(fail)
 generalize hW0:World.alloc _ _=W0;obtain⟨HB,hh0,g_⟩:=IQ hW0;clear hW0;obtain⟨jA,jB,jK,j4,j5,kV,lT⟩:=Fg hh0;clear hh0;obtain⟨o_,qy,rQ,vX⟩:=kc4 g_;clear g_;change Code.wp _ _ _ _ (Bl.val (⟨W0,aD _ _⟩:Bl W0));generalize(⟨W0,aD _ _⟩:Bl W0)=s0;have hsv:∀z:Bl W0,Calls Tryz.prog 68 #[.agg #[.int .i64 C.aF,.slice hA C.aj.length hcp,.slice uA C.units.length Ad,.slice aA C.acts.length BX,.slice kA C.clauses.length yt,.int .i64 C.days,.slice oA C.off.length BZ],.agg #[.int .i64 s.day,.slice Tz s.aj.length TB,.slice TD s.used.length TF,.slice smA s.marks.length RO]] z.val (dx (.bool (C.fC s)) z.val):=λz=>wM (⟨⟨hA,hcp⟩,⟨uA,Ad⟩,⟨aA,BX⟩,⟨kA,yt⟩,⟨oA,BZ⟩⟩:CV) C (⟨⟨Tz,TB⟩,⟨TD,TF⟩,⟨smA,RO⟩⟩:TV) s z.val (HC.out.below (ay HB.out z.prop)) (HS.out.below (ay HB.out z.prop));have RP:=ah hsv;clear hsv;have hse:C.fC s=true->0<=ac->ac<(C.acts.length:Int)->∀z:Bl W0,Calls Tryz.prog 46 #[.agg #[.int .i64 C.aF,.slice hA C.aj.length hcp,.slice uA C.units.length Ad,.slice aA C.acts.length BX,.slice kA C.clauses.length yt,.int .i64 C.days,.slice oA C.off.length BZ],.agg #[.int .i64 s.day,.slice Tz s.aj.length TB,.slice TD s.used.length TF,.slice smA s.marks.length RO],.int .i64 pt,.int .i64 ac] z.val (dx (.bool (C.wN s pt ac)) z.val):=λho h0 h1 z=>by
  obtain⟨i,rfl⟩:=Int.eq_ofNat_of_zero_le h0;have hi:i<C.acts.length:=by omega
  obtain⟨a,ha⟩:∃a,C.acts[i]?=some a:=⟨C.acts[i],aT hi⟩;have hl:=(ML ho).1;have hv:=I6 ho;have hr:=wO (TJ hv ha);have h:=MK (⟨⟨hA,hcp⟩,⟨uA,Ad⟩,⟨aA,BX⟩,⟨kA,yt⟩,⟨oA,BZ⟩⟩:CV) C (⟨⟨Tz,TB⟩,⟨TD,TF⟩,⟨smA,RO⟩⟩:TV) s pt i a z.val (HC.out.below (ay HB.out z.prop)) (HS.out.below (ay HB.out z.prop)) ha (by rw[hl];exact I5 hv) (λh1 h2=>by rw[hl];exact MN (hr.1 h1 h2)) (λh1=>by rw[hl];exact MN (hr.2 h1));have e:C.wN s pt (i:Int)=zi s a pt:=by simp[au.wN,ha]
  rw[e];exact h
 have Pz:=ah hse;clear hse
 focus
  cases q1:(C.fC s)
  focus
   have hP:C.sees s pt ac=false:=by unfold au.sees;rw[q1];rfl
   obtain rfl:E=false:=by rw[<-HE.out,hP]
   clear hP
  rotate_left
  focus
   cases q2:decide (0<=pt)
   focus
    have hP:C.sees s pt ac=false:=by unfold au.sees;rw[q1,q2];rfl
    obtain rfl:E=false:=by rw[<-HE.out,hP]
    clear hP
   rotate_left
   focus
    cases q3:decide (pt<C.aF)
    focus
     have hP:C.sees s pt ac=false:=by unfold au.sees;rw[q1,q2,q3];rfl
     obtain rfl:E=false:=by rw[<-HE.out,hP]
     clear hP
    rotate_left
    focus
     cases q4:decide (0<=ac)
     focus
      have hP:C.sees s pt ac=false:=by unfold au.sees;rw[q1,q2,q3,q4];rfl
      obtain rfl:E=false:=by rw[<-HE.out,hP]
      clear hP
     rotate_left
     focus
      cases q5:decide (ac<(C.acts.length:Int))
      focus
       have hP:C.sees s pt ac=false:=by unfold au.sees;rw[q1,q2,q3,q4,q5];rfl
       obtain rfl:E=false:=by rw[<-HE.out,hP]
       clear hP
      rotate_left
      focus
       cases q6:(C.wN s pt ac)
       focus
        have hP:C.sees s pt ac=false:=by unfold au.sees;rw[q1,q2,q3,q4,q5,q6];rfl
        obtain rfl:E=false:=by rw[<-HE.out,hP]
        clear hP
       rotate_left
       focus
        have hP:C.sees s pt ac=true:=by unfold au.sees;rw[q1,q2,q3,q4,q5,q6];rfl
        obtain rfl:E=true:=by rw[<-HE.out,hP]
        clear hP
  all_goals
   go_wp2_with (first|(go_at_call 68;refine(RP.out _).mono ?_;rintro e z ⟨rfl,hz⟩;obtain⟨z,rfl⟩:=Bl.on hz;clear hz)|(go_at_call 46;refine(Pz.out (by assumption) (of_decide_eq_true (by assumption)) (of_decide_eq_true (by assumption)) _).mono ?_;rintro e z ⟨rfl,hz⟩;obtain⟨z,rfl⟩:=Bl.on hz;clear hz));first
    |(go_ret;exact⟨rfl,ay HB.out (Bl.prop _)⟩)
    |(refine aI (by kernel_rfl) (by kernel_rfl) ?_;(repeat(go_big_quiet_step ((first|(go_at_call 68;exact Calls.bY (RP.out _))|(go_at_call 46;exact Calls.bY (Pz.out (by assumption) (of_decide_eq_true (by assumption)) (of_decide_eq_true (by assumption)) _))))));refine aS ?_;rintro _ ⟨zq,rfl⟩;go_wp2_with (first|(go_at_call 68;refine(RP.out _).mono ?_;rintro e z ⟨rfl,hz⟩;obtain⟨z,rfl⟩:=Bl.on hz;clear hz)|(go_at_call 46;refine(Pz.out (by assumption) (of_decide_eq_true (by assumption)) (of_decide_eq_true (by assumption)) _).mono ?_;rintro e z ⟨rfl,hz⟩;obtain⟨z,rfl⟩:=Bl.on hz;clear hz));go_ret;exact⟨rfl,ay HB.out (Bl.prop _)⟩)
end
section
open Go.RowKit
theorem eG.store{w:World}{e:TypeId}{size n c g off k:Nat}{xs:List Value}(h:eG w e size (.slice (some ⟨g,off,none⟩) n c) n xs (some g))(hk:k<n*size)(u:Value):
 eG (w.setCell ⟨g,off+k,none⟩ u) e size (.slice (some ⟨g,off,none⟩) n c) n (xs.set k u) (some g):=by
 refine⟨by rw[List.length_set];exact h.1,.inr ?_⟩;rcases h.2 with⟨h0,_,_⟩|⟨g',off',cap,cur,hb,hv,hg,h1,h2,h3,h4⟩
 .cases h0
 .injection hv with e1 _ e3
  injection e1 with e1
  injection e1 with e1 e4
  subst e1 e4 e3;refine⟨g,off,c,_,rfl,rfl,heap_setCell_same hg u,h1,h2,by simpa using h3,?_⟩;rw[Array.toList_setIfInBounds,<-h4];apply kX;intro j;rw[lZ,jI,lZ,List.getElem?_drop,List.getElem?_drop,jI];by_cases hj:j<n*size
  .rw[if_pos hj,if_pos hj]
   have hlen:(List.take (n*size) (List.drop off cur.toList)).length=n*size:=by rw[h4];exact h.1
   by_cases ejk:k=j
   .subst ejk
    have h5:off+k<cur.toList.length:=by
     rw[p9,List.length_drop]at hlen;omega
    rw[if_pos rfl,if_pos h5,if_pos rfl,if_pos (by rw[hlen];exact hj)]
   .rw[if_neg (by omega),if_neg ejk]
  .rw[if_neg hj,if_neg hj]
   split
   .rename_i ejk
    omega
   .rfl
theorem yw{l:List aC}{i j:Nat}{m m':aC}{u:Value}(hm:l[i]?=some m)(hj:j<5)(h:m.cells.set j u=m'.cells):(l.flatMap aC.cells).set (i*5+j) u=(l.set i m').flatMap aC.cells:=by
 induction l generalizing i with
 |nil=>simp at hm
 |cons a l ih=>
  cases i with
  |zero=>
   simp at hm;subst hm;rw[qR,List.set_cons_zero,qR,Nat.zero_mul,nJ,List.set_append_left _ _ (by simpa [aC.cells]using hj),h]
  |succ i=>
   have h5:a.cells.length=5:=rfl;rw[qR,List.set_cons_succ,qR,List.set_append_right _ _ (by omega),show(i+1)*5+j - a.cells.length=i*5+j by rw[h5];omega,ih (by simpa using hm)]
structure aJ(w0 w:World)(g:Nat)(v:CV)(C:au)(t:TV)(s:ak)(gh gu gm:Nat):Prop where
 head:w.heap[g]?=some (.cells #[.int .i64 C.aF,.slice v.h.A C.aj.length v.h.c,.slice v.u.A C.units.length v.u.c,.slice v.a.A C.acts.length v.a.c,.slice v.k.A C.clauses.length v.k.c,.int .i64 C.days,.slice v.o.A C.off.length v.o.c,.int .i64 s.day,.slice t.h.A s.aj.length t.h.c,.slice t.u.A s.used.length t.u.c,.slice t.m.A s.marks.length t.m.c] 129 (0,0))
 con:bU w0 v C
 below:Below w0.heap.size w0 w
 aj:eG w 3 1 (.slice t.h.A s.aj.length t.h.c) s.aj.length (aR s.aj) (some gh)
 used:eG w 4 1 (.slice t.u.A s.used.length t.u.c) s.used.length (iG s.used) (some gu)
 marks:eG w 51 5 (.slice t.m.A s.marks.length t.m.c) s.marks.length (s.marks.flatMap aC.cells) (some gm)
 newG:w0.heap.size<=g
 newH:w0.heap.size<=gh
 zL:w0.heap.size<=gu
 uq:w0.heap.size<=gm
theorem eG.O8{w:World}{e:TypeId}{size n c g:Nat}{A:Option Addr}{xs:List Value}(h:eG w e size (.slice A n c) n xs (some g)):
 ∃off,A=some ⟨g,off,none⟩/\n<=c/\c<=maxLen/\g<w.heap.size/\(∀j,j<n*size->w.cell? ⟨g,off+j,none⟩=xs[j]?)/\(∀j,w.frozen? ⟨g,j,none⟩=false):=by
 rcases h.2 with⟨_,_,h0⟩|⟨g',off,cap,cur,hb,hv,hg,h1,h2,h3,h4⟩
 .cases h0
 .injection hb with hb
  subst hb;injection hv with e1 _ e3
  subst e1 e3;refine⟨off,rfl,h1,h2,av hg,λj hj=>?_,λj=>by simp[World.frozen?,hg]⟩;rw[aG w g (off+j) cur e (0,0) hg,<-h4,lZ,if_pos hj,List.getElem?_drop];simp
section
variable {w0 w:World} {g:Nat} {v:CV} {C:au} {t:TV} {s:ak} {gh gu gm:Nat} (h:aJ w0 w g v C t s gh gu gm)
include h
theorem aJ.cell(j:Nat):w.cell? ⟨g,j,none⟩=[Value.int .i64 C.aF,.slice v.h.A C.aj.length v.h.c,.slice v.u.A C.units.length v.u.c,.slice v.a.A C.acts.length v.a.c,.slice v.k.A C.clauses.length v.k.c,.int .i64 C.days,.slice v.o.A C.off.length v.o.c,.int .i64 s.day,.slice t.h.A s.aj.length t.h.c,.slice t.u.A s.used.length t.u.c,.slice t.m.A s.marks.length t.m.c][j]?:=by
 rw[aG _ _ j _ _ _ h.head];exact List.getElem?_toArray
theorem aJ.JE:g≠gm:=λe=>by
 subst e;rcases h.marks.2 with⟨_,_,h0⟩|⟨g',off,cap,cur,hb,hv,hg,_⟩
 .cases h0
 .injection hb with hb
  subst hb;have h2:=h.head.symm.trans hg;simp at h2
end
theorem eG.eO{w:World}{e:TypeId}{size n:Nat}{v:Value}{xs:List Value}{k:Nat}(h:eG w e size v n xs (some k)):∃cur,w.heap[k]?=some (.cells cur e (0,0)):=by
 rcases h.2 with⟨_,_,h0⟩|⟨g',off,cap,cur,hb,hv,hg,_⟩
 .cases h0
 .injection hb with hb
  subst hb;exact⟨cur,hg⟩
theorem eG.jQ{w:World}{e e':TypeId}{size size' n n':Nat}{v v':Value}{xs xs':List Value}{k k':Nat}(h:eG w e size v n xs (some k))(h':eG w e' size' v' n' xs' (some k'))(hne:e≠e'):k≠k':=λek=>by
 subst ek;obtain⟨c1,h1⟩:=h.eO;obtain⟨c2,h2⟩:=h'.eO;have h3:=h1.symm.trans h2;simp at h3;exact hne h3.2
theorem aJ.FH{w0 w w':World}{g:Nat}{v:CV}{C:au}{t:TV}{s:ak}{gh gu gm:Nat}(h:aJ w0 w g v C t s gh gu gm)(ms:List aC)(hl:ms.length=s.marks.length)
 (hrow:eG w' 51 5 (.slice t.m.A s.marks.length t.m.c) s.marks.length (ms.flatMap aC.cells) (some gm))(hu:aH (λk=>k=gm) w w'):
 aJ w0 w' g v C t ⟨s.day,s.aj,s.used,ms⟩ gh gu gm:=
 ⟨by simpa [hl]using hu.keep h.head h.JE,h.con,h.below.trans (hu.below h.below.size (λk hk=>by rw[hk];exact h.uq)),
  h.aj.keep hu (λk hk e=>by injection hk with hk;subst hk;exact h.aj.jQ h.marks (by decide) e),
  h.used.keep hu (λk hk e=>by injection hk with hk;subst hk;exact h.used.jQ h.marks (by decide) e),
  by simpa [hl]using hrow,h.newG,h.newH,h.zL,h.uq⟩
def aC.ended(m:aC)(st:Int):aC:=⟨st,0,m.got,m.dP,false⟩
def wP(w0:World)(g:Nat)(v:CV)(C:au)(t:TV)(s':ak)(gh gu gm:Nat)(w:World)(e:Ending)(w':World):Prop:=
 e= .returned (.tuple #[])/\aJ w0 w' g v C t s' gh gu gm/\w.heap.size<=w'.heap.size
def gL(g gh gu gm:Nat)(k:Nat):Prop:=k=g\/k=gh\/k=gu\/k=gm
def kK(w0:World)(g:Nat)(v:CV)(C:au)(t:TV)(s':ak)(gh gu gm:Nat)(w:World)(e:Ending)(w':World):Prop:=
 e= .returned (.tuple #[])/\aJ w0 w' g v C t s' gh gu gm/\aH (gL g gh gu gm) w w'
theorem Au{w0 w:World}{g:Nat}{v:CV}{C:au}{t:TV}{s:ak}{gh gu gm:Nat}(h:aJ w0 w g v C t s gh gu gm)(i:Nat)(m:aC)(hm:s.marks[i]?=some m)(st:Int):
 Calls Tryz.prog 144 #[.pointer (some ⟨g,0,none⟩),.int .i64 i,.int .i64 st] w (kK w0 g v C t ⟨s.day,s.aj,s.used,s.marks.set i (m.ended st)⟩ gh gu gm w):=by
 have him:i<s.marks.length:=(aZ.1 hm).1;obtain⟨off,hA,hc1,hc2,hgl,hcell,hfz⟩:=h.marks.O8;obtain⟨th,tu,⟨h_,dW⟩⟩:=t;simp only at hA hc1 hc2;subst hA;unfold maxLen at hc2;have k10:w.cell? ⟨g,10,none⟩=some (.slice (some ⟨gm,off,none⟩) s.marks.length dW):=h.cell 10;have hne:=h.JE;obtain⟨ms,ml,mg,mb,mp⟩:=m;have hat:∀j,j<5->w.cell? ⟨gm,off+i*5+j,none⟩=(aC.cells ⟨ms,ml,mg,mb,mp⟩)[j]?:=λj hj=>by
  rw[iM,hcell _ (by omega)];exact bG aC.cells 5 (λ_=>rfl) s.marks i j _ hm hj
 have m0:w.cell? ⟨gm,off+i*5,none⟩=some (.int .i64 ms):=hat 0 (by omega);have m1:w.cell? ⟨gm,off+i*5+1,none⟩=some (.int .i64 ml):=hat 1 (by omega);have m4:w.cell? ⟨gm,off+i*5+4,none⟩=some (.bool mp):=hat 4 (by omega);have f0:=hfz (off+i*5);have f1:=hfz (off+i*5+1);have f4:=hfz (off+i*5+4);clear hat hcell hfz;have H:=ah h;clear h;have HM:=ah hm;clear hm;have i0:(0:Int)<=(i:Int):=by omega
 have i1:(i:Int)<(s.marks.length:Int):=by omega
 have hk0:∀(a:Value),(w.setCell ⟨gm,off+i*5,none⟩ a).cell? ⟨g,10,none⟩=some (.slice (some ⟨gm,off,none⟩) s.marks.length dW):=λa=>by
  rw[World.cell?_setCell_other _ _ _ _ (λe=>hne (by first|exact congrArg Addr.block e|exact(congrArg Addr.block e).symm))];exact k10
 go_enter Tryz.func144,Tryz.ntmps144;go_wp2
 go_region
 all_goals
  go_wp2
  go_end0
  have hr1:=H.out.marks.store (k:=i*5) (by omega) (.int .i64 st);have hr2:eG ((w.setCell ⟨gm,off+i*5,none⟩ (.int .i64 st)).setCell ⟨gm,off+i*5+1,none⟩ (.int .i64 0)) _ _ _ _ _ _:=hr1.store (k:=i*5+1) (by omega) (.int .i64 0);have hr3:eG (((w.setCell ⟨gm,off+i*5,none⟩ (.int .i64 st)).setCell ⟨gm,off+i*5+1,none⟩ (.int .i64 0)).setCell ⟨gm,off+i*5+4,none⟩ (.bool false)) _ _ _ _ _ _:=hr2.store (k:=i*5+4) (by omega) (.bool false);have e1:=yw (j:=0) (m':=⟨st,ml,mg,mb,mp⟩) (u:=.int .i64 st) HM.out (by omega) rfl;have e2:=yw (l:=s.marks.set i ⟨st,ml,mg,mb,mp⟩) (j:=1) (m:=⟨st,ml,mg,mb,mp⟩) (m':=⟨st,0,mg,mb,mp⟩) (u:=.int .i64 0) (by rw[List.getElem?_set_self him]) (by omega) rfl;have e3:=yw (l:=s.marks.set i ⟨st,0,mg,mb,mp⟩) (j:=4) (m:=⟨st,0,mg,mb,mp⟩) (m':=⟨st,0,mg,mb,false⟩) (u:=.bool false) (by rw[List.getElem?_set_self him]) (by omega) rfl;rw[List.set_set]at e2 e3;rw[jW]at e1;rw[e1,e2,e3]at hr3;have hu:aH (λk=>k=gm) w (((w.setCell ⟨gm,off+i*5,none⟩ (.int .i64 st)).setCell ⟨gm,off+i*5+1,none⟩ (.int .i64 0)).setCell ⟨gm,off+i*5+4,none⟩ (.bool false)).drew:=((((aH.refl (λk=>k=gm) w).setCell (.inl rfl) _).setCell (.inl rfl) _).setCell (.inl rfl) _).drew;refine⟨rfl,H.out.FH _ (by simp) ?_ hu,hu.mono (λ_ _ h=>.inr (.inr (.inr h)))⟩;exact hr3.keep (S:=λ_=>False) ((aH.refl _ _).drew) (λ_ _ h=>h)
end
section
open Go.RowKit
theorem aJ.keep{w0 w w':World}{g:Nat}{v:CV}{C:au}{t:TV}{s:ak}{gh gu gm:Nat}(h:aJ w0 w g v C t s gh gu gm)(hu:aH (λ_=>False) w w'):aJ w0 w' g v C t s gh gu gm:=
 ⟨hu.keep h.head (λh=>h),h.con,h.below.trans (hu.below h.below.size (λ_ hk=>hk.elim)),h.aj.keep hu (λ_ _ h=>h),h.used.keep hu (λ_ _ h=>h),h.marks.keep hu (λ_ _ h=>h),h.newG,h.newH,h.zL,h.uq⟩
theorem aJ.fU{w0 w:World}{g:Nat}{v:CV}{C:au}{th tu:SV}{off dW:Nat}{s:ak}{gh gu gm:Nat}(h:aJ w0 w g v C ⟨th,tu,⟨some ⟨gm,off,none⟩,dW⟩⟩ s gh gu gm){i j:Nat}{m m':aC}{u:Value}(hm:s.marks[i]?=some m)(hj:j<5)(hc:m.cells.set j u=m'.cells):
 aJ w0 (w.setCell ⟨gm,off+i*5+j,none⟩ u) g v C ⟨th,tu,⟨some ⟨gm,off,none⟩,dW⟩⟩ ⟨s.day,s.aj,s.used,s.marks.set i m'⟩ gh gu gm:=by
 have him:i<s.marks.length:=(aZ.1 hm).1;have hr:=h.marks.store (k:=i*5+j) (by omega) u;rw[yw hm hj hc]at hr;rw[show off+i*5+j=off+(i*5+j) by omega];exact h.FH _ (by simp) hr ((aH.refl (λk=>k=gm) w).setCell (.inl rfl) _)
theorem aJ.nM{w0 w:World}{g:Nat}{v:CV}{C:au}{t:TV}{s:ak}{gh gu gm:Nat}(h:aJ w0 w g v C t s gh gu gm){i:Nat}{m:aC}(hm:s.marks[i]?=some m):
 ∃off,t.m.A=some ⟨gm,off,none⟩/\gm<w.heap.size/\(∀j,j<5->w.cell? ⟨gm,off+i*5+j,none⟩=m.cells[j]?)/\(∀j,w.frozen? ⟨gm,j,none⟩=false):=by
 have him:i<s.marks.length:=(aZ.1 hm).1;obtain⟨off,hA,hc1,hc2,hgl,hcell,hfz⟩:=h.marks.O8;refine⟨off,hA,hgl,λj hj=>?_,hfz⟩;rw[iM,hcell _ (by omega)];exact bG aC.cells 5 (λ_=>rfl) s.marks i j _ hm hj
section
variable {w0 w:World} {g:Nat} {v:CV} {C:au} {t:TV} {s:ak} {gh gu gm:Nat}
theorem uw(h:aJ w0 w g v C t s gh gu gm)(i:Nat)(m:aC)(hm:s.marks[i]?=some m):
 Calls Tryz.prog 107 #[.pointer (some ⟨g,0,none⟩),.int .i64 i] w (kK w0 g v C t ⟨s.day,s.aj,s.used,s.marks.set i (m.ended 3)⟩ gh gu gm w):=by
 have hc:=Au h i m hm 3;have HC:=ah hc;clear hc h hm;go_enter Tryz.func107,Tryz.ntmps107;go_wp2_with fail;refine HC.out.mono ?_;rintro e z ⟨rfl,hz,hs⟩;go_wp2
 go_end0
 exact⟨rfl,hz,hs⟩
theorem yx(h:aJ w0 w g v C t s gh gu gm)(i:Nat)(m:aC)(hm:s.marks[i]?=some m):
 Calls Tryz.prog 108 #[.pointer (some ⟨g,0,none⟩),.int .i64 i] w (kK w0 g v C t ⟨s.day,s.aj,s.used,s.marks.set i (m.ended 5)⟩ gh gu gm w):=by
 have hc:=Au h i m hm 5;have HC:=ah hc;clear hc h hm;go_enter Tryz.func108,Tryz.ntmps108;go_wp2_with fail;refine HC.out.mono ?_;rintro e z ⟨rfl,hz,hs⟩;go_wp2
 go_end0
 exact⟨rfl,hz,hs⟩
theorem V9{α:Type}{l:List α}{i:Nat}{x:α}(h:l[i]?=some x):l.set i x=l:=by
 apply kX;intro j;rw[jI];split
 .rename_i e
  subst e;have hi:i<l.length:=(aZ.1 h).1;rw[if_pos hi,h]
 .rfl
def aC.violated(m:aC):aC:=cond m.paused m (m.ended 4)
theorem Dy(h:aJ w0 w g v C t s gh gu gm)(i:Nat)(m:aC)(hm:s.marks[i]?=some m):
 Calls Tryz.prog 112 #[.pointer (some ⟨g,0,none⟩),.int .i64 i] w (kK w0 g v C t ⟨s.day,s.aj,s.used,s.marks.set i m.violated⟩ gh gu gm w):=by
 have him:i<s.marks.length:=(aZ.1 hm).1;obtain⟨off,hA,hgl,hcell,_⟩:=h.nM hm;obtain⟨th,tu,⟨h_,dW⟩⟩:=t;simp only at hA;subst hA;have k10:w.cell? ⟨g,10,none⟩=some (.slice (some ⟨gm,off,none⟩) s.marks.length dW):=h.cell 10;have m4:w.cell? ⟨gm,off+i*5+4,none⟩=some (.bool m.paused):=hcell 4 (by omega);clear hcell;have hc:=Au h i m hm 4;have HC:=ah hc;clear hc;have i0:(0:Int)<=(i:Int):=by omega
 have i1:(i:Int)<(s.marks.length:Int):=by omega
 obtain⟨ms,ml,mg,mb,mp⟩:=m;have H:=ah h;clear h;have HM:=ah hm;clear hm;cases mp with
 |true=>
  go_enter Tryz.func112,Tryz.ntmps112;go_wp2
  go_end0
  refine⟨rfl,?_,aH.refl _ _⟩;have e:s.marks.set i (aC.violated ⟨ms,ml,mg,mb,true⟩)=s.marks:=V9 HM.out;rw[e];exact H.out
 |false=>
  go_enter Tryz.func112,Tryz.ntmps112;go_wp2_with fail;refine HC.out.mono ?_;rintro e z ⟨rfl,hz,hs⟩;go_wp2
  go_end0
  exact⟨rfl,hz,hs⟩
def aC.performed(m:aC)(need:Int):aC:=cond (m.got+1==need) (aC.ended ⟨m.status,m.left,m.got+1,m.dP,m.paused⟩ 3) ⟨m.status,m.left,m.got+1,m.dP,m.paused⟩
theorem Dz(h:aJ w0 w g v C t s gh gu gm)(i:Nat)(m:aC)(hm:s.marks[i]?=some m)(k:aQ)(hk:C.clauses[i]?=some k)(hg0:0<=m.got)(hg1:m.got<=1000000):
 Calls Tryz.prog 111 #[.pointer (some ⟨g,0,none⟩),.int .i64 i] w (kK w0 g v C t ⟨s.day,s.aj,s.used,s.marks.set i (m.performed k.need)⟩ gh gu gm w):=by
 have him:i<s.marks.length:=(aZ.1 hm).1;have hik:i<C.clauses.length:=(aZ.1 hk).1;obtain⟨off,hA,hgl,hcell,hfz⟩:=h.nM hm;obtain⟨b,kL,st,hK,hbl,hkc,_⟩:=h.con.clause hk;obtain⟨th,tu,⟨h_,dW⟩⟩:=t;obtain⟨vh,vu,va,⟨kA,yt⟩,vo⟩:=v;simp only at hA hK;subst hA hK;have k10:w.cell? ⟨g,10,none⟩=some (.slice (some ⟨gm,off,none⟩) s.marks.length dW):=h.cell 10;have m2:w.cell? ⟨gm,off+i*5+2,none⟩=some (.int .i64 m.got):=hcell 2 (by omega);have f2:=hfz (off+i*5+2);clear hcell hfz;obtain⟨ms,ml,mg,mb,mp⟩:=m;simp only at hg0 hg1 m2;have h1:aJ w0 (w.setCell ⟨gm,off+i*5+2,none⟩ (.int .i64 (mg+1))) g ⟨vh,vu,va,⟨some ⟨b,kL,none⟩,yt⟩,vo⟩ C ⟨th,tu,⟨some ⟨gm,off,none⟩,dW⟩⟩ ⟨s.day,s.aj,s.used,s.marks.set i ⟨ms,ml,mg+1,mb,mp⟩⟩ gh gu gm:=h.fU (m':=⟨ms,ml,mg+1,mb,mp⟩) hm (by omega) rfl;generalize hn:k.need=nd;have HN:=ah hn;clear hn;have i0:(0:Int)<=(i:Int):=by omega
 have i1:(i:Int)<(s.marks.length:Int):=by omega
 have i2:(i:Int)<(C.clauses.length:Int):=by omega
 have H:=ah h;clear h;have HM:=ah hm;clear hm;have HK:=ah hk;clear hk;go_enter Tryz.func111,Tryz.ntmps111;go_upto_region 1 with(fail)
 obtain⟨W1,HW1⟩:∃W1,Hid (W1=w.setCell ⟨gm,off+i*5+2,none⟩ (.int .i64 (mg+1))):=⟨_,rfl⟩;rw[<-HW1.out]at h1⊢;have ail:W1.cell? ⟨g,10,none⟩=some (.slice (some ⟨gm,off,none⟩) s.marks.length dW):=by have h:=h1.cell 10;simpa using h
 have k4':W1.cell? ⟨g,4,none⟩=some (.slice (some ⟨b,kL,none⟩) C.clauses.length yt):=h1.cell 4;obtain⟨off',hA',_,hcell',_⟩:=h1.nM (i:=i) (m:=⟨ms,ml,mg+1,mb,mp⟩) (by simp[him]);simp only[Option.some.injEq,Addr.mk.injEq,true_and,and_true]at hA';subst hA';have m2':W1.cell? ⟨gm,off+i*5+2,none⟩=some (.int .i64 (mg+1)):=hcell' 2 (by omega);have c3:W1.cell? ⟨b,kL+i*16+3,none⟩=some (.int .i64 nd):=by rw[<-HN.out];exact hkc W1 h1.below 3 (by omega)
 clear hcell' hkc k10 m2;have hend:∀n:Nat,Calls Tryz.prog 144 #[.pointer (some ⟨g,0,none⟩),.int .i64 i,.int .i64 3] (W1.drewN n) (kK w0 g ⟨vh,vu,va,⟨some ⟨b,kL,none⟩,yt⟩,vo⟩ C ⟨th,tu,⟨some ⟨gm,off,none⟩,dW⟩⟩ ⟨s.day,s.aj,s.used,(s.marks.set i ⟨ms,ml,mg+1,mb,mp⟩).set i (aC.ended ⟨ms,ml,mg+1,mb,mp⟩ 3)⟩ gh gu gm (W1.drewN n)):=λn=>
  Au (h1.keep ((aH.refl _ _).drewN n)) i ⟨ms,ml,mg+1,mb,mp⟩ (by simp[him]) 3
 simp only[List.set_set]at hend;have abu:=ah hend;clear hend;have H1:=ah h1;clear h1;have rT:Hid (aH (gL g gh gu gm) w W1):=by show aH _ _ _;rw[HW1.out];exact(aH.refl _ _).setCell (.inl (.inr (.inr (.inr rfl)))) _
 cases q:(mg+1==nd)with
 |true=>
  go_quiet (fail)
  go_wp2_with fail;refine(abu.out _).mono ?_;rintro e z ⟨rfl,hz,hs⟩;go_wp2
  go_end0
  refine⟨rfl,?_,(rT.out.drewN _).trans hs (λ_ _ h=>h)⟩;rw[aC.performed,q];exact hz
 |false=>
  go_quiet (fail)
  go_wp2
  go_end0
  refine⟨rfl,?_,rT.out.drewN _⟩;rw[aC.performed,q];exact H1.out.keep ((aH.refl _ _).drewN _)
end
end
section
open Go.RowKit
def aC.expired(m:aC)(kY:Int):aC:=cond ((m.status==1)&&decide (0<kY)) ⟨2,kY,m.got,m.dP,m.paused⟩ (m.ended 4)
section
variable {w0 w:World} {g:Nat} {v:CV} {C:au} {t:TV} {s:ak} {gh gu gm:Nat}
theorem FI(h:aJ w0 w g v C t s gh gu gm)(i:Nat)(m:aC)(hm:s.marks[i]?=some m)(k:aQ)(hk:C.clauses[i]?=some k):
 Calls Tryz.prog 106 #[.pointer (some ⟨g,0,none⟩),.int .i64 i] w (kK w0 g v C t ⟨s.day,s.aj,s.used,s.marks.set i (m.expired k.kY)⟩ gh gu gm w):=by
 have him:i<s.marks.length:=(aZ.1 hm).1;have hik:i<C.clauses.length:=(aZ.1 hk).1;obtain⟨off,hA,hgl,hcell,hfz⟩:=h.nM hm;obtain⟨b,kL,st,hK,hbl,hkc,_⟩:=h.con.clause hk;obtain⟨th,tu,⟨h_,dW⟩⟩:=t;obtain⟨vh,vu,va,⟨kA,yt⟩,vo⟩:=v;simp only at hA hK;subst hA hK;have k10:w.cell? ⟨g,10,none⟩=some (.slice (some ⟨gm,off,none⟩) s.marks.length dW):=h.cell 10;have k4:w.cell? ⟨g,4,none⟩=some (.slice (some ⟨b,kL,none⟩) C.clauses.length yt):=h.cell 4;obtain⟨ms,ml,mg,mb,mp⟩:=m;have m0:w.cell? ⟨gm,off+i*5,none⟩=some (.int .i64 ms):=hcell 0 (by omega);have m1:w.cell? ⟨gm,off+i*5+1,none⟩=some (.int .i64 ml):=hcell 1 (by omega);have f0:=hfz (off+i*5);have f1:=hfz (off+i*5+1);have c6:w.cell? ⟨b,kL+i*16+6,none⟩=some (.int .i64 k.kY):=hkc w h.below 6 (by omega);clear hcell hfz hkc;generalize hn:k.kY=gr at*;have HN:=ah hn;clear hn;have hgm:=h.JE;have DC:b≠gm:=λe=>by have h1:=h.uq;omega
 have hc:=Au h i _ hm 4;have HC:=ah hc;clear hc;have i0:(0:Int)<=(i:Int):=by omega
 have i1:(i:Int)<(s.marks.length:Int):=by omega
 have i2:(i:Int)<(C.clauses.length:Int):=by omega
 have H:=ah h;clear h;have HM:=ah hm;clear hm;have HK:=ah hk;clear hk;cases q1:(ms==1)with
 |false=>
  go_enter Tryz.func106,Tryz.ntmps106;go_wp2_with fail;refine HC.out.mono ?_;rintro e z ⟨rfl,hz,hs⟩;go_wp2
  go_end0
  refine⟨rfl,?_,hs⟩;rw[aC.expired];simp only[q1,Bool.false_and];exact hz
 |true=>
  cases q2:decide (0<gr)with
  |false=>
   go_enter Tryz.func106,Tryz.ntmps106;go_wp2_with fail;refine HC.out.mono ?_;rintro e z ⟨rfl,hz,hs⟩;go_wp2
   go_end0
   refine⟨rfl,?_,hs⟩;rw[aC.expired];simp only[q1,q2,Bool.and_false];exact hz
  |true=>
   go_enter Tryz.func106,Tryz.ntmps106;go_wp2
   go_region
   all_goals
    go_wp2
    go_end0
    have h1:=H.out.fU (j:=0) (m':=⟨2,ml,mg,mb,mp⟩) (u:=.int .i64 2) HM.out (by omega) rfl;have h2:=h1.fU (i:=i) (j:=1) (m:=⟨2,ml,mg,mb,mp⟩) (m':=⟨2,gr,mg,mb,mp⟩) (u:=.int .i64 gr) (by simp[him]) (by omega) rfl;simp only[List.set_set,jW]at h2;refine⟨rfl,?_,(((aH.refl _ _).setCell (.inl (.inr (.inr (.inr rfl)))) _).setCell (.inl (.inr (.inr (.inr rfl)))) _).drew⟩;rw[aC.expired];simp only[q1,q2,Bool.and_self,cond_true];exact h2.keep ((aH.refl _ _).drew)
end
def aC.runs(m:aC):Bool:=(m.status==1)||(m.status==2)
theorem MP(m:aC)(w:World):Calls Tryz.prog 147 #[.agg #[.int .i64 m.status,.int .i64 m.left,.int .i64 m.got,.int .i64 m.dP,.bool m.paused]] w (dx (.bool m.runs) w):=by
 generalize hE:m.runs=E;cases q1:(m.status==1)with
 |true=>
  obtain rfl:E=true:=by rw[<-hE];unfold aC.runs;rw[q1];rfl
  go_enter Tryz.func147,Tryz.ntmps147;go_wp2;go_ret;exact⟨rfl,aK (aD _ _) _⟩
 |false=>
  obtain rfl:E=(m.status==2):=by rw[<-hE];unfold aC.runs;rw[q1];rfl
  clear hE;go_enter Tryz.func147,Tryz.ntmps147;go_wp2;go_ret;exact⟨rfl,aK (aD _ _) _⟩
end
section
def qX(hs:List Int)(k:aQ):Int:=cond (k.kind==4) (-1) (fu hs k.role)
def FJ(hs:List Int)(k:aQ):aC:=⟨1,k.after,0,qX hs k,false⟩
def iK(C:au)(ms:List aC)(i:Nat):Bool:=match C.clauses[i]?,ms[i]? with|some k,some m=>j6 ms k m|_,_=>false
def mO(C:au)(hs:List Int)(ms:List aC)(i:Nat):List aC:=match C.clauses[i]? with|some k=>cond (iK C ms i) (ms.set i (FJ hs k)) ms|none=>ms
def fG(C:au)(hs:List Int)(ms:List aC):Nat->List aC
 |0=>ms
 |j+1=>mO C hs (fG C hs ms j) j
def fP(C:au)(hs:List Int)(ms:List aC):Nat->Bool
 |0=>false
 |j+1=>fP C hs ms j||iK C (fG C hs ms j) j
def idle(ms:List aC):Nat:=(ms.filter (λm=>m.status==0)).length
theorem DF(C:au)(hs:List Int)(ms:List aC)(i:Nat):(mO C hs ms i).length=ms.length:=by
 unfold mO;cases C.clauses[i]? with
 |none=>rfl
 |some k=>cases iK C ms i<;>simp
theorem sG(C:au)(hs:List Int)(ms:List aC):∀j,(fG C hs ms j).length=ms.length
 |0=>rfl
 |j+1=>by rw[fG,DF,sG C hs ms j]
theorem V_{l:List aC}{i:Nat}{m m':aC}(hm:l[i]?=some m)(h0:(m.status==0)=true)(h1:(m'.status==0)=false):idle (l.set i m')+1=idle l:=by
 induction l generalizing i with
 |nil=>simp at hm
 |cons a l ih=>
  cases i with
  |zero=>
   simp at hm;subst hm;simp only[idle,List.set_cons_zero,List.filter_cons,h0,h1,if_true];simp
  |succ i=>
   have:=ih (i:=i) (by simpa using hm);simp only[idle,List.set_cons_succ,List.filter_cons]at this⊢;split
   .simp only[iy]
    omega
   .exact this
theorem uW(C:au)(hs:List Int)(ms:List aC)(i:Nat):(iK C ms i=true->idle (mO C hs ms i)+1=idle ms)/\(iK C ms i=false->mO C hs ms i=ms):=by
 refine⟨λh=>?_,λh=>?_⟩
 .have hf:=h
  unfold iK at hf;unfold mO;cases hk:C.clauses[i]? with
  |none=>simp[hk]at hf
  |some k=>
   cases hm:ms[i]? with
   |none=>simp[hk,hm]at hf
   |some m=>
    simp only[hk,hm]at hf;simp only[h,cond_true];refine V_ hm ?_ rfl;unfold j6 at hf;simp only[bM]at hf;exact hf.1
 .unfold mO
  cases hk:C.clauses[i]? with
  |none=>rfl
  |some k=>simp only[h,cond_false]
theorem ig(C:au)(hs:List Int)(ms:List aC):∀j,(fP C hs ms j=true->idle (fG C hs ms j)<idle ms)/\(fP C hs ms j=false->fG C hs ms j=ms)
 |0=>⟨λh=>(by cases h),λ_=>rfl⟩
 |j+1=>by
  obtain⟨h1,h2⟩:=ig C hs ms j;obtain⟨h3,h4⟩:=uW C hs (fG C hs ms j) j;refine⟨λh=>?_,λh=>?_⟩
  .rw[fP,qd]at h
   rw[fG];cases hf:iK C (fG C hs ms j) j with
   |true=>
    have h5:=h3 hf;cases hg:fP C hs ms j with
    |true=>have:=h1 hg;omega
    |false=>rw[h2 hg]at h5⊢;omega
   |false=>
    rw[h4 hf];rcases h with h|h
    .exact h1 h
    .rw[hf]at h;cases h
  .rw[fP,oH]at h
   rw[fG,h4 h.2,h2 h.1]
def jM(C:au)(hs:List Int):Nat->List aC->List aC
 |0,ms=>ms
 |f+1,ms=>cond (fP C hs ms C.clauses.length) (jM C hs f (fG C hs ms C.clauses.length)) ms
theorem zk(C:au)(hs:List Int):∀(f f':Nat)(ms:List aC),idle ms<f->idle ms<f'->jM C hs f ms=jM C hs f' ms
 |0,_,_,h,_=>by omega
 |_,0,_,_,h=>by omega
 |f+1,f'+1,ms,h,h'=>by
  rw[jM,jM];cases hf:fP C hs ms C.clauses.length with
  |false=>rfl
  |true=>
   have:=(ig C hs ms C.clauses.length).1 hf;simp only[cond_true];exact zk C hs f f' _ (by omega) (by omega)
def au.begin(C:au)(hs:List Int)(ms:List aC):List aC:=jM C hs (idle ms+1) ms
theorem MQ{C:au}{hs:List Int}{ms:List aC}(h:fP C hs ms C.clauses.length=true):C.begin hs ms=C.begin hs (fG C hs ms C.clauses.length):=by
 have h1:=(ig C hs ms C.clauses.length).1 h;unfold au.begin;rw[jM,h,cond_true];exact zk C hs _ _ _ h1 (by omega)
theorem DI{C:au}{hs:List Int}{ms:List aC}(h:fP C hs ms C.clauses.length=false):C.begin hs ms=ms:=by
 unfold au.begin;rw[jM,h,cond_false]
end
section
open Go.RowKit
theorem aJ.on{w0 w w':World}{g:Nat}{v:CV}{C:au}{t:TV}{s:ak}{gh gu gm:Nat}(h:aJ w0 w g v C t s gh gu gm)(hb:Below w.heap.size w w'):aJ w0 w' g v C t s gh gu gm:=
 h.keep ((aH.of_below hb).mono (λi hi hk=>by omega))
theorem eG.Cb{w:World}{e:TypeId}{size n c g:Nat}{A:Option Addr}{xs:List Value}(h:eG w e size (.slice A n c) n xs (some g))(h1:∀u∈xs,u.oneCell'=true):At w size A n c xs:=by
 obtain⟨A',cap,hv,hs⟩:=h.src h1;obtain⟨off,hA,hc1,hc2,_⟩:=h.O8;injection hv with e1 _ e3
 subst e1 e3;exact⟨hs,⟨λh0=>(by rw[hA]at h0;cases h0),hc1,hc2⟩⟩
theorem aJ.state{w0 w:World}{g:Nat}{v:CV}{C:au}{t:TV}{s:ak}{gh gu gm:Nat}(h:aJ w0 w g v C t s gh gu gm):aW w t s:=
 ⟨h.aj.Cb (λu hu=>by obtain⟨x,_,rfl⟩:=dU.1 hu;rfl),h.used.Cb (λu hu=>by obtain⟨x,_,rfl⟩:=dU.1 hu;rfl),
  h.marks.Cb (λu hu=>by
   obtain⟨x,_,hx⟩:=Aj.1 hu;simp only[aC.cells,d_,iW,or_false]at hx;rcases hx with rfl|rfl|rfl|rfl|rfl<;>rfl)⟩
theorem aJ.KI{w0 w:World}{g:Nat}{v:CV}{C:au}{th tu:SV}{off dW:Nat}{s:ak}{gh gu gm:Nat}(h:aJ w0 w g v C ⟨th,tu,⟨some ⟨gm,off,none⟩,dW⟩⟩ s gh gu gm){i:Nat}{m:aC}(hm:s.marks[i]?=some m)(a b c d:Int)(e:Bool):
 aJ w0 (((((w.setCell ⟨gm,off+i*5,none⟩ (.int .i64 a)).setCell ⟨gm,off+i*5+1,none⟩ (.int .i64 b)).setCell ⟨gm,off+i*5+2,none⟩ (.int .i64 c)).setCell ⟨gm,off+i*5+3,none⟩ (.int .i64 d)).setCell ⟨gm,off+i*5+4,none⟩ (.bool e)) g v C ⟨th,tu,⟨some ⟨gm,off,none⟩,dW⟩⟩ ⟨s.day,s.aj,s.used,s.marks.set i ⟨a,b,c,d,e⟩⟩ gh gu gm:=by
 have him:i<s.marks.length:=(aZ.1 hm).1;obtain⟨m0,m1,m2,m3,m4⟩:=m;have h1:=h.fU (j:=0) (m':=⟨a,m1,m2,m3,m4⟩) (u:=.int .i64 a) hm (by omega) rfl;have h2:=h1.fU (i:=i) (j:=1) (m:=⟨a,m1,m2,m3,m4⟩) (m':=⟨a,b,m2,m3,m4⟩) (u:=.int .i64 b) (by simp[him]) (by omega) rfl;have h3:=h2.fU (i:=i) (j:=2) (m:=⟨a,b,m2,m3,m4⟩) (m':=⟨a,b,c,m3,m4⟩) (u:=.int .i64 c) (by simp[him]) (by omega) rfl;have h4:=h3.fU (i:=i) (j:=3) (m:=⟨a,b,c,m3,m4⟩) (m':=⟨a,b,c,d,m4⟩) (u:=.int .i64 d) (by simp[him]) (by omega) rfl;have h5:=h4.fU (i:=i) (j:=4) (m:=⟨a,b,c,d,m4⟩) (m':=⟨a,b,c,d,e⟩) (u:=.bool e) (by simp[him]) (by omega) rfl;simpa only[List.set_set,jW]using h5
theorem aJ.FK{w0 w:World}{g:Nat}{v:CV}{C:au}{t:TV}{s:ak}{gh gu gm:Nat}(h:aJ w0 w g v C t s gh gu gm):
 ∃off,t.h.A=some ⟨gh,off,none⟩/\gh<w.heap.size/\(∀(i:Nat),i<s.aj.length->w.cell? ⟨gh,off+i,none⟩=some (.int .i64 (fu s.aj i))):=by
 obtain⟨off,hA,hc1,hc2,hgl,hcell,hfz⟩:=h.aj.O8;refine⟨off,hA,hgl,λi hi=>?_⟩;rw[hcell _ (by omega)];simp[aR,fu,hi]
end
section
open Go.RowKit
theorem yB{w0 w:World}{g:Nat}{v:CV}{C:au}{t:TV}{s:ak}{gh gu gm:Nat}(h:aJ w0 w g v C t s gh gu gm)(hlen:s.marks.length=C.clauses.length)
 (hin:∀k∈C.clauses,∀c∈k.start,0<=c.clause/\c.clause<C.clauses.length)(hro:∀k∈C.clauses,k.kind≠4->0<=k.role/\k.role<s.aj.length):
 Calls Tryz.prog 67 #[.pointer (some ⟨g,0,none⟩)] w (kK w0 g v C t ⟨s.day,s.aj,s.used,C.begin s.aj s.marks⟩ gh gu gm w):=by
 have HL:=ah hlen;clear hlen;have qB:=ah hin;clear hin;have qW:=ah hro;clear hro;obtain⟨day,aj,used,ms0⟩:=s;have H:=ah h;clear h;go_enter Tryz.func67,Tryz.ntmps67;go_wp2
 go_loopg [2] (idle ms0+1) (λgk v2 wr=>∃(ms:List aC)(again:Bool),gk=idle ms+(cond again 1 0)/\v2= .bool again/\ms.length=ms0.length/\Hid (aH (gL g gh gu gm) w wr)/\Hid (aJ w0 wr g v C t ⟨day,aj,used,ms⟩ gh gu gm)/\Hid (C.begin aj ms0=cond again (C.begin aj ms) ms))
 case atStart=>exact⟨ms0,true,rfl,rfl,rfl,aH.refl _ _,H,rfl⟩
 case round=>
  obtain⟨ms,again,eH,rfl,hml,rT,HW,HB⟩:=hrel;have iB:=ah eH;clear eH;have HML:=ah hml;clear hml;cases again with
  |false=>
   go_wp2
   go_end0
   refine⟨rfl,?_,rT.out⟩;rw[HB.out];exact HW.out
  |true=>
   obtain⟨eu,IE,hrest⟩:=HW.out.marks.O8;obtain⟨hoff,hhA,abv⟩:=HW.out.FK;clear hrest abv;obtain⟨⟨fQ,eZ⟩,⟨gH,eX⟩,⟨h_,dW⟩⟩:=t;obtain⟨⟨dF,dG⟩,⟨dH,dK⟩,⟨dV,dn⟩,⟨dQ,dh⟩,⟨dz,dB⟩⟩:=v;simp only at IE hhA;subst IE hhA;have k4:=HW.out.cell 4;simp only at k4;have hcl:C.clauses.length<=9223372036854775807:=by
    obtain⟨ss,_,h2,_⟩:=HW.out.con.clauses;have h3:=h2.2.2.1;have h4:=h2.2.2.2;unfold maxLen at h4;omega
   go_wp2
   go_loopg [13,2] C.clauses.length (λgk2 v13 v2 wr2=>∃(j:Nat),gk2=C.clauses.length - j/\j<=C.clauses.length/\v13= .int .i64 j/\v2= .bool (fP C aj ms j)/\Hid (aH (gL g gh gu gm) wr wr2)/\Hid (aJ w0 wr2 g ⟨⟨dF,dG⟩,⟨dH,dK⟩,⟨dV,dn⟩,⟨dQ,dh⟩,⟨dz,dB⟩⟩ C ⟨⟨some ⟨gh,hoff,none⟩,eZ⟩,⟨gH,eX⟩,⟨some ⟨gm,eu,none⟩,dW⟩⟩ ⟨day,aj,used,fG C aj ms j⟩ gh gu gm))
   case atStart=>exact⟨0,rfl,aV _,rfl,rfl,aH.refl _ _,HW⟩
   case round=>
    obtain⟨j,Mx,hj,rfl,rfl,HS2,HW2⟩:=hrel;have Et:=ah Mx;clear Mx;by_cases hlt:j<C.clauses.length
    .have Wh:(fG C aj ms j).length=C.clauses.length:=by rw[sG,HML.out,HL.out]
     generalize hM:fG C aj ms j=M at HW2 Wh;have HM:=ah hM;clear hM;have abw:=ah Wh;clear Wh;obtain⟨m,hm⟩:∃m,M[j]?=some m:=⟨M[j]'(by rw[abw.out];exact hlt),aT _⟩;obtain⟨k,hk⟩:∃k,C.clauses[j]?=some k:=⟨C.clauses[j],aT hlt⟩;have hkm:k∈C.clauses:=cK hk;have HR:Hid (k.kind≠4->0<=k.role/\k.role<aj.length):=qW.out k hkm;obtain⟨b,kL,st,hK,hbl,hkc,_⟩:=HW2.out.con.clause hk;simp only at hK;subst hK;have nN:=hkc _ HW2.out.below;obtain⟨ki,ro,ac,ne,start,af,gr,bu,fi,pa,re,⟨vn,vd⟩,un,tg,wa⟩:=k;obtain⟨stA,Ac⟩:=st;obtain⟨c0,c1,c2,c3,c4,c5,c6,c7,c8,c9,c10,c11,c12,c13,c14,c15⟩:=Fh nN rfl;clear nN hkc;generalize hR:j6 M ⟨ki,ro,ac,ne,start,af,gr,bu,fi,pa,re,⟨vn,vd⟩,un,tg,wa⟩ m=R;have YC:=ah hR;clear hR;have HK:=ah hk;clear hk;have HMJ:=ah hm;clear hm;clear hkm;have j0:(0:Int)<=(j:Int):=by omega
     have j1:(j:Int)<(C.clauses.length:Int):=by omega
     go_upto_region 6 with(fail)
     generalize hW0:World.alloc _ _=W0;obtain⟨HB0,hh0⟩:=bx1 hW0;have HW0:=ah hW0.symm;clear hW0;change Code.wp _ _ _ _ (Bl.val (⟨W0,aD _ _⟩:Bl W0));generalize(⟨W0,aD _ _⟩:Bl W0)=s0;clear c0 c1 c2 c3 c4 c5 c6 c7 c8 c9 c10 c11 c12 c13 c14 c15 k4;have b0:∀z:Bl W0,z.val.cell? ⟨wr.heap.size,0,none⟩=some (.int .i64 ki):=λz=>z.cell ((aG W0 _ 0 _ _ _ hh0).trans rfl);have b1:∀z:Bl W0,z.val.cell? ⟨wr.heap.size,1,none⟩=some (.int .i64 ro):=λz=>z.cell ((aG W0 _ 1 _ _ _ hh0).trans rfl);have b5:∀z:Bl W0,z.val.cell? ⟨wr.heap.size,5,none⟩=some (.int .i64 af):=λz=>z.cell ((aG W0 _ 5 _ _ _ hh0).trans rfl);clear hh0;have lq:Hid (∀z:Bl W0,aJ w0 z.val g ⟨⟨dF,dG⟩,⟨dH,dK⟩,⟨dV,dn⟩,⟨some ⟨b,kL,none⟩,dh⟩,⟨dz,dB⟩⟩ C ⟨⟨some ⟨gh,hoff,none⟩,eZ⟩,⟨gH,eX⟩,⟨some ⟨gm,eu,none⟩,dW⟩⟩ ⟨day,aj,used,M⟩ gh gu gm):=λz=>HW2.out.on (ay HB0.out z.prop);have g0:∀z:Bl W0,z.val.cell? ⟨g,0,none⟩=some (.int .i64 C.aF):=λz=>(lq.out z).cell 0;have g1:∀z:Bl W0,z.val.cell? ⟨g,1,none⟩=some (.slice dF C.aj.length dG):=λz=>(lq.out z).cell 1;have g2:∀z:Bl W0,z.val.cell? ⟨g,2,none⟩=some (.slice dH C.units.length dK):=λz=>(lq.out z).cell 2;have g3:∀z:Bl W0,z.val.cell? ⟨g,3,none⟩=some (.slice dV C.acts.length dn):=λz=>(lq.out z).cell 3;have g4:∀z:Bl W0,z.val.cell? ⟨g,4,none⟩=some (.slice (some ⟨b,kL,none⟩) C.clauses.length dh):=λz=>(lq.out z).cell 4;have g5:∀z:Bl W0,z.val.cell? ⟨g,5,none⟩=some (.int .i64 C.days):=λz=>(lq.out z).cell 5;have g6:∀z:Bl W0,z.val.cell? ⟨g,6,none⟩=some (.slice dz C.off.length dB):=λz=>(lq.out z).cell 6;have g7:∀z:Bl W0,z.val.cell? ⟨g,7,none⟩=some (.int .i64 day):=λz=>(lq.out z).cell 7;have g8:∀z:Bl W0,z.val.cell? ⟨g,8,none⟩=some (.slice (some ⟨gh,hoff,none⟩) aj.length eZ):=λz=>(lq.out z).cell 8;have g9:∀z:Bl W0,z.val.cell? ⟨g,9,none⟩=some (.slice gH used.length eX):=λz=>(lq.out z).cell 9;have g10:∀z:Bl W0,z.val.cell? ⟨g,10,none⟩=some (.slice (some ⟨gm,eu,none⟩) M.length dW):=λz=>(lq.out z).cell 10;have hrd:∀z:Bl W0,Calls Tryz.prog 104 #[.agg #[.int .i64 C.aF,.slice dF C.aj.length dG,.slice dH C.units.length dK,.slice dV C.acts.length dn,.slice (some ⟨b,kL,none⟩) C.clauses.length dh,.int .i64 C.days,.slice dz C.off.length dB],.agg #[.int .i64 day,.slice (some ⟨gh,hoff,none⟩) aj.length eZ,.slice gH used.length eX,.slice (some ⟨gm,eu,none⟩) M.length dW],.int .i64 j] z.val (dx (.bool R) z.val):=λz=>by
      have h:=JD (⟨⟨dF,dG⟩,⟨dH,dK⟩,⟨dV,dn⟩,⟨some ⟨b,kL,none⟩,dh⟩,⟨dz,dB⟩⟩:CV) C (⟨⟨some ⟨gh,hoff,none⟩,eZ⟩,⟨gH,eX⟩,⟨some ⟨gm,eu,none⟩,dW⟩⟩:TV) ⟨day,aj,used,M⟩ j ⟨ki,ro,ac,ne,start,af,gr,bu,fi,pa,re,⟨vn,vd⟩,un,tg,wa⟩ m z.val ((lq.out z).con.below (lq.out z).below) (lq.out z).state HK.out HMJ.out (λc hc=>by rw[show(ak.mk day aj used M).marks=M from rfl,abw.out];exact qB.out _ (cK HK.out) c hc);rw[show j6 (ak.mk day aj used M).marks ⟨ki,ro,ac,ne,start,af,gr,bu,fi,pa,re,⟨vn,vd⟩,un,tg,wa⟩ m=R from YC.out]at h;exact h
     have HRC:=ah hrd;clear hrd;have HF:Hid (iK C (fG C aj ms j) j=R):=by show _=_;rw[HM.out];unfold iK;simp only[HK.out,HMJ.out];exact YC.out
     have Av:∀z:Bl W0,Hid (wr.heap.size<z.val.heap.size):=λz=>by
      have h1:=z.prop.size;have h2:W0.heap.size=wr.heap.size+1:=by rw[HW0.out];simp
      show _<_;omega
     have Y9:∀z:Bl W0,Hid (aH (gL g gh gu gm) wr z.val):=λz=>(aH.of_below (ay HB0.out z.prop)).mono (λi hi hk=>by omega);have hgm:gL g gh gu gm gm:=.inr (.inr (.inr rfl));cases R with
     |false=>
      refine aI (by kernel_rfl) (by kernel_rfl) ?_;(repeat(go_big_quiet_step (((go_at_call 104;exact Calls.bY (HRC.out _))))));refine aS ?_;rintro _ ⟨zq,rfl⟩;go_wp2
      go_roundg (C.clauses.length - (j+1))
      case measure=>rw[Et.out];omega
      case rel=>exact⟨j+1,rfl,by omega,by go_num,by rw[fP,HF.out,Bool.or_false],HS2.out.trans (Y9 zq).out (λ_ _ h=>h),by
       show aJ _ _ _ _ _ _ _ _ _ _;rw[fG,(uW C aj (fG C aj ms j) j).2 HF.out,HM.out];exact lq.out zq⟩
     |true=>
      refine aI (by kernel_rfl) (by kernel_rfl) ?_;(repeat(go_big_quiet_step (((go_at_call 104;exact Calls.bY (HRC.out _))))));refine aS ?_;rintro _ ⟨zq,rfl⟩;obtain⟨FL,qY,FM,hcell',hfz'⟩:=(lq.out zq).nM HMJ.out;simp only[Option.some.injEq,Addr.mk.injEq,true_and,and_true]at qY;subst qY;obtain⟨m0,m1,m2,m3,m4⟩:=m;obtain⟨x0,x1,x2,x3,x4⟩:=rw5 hcell' rfl;have f0:=hfz' (eu+j*5);have f1:=hfz' (eu+j*5+1);have f2:=hfz' (eu+j*5+2);have f3:=hfz' (eu+j*5+3);have f4:=hfz' (eu+j*5+4);clear hcell' hfz';have anl:=(Av zq).out;have j2:(j:Int)<(M.length:Int):=by rw[abw.out];exact j1
      cases q4:(ki==4)with
      |true=>
       have q4b:(ki !=4)=false:=by simpa using q4
       go_wp2
       go_region
       all_goals
        go_wp2
        go_roundg (C.clauses.length - (j+1))
        case measure=>rw[Et.out];omega
        case rel=>exact⟨j+1,rfl,by omega,by go_num,by rw[fP,HF.out,Bool.or_true],HS2.out.trans ((((((Y9 zq).out.setCell (.inl hgm) _).setCell (.inl hgm) _).setCell (.inl hgm) _).setCell (.inl hgm) _).setCell (.inl hgm) _).drew (λ_ _ h=>h),by
         show aJ _ _ _ _ _ _ _ _ _ _;have hbo:qX aj ⟨ki,ro,ac,ne,start,af,gr,bu,fi,pa,re,⟨vn,vd⟩,un,tg,wa⟩= -1:=by unfold qX;simp only[q4];rfl
         have h8:=(lq.out zq).KI HMJ.out 1 af 0 (-1) false;have hf2:iK C M j=true:=by rw[<-HM.out];exact HF.out
         simp only[fG,mO,HK.out,HM.out,hf2,cond_true,FJ,hbo];exact h8.keep ((aH.refl _ _).drew)⟩
      |false=>
       have q4b:(ki !=4)=true:=by simpa using q4
       obtain⟨r0,r1⟩:=HR.out (by simpa using q4);simp only at r0 r1;obtain⟨akR,aeG,ano,aeH⟩:=(lq.out zq).FK;simp only[Option.some.injEq,Addr.mk.injEq,true_and,and_true]at aeG;subst aeG;have y0:zq.val.cell? ⟨gh,hoff+ro.toNat,none⟩=some (.int .i64 (fu aj ro)):=by have h:=aeH ro.toNat (show ro.toNat<aj.length by omega);rwa [Int.toNat_of_nonneg r0]at h
       clear aeH;go_wp2
       go_quiet (fail)
       go_wp2
       go_region
       all_goals
        go_wp2
        go_roundg (C.clauses.length - (j+1))
        case measure=>rw[Et.out];omega
        case rel=>exact⟨j+1,rfl,by omega,by go_num,by rw[fP,HF.out,Bool.or_true],HS2.out.trans (((((((Y9 zq).out.drewN (nq+1)).setCell (.inl hgm) _).setCell (.inl hgm) _).setCell (.inl hgm) _).setCell (.inl hgm) _).setCell (.inl hgm) _) (λ_ _ h=>h),by
         show aJ _ _ _ _ _ _ _ _ _ _;have hbo:qX aj ⟨ki,ro,ac,ne,start,af,gr,bu,fi,pa,re,⟨vn,vd⟩,un,tg,wa⟩=fu aj ro:=by unfold qX;simp only[q4];rfl
         have h8:=((lq.out zq).keep ((aH.refl _ _).drewN (nq+1))).KI HMJ.out 1 af 0 (fu aj ro) false;have hf2:iK C M j=true:=by rw[<-HM.out];exact HF.out
         simp only[fG,mO,HK.out,HM.out,hf2,cond_true,FJ,hbo];exact h8⟩
    .obtain rfl:j=C.clauses.length:=by omega
     go_wp2;cases q:fP C aj ms C.clauses.length with
     |true=>
      have h1:=(ig C aj ms C.clauses.length).1 q
      go_roundg (idle (fG C aj ms C.clauses.length)+1)
      case measure=>rw[iB.out];simp only[cond_true];omega
      case rel=>exact⟨_,true,rfl,rfl,by rw[sG,HML.out],rT.out.trans HS2.out (λ_ _ h=>h),HW2,by show _=_;rw[HB.out,cond_true,cond_true,MQ q]⟩
     |false=>
      go_roundg (idle (fG C aj ms C.clauses.length))
      case measure=>rw[iB.out,(ig C aj ms C.clauses.length).2 q];simp only[cond_true];omega
      case rel=>exact⟨_,false,rfl,rfl,by rw[sG,HML.out],rT.out.trans HS2.out (λ_ _ h=>h),HW2,by show _=_;rw[HB.out,cond_true,cond_false,DI q,(ig C aj ms C.clauses.length).2 q]⟩
end
open Go.RowKit
def nP(hs:List Int)(a:iO):Int:=cond (a.role== -1) (-1) (fu hs a.role)
theorem MR(v:CV)(C:au)(tv:TV)(s:ak)(i:Nat)(a:iO)(w:World)(hC:bU w v C)(hS:aW w tv s)(ha:C.acts[i]?=some a)(hr:a.role≠ -1->0<=a.role/\a.role<s.aj.length):
 Calls Tryz.prog 113 #[v.val C,tv.val s,.int .i64 i] w (dx (.int .i64 (nP s.aj a)) w):=by
 have hil:i<C.acts.length:=(aZ.1 ha).1;obtain⟨b,off,kI,hb,hcell⟩:=hC.act ha;obtain⟨⟨hA,hcp⟩,⟨uA,Ad⟩,⟨aA,BX⟩,⟨kA,yt⟩,⟨oA,BZ⟩⟩:=v;obtain⟨⟨Tz,TB⟩,⟨TD,TF⟩,⟨smA,RO⟩⟩:=tv;simp only at kI;subst kI;obtain⟨ki,ro,gi,tg,un,⟨ln,ld⟩⟩:=a;have HS:=ah hS;clear hS;have HR:=ah hr;clear hr;clear hC;simp only[CV.val,CV.cells,TV.val,TV.cells,ak.cells];have i0:(0:Int)<=(i:Int):=by omega
 have i1:(i:Int)<(C.acts.length:Int):=by omega
 generalize hE:nP s.aj ⟨ki,ro,gi,tg,un,⟨ln,ld⟩⟩=E;have HE:=ah hE;clear hE;go_enter Tryz.func113,Tryz.ntmps113;go_upto_region 1 with(fail)
 generalize hW0:World.alloc _ _=W0;obtain⟨HB,hh0,g_⟩:=IQ hW0;clear hW0;have k0:=bW (i:=3) hh0 rfl;clear hh0;have k1:=bW (i:=1) g_ rfl;clear g_;change Code.wp _ _ _ _ (Bl.val (⟨W0,aD _ _⟩:Bl W0));generalize(⟨W0,aD _ _⟩:Bl W0)=s0;have c1:∀z:Bl W0,z.val.cell? ⟨b,off+i*7+1,none⟩=some (.int .i64 ro):=λz=>hcell z.val (ay HB.out z.prop) 1 (by omega);clear hcell;have HA:=ah ha;clear ha;cases q:(ro== -1)with
 |true=>
  obtain rfl:E= -1:=by rw[<-HE.out];unfold nP;simp only[q];rfl
  go_wp2;go_ret;exact⟨rfl,ay HB.out (Bl.prop _)⟩
 |false=>
  obtain rfl:E=fu s.aj ro:=by rw[<-HE.out];unfold nP;simp only[q];rfl
  obtain⟨r0,r1⟩:=HR.out (by simpa using q);simp only at r0 r1;obtain⟨hb2,hoff,hH,hlt,Y8⟩:=HS.out.aj.1.form (by omega) (by omega);simp only at hH;subst hH;have y0:∀z:Bl W0,z.val.cell? ⟨hb2,hoff+ro.toNat,none⟩=some (.int .i64 (fu s.aj ro)):=λz=>by
   rw[(aY (ay HB.out z.prop)).1 _ _ hlt,Y8 _ (by omega)];have hx:ro.toNat<s.aj.length:=by omega
   simp[aR,fu,hx]
  clear Y8;go_wp2
  go_quiet (fail)
  go_wp2;go_ret;exact⟨rfl,(ay HB.out (Bl.prop _)).trans (below_drewN _ _ |>.mono (ay HB.out (Bl.prop _)).size)⟩
end Go.Proofs.YtpmdedcnbockhaaGreatDoor
