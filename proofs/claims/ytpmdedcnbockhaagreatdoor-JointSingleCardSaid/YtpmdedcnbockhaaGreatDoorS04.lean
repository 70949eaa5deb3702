/- part -/
import Derived.Test.YtpmdedcnbockhaaGreatDoorS03
set_option maxRecDepth 100000
set_option maxHeartbeats 8000000
namespace Go.Proofs.YtpmdedcnbockhaaGreatDoor
section
open Go.RowKit Tryz
def iJ(w:World)(v:SV)(l:List ak):Prop:=
 ∃ts:List TV,ts.length=l.length/\At w 4 v.A l.length v.c ((l.zip ts).flatMap (λp=>TV.cells p.2 p.1))/\∀(i:Nat)(s:ak)(t:TV),l[i]?=some s->ts[i]?=some t->aQ w t s
theorem iJ.below{w w':World}{v:SV}{l:List ak}(h:iJ w v l)(hb:Below w.heap.size w w'):iJ w' v l:=by
 obtain⟨ts,h1,h2,h3⟩:=h;exact⟨ts,h1,h2.below (by omega) hb,λi s t hs ht=>(h3 i s t hs ht).below hb⟩
theorem iJ.form{w:World}{v:SV}{l:List ak}(h:iJ w v l)(hl:0<l.length):
 ∃b off,v.A=some ⟨b,off,none⟩/\b<w.heap.size/\∀(i:Nat)(s:ak),l[i]?=some s->∃t:TV,aQ w t s/\∀W,Below w.heap.size w W->∀j,j<4->W.cell? ⟨b,off+i*4+j,none⟩=(t.cells s)[j]?:=by
 obtain⟨ts,h1,h2,h3⟩:=h;obtain⟨b,off,hA,hb,hc⟩:=h2.1.form hl (by omega);refine⟨b,off,hA,hb,λi s hs=>?_⟩;have hi:i<l.length:=(bB.1 hs).1;have ht:ts[i]?=some (ts[i]'(by omega)):=aS _;refine⟨ts[i]'(by omega),h3 i s _ hs ht,λW hW j hj=>?_⟩;rw[hW.cell (p:=⟨b,off+i*4+j,none⟩) hb,iR,hc _ (by omega)];have hz:(l.zip ts)[i]?=some (s,ts[i]'(by omega)):=by rw[Kk];exact⟨hs,ht⟩
 exact bG (λp:ak×TV=>TV.cells p.2 p.1) 4 (λ_=>rfl) (l.zip ts) i j _ hz hj
end
section
open Go.RowKit Tryz
def au.Av(C:au)(s:ak)(pt ac:Int):Bool:=match C.acts[ac.toNat]? with|some a=>Ed s a pt|none=>false
def au.sees(C:au)(s:ak)(pt ac:Int):Bool:=((C.f_ s)&&(decide (0<=pt)&&(decide (pt<C.aF)&&(decide (0<=ac)&&(decide (ac<(C.acts.length:Int))&&(C.Av s pt ac))))))
theorem NC{C:au}{a:jy}(h:C.wG a=true):((a.kind==1)=true->(a.tgt== -1)=false->C.role a.tgt=true)/\((a.role== -1)=false->C.role a.role=true):=by
 unfold au.wG Ao at h;refine⟨λh1 h2=>?_,λh1=>?_⟩
 .rw[h1,h2]at h
  cases h3:C.role a.tgt with
  |true=>rfl
  |false=>
   rw[h3]at h;cases h4:C.role a.role<;>cases h5:(a.role== -1)<;>cases h6:(a.give==0)<;>rw[h4]at h<;>simp[h5,h6]at h
 .cases h4:C.role a.role with
  |true=>rfl
  |false=>
   rw[h4,h1]at h;cases h5:(a.kind==1)<;>simp[h5]at h
theorem UD{C:au}(h:C.valid=true){i:Nat}{a:jy}(ha:C.acts[i]?=some a):C.wG a=true:=by
 unfold au.valid at h;simp only[bS]at h;have h1:=h.2.1;unfold au.framed at h1;simp only[bS]at h1;cases e:C.wG a with
 |true=>rfl
 |false=>rw[Gg ha e]at h1;simp at h1
theorem JF{C:au}(h:C.valid=true):0<C.aj.length:=by
 unfold au.valid at h;simp only[bS]at h;have h1:=h.2.1;unfold au.framed Ux at h1;simp only[bS,jk,beq_eq_false_iff_ne,ne_eq]at h1;omega
theorem JG{C:au}{s:ak}(h:C.f_ s=true):C.valid=true:=by
 unfold au.f_ at h;simp only[bS]at h;exact h.1
theorem ND{C:au}{r:Int}(h:C.role r=true):0<=r/\r<C.aj.length:=by simpa [au.role]using h
theorem xD(v:CV)(C:au)(tv:TV)(s:ak)(pt ac:Int)(w:World)(hC:bO w v C)(hS:aQ w tv s):Calls prog 76 #[v.val C,tv.val s,.int .i64 pt,.int .i64 ac] w (dZ (.bool (C.sees s pt ac)) w):=by
 obtain⟨⟨hA,hcp⟩,⟨uA,Bn⟩,⟨aA,CU⟩,⟨kA,zk⟩,⟨oA,CW⟩⟩:=v;obtain⟨⟨Xg,Xh⟩,⟨Xi,Xj⟩,⟨smA,Wz⟩⟩:=tv;have HC:=ah hC;clear hC;have HS:=ah hS;clear hS;simp only[CV.val,CV.cells,TV.val,TV.cells,ak.cells];generalize hE:C.sees s pt ac=E;have HE:=ah hE;clear hE;go_enter func76,ntmps76;go_upto_region 1 with(fail)
 generalize hW0:World.alloc _ _=W0;obtain⟨HB,hh0,gG⟩:=F5 hW0;clear hW0;obtain⟨iC,iD,iI,iy,iP,jc,jA⟩:=CS hh0;clear hh0;obtain⟨jM,jY,qO,tV⟩:=Wx gG;clear gG;change Code.wp _ _ _ _ (Bl.val (⟨W0,aC _ _⟩:Bl W0));generalize(⟨W0,aC _ _⟩:Bl W0)=s0;have hsv:∀z:Bl W0,Calls prog 68 #[.agg #[.int .i64 C.aF,.slice hA C.aj.length hcp,.slice uA C.units.length Bn,.slice aA C.acts.length CU,.slice kA C.clauses.length zk,.int .i64 C.days,.slice oA C.off.length CW],.agg #[.int .i64 s.day,.slice Xg s.aj.length Xh,.slice Xi s.used.length Xj,.slice smA s.marks.length Wz]] z.val (dZ (.bool (C.f_ s)) z.val):=λz=>xC (⟨⟨hA,hcp⟩,⟨uA,Bn⟩,⟨aA,CU⟩,⟨kA,zk⟩,⟨oA,CW⟩⟩:CV) C (⟨⟨Xg,Xh⟩,⟨Xi,Xj⟩,⟨smA,Wz⟩⟩:TV) s z.val (HC.out.below (av HB.out z.prop)) (HS.out.below (av HB.out z.prop));have S9:=ah hsv;clear hsv;have hse:C.f_ s=true->0<=ac->ac<(C.acts.length:Int)->∀z:Bl W0,Calls prog 46 #[.agg #[.int .i64 C.aF,.slice hA C.aj.length hcp,.slice uA C.units.length Bn,.slice aA C.acts.length CU,.slice kA C.clauses.length zk,.int .i64 C.days,.slice oA C.off.length CW],.agg #[.int .i64 s.day,.slice Xg s.aj.length Xh,.slice Xi s.used.length Xj,.slice smA s.marks.length Wz],.int .i64 pt,.int .i64 ac] z.val (dZ (.bool (C.Av s pt ac)) z.val):=λho h0 h1 z=>by
  obtain⟨i,rfl⟩:=Int.eq_ofNat_of_zero_le h0;have hi:i<C.acts.length:=by omega
  obtain⟨a,ha⟩:∃a,C.acts[i]?=some a:=⟨C.acts[i],aS hi⟩;have hl:=(NA ho).1;have hv:=JG ho;have hr:=NC (UD hv ha);have h:=Xn (⟨⟨hA,hcp⟩,⟨uA,Bn⟩,⟨aA,CU⟩,⟨kA,zk⟩,⟨oA,CW⟩⟩:CV) C (⟨⟨Xg,Xh⟩,⟨Xi,Xj⟩,⟨smA,Wz⟩⟩:TV) s pt i a z.val (HC.out.below (av HB.out z.prop)) (HS.out.below (av HB.out z.prop)) ha (by rw[hl];exact JF hv) (λh1 h2=>by rw[hl];exact ND (hr.1 h1 h2)) (λh1=>by rw[hl];exact ND (hr.2 h1));have e:C.Av s pt (i:Int)=Ed s a pt:=by simp[au.Av,ha]
  rw[e];exact h
 have S_:=ah hse;clear hse
 focus
  cases q1:(C.f_ s)
  focus
   have hP:C.sees s pt ac=false:=by unfold au.sees;rw[q1];rfl
   obtain rfl:E=false:=by rw[<-HE.out,hP]
   clear hP
  rotate_left
  focus
   cases q2:decide (0<=pt)
   focus
    have hP:C.sees s pt ac=false:=by unfold au.sees;rw[q1,q2];rfl
    obtain rfl:E=false:=by rw[<-HE.out,hP]
    clear hP
   rotate_left
   focus
    cases q3:decide (pt<C.aF)
    focus
     have hP:C.sees s pt ac=false:=by unfold au.sees;rw[q1,q2,q3];rfl
     obtain rfl:E=false:=by rw[<-HE.out,hP]
     clear hP
    rotate_left
    focus
     cases q4:decide (0<=ac)
     focus
      have hP:C.sees s pt ac=false:=by unfold au.sees;rw[q1,q2,q3,q4];rfl
      obtain rfl:E=false:=by rw[<-HE.out,hP]
      clear hP
     rotate_left
     focus
      cases q5:decide (ac<(C.acts.length:Int))
      focus
       have hP:C.sees s pt ac=false:=by unfold au.sees;rw[q1,q2,q3,q4,q5];rfl
       obtain rfl:E=false:=by rw[<-HE.out,hP]
       clear hP
      rotate_left
      focus
       cases q6:(C.Av s pt ac)
       focus
        have hP:C.sees s pt ac=false:=by unfold au.sees;rw[q1,q2,q3,q4,q5,q6];rfl
        obtain rfl:E=false:=by rw[<-HE.out,hP]
        clear hP
       rotate_left
       focus
        have hP:C.sees s pt ac=true:=by unfold au.sees;rw[q1,q2,q3,q4,q5,q6];rfl
        obtain rfl:E=true:=by rw[<-HE.out,hP]
        clear hP
  all_goals
   go_wp2_with (first|(go_at_call 68;refine(S9.out _).mono ?_;rintro e z ⟨rfl,hz⟩;obtain⟨z,rfl⟩:=Bl.on hz;clear hz)|(go_at_call 46;refine(S_.out (by assumption) (of_decide_eq_true (by assumption)) (of_decide_eq_true (by assumption)) _).mono ?_;rintro e z ⟨rfl,hz⟩;obtain⟨z,rfl⟩:=Bl.on hz;clear hz));first
    |(go_ret;exact⟨rfl,av HB.out (Bl.prop _)⟩)
    |(refine aI ?_;(repeat(go_big_quiet_step ((first|(go_at_call 68;exact Calls.dw (S9.out _))|(go_at_call 46;exact Calls.dw (S_.out (by assumption) (of_decide_eq_true (by assumption)) (of_decide_eq_true (by assumption)) _))))));refine aY ?_;rintro _ ⟨zq,rfl⟩;go_wp2_with (first|(go_at_call 68;refine(S9.out _).mono ?_;rintro e z ⟨rfl,hz⟩;obtain⟨z,rfl⟩:=Bl.on hz;clear hz)|(go_at_call 46;refine(S_.out (by assumption) (of_decide_eq_true (by assumption)) (of_decide_eq_true (by assumption)) _).mono ?_;rintro e z ⟨rfl,hz⟩;obtain⟨z,rfl⟩:=Bl.on hz;clear hz));go_ret;exact⟨rfl,av HB.out (Bl.prop _)⟩)
end
section
open Go.RowKit Tryz
theorem fu.store{w:World}{e:TypeId}{size n c g off k:Nat}{xs:List Value}(h:fu w e size (.slice (some ⟨g,off,none⟩) n c) n xs (some g))(hk:k<n*size)(u:Value):
 fu (w.setCell ⟨g,off+k,none⟩ u) e size (.slice (some ⟨g,off,none⟩) n c) n (xs.set k u) (some g):=by
 refine⟨by rw[List.length_set];exact h.1,.inr ?_⟩;rcases h.2 with⟨h0,_,_⟩|⟨g',off',cap,cur,hb,hv,hg,h1,h2,h3,h4⟩
 .cases h0
 .injection hv with e1 _ e3
  injection e1 with e1
  injection e1 with e1 e4
  subst e1 e4 e3;refine⟨g,off,c,_,rfl,rfl,heap_setCell_same hg u,h1,h2,by simpa using h3,?_⟩;rw[Array.toList_setIfInBounds,<-h4];apply lX;intro j;rw[lT,j_,lT,List.getElem?_drop,List.getElem?_drop,j_];by_cases hj:j<n*size
  .rw[if_pos hj,if_pos hj]
   have hlen:(List.take (n*size) (List.drop off cur.toList)).length=n*size:=by rw[h4];exact h.1
   by_cases ejk:k=j
   .subst ejk
    have h5:off+k<cur.toList.length:=by
     rw[pz,List.length_drop]at hlen;omega
    rw[if_pos rfl,if_pos h5,if_pos rfl,if_pos (by rw[hlen];exact hj)]
   .rw[if_neg (by omega),if_neg ejk]
  .rw[if_neg hj,if_neg hj]
   split
   .rename_i ejk
    omega
   .rfl
theorem zn{l:List aD}{i j:Nat}{m m':aD}{u:Value}(hm:l[i]?=some m)(hj:j<5)(h:m.cells.set j u=m'.cells):(l.flatMap aD.cells).set (i*5+j) u=(l.set i m').flatMap aD.cells:=by
 induction l generalizing i with
 |nil=>simp at hm
 |cons a l ih=>
  cases i with
  |zero=>
   simp at hm;subst hm;rw[rQ,List.set_cons_zero,rQ,Nat.zero_mul,pF,List.set_append_left _ _ (by simpa [aD.cells]using hj),h]
  |succ i=>
   have h5:a.cells.length=5:=rfl;rw[rQ,List.set_cons_succ,rQ,List.set_append_right _ _ (by omega),show(i+1)*5+j - a.cells.length=i*5+j by rw[h5];omega,ih (by simpa using hm)]
structure aH(w0 w:World)(g:Nat)(v:CV)(C:au)(t:TV)(s:ak)(gh gu gm:Nat):Prop where
 head:w.heap[g]?=some (.cells #[.int .i64 C.aF,.slice v.h.A C.aj.length v.h.c,.slice v.u.A C.units.length v.u.c,.slice v.a.A C.acts.length v.a.c,.slice v.k.A C.clauses.length v.k.c,.int .i64 C.days,.slice v.o.A C.off.length v.o.c,.int .i64 s.day,.slice t.h.A s.aj.length t.h.c,.slice t.u.A s.used.length t.u.c,.slice t.m.A s.marks.length t.m.c] 129 (0,0))
 con:bO w0 v C
 below:Below w0.heap.size w0 w
 aj:fu w 3 1 (.slice t.h.A s.aj.length t.h.c) s.aj.length (aZ s.aj) (some gh)
 used:fu w 4 1 (.slice t.u.A s.used.length t.u.c) s.used.length (fM s.used) (some gu)
 marks:fu w 51 5 (.slice t.m.A s.marks.length t.m.c) s.marks.length (s.marks.flatMap aD.cells) (some gm)
 newG:w0.heap.size<=g
 newH:w0.heap.size<=gh
 Aw:w0.heap.size<=gu
 uL:w0.heap.size<=gm
theorem fu.Qb{w:World}{e:TypeId}{size n c g:Nat}{A:Option Addr}{xs:List Value}(h:fu w e size (.slice A n c) n xs (some g)):
 ∃off,A=some ⟨g,off,none⟩/\n<=c/\c<=maxLen/\g<w.heap.size/\(∀j,j<n*size->w.cell? ⟨g,off+j,none⟩=xs[j]?)/\(∀j,w.frozen? ⟨g,j,none⟩=false):=by
 rcases h.2 with⟨_,_,h0⟩|⟨g',off,cap,cur,hb,hv,hg,h1,h2,h3,h4⟩
 .cases h0
 .injection hb with hb
  subst hb;injection hv with e1 _ e3
  subst e1 e3;refine⟨off,rfl,h1,h2,aB hg,λj hj=>?_,λj=>by simp[World.frozen?,hg]⟩;rw[aK w g (off+j) cur e (0,0) hg,<-h4,lT,if_pos hj,List.getElem?_drop];simp
section
variable {w0 w:World} {g:Nat} {v:CV} {C:au} {t:TV} {s:ak} {gh gu gm:Nat} (h:aH w0 w g v C t s gh gu gm)
include h
theorem aH.cell(j:Nat):w.cell? ⟨g,j,none⟩=[Value.int .i64 C.aF,.slice v.h.A C.aj.length v.h.c,.slice v.u.A C.units.length v.u.c,.slice v.a.A C.acts.length v.a.c,.slice v.k.A C.clauses.length v.k.c,.int .i64 C.days,.slice v.o.A C.off.length v.o.c,.int .i64 s.day,.slice t.h.A s.aj.length t.h.c,.slice t.u.A s.used.length t.u.c,.slice t.m.A s.marks.length t.m.c][j]?:=by
 rw[aK _ _ j _ _ _ h.head];exact List.getElem?_toArray
theorem aH.Kr:g≠gm:=λe=>by
 subst e;rcases h.marks.2 with⟨_,_,h0⟩|⟨g',off,cap,cur,hb,hv,hg,_⟩
 .cases h0
 .injection hb with hb
  subst hb;have h2:=h.head.symm.trans hg;simp at h2
end
theorem fu.fC{w:World}{e:TypeId}{size n:Nat}{v:Value}{xs:List Value}{k:Nat}(h:fu w e size v n xs (some k)):∃cur,w.heap[k]?=some (.cells cur e (0,0)):=by
 rcases h.2 with⟨_,_,h0⟩|⟨g',off,cap,cur,hb,hv,hg,_⟩
 .cases h0
 .injection hb with hb
  subst hb;exact⟨cur,hg⟩
theorem fu.kC{w:World}{e e':TypeId}{size size' n n':Nat}{v v':Value}{xs xs':List Value}{k k':Nat}(h:fu w e size v n xs (some k))(h':fu w e' size' v' n' xs' (some k'))(hne:e≠e'):k≠k':=λek=>by
 subst ek;obtain⟨c1,h1⟩:=h.fC;obtain⟨c2,h2⟩:=h'.fC;have h3:=h1.symm.trans h2;simp at h3;exact hne h3.2
theorem aH.Gl{w0 w w':World}{g:Nat}{v:CV}{C:au}{t:TV}{s:ak}{gh gu gm:Nat}(h:aH w0 w g v C t s gh gu gm)(ms:List aD)(hl:ms.length=s.marks.length)
 (hrow:fu w' 51 5 (.slice t.m.A s.marks.length t.m.c) s.marks.length (ms.flatMap aD.cells) (some gm))(hu:aG (λk=>k=gm) w w'):
 aH w0 w' g v C t ⟨s.day,s.aj,s.used,ms⟩ gh gu gm:=
 ⟨by simpa [hl]using hu.keep h.head h.Kr,h.con,h.below.trans (hu.below h.below.size (λk hk=>by rw[hk];exact h.uL)),
  h.aj.keep hu (λk hk e=>by injection hk with hk;subst hk;exact h.aj.kC h.marks (by decide) e),
  h.used.keep hu (λk hk e=>by injection hk with hk;subst hk;exact h.used.kC h.marks (by decide) e),
  by simpa [hl]using hrow,h.newG,h.newH,h.Aw,h.uL⟩
def aD.ended(m:aD)(st:Int):aD:=⟨st,0,m.got,m.dK,false⟩
def xE(w0:World)(g:Nat)(v:CV)(C:au)(t:TV)(s':ak)(gh gu gm:Nat)(w:World)(e:Ending)(w':World):Prop:=
 e= .returned (.tuple #[])/\aH w0 w' g v C t s' gh gu gm/\w.heap.size<=w'.heap.size
def gX(g gh gu gm:Nat)(k:Nat):Prop:=k=g\/k=gh\/k=gu\/k=gm
def lI(w0:World)(g:Nat)(v:CV)(C:au)(t:TV)(s':ak)(gh gu gm:Nat)(w:World)(e:Ending)(w':World):Prop:=
 e= .returned (.tuple #[])/\aH w0 w' g v C t s' gh gu gm/\aG (gX g gh gu gm) w w'
theorem BG{w0 w:World}{g:Nat}{v:CV}{C:au}{t:TV}{s:ak}{gh gu gm:Nat}(h:aH w0 w g v C t s gh gu gm)(i:Nat)(m:aD)(hm:s.marks[i]?=some m)(st:Int):
 Calls prog 144 #[.pointer (some ⟨g,0,none⟩),.int .i64 i,.int .i64 st] w (lI w0 g v C t ⟨s.day,s.aj,s.used,s.marks.set i (m.ended st)⟩ gh gu gm w):=by
 have him:i<s.marks.length:=(bB.1 hm).1;obtain⟨off,hA,hc1,hc2,hgl,hcell,hfz⟩:=h.marks.Qb;obtain⟨th,tu,⟨fF,bY⟩⟩:=t;simp only at hA hc1 hc2;subst hA;unfold maxLen at hc2;have k10:w.cell? ⟨g,10,none⟩=some (.slice (some ⟨gm,off,none⟩) s.marks.length bY):=h.cell 10;have hne:=h.Kr;obtain⟨ms,ml,mg,mb,mp⟩:=m;have hat:∀j,j<5->w.cell? ⟨gm,off+i*5+j,none⟩=(aD.cells ⟨ms,ml,mg,mb,mp⟩)[j]?:=λj hj=>by
  rw[iR,hcell _ (by omega)];exact bG aD.cells 5 (λ_=>rfl) s.marks i j _ hm hj
 have m0:w.cell? ⟨gm,off+i*5,none⟩=some (.int .i64 ms):=hat 0 (by omega);have m1:w.cell? ⟨gm,off+i*5+1,none⟩=some (.int .i64 ml):=hat 1 (by omega);have m4:w.cell? ⟨gm,off+i*5+4,none⟩=some (.bool mp):=hat 4 (by omega);have f0:=hfz (off+i*5);have f1:=hfz (off+i*5+1);have f4:=hfz (off+i*5+4);clear hat hcell hfz;have H:=ah h;clear h;have HM:=ah hm;clear hm;have i0:(0:Int)<=(i:Int):=by omega
 have i1:(i:Int)<(s.marks.length:Int):=by omega
 have hk0:∀(a:Value),(w.setCell ⟨gm,off+i*5,none⟩ a).cell? ⟨g,10,none⟩=some (.slice (some ⟨gm,off,none⟩) s.marks.length bY):=λa=>by
  rw[World.cell?_setCell_other _ _ _ _ (λe=>hne (by first|exact congrArg Addr.block e|exact(congrArg Addr.block e).symm))];exact k10
 go_enter func144,ntmps144;go_wp2
 go_region
 all_goals
  go_wp2
  go_end0
  have hr1:=H.out.marks.store (k:=i*5) (by omega) (.int .i64 st);have hr2:fu ((w.setCell ⟨gm,off+i*5,none⟩ (.int .i64 st)).setCell ⟨gm,off+i*5+1,none⟩ (.int .i64 0)) _ _ _ _ _ _:=hr1.store (k:=i*5+1) (by omega) (.int .i64 0);have hr3:fu (((w.setCell ⟨gm,off+i*5,none⟩ (.int .i64 st)).setCell ⟨gm,off+i*5+1,none⟩ (.int .i64 0)).setCell ⟨gm,off+i*5+4,none⟩ (.bool false)) _ _ _ _ _ _:=hr2.store (k:=i*5+4) (by omega) (.bool false);have e1:=zn (j:=0) (m':=⟨st,ml,mg,mb,mp⟩) (u:=.int .i64 st) HM.out (by omega) rfl;have e2:=zn (l:=s.marks.set i ⟨st,ml,mg,mb,mp⟩) (j:=1) (m:=⟨st,ml,mg,mb,mp⟩) (m':=⟨st,0,mg,mb,mp⟩) (u:=.int .i64 0) (by rw[List.getElem?_set_self him]) (by omega) rfl;have e3:=zn (l:=s.marks.set i ⟨st,0,mg,mb,mp⟩) (j:=4) (m:=⟨st,0,mg,mb,mp⟩) (m':=⟨st,0,mg,mb,false⟩) (u:=.bool false) (by rw[List.getElem?_set_self him]) (by omega) rfl;rw[List.set_set]at e2 e3;rw[kP]at e1;rw[e1,e2,e3]at hr3;have hu:aG (λk=>k=gm) w (((w.setCell ⟨gm,off+i*5,none⟩ (.int .i64 st)).setCell ⟨gm,off+i*5+1,none⟩ (.int .i64 0)).setCell ⟨gm,off+i*5+4,none⟩ (.bool false)).drew:=((((aG.refl (λk=>k=gm) w).setCell (.inl rfl) _).setCell (.inl rfl) _).setCell (.inl rfl) _).drew;refine⟨rfl,H.out.Gl _ (by simp) ?_ hu,hu.mono (λ_ _ h=>.inr (.inr (.inr h)))⟩;exact hr3.keep (S:=λ_=>False) ((aG.refl _ _).drew) (λ_ _ h=>h)
end
section
open Go.RowKit Tryz
theorem aH.keep{w0 w w':World}{g:Nat}{v:CV}{C:au}{t:TV}{s:ak}{gh gu gm:Nat}(h:aH w0 w g v C t s gh gu gm)(hu:aG (λ_=>False) w w'):aH w0 w' g v C t s gh gu gm:=
 ⟨hu.keep h.head (λh=>h),h.con,h.below.trans (hu.below h.below.size (λ_ hk=>hk.elim)),h.aj.keep hu (λ_ _ h=>h),h.used.keep hu (λ_ _ h=>h),h.marks.keep hu (λ_ _ h=>h),h.newG,h.newH,h.Aw,h.uL⟩
theorem aH.gL{w0 w:World}{g:Nat}{v:CV}{C:au}{th tu:SV}{off bY:Nat}{s:ak}{gh gu gm:Nat}(h:aH w0 w g v C ⟨th,tu,⟨some ⟨gm,off,none⟩,bY⟩⟩ s gh gu gm){i j:Nat}{m m':aD}{u:Value}(hm:s.marks[i]?=some m)(hj:j<5)(hc:m.cells.set j u=m'.cells):
 aH w0 (w.setCell ⟨gm,off+i*5+j,none⟩ u) g v C ⟨th,tu,⟨some ⟨gm,off,none⟩,bY⟩⟩ ⟨s.day,s.aj,s.used,s.marks.set i m'⟩ gh gu gm:=by
 have him:i<s.marks.length:=(bB.1 hm).1;have hr:=h.marks.store (k:=i*5+j) (by omega) u;rw[zn hm hj hc]at hr;rw[show off+i*5+j=off+(i*5+j) by omega];exact h.Gl _ (by simp) hr ((aG.refl (λk=>k=gm) w).setCell (.inl rfl) _)
theorem aH.oD{w0 w:World}{g:Nat}{v:CV}{C:au}{t:TV}{s:ak}{gh gu gm:Nat}(h:aH w0 w g v C t s gh gu gm){i:Nat}{m:aD}(hm:s.marks[i]?=some m):
 ∃off,t.m.A=some ⟨gm,off,none⟩/\gm<w.heap.size/\(∀j,j<5->w.cell? ⟨gm,off+i*5+j,none⟩=m.cells[j]?)/\(∀j,w.frozen? ⟨gm,j,none⟩=false):=by
 have him:i<s.marks.length:=(bB.1 hm).1;obtain⟨off,hA,hc1,hc2,hgl,hcell,hfz⟩:=h.marks.Qb;refine⟨off,hA,hgl,λj hj=>?_,hfz⟩;rw[iR,hcell _ (by omega)];exact bG aD.cells 5 (λ_=>rfl) s.marks i j _ hm hj
section
variable {w0 w:World} {g:Nat} {v:CV} {C:au} {t:TV} {s:ak} {gh gu gm:Nat}
theorem uM(h:aH w0 w g v C t s gh gu gm)(i:Nat)(m:aD)(hm:s.marks[i]?=some m):
 Calls prog 107 #[.pointer (some ⟨g,0,none⟩),.int .i64 i] w (lI w0 g v C t ⟨s.day,s.aj,s.used,s.marks.set i (m.ended 3)⟩ gh gu gm w):=by
 have hc:=BG h i m hm 3;have HC:=ah hc;clear hc h hm;go_enter func107,ntmps107;go_wp2_with fail;refine HC.out.mono ?_;rintro e z ⟨rfl,hz,hs⟩;go_wp2
 go_end0
 exact⟨rfl,hz,hs⟩
theorem zo(h:aH w0 w g v C t s gh gu gm)(i:Nat)(m:aD)(hm:s.marks[i]?=some m):
 Calls prog 108 #[.pointer (some ⟨g,0,none⟩),.int .i64 i] w (lI w0 g v C t ⟨s.day,s.aj,s.used,s.marks.set i (m.ended 5)⟩ gh gu gm w):=by
 have hc:=BG h i m hm 5;have HC:=ah hc;clear hc h hm;go_enter func108,ntmps108;go_wp2_with fail;refine HC.out.mono ?_;rintro e z ⟨rfl,hz,hs⟩;go_wp2
 go_end0
 exact⟨rfl,hz,hs⟩
theorem Xo{α:Type}{l:List α}{i:Nat}{x:α}(h:l[i]?=some x):l.set i x=l:=by
 apply lX;intro j;rw[j_];split
 .rename_i e
  subst e;have hi:i<l.length:=(bB.1 h).1;rw[if_pos hi,h]
 .rfl
def aD.violated(m:aD):aD:=cond m.paused m (m.ended 4)
theorem Ee(h:aH w0 w g v C t s gh gu gm)(i:Nat)(m:aD)(hm:s.marks[i]?=some m):
 Calls prog 112 #[.pointer (some ⟨g,0,none⟩),.int .i64 i] w (lI w0 g v C t ⟨s.day,s.aj,s.used,s.marks.set i m.violated⟩ gh gu gm w):=by
 have him:i<s.marks.length:=(bB.1 hm).1;obtain⟨off,hA,hgl,hcell,_⟩:=h.oD hm;obtain⟨th,tu,⟨fF,bY⟩⟩:=t;simp only at hA;subst hA;have k10:w.cell? ⟨g,10,none⟩=some (.slice (some ⟨gm,off,none⟩) s.marks.length bY):=h.cell 10;have m4:w.cell? ⟨gm,off+i*5+4,none⟩=some (.bool m.paused):=hcell 4 (by omega);clear hcell;have hc:=BG h i m hm 4;have HC:=ah hc;clear hc;have i0:(0:Int)<=(i:Int):=by omega
 have i1:(i:Int)<(s.marks.length:Int):=by omega
 obtain⟨ms,ml,mg,mb,mp⟩:=m;have H:=ah h;clear h;have HM:=ah hm;clear hm;cases mp with
 |true=>
  go_enter func112,ntmps112;go_wp2
  go_end0
  refine⟨rfl,?_,aG.refl _ _⟩;have e:s.marks.set i (aD.violated ⟨ms,ml,mg,mb,true⟩)=s.marks:=Xo HM.out;rw[e];exact H.out
 |false=>
  go_enter func112,ntmps112;go_wp2_with fail;refine HC.out.mono ?_;rintro e z ⟨rfl,hz,hs⟩;go_wp2
  go_end0
  exact⟨rfl,hz,hs⟩
def aD.performed(m:aD)(need:Int):aD:=cond (m.got+1==need) (aD.ended ⟨m.status,m.left,m.got+1,m.dK,m.paused⟩ 3) ⟨m.status,m.left,m.got+1,m.dK,m.paused⟩
theorem Ef(h:aH w0 w g v C t s gh gu gm)(i:Nat)(m:aD)(hm:s.marks[i]?=some m)(k:aP)(hk:C.clauses[i]?=some k)(hg0:0<=m.got)(hg1:m.got<=1000000):
 Calls prog 111 #[.pointer (some ⟨g,0,none⟩),.int .i64 i] w (lI w0 g v C t ⟨s.day,s.aj,s.used,s.marks.set i (m.performed k.need)⟩ gh gu gm w):=by
 have him:i<s.marks.length:=(bB.1 hm).1;have hik:i<C.clauses.length:=(bB.1 hk).1;obtain⟨off,hA,hgl,hcell,hfz⟩:=h.oD hm;obtain⟨b,kK,st,hK,hbl,hkc,_⟩:=h.con.clause hk;obtain⟨th,tu,⟨fF,bY⟩⟩:=t;obtain⟨vh,vu,va,⟨kA,zk⟩,vo⟩:=v;simp only at hA hK;subst hA hK;have k10:w.cell? ⟨g,10,none⟩=some (.slice (some ⟨gm,off,none⟩) s.marks.length bY):=h.cell 10;have m2:w.cell? ⟨gm,off+i*5+2,none⟩=some (.int .i64 m.got):=hcell 2 (by omega);have f2:=hfz (off+i*5+2);clear hcell hfz;obtain⟨ms,ml,mg,mb,mp⟩:=m;simp only at hg0 hg1 m2;have h1:aH w0 (w.setCell ⟨gm,off+i*5+2,none⟩ (.int .i64 (mg+1))) g ⟨vh,vu,va,⟨some ⟨b,kK,none⟩,zk⟩,vo⟩ C ⟨th,tu,⟨some ⟨gm,off,none⟩,bY⟩⟩ ⟨s.day,s.aj,s.used,s.marks.set i ⟨ms,ml,mg+1,mb,mp⟩⟩ gh gu gm:=h.gL (m':=⟨ms,ml,mg+1,mb,mp⟩) hm (by omega) rfl;generalize hn:k.need=nd;have HN:=ah hn;clear hn;have i0:(0:Int)<=(i:Int):=by omega
 have i1:(i:Int)<(s.marks.length:Int):=by omega
 have i2:(i:Int)<(C.clauses.length:Int):=by omega
 have H:=ah h;clear h;have HM:=ah hm;clear hm;have HK:=ah hk;clear hk;go_enter func111,ntmps111;go_upto_region 1 with(fail)
 obtain⟨W1,HW1⟩:∃W1,Hid (W1=w.setCell ⟨gm,off+i*5+2,none⟩ (.int .i64 (mg+1))):=⟨_,rfl⟩;rw[<-HW1.out]at h1⊢;have ajy:W1.cell? ⟨g,10,none⟩=some (.slice (some ⟨gm,off,none⟩) s.marks.length bY):=by have h:=h1.cell 10;simpa using h
 have k4':W1.cell? ⟨g,4,none⟩=some (.slice (some ⟨b,kK,none⟩) C.clauses.length zk):=h1.cell 4;obtain⟨off',hA',_,hcell',_⟩:=h1.oD (i:=i) (m:=⟨ms,ml,mg+1,mb,mp⟩) (by simp[him]);simp only[Option.some.injEq,Addr.mk.injEq,true_and,and_true]at hA';subst hA';have m2':W1.cell? ⟨gm,off+i*5+2,none⟩=some (.int .i64 (mg+1)):=hcell' 2 (by omega);have c3:W1.cell? ⟨b,kK+i*16+3,none⟩=some (.int .i64 nd):=by rw[<-HN.out];exact hkc W1 h1.below 3 (by omega)
 clear hcell' hkc k10 m2;have hend:∀n:Nat,Calls prog 144 #[.pointer (some ⟨g,0,none⟩),.int .i64 i,.int .i64 3] (W1.drewN n) (lI w0 g ⟨vh,vu,va,⟨some ⟨b,kK,none⟩,zk⟩,vo⟩ C ⟨th,tu,⟨some ⟨gm,off,none⟩,bY⟩⟩ ⟨s.day,s.aj,s.used,(s.marks.set i ⟨ms,ml,mg+1,mb,mp⟩).set i (aD.ended ⟨ms,ml,mg+1,mb,mp⟩ 3)⟩ gh gu gm (W1.drewN n)):=λn=>
  BG (h1.keep ((aG.refl _ _).drewN n)) i ⟨ms,ml,mg+1,mb,mp⟩ (by simp[him]) 3
 simp only[List.set_set]at hend;have acM:=ah hend;clear hend;have H1:=ah h1;clear h1;have zN:Hid (aG (gX g gh gu gm) w W1):=by show aG _ _ _;rw[HW1.out];exact(aG.refl _ _).setCell (.inl (.inr (.inr (.inr rfl)))) _
 cases q:(mg+1==nd)with
 |true=>
  go_quiet (fail)
  go_wp2_with fail;refine(acM.out _).mono ?_;rintro e z ⟨rfl,hz,hs⟩;go_wp2
  go_end0
  refine⟨rfl,?_,(zN.out.drewN _).trans hs (λ_ _ h=>h)⟩;rw[aD.performed,q];exact hz
 |false=>
  go_quiet (fail)
  go_wp2
  go_end0
  refine⟨rfl,?_,zN.out.drewN _⟩;rw[aD.performed,q];exact H1.out.keep ((aG.refl _ _).drewN _)
end
end
section
open Go.RowKit Tryz
def aD.expired(m:aD)(lY:Int):aD:=cond ((m.status==1)&&decide (0<lY)) ⟨2,lY,m.got,m.dK,m.paused⟩ (m.ended 4)
section
variable {w0 w:World} {g:Nat} {v:CV} {C:au} {t:TV} {s:ak} {gh gu gm:Nat}
theorem Gm(h:aH w0 w g v C t s gh gu gm)(i:Nat)(m:aD)(hm:s.marks[i]?=some m)(k:aP)(hk:C.clauses[i]?=some k):
 Calls prog 106 #[.pointer (some ⟨g,0,none⟩),.int .i64 i] w (lI w0 g v C t ⟨s.day,s.aj,s.used,s.marks.set i (m.expired k.lY)⟩ gh gu gm w):=by
 have him:i<s.marks.length:=(bB.1 hm).1;have hik:i<C.clauses.length:=(bB.1 hk).1;obtain⟨off,hA,hgl,hcell,hfz⟩:=h.oD hm;obtain⟨b,kK,st,hK,hbl,hkc,_⟩:=h.con.clause hk;obtain⟨th,tu,⟨fF,bY⟩⟩:=t;obtain⟨vh,vu,va,⟨kA,zk⟩,vo⟩:=v;simp only at hA hK;subst hA hK;have k10:w.cell? ⟨g,10,none⟩=some (.slice (some ⟨gm,off,none⟩) s.marks.length bY):=h.cell 10;have k4:w.cell? ⟨g,4,none⟩=some (.slice (some ⟨b,kK,none⟩) C.clauses.length zk):=h.cell 4;obtain⟨ms,ml,mg,mb,mp⟩:=m;have m0:w.cell? ⟨gm,off+i*5,none⟩=some (.int .i64 ms):=hcell 0 (by omega);have m1:w.cell? ⟨gm,off+i*5+1,none⟩=some (.int .i64 ml):=hcell 1 (by omega);have f0:=hfz (off+i*5);have f1:=hfz (off+i*5+1);have c6:w.cell? ⟨b,kK+i*16+6,none⟩=some (.int .i64 k.lY):=hkc w h.below 6 (by omega);clear hcell hfz hkc;generalize hn:k.lY=gr at*;have HN:=ah hn;clear hn;have hgm:=h.Kr;have Eh:b≠gm:=λe=>by have h1:=h.uL;omega
 have hc:=BG h i _ hm 4;have HC:=ah hc;clear hc;have i0:(0:Int)<=(i:Int):=by omega
 have i1:(i:Int)<(s.marks.length:Int):=by omega
 have i2:(i:Int)<(C.clauses.length:Int):=by omega
 have H:=ah h;clear h;have HM:=ah hm;clear hm;have HK:=ah hk;clear hk;cases q1:(ms==1)with
 |false=>
  go_enter func106,ntmps106;go_wp2_with fail;refine HC.out.mono ?_;rintro e z ⟨rfl,hz,hs⟩;go_wp2
  go_end0
  refine⟨rfl,?_,hs⟩;rw[aD.expired];simp only[q1,Bool.false_and];exact hz
 |true=>
  cases q2:decide (0<gr)with
  |false=>
   go_enter func106,ntmps106;go_wp2_with fail;refine HC.out.mono ?_;rintro e z ⟨rfl,hz,hs⟩;go_wp2
   go_end0
   refine⟨rfl,?_,hs⟩;rw[aD.expired];simp only[q1,q2,Bool.and_false];exact hz
  |true=>
   go_enter func106,ntmps106;go_wp2
   go_region
   all_goals
    go_wp2
    go_end0
    have h1:=H.out.gL (j:=0) (m':=⟨2,ml,mg,mb,mp⟩) (u:=.int .i64 2) HM.out (by omega) rfl;have h2:=h1.gL (i:=i) (j:=1) (m:=⟨2,ml,mg,mb,mp⟩) (m':=⟨2,gr,mg,mb,mp⟩) (u:=.int .i64 gr) (by simp[him]) (by omega) rfl;simp only[List.set_set,kP]at h2;refine⟨rfl,?_,(((aG.refl _ _).setCell (.inl (.inr (.inr (.inr rfl)))) _).setCell (.inl (.inr (.inr (.inr rfl)))) _).drew⟩;rw[aD.expired];simp only[q1,q2,Bool.and_self,cond_true];exact h2.keep ((aG.refl _ _).drew)
end
def aD.runs(m:aD):Bool:=(m.status==1)||(m.status==2)
theorem NG(m:aD)(w:World):Calls prog 147 #[.agg #[.int .i64 m.status,.int .i64 m.left,.int .i64 m.got,.int .i64 m.dK,.bool m.paused]] w (dZ (.bool m.runs) w):=by
 generalize hE:m.runs=E;cases q1:(m.status==1)with
 |true=>
  obtain rfl:E=true:=by rw[<-hE];unfold aD.runs;rw[q1];rfl
  go_enter func147,ntmps147;go_wp2;go_ret;exact⟨rfl,aJ (aC _ _) _⟩
 |false=>
  obtain rfl:E=(m.status==2):=by rw[<-hE];unfold aD.runs;rw[q1];rfl
  clear hE;go_enter func147,ntmps147;go_wp2;go_ret;exact⟨rfl,aJ (aC _ _) _⟩
end
section
def rU(hs:List Int)(k:aP):Int:=cond (k.kind==4) (-1) (fP hs k.role)
def Gn(hs:List Int)(k:aP):aD:=⟨1,k.after,0,rU hs k,false⟩
def jG(C:au)(ms:List aD)(i:Nat):Bool:=match C.clauses[i]?,ms[i]? with|some k,some m=>lV ms k m|_,_=>false
def nu(C:au)(hs:List Int)(ms:List aD)(i:Nat):List aD:=match C.clauses[i]? with|some k=>cond (jG C ms i) (ms.set i (Gn hs k)) ms|none=>ms
def gy(C:au)(hs:List Int)(ms:List aD):Nat->List aD
 |0=>ms
 |j+1=>nu C hs (gy C hs ms j) j
def iA(C:au)(hs:List Int)(ms:List aD):Nat->Bool
 |0=>false
 |j+1=>iA C hs ms j||jG C (gy C hs ms j) j
def idle(ms:List aD):Nat:=(ms.filter (λm=>m.status==0)).length
theorem Ei(C:au)(hs:List Int)(ms:List aD)(i:Nat):(nu C hs ms i).length=ms.length:=by
 unfold nu;cases C.clauses[i]? with
 |none=>rfl
 |some k=>cases jG C ms i<;>simp
theorem sQ(C:au)(hs:List Int)(ms:List aD):∀j,(gy C hs ms j).length=ms.length
 |0=>rfl
 |j+1=>by rw[gy,Ei,sQ C hs ms j]
theorem Xp{l:List aD}{i:Nat}{m m':aD}(hm:l[i]?=some m)(h0:(m.status==0)=true)(h1:(m'.status==0)=false):idle (l.set i m')+1=idle l:=by
 induction l generalizing i with
 |nil=>simp at hm
 |cons a l ih=>
  cases i with
  |zero=>
   simp at hm;subst hm;simp only[idle,List.set_cons_zero,List.filter_cons,h0,h1,if_true];simp
  |succ i=>
   have:=ih (i:=i) (by simpa using hm);simp only[idle,List.set_cons_succ,List.filter_cons]at this⊢;split
   .simp only[gV]
    omega
   .exact this
theorem vK(C:au)(hs:List Int)(ms:List aD)(i:Nat):(jG C ms i=true->idle (nu C hs ms i)+1=idle ms)/\(jG C ms i=false->nu C hs ms i=ms):=by
 refine⟨λh=>?_,λh=>?_⟩
 .have hf:=h
  unfold jG at hf;unfold nu;cases hk:C.clauses[i]? with
  |none=>simp[hk]at hf
  |some k=>
   cases hm:ms[i]? with
   |none=>simp[hk,hm]at hf
   |some m=>
    simp only[hk,hm]at hf;simp only[h,cond_true];refine Xp hm ?_ rfl;unfold lV at hf;simp only[bS]at hf;exact hf.1
 .unfold nu
  cases hk:C.clauses[i]? with
  |none=>rfl
  |some k=>simp only[h,cond_false]
theorem jo(C:au)(hs:List Int)(ms:List aD):∀j,(iA C hs ms j=true->idle (gy C hs ms j)<idle ms)/\(iA C hs ms j=false->gy C hs ms j=ms)
 |0=>⟨λh=>(by cases h),λ_=>rfl⟩
 |j+1=>by
  obtain⟨h1,h2⟩:=jo C hs ms j;obtain⟨h3,h4⟩:=vK C hs (gy C hs ms j) j;refine⟨λh=>?_,λh=>?_⟩
  .rw[iA,qH]at h
   rw[gy];cases hf:jG C (gy C hs ms j) j with
   |true=>
    have h5:=h3 hf;cases hg:iA C hs ms j with
    |true=>have:=h1 hg;omega
    |false=>rw[h2 hg]at h5⊢;omega
   |false=>
    rw[h4 hf];rcases h with h|h
    .exact h1 h
    .rw[hf]at h;cases h
  .rw[iA,oh]at h
   rw[gy,h4 h.2,h2 h.1]
def kg(C:au)(hs:List Int):Nat->List aD->List aD
 |0,ms=>ms
 |f+1,ms=>cond (iA C hs ms C.clauses.length) (kg C hs f (gy C hs ms C.clauses.length)) ms
theorem Ac(C:au)(hs:List Int):∀(f f':Nat)(ms:List aD),idle ms<f->idle ms<f'->kg C hs f ms=kg C hs f' ms
 |0,_,_,h,_=>by omega
 |_,0,_,_,h=>by omega
 |f+1,f'+1,ms,h,h'=>by
  rw[kg,kg];cases hf:iA C hs ms C.clauses.length with
  |false=>rfl
  |true=>
   have:=(jo C hs ms C.clauses.length).1 hf;simp only[cond_true];exact Ac C hs f f' _ (by omega) (by omega)
def au.begin(C:au)(hs:List Int)(ms:List aD):List aD:=kg C hs (idle ms+1) ms
theorem NH{C:au}{hs:List Int}{ms:List aD}(h:iA C hs ms C.clauses.length=true):C.begin hs ms=C.begin hs (gy C hs ms C.clauses.length):=by
 have h1:=(jo C hs ms C.clauses.length).1 h;unfold au.begin;rw[kg,h,cond_true];exact Ac C hs _ _ _ h1 (by omega)
theorem NI{C:au}{hs:List Int}{ms:List aD}(h:iA C hs ms C.clauses.length=false):C.begin hs ms=ms:=by
 unfold au.begin;rw[kg,h,cond_false]
end
section
open Go.RowKit Tryz
theorem aH.on{w0 w w':World}{g:Nat}{v:CV}{C:au}{t:TV}{s:ak}{gh gu gm:Nat}(h:aH w0 w g v C t s gh gu gm)(hb:Below w.heap.size w w'):aH w0 w' g v C t s gh gu gm:=
 h.keep ((aG.of_below hb).mono (λi hi hk=>by omega))
theorem fu.C8{w:World}{e:TypeId}{size n c g:Nat}{A:Option Addr}{xs:List Value}(h:fu w e size (.slice A n c) n xs (some g))(h1:∀u∈xs,u.oneCell'=true):At w size A n c xs:=by
 obtain⟨A',cap,hv,hs⟩:=h.src h1;obtain⟨off,hA,hc1,hc2,_⟩:=h.Qb;injection hv with e1 _ e3
 subst e1 e3;exact⟨hs,⟨λh0=>(by rw[hA]at h0;cases h0),hc1,hc2⟩⟩
theorem aH.state{w0 w:World}{g:Nat}{v:CV}{C:au}{t:TV}{s:ak}{gh gu gm:Nat}(h:aH w0 w g v C t s gh gu gm):aQ w t s:=
 ⟨h.aj.C8 (λu hu=>by obtain⟨x,_,rfl⟩:=cZ.1 hu;rfl),h.used.C8 (λu hu=>by obtain⟨x,_,rfl⟩:=cZ.1 hu;rfl),
  h.marks.C8 (λu hu=>by
   obtain⟨x,_,hx⟩:=Br.1 hu;simp only[aD.cells,dx,iQ,or_false]at hx;rcases hx with rfl|rfl|rfl|rfl|rfl<;>rfl)⟩
theorem aH.Ls{w0 w:World}{g:Nat}{v:CV}{C:au}{th tu:SV}{off bY:Nat}{s:ak}{gh gu gm:Nat}(h:aH w0 w g v C ⟨th,tu,⟨some ⟨gm,off,none⟩,bY⟩⟩ s gh gu gm){i:Nat}{m:aD}(hm:s.marks[i]?=some m)(a b c d:Int)(e:Bool):
 aH w0 (((((w.setCell ⟨gm,off+i*5,none⟩ (.int .i64 a)).setCell ⟨gm,off+i*5+1,none⟩ (.int .i64 b)).setCell ⟨gm,off+i*5+2,none⟩ (.int .i64 c)).setCell ⟨gm,off+i*5+3,none⟩ (.int .i64 d)).setCell ⟨gm,off+i*5+4,none⟩ (.bool e)) g v C ⟨th,tu,⟨some ⟨gm,off,none⟩,bY⟩⟩ ⟨s.day,s.aj,s.used,s.marks.set i ⟨a,b,c,d,e⟩⟩ gh gu gm:=by
 have him:i<s.marks.length:=(bB.1 hm).1;obtain⟨m0,m1,m2,m3,m4⟩:=m;have h1:=h.gL (j:=0) (m':=⟨a,m1,m2,m3,m4⟩) (u:=.int .i64 a) hm (by omega) rfl;have h2:=h1.gL (i:=i) (j:=1) (m:=⟨a,m1,m2,m3,m4⟩) (m':=⟨a,b,m2,m3,m4⟩) (u:=.int .i64 b) (by simp[him]) (by omega) rfl;have h3:=h2.gL (i:=i) (j:=2) (m:=⟨a,b,m2,m3,m4⟩) (m':=⟨a,b,c,m3,m4⟩) (u:=.int .i64 c) (by simp[him]) (by omega) rfl;have h4:=h3.gL (i:=i) (j:=3) (m:=⟨a,b,c,m3,m4⟩) (m':=⟨a,b,c,d,m4⟩) (u:=.int .i64 d) (by simp[him]) (by omega) rfl;have h5:=h4.gL (i:=i) (j:=4) (m:=⟨a,b,c,d,m4⟩) (m':=⟨a,b,c,d,e⟩) (u:=.bool e) (by simp[him]) (by omega) rfl;simpa only[List.set_set,kP]using h5
theorem aH.Gp{w0 w:World}{g:Nat}{v:CV}{C:au}{t:TV}{s:ak}{gh gu gm:Nat}(h:aH w0 w g v C t s gh gu gm):
 ∃off,t.h.A=some ⟨gh,off,none⟩/\gh<w.heap.size/\(∀(i:Nat),i<s.aj.length->w.cell? ⟨gh,off+i,none⟩=some (.int .i64 (fP s.aj i))):=by
 obtain⟨off,hA,hc1,hc2,hgl,hcell,hfz⟩:=h.aj.Qb;refine⟨off,hA,hgl,λi hi=>?_⟩;rw[hcell _ (by omega)];simp[aZ,fP,hi]
end
section
open Go.RowKit Tryz
theorem zu{w0 w:World}{g:Nat}{v:CV}{C:au}{t:TV}{s:ak}{gh gu gm:Nat}(h:aH w0 w g v C t s gh gu gm)(hlen:s.marks.length=C.clauses.length)
 (hin:∀k∈C.clauses,∀c∈k.start,0<=c.clause/\c.clause<C.clauses.length)(hro:∀k∈C.clauses,k.kind≠4->0<=k.role/\k.role<s.aj.length):
 Calls prog 67 #[.pointer (some ⟨g,0,none⟩)] w (lI w0 g v C t ⟨s.day,s.aj,s.used,C.begin s.aj s.marks⟩ gh gu gm w):=by
 have HL:=ah hlen;clear hlen;have uE:=ah hin;clear hin;have rT:=ah hro;clear hro;obtain⟨day,aj,used,ms0⟩:=s;have H:=ah h;clear h;go_enter func67,ntmps67;go_wp2
 go_loopg [2] (idle ms0+1) (λgk v2 wr=>∃(ms:List aD)(again:Bool),gk=idle ms+(cond again 1 0)/\v2= .bool again/\ms.length=ms0.length/\Hid (aG (gX g gh gu gm) w wr)/\Hid (aH w0 wr g v C t ⟨day,aj,used,ms⟩ gh gu gm)/\Hid (C.begin aj ms0=cond again (C.begin aj ms) ms))
 case atStart=>exact⟨ms0,true,rfl,rfl,rfl,aG.refl _ _,H,rfl⟩
 case round=>
  obtain⟨ms,again,eO,rfl,hml,zN,HW,HB⟩:=hrel;have iw:=ah eO;clear eO;have HML:=ah hml;clear hml;cases again with
  |false=>
   go_wp2
   go_end0
   refine⟨rfl,?_,zN.out⟩;rw[HB.out];exact HW.out
  |true=>
   obtain⟨eP,Jp,hrest⟩:=HW.out.marks.Qb;obtain⟨hoff,hhA,acN⟩:=HW.out.Gp;clear hrest acN;obtain⟨⟨eu,dN⟩,⟨eH,dL⟩,⟨fF,bY⟩⟩:=t;obtain⟨⟨dV,dW⟩,⟨dX,dY⟩,⟨fB,dH⟩,⟨eZ,dM⟩,⟨dQ,dR⟩⟩:=v;simp only at Jp hhA;subst Jp hhA;have k4:=HW.out.cell 4;simp only at k4;have hcl:C.clauses.length<=9223372036854775807:=by
    obtain⟨ss,_,h2,_⟩:=HW.out.con.clauses;have h3:=h2.2.2.1;have h4:=h2.2.2.2;unfold maxLen at h4;omega
   go_wp2
   go_loopg [13,2] C.clauses.length (λgk2 v13 v2 wr2=>∃(j:Nat),gk2=C.clauses.length - j/\j<=C.clauses.length/\v13= .int .i64 j/\v2= .bool (iA C aj ms j)/\Hid (aG (gX g gh gu gm) wr wr2)/\Hid (aH w0 wr2 g ⟨⟨dV,dW⟩,⟨dX,dY⟩,⟨fB,dH⟩,⟨eZ,dM⟩,⟨dQ,dR⟩⟩ C ⟨⟨some ⟨gh,hoff,none⟩,dN⟩,⟨eH,dL⟩,⟨some ⟨gm,eP,none⟩,bY⟩⟩ ⟨day,aj,used,gy C aj ms j⟩ gh gu gm))
   case atStart=>exact⟨0,rfl,aU _,rfl,rfl,aG.refl _ _,HW⟩
   case round=>
    obtain⟨j,Nr,hj,rfl,rfl,HS2,HW2⟩:=hrel;have ES:=ah Nr;clear Nr;by_cases hlt:j<C.clauses.length
    .have Xq:(gy C aj ms j).length=C.clauses.length:=by rw[sQ,HML.out,HL.out]
     generalize hM:gy C aj ms j=M at HW2 Xq;have HM:=ah hM;clear hM;have acO:=ah Xq;clear Xq;obtain⟨m,hm⟩:∃m,M[j]?=some m:=⟨M[j]'(by rw[acO.out];exact hlt),aS _⟩;obtain⟨k,hk⟩:∃k,C.clauses[j]?=some k:=⟨C.clauses[j],aS hlt⟩;have hkm:k∈C.clauses:=cK hk;have HR:Hid (k.kind≠4->0<=k.role/\k.role<aj.length):=rT.out k hkm;obtain⟨b,kK,st,hK,hbl,hkc,_⟩:=HW2.out.con.clause hk;simp only at hK;subst hK;have mJ:=hkc _ HW2.out.below;obtain⟨ki,ro,ac,ne,start,af,gr,bu,fi,pa,re,⟨vn,vd⟩,un,tg,wa⟩:=k;obtain⟨stA,wQ⟩:=st;obtain⟨c0,c1,c2,c3,c4,c5,c6,c7,c8,c9,c10,c11,c12,c13,c14,c15⟩:=EP mJ rfl;clear mJ hkc;generalize hR:lV M ⟨ki,ro,ac,ne,start,af,gr,bu,fi,pa,re,⟨vn,vd⟩,un,tg,wa⟩ m=R;have ZG:=ah hR;clear hR;have HK:=ah hk;clear hk;have HMJ:=ah hm;clear hm;clear hkm;have j0:(0:Int)<=(j:Int):=by omega
     have j1:(j:Int)<(C.clauses.length:Int):=by omega
     go_upto_region 6 with(fail)
     generalize hW0:World.alloc _ _=W0;obtain⟨HB0,hh0⟩:=bx1 hW0;have HW0:=ah hW0.symm;clear hW0;change Code.wp _ _ _ _ (Bl.val (⟨W0,aC _ _⟩:Bl W0));generalize(⟨W0,aC _ _⟩:Bl W0)=s0;clear c0 c1 c2 c3 c4 c5 c6 c7 c8 c9 c10 c11 c12 c13 c14 c15 k4;have b0:∀z:Bl W0,z.val.cell? ⟨wr.heap.size,0,none⟩=some (.int .i64 ki):=λz=>z.cell ((aK W0 _ 0 _ _ _ hh0).trans rfl);have b1:∀z:Bl W0,z.val.cell? ⟨wr.heap.size,1,none⟩=some (.int .i64 ro):=λz=>z.cell ((aK W0 _ 1 _ _ _ hh0).trans rfl);have b5:∀z:Bl W0,z.val.cell? ⟨wr.heap.size,5,none⟩=some (.int .i64 af):=λz=>z.cell ((aK W0 _ 5 _ _ _ hh0).trans rfl);clear hh0;have kL:Hid (∀z:Bl W0,aH w0 z.val g ⟨⟨dV,dW⟩,⟨dX,dY⟩,⟨fB,dH⟩,⟨some ⟨b,kK,none⟩,dM⟩,⟨dQ,dR⟩⟩ C ⟨⟨some ⟨gh,hoff,none⟩,dN⟩,⟨eH,dL⟩,⟨some ⟨gm,eP,none⟩,bY⟩⟩ ⟨day,aj,used,M⟩ gh gu gm):=λz=>HW2.out.on (av HB0.out z.prop);have g0:∀z:Bl W0,z.val.cell? ⟨g,0,none⟩=some (.int .i64 C.aF):=λz=>(kL.out z).cell 0;have g1:∀z:Bl W0,z.val.cell? ⟨g,1,none⟩=some (.slice dV C.aj.length dW):=λz=>(kL.out z).cell 1;have g2:∀z:Bl W0,z.val.cell? ⟨g,2,none⟩=some (.slice dX C.units.length dY):=λz=>(kL.out z).cell 2;have g3:∀z:Bl W0,z.val.cell? ⟨g,3,none⟩=some (.slice fB C.acts.length dH):=λz=>(kL.out z).cell 3;have g4:∀z:Bl W0,z.val.cell? ⟨g,4,none⟩=some (.slice (some ⟨b,kK,none⟩) C.clauses.length dM):=λz=>(kL.out z).cell 4;have g5:∀z:Bl W0,z.val.cell? ⟨g,5,none⟩=some (.int .i64 C.days):=λz=>(kL.out z).cell 5;have g6:∀z:Bl W0,z.val.cell? ⟨g,6,none⟩=some (.slice dQ C.off.length dR):=λz=>(kL.out z).cell 6;have g7:∀z:Bl W0,z.val.cell? ⟨g,7,none⟩=some (.int .i64 day):=λz=>(kL.out z).cell 7;have g8:∀z:Bl W0,z.val.cell? ⟨g,8,none⟩=some (.slice (some ⟨gh,hoff,none⟩) aj.length dN):=λz=>(kL.out z).cell 8;have g9:∀z:Bl W0,z.val.cell? ⟨g,9,none⟩=some (.slice eH used.length dL):=λz=>(kL.out z).cell 9;have g10:∀z:Bl W0,z.val.cell? ⟨g,10,none⟩=some (.slice (some ⟨gm,eP,none⟩) M.length bY):=λz=>(kL.out z).cell 10;have hrd:∀z:Bl W0,Calls prog 104 #[.agg #[.int .i64 C.aF,.slice dV C.aj.length dW,.slice dX C.units.length dY,.slice fB C.acts.length dH,.slice (some ⟨b,kK,none⟩) C.clauses.length dM,.int .i64 C.days,.slice dQ C.off.length dR],.agg #[.int .i64 day,.slice (some ⟨gh,hoff,none⟩) aj.length dN,.slice eH used.length dL,.slice (some ⟨gm,eP,none⟩) M.length bY],.int .i64 j] z.val (dZ (.bool R) z.val):=λz=>by
      have h:=Kq (⟨⟨dV,dW⟩,⟨dX,dY⟩,⟨fB,dH⟩,⟨some ⟨b,kK,none⟩,dM⟩,⟨dQ,dR⟩⟩:CV) C (⟨⟨some ⟨gh,hoff,none⟩,dN⟩,⟨eH,dL⟩,⟨some ⟨gm,eP,none⟩,bY⟩⟩:TV) ⟨day,aj,used,M⟩ j ⟨ki,ro,ac,ne,start,af,gr,bu,fi,pa,re,⟨vn,vd⟩,un,tg,wa⟩ m z.val ((kL.out z).con.below (kL.out z).below) (kL.out z).state HK.out HMJ.out (λc hc=>by rw[show(ak.mk day aj used M).marks=M from rfl,acO.out];exact uE.out _ (cK HK.out) c hc);rw[show lV (ak.mk day aj used M).marks ⟨ki,ro,ac,ne,start,af,gr,bu,fi,pa,re,⟨vn,vd⟩,un,tg,wa⟩ m=R from ZG.out]at h;exact h
     have HRC:=ah hrd;clear hrd;have HF:Hid (jG C (gy C aj ms j) j=R):=by show _=_;rw[HM.out];unfold jG;simp only[HK.out,HMJ.out];exact ZG.out
     have FC:∀z:Bl W0,Hid (wr.heap.size<z.val.heap.size):=λz=>by
      have h1:=z.prop.size;have h2:W0.heap.size=wr.heap.size+1:=by rw[HW0.out];simp
      show _<_;omega
     have HUX:∀z:Bl W0,Hid (aG (gX g gh gu gm) wr z.val):=λz=>(aG.of_below (av HB0.out z.prop)).mono (λi hi hk=>by omega);have hgm:gX g gh gu gm gm:=.inr (.inr (.inr rfl));cases R with
     |false=>
      refine aI ?_;(repeat(go_big_quiet_step (((go_at_call 104;exact Calls.dw (HRC.out _))))));refine aY ?_;rintro _ ⟨zq,rfl⟩;go_wp2
      go_roundg (C.clauses.length - (j+1))
      case measure=>rw[ES.out];omega
      case rel=>exact⟨j+1,rfl,by omega,by go_num,by rw[iA,HF.out,Bool.or_false],HS2.out.trans (HUX zq).out (λ_ _ h=>h),by
       show aH _ _ _ _ _ _ _ _ _ _;rw[gy,(vK C aj (gy C aj ms j) j).2 HF.out,HM.out];exact kL.out zq⟩
     |true=>
      refine aI ?_;(repeat(go_big_quiet_step (((go_at_call 104;exact Calls.dw (HRC.out _))))));refine aY ?_;rintro _ ⟨zq,rfl⟩;obtain⟨Gq,rV,Gr,hcell',hfz'⟩:=(kL.out zq).oD HMJ.out;simp only[Option.some.injEq,Addr.mk.injEq,true_and,and_true]at rV;subst rV;obtain⟨m0,m1,m2,m3,m4⟩:=m;obtain⟨x0,x1,x2,x3,x4⟩:=rw5 hcell' rfl;have f0:=hfz' (eP+j*5);have f1:=hfz' (eP+j*5+1);have f2:=hfz' (eP+j*5+2);have f3:=hfz' (eP+j*5+3);have f4:=hfz' (eP+j*5+4);clear hcell' hfz';have aoQ:=(FC zq).out;have j2:(j:Int)<(M.length:Int):=by rw[acO.out];exact j1
      cases q4:(ki==4)with
      |true=>
       have q4b:(ki !=4)=false:=by simpa using q4
       go_wp2
       go_region
       all_goals
        go_wp2
        go_roundg (C.clauses.length - (j+1))
        case measure=>rw[ES.out];omega
        case rel=>exact⟨j+1,rfl,by omega,by go_num,by rw[iA,HF.out,Bool.or_true],HS2.out.trans ((((((HUX zq).out.setCell (.inl hgm) _).setCell (.inl hgm) _).setCell (.inl hgm) _).setCell (.inl hgm) _).setCell (.inl hgm) _).drew (λ_ _ h=>h),by
         show aH _ _ _ _ _ _ _ _ _ _;have hbo:rU aj ⟨ki,ro,ac,ne,start,af,gr,bu,fi,pa,re,⟨vn,vd⟩,un,tg,wa⟩= -1:=by unfold rU;simp only[q4];rfl
         have h8:=(kL.out zq).Ls HMJ.out 1 af 0 (-1) false;have hf2:jG C M j=true:=by rw[<-HM.out];exact HF.out
         simp only[gy,nu,HK.out,HM.out,hf2,cond_true,Gn,hbo];exact h8.keep ((aG.refl _ _).drew)⟩
      |false=>
       have q4b:(ki !=4)=true:=by simpa using q4
       obtain⟨r0,r1⟩:=HR.out (by simpa using q4);simp only at r0 r1;obtain⟨amu,afT,aoS,afU⟩:=(kL.out zq).Gp;simp only[Option.some.injEq,Addr.mk.injEq,true_and,and_true]at afT;subst afT;have y0:zq.val.cell? ⟨gh,hoff+ro.toNat,none⟩=some (.int .i64 (fP aj ro)):=by have h:=afU ro.toNat (show ro.toNat<aj.length by omega);rwa [Int.toNat_of_nonneg r0]at h
       clear afU;go_wp2
       go_quiet (fail)
       go_wp2
       go_region
       all_goals
        go_wp2
        go_roundg (C.clauses.length - (j+1))
        case measure=>rw[ES.out];omega
        case rel=>exact⟨j+1,rfl,by omega,by go_num,by rw[iA,HF.out,Bool.or_true],HS2.out.trans (((((((HUX zq).out.drewN (nq+1)).setCell (.inl hgm) _).setCell (.inl hgm) _).setCell (.inl hgm) _).setCell (.inl hgm) _).setCell (.inl hgm) _) (λ_ _ h=>h),by
         show aH _ _ _ _ _ _ _ _ _ _;have hbo:rU aj ⟨ki,ro,ac,ne,start,af,gr,bu,fi,pa,re,⟨vn,vd⟩,un,tg,wa⟩=fP aj ro:=by unfold rU;simp only[q4];rfl
         have h8:=((kL.out zq).keep ((aG.refl _ _).drewN (nq+1))).Ls HMJ.out 1 af 0 (fP aj ro) false;have hf2:jG C M j=true:=by rw[<-HM.out];exact HF.out
         simp only[gy,nu,HK.out,HM.out,hf2,cond_true,Gn,hbo];exact h8⟩
    .obtain rfl:j=C.clauses.length:=by omega
     go_wp2;cases q:iA C aj ms C.clauses.length with
     |true=>
      have h1:=(jo C aj ms C.clauses.length).1 q
      go_roundg (idle (gy C aj ms C.clauses.length)+1)
      case measure=>rw[iw.out];simp only[cond_true];omega
      case rel=>exact⟨_,true,rfl,rfl,by rw[sQ,HML.out],zN.out.trans HS2.out (λ_ _ h=>h),HW2,by show _=_;rw[HB.out,cond_true,cond_true,NH q]⟩
     |false=>
      go_roundg (idle (gy C aj ms C.clauses.length))
      case measure=>rw[iw.out,(jo C aj ms C.clauses.length).2 q];simp only[cond_true];omega
      case rel=>exact⟨_,false,rfl,rfl,by rw[sQ,HML.out],zN.out.trans HS2.out (λ_ _ h=>h),HW2,by show _=_;rw[HB.out,cond_true,cond_false,NI q,(jo C aj ms C.clauses.length).2 q]⟩
end
open Go.RowKit Tryz
def qg(hs:List Int)(a:jy):Int:=cond (a.role== -1) (-1) (fP hs a.role)
theorem NJ(v:CV)(C:au)(tv:TV)(s:ak)(i:Nat)(a:jy)(w:World)(hC:bO w v C)(hS:aQ w tv s)(ha:C.acts[i]?=some a)(hr:a.role≠ -1->0<=a.role/\a.role<s.aj.length):
 Calls prog 113 #[v.val C,tv.val s,.int .i64 i] w (dZ (.int .i64 (qg s.aj a)) w):=by
 have hil:i<C.acts.length:=(bB.1 ha).1;obtain⟨b,off,lG,hb,hcell⟩:=hC.act ha;obtain⟨⟨hA,hcp⟩,⟨uA,Bn⟩,⟨aA,CU⟩,⟨kA,zk⟩,⟨oA,CW⟩⟩:=v;obtain⟨⟨Xg,Xh⟩,⟨Xi,Xj⟩,⟨smA,Wz⟩⟩:=tv;simp only at lG;subst lG;obtain⟨ki,ro,gi,tg,un,⟨ln,ld⟩⟩:=a;have HS:=ah hS;clear hS;have HR:=ah hr;clear hr;clear hC;simp only[CV.val,CV.cells,TV.val,TV.cells,ak.cells];have i0:(0:Int)<=(i:Int):=by omega
 have i1:(i:Int)<(C.acts.length:Int):=by omega
 generalize hE:qg s.aj ⟨ki,ro,gi,tg,un,⟨ln,ld⟩⟩=E;have HE:=ah hE;clear hE;go_enter func113,ntmps113;go_upto_region 1 with(fail)
 generalize hW0:World.alloc _ _=W0;obtain⟨HB,hh0,gG⟩:=F5 hW0;clear hW0;have k0:=bX (i:=3) hh0 rfl;clear hh0;have k1:=bX (i:=1) gG rfl;clear gG;change Code.wp _ _ _ _ (Bl.val (⟨W0,aC _ _⟩:Bl W0));generalize(⟨W0,aC _ _⟩:Bl W0)=s0;have c1:∀z:Bl W0,z.val.cell? ⟨b,off+i*7+1,none⟩=some (.int .i64 ro):=λz=>hcell z.val (av HB.out z.prop) 1 (by omega);clear hcell;have HA:=ah ha;clear ha;cases q:(ro== -1)with
 |true=>
  obtain rfl:E= -1:=by rw[<-HE.out];unfold qg;simp only[q];rfl
  go_wp2;go_ret;exact⟨rfl,av HB.out (Bl.prop _)⟩
 |false=>
  obtain rfl:E=fP s.aj ro:=by rw[<-HE.out];unfold qg;simp only[q];rfl
  obtain⟨r0,r1⟩:=HR.out (by simpa using q);simp only at r0 r1;obtain⟨hb2,hoff,hH,hlt,hhc⟩:=HS.out.aj.1.form (by omega) (by omega);simp only at hH;subst hH;have y0:∀z:Bl W0,z.val.cell? ⟨hb2,hoff+ro.toNat,none⟩=some (.int .i64 (fP s.aj ro)):=λz=>by
   rw[(aL (av HB.out z.prop)).1 _ _ hlt,hhc _ (by omega)];have hx:ro.toNat<s.aj.length:=by omega
   simp[aZ,fP,hx]
  clear hhc;go_wp2
  go_quiet (fail)
  go_wp2;go_ret;exact⟨rfl,(av HB.out (Bl.prop _)).trans (below_drewN _ _ |>.mono (av HB.out (Bl.prop _)).size)⟩
end Go.Proofs.YtpmdedcnbockhaaGreatDoor
