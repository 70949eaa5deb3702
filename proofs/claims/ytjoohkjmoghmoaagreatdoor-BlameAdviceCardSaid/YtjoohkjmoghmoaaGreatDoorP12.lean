/- part -/
import Derived.Test.YtjoohkjmoghmoaaGreatDoorP11
set_option linter.all false
namespace Go.Proofs.YtjoohkjmoghmoaaGreatDoor
section
noncomputable section
section
variable {h h':AH} {n n':Nat} {b:WB} {v:CS} {C:aH} {s:aO} {Q:AV->AH->Nat->Prop}
theorem r_(K:Nat){g:Nat}(hQ:∀bx h' n',Up h n h' n'->h'.get bx=some (.row 139 [.p g 0])->n<=bx->bx<n'->Q (.f 179 [.p bx 0]) h' n'):CW (EF (K+1)) 100 [.p g 0] h n Q:=by
 refine aJ ab2 rfl ?_;repeat' (first|(simp (disch:=omega) only[go_sem,V6])|(with_reducible first|apply aj|apply ah|apply ay|apply aB|apply aA|apply au)<;>intro hd<;>(rw[hd];try simp only[decide_eq_true_eq,decide_eq_false_iff_not,Bool.not_eq_true',Bool.not_eq_false']at hd)|(with_reducible refine aD ?_))
 exact hQ _ _ _ aL aM (by omega) (by omega)
def gY(upd:Nat->List aG->List aG)(ms:List aG)(k:Nat):List aG:=(g_ ms k).foldl (λms j=>upd j ms) ms
theorem kZ(upd:Nat->List aG->List aG){ms:List aG}{k:Nat}(hk:k<ms.length):gY upd ms (k+1)=cond (bP ms k).runs (upd k (gY upd ms k)) (gY upd ms k):=by
 unfold gY;rw[g_,fJ hk];dsimp only;cases (bP ms k).runs with
 |true=>rw[cond_true,cond_true,List.foldl_append];rfl
 |false=>rfl
theorem jE{upd:Nat->List aG->List aG}(zq:∀i ms,(upd i ms).length=ms.length){ms:List aG}:∀k,k<=ms.length->(gY upd ms k).length=ms.length
 |0,_=>rfl
 |k+1,hk=>by
  rw[kZ upd (by omega)];cases (bP ms k).runs with
  |true=>rw[cond_true,zq,jE zq k (by omega)]
  |false=>exact jE zq k (by omega)
theorem Aj{upd:Nat->List aG->List aG}(zq:∀i ms,(upd i ms).length=ms.length)(hu:∀i ms (j:Nat),j≠i->(upd i ms)[j]?=ms[j]?){ms:List aG}{j:Nat}:∀k,k<=ms.length->k<=j->(gY upd ms k)[j]?=ms[j]?
 |0,_,_=>rfl
 |k+1,hk,hj=>by
  rw[kZ upd (by omega)];cases (bP ms k).runs with
  |true=>rw[cond_true,hu _ _ _ (by omega),Aj zq hu k (by omega) (by omega)]
  |false=>exact Aj zq hu k (by omega) (by omega)
theorem Ow(K:Nat){bx yr:Nat}(upd:Nat->List aG->List aG)(zq:∀i ms,(upd i ms).length=ms.length)(hu:∀i ms (j:Nat),j≠i->(upd i ms)[j]?=ms[j]?)(J:AH->Nat->Prop)(hJ:∀h n h' n',J h n->Up h n h' n'->J h' n')
 (w:Wk h n b v C s)(j0:J h n)(hbx:∀h n,J h n->h.get bx=some (.row 139 [.p b.g 0]))(hl:s.marks.length<=1000000)
 (hstep:∀i ms h1 n1,i<s.marks.length->ms.length=s.marks.length->bP ms i=bP s.marks i->(bP ms i).runs=true->Wk h1 n1 b v C (s.eB ms)->J h1 n1->RW (Y0 yr [.i .i64 (i:Nat)] (EF (K+1)) h1 n1) λu h2 n2=>u= .b true/\Wk h2 n2 b v C (s.eB (upd i ms))/\J h2 n2)
 (hQ:∀h' n',Wk h' n' b v C (s.eB (gY upd s.marks s.marks.length))->J h' n'->Q (.bV []) h' n'):CW (EF (K+2)) 179 [.y yr,.p bx 0] h n Q:=by
 have hb0:=hbx h n j0;refine aJ ab3 rfl ?_;repeat' (first|(simp (disch:=omega) only[go_sem,ub.old,RO,hb0,w.row,WB.cells,yG (v:=.sl b.bm 0 0 s.marks.length b.cm) (m:=s.marks.length) rfl])|(simp (disch:=omega) only[go_sem,RO,hb0,w.row,WB.cells,yG (v:=.sl b.bm 0 0 s.marks.length b.cm) (m:=s.marks.length) rfl])|(with_reducible first|apply aj|apply ah|apply ay|apply aB|apply aA|apply au)<;>intro hd<;>(rw[hd];try simp only[decide_eq_true_eq,decide_eq_false_iff_not,Bool.not_eq_true',Bool.not_eq_false']at hd)|(with_reducible refine aD ?_))
 refine dD s.marks.length (λk h3 n3 G=>Wk h3 n3 b v C (s.eB (gY upd s.marks k))/\J h3 n3/\G=[(0,.y yr),(1,.p bx 0)]) (by omega) (by omega) (by omega) (by omega) (λk h3 n3 G ⟨_,_,e⟩=>by subst e;exact⟨rfl,rfl⟩) ⟨rfl,rfl,_,⟨w,j0,rfl⟩,by(repeat' (first|exact aZ|refine aW rfl ?_))⟩ ?_ ?_
 .rintro k h3 n3 G hk ⟨w3,j3,rfl⟩
  have hb3:=hbx h3 n3 j3;have hlen:=jE zq (ms:=s.marks) k (by omega);have hkm:k<(gY upd s.marks k).length:=by omega
  have hat:bP (gY upd s.marks k) k=bP s.marks k:=by
   have:=Aj zq hu (ms:=s.marks) (j:=k) k (by omega) (Nat.le_refl _);unfold bP;rw[List.getD_eq_getElem?_getD,List.getD_eq_getElem?_getD,this]
  have next:∀h4 n4 (F:Fm),Wk h4 n4 b v C (s.eB (gY upd s.marks (k+1)))->J h4 n4->lk F 10=some (.i .i64 (k:Nat))->lk F 9=some (.i .i64 (s.marks.length:Nat))->lk F 0=some (.y yr)->lk F 1=some (.p bx 0)->
   (lk F 10=some (.i .i64 (k:Nat))/\lk F 9=some (.i .i64 (s.marks.length:Nat))/\∃G,(Wk h4 n4 b v C (s.eB (gY upd s.marks (k+1)))/\J h4 n4/\G=[(0,.y yr),(1,.p bx 0)])/\∀m v,lk G m=some v->lk F m=some v):=
   λh4 n4 F a1 a2 a3 a4 a5 a6=>⟨a3,a4,_,⟨a1,a2,rfl⟩,aW a5 (aW a6 aZ)⟩
  have hrm:=rdm (e:=144) hkm;repeat' (first|(simp (disch:=omega) only[go_sem,ub.old,DT,hb3,w3.row,w3.ms,WB.cells,b_ hkm,hrm,hat])|(simp (disch:=omega) only[go_sem,DT,hb3,w3.row,w3.ms,WB.cells,b_ hkm,hrm,hat])|((first|rw[bA]|rw[bU]);with_reducible refine D5 _ _ λh2 n2 u2=>?_;(first|replace ub:=Up.trans ub (Up.trans aL u2)|have ub:=u2);have hle:=ub.le;clear u2)|(with_reducible first|apply aj|apply ah|apply ay|apply aB|apply aA|apply au)<;>intro hd<;>(rw[hd];try simp only[decide_eq_true_eq,decide_eq_false_iff_not,Bool.not_eq_true',Bool.not_eq_false']at hd)|(with_reducible refine aD ?_))
  .rw[tO]
   refine RW.mono (hstep k _ _ _ hk hlen hat (by rw[hat];exact hd) (w3.up aL) (hJ _ _ _ _ j3 aL)) ?_;rintro u h4 n4 ⟨rfl,w4,j4⟩;repeat' (first|(simp (disch:=omega) only[go_sem,ub.old])|(simp (disch:=omega) only[go_sem])|(with_reducible first|apply aj|apply ah|apply ay|apply aB|apply aA|apply au)<;>intro hd<;>(rw[hd];try simp only[decide_eq_true_eq,decide_eq_false_iff_not,Bool.not_eq_true',Bool.not_eq_false']at hd)|(with_reducible refine aD ?_))
   exact next _ _ _ (by rw[kZ upd (by omega),hd];exact w4) j4 rfl rfl rfl rfl
  .exact next _ _ _ (by rw[kZ upd (by omega),hd];exact w3.up aL) (hJ _ _ _ _ j3 aL) rfl rfl rfl rfl
 .rintro h3 n3 G ⟨w3,j3,rfl⟩
  repeat' (first|(simp (disch:=omega) only[go_sem,ub.old])|(simp (disch:=omega) only[go_sem])|(with_reducible first|apply aj|apply ah|apply ay|apply aB|apply aA|apply au)<;>intro hd<;>(rw[hd];try simp only[decide_eq_true_eq,decide_eq_false_iff_not,Bool.not_eq_true',Bool.not_eq_false']at hd)|(with_reducible refine aD ?_))
  exact hQ _ _ w3 j3
theorem vI(K:Nat){g:FuncId}{r:MO}{p q:Tmp}{fq body:Code}{st:List It}{F:Fm}{R:PQ}{bx:Nat}{mb:MC}(upd:Nat->List aG->List aG)(zq:∀i ms,(upd i ms).length=ms.length)(hu:∀i ms (j:Nat),j≠i->(upd i ms)[j]?=ms[j]?)
 (hr:ev r F []=some (.f 179 [.p bx 0]))(hb:h.get bx=some (.row 139 [.p b.g 0]))(hbn:bx<n)(hbX:¬b.X bx)(w:Wk h n b v C s)(hl:s.marks.length<=1000000)
 (hp:Wn (sl0 g) [p]=some [true])(ha:oM Tryz.prog (sl0 g) fq=some (.reg [⟨none,.mv (.s p),.k q⟩]))(hm:oM Tryz.prog (sl0 g) body=some mb)
 (hstep:∀(i:Nat)(ms:List aG) h1 n1 (Qb:PQ),i<s.marks.length->ms.length=s.marks.length->bP ms i=bP s.marks i->(bP s.marks i).runs=true->Wk h1 n1 b v C (s.eB ms)->UX b.X h n h1 n1->
  (∀h2 n2 F2,Wk h2 n2 b v C (s.eB (upd i ms))->UX b.X h1 n1 h2 n2->Qb .bZ h2 n2 F2)->sK Tryz.prog (yl Tryz.prog sl0 19) g 100000 [.c mb] .bZ (EF (K+1)) h1 n1 (pt (pt F p (.i .i64 (i:Nat))) q (.i .i64 (i:Nat))) Qb)
 (fin:∀h2 n2,Wk h2 n2 b v C (s.eB (gY upd s.marks s.marks.length))->UX b.X h n h2 n2->sK Tryz.prog Y0 g 100000 st .bZ (EF (K+2)) h2 n2 F R):SM Tryz.prog Y0 g (.c (.rng r [p] fq body)::st) .bZ (EF (K+2)) h n F R:=by
 have WI:¬b.X n:=λe=>by have:=w.lt e;omega
 have ZQ:b.B<=n:=by have:=w.ge.1;have:=w.lg;omega
 refine vH hr λt hF=>?_;refine Ow K upd zq hu (λh1 n1=>UX b.X h n h1 n1/\n<n1/\h1.get n=some (.lp .ready none g t [p] fq body)) (λh1 n1 h2 n2 ⟨j1,j2,j3⟩ u=>⟨j1.trans (UX.up u),Nat.lt_of_lt_of_le j2 u.le,(u.old n j2).trans j3⟩)
  ((w.D8 WI ZQ).on (Nat.le_succ n) λ_ _=>rfl) ⟨UX.refl.set (.inr (Nat.le_refl _)) (Nat.le_succ _),Nat.lt_succ_self _,aM⟩ (λh1 n1 j=>(j.1.old bx hbn hbX).trans hb) hl ?_ ?_
 .rintro i ms h1 n1 hi hlen hat hrun w1 ⟨j1,j2,j3⟩
  refine(rW (d:=19) (F:=F) (R:=λbb h3 n3=>bb=true/\Wk h3 n3 b v C (s.eB (upd i ms))/\UX b.X h n h3 n3/\n<n3/\h3.get n=some (.lp .ready none g t [p] fq body)) j3 hF hp rfl ha hm ?_).mono ?_
  .have hrun':(bP s.marks i).runs=true:=by rw[<-hat];exact hrun
   have step:=λQb=>hstep i ms (h1.set n (.lp .busy none g t [p] fq body)) n1 Qb hi hlen hat hrun' (w1.D8 WI ZQ) (j1.set (.inr (Nat.le_refl _)) (Nat.le_refl _));have e:Og [p] [true] [AV.i .i64 (i:Nat)] F=pt F p (.i .i64 (i:Nat)):=rfl;rw[e];have lkp:lk (pt F p (.i .i64 (i:Nat))) p=some (.i .i64 (i:Nat)):=by rw[fD,if_pos rfl]
   simp only[go_sem,lkp];refine⟨_,_,_,_,_,_,j3,step _ λh2 n2 F2 w2 u2=>?_⟩;have hl2:h2.get n=some (.lp .busy none g t [p] fq body):=(u2.old n j2 WI).trans aM;refine⟨_,_,_,_,_,_,_,hl2,rfl,w2.D8 WI ZQ,?_,Nat.lt_of_lt_of_le j2 u2.le,aM⟩;have j1':UX b.X h n (h1.set n (.lp .busy none g t [p] fq body)) n1:=j1.set (.inr (Nat.le_refl _)) (Nat.le_refl _);exact(j1'.trans u2).set (.inr (Nat.le_refl _)) (Nat.le_refl _)
  .rintro u h2 n2 ⟨bb,rfl,rfl,h3⟩
   exact⟨rfl,h3⟩
 .rintro h2 n2 w2 ⟨j1,j2,j3⟩
  refine⟨_,_,_,_,_,_,_,j3,.inl ⟨rfl,rfl,fin _ _ (w2.D8 WI ZQ) (j1.set (.inr (Nat.le_refl _)) (Nat.le_refl _))⟩⟩
end
end
end
section
noncomputable section
theorem BZ:∀{days last:Int}{l:List Int},mO days last l=true->l.Pairwise (· < ·)/\∀x∈l,last<x
 |_,_,[],_=>⟨List.Pairwise.nil,λ_ h=>by cases h⟩
 |days,last,d::l,h=>by
  simp only[mO,Bool.and_eq_true,Bool.not_eq_true',decide_eq_false_iff_not]at h;obtain⟨h1,h2⟩:=BZ h.2.2;refine⟨List.pairwise_cons.2 ⟨h2,h1⟩,λx hx=>?_⟩;rcases List.mem_cons.1 hx with rfl|hx
  .omega
  .have:=h2 x hx;omega
theorem bo1{p b f:Bool}(h:p=true):(p||(b&&f))=true:=by simp[h]
theorem bo2{p b f:Bool}(h:b=true)(k:f=true):(p||(b&&f))=true:=by simp[h,k]
theorem bn1{p b f:Bool}(h:p=false)(h2:f=false):(p||(b&&f))=false:=by simp[h,h2]
theorem bn2{p b f:Bool}(h:p=false)(h2:b=false):(p||(b&&f))=false:=by simp[h,h2]
section
variable {h h':AH} {n n':Nat} {b:WB} {v:CS} {C:aH} {s:aO} {Q:AV->AH->Nat->Prop}
def MB(ms:List aG):Prop:=∀m∈ms, -1000<=m.left/\m.left<=1000/\ -1000<=m.got/\m.got<=1000
theorem MB.at_{ms:List aG}(k:MB ms){i:Nat}(h:i<ms.length): -1000<=(bP ms i).left/\(bP ms i).left<=1000/\ -1000<=(bP ms i).got/\(bP ms i).got<=1000:=k _ (List.mem_of_getElem? (fJ h))
theorem Ox(K:Nat)(w:Wk h n b v C s)(ok:C.Ok)(ho:C.off.length<=1000000)(hl:s.marks.length=C.clauses.length)(hh:s.aC.length=C.aC.length)(hm:MB s.marks)(hd: -1000000<=s.day/\s.day<=1000000)(hQ:∀h' n',Wk h' n' b v C (C.tick s)->UX b.X h n h' n'->Q (.bV []) h' n'):CW (EF (K+5)) 48 [.p b.g 0] h n Q:=by
 have BX:=ok.fQ;have g1:=w.lg;have g2:=w.lh;have g3:=w.lu;have g4:=w.lm;obtain⟨e1,e2,e3,e4,e5,e6⟩:=w.ne;have hoff:=(BZ ok.off).1;refine aJ c48 rfl ?_;repeat' (first|(simp (disch:=omega) only[go_sem,ub.old,m48,w.row,WB.cells])|(simp (disch:=omega) only[go_sem,m48,w.row,WB.cells])|((first|rw[bA]|rw[bU]);with_reducible refine G_ _ _ (w.iT.off.up aL) hoff ho λ_ h2 n2 u2=>?_;(first|replace ub:=Up.trans ub (Up.trans aL u2)|have ub:=u2);have hle:=ub.le;clear u2)|(with_reducible first|apply aj|apply ah|apply ay|apply aB|apply aA|apply au)<;>intro hd<;>(rw[hd];try simp only[decide_eq_true_eq,decide_eq_false_iff_not,Bool.not_eq_true',Bool.not_eq_false']at hd)|(with_reducible refine aD ?_))
 rw[bA];refine r_ _ λbx h3 n3 u3 hbx hb1 hb2=>?_;have w3:Wk h3 n3 b v C s:=w.up aL;have f1:h3.get n=some (.row 139 [.p b.g 0]):=by rw[u3.old n (by omega)];simp (disch:=omega) only[go_sem,ub.old]
 have f2:h3.get (n+1)=some (.row 218 [.k 3,.f 96 [],.f 97 [],.f 98 [],.f 98 []]):=by rw[u3.old _ (by omega)];simp (disch:=omega) only[go_sem,ub.old]
 have f3:h3.get (n+1+1)=some (.row 4 [.b (C.off.contains s.day)]):=by rw[u3.old _ (by omega)];simp (disch:=omega) only[go_sem,ub.old]
 have FB:UX b.X h n h3 n3:=UX.up aL;have hle3:=u3.le;have hn3:n+1+1<n3:=by omega
 have aiB:n<=bx:=by omega
 clear u3 ub hle hle3 hb1;repeat' (first|(simp (disch:=omega) only[go_sem,ub.old])|(simp (disch:=omega) only[go_sem])|(with_reducible first|apply aj|apply ah|apply ay|apply aB|apply aA|apply au)<;>intro hd<;>(rw[hd];try simp only[decide_eq_true_eq,decide_eq_false_iff_not,Bool.not_eq_true',Bool.not_eq_false']at hd)|(with_reducible refine aD ?_))
 refine vI _ (gJ C (C.off.contains s.day)) (rM C _) (nR C _) rfl hbx hb2 (λe=>by have:=w.lt e;omega) w3 (by omega) (by kernel_rfl) RQ RS ?_ ?_
 .intro i ms h4 n4 Qb hi hlen hat hrun w4 u4 hQb
  have m1:=(u4.old n (by omega) (λe=>by have:=w.lt e;omega)).trans f1;have m2:=(u4.old (n+1) (by omega) (λe=>by have:=w.lt e;omega)).trans f2;have m3:=(u4.old (n+1+1) (by omega) (λe=>by have:=w.lt e;omega)).trans f3;have hi2:i<ms.length:=by omega
  obtain⟨cb,co,k,t,i1,i2,i3,i4,rd⟩:=w4.iT.Qe (i:=i) (by omega);have xZ:=ok.clause i2;have hmb:=hm.at_ hi;rw[<-hat]at hmb;have l1:=w4.lg;have l2:=w4.lh;have l3:=w4.lu;have l4:=w4.lm;have l5:=u4.le;have wid:f_ .i64 ((bP ms i).left - 1)=(bP ms i).left - 1:=dN (by omega) (by omega);have tk:gJ C (C.off.contains s.day) i ms=cond ((bP ms i).paused||(k.gW&&C.off.contains s.day)) ms (ms.set i ((bP ms i).u_ k)):=by
   unfold gJ;rw[i2,fJ hi2]
  rw[tk]at hQb;have blk:((bP ms i).paused||(k.gW&&C.off.contains s.day))=true->∀h2 n2 F2,Wk h2 n2 b v C (s.eB ms)->UX b.X h4 n4 h2 n2->Qb .bZ h2 n2 F2:=λe=>by rw[e]at hQb;exact hQb
  have nob:((bP ms i).paused||(k.gW&&C.off.contains s.day))=false->∀h2 n2 F2,Wk h2 n2 b v C (s.eB (ms.set i ((bP ms i).u_ k)))->UX b.X h4 n4 h2 n2->Qb .bZ h2 n2 F2:=λe=>by rw[e]at hQb;exact hQb
  clear hQb tk;have ag:¬(bP ms i).left - 1=0->(bP ms i).u_ k=⟨(bP ms i).status,(bP ms i).left - 1,(bP ms i).got,(bP ms i).aT,(bP ms i).paused⟩:=λe=>by
   unfold aG.u_;rw[show((bP ms i).left - 1==0)=false by simpa using e];rfl
  have ag0:(bP ms i).left - 1=0->(bP ms i).u_ k=aG.due ⟨(bP ms i).status,(bP ms i).left - 1,(bP ms i).got,(bP ms i).aT,(bP ms i).paused⟩ k:=λe=>by
   unfold aG.u_;rw[show((bP ms i).left - 1==0)=true by simpa using e];rfl
  repeat' (first|(simp (disch:=omega) only[go_sem,ub.old,DU,m1,m2,m3,w4.row,w4.ms,WB.cells,aR i1,b_ hi2,cK hi2,rd.el,rd.hd,rd.all,aN.av,Sd hi2,Wu hi2,Wx hi2,Qa hi2,wid])|(simp (disch:=omega) only[go_sem,DU,m1,m2,m3,w4.row,w4.ms,WB.cells,aR i1,b_ hi2,cK hi2,rd.el,rd.hd,rd.all,aN.av,Sd hi2,Wu hi2,Wx hi2,Qa hi2,wid])|(with_reducible first|apply aj|apply ah|apply ay|apply aB|apply aA|apply au)<;>intro hd<;>(rw[hd];try simp only[decide_eq_true_eq,decide_eq_false_iff_not,Bool.not_eq_true',Bool.not_eq_false']at hd)|(with_reducible refine aD ?_))
  all_goals first
   |(refine blk (bo1 ?_) _ _ _ (w4.up ?_) (UX.up ?_)<;>first|assumption|(exact aL;done))
   |(refine blk (bo2 ?_ ?_) _ _ _ (w4.up ?_) (UX.up ?_)<;>first|assumption|(exact aL;done))
   |(have nb:=nob (bn1 ‹_› ‹_›))
   |(have nb:=nob (bn2 ‹_› ‹_›))
  all_goals clear blk nob
  all_goals try
   rw[ag hd]at nb;refine nb _ _ _ ((w4.up ?_).pJ (ms:=ms.set i _) ?_) ((UX.up ?_).set (.inl b.xm) (Nat.le_refl _))<;>first|(exact aL;done)|(simp;done)
  all_goals
   rw[ag0 hd]at nb;clear ag ag0;have hk4:k.kind=1\/k.kind=2\/k.kind=3\/k.kind=4:=by have:=xZ.PZ;have:=xZ.P5;omega
   have hi5:i<(ms.set i ⟨(bP ms i).status,(bP ms i).left - 1,(bP ms i).got,(bP ms i).aT,(bP ms i).paused⟩:List aG).length:=by simpa using hi2
   generalize KG:Tr.set (Tr.set (Tr.set h4 n4 _) n4 _) b.bm _=h6;have w6:Wk h6 (n4+1) b v C (s.eB (ms.set i ⟨(bP ms i).status,(bP ms i).left - 1,(bP ms i).got,(bP ms i).aT,(bP ms i).paused⟩)):=by
    rw[<-KG];refine(w4.up ?_).pJ (ms:=ms.set i _) ?_<;>first|(exact aL;done)|(simp;done)
   have u6:UX b.X h4 n4 h6 (n4+1):=by rw[<-KG];exact(UX.up aL).set (.inl b.xm) (Nat.le_refl _)
   have p2:h6.get (n+1)=some (.row 218 [.k 3,.f 96 [],.f 97 [],.f 98 [],.f 98 []]):=by rw[<-KG];simp (disch:=omega) only[go_sem,m2]
   have p1:h6.get n=some (.row 139 [.p b.g 0]):=by rw[<-KG];simp (disch:=omega) only[go_sem,m1]
   clear KG;rcases hk4 with e|e|e|e
   .simp (disch:=omega) only[go_sem,e,p1,p2]
    rw[bU];refine G8 _ w6 hi5 i2 λh7 n7 w7 u7=>?_;repeat' (first|(simp (disch:=omega) only[go_sem,ub.old])|(simp (disch:=omega) only[go_sem])|(with_reducible first|apply aj|apply ah|apply ay|apply aB|apply aA|apply au)<;>intro hd<;>(rw[hd];try simp only[decide_eq_true_eq,decide_eq_false_iff_not,Bool.not_eq_true',Bool.not_eq_false']at hd)|(with_reducible refine aD ?_))
    refine nb _ _ _ ?_ (u6.trans u7);rw[rZ hi2]at w7;simpa [aG.due,e]using w7
   .simp (disch:=omega) only[go_sem,e,p1,p2]
    rw[bU];refine Ai _ w6 hi5 λh7 n7 w7 u7=>?_;repeat' (first|(simp (disch:=omega) only[go_sem,ub.old])|(simp (disch:=omega) only[go_sem])|(with_reducible first|apply aj|apply ah|apply ay|apply aB|apply aA|apply au)<;>intro hd<;>(rw[hd];try simp only[decide_eq_true_eq,decide_eq_false_iff_not,Bool.not_eq_true',Bool.not_eq_false']at hd)|(with_reducible refine aD ?_))
    refine nb _ _ _ ?_ (u6.trans u7);rw[rZ hi2]at w7;simpa [aG.due,e]using w7
   .simp (disch:=omega) only[go_sem,e,p1,p2]
    rw[bU];refine BU _ w6 hi5 λh7 n7 w7 u7=>?_;repeat' (first|(simp (disch:=omega) only[go_sem,ub.old])|(simp (disch:=omega) only[go_sem])|(with_reducible first|apply aj|apply ah|apply ay|apply aB|apply aA|apply au)<;>intro hd<;>(rw[hd];try simp only[decide_eq_true_eq,decide_eq_false_iff_not,Bool.not_eq_true',Bool.not_eq_false']at hd)|(with_reducible refine aD ?_))
    refine nb _ _ _ ?_ (u6.trans u7);rw[rZ hi2]at w7;simpa [aG.due,e]using w7
   .simp (disch:=omega) only[go_sem,e,p1,p2]
    rw[bU];refine BU _ w6 hi5 λh7 n7 w7 u7=>?_;repeat' (first|(simp (disch:=omega) only[go_sem,ub.old])|(simp (disch:=omega) only[go_sem])|(with_reducible first|apply aj|apply ah|apply ay|apply aB|apply aA|apply au)<;>intro hd<;>(rw[hd];try simp only[decide_eq_true_eq,decide_eq_false_iff_not,Bool.not_eq_true',Bool.not_eq_false']at hd)|(with_reducible refine aD ?_))
    refine nb _ _ _ ?_ (u6.trans u7);rw[rZ hi2]at w7;simpa [aG.due,e]using w7
 .intro h4 n4 w4 u4
  have m1:=(u4.old n (by omega) (λe=>by have:=w.lt e;omega)).trans f1;have wd:f_ .i64 (s.day+1)=s.day+1:=dN (by omega) (by omega);repeat' (first|(simp (disch:=omega) only[go_sem,ub.old,m1,w4.row,WB.cells,wd])|(simp (disch:=omega) only[go_sem,m1,w4.row,WB.cells,wd])|(with_reducible first|apply aj|apply ah|apply ay|apply aB|apply aA|apply au)<;>intro hd<;>(rw[hd];try simp only[decide_eq_true_eq,decide_eq_false_iff_not,Bool.not_eq_true',Bool.not_eq_false']at hd)|(with_reducible refine aD ?_))
  rw[bA];refine r9 _ (w4.acy (d:=s.day+1)) ok ?_ hh λh5 n5 w5 u5=>?_
  .show(gY (gJ C (C.off.contains s.day)) s.marks s.marks.length).length=_
   rw[jE (rM C _) _ (Nat.le_refl _),hl]
  repeat' (first|(simp (disch:=omega) only[go_sem,ub.old])|(simp (disch:=omega) only[go_sem])|(with_reducible first|apply aj|apply ah|apply ay|apply aB|apply aA|apply au)<;>intro hd<;>(rw[hd];try simp only[decide_eq_true_eq,decide_eq_false_iff_not,Bool.not_eq_true',Bool.not_eq_false']at hd)|(with_reducible refine aD ?_))
  exact hQ _ _ w5 (FB.trans ((u4.set (.inl (.inl rfl)) (Nat.le_refl _)).trans u5))
end
end
end
section
noncomputable section
section
variable {h h':AH} {n n':Nat} {b:WB} {v:CS} {C:aH} {s:aO} {Q:AV->AH->Nat->Prop}
theorem sth{e:Nat}{hs:List Int}{j:Nat}(h:j<hs.length)(x:Int):fu (some (.row e (hs.flatMap ci))) (j*1) (some [.i .i64 x])=some (.row e ((hs.set j x).flatMap ci)):=oW (c:=ci) (w:=1) (λ_=>rfl) h
theorem stb{e:Nat}{hs:List Bool}{j:Nat}(h:j<hs.length)(x:Bool):fu (some (.row e (hs.flatMap cb))) (j*1) (some [.b x])=some (.row e ((hs.set j x).flatMap cb)):=oW (c:=cb) (w:=1) (λ_=>rfl) h
theorem rdb{e:Nat}{hs:List Bool}{j:Nat}(h:j<hs.length):pF (some (.row e (hs.flatMap cb))) (j*1) none=some (.b (hs.getD j false)):=by
 have h1:hs[j]?=some (hs.getD j false):=by rw[List.getD_eq_getElem?_getD,List.getElem?_eq_getElem h];rfl
 exact rY (c:=cb) (w:=1) (e:=e) (λ_=>rfl) h1 (j:=0) (by omega)
theorem KH(K:Nat)(w:Wk h n b v C s)(ok:C.Ok)(hl:s.marks.length=C.clauses.length)(hh:s.aC.length=C.aC.length)(hu:s.used.length=C.acts.length){i:Nat}{a:eY}(ha:C.acts[i]?=some a)(hk:a.kind≠1)
 (hQ:∀h' n',Wk h' n' b v C (C.shift i a s)->UX b.X h n h' n'->Q (.bV []) h' n'):CW (EF (K+3)) 104 [.p b.g 0,.i .i64 (i:Nat)] h n Q:=by
 have BX:=ok.fQ;have aok:=ok.act (List.mem_of_getElem? ha);have hil:=(List.getElem?_eq_some_iff.1 ha).1;obtain⟨e1,e2,e3,e4,e5,e6⟩:=w.ne;have g1:=w.lg;have g2:=w.lh;have g3:=w.lu;have g4:=w.lm;obtain⟨j,hj,hj2⟩:∃j:Nat,a.give=j/\j<s.aC.length:=by
  have:=aok.give hk;exact⟨a.give.toNat,by omega,by omega⟩
 have hiu:i<s.used.length:=by omega
 obtain⟨b0,o0,a',i0,ha',hb0,rd⟩:=w.iT.acts.fE (k:=(i:Nat)) (by omega) (by omega) (by omega);rw[show((i:Nat):Int).toNat=i by omega,ha]at ha';cases ha'
 have fin:∀(ms:List aG) h4 n4,(cond (a.kind !=3) s.marks (gY (eD C a.give a.tgt) s.marks s.marks.length))=ms->Wk h4 n4 b v C ⟨s.day,s.aC.set j a.tgt,s.used.set i true,ms⟩->UX b.X h n h4 n4->Q (.bV []) h4 n4:=λms h4 n4 e w4 u4=>by
  refine hQ _ _ ?_ u4;have:C.shift i a s=⟨s.day,s.aC.set j a.tgt,s.used.set i true,ms⟩:=by
   unfold aH.shift;rw[hj,show((j:Nat):Int).toNat=j by omega,<-hj];congr 1
  rw[this];exact w4
 refine aJ ab7 rfl ?_;repeat' (first|(simp (disch:=omega) only[go_sem,V7,w.row,w.hs,w.us,WB.cells,aR i0,cK hj2,b_ hiu,sth hj2,stb hiu,rd.el,rd.hd,rd.all,eY.av,hj])|(with_reducible first|apply aj|apply ah|apply ay|apply aB|apply aA|apply au)<;>intro hd<;>(rw[hd];try simp only[decide_eq_true_eq,decide_eq_false_iff_not,Bool.not_eq_true',Bool.not_eq_false']at hd)|(with_reducible refine aD ?_))
 .refine fin s.marks _ _ (by rw[show(a.kind !=3)=true by simpa using hd];rfl) (((w.up ?_).setH (hs:=s.aC.set j a.tgt) ?_).WC (us:=s.used.set i true) ?_) (((UX.up ?_).set (.inl (.inr (.inl rfl))) (Nat.le_refl _)).set (.inl (.inr (.inr (.inl rfl)))) (Nat.le_refl _))<;>first|(exact aL;done)|(simp;done)
 .generalize KG:Tr.set (Tr.set (Tr.set (Tr.set (Tr.set h n _) (n+1) _) (n+1) _) b.bh _) b.bu _=h6
  have w6:Wk h6 (n+2) b v C ⟨s.day,s.aC.set j a.tgt,s.used.set i true,s.marks⟩:=by
   rw[<-KG];refine((w.up ?_).setH (hs:=s.aC.set j a.tgt) ?_).WC (us:=s.used.set i true) ?_<;>first|(exact aL;done)|(simp;done)
  have u6:UX b.X h n h6 (n+2):=by rw[<-KG];exact((UX.up aL).set (.inl (.inr (.inl rfl))) (Nat.le_refl _)).set (.inl (.inr (.inr (.inl rfl)))) (Nat.le_refl _)
  have p1:h6.get n=some (.row 139 [.p b.g 0]):=by rw[<-KG];simp (disch:=omega) only[go_sem]
  have p2:h6.get (n+1)=some (.row 169 [.i .i64 a.kind,.i .i64 a.role,.i .i64 (j:Nat),.i .i64 a.tgt,.i .i64 a.unit,.i .i64 a.lot.num,.i .i64 a.lot.den]):=by rw[<-KG];simp (disch:=omega) only[go_sem]
  clear KG;rw[bA];refine r_ _ λbx h3 n3 u3 hbx hb1 hb2=>?_;have w3:=w6.up u3;have f1:=(u3.old n (by omega)).trans p1;have f2:=(u3.old (n+1) (by omega)).trans p2;have FB:UX b.X h n h3 n3:=u6.trans (UX.up u3);have hn3:n+1+1<n3:=by omega
  clear u3 u6 p1 p2;repeat' (first|(simp (disch:=omega) only[go_sem])|(with_reducible first|apply aj|apply ah|apply ay|apply aB|apply aA|apply au)<;>intro hd<;>(rw[hd];try simp only[decide_eq_true_eq,decide_eq_false_iff_not,Bool.not_eq_true',Bool.not_eq_false']at hd)|(with_reducible refine aD ?_))
  refine vI _ (eD C a.give a.tgt) (jV C _ _) (mP C _ _) rfl hbx hb2 (λe=>by have:=w.lt e;omega) w3 (by show s.marks.length<=_;omega) (by kernel_rfl) Oa Ob ?_ ?_
  .intro q ms h4 n4 Qb hi hlen hat hrun w4 u4 hQb
   have hi:q<s.marks.length:=hi;have hlen:ms.length=s.marks.length:=hlen;have m1:=(u4.old n (by omega) (λe=>by have:=w.lt e;omega)).trans f1;have m2:=(u4.old (n+1) (by omega) (λe=>by have:=w.lt e;omega)).trans f2;have hi2:q<ms.length:=by omega
   obtain⟨cb,co,k,t,i1,i2,i3,i4,eT⟩:=w4.iT.Qe (i:=q) (by omega);have l1:=w4.lg;have l2:=w4.lh;have l3:=w4.lu;have l4:=w4.lm;have l5:=u4.le;have tk:eD C a.give a.tgt q ms=cond ((k.kind !=4)&&(k.role==a.give)) (ms.set q ⟨(bP ms q).status,(bP ms q).left,(bP ms q).got,a.tgt,(bP ms q).paused⟩) ms:=by
    unfold eD;rw[i2,fJ hi2]
   rw[tk]at hQb;repeat' (first|(simp (disch:=omega) only[go_sem,Fu,m1,m2,w4.row,w4.ms,WB.cells,aR i1,cK hi2,eT.el,eT.hd,eT.all,aN.av,acv hi2])|(with_reducible first|apply aj|apply ah|apply ay|apply aB|apply aA|apply au)<;>intro hd<;>(rw[hd];try simp only[decide_eq_true_eq,decide_eq_false_iff_not,Bool.not_eq_true',Bool.not_eq_false']at hd)|(with_reducible refine aD ?_))
   .rename_i h1
    rw[show((k.kind !=4)&&(k.role==a.give))=true by simp;omega]at hQb;refine hQb _ _ _ ((w4.up ?_).pJ (ms:=ms.set q _) ?_) ((UX.up ?_).set (.inl b.xm) (Nat.le_refl _))<;>first|(exact aL;done)|(simp;done)
   all_goals
    rw[show((k.kind !=4)&&(k.role==a.give))=false by simp;omega]at hQb;exact hQb _ _ _ (w4.up aL) (UX.up aL)
  .intro h4 n4 w4 u4
   repeat' (first|(simp (disch:=omega) only[go_sem])|(with_reducible first|apply aj|apply ah|apply ay|apply aB|apply aA|apply au)<;>intro hd<;>(rw[hd];try simp only[decide_eq_true_eq,decide_eq_false_iff_not,Bool.not_eq_true',Bool.not_eq_false']at hd)|(with_reducible refine aD ?_))
   exact fin _ _ _ (by rw[show(a.kind !=3)=false by simpa using hd];rfl) w4 (FB.trans u4)
end
end
end
section
noncomputable section
section
variable {h h':AH} {n n':Nat} {b:WB} {v:CS} {C:aH} {s:aO} {Q:AV->AH->Nat->Prop}
theorem Ak{upd:Nat->List aG->List aG}(hu:∀i ms,MB ms->MB (upd i ms)){ms:List aG}(hm:MB ms):∀k,k<=ms.length->MB (gY upd ms k)
 |0,_=>hm
 |k+1,hk=>by
  rw[kZ upd (by omega)];cases (bP ms k).runs with
  |true=>exact hu _ _ (Ak hu hm k (by omega))
  |false=>exact Ak hu hm k (by omega)
theorem MB.set{ms:List aG}(hm:MB ms){i:Nat}{m:aG}(h: -1000<=m.left/\m.left<=1000/\ -1000<=m.got/\m.got<=1000):MB (ms.set i m):=λx hx=>by
 rcases List.mem_or_eq_of_mem_set hx with hx|rfl
 .exact hm x hx
 .exact h
theorem Al(C:aH)(act:Int)(i:Nat)(ms:List aG)(hm:MB ms):MB (dJ C act i ms):=by
 unfold dJ;split
 .rename_i k m h1 h2
  have:=hm m (List.mem_of_getElem? h2);cases (act==k.pause)with
  |true=>exact hm.set this
  |false=>
   cases (act==k.resume)with
   |true=>exact hm.set this
   |false=>exact hm
 .exact hm
theorem KI(K:Nat)(w:Wk h n b v C s)(ok:C.Ok)(hl:s.marks.length=C.clauses.length)(hh:s.aC.length=C.aC.length)(hu:s.used.length=C.acts.length)(hm:MB s.marks){i:Nat}{a:eY}(ha:C.acts[i]?=some a)
 (hQ:∀h' n',Wk h' n' b v C (C.act i a s)->UX b.X h n h' n'->Q (.bV []) h' n'):CW (EF (K+4)) 49 [.p b.g 0,.i .i64 (i:Nat)] h n Q:=by
 have BX:=ok.fQ;have aok:=ok.act (List.mem_of_getElem? ha);have hil:=(List.getElem?_eq_some_iff.1 ha).1;have hiu:i<s.used.length:=by omega
 obtain⟨e1,e2,e3,e4,e5,e6⟩:=w.ne;have g1:=w.lg;have g2:=w.lh;have g3:=w.lu;have g4:=w.lm;obtain⟨b0,o0,a',i0,ha',hb0,rd⟩:=w.iT.acts.fE (k:=(i:Nat)) (by omega) (by omega) (by omega);rw[show((i:Nat):Int).toNat=i by omega,ha]at ha';cases ha'
 refine aJ c49 rfl ?_;have early:((a.kind !=1)&&s.used.getD i false)=true->C.act i a s=s:=λe=>by unfold aH.act;rw[e];rfl
 repeat' (first|(simp (disch:=omega) only[go_sem,ub.old,m49,w.row,w.us,WB.cells,i0,cK hiu,rdb hiu,rd.el,rd.hd,rd.all,eY.av])|(simp (disch:=omega) only[go_sem,m49,w.row,w.us,WB.cells,i0,cK hiu,rdb hiu,rd.el,rd.hd,rd.all,eY.av])|(with_reducible first|apply aj|apply ah|apply ay|apply aB|apply aA|apply au)<;>intro hd<;>(rw[hd];try simp only[decide_eq_true_eq,decide_eq_false_iff_not,Bool.not_eq_true',Bool.not_eq_false']at hd)|(with_reducible refine aD ?_))
 .refine hQ _ _ ?_ (UX.up aL)
  rw[early (by rename_i q;simp only[Bool.and_eq_true];exact⟨by simpa using q,hd⟩)];exact w.up aL
 all_goals
  have hne:((a.kind !=1)&&s.used.getD i false)=false:=by
   first
    |(rw[hd,Bool.and_false];done)
    |(rw[show(a.kind !=1)=false by simpa using hd,Bool.false_and];done)
  clear early;rw[bA];refine r_ _ λbx h3 n3 u3 hbx hb1 hb2=>?_;have w3:=w.up (n':=n3) (h':=h3) aL;have f1:h3.get n=some (.row 139 [.p b.g 0]):=by rw[u3.old n (by omega)];simp (disch:=omega) only[go_sem]
  have f2:h3.get (n+1)=some (.row 3 [.i .i64 (i:Nat)]):=by rw[u3.old _ (by omega)];simp (disch:=omega) only[go_sem]
  have f3:h3.get (n+1+1)=some (.row 169 a.av):=by rw[u3.old _ (by omega)];simp (disch:=omega) only[go_sem]
  have FB:UX b.X h n h3 n3:=UX.up aL;have hn3:n+1+1<n3:=by omega
  clear u3 hd;repeat' (first|(simp (disch:=omega) only[go_sem,ub.old])|(simp (disch:=omega) only[go_sem])|(with_reducible first|apply aj|apply ah|apply ay|apply aB|apply aA|apply au)<;>intro hd<;>(rw[hd];try simp only[decide_eq_true_eq,decide_eq_false_iff_not,Bool.not_eq_true',Bool.not_eq_false']at hd)|(with_reducible refine aD ?_))
  refine vI _ (dJ C (i:Nat)) (qd C _) (mQ C _) rfl hbx hb2 (λe=>by have:=w.lt e;omega) w3 (by omega) (by kernel_rfl) RV RX ?_ ?_
  .intro q ms h4 n4 Qb hi hlen hat hrun w4 u4 hQb
   have m1:=(u4.old n (by omega) (λe=>by have:=w.lt e;omega)).trans f1;have m2:=(u4.old (n+1) (by omega) (λe=>by have:=w.lt e;omega)).trans f2;have hi2:q<ms.length:=by omega
   obtain⟨cb,co,k,t,i1,i2,i3,i4,eT⟩:=w4.iT.Qe (i:=q) (by omega);have l1:=w4.lg;have l2:=w4.lh;have l3:=w4.lu;have l4:=w4.lm;have l5:=u4.le;have tk:dJ C (i:Nat) q ms=cond ((i:Int)==k.pause) (ms.set q ⟨(bP ms q).status,(bP ms q).left,(bP ms q).got,(bP ms q).aT,true⟩) (cond ((i:Int)==k.resume) (ms.set q ⟨(bP ms q).status,(bP ms q).left,(bP ms q).got,(bP ms q).aT,false⟩) ms):=by
    unfold dJ;rw[i2,fJ hi2]
   rw[tk]at hQb;repeat' (first|(simp (disch:=omega) only[go_sem,ub.old,DW,m1,m2,w4.row,w4.ms,WB.cells,aR i1,b_ hi2,eT.el,eT.hd,eT.all,aN.av,Wy hi2])|(simp (disch:=omega) only[go_sem,DW,m1,m2,w4.row,w4.ms,WB.cells,aR i1,b_ hi2,eT.el,eT.hd,eT.all,aN.av,Wy hi2])|(with_reducible first|apply aj|apply ah|apply ay|apply aB|apply aA|apply au)<;>intro hd<;>(rw[hd];try simp only[decide_eq_true_eq,decide_eq_false_iff_not,Bool.not_eq_true',Bool.not_eq_false']at hd)|(with_reducible refine aD ?_))
   .rw[show((i:Int)==k.pause)=true by simpa using hd]at hQb
    refine hQb _ _ _ (w4.pJ (ms:=ms.set q _) ?_) (UX.refl.set (.inl b.xm) (Nat.le_refl _));simp
   .rename_i h1
    rw[show((i:Int)==k.pause)=false by simpa using h1,show((i:Int)==k.resume)=true by simpa using hd]at hQb;refine hQb _ _ _ (w4.pJ (ms:=ms.set q _) ?_) (UX.refl.set (.inl b.xm) (Nat.le_refl _));simp
   .rename_i h1
    rw[show((i:Int)==k.pause)=false by simpa using h1,show((i:Int)==k.resume)=false by simpa using hd]at hQb;exact hQb _ _ _ w4 UX.refl
  .intro h4 n4 w4 u4
   have m1:=(u4.old n (by omega) (λe=>by have:=w.lt e;omega)).trans f1;have m2:=(u4.old (n+1) (by omega) (λe=>by have:=w.lt e;omega)).trans f2;have m3:=(u4.old (n+1+1) (by omega) (λe=>by have:=w.lt e;omega)).trans f3;have l1:=w4.lg;have l2:=w4.lh;have l3:=w4.lu;have l4:=w4.lm;have l5:=u4.le;have len1:(gY (dJ C (i:Nat)) s.marks s.marks.length).length=s.marks.length:=jE (qd C _) _ (Nat.le_refl _);have mb1:MB (gY (dJ C (i:Nat)) s.marks s.marks.length):=Ak (Al C _) hm _ (Nat.le_refl _);have WJ:=FB.trans u4;have hpm:C.paused (i:Nat) s.marks=gY (dJ C (i:Nat)) s.marks s.marks.length:=rfl;generalize hpa:gY (dJ C (i:Nat)) s.marks s.marks.length=pm at*;clear FB f1 f2 f3 u4;repeat' (first|(simp (disch:=omega) only[go_sem,ub.old,m1,m2,m3,w4.row,WB.cells,eY.av])|(simp (disch:=omega) only[go_sem,m1,m2,m3,w4.row,WB.cells,eY.av])|((first|rw[bA]|rw[bU]);with_reducible refine Fy _ (w4.iT.up aL) (w4.st.up aL) (i:=(i:Nat)) (by omega) (by rw[show((i:Nat):Int).toNat=i by omega];exact ha) (λe=>by rw[show(s.eB pm).aC=s.aC from rfl,hh];exact aok.role e) λh2 n2 u2=>?_;(first|replace ub:=Up.trans ub (Up.trans aL u2)|have ub:=u2);have hle:=ub.le;clear u2)|(with_reducible first|apply aj|apply ah|apply ay|apply aB|apply aA|apply au)<;>intro hd<;>(rw[hd];try simp only[decide_eq_true_eq,decide_eq_false_iff_not,Bool.not_eq_true',Bool.not_eq_false']at hd)|(with_reducible refine aD ?_))
   rw[bA];refine r_ _ λby' h5 n5 u5 hby hb3 hb4=>?_;have w5:=w4.up (n':=n5) (h':=h5) aL;have f1:h5.get n=some (.row 139 [.p b.g 0]):=by rw[u5.old n (by omega)];simp (disch:=omega) only[go_sem,ub.old,m1]
   have f2:h5.get (n+1)=some (.row 3 [.i .i64 (i:Nat)]):=by rw[u5.old _ (by omega)];simp (disch:=omega) only[go_sem,ub.old,m2]
   have f3:h5.get (n+1+1)=some (.row 169 a.av):=by rw[u5.old _ (by omega)];simp (disch:=omega) only[go_sem,ub.old,m3]
   have f4:h5.get n4=some (.row 218 [.k 3,.f 101 [],.f 102 [],.f 97 [],.f 97 []]):=by rw[u5.old _ (by omega)];simp (disch:=omega) only[go_sem,ub.old]
   have f5:h5.get (n4+1)=some (.row 3 [.i .i64 (bO s.aC a)]):=by rw[u5.old _ (by omega)];simp (disch:=omega) only[go_sem,ub.old]
   have WK:UX b.X h n h5 n5:=WJ.trans (UX.up aL);have hn5:n4+1<n5:=by omega
   have aiF:n<=by':=by omega
   clear u5 WJ ub hle m1 m2 m3;repeat' (first|(simp (disch:=omega) only[go_sem,ub.old])|(simp (disch:=omega) only[go_sem])|(with_reducible first|apply aj|apply ah|apply ay|apply aB|apply aA|apply au)<;>intro hd<;>(rw[hd];try simp only[decide_eq_true_eq,decide_eq_false_iff_not,Bool.not_eq_true',Bool.not_eq_false']at hd)|(with_reducible refine aD ?_))
   refine vI _ (d_ C (i:Nat) (bO s.aC a)) (uH C _ _) (qg C _ _) rfl hby hb4 (λe=>by have:=w.lt e;omega) w5 (by show pm.length<=_;omega) (by kernel_rfl) RZ R3 ?_ ?_
   .intro q ms h6 n6 Qb hi hlen hat hrun w6 u6 hQb
    have hi:q<pm.length:=hi;have hlen:ms.length=pm.length:=hlen;have m1:=(u6.old n (by omega) (λe=>by have:=w.lt e;omega)).trans f1;have m2:=(u6.old (n+1) (by omega) (λe=>by have:=w.lt e;omega)).trans f2;have m4:=(u6.old n4 (by omega) (λe=>by have:=w4.lt e;omega)).trans f4;have m5:=(u6.old (n4+1) (by omega) (λe=>by have:=w4.lt e;omega)).trans f5;have hi2:q<ms.length:=by omega
    obtain⟨cb,co,k,t,i1,i2,i3,i4,eT⟩:=w6.iT.Qe (i:=q) (by omega);have xZ:=ok.clause i2;have hmb:=mb1.at_ hi;rw[show bP pm q=bP ms q from hat.symm]at hmb;have l1:=w6.lg;have l2:=w6.lh;have l3:=w6.lu;have l4:=w6.lm;have l5:=u6.le;have tk:d_ C (i:Nat) (bO s.aC a) q ms=cond ((k.act==(i:Int))&&((k.kind==4)||((bP ms q).aT==bO s.aC a))) (ms.set q ((bP ms q).hit k)) ms:=by
     unfold d_;rw[i2,fJ hi2]
    rw[tk]at hQb;have hk4:k.kind=1\/k.kind=2\/k.kind=3\/k.kind=4:=by have:=xZ.PZ;have:=xZ.P5;omega
    have no:((k.act==(i:Int))&&((k.kind==4)||((bP ms q).aT==bO s.aC a)))=false->∀h2 n2 F2,Wk h2 n2 b v C ((s.eB pm).eB ms)->UX b.X h6 n6 h2 n2->Qb .bZ h2 n2 F2:=λe=>by rw[e]at hQb;exact hQb
    have ye:((k.act==(i:Int))&&((k.kind==4)||((bP ms q).aT==bO s.aC a)))=true->∀h2 n2 F2,Wk h2 n2 b v C ((s.eB pm).eB (ms.set q ((bP ms q).hit k)))->UX b.X h6 n6 h2 n2->Qb .bZ h2 n2 F2:=λe=>by rw[e]at hQb;exact hQb
    clear hQb tk;have yt:k.act=(i:Int)->(k.kind=4\/(bP ms q).aT=bO s.aC a)->((k.act==(i:Int))&&((k.kind==4)||((bP ms q).aT==bO s.aC a)))=true:=λh1 h2=>by simp[h1,h2]
    have nt1:¬k.act=(i:Int)->((k.act==(i:Int))&&((k.kind==4)||((bP ms q).aT==bO s.aC a)))=false:=λh1=>by simp[h1]
    have nt2:¬k.kind=4->¬(bP ms q).aT=bO s.aC a->((k.act==(i:Int))&&((k.kind==4)||((bP ms q).aT==bO s.aC a)))=false:=λh1 h2=>by simp[h1,h2]
    rcases hk4 with e|e|e|e
    all_goals
     repeat' (first|(simp (disch:=omega) only[go_sem,ub.old,DX,m1,m2,m4,m5,w6.row,w6.ms,WB.cells,aR i1,cK hi2,b_ hi2,eT.el,eT.hd,eT.all,aN.av,Wv hi2,e,Int.reduceEq])|(simp (disch:=omega) only[go_sem,DX,m1,m2,m4,m5,w6.row,w6.ms,WB.cells,aR i1,cK hi2,b_ hi2,eT.el,eT.hd,eT.all,aN.av,Wv hi2,e,Int.reduceEq])|(with_reducible first|apply aj|apply ah|apply ay|apply aB|apply aA|apply au)<;>intro hd<;>(rw[hd];try simp only[decide_eq_true_eq,decide_eq_false_iff_not,Bool.not_eq_true',Bool.not_eq_false']at hd)|(with_reducible refine aD ?_))
    all_goals first
     |(refine no (nt1 hd) _ _ _ (w6.up ?_) (UX.up ?_)<;>(exact aL;done))
     |(refine no (nt2 (by omega) hd) _ _ _ (w6.up ?_) (UX.up ?_)<;>(exact aL;done))
     |skip
    all_goals rw[bU]
    .refine D_ _ (w6.up aL) hi2 (show(bP ms q).got<=1000000 by omega) (show -1000000<=(bP ms q).got by omega) i2 λh7 n7 w7 u7=>?_
     repeat' (first|(simp (disch:=omega) only[go_sem,ub.old])|(simp (disch:=omega) only[go_sem])|(with_reducible first|apply aj|apply ah|apply ay|apply aB|apply aA|apply au)<;>intro hd<;>(rw[hd];try simp only[decide_eq_true_eq,decide_eq_false_iff_not,Bool.not_eq_true',Bool.not_eq_false']at hd)|(with_reducible refine aD ?_))
     refine ye (yt ‹_› (.inr hd)) _ _ _ ?_ ((UX.up aL).trans u7);simpa [aG.hit,e]using w7
    .refine D9 _ (w6.up aL) hi2 λh7 n7 w7 u7=>?_
     repeat' (first|(simp (disch:=omega) only[go_sem,ub.old])|(simp (disch:=omega) only[go_sem])|(with_reducible first|apply aj|apply ah|apply ay|apply aB|apply aA|apply au)<;>intro hd<;>(rw[hd];try simp only[decide_eq_true_eq,decide_eq_false_iff_not,Bool.not_eq_true',Bool.not_eq_false']at hd)|(with_reducible refine aD ?_))
     refine ye (yt ‹_› (.inr hd)) _ _ _ ?_ ((UX.up aL).trans u7);simpa [aG.hit,e]using w7
    .refine Ai _ (w6.up aL) hi2 λh7 n7 w7 u7=>?_
     repeat' (first|(simp (disch:=omega) only[go_sem,ub.old])|(simp (disch:=omega) only[go_sem])|(with_reducible first|apply aj|apply ah|apply ay|apply aB|apply aA|apply au)<;>intro hd<;>(rw[hd];try simp only[decide_eq_true_eq,decide_eq_false_iff_not,Bool.not_eq_true',Bool.not_eq_false']at hd)|(with_reducible refine aD ?_))
     refine ye (yt ‹_› (.inr hd)) _ _ _ ?_ ((UX.up aL).trans u7);simpa [aG.hit,e]using w7
    .refine Ai _ (w6.up aL) hi2 λh7 n7 w7 u7=>?_
     repeat' (first|(simp (disch:=omega) only[go_sem,ub.old])|(simp (disch:=omega) only[go_sem])|(with_reducible first|apply aj|apply ah|apply ay|apply aB|apply aA|apply au)<;>intro hd<;>(rw[hd];try simp only[decide_eq_true_eq,decide_eq_false_iff_not,Bool.not_eq_true',Bool.not_eq_false']at hd)|(with_reducible refine aD ?_))
     refine ye (yt hd (.inl e)) _ _ _ ?_ ((UX.up aL).trans u7);simpa [aG.hit,e]using w7
   .intro h6 n6 w6 u6
    have m1:=(u6.old n (by omega) (λe=>by have:=w.lt e;omega)).trans f1;have m2:=(u6.old (n+1) (by omega) (λe=>by have:=w.lt e;omega)).trans f2;have m3:=(u6.old (n+1+1) (by omega) (λe=>by have:=w.lt e;omega)).trans f3;have l1:=w6.lg;have l2:=w6.lh;have l3:=w6.lu;have l4:=w6.lm;have l5:=u6.le;have len2:(gY (d_ C (i:Nat) (bO s.aC a)) pm pm.length).length=pm.length:=jE (uH C _ _) _ (Nat.le_refl _);have hac:C.wK (i:Nat) (bO s.aC a) pm=gY (d_ C (i:Nat) (bO s.aC a)) pm pm.length:=rfl;have fin:∀s2:aO,cond (a.kind !=1) (C.shift i a ((s.eB pm).eB (gY (d_ C (i:Nat) (bO s.aC a)) pm pm.length))) ((s.eB pm).eB (gY (d_ C (i:Nat) (bO s.aC a)) pm pm.length))=s2->C.act i a s=s2.eB (C.begin s2.aC s2.marks):=λs2 e=>by
     unfold aH.act;rw[hne,hpm,hac,<-e];rfl
    clear f1 f2 f3 f4 f5 hac;repeat' (first|(simp (disch:=omega) only[go_sem,ub.old,m1,m2,m3,eY.av])|(simp (disch:=omega) only[go_sem,m1,m2,m3,eY.av])|(with_reducible first|apply aj|apply ah|apply ay|apply aB|apply aA|apply au)<;>intro hd<;>(rw[hd];try simp only[decide_eq_true_eq,decide_eq_false_iff_not,Bool.not_eq_true',Bool.not_eq_false']at hd)|(with_reducible refine aD ?_))
    all_goals first
     |exact absurd hd ‹¬a.kind=1›
     |skip
    all_goals rw[bA]
    all_goals first
     |(
      have hk1:¬a.kind=1:=hd;refine KH _ w6 ok ?_ hh hu ha hd λh7 n7 w7 u7=>?_
      .show(gY (d_ C (i:Nat) (bO s.aC a)) pm pm.length).length=_;omega
      have m1':=(u7.old n (by omega) (λe=>by have:=w.lt e;omega)).trans m1;have l6:=u7.le;repeat' (first|(simp (disch:=omega) only[go_sem,ub.old,m1'])|(simp (disch:=omega) only[go_sem,m1'])|(with_reducible first|apply aj|apply ah|apply ay|apply aB|apply aA|apply au)<;>intro hd<;>(rw[hd];try simp only[decide_eq_true_eq,decide_eq_false_iff_not,Bool.not_eq_true',Bool.not_eq_false']at hd)|(with_reducible refine aD ?_))
      rw[bA];have hsl:(C.shift i a ((s.eB pm).eB (gY (d_ C (i:Nat) (bO s.aC a)) pm pm.length))).marks.length=C.clauses.length:=by
       unfold aH.shift;dsimp only;cases (a.kind !=3)with
       |true=>show(gY (d_ C (i:Nat) (bO s.aC a)) pm pm.length).length=_;omega
       |false=>
        show(gY (eD C a.give a.tgt) (gY (d_ C (i:Nat) (bO s.aC a)) pm pm.length) (gY (d_ C (i:Nat) (bO s.aC a)) pm pm.length).length).length=_;rw[jE (jV C _ _) _ (Nat.le_refl _)];omega
      have hsh:(C.shift i a ((s.eB pm).eB (gY (d_ C (i:Nat) (bO s.aC a)) pm pm.length))).aC.length=C.aC.length:=by
       unfold aH.shift;simp[hh]
      refine r9 _ w7 ok hsl hsh λh8 n8 w8 u8=>?_;repeat' (first|(simp (disch:=omega) only[go_sem,ub.old])|(simp (disch:=omega) only[go_sem])|(with_reducible first|apply aj|apply ah|apply ay|apply aB|apply aA|apply au)<;>intro hd<;>(rw[hd];try simp only[decide_eq_true_eq,decide_eq_false_iff_not,Bool.not_eq_true',Bool.not_eq_false']at hd)|(with_reducible refine aD ?_))
      refine hQ _ _ ?_ (WK.trans (u6.trans (u7.trans u8)));rw[fin _ (by rw[show(a.kind !=1)=true by simpa using hd,cond_true])];exact w8)
     |(
      have hk1:a.kind=1:=hd;refine r9 _ w6 ok ?_ hh λh8 n8 w8 u8=>?_
      .show(gY (d_ C (i:Nat) (bO s.aC a)) pm pm.length).length=_;omega
      repeat' (first|(simp (disch:=omega) only[go_sem,ub.old])|(simp (disch:=omega) only[go_sem])|(with_reducible first|apply aj|apply ah|apply ay|apply aB|apply aA|apply au)<;>intro hd<;>(rw[hd];try simp only[decide_eq_true_eq,decide_eq_false_iff_not,Bool.not_eq_true',Bool.not_eq_false']at hd)|(with_reducible refine aD ?_))
      refine hQ _ _ ?_ (WK.trans (u6.trans u8));rw[fin _ (by rw[show(a.kind !=1)=false by simpa using hd,cond_false])];exact w8)
end
end
end
section
noncomputable section
section
variable {h h':AH} {n n':Nat} {b:WB} {v:CS} {C:aH} {s:aO} {tv:TS} {Q:AV->AH->Nat->Prop}
abbrev Qf:AV:=.agg [.i .i64 0,.k 1,.k 1,.k 1]
theorem sj(C:aH):C.errno=0↔C.valid=true:=by
 unfold aH.errno aH.valid;cases C.over<;>cases (C.framed&&C.iq)<;>simp
theorem Wk.Oy(w:Wk h n b v C s):Kp (λx=>x<b.B) h n λh n=>dO h n (b.tv s) s:=λh2 n2 h3 h4=>by
 have hs:=(h4 b.bh w.lh (by have:=w.ge.2.1;omega)).trans w.hs;have us:=(h4 b.bu w.lu (by have:=w.ge.2.2.1;omega)).trans w.us;have ms:=(h4 b.bm w.lm (by have:=w.ge.2.2.2;omega)).trans w.ms;exact⟨SL.of (λ_=>rfl) (Nat.lt_of_lt_of_le w.lh h3) hs rfl rfl w.kh,SL.of (λ_=>rfl) (Nat.lt_of_lt_of_le w.lu h3) us rfl rfl w.ku,SL.of (λ_=>rfl) (Nat.lt_of_lt_of_le w.lm h3) ms rfl rfl w.km⟩
theorem xu(K:Nat)(hC:bG h n v C)(ho:C.off.length<=1000000)(xL:C.valid=false->∀h' n',Up h n h' n'->Q (.bV [Qf,.i .i64 1]) h' n')
 (AU:C.valid=true->∀tv h' n',Up h n h' n'->Kp (λx=>x<n) h' n' (λh n=>dO h n tv C.first)->Q (.bV [.agg (tv.av C.first),.i .i64 0]) h' n'):CW (EF (K+7)) 17 [.agg (v.av C)] h n Q:=by
 refine aJ c17 rfl ?_;repeat' (first|(simp (disch:=omega) only[go_sem,ub.old,m17,CS.av])|(simp (disch:=omega) only[go_sem,m17,CS.av])|((first|rw[bA]|rw[bU]);with_reducible refine w_ _ (hC.up aL) ho λ_ h2 n2 u2=>?_;(first|replace ub:=Up.trans ub (Up.trans aL u2)|have ub:=u2);have hle:=ub.le;clear u2)|(with_reducible first|apply aj|apply ah|apply ay|apply aB|apply aA|apply au)<;>intro hd<;>(rw[hd];try simp only[decide_eq_true_eq,decide_eq_false_iff_not,Bool.not_eq_true',Bool.not_eq_false']at hd)|(with_reducible refine aD ?_))
 .refine xL ?_ _ _ aL
  cases hv:C.valid with
  |false=>rfl
  |true=>exact absurd ((sj C).2 hv) hd
 .have hv:=(sj C).1 hd
  have ok:=aH.ok hv;have BX:=ok.fQ;have acC:=ok.mR;rw[bU];refine gX ZO Fz _ (hC.aC.up aL) (by have:=ok.mq;omega) λv' h3 n3 u3 g3 hb3 hex=>?_;obtain⟨bh,rfl,hrow,acD,WL⟩:=hex (λe=>ok.roles (by rw[e];rfl));clear g3 hb3 hex;have ub0:=ub;replace ub:=Up.trans ub (Up.trans aL u3);have hle:=ub.le;clear u3;repeat' (first|(simp (disch:=omega) only[go_sem,ub.old,hC.acts.len,hC.lk,ub0.old])|(simp (disch:=omega) only[go_sem,hC.acts.len,hC.lk,ub0.old])|(with_reducible first|apply aj|apply ah|apply ay|apply aB|apply aA|apply au)<;>intro hd<;>(rw[hd];try simp only[decide_eq_true_eq,decide_eq_false_iff_not,Bool.not_eq_true',Bool.not_eq_false']at hd)|(with_reducible refine aD ?_))
  generalize hh:Tr.set (Tr.set (Tr.set h3 n2 _) (n2+1) _) (n2+2) _=h4;have ux:Up h n h4 n3:=by rw[<-hh];exact aL
  have hf1:h4.get n=some (.row 27 (v.av C)):=by rw[<-hh];simp (disch:=omega) only[go_sem,ub.old]
  have hf2:h4.get (n+1)=some (.row 43 [.i .i64 0,.k 1,.k 1,.k 1]):=by rw[<-hh];simp (disch:=omega) only[go_sem,ub.old]
  obtain⟨b,Si,hbg,w4⟩:∃b:WB,b.B=n+1+1/\b.g=n2+2/\Wk h4 n3 b v C ⟨0,C.aC,List.replicate C.acts.length false,List.replicate C.clauses.length ⟨0,0,0,0,false⟩⟩:=by
   rw[<-hh];refine⟨⟨n+1+1,n2+2,bh,n2,n2+1,none,some C.acts.length,some C.clauses.length⟩,rfl,rfl,?_⟩;refine⟨?_,?_,?_,?_,by show n2+2<n3;omega,WL,by show n2<n3;omega,by show n2+1<n3;omega,λk hk=>(by cases hk),λk hk=>(by cases hk;simp),λk hk=>(by cases hk;simp),⟨by show n+1+1<=n2+2;omega,by show n+1+1<=bh;omega,by show n+1+1<=n2;omega,by show n+1+1<=n2+1;omega⟩,?_⟩
   .simp (disch:=omega) only[go_sem,WB.cells,List.length_replicate]
   .simp (disch:=omega) only[go_sem,hrow]
   .simp (disch:=omega) only[go_sem]
    exact congrArg some (congrArg (AO.row 4) (iR cb false C.acts.length))
   .simp (disch:=omega) only[go_sem]
    exact congrArg some (congrArg (AO.row 144) (iR aG.av ⟨0,0,0,0,false⟩ C.clauses.length))
   .refine((Kp.Od (n:=n+1+1) (λh' n' u=>hC.up (Up.trans ?_ u)) (λx hx=>hx)).up ub).set (.inl ?_) (Nat.le_refl _) |>.set (.inl ?_) (Nat.le_refl _) |>.set (.inl ?_) (Nat.le_refl _)
    .exact aL
    all_goals(show n+1+1<=_;omega)
  have hn3:n+1+1<=n3:=by omega
  clear hh ub ub0 hrow acD WL hle;rw[<-hbg];refine dD C.clauses.length (λk h5 n5 G=>∃ms,Wk h5 n5 b v C ⟨0,C.aC,List.replicate C.acts.length false,ms⟩/\UX b.X h4 n3 h5 n5/\ms.length=C.clauses.length/\(∀j k',j<k->C.clauses[j]?=some k'->ms[j]?=some (eF k'))/\G=[(1,.p n 0),(2,.p (n+1) 0),(6,.p b.g 0),(33,v.k)]) (by omega) (by omega) (by omega) (by omega) (λk h3 n3 G ⟨_,_,_,_,_,e⟩=>by subst e;exact⟨rfl,rfl⟩) ⟨rfl,rfl,_,⟨_,w4,UX.refl,by simp,λ_ _ h=>by omega,rfl⟩,by(repeat' (first|exact aZ|refine aW rfl ?_))⟩ ?_ ?_
  .rintro k h5 n5 G hk ⟨ms,w5,u5,hl,hms,rfl⟩
   obtain⟨cb,co,kc,t,i1,i2,i3,i4,rd⟩:=w5.iT.Qe hk;have l1:=w5.lg;have l2:=w5.lh;have l3:=w5.lu;have l4:=w5.lm;have hkm:k<ms.length:=by omega
   obtain⟨e1,e2,e3,e4,e5,e6⟩:=w5.ne;have st0:=stm (e:=144) hkm ⟨0,0,0, -1,false⟩;repeat' (first|(simp (disch:=omega) only[go_sem,ub.old,Kw,aR i1,rd.el,rd.hd,rd.all,aN.av,w5.row,w5.ms,WB.cells,b_ hkm,st0,Qc hkm])|(simp (disch:=omega) only[go_sem,Kw,aR i1,rd.el,rd.hd,rd.all,aN.av,w5.row,w5.ms,WB.cells,b_ hkm,st0,Qc hkm])|(with_reducible first|apply aj|apply ah|apply ay|apply aB|apply aA|apply au)<;>intro hd<;>(rw[hd];try simp only[decide_eq_true_eq,decide_eq_false_iff_not,Bool.not_eq_true',Bool.not_eq_false']at hd)|(with_reducible refine aD ?_))
   all_goals
    have key:∀(m:aG) j k',m=eF kc->j<k+1->C.clauses[j]?=some k'->(ms.set k m)[j]?=some (eF k'):=λm j k' em hj hk'=>by
     by_cases e:k=j
     .subst e
      rw[i2]at hk';cases hk';rw[List.getElem?_set_self hkm,em]
     .rw[List.getElem?_set_ne e];exact hms j k' (by omega) hk'
   .exact⟨rfl,rfl,_,⟨_,((w5.up aL).pJ (ms:=ms.set k ⟨0,0,0, -1,false⟩) (by simp)).pJ (ms:=ms.set k ⟨5,0,0, -1,false⟩) (by simp),((u5.trans (UX.up aL)).set (.inl b.xm) (Nat.le_refl _)).set (.inl b.xm) (Nat.le_refl _),by simp[hl],λj k'=>key _ j k' (by unfold eF;rw[hd];rfl),rfl⟩,by(repeat' (first|exact aZ|refine aW rfl ?_))⟩
   .exact⟨rfl,rfl,_,⟨_,(w5.up aL).pJ (ms:=ms.set k ⟨0,0,0, -1,false⟩) (by simp),(u5.trans (UX.up aL)).set (.inl b.xm) (Nat.le_refl _),by simp[hl],λj k'=>key _ j k' (by unfold eF;rw[hd];rfl),rfl⟩,by(repeat' (first|exact aZ|refine aW rfl ?_))⟩
  .rintro h5 n5 G ⟨ms,w5,u5,hl,hms,rfl⟩
   have acF:ms=C.clauses.map eF:=List.ext_getElem? λj=>by
    rw[List.getElem?_map];cases hc:C.clauses[j]? with
    |none=>rw[List.getElem?_eq_none_iff]at hc;rw[List.getElem?_eq_none (by omega)];rfl
    |some k'=>exact hms j k' (List.getElem?_eq_some_iff.1 hc).1 hc
   subst acF;have hX:∀x,b.X x->n+1+1<=x:=λx hx=>by
    have:=w4.ge;rcases hx with rfl|rfl|rfl|rfl<;>omega
   repeat' (first|(simp (disch:=omega) only[go_sem,ub.old])|(simp (disch:=omega) only[go_sem])|(with_reducible first|apply aj|apply ah|apply ay|apply aB|apply aA|apply au)<;>intro hd<;>(rw[hd];try simp only[decide_eq_true_eq,decide_eq_false_iff_not,Bool.not_eq_true',Bool.not_eq_false']at hd)|(with_reducible refine aD ?_))
   rw[bA];refine r9 _ w5 ok hl (by rfl) λh6 n6 w6 u6=>?_;have u46:=u5.trans u6;have q1:=(u46.old n (by omega) (λe=>by have:=hX _ e;omega)).trans hf1;have q2:=(u46.old (n+1) (by omega) (λe=>by have:=hX _ e;omega)).trans hf2;repeat' (first|(simp (disch:=omega) only[go_sem,ub.old,q2,w6.row,WB.cells])|(simp (disch:=omega) only[go_sem,q2,w6.row,WB.cells])|(with_reducible first|apply aj|apply ah|apply ay|apply aB|apply aA|apply au)<;>intro hd<;>(rw[hd];try simp only[decide_eq_true_eq,decide_eq_false_iff_not,Bool.not_eq_true',Bool.not_eq_false']at hd)|(with_reducible refine aD ?_))
   refine AU hv (b.tv C.first) _ _ ?_ ?_
   .have:=((UX.up ux).trans u46).Sg λx hx=>by have:=hX x hx;omega
    exact aL
   .exact(w6.Oy.set (.inl (by rw[Si];omega)) (Nat.le_refl _)).le λx _ hx=>by rw[Si];omega
end
end
end
noncomputable section
section
variable {h h':AH} {n n':Nat} {b:WB} {v:CS} {C:aH} {s:aO} {tv:TS} {Q:AV->AH->Nat->Prop}
theorem xw{w e b:Nat}{cells:List AV}{x:AV}{α:Type}{c:α->List AV}{l:List α}{cap:Option Nat}(hb:h.get b=some (.row e cells))(hl:cells.length=l.length*w)(hx:SL h n w x c l):pV w h n (.sl b 0 0 l.length cap) x= .ok (.i .i64 (l.length:Nat)) (h.set b (.row e (l.flatMap c))) n:=by
 have hw:=hx.1;have e1:j_ (.sl b 0 0 l.length cap)=some l.length:=rfl;have e2:Nat.min l.length l.length=l.length:=Nat.min_self _;have e3:sP (l.flatMap c) 0 cells=some (l.flatMap c):=wz (Vz (by rw[hl,bQ hw]));simp only[pV,e1,e2,hx.ap.1,hx.ap.2,aP,hb,e3];rfl
theorem aU.mb(so:aU C s):MB s.marks:=λm hm=>by
 have ok:=aH.ok so.con;obtain⟨i,hi⟩:=List.getElem?_of_mem hm;have hil:=(List.getElem?_eq_some_iff.1 hi).1;have hic:i<C.clauses.length:=by have:=so.lm;omega
 have hk:C.clauses[i]?=some C.clauses[i]:=List.getElem?_eq_some_iff.2 ⟨hic,rfl⟩;have xZ:=ok.clause hk;have h1:=so.marks i m _ hi hk;have h2:=bS.got xZ h1;have h3: -1000<=m.left/\m.left<=1000:=by
  have:=xZ.J9;have:=xZ.J_;rcases h1 with e|e|e
  .omega
  .rcases e with⟨e1|e1,e2,e3,_⟩<;>omega
  .omega
 omega
theorem vJ(K:Nat)(hC:bG h n v C)(ho:C.off.length<=1000000)(hS:dO h n tv s)(t:Int)
 (xL:(C.d9 s=false\/t< -1\/C.acts.length<=t)->∀h' n',Up h n h' n'->Q (.bV [Qf,.i .i64 1]) h' n')
 (AU:C.d9 s=true-> -1<=t->t<C.acts.length->s.day=C.days->∀h' n',Up h n h' n'->Q (.bV [Qf,.i .i64 13]) h' n')
 (IE:C.d9 s=true-> -1<=t->t<C.acts.length->s.day<C.days->∀tv h' n',Up h n h' n'->Kp (λx=>x<n) h' n' (λh n=>dO h n tv (C.bL s t))->Q (.bV [.agg (tv.av (C.bL s t)),.i .i64 0]) h' n'):CW (EF (K+8)) 18 [.agg (v.av C),.agg (tv.av s),.i .i64 t] h n Q:=by
 refine aJ c18 rfl ?_;repeat' (first|(simp (disch:=omega) only[go_sem,ub.old,m18,CS.av,TS.av,hC.acts.len,hS.aC.len,hS.used.len,hS.marks.len])|(simp (disch:=omega) only[go_sem,m18,CS.av,TS.av,hC.acts.len,hS.aC.len,hS.used.len,hS.marks.len])|((first|rw[bA]|rw[bU]);with_reducible refine iM _ (hC.up aL) ho (hS.up aL) λh2 n2 u2=>?_;(first|replace ub:=Up.trans ub (Up.trans aL u2)|have ub:=u2);have hle:=ub.le;clear u2)|(with_reducible first|apply aj|apply ah|apply ay|apply aB|apply aA|apply au)<;>intro hd<;>(rw[hd];try simp only[decide_eq_true_eq,decide_eq_false_iff_not,Bool.not_eq_true',Bool.not_eq_false']at hd)|(with_reducible refine aD ?_))
 .exact xL (.inl hd) _ _ aL
 .exact xL (.inr (.inl hd)) _ _ aL
 .exact xL (.inr (.inr hd)) _ _ aL
 .exact AU ‹_› (by omega) (by omega) hd _ _ aL
 .rename_i hst h1 h2
  have so:=(eU C s).1 hst;have ok:=aH.ok so.con;have BX:=ok.fQ;have acC:=ok.mR;have aiI:=ok.mq;have lh:=so.lh;have lu:=so.lu;have lm:=so.lm;have iZ:s.day<C.days:=by have:=so.DC;omega
  repeat' (first|(simp (disch:=omega) only[go_sem,ub.old,hS.aC.len,hS.used.len,hS.marks.len])|(simp (disch:=omega) only[go_sem,hS.aC.len,hS.used.len,hS.marks.len])|(with_reducible first|apply aj|apply ah|apply ay|apply aB|apply aA|apply au)<;>intro hd<;>(rw[hd];try simp only[decide_eq_true_eq,decide_eq_false_iff_not,Bool.not_eq_true',Bool.not_eq_false']at hd)|(with_reducible refine aD ?_))
  generalize hh:Tr.set (Tr.set (Tr.set (Tr.set _ n2 _) (n2+1) _) (n2+2) _) (n2+3) _=h4;have ux:Up h n h4 (n2+5):=by rw[<-hh];exact aL
  have hf1:h4.get n=some (.row 27 (v.av C)):=by rw[<-hh];simp (disch:=omega) only[go_sem,ub.old]
  have hf2:h4.get (n+1)=some (.row 43 (tv.av s)):=by rw[<-hh];simp (disch:=omega) only[go_sem,ub.old]
  have hf3:h4.get (n+1+1)=some (.row 43 [.i .i64 0,.k 1,.k 1,.k 1]):=by rw[<-hh];simp (disch:=omega) only[go_sem,ub.old]
  have r0:h4.get (n2+3)=some (.row 142 [.i .i64 C.aK,v.h,v.u,v.a,v.k,.i .i64 C.days,v.o,.i .i64 s.day,.sl n2 0 0 s.aC.length (some s.aC.length),.sl (n2+1) 0 0 s.used.length (some s.used.length),.sl (n2+2) 0 0 s.marks.length (some s.marks.length)]):=by rw[<-hh];simp (disch:=omega) only[go_sem]
  have r1:h4.get n2=some (.row 3 (rep s.aC.length (ci 0))):=by rw[<-hh];simp (disch:=omega) only[go_sem]
  have r2:h4.get (n2+1)=some (.row 4 (rep s.used.length (cb false))):=by rw[<-hh];simp (disch:=omega) only[go_sem]
  have r3:h4.get (n2+2)=some (.row 144 (rep s.marks.length (aG.av ⟨0,0,0,0,false⟩))):=by rw[<-hh];simp (disch:=omega) only[go_sem]
  have kc:Kp (λx=>n+1+1+1<=x) h4 (n2+5) λh n=>bG h n v C:=by
   rw[<-hh];refine(((((Kp.Od (n:=n+1+1+1) (λh' n' u=>hC.up (Up.trans ?_ u)) (λx hx=>hx)).up ub).set (.inl ?_) (Nat.le_refl _)).set (.inl ?_) (Nat.le_refl _)).set (.inl ?_) (Nat.le_refl _)).set (.inl ?_) ?_
   .exact aL
   all_goals first|omega|(show n+1+1+1<=_;omega)
  have c1:pV 1 h4 (n2+5) (.sl n2 0 0 s.aC.length (some s.aC.length)) tv.h= .ok (.i .i64 (s.aC.length:Nat)) (h4.set n2 (.row 3 (s.aC.flatMap ci))) (n2+5):=xw r1 (by rw[iR ci];rw[bQ (c:=ci) (w:=1) (λ_=>rfl)];simp) (hS.aC.up ux);have u5:Up h n (h4.set n2 (.row 3 (s.aC.flatMap ci))) (n2+5):=by exact aL
  have c2:pV 1 (h4.set n2 (.row 3 (s.aC.flatMap ci))) (n2+5) (.sl (n2+1) 0 0 s.used.length (some s.used.length)) tv.u= .ok (.i .i64 (s.used.length:Nat)) ((h4.set n2 (.row 3 (s.aC.flatMap ci))).set (n2+1) (.row 4 (s.used.flatMap cb))) (n2+5):=xw (by rw[aI (by omega)];exact r2) (by rw[iR cb];rw[bQ (c:=cb) (w:=1) (λ_=>rfl)];simp) (hS.used.up u5);have u6:Up h n ((h4.set n2 (.row 3 (s.aC.flatMap ci))).set (n2+1) (.row 4 (s.used.flatMap cb))) (n2+5):=by exact aL
  have c3:pV 5 ((h4.set n2 (.row 3 (s.aC.flatMap ci))).set (n2+1) (.row 4 (s.used.flatMap cb))) (n2+5) (.sl (n2+2) 0 0 s.marks.length (some s.marks.length)) tv.m= .ok (.i .i64 (s.marks.length:Nat)) (((h4.set n2 (.row 3 (s.aC.flatMap ci))).set (n2+1) (.row 4 (s.used.flatMap cb))).set (n2+2) (.row 144 (s.marks.flatMap aG.av))) (n2+5):=xw (by rw[aI (by omega),aI (by omega)];exact r3) (by rw[iR aG.av];rw[bQ (c:=aG.av) (w:=5) (λ_=>rfl)];simp) (hS.marks.up u6);have hle:n+1+1+1<=n2:=by omega
  clear hh ub;repeat' (first|(simp (disch:=omega) only[go_sem,ub.old,c1,c2,c3,r0,hf1,hf2,hf3,TS.av])|(simp (disch:=omega) only[go_sem,c1,c2,c3,r0,hf1,hf2,hf3,TS.av])|(with_reducible first|apply aj|apply ah|apply ay|apply aB|apply aA|apply au)<;>intro hd<;>(rw[hd];try simp only[decide_eq_true_eq,decide_eq_false_iff_not,Bool.not_eq_true',Bool.not_eq_false']at hd)|(with_reducible refine aD ?_))
  all_goals
   generalize ZR:Tr.set (Tr.set (Tr.set h4 n2 _) (n2+1) _) (n2+2) _=h7;have u7:Up h n h7 (n2+5):=by rw[<-ZR];exact aL
   have q3:h7.get (n+1+1)=some (.row 43 [.i .i64 0,.k 1,.k 1,.k 1]):=by rw[<-ZR];simp (disch:=omega) only[go_sem,hf3]
   obtain⟨b,Si,hbg,hbX,w7⟩:∃b:WB,b.B=n+1+1+1/\b.g=n2+3/\(∀x,b.X x->n+1+1+1<=x)/\Wk h7 (n2+5) b v C s:=by
    rw[<-ZR];refine⟨⟨n+1+1+1,n2+3,n2,n2+1,n2+2,some s.aC.length,some s.used.length,some s.marks.length⟩,rfl,rfl,?_,?_,?_,?_,?_,by show n2+3<n2+5;omega,by show n2<n2+5;omega,by show n2+1<n2+5;omega,by show n2+2<n2+5;omega,λk hk=>(by cases hk;exact Nat.le_refl _),λk hk=>(by cases hk;exact Nat.le_refl _),λk hk=>(by cases hk;exact Nat.le_refl _),⟨by show n+1+1+1<=n2+3;omega,by show n+1+1+1<=n2;omega,by show n+1+1+1<=n2+1;omega,by show n+1+1+1<=n2+2;omega⟩,?_⟩
    .rintro x (e|e|e|e)
     .have:x=n2+3:=e;omega
     .have:x=n2:=e;omega
     .have:x=n2+1:=e;omega
     .have:x=n2+2:=e;omega
    .simp (disch:=omega) only[go_sem,r0]
    .simp (disch:=omega) only[go_sem]
    .simp (disch:=omega) only[go_sem]
    .simp (disch:=omega) only[go_sem]
    .exact((kc.set (.inl (by show n+1+1+1<=_;omega)) (Nat.le_refl _)).set (.inl (by show n+1+1+1<=_;omega)) (Nat.le_refl _)).set (.inl (by show n+1+1+1<=_;omega)) (Nat.le_refl _)
   clear ZR c1 c2 c3 r0 r1 r2 r3 kc hf1 hf2 hf3 u5 u6;rw[<-hbg]
  .rw[bA]
   refine Ox _ w7 ok ho lm lh so.mb (by have:=so.GQ;have:=so.DC;have:=ok.PY;omega) λh8 n8 w8 u8=>?_;have p3:=(u8.old (n+1+1) (by omega) (λe=>by have:=hbX _ e;omega)).trans q3;repeat' (first|(simp (disch:=omega) only[go_sem,ub.old,p3,w8.row,WB.cells])|(simp (disch:=omega) only[go_sem,p3,w8.row,WB.cells])|(with_reducible first|apply aj|apply ah|apply ay|apply aB|apply aA|apply au)<;>intro hd<;>(rw[hd];try simp only[decide_eq_true_eq,decide_eq_false_iff_not,Bool.not_eq_true',Bool.not_eq_false']at hd)|(with_reducible refine aD ?_))
   have hst':C.bL s t=C.tick s:=by unfold aH.bL;rw[if_pos hd]
   have res:=IE hst (by omega) (by omega) iZ (b.tv (C.tick s));rw[hst']at res;refine res _ _ ?_ ?_
   .have:=((UX.up u7).trans u8).Sg λx hx=>by have:=hbX x hx;omega
    exact aL
   .exact(w8.Oy.set (.inl (by rw[Si];omega)) (Nat.le_refl _)).le λx _ hx=>by rw[Si];omega
  .rw[bA]
   obtain⟨i,rfl⟩:=Int.eq_ofNat_of_zero_le (show 0<=t by omega);obtain⟨a,ha⟩:∃a,C.acts[i]?=some a:=⟨C.acts[i]'(by omega),List.getElem?_eq_some_iff.2 ⟨by omega,rfl⟩⟩;refine KI _ w7 ok lm lh lu so.mb ha λh8 n8 w8 u8=>?_;have p3:=(u8.old (n+1+1) (by omega) (λe=>by have:=hbX _ e;omega)).trans q3;repeat' (first|(simp (disch:=omega) only[go_sem,ub.old,p3,w8.row,WB.cells])|(simp (disch:=omega) only[go_sem,p3,w8.row,WB.cells])|(with_reducible first|apply aj|apply ah|apply ay|apply aB|apply aA|apply au)<;>intro hd<;>(rw[hd];try simp only[decide_eq_true_eq,decide_eq_false_iff_not,Bool.not_eq_true',Bool.not_eq_false']at hd)|(with_reducible refine aD ?_))
   have hst':C.bL s (i:Nat)=C.act i a s:=by unfold aH.bL;rw[if_neg hd,show((i:Nat):Int).toNat=i by omega,ha]
   have res:=IE hst (by omega) (by omega) iZ (b.tv (C.act i a s));rw[hst']at res;refine res _ _ ?_ ?_
   .have:=((UX.up u7).trans u8).Sg λx hx=>by have:=hbX x hx;omega
    exact aL
   .exact(w8.Oy.set (.inl (by rw[Si];omega)) (Nat.le_refl _)).le λx _ hx=>by rw[Si];omega
end
end
end Go.Proofs.YtjoohkjmoghmoaaGreatDoor
