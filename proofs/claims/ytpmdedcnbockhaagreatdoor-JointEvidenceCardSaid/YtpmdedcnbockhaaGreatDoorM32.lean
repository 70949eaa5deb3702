/-
  JtI; JtJ; JtK; JtL; JtM; JtX; JtN; JtO; JtQ
-/
import Derived.Test.YtpmdedcnbockhaaGreatDoorM31
import Derived.Test.YtpmdedcnbockhaaGreatDoorM29
set_option maxRecDepth 100000
set_option maxHeartbeats 8000000
namespace Go.Proofs.YtpmdedcnbockhaaGreatDoor
section
open Go.RowKit Go.Shelf
def hidJ(C:aB)(P:List Int)(s:ak)(i:Nat):Bool:=(C.named s).getD i false&& !(C.sight P s i)
inductive sS (C:aB) (P:List Int) (l:List ak):ak->Prop
 |base {s:ak}:s∈l->sS C P l s
 |step {s:ak} {i:Nat}:sS C P l s->s.day<C.days->i<C.acts.length->hidJ C P s i=true->sS C P l (C.next s i)
structure Bu(C:aB)(P:List Int)(l r:List ak):Prop where
 sorted:(r.map ak.text).Pairwise (· < ·)
 few:r.length<=300
 ok:∀s∈r,bR C s
 reach:∀s∈r,sS C P l s
 has:∀s∈l,s∈r
 closed:∀s∈r,s.day<C.days->∀i,i<C.acts.length->hidJ C P s i=true->C.next s i∈r
def sU(C:aB)(P:List Int)(l:List ak):Prop:=∃F:List ak,F.Nodup/\300<F.length/\∀s∈F,sS C P l s
structure JInv(C:aB)(P:List Int)(l F:List ak)(k:Nat):Prop where
 ok:∀s∈F,bR C s
 reach:∀s∈F,sS C P l s
 closed:∀(j:Nat)(s:ak),j<k->F[j]?=some s->s.day<C.days->∀i,i<C.acts.length->hidJ C P s i=true->C.next s i∈F
section
variable {C:aB} {P:List Int} {l F:List ak} {k:Nat} {s:ak}
theorem P6(F:List ak)(s:ak){j:Nat}(hj:j<F.length):(qI F s)[j]?=F[j]?:=by
 unfold qI;cases decide (s.text∈F.map ak.text)with
 |true=>rfl
 |false=>exact nG hj
theorem P7(F:List ak)(s:ak):F.length<=(qI F s).length/\(qI F s).length<=F.length+1:=by
 unfold qI;cases decide (s.text∈F.map ak.text)with
 |true=>exact⟨bJ _,Nat.le_succ _⟩
 |false=>simp only[cond_false,pJ,xS];omega
theorem JInv.start(C:aB)(P:List Int)(l:List ak):JInv C P l [] 0:=⟨by simp,by simp,by simp⟩
theorem JInv.meet(h:JInv C P l F k)(hk:k<=F.length)(hs:bR C s)(hr:sS C P l s):JInv C P l (qI F s) k:=by
 refine⟨λx hx=>?_,λx hx=>?_,λj x hj hx hd i hi hh=>?_⟩
 .rcases ko.1 hx with hx|rfl
  .exact h.ok x hx
  .exact hs
 .rcases ko.1 hx with hx|rfl
  .exact h.reach x hx
  .exact hr
 .rw[P6 F s (by omega)]at hx
  exact ko.2 (.inl (h.closed j x hj hx hd i hi hh))
theorem JInv.done(h:JInv C P l F k)(hs:F[k]?=some s)(hc:s.day<C.days->∀i,i<C.acts.length->hidJ C P s i=true->C.next s i∈F):JInv C P l F (k+1):=by
 refine⟨h.ok,h.reach,λj x hj hx hd i hi hh=>?_⟩;by_cases e:j=k
 .subst e
  rw[hs]at hx;injection hx with hx
  subst hx;exact hc hd i hi hh
 .exact h.closed j x (by omega) hx hd i hi hh
theorem JInv.clo(h:JInv C P l F F.length)(hl:∀s∈l,s∈F){r:List ak}(hm:∀s,s∈r↔s∈F)(hs:(r.map ak.text).Pairwise (· < ·))(hr:r.length<=300):Bu C P l r:=by
 refine⟨hs,hr,λx hx=>h.ok x ((hm x).1 hx),λx hx=>h.reach x ((hm x).1 hx),λx hx=>(hm x).2 (hl x hx),λx hx hd i hi hh=>?_⟩;obtain⟨j,hj⟩:=j3.1 ((hm x).1 hx);exact(hm _).2 (h.closed j x (bC.1 hj).1 hj hd i hi hh)
theorem Lh(hO:bR C s)(hd:s.day<C.days){i:Nat}(hi:i<C.acts.length):bR C (C.next s i)/\C.eP s i=0:=by
 have ha:=aW hi;refine⟨?_,EN hO hd hi⟩;rw[OQ ha];exact Rh hO ha
end
theorem eD.get{M:Nat->Prop}{B:Nat}{w:World}{v:Value}{R:List ak}(h:eD M B w v R){i:Nat}{s:ak}(hi:R[i]?=some s):
 ∃(g c:Nat)(t:TV),v= .slice (some ⟨g,0,none⟩) R.length c/\Safe M v.ownBlock w t s/\∀j,j<4->w.cell? ⟨g,i*4+j,none⟩=(t.cells s)[j]?:=by
 obtain⟨ts,h1,h2,h3⟩:=h;have hl:i<R.length:=(bC.1 hi).1;have ht:ts[i]?=some (ts[i]'(by omega)):=aW _;rcases h2.2 with⟨_,h0⟩|⟨g,cap,cur,rfl,_⟩
 .omega
 refine⟨g,cap,ts[i]'(by omega),rfl,h3 i s _ hi ht,λj hj=>?_⟩;have hz:(R.zip ts)[i]?=some (s,ts[i]'(by omega)):=by rw[Ei];exact⟨hi,ht⟩
 have e:=dh (λp:ak×TV=>TV.cells p.2 p.1) 4 (λ_=>rfl) (R.zip ts) i j _ hz hj;have hx:((ts[i]'(by omega)).cells s)[j]?=some (((ts[i]'(by omega)).cells s)[j]'(by simpa [TV.cells,ak.cells]using hj)):=aW _;have hc:=h2.cells (g:=g) rfl (i*4+j) _ (e.trans hx);rw[hx,<-hc,Addr.add_lit,qN]
theorem tF.of{Q:TV->ak->Prop}{w:World}{b:Nat}(h:w.heap[b]?=some (.map #[] 0)):tF Q w b []:=by
 obtain⟨es,c,h1,h2⟩:=World.ownsMap_made (P:=Tryz.prog) (k:=9) (R:=R1) w;rw[bQ]at h1;injection h1 with h1
 injection h1 with e1 e2
 subst e1 e2;exact⟨.map [],⟨#[],0,h,h2⟩,rfl,List.nodup_nil,by simp,λk hk=>by cases hk⟩
theorem Y7{M:Nat->Prop}{o:Option Nat}{w W:World}{bm:Nat}{t:TV}{s:ak}(h:bF w t s)(hu:aH (λk=>k=bm) w W)(hm:fB w bm)(ho:∀k,k<w.heap.size->(some k=o\/M k)->k=bm):Safe M o W t s:=λw'' hu'=>
 h.upd (hu.trans hu' (λi hi e=>ho i hi e)) (λk hk=>by rw[hk];exact hm)
end
section
open Go.RowKit Go.Shelf Go.Sort
def P8(C:aB)(P:List Int)(l:List ak)(bm n:Nat)(w:World)(e:Ending)(w':World):Prop:=
 ∃(r:List ak)(A:Option Addr)(c:Nat)(er:Int),e= .returned (.tuple #[.slice A r.length c,.int .i64 er])/\aH (λk=>k=bm) w w'/\dO C P w' bm (n+1000000)/\
  ((er=0/\bG 0 w' ⟨A,c⟩ r/\Bu C P l r)\/(er=3/\A=none/\c=0/\r=[]/\sU C P l))
theorem C8(v:CV)(C:aB)(P:List Int){bc bk bp bm n:Nat}(sl:SV)(l:List ak)(w:World)(hC:cK w v C)(hL:bG 0 w sl l)(hO:∀s∈l,bR C s)(hT:Tab w)(hl:l.length<=1000)(hs:pG C P w bc bk bp bm n)(hn:n<=90000000000):
 Calls Tryz.prog 49 #[v.val C,.slice sl.A l.length sl.c,wS bc bk bp] w (P8 C P l bm n w):=by
 obtain⟨⟨g_,h_⟩,⟨ig,iq⟩,⟨jk,gD⟩,⟨iM,gB⟩,⟨gT,gU⟩⟩:=v;obtain⟨slA,slc⟩:=sl;have Es:fB w bm:=hs.memo.blk;have hblt:bm<w.heap.size:=by obtain⟨es,c,h⟩:=Es;exact aF h
 have HBM:=ah Es;clear Es;have HC:=ah hC;clear hC;have HL:=ah hL;clear hL;have HO:=ah hO;clear hO;have HT:=ah hT;clear hT;have HS:=ah hs;clear hs;have HN:=ah hn;clear hn;simp only[CV.val,CV.cells];unfold wS;have hmm:=@run_makeMap Tryz.prog;go_enter Tryz.func49,Tryz.ntmps49;go_upto_region 4 with(fail)
 generalize hWm:World.alloc _ _=Wm;obtain⟨HBm,h0,h1,h2,h3⟩:=bx4 hWm;clear hWm hmm;obtain⟨cq,hcq⟩:∃x,x=w.heap.size+1+1+1:=⟨_,rfl⟩;obtain⟨cm,hcm⟩:∃x,x=w.heap.size+1+1:=⟨_,rfl⟩;obtain⟨bf,hbf⟩:∃x,x=w.heap.size+1:=⟨_,rfl⟩;rw[<-hcq]at h3;rw[<-hcm,<-hbf]at h2;rw[<-hbf]at h1;rw[<-hcq,<-hcm];obtain⟨M,hMM⟩:∃M:Nat->Prop,M=λk=>k=bm\/k=bf\/k=cq:=⟨_,rfl⟩;have JN:Hid (∀k,M k↔(k=bm\/k=bf\/k=cq)):=λk=>by rw[hMM]
 clear hMM;have hwm:w.heap.size+3<Wm.heap.size:=by have:=aF h3;omega
 have HX:Hid (Own Wm 27 w.heap.size [.int .i64 C.aJ,.slice g_ C.aj.length h_,.slice ig C.units.length iq,.slice jk C.acts.length gD,.slice iM C.clauses.length gB,.int .i64 C.days,.slice gT C.off.length gU]):=⟨[],by rw[bV];exact h0⟩;have HA0:Hid (qV M Wm.heap.size cm cq bf Wm (.slice none 0 0) []):=⟨⟨[],by rw[bV];exact h2⟩,⟨[],by rw[bV];exact h3⟩,tF.of h1,eD.nil _ _ _⟩;have HIX:Hid (cq=w.heap.size+3/\cm=w.heap.size+2/\bf=w.heap.size+1):=⟨by omega,by omega,by omega⟩;clear h0 h1 h2 h3 hcq hcm hbf;have HMW:Hid (∀k,M k->k<Wm.heap.size/\k≠w.heap.size/\k≠cm):=λk hk=>by
  have:=HIX.out;rcases(JN.out k).1 hk with e|e|e<;>omega
 have HOLD:Hid (∀W,aH M Wm W->aH (λk=>k=bm) w W):=λW hu=>((aH.of_below HBm.out).mono (λi hi hle=>by omega)).trans hu (λi hi hM=>by
  have:=HIX.out;rcases(JN.out i).1 hM with e|e|e<;>omega)
 have xQ:Hid (∀k,k=bm->fB w k):=λk hk=>by rw[hk];exact HBM.out
 have Nn:Hid (∀W,aH M Wm W->uV W w.heap.size (⟨⟨g_,h_⟩,⟨ig,iq⟩,⟨jk,gD⟩,⟨iM,gB⟩,⟨gT,gU⟩⟩:CV) C):=λW hu=>⟨HC.out.upd (HOLD.out W hu) xQ.out,HX.out.keep hu (λe=>(HMW.out _ e).2.1 rfl)⟩;have HTW:Hid (∀W,aH M Wm W->Tab W):=λW hu=>HT.out.upd (HOLD.out W hu) xQ.out;have Yp:Hid (dO C P Wm bm n):=HS.out.memo.below HBm.out;have HI0:=ah (JInv.start C P l);have hl9:l.length<=9223372036854775807:=by omega
 clear HX;go_wp2
 go_loopg [23] l.length (λgk v23 wr=>∃(i:Nat)(F:List ak)(v:Value),gk=l.length - i/\i<=l.length/\v23= .int .i64 i/\Hid (qV M Wm.heap.size cm cq bf wr v F)/\F.length<=i/\F.length<=300/\Hid (JInv C P l F 0/\∀x∈l.take i,x∈F)/\Hid (aH M Wm wr)/\Hid (dO C P wr bm n))
 case atStart=>exact⟨0,[],_,rfl,aZ _,rfl,HA0,bJ _,by simp,⟨HI0.out,by simp⟩,aH.refl _ _,Yp⟩
 case round=>
  obtain⟨i,F,v,eZ,hi,rfl,HA,hFl,hF3,HI,HU,HM⟩:=hrel;have iL:=ah eZ;clear eZ;clear HA0 Yp HI0;by_cases hlt:i<l.length
  .obtain⟨s,hs⟩:∃s,l[i]?=some s:=⟨_,aW hlt⟩
   have Y8:=ah (HOLD.out wr HU.out);obtain⟨g,off,hA,hg,hcl⟩:=HL.out.form (by omega);simp only at hA;subst hA;obtain⟨⟨⟨jw,iJ⟩,⟨jN,iC⟩,⟨kP,fK⟩⟩,⟨hst,_⟩,hcells⟩:=hcl i s hs;obtain⟨e0,e1,e2,e3⟩:=rw4 (hcells w (aC _ _)) rfl;have Ip:=ah (HO.out s (bT hs));have HRE:Hid (sS C P l s):=.base (bT hs);have d0:=Y8.out.EP xQ.out e0;have d1:=Y8.out.EP xQ.out e1;have d2:=Y8.out.EP xQ.out e2;have d3:=Y8.out.EP xQ.out e3;have HTK:Hid (∀x,x∈l.take (i+1)->x∈l.take i\/x=s):=λx hx=>by
    rw[bS hs]at hx;simpa using hx
   have HST:=ah hst;have i0:(0:Int)<=(i:Int):=by omega
   have i1:(i:Int)<(l.length:Int):=by omega
   clear e0 e1 e2 e3 hcells hcl hst hs hg Y8;go_upto_region 7 with(fail)
   generalize hW1:World.alloc _ _=W1;obtain⟨hb1,iU⟩:=bx1' hW1;have nY:Hid (Own W1 48 wr.heap.size [.int .i64 s.day,.slice jw s.aj.length iJ,.slice jN s.used.length iC,.slice kP s.marks.length fK]):=⟨[],by rw[bV];exact iU⟩;have HA1:=ah (HA.out.below hb1);have BD:=ah (HU.out.on hb1);have Nk:=ah (HM.out.below hb1);clear hW1 hb1 iU d0 d1 d2 d3 HA HU HM;have x0:=nY.out.cell (i:=0) rfl;have x1:=nY.out.cell (i:=1) rfl;have x2:=nY.out.cell (i:=2) rfl;have x3:=nY.out.cell (i:=3) rfl;have had:=Uc HA1.out ((JN.out bf).2 (.inr (.inl rfl))) ((JN.out cq).2 (.inr (.inr rfl))) BD.out.size ⟨⟨jw,iJ⟩,⟨jN,iC⟩,⟨kP,fK⟩⟩ s (Y7 HST.out (HOLD.out W1 BD.out) HBM.out (λk hk h=>by
    have:=HIX.out;rcases h with h|h
    .have:=(HA1.out.V_.own h.symm).1;omega
    .rcases(JN.out k).1 h with h|h|h<;>omega)) Ip.out.ranged (HTW.out W1 BD.out) (by omega)
   simp only[TV.val,TV.cells,ak.cells]at had;have HAD:=ah had;clear had;go_wp2_with (go_at_call 77;refine HAD.out.mono ?_;rintro e z ⟨rfl,v',hA,hU,hO⟩;refine Hid.out ?_);refine ah ?_;have WL:Hid (aH M Wm z):=BD.out.trans hU (λk hk h=>by
    rcases h with h|h|h
    .have:=(HA1.out.V_.own h.symm).1;omega
    .exact(JN.out k).2 (.inr (.inl h))
    .exact(JN.out k).2 (.inr (.inr h)))
   have HMz:Hid (dO C P z bm n):=Nk.out.keep hU (λh=>by
    have:=HIX.out;rcases h with h|h|h
    .have:=(HA1.out.V_.own h.symm).1;omega
    .omega
    .omega)
   have HAz:=ah hA;have HIz:Hid (JInv C P l (qI F s) 0/\∀x∈l.take (i+1),x∈qI F s):=⟨HI.out.1.meet (aZ _) Ip.out HRE.out,λx hx=>ko.2 ((HTK.out x hx).imp (HI.out.2 x) id)⟩;have hml:=P7 F s;clear hA hU hO HAD HA1 BD Nk nY x0 x1 x2 x3 HI;generalize qI F s=F2 at HAz HIz hml⊢;by_cases h3:F2.length<=300
   .rw[decide_eq_true h3]
    go_wp2
    go_roundg (l.length - (i+1))
    case measure=>rw[iL.out];omega
    case rel=>exact⟨i+1,F2,v',rfl,by omega,by go_num,HAz,by omega,h3,HIz,WL,HMz⟩
   .rw[decide_eq_false h3]
    have HMY:Hid (sU C P l):=⟨F2,Cv HAz.out.set.nodup,by omega,HIz.out.1.reach⟩;go_wp2;try rw[Exit.noGoto_ret]
    go_ret2
    exact⟨[],none,0,3,rfl,HOLD.out z WL.out,HMz.out.mono (by omega),.inr ⟨rfl,rfl,rfl,rfl,HMY.out⟩⟩
  .obtain rfl:i=l.length:=by omega
   rw[gW]at HI;go_wp2
   go_loopg [13] 301 (λgk v13 wr=>∃(k:Nat)(F:List ak)(v:Value),gk=301 - k/\k<=F.length/\F.length<=300/\v13= .int .i64 k/\Hid (qV M Wm.heap.size cm cq bf wr v F)/\Hid (JInv C P l F k/\∀x∈l,x∈F)/\Hid (aH M Wm wr)/\Hid (dO C P wr bm (n+k*1000)))
   case atStart=>exact⟨0,F,v,rfl,aZ _,hF3,rfl,HA,HI,HU,HM⟩
   case round=>
    obtain⟨k,F,v,eZ,hk,hF3,rfl,HA,HI,HU,HM⟩:=hrel;have iL:=ah eZ;clear eZ;obtain⟨wo,e⟩:∃x,x=wr:=⟨_,rfl⟩;subst e;by_cases hlt:k<F.length
    .obtain⟨s,hs⟩:∃s,F[k]?=some s:=⟨_,aW hlt⟩
     obtain⟨g,c,⟨⟨jw,iJ⟩,⟨jN,iC⟩,⟨kP,fK⟩⟩,hv,hsf,hcl⟩:=HA.out.V_.get hs;have Ip:=ah (HI.out.1.ok s (bT hs));have HRE:=ah (HI.out.1.reach s (bT hs));have Zl:=ah hs;obtain⟨d0,d1,d2,d3⟩:=rw4 hcl rfl;have q0:=HA.out.Sk.cell (i:=0) rfl;have HOW:Hid (∀q,v.ownBlock=some q->q<wo.heap.size):=λq hq=>(HA.out.V_.own hq).2.1;rw[hv]at q0;have P5:=ah hsf;have k0:(0:Int)<=(k:Int):=by omega
     have k1:(k:Int)<(F.length:Int):=by omega
     have hwo:=HU.out.size;clear hsf hcl hs;go_upto_region 14 with(fail)
     generalize hW1:World.alloc _ _=W1;obtain⟨hb1,iU⟩:=bx1' hW1;have nY:Hid (Own W1 48 wo.heap.size [.int .i64 s.day,.slice jw s.aj.length iJ,.slice jN s.used.length iC,.slice kP s.marks.length fK]):=⟨[],by rw[bV];exact iU⟩;have HA1:=ah (HA.out.below hb1);have BD:=ah (HU.out.on hb1);have Nk:=ah (HM.out.below hb1);have aev:Hid (Safe M v.ownBlock W1 ⟨⟨jw,iJ⟩,⟨jN,iC⟩,⟨kP,fK⟩⟩ s):=P5.out.turn (aH.of_below hb1) (λk hk e=>by omega) (.inl rfl);have apU:wo.heap.size<W1.heap.size:=aF iU;clear hW1 hb1 iU d0 d1 d2 d3 q0 P5 HA HU HM;obtain⟨c0,c1,c2,c3,c4,c5,c6⟩:=(Nn.out W1 BD.out).cells;simp only at c0 c1 c2 c3 c4 c5 c6;have x0:=nY.out.cell (i:=0) rfl;have x1:=nY.out.cell (i:=1) rfl;have x2:=nY.out.cell (i:=2) rfl;have x3:=nY.out.cell (i:=3) rfl;by_cases hd:C.days<=s.day
     .have HID:Hid (JInv C P l F (k+1)/\∀x∈l,x∈F):=⟨HI.out.1.done Zl.out (λh=>by omega),HI.out.2⟩
      clear hv;go_wp2
      go_roundg (301 - (k+1))
      case measure=>rw[iL.out];omega
      case rel=>exact⟨k+1,F,v,rfl,by omega,hF3,by go_num,HA1,HID,BD,Nk.out.mono (by omega)⟩
     .have hd2:s.day<C.days:=by omega
      have BA:Hid (∀i,i<C.acts.length->bR C (C.next s i)/\C.eP s i=0/\(hidJ C P s i=true->sS C P l (C.next s i))):=λi hi=>⟨(Lh Ip.out hd2 hi).1,(Lh Ip.out hd2 hi).2,λh=>.step HRE.out hd2 hi h⟩;have hna:=Vl ⟨⟨g_,h_⟩,⟨ig,iq⟩,⟨jk,gD⟩,⟨iM,gB⟩,⟨gT,gU⟩⟩ C ⟨⟨jw,iJ⟩,⟨jN,iC⟩,⟨kP,fK⟩⟩ s W1 (Nn.out W1 BD.out).con aev.out.at Ip.out;simp only[CV.val,CV.cells,TV.val,TV.cells,ak.cells]at hna;have HNA:=ah hna;clear hna;have HV:=ah hv;clear hv;go_wp2_with (go_at_call 78;refine HNA.out.mono ?_;rintro e Z ⟨ng,nc,rfl,hng,hnb,hbz⟩;refine Hid.out ?_);refine ah ?_;have HAZ:=ah (HA1.out.below hbz);have HUZ:=ah (BD.out.on hbz);have HMZ:=ah (Nk.out.below hbz);have HXZ:=ah (nY.out.below hbz);have zW:Hid (Safe M v.ownBlock Z ⟨⟨jw,iJ⟩,⟨jN,iC⟩,⟨kP,fK⟩⟩ s):=aev.out.turn (aH.of_below hbz) (λk hk e=>by omega) (.inl rfl);have HNZ:Hid (Own Z 4 ng (jh (C.named s))):=⟨[],by rw[bV];exact hnb⟩;have hnl:(C.named s).length=C.acts.length:=t_ _ _ _;have hwz:=hbz.size;have apW:=HNZ.out.lt;have apX:=(aB.ok Ip.out.con).KN;have TF:=ah hnl;clear hnl;clear hnb hbz HNA HA1 BD Nk nY aev c0 c1 c2 c3 c4 c5 c6 x0 x1 x2 x3;have c3:=(Nn.out Z HUZ.out).kZ.cell (i:=3) rfl;simp only at c3;have HOZ:Hid (∀q,v.ownBlock=some q->q<wo.heap.size\/Z.heap.size<=q):=λq hq=>.inl (HOW.out q hq);go_wp2
      go_loopg [53] C.acts.length (λgk v53 wr=>∃(i:Nat)(F2:List ak)(v2:Value),gk=C.acts.length - i/\i<=C.acts.length/\v53= .int .i64 i/\F2.length<=300/\k<F2.length/\Hid (qV M Wm.heap.size cm cq bf wr v2 F2)/\Hid (JInv C P l F2 k/\(∀x∈l,x∈F2)/\F2[k]?=some s/\∀j,j<i->hidJ C P s j=true->C.next s j∈F2)/\Hid (aH M Wm wr)/\Hid (dO C P wr bm (n+k*1000+i))/\Hid (aH (λq=>q<wo.heap.size\/Z.heap.size<=q) Z wr)/\Hid (∀q,v2.ownBlock=some q->q<wo.heap.size\/Z.heap.size<=q)/\Hid (Safe M v2.ownBlock wr ⟨⟨jw,iJ⟩,⟨jN,iC⟩,⟨kP,fK⟩⟩ s))
      case atStart=>exact⟨0,F,v,rfl,aZ _,rfl,hF3,hlt,HAZ,⟨HI.out.1,HI.out.2,Zl.out,λj hj=>absurd hj (by omega)⟩,HUZ,HMZ,aH.refl _ _,HOZ,zW⟩
      case round=>
       obtain⟨i,F2,v2,hgi,hi,rfl,hF2,hk2,HA,HI2,HU,HM,HZ,Fq,P5⟩:=hrel;have XY:=ah hgi;clear hgi;clear c3 HAZ HUZ HMZ zW HOZ;by_cases hlt2:i<C.acts.length
       .have HXr:Hid (Own wr 48 wo.heap.size [.int .i64 s.day,.slice jw s.aj.length iJ,.slice jN s.used.length iC,.slice kP s.marks.length fK]):=HXZ.out.keep HZ.out (by omega)
        have HNr:=ah (HNZ.out.keep HZ.out (by omega));obtain⟨nb,hnb⟩:∃nb,nb=(C.named s).getD i false:=⟨_,rfl⟩;have n0:wr.cell? ⟨ng,i,none⟩=some (.bool nb):=HNr.out.cell (by rw[hnb];simp[jh,TF.out,hlt2]);have HHJ:Hid (hidJ C P s i=(nb&& !(C.sight P s i))):=by show _=_;rw[hnb];rfl
        have i0:(0:Int)<=(i:Int):=by omega
        have i1:(i:Int)<(C.acts.length:Int):=by omega
        have hnl:=TF.out;have i2:(i:Int)<((C.named s).length:Int):=by omega
        have hwr:=HU.out.size;clear hnl hnb;cases nb with
        |false=>
         have sV:Hid (JInv C P l F2 k/\(∀x∈l,x∈F2)/\F2[k]?=some s/\∀j,j<i+1->hidJ C P s j=true->C.next s j∈F2):=⟨HI2.out.1,HI2.out.2.1,HI2.out.2.2.1,λj hj hh=>by
          by_cases e:j=i
          .rw[e,HHJ.out]at hh;cases hh
          .exact HI2.out.2.2.2 j (by omega) hh⟩
         go_wp2
         go_roundg (C.acts.length - (i+1))
         case measure=>rw[XY.out];omega
         case rel=>exact⟨i+1,F2,v2,rfl,by omega,by go_num,hF2,hk2,HA,sV,HU,HM.out.mono (by omega),HZ,Fq,P5⟩
        |true=>
         have x0:=HXr.out.cell (i:=0) rfl;have x1:=HXr.out.cell (i:=1) rfl;have x2:=HXr.out.cell (i:=2) rfl;have x3:=HXr.out.cell (i:=3) rfl;have hsg:=I8 (HS.out.turn (HOLD.out wr HU.out) xQ.out HM.out) (by have:=HN.out;omega) ⟨⟨jw,iJ⟩,⟨jN,iC⟩,⟨kP,fK⟩⟩ s P5.out.at Ip.out hlt2;simp only[TV.val,TV.cells,ak.cells]at hsg;have PN:=ah hsg;clear hsg;go_wp2_with (go_at_call 75;refine PN.out.mono ?_;rintro e Y ⟨rfl,hm,hu⟩;refine Hid.out ?_);refine ah ?_;have hnb:∀q,q=bm->fB wr q/\M q:=λq hq=>by rw[hq];exact⟨HM.out.blk,(JN.out bm).2 (.inl rfl)⟩
         have hix:=HIX.out;have HAY:=ah (HA.out.Bq hu hnb (by omega));have HUY:Hid (aH M Wm Y):=HU.out.trans hu (λq hq e=>(hnb q e).2);have HMY:=ah hm;have HZY:Hid (aH (λq=>q<wo.heap.size\/Z.heap.size<=q) Z Y):=HZ.out.trans hu (λq hq e=>by left;omega);have HSY:Hid (Safe M v2.ownBlock Y ⟨⟨jw,iJ⟩,⟨jN,iC⟩,⟨kP,fK⟩⟩ s):=P5.out.turn hu (λq hq e=>.inr (hnb q e).2) (.inl rfl);have WI:=ah (HXr.out.Bq hu (λq hq=>(hnb q hq).1));clear hu hm hnb hix x0 x1 x2 x3 n0 PN HA HU HM HZ P5 HXr HNr;generalize C.sight P s i=sg at HHJ⊢;cases sg with
         |true=>
          have sV:Hid (JInv C P l F2 k/\(∀x∈l,x∈F2)/\F2[k]?=some s/\∀j,j<i+1->hidJ C P s j=true->C.next s j∈F2):=⟨HI2.out.1,HI2.out.2.1,HI2.out.2.2.1,λj hj hh=>by
           by_cases e:j=i
           .rw[e,HHJ.out]at hh;cases hh
           .exact HI2.out.2.2.2 j (by omega) hh⟩
          go_wp2
          go_roundg (C.acts.length - (i+1))
          case measure=>rw[XY.out];omega
          case rel=>exact⟨i+1,F2,v2,rfl,by omega,by go_num,hF2,hk2,HAY,sV,HUY,HMY.out.mono (by omega),HZY,Fq,HSY⟩
         |false=>
          have x0:=WI.out.cell (i:=0) rfl;have x1:=WI.out.cell (i:=1) rfl;have x2:=WI.out.cell (i:=2) rfl;have x3:=WI.out.cell (i:=3) rfl;obtain⟨c0,c1,c2,c3,c4,c5,c6⟩:=(Nn.out Y HUY.out).cells;simp only at c0 c1 c2 c3 c4 c5 c6;have hsp:=Ib ⟨⟨g_,h_⟩,⟨ig,iq⟩,⟨jk,gD⟩,⟨iM,gB⟩,⟨gT,gU⟩⟩ C ⟨⟨jw,iJ⟩,⟨jN,iC⟩,⟨kP,fK⟩⟩ s i Y (Nn.out Y HUY.out).con HSY.out.at;rw[(BA.out i hlt2).2.1]at hsp;simp only[CV.val,CV.cells,TV.val,TV.cells,ak.cells]at hsp;have Ry:=ah (hsp.mono (λ_ _ h=>h.ret));clear hsp;have En:=ah (BA.out i hlt2).1;have HRC:=ah ((BA.out i hlt2).2.2 (by rw[HHJ.out];rfl));have Nf:Hid (∀G:List ak,(∀x∈F2,x∈G)->C.next s i∈G->∀j,j<i+1->hidJ C P s j=true->C.next s j∈G):=λG h1 h2 j hj hh=>by
           by_cases e:j=i
           .rw[e];exact h2
           .exact h1 _ (HI2.out.2.2.2 j (by omega) hh)
          generalize C.next s i=s2 at Ry En HRC Nf;go_wp2_with (go_at_call 39;refine Ry.out.mono ?_;rintro e X ⟨uhA,uhc,uuA,uuc,umA,umc,rfl,OU,OV,hbx⟩;refine Hid.out ?_);refine ah ?_;have HAX:=ah (HAY.out.below hbx);have ZJ:=ah (HUY.out.on hbx);have o_:=ah (HMY.out.below hbx);have HZX:=ah (HZY.out.on hbx);have FK:Hid (Safe M v2.ownBlock X ⟨⟨jw,iJ⟩,⟨jN,iC⟩,⟨kP,fK⟩⟩ s):=HSY.out.turn (aH.of_below hbx) (λq hq e=>by omega) (.inl rfl);have HS2:Hid (Safe M v2.ownBlock X ⟨⟨uhA,uhc⟩,⟨uuA,uuc⟩,⟨umA,umc⟩⟩ s2):=Safe.new OU OV (λq hq=>by
           have:=HUY.out.size;rcases hq with hq|hq
           .exact(HAY.out.V_.own hq.symm).2.1
           .have:=(HMW.out q hq).1;omega)
          clear OU OV hbx Ry HAY HUY HMY HZY HSY WI x0 x1 x2 x3 c0 c1 c2 c3 c4 c5 c6;go_upto_region 21 with(fail)
          generalize hW3:World.alloc _ _=W3;obtain⟨hb3,hh3⟩:=bx1' hW3;have uj:Hid (Own W3 48 X.heap.size [.int .i64 s2.day,.slice uhA s2.aj.length uhc,.slice uuA s2.used.length uuc,.slice umA s2.marks.length umc]):=⟨[],by rw[bV];exact hh3⟩;have HA3:=ah (HAX.out.below hb3);have Au:=ah (ZJ.out.on hb3);have Ni:=ah (o_.out.below hb3);have HZ3:=ah (HZX.out.on hb3);have JB:Hid (Safe M v2.ownBlock W3 ⟨⟨jw,iJ⟩,⟨jN,iC⟩,⟨kP,fK⟩⟩ s):=FK.out.turn (aH.of_below hb3) (λq hq e=>by omega) (.inl rfl);have HT3:Hid (Safe M v2.ownBlock W3 ⟨⟨uhA,uhc⟩,⟨uuA,uuc⟩,⟨umA,umc⟩⟩ s2):=HS2.out.turn (aH.of_below hb3) (λq hq e=>by omega) (.inl rfl);clear hW3 hb3 hh3 HAX ZJ o_ HZX FK HS2;have x0:=uj.out.cell (i:=0) rfl;have x1:=uj.out.cell (i:=1) rfl;have x2:=uj.out.cell (i:=2) rfl;have x3:=uj.out.cell (i:=3) rfl;have had:=Uc HA3.out ((JN.out bf).2 (.inr (.inl rfl))) ((JN.out cq).2 (.inr (.inr rfl))) Au.out.size ⟨⟨uhA,uhc⟩,⟨uuA,uuc⟩,⟨umA,umc⟩⟩ s2 HT3.out En.out.ranged (HTW.out W3 Au.out) (by omega);simp only[TV.val,TV.cells,ak.cells]at had;have HAD:=ah had;clear had;go_wp2_with (go_at_call 77;refine HAD.out.mono ?_;rintro e Y ⟨rfl,v3,hA,hu,hO⟩;refine Hid.out ?_);refine ah ?_;have hix:=HIX.out;have Vd:=HZ3.out.size;have hpos:∀q,q<W3.heap.size->(some q=v2.ownBlock\/q=bf\/q=cq)->Wm.heap.size<=q/\(q<wo.heap.size\/Z.heap.size<=q)\/q=bf\/q=cq:=λq hq h=>by
           rcases h with h|h
           .exact .inl ⟨(HA3.out.V_.own h.symm).1,Fq.out q h.symm⟩
           .exact .inr h
          have Zy:Hid (aH M Wm Y):=Au.out.trans hu (λq hq h=>by
           rcases hpos q (by have:=Au.out.size;omega) h with h|h|h
           .omega
           .exact(JN.out q).2 (.inr (.inl h))
           .exact(JN.out q).2 (.inr (.inr h)))
          have HM4:Hid (dO C P Y bm (n+k*1000+i+1)):=Ni.out.keep hu (λh=>by
           rcases hpos bm (by have:=Au.out.size;omega) h with h|h|h<;>omega)
          have HZ4:Hid (aH (λq=>q<wo.heap.size\/Z.heap.size<=q) Z Y):=HZ3.out.trans hu (λq hq h=>by
           rcases hpos q (by omega) h with h|h|h
           .exact h.2
           .left;omega
           .left;omega)
          have HO4:Hid (∀q,v3.ownBlock=some q->q<wo.heap.size\/Z.heap.size<=q):=λq hq=>by
           rcases hO with h|h
           .rw[h]at hq;exact Fq.out q hq
           .have:=h q hq;right;omega
          have HS4:Hid (Safe M v3.ownBlock Y ⟨⟨jw,iJ⟩,⟨jN,iC⟩,⟨kP,fK⟩⟩ s):=JB.out.turn hu (λq hq h=>by
           rcases h with h|h|h
           .exact .inl h
           .exact .inr ((JN.out q).2 (.inr (.inl h)))
           .exact .inr ((JN.out q).2 (.inr (.inr h)))) hO
          have HA4:=ah hA;have hml:=P7 F2 s2;have sV:Hid (JInv C P l (qI F2 s2) k/\(∀x∈l,x∈qI F2 s2)/\(qI F2 s2)[k]?=some s/\∀j,j<i+1->hidJ C P s j=true->C.next s j∈qI F2 s2):=⟨HI2.out.1.meet (by omega) En.out HRC.out,λx hx=>ko.2 (.inl (HI2.out.2.1 x hx)),by rw[P6 F2 s2 hk2];exact HI2.out.2.2.1,Nf.out _ (λx hx=>ko.2 (.inl hx)) (ko.2 (.inr rfl))⟩;clear hA hu hO hix Vd hpos HAD HA3 Au Ni HZ3 JB HT3 uj x0 x1 x2 x3 Nf HI2 Fq;generalize qI F2 s2=F4 at HA4 sV hml⊢;by_cases h3:F4.length<=300
          .rw[decide_eq_true h3]
           go_wp2
           go_roundg (C.acts.length - (i+1))
           case measure=>rw[XY.out];omega
           case rel=>exact⟨i+1,F4,v3,rfl,by omega,by go_num,h3,by omega,HA4,sV,Zy,HM4.out.mono (by omega),HZ4,HO4,HS4⟩
          .rw[decide_eq_false h3]
           have HMY:Hid (sU C P l):=⟨F4,Cv HA4.out.set.nodup,by omega,sV.out.1.reach⟩;go_wp2;try rw[Exit.noGoto_ret]
           go_ret2
           exact⟨[],none,0,3,rfl,HOLD.out Y Zy.out,HM4.out.mono (by omega),.inr ⟨rfl,rfl,rfl,rfl,HMY.out⟩⟩
       .obtain rfl:i=C.acts.length:=by omega
        have HID:Hid (JInv C P l F2 (k+1)/\∀x∈l,x∈F2):=⟨HI2.out.1.done HI2.out.2.2.1 (λ_ j hj hh=>HI2.out.2.2.2 j hj hh),HI2.out.2.1⟩;go_wp2
        go_roundg (301 - (k+1))
        case measure=>rw[iL.out];omega
        case rel=>exact⟨k+1,F2,v2,rfl,by omega,hF2,by go_num,HA,HID,HU,HM.out.mono (by omega)⟩
    .obtain rfl:k=F.length:=by omega
     obtain⟨A,c,hv,hN⟩:=HA.out.V_.ret;have q0:=HA.out.Sk.cell (i:=0) rfl;rw[hv]at q0;have m0:=HA.out.D7.cell (i:=0) rfl;have hls:=SI (HA.out.set.Ub (λ_ _ h=>h.at)) (aZ _) (by omega) (λs hs=>OP (HI.out.1.ok s hs).ranged);have Yk:=ah hls;clear hls hN hv;go_wp2_with (go_at_call 79;refine Yk.out.mono ?_;rintro e z ⟨R,RA,rc,rfl,hsn,hsr,hmm,hln,hbz⟩;have HLN:=ah hln;clear hln;refine Hid.out ?_);refine ah ?_;have HJC:Hid (Bu C P l R):=HI.out.1.clo HI.out.2 hmm hsr (by have:=HLN.out;omega);have uf:=ah hsn;have WL:=ah (HU.out.on hbz);have HMz:=ah (HM.out.below hbz);clear hsn hsr hmm hbz;go_wp2
     go_ret2
     exact⟨R,RA,rc,0,rfl,HOLD.out z WL.out,HMz.out.mono (by omega),.inl ⟨rfl,uf.out,HJC.out⟩⟩
end
section
open Go.RowKit Go.Shelf Go.Sort
def aB.wU(C:aB)(P:List Int):Bool:=decide (1<=P.length)&&(decide (P.length<=12)&&P.all (λp=>decide (0<=p)&&decide (p<C.aJ)))
theorem Y9{l:List Int}{k:Nat}{x:Int}(h:l[k]?=some x)(f:Int->Bool):(l.take (k+1)).all f=((l.take k).all f&&f x):=by
 rw[bS h];simp
theorem Ui{l:List Int}{x:Int}(h:x∈l){f:Int->Bool}(hf:f x=false):l.all f=false:=by
 rw[List.all_eq_false];exact⟨x,h,by rw[hf];simp⟩
theorem Wp(v:CV)(C:aB)(A:Option Addr)(c:Nat)(P:List Int)(w:World)(hC:cK w v C)(hP:At w 1 A P.length c (aY P)):Calls Tryz.prog 47 #[v.val C,.slice A P.length c] w (dX (.bool (C.wU P)) w):=by
 obtain⟨⟨g_,h_⟩,⟨ig,iq⟩,⟨jk,gD⟩,⟨iM,gB⟩,⟨gT,gU⟩⟩:=v;have HP:=ah hP;clear hP;clear hC;simp only[CV.val,CV.cells];obtain⟨E,hE⟩:∃E,E=C.wU P:=⟨_,rfl⟩;rw[<-hE];have HE:=ah hE;clear hE;go_enter Tryz.func47,Tryz.ntmps47;go_upto_region 1 with(fail)
 generalize hW0:World.alloc _ _=W0;obtain⟨HB0,h0⟩:=bx1 hW0;have c0:W0.cell? ⟨w.heap.size,0,none⟩=some (.int .i64 C.aJ):=(aL W0 _ 0 _ _ _ h0).trans rfl;clear hW0 h0;by_cases h1:P.length<1
 .obtain rfl:E=false:=by rw[HE.out,aB.wU,decide_eq_false (by omega)];rfl
  have q1:(P.length:Int)<1:=by omega
  go_wp2;go_ret;exact⟨rfl,HB0.out⟩
 by_cases h2:12<P.length
 .obtain rfl:E=false:=by rw[HE.out,aB.wU,decide_eq_false (show¬P.length<=12 by omega),Bool.false_and,Bool.and_false]
  have q1:¬(P.length:Int)<1:=by omega
  have q2:(12:Int)<(P.length:Int):=by omega
  go_wp2;go_ret;exact⟨rfl,HB0.out⟩
 have HE2:Hid (E=P.all (λp=>decide (0<=p)&&decide (p<C.aJ))):=by show _=_;rw[HE.out,aB.wU,decide_eq_true (by omega),decide_eq_true (by omega)];rfl
 have q1:¬(P.length:Int)<1:=by omega
 have q2:¬(12:Int)<(P.length:Int):=by omega
 have hp9:P.length<=9223372036854775807:=by omega
 go_wp2
 go_loopg [17] P.length (λgk v17 wr=>∃k:Nat,gk=P.length - k/\k<=P.length/\v17= .int .i64 k/\Hid ((P.take k).all (λp=>decide (0<=p)&&decide (p<C.aJ))=true)/\wr=W0)
 case atStart=>exact⟨0,rfl,aZ _,rfl,rfl,rfl⟩
 case round=>
  obtain⟨k,eZ,hk,rfl,HA,rfl⟩:=hrel;have iL:=ah eZ;clear eZ;by_cases hlt:k<P.length
  .obtain⟨x,hx⟩:∃x,P[k]?=some x:=⟨_,aW hlt⟩
   obtain⟨pb,po,hA,hbl,hcl⟩:=(HP.out.below (by omega) HB0.out).1.form (by omega) (by omega);subst hA;have x0:wr.cell? ⟨pb,po+k,none⟩=some (.int .i64 x):=(hcl k (by omega)).trans (fI hx);have HAS:=ah (Y9 hx (λp=>decide (0<=p)&&decide (p<C.aJ)));have k0:(k:Int)<(P.length:Int):=by omega
   have k1:(0:Int)<=(k:Int):=by omega
   have HXM:=ah (bT hx);clear hcl hx;by_cases h3:x<0
   .obtain rfl:E=false:=by rw[HE2.out];exact Ui HXM.out (by simp;omega)
    go_wp2;try rw[Exit.noGoto_ret]
    go_ret;exact⟨rfl,HB0.out⟩
   .by_cases h4:C.aJ<=x
    .obtain rfl:E=false:=by rw[HE2.out];exact Ui HXM.out (by simp;omega)
     go_wp2;try rw[Exit.noGoto_ret]
     go_ret;exact⟨rfl,HB0.out⟩
    .have HAN:Hid ((P.take (k+1)).all (λp=>decide (0<=p)&&decide (p<C.aJ))=true):=by show _=_;rw[HAS.out,HA.out];simp;omega
     go_wp2
     go_roundg (P.length - (k+1))
     case measure=>rw[iL.out];omega
     case rel=>exact⟨k+1,rfl,by omega,by go_num,HAN,rfl⟩
  .obtain rfl:k=P.length:=by omega
   obtain rfl:E=true:=by rw[HE2.out,<-HA.out,gW]
   go_wp2;go_ret;exact⟨rfl,HB0.out⟩
def Av(C:aB)(P:List Int)(x:Int)(s:ak):Bool:=(!decide (C.days<=s.day))&&((x== -1)||C.sight P s x.toNat)
def ku(C:aB)(P:List Int)(x:Int)(b:List ak)(k:Nat):List ak:=((b.take k).filter (Av C P x)).map (λs=>C.next s x)
def aB.iB(C:aB)(P:List Int)(x:Int)(b:List ak):List ak:=(b.filter (Av C P x)).map (λs=>C.next s x)
theorem Km{C:aB}{P:List Int}{x:Int}{b:List ak}{k:Nat}{s:ak}(h:b[k]?=some s):ku C P x b (k+1)=ku C P x b k++cond (Av C P x s) [C.next s x] []:=by
 unfold ku;rw[take_snoc' h,List.filter_append,tK];cases hf:Av C P x s<;>simp[hf]
theorem M5(C:aB)(P:List Int)(x:Int)(b:List ak):ku C P x b b.length=C.iB P x b:=by
 unfold ku aB.iB;rw[gW]
theorem C9(C:aB)(P:List Int)(x:Int)(b:List ak)(k:Nat):(ku C P x b k).length<=b.length:=by
 unfold ku;rw[dS];exact bL (List.length_filter_le _ _) (by rw[mV];omega)
theorem Wq{C:aB}{P:List Int}{x:Int}{b:List ak}(hx:C.qJ x)(hb:∀s∈b,bR C s):∀s∈C.iB P x b,bR C s:=by
 intro s hs;unfold aB.iB at hs;obtain⟨s0,h0,rfl⟩:=dF.1 hs;obtain⟨h1,h2⟩:=List.mem_filter.1 h0;unfold Av at h2;simp only[bP,iV,decide_eq_false_iff_not]at h2;exact(DT hx (hb s0 h1) (by omega)).2
def Jf(C:aB)(P:List Int)(x:Int)(b r:List ak):Prop:=C.qJ x/\C.iB P x b≠[]/\Bu C P (C.iB P x b) r
def vY(C:aB)(P:List Int)(x:Int)(b:List ak)(er:Int):Prop:=(er=1/\¬C.qJ x)\/(C.qJ x/\((er=13/\C.iB P x b=[])\/(er=3/\sU C P (C.iB P x b))))
def SN(C:aB)(P:List Int)(x:Int)(b:List ak)(bm n:Nat)(w:World)(e:Ending)(w':World):Prop:=
 ∃(r:List ak)(A:Option Addr)(c:Nat)(er:Int),e= .returned (.tuple #[.slice A r.length c,.int .i64 er])/\aH (λk=>k=bm) w w'/\dO C P w' bm (n+2000000)/\
  ((er=0/\bG 0 w' ⟨A,c⟩ r/\Jf C P x b r)\/(er≠0/\A=none/\c=0/\r=[]/\vY C P x b er))
theorem eD.below{M:Nat->Prop}{B:Nat}{w w':World}{v:Value}{R:List ak}(h:eD M B w v R)(hb:Below w.heap.size w w'):eD M B w' v R:=
 h.keep (aH.of_below hb) (λk hk e=>by omega) (λg hg e=>by have:=(h.own hg).2.1;omega)
end
section
open Go.RowKit Go.Shelf Go.Sort
theorem eD.Bq{M S:Nat->Prop}{B:Nat}{w w':World}{v:Value}{R:List ak}(h:eD M B w v R)(hu:aH S w w')(hS:∀k,S k->fB w k/\M k):eD M B w' v R:=
 h.keep hu (λk _ e=>(hS k e).2) (λg hg e=>by
  obtain⟨_,_,cs,hc⟩:=h.own hg;obtain⟨es,c,hm⟩:=(hS _ e).1;rw[hc]at hm;cases hm)
theorem SQ(v:CV)(C:aB)(P:List Int){bc bk bp bm n:Nat}(sl:SV)(b:List ak)(x:Int)(w:World)(hC:cK w v C)(hL:bG 0 w sl b)(hO:∀s∈b,bR C s)(hT:Tab w)(hl:b.length<=1000)(hs:pG C P w bc bk bp bm n)(hn:n<=80000000000):
 Calls Tryz.prog 50 #[v.val C,.slice sl.A b.length sl.c,.int .i64 x,wS bc bk bp] w (SN C P x b bm n w):=by
 have hax:C.acts.length<=9223372036854775807:=by have h1:=hC.acts.2.2.1;have h2:=hC.acts.2.2.2;unfold maxLen at h2;omega
 obtain⟨⟨g_,h_⟩,⟨ig,iq⟩,⟨jk,gD⟩,⟨iM,gB⟩,⟨gT,gU⟩⟩:=v;obtain⟨slA,slc⟩:=sl;have Es:fB w bm:=hs.memo.blk;have hblt:bm<w.heap.size:=by obtain⟨es,c,h⟩:=Es;exact aF h
 have xQ:Hid (∀k,k=bm->fB w k):=λk hk=>by rw[hk];exact Es
 clear Es;have HC:=ah hC;clear hC;have HL:=ah hL;clear hL;have HO:=ah hO;clear hO;have HT:=ah hT;clear hT;have HS:=ah hs;clear hs;have HN:=ah hn;clear hn;simp only[CV.val,CV.cells];unfold wS;go_enter Tryz.func50,Tryz.ntmps50;go_upto_region 1 with(fail)
 generalize hW0:World.alloc _ _=W0;obtain⟨HB0,h0⟩:=bx1 hW0;have HX0:Hid (Own W0 27 w.heap.size [.int .i64 C.aJ,.slice g_ C.aj.length h_,.slice ig C.units.length iq,.slice jk C.acts.length gD,.slice iM C.clauses.length gB,.int .i64 C.days,.slice gT C.off.length gU]):=⟨[],by rw[bV];exact h0⟩;clear hW0;have hw0:w.heap.size<W0.heap.size:=aF h0;have HOLD:Hid (∀W,aH (λk=>k=bm) W0 W->aH (λk=>k=bm) w W):=λW hu=>((aH.of_below HB0.out).mono (λi hi hle=>by omega)).trans hu (λ_ _ h=>h);have Nn:Hid (∀W,aH (λk=>k=bm) W0 W->uV W w.heap.size (⟨⟨g_,h_⟩,⟨ig,iq⟩,⟨jk,gD⟩,⟨iM,gB⟩,⟨gT,gU⟩⟩:CV) C):=λW hu=>⟨HC.out.upd (HOLD.out W hu) xQ.out,HX0.out.keep hu (by omega)⟩;have HTW:Hid (∀W,aH (λk=>k=bm) W0 W->Tab W):=λW hu=>HT.out.upd (HOLD.out W hu) xQ.out;have Yp:Hid (dO C P W0 bm n):=HS.out.memo.below HB0.out;have c3:=HX0.out.cell (i:=3) rfl;clear h0;by_cases hX:C.qJ x
 case neg=>
  have hx1:¬x= -1:=λe=>hX (.inl e);have hx2:(x != -1)=true:=by simpa using hx1
  have HER:Hid (vY C P x b 1):=.inl ⟨rfl,hX⟩;by_cases h3:x<0
  .go_wp2
   go_ret2
   exact⟨[],none,0,1,rfl,HOLD.out W0 (aH.refl _ _),Yp.out.mono (by omega),.inr ⟨by omega,rfl,rfl,rfl,HER.out⟩⟩
  .have h4:(C.acts.length:Int)<=x:=by
    apply Classical.byContradiction;intro h;exact hX (.inr ⟨by omega,by omega⟩)
   go_wp2
   go_ret2
   exact⟨[],none,0,1,rfl,HOLD.out W0 (aH.refl _ _),Yp.out.mono (by omega),.inr ⟨by omega,rfl,rfl,rfl,HER.out⟩⟩
 case pos=>
 have HXO:=ah hX;clear hX;go_cut [27] (λc wx=>c= .bool false/\wx=W0)
 case first=>
  rcases HXO.out with rfl|⟨h1,h2⟩
  .go_wp2
   go_meet
   exact⟨rfl,rfl⟩
  .have hx2:(x != -1)=true:=by simp;omega
   have h3:¬x<0:=by omega
   have h4:¬(C.acts.length:Int)<=x:=by omega
   go_wp2
   go_meet
   exact⟨rfl,rfl⟩
 case rest=>
 obtain⟨rfl,e⟩:=hcut;rw[e];clear e;have hb9:b.length<=9223372036854775807:=by omega
 go_wp2
 go_loopg [30,10] b.length (λgk v30 v10 wr=>∃k:Nat,gk=b.length - k/\k<=b.length/\v30= .int .i64 k/\Hid (eD (λq=>q=bm) W0.heap.size wr v10 (ku C P x b k))/\Hid (aH (λk=>k=bm) W0 wr)/\Hid (dO C P wr bm (n+k)))
 case atStart=>exact⟨0,rfl,aZ _,rfl,eD.nil _ _ _,aH.refl _ _,Yp⟩
 case round=>
  obtain⟨k,eZ,hk,rfl,HQ,HU,HM⟩:=hrel;have iL:=ah eZ;clear eZ;clear c3 Yp;by_cases hlt:k<b.length
  .obtain⟨s,hs⟩:∃s,b[k]?=some s:=⟨_,aW hlt⟩
   have Y8:=ah (HOLD.out wr HU.out);obtain⟨g,off,hA,hg,hcl⟩:=HL.out.form (by omega);simp only at hA;subst hA;obtain⟨⟨⟨jw,iJ⟩,⟨jN,iC⟩,⟨kP,fK⟩⟩,⟨hst,_⟩,hcells⟩:=hcl k s hs;obtain⟨e0,e1,e2,e3⟩:=rw4 (hcells w (aC _ _)) rfl;have Ip:=ah (HO.out s (bT hs));have d0:=Y8.out.EP xQ.out e0;have d1:=Y8.out.EP xQ.out e1;have d2:=Y8.out.EP xQ.out e2;have d3:=Y8.out.EP xQ.out e3;have HNS:=ah (Km (C:=C) (P:=P) (x:=x) hs);have hnl:=C9 C P x b k;generalize ku C P x b k=R at HQ HNS hnl;have HST:=ah hst;have i0:(0:Int)<=(k:Int):=by omega
   have i1:(k:Int)<(b.length:Int):=by omega
   clear e0 e1 e2 e3 hcells hcl hst hs hg Y8;go_upto_region 7 with(fail)
   generalize hW1:World.alloc _ _=W1;obtain⟨hb1,iU⟩:=bx1' hW1;have nY:Hid (Own W1 48 wr.heap.size [.int .i64 s.day,.slice jw s.aj.length iJ,.slice jN s.used.length iC,.slice kP s.marks.length fK]):=⟨[],by rw[bV];exact iU⟩;have xW:=ah (HQ.out.below hb1);have BD:=ah (HU.out.on hb1);have Nk:=ah (HM.out.below hb1);clear hW1 hb1 iU d0 d1 d2 d3 HQ HU HM;have x0:=nY.out.cell (i:=0) rfl;have x1:=nY.out.cell (i:=1) rfl;have x2:=nY.out.cell (i:=2) rfl;have x3:=nY.out.cell (i:=3) rfl;have c5:=(Nn.out W1 BD.out).kZ.cell (i:=5) rfl;obtain⟨fb,HFB⟩:∃fb,Hid (Av C P x s=fb):=⟨_,rfl⟩;go_cut [49] (λc wx=>c= .bool (!fb)/\Hid (aH (λq=>q=bm) W1 wx)/\Hid (dO C P wx bm (n+(k+1))))
   case first=>
    by_cases hd:C.days<=s.day
    .obtain rfl:fb=false:=by rw[<-HFB.out,Av,decide_eq_true hd];rfl
     go_wp2
     go_meet
     exact⟨rfl,aH.refl _ _,Nk.out.mono (by omega)⟩
    .rcases HXO.out with rfl|⟨h1,h2⟩
     .obtain rfl:fb=true:=by rw[<-HFB.out,Av,decide_eq_false hd];rfl
      go_wp2
      go_meet
      exact⟨rfl,aH.refl _ _,Nk.out.mono (by omega)⟩
     .obtain⟨i,rfl⟩:∃i:Nat,x=i:=⟨x.toNat,by omega⟩
      have hx2:((i:Int)!= -1)=true:=by simp
      have HFC:Hid (C.sight P s i=fb):=by
       show _=_;rw[<-HFB.out,Av,decide_eq_false hd,show((i:Int)== -1)=false by simp];rfl
      have hsg:=I8 (HS.out.turn (HOLD.out W1 BD.out) xQ.out Nk.out) (by have:=HN.out;omega) ⟨⟨jw,iJ⟩,⟨jN,iC⟩,⟨kP,fK⟩⟩ s (HST.out.upd (HOLD.out W1 BD.out) xQ.out) Ip.out (i:=i) (by omega);simp only[TV.val,TV.cells,ak.cells]at hsg;have PN:=ah hsg;clear hsg;go_wp2_with (go_at_call 75;refine PN.out.mono ?_;rintro e Y ⟨rfl,hm,hu⟩;refine Hid.out ?_);refine ah ?_;have BF:=ah hm;have vZ:=ah hu;clear hm hu;rw[HFC.out];go_wp2
      go_meet
      exact⟨rfl,vZ,BF⟩
   case rest=>
   obtain⟨rfl,vZ,BF⟩:=hcut;have hnb:∀q,q=bm->fB W1 q:=λq hq=>by rw[hq];exact Nk.out.blk
   have Au:Hid (aH (λk=>k=bm) W0 wc):=BD.out.trans vZ.out (λ_ _ h=>h);have zn:=ah (nY.out.Bq vZ.out hnb);have FD:=ah (xW.out.Bq vZ.out (λq hq=>⟨hnb q hq,hq⟩));have Y_:=ah (HST.out.upd (HOLD.out wc Au.out) xQ.out);clear hnb vZ BD Nk nY xW x0 x1 x2 x3 c5;cases fb with
   |false=>
    have HQN:Hid (eD (λq=>q=bm) W0.heap.size wc u10 (ku C P x b (k+1))):=by
     show eD _ _ _ _ _;rw[HNS.out,HFB.out,cond_false,bV];exact FD.out
    go_wp2
    go_roundg (b.length - (k+1))
    case measure=>rw[iL.out];omega
    case rel=>exact⟨k+1,rfl,by omega,by go_num,HQN,Au,BF⟩
   |true=>
    have hd:s.day<C.days:=by
     have h:=HFB.out;unfold Av at h;simp only[bP,iV,decide_eq_false_iff_not]at h;omega
    obtain⟨ahM,_⟩:=DT HXO.out Ip.out hd;have hsp:=Ib ⟨⟨g_,h_⟩,⟨ig,iq⟩,⟨jk,gD⟩,⟨iM,gB⟩,⟨gT,gU⟩⟩ C ⟨⟨jw,iJ⟩,⟨jN,iC⟩,⟨kP,fK⟩⟩ s x wc (Nn.out wc Au.out).con Y_.out;rw[ahM]at hsp;simp only[CV.val,CV.cells,TV.val,TV.cells,ak.cells]at hsp;have Ry:=ah (hsp.mono (λ_ _ h=>h.ret));clear hsp ahM hd;have ahN:Hid (ku C P x b (k+1)=R++[C.next s x]):=by show _=_;rw[HNS.out,HFB.out];rfl
    generalize C.next s x=s2 at Ry ahN;have x0:=zn.out.cell (i:=0) rfl;have x1:=zn.out.cell (i:=1) rfl;have x2:=zn.out.cell (i:=2) rfl;have x3:=zn.out.cell (i:=3) rfl;obtain⟨c0,c1,c2,c3,c4,c5,c6⟩:=(Nn.out wc Au.out).cells;simp only at c0 c1 c2 c3 c4 c5 c6;go_wp2_with (go_at_call 39;refine Ry.out.mono ?_;rintro e X ⟨uhA,uhc,uuA,uuc,umA,umc,rfl,OU,OV,hbx⟩;refine Hid.out ?_);refine ah ?_;have HQX:=ah (FD.out.below hbx);have ZJ:=ah (Au.out.on hbx);have o_:=ah (BF.out.below hbx);have HS2:Hid (Safe (λq=>q=bm) u10.ownBlock X ⟨⟨uhA,uhc⟩,⟨uuA,uuc⟩,⟨umA,umc⟩⟩ s2):=Safe.new OU OV (λq hq=>by
     have:=Au.out.size;rcases hq with hq|hq
     .exact(FD.out.own hq.symm).2.1
     .omega)
    clear OU OV hbx Ry FD Au BF zn Y_ x0 x1 x2 x3 c0 c1 c2 c3 c4 c5 c6;go_upto_region 9 with(fail)
    generalize hW3:World.alloc _ _=W3;obtain⟨hb3,hh3⟩:=bx1' hW3;have uj:Hid (Own W3 48 X.heap.size [.int .i64 s2.day,.slice uhA s2.aj.length uhc,.slice uuA s2.used.length uuc,.slice umA s2.marks.length umc]):=⟨[],by rw[bV];exact hh3⟩;have JI:=ah (HQX.out.below hb3);have Au:=ah (ZJ.out.on hb3);have Ni:=ah (o_.out.below hb3);have HT3:Hid (Safe (λq=>q=bm) u10.ownBlock W3 ⟨⟨uhA,uhc⟩,⟨uuA,uuc⟩,⟨umA,umc⟩⟩ s2):=HS2.out.turn (aH.of_below hb3) (λq hq e=>by omega) (.inl rfl);have Vd:=Au.out.size;clear hW3 hb3 hh3 HQX ZJ o_ HS2;have x0:=uj.out.cell (i:=0) rfl;have x1:=uj.out.cell (i:=1) rfl;have x2:=uj.out.cell (i:=2) rfl;have x3:=uj.out.cell (i:=3) rfl;go_wp2_with (at_builtin;refine qj rfl _ _ rfl W0.heap.size u10 R rfl JI.out ⟨⟨uhA,uhc⟩,⟨uuA,uuc⟩,⟨umA,umc⟩⟩ s2 HT3.out _ rfl rfl (by omega) Vd ?_;intro A3 c3 W5 hq5 hu5 ho5;refine Hid.out ?_);refine ah ?_;have HQ5:Hid (eD (λq=>q=bm) W0.heap.size W5 (.slice A3 (R.length+1) c3) (ku C P x b (k+1))):=by
     show eD _ _ _ _ _;rw[ahN.out];rw[show(R++[s2]).length=R.length+1 by simp]at hq5;exact hq5
    have Cy:Hid (aH (λq=>q=bm) W0 W5):=Au.out.trans hu5 (λq hq e=>by have:=(JI.out.own e.symm).1;omega);have VL:Hid (dO C P W5 bm (n+(k+1))):=Ni.out.keep hu5 (λe=>by have:=(JI.out.own e.symm).1;omega);clear hq5 hu5 ho5 x0 x1 x2 x3 uj JI Au Ni HT3;go_wp2
    go_roundg (b.length - (k+1))
    case measure=>rw[iL.out];omega
    case rel=>exact⟨k+1,rfl,by omega,by go_num,HQ5,Cy,VL⟩
  .obtain rfl:k=b.length:=by omega
   have hnl:=C9 C P x b b.length;rw[M5]at HQ hnl;have Ru:=ah (Wq (P:=P) HXO.out HO.out);have HJA:Hid (∀r,C.iB P x b≠[]->Bu C P (C.iB P x b) r->Jf C P x b r):=λr h1 h2=>⟨HXO.out,h1,h2⟩;have HJE:Hid (∀er:Int,(er=13/\C.iB P x b=[])\/(er=3/\sU C P (C.iB P x b))->vY C P x b er):=λer h=>.inr ⟨HXO.out,h⟩;generalize C.iB P x b=NX at HQ hnl Ru HJA HJE;obtain⟨A,c,hv,hN⟩:=HQ.out.ret;subst hv;have Nv:=ah hN;clear hN;by_cases h0:NX=[]
   .have ale:=ah (HJE.out 13 (.inl ⟨rfl,h0⟩))
    subst h0;go_wp2
    go_ret2
    exact⟨[],none,0,13,rfl,HOLD.out wr HU.out,HM.out.mono (by omega),.inr ⟨by omega,rfl,rfl,rfl,ale.out⟩⟩
   .have q0:((NX.length:Int)==0)=false:=by
     have:=List.length_pos_iff.2 h0;simp;omega
    obtain⟨c0,c1,c2,c3,c4,c5,c6⟩:=(Nn.out wr HU.out).cells;simp only at c0 c1 c2 c3 c4 c5 c6;have hcl:=C8 ⟨⟨g_,h_⟩,⟨ig,iq⟩,⟨jk,gD⟩,⟨iM,gB⟩,⟨gT,gU⟩⟩ C P ⟨A,c⟩ NX wr (Nn.out wr HU.out).con Nv.out Ru.out (HTW.out wr HU.out) (by omega) (HS.out.turn (HOLD.out wr HU.out) xQ.out HM.out) (by have:=HN.out;omega);simp only[CV.val,CV.cells,wS]at hcl;have Zj:=ah hcl;clear hcl;go_wp2_with (go_at_call 49;refine Zj.out.mono ?_;rintro e z ⟨r,A2,c2,er,rfl,hu,hm,hcase⟩;refine Hid.out ?_);refine ah ?_;have HUF:Hid (aH (λq=>q=bm) w z):=(HOLD.out wr HU.out).trans hu (λ_ _ h=>h);have O_:Hid (dO C P z bm (n+2000000)):=hm.mono (by omega);have HCS:=ah hcase;clear hu hm hcase;go_wp2
    go_ret2
    refine⟨r,A2,c2,er,rfl,HUF.out,O_.out,?_⟩;rcases HCS.out with⟨rfl,h1,h2⟩|⟨rfl,rfl,rfl,rfl,h2⟩
    .exact .inl ⟨rfl,h1,HJA.out r h0 h2⟩
    .exact .inr ⟨by omega,rfl,rfl,rfl,HJE.out 3 (.inr ⟨rfl,h2⟩)⟩
end
section
open Go.RowKit Go.Shelf Go.Sort
inductive jY (C:aB) (P:List Int) (r0:List ak):List Int->List ak->Prop
 |nil:jY C P r0 [] r0
 |snoc {l:List Int} {r r':List ak} {x:Int}:jY C P r0 l r->Jf C P x r r'->jY C P r0 (l++[x]) r'
def SS(C:aB)(P:List Int)(r0:List ak)(V:List Int)(r:List ak)(er:Int):Prop:=
 (er=0/\jY C P r0 V r)\/(er≠0/\r=[]/\∃(k:Nat)(r1:List ak)(x:Int),V[k]?=some x/\jY C P r0 (V.take k) r1/\vY C P x r1 er)
def C_(C:aB)(P V:List Int)(r:List ak)(er:Int):Prop:=
 (er=1/\r=[]/\¬(C.valid=true/\C.wU P=true))\/(C.valid=true/\C.wU P=true/\((er=3/\r=[]/\sU C P [C.first])\/∃r0,Bu C P [C.first] r0/\((er=3/\r=[]/\4000<V.length)\/(V.length<=4000/\SS C P r0 V r er))))
def Za(C:aB)(P V:List Int)(w:World)(e:Ending)(w':World):Prop:=
 ∃(r:List ak)(A:Option Addr)(c:Nat)(er:Int),e= .returned (.tuple #[.slice A r.length c,.int .i64 er])/\Below w.heap.size w w'/\bG 0 w' ⟨A,c⟩ r/\C_ C P V r er
theorem bG.Zb(w:World):bG 0 w ⟨none,0⟩ []:=⟨λ_ _ _=>aZ _,[],rfl,⟨⟨rfl,by simp,λh=>absurd h (by simp)⟩,λ_=>⟨rfl,rfl⟩,bJ _,aZ _⟩,λi s t hs=>by simp at hs⟩
theorem pG.below{C:aB}{P:List Int}{w w':World}{bc bk bp bm n:Nat}(h:pG C P w bc bk bp bm n)(hb:Below w.heap.size w w'):pG C P w' bc bk bp bm n:=by
 obtain⟨⟨v,h1⟩,h2,⟨A,c,h3,h4⟩,h5⟩:=h;exact⟨⟨v,h1.below hb⟩,h2.below hb,⟨A,c,h3.below hb,h4.below (by omega) hb⟩,h5.below hb⟩
theorem P9(v:CV)(C:aB)(pA:Option Addr)(pc:Nat)(P:List Int)(vA:Option Addr)(vc:Nat)(V:List Int)(w:World)(hC:cK w v C)(hP:At w 1 pA P.length pc (aY P))(hV:At w 1 vA V.length vc (aY V))(hT:Tab w):
 Calls Tryz.prog 23 #[v.val C,.slice pA P.length pc,.slice vA V.length vc] w (Za C P V w):=by
 have hvx:V.length<=9223372036854775807:=by have h1:=hV.2.2.1;have h2:=hV.2.2.2;unfold maxLen at h2;omega
 obtain⟨⟨g_,h_⟩,⟨ig,iq⟩,⟨jk,gD⟩,⟨iM,gB⟩,⟨gT,gU⟩⟩:=v;have HC:=ah hC;clear hC;have HP:=ah hP;clear hP;have HV:=ah hV;clear hV;have HT:=ah hT;clear hT;simp only[CV.val,CV.cells];go_enter Tryz.func23,Tryz.ntmps23;go_upto_region 1 with(fail)
 generalize hW0:World.alloc _ _=W0;obtain⟨HB0,h0⟩:=bx1 hW0;have HX0:Hid (uV W0 w.heap.size ⟨⟨g_,h_⟩,⟨ig,iq⟩,⟨jk,gD⟩,⟨iM,gB⟩,⟨gT,gU⟩⟩ C):=⟨HC.out.below HB0.out,⟨[],by rw[bV];exact h0⟩⟩;clear hW0 h0 HC;obtain⟨c0,c1,c2,c3,c4,c5,c6⟩:=HX0.out.cells;simp only at c0 c1 c2 c3 c4 c5 c6;have hbe:=KT (⟨⟨g_,h_⟩,⟨ig,iq⟩,⟨jk,gD⟩,⟨iM,gB⟩,⟨gT,gU⟩⟩:CV) C W0 HX0.out.con;simp only[CV.val,CV.cells]at hbe;cases q1:C.valid with
 |false=>
  have Ud:Hid (C_ C P V [] 1):=.inl ⟨rfl,rfl,λh=>by rw[q1]at h;cases h.1⟩;have BI:Hid (Calls Tryz.prog 38 #[.agg #[.int .i64 C.aJ,.slice g_ C.aj.length h_,.slice ig C.units.length iq,.slice jk C.acts.length gD,.slice iM C.clauses.length gB,.int .i64 C.days,.slice gT C.off.length gU]] W0 (dX (.tuple #[.agg #[.int .i64 0,.slice none 0 0,.slice none 0 0,.slice none 0 0],.int .i64 1]) W0)):=by
   rw[q1]at hbe;refine hbe.mono ?_;rintro e w' ⟨hb,⟨h0,_⟩|⟨_,rfl⟩⟩
   .cases h0
   .exact⟨rfl,hb⟩
  clear hbe;go_wp2_with (go_at_call 38;refine BI.out.mono ?_;rintro e z ⟨rfl,hz⟩;refine Hid.out ?_);refine ah ?_;have YU:Hid (RowKit.Below w.heap.size w z):=ay HB0.out hz;clear hz BI HX0 c0 c1 c2 c3 c4 c5 c6;go_upto_region 2 with(fail)
  generalize hW1:World.alloc _ _=W1;obtain⟨hb1,_⟩:=bx1' hW1;have HB1:Hid (RowKit.Below w.heap.size w W1):=ay YU.out hb1;clear hW1 hb1;go_wp2
  go_ret2
  exact⟨[],none,0,1,rfl,HB1.out,bG.Zb _,Ud.out⟩
 |true=>
  have BI:Hid (Calls Tryz.prog 38 #[.agg #[.int .i64 C.aJ,.slice g_ C.aj.length h_,.slice ig C.units.length iq,.slice jk C.acts.length gD,.slice iM C.clauses.length gB,.int .i64 C.days,.slice gT C.off.length gU]] W0 (OT C.first W0)):=by
   rw[q1]at hbe;exact hbe.mono (λ_ _ h=>h.ret)
  clear hbe;have xW:=ah q1;have Ww:=ah (Co q1);clear q1;have HFE:Hid (∃s1,C.first=s1):=⟨_,rfl⟩;generalize hs1:C.first=s1 at BI Ww;have xM:=ah hs1;clear hs1 HFE;go_wp2_with (go_at_call 38;refine BI.out.mono ?_;rintro e z ⟨jw,iJ,jN,iC,kP,fK,rfl,hst,_,hz⟩;refine Hid.out ?_);refine ah ?_;have YU:Hid (RowKit.Below w.heap.size w z):=ay HB0.out hz;have HXz:=ah (HX0.out.below hz);have HST:=ah hst;clear hst hz BI HX0 c0 c1 c2 c3 c4 c5 c6;go_upto_region 2 with(fail)
  generalize hW1:World.alloc _ _=W1;obtain⟨hb1,iU⟩:=bx1' hW1;have Jy:Hid (Own W1 48 z.heap.size [.int .i64 s1.day,.slice jw s1.aj.length iJ,.slice jN s1.used.length iC,.slice kP s1.marks.length fK]):=⟨[],by rw[bV];exact iU⟩;have HB1:Hid (RowKit.Below w.heap.size w W1):=ay YU.out hb1;have nY:=ah (HXz.out.below hb1);have ahP:=ah (HST.out.below hb1);clear hW1 hb1 iU HXz HST YU;obtain⟨c0,c1,c2,c3,c4,c5,c6⟩:=nY.out.cells;simp only at c0 c1 c2 c3 c4 c5 c6;have hgr:=Wp (⟨⟨g_,h_⟩,⟨ig,iq⟩,⟨jk,gD⟩,⟨iM,gB⟩,⟨gT,gU⟩⟩:CV) C pA pc P W1 nY.out.con (HP.out.below (by omega) HB1.out);simp only[CV.val,CV.cells]at hgr;obtain⟨gq,hgq⟩:∃g,C.wU P=g:=⟨_,rfl⟩;rw[hgq]at hgr;have HGR:=ah hgr;clear hgr;have HGQ:=ah hgq;clear hgq;go_wp2_with (go_at_call 47;refine HGR.out.mono ?_;rintro e z2 ⟨rfl,hz⟩;refine Hid.out ?_);refine ah ?_;have HB2:Hid (RowKit.Below w.heap.size w z2):=ay HB1.out hz;have zn:=ah (nY.out.below hz);have L8:=ah (Jy.out.below hz);have Y_:=ah (ahP.out.below hz);clear hz HGR nY Jy ahP HB1 c0 c1 c2 c3 c4 c5 c6;cases gq with
  |false=>
   have Ud:Hid (C_ C P V [] 1):=.inl ⟨rfl,rfl,λh=>by rw[HGQ.out]at h;cases h.2⟩;go_wp2
   go_ret2
   exact⟨[],none,0,1,rfl,HB2.out,bG.Zb _,Ud.out⟩
  |true=>
   obtain⟨c0,c1,c2,c3,c4,c5,c6⟩:=zn.out.cells;simp only at c0 c1 c2 c3 c4 c5 c6;have hsi:=V9 (⟨⟨g_,h_⟩,⟨ig,iq⟩,⟨jk,gD⟩,⟨iM,gB⟩,⟨gT,gU⟩⟩:CV) C pA pc P z2 zn.out.con (HP.out.below (by omega) HB2.out);simp only[CV.val,CV.cells]at hsi;have HSI:=ah hsi;clear hsi;go_wp2_with (go_at_call 48;refine HSI.out.mono ?_;rintro e Z ⟨bc,bk,bp,bm,rfl,hsa,hz,Es⟩;refine Hid.out ?_);refine ah ?_;have HB3:Hid (RowKit.Below w.heap.size w Z):=ay HB2.out hz;have uj:=ah (zn.out.below hz);have HF3:=ah (L8.out.below hz);have ahR:=ah (Y_.out.below hz);have HSA:=ah hsa;have ap4:w.heap.size<=bm:=bL HB2.out.size Es;clear hz hsa Es HSI zn L8 Y_ c0 c1 c2 c3 c4 c5 c6;obtain⟨c0,c1,c2,c3,c4,c5,c6⟩:=uj.out.cells;simp only at c0 c1 c2 c3 c4 c5 c6;have x0:=HF3.out.cell (i:=0) rfl;have x1:=HF3.out.cell (i:=1) rfl;have x2:=HF3.out.cell (i:=2) rfl;have x3:=HF3.out.cell (i:=3) rfl;obtain⟨Zw,WK⟩:∃Zw,Hid (Zw=Z.alloc (.cells #[.int .i64 s1.day,.slice jw s1.aj.length iJ,.slice jN s1.used.length iC,.slice kP s1.marks.length fK] 48)):=⟨_,rfl⟩;have hbz:RowKit.Below Z.heap.size Z Zw:=by rw[WK.out];exact aN (aC _ _) _
   have uN:Hid (RowKit.Below w.heap.size w Zw):=ay HB3.out hbz;have Bt:=ah (uj.out.below hbz);have HS4:=ah (HSA.out.below hbz);have xQ:Hid (∀q,q=bm->fB Zw q):=λq hq=>by rw[hq];exact HS4.out.memo.blk
   have hcl:Calls Tryz.prog 49 #[.agg #[.int .i64 C.aJ,.slice g_ C.aj.length h_,.slice ig C.units.length iq,.slice jk C.acts.length gD,.slice iM C.clauses.length gB,.int .i64 C.days,.slice gT C.off.length gU],.slice (some ⟨Z.heap.size,0,none⟩) 1 1,wS bc bk bp] Zw (P8 C P [s1] bm 0 Zw):=
    C8 (⟨⟨g_,h_⟩,⟨ig,iq⟩,⟨jk,gD⟩,⟨iM,gB⟩,⟨gT,gU⟩⟩:CV) C P ⟨some ⟨Z.heap.size,0,none⟩,1⟩ [s1] Zw Bt.out.con
     (bG.one (t:=⟨⟨jw,iJ⟩,⟨jN,iC⟩,⟨kP,fK⟩⟩) (by rw[WK.out];exact bQ Z _) (ahR.out.below hbz) (YT _) (aZ _)) (λs hs=>by rw[d_]at hs;rw[hs];exact Ww.out) (HT.out.below uN.out) (by simp) HS4.out (by omega)
   rw[WK.out]at hcl;unfold wS at hcl⊢;have Zj:=ah hcl;clear hcl;go_wp2_with (go_at_call 49;refine Zj.out.mono ?_;rintro e z ⟨r0,A,c,er,rfl,hu,hm,hcase⟩;refine Hid.out ?_);refine ah ?_;rw[<-WK.out]at hu;have WL:=ah hu;have HMz:=ah hm;have Rs:Hid (∀W,aH (λq=>q=bm) Zw W->RowKit.Below w.heap.size w W):=λW hW=>uN.out.trans (hW.below uN.out.size (λk hk=>by omega));have Nn:Hid (∀W,aH (λq=>q=bm) Zw W->uV W w.heap.size (⟨⟨g_,h_⟩,⟨ig,iq⟩,⟨jk,gD⟩,⟨iM,gB⟩,⟨gT,gU⟩⟩:CV) C):=λW hW=>Bt.out.Bq hW xQ.out;have HTW:Hid (∀W,aH (λq=>q=bm) Zw W->Tab W):=λW hW=>(HT.out.below uN.out).upd hW xQ.out;have HVW:Hid (∀W,aH (λq=>q=bm) Zw W->At W 1 vA V.length vc (aY V)):=λW hW=>(HV.out.below (by omega) uN.out).upd (by omega) hW xQ.out;clear hu hm hbz Zj Bt uj HF3 ahR HSA HB3 x0 x1 x2 x3 c0 c1 c2 c3 c4 c5 c6;rcases hcase with⟨rfl,hsn,hjc⟩|⟨rfl,rfl,rfl,rfl,ab6⟩
   case inr=>
    have Ud:Hid (C_ C P V [] 3):=.inr ⟨xW.out,HGQ.out,.inl ⟨rfl,rfl,by rw[xM.out];exact ab6⟩⟩;clear ab6;go_wp2
    go_ret2
    exact⟨[],none,0,3,rfl,Rs.out z WL.out,bG.Zb _,Ud.out⟩
   case inl=>
    have uf:=ah hsn;have HJC:Hid (Bu C P [C.first] r0):=by rw[xM.out];exact hjc
    clear hsn hjc;by_cases h4:4000<V.length
    .have Ud:Hid (C_ C P V [] 3):=.inr ⟨xW.out,HGQ.out,.inr ⟨r0,HJC.out,.inl ⟨rfl,rfl,h4⟩⟩⟩
     have h5:(4000:Int)<(V.length:Int):=by omega
     go_wp2
     go_ret2
     exact⟨[],none,0,3,rfl,Rs.out z WL.out,bG.Zb _,Ud.out⟩
    .have h5:¬(4000:Int)<(V.length:Int):=by omega
     have HJW:Hid (∀r er,SS C P r0 V r er->C_ C P V r er):=λr er h=>.inr ⟨xW.out,HGQ.out,.inr ⟨r0,HJC.out,.inr ⟨by omega,h⟩⟩⟩;go_wp2
     go_loopg [46,11] V.length (λgk v46 v11 wr=>∃(k:Nat)(r:List ak)(A:Option Addr)(c:Nat),gk=V.length - k/\k<=V.length/\v46= .int .i64 k/\v11= .slice A r.length c/\Hid (bG 0 wr ⟨A,c⟩ r)/\Hid (jY C P r0 (V.take k) r)/\Hid (∀s∈r,bR C s)/\r.length<=300/\Hid (aH (λq=>q=bm) Zw wr)/\Hid (dO C P wr bm (1000000+k*2000000)))
     case atStart=>exact⟨0,r0,A,c,rfl,aZ _,rfl,rfl,uf,.nil,HJC.out.ok,HJC.out.few,WL,HMz⟩
     case round=>
      obtain⟨k,r,A,c,eZ,hk,rfl,rfl,HN,HJ,HO,hr3,HU,HM⟩:=hrel;have iL:=ah eZ;clear eZ;clear uf WL HMz;by_cases hlt:k<V.length
      .obtain⟨x,hx⟩:∃x,V[k]?=some x:=⟨_,aW hlt⟩
       obtain⟨vb,vo,hA,hbl,hvl⟩:=(HVW.out wr HU.out).1.form (by omega) (by omega);subst hA;have x0:wr.cell? ⟨vb,vo+k,none⟩=some (.int .i64 x):=(hvl k (by omega)).trans (fI hx);have HXV:=ah hx;have HTK:=ah (bS hx);have k0:(0:Int)<=(k:Int):=by omega
       have k1:(k:Int)<(V.length:Int):=by omega
       obtain⟨c0,c1,c2,c3,c4,c5,c6⟩:=(Nn.out wr HU.out).cells;simp only at c0 c1 c2 c3 c4 c5 c6;have haf:=SQ (⟨⟨g_,h_⟩,⟨ig,iq⟩,⟨jk,gD⟩,⟨iM,gB⟩,⟨gT,gU⟩⟩:CV) C P ⟨A,c⟩ r x wr (Nn.out wr HU.out).con HN.out HO.out (HTW.out wr HU.out) (by omega) (HS4.out.turn HU.out xQ.out HM.out) (by omega);simp only[CV.val,CV.cells,wS]at haf;have HAF:=ah haf;clear haf;clear hx hvl;go_wp2_with (go_at_call 50;refine HAF.out.mono ?_;rintro e Y ⟨r',A',c',er,rfl,hu,hm,hcase⟩;refine Hid.out ?_);refine ah ?_;have HUY:Hid (aH (λq=>q=bm) Zw Y):=HU.out.trans hu (λ_ _ h=>h);have HMY:Hid (dO C P Y bm (1000000+(k+1)*2000000)):=hm.mono (by omega);clear hu hm HAF HU HM c0 c1 c2 c3 c4 c5 c6 x0;rcases hcase with⟨rfl,hsn,hja⟩|⟨hne,rfl,rfl,rfl,hje⟩
       .have uf:=ah hsn
        have HJN:Hid (jY C P r0 (V.take (k+1)) r'):=by show jY _ _ _ _ _;rw[HTK.out];exact .snoc HJ.out hja
        have Zx:=ah hja.2.2.ok;have alg:=hja.2.2.few;clear hsn hja;go_wp2
        go_roundg (V.length - (k+1))
        case measure=>rw[iL.out];omega
        case rel=>exact⟨k+1,r',A',c',rfl,by omega,by go_num,rfl,uf,HJN,Zx,alg,HUY,HMY⟩
       .have Ud:=ah (HJW.out [] er (.inr ⟨hne,rfl,k,r,x,HXV.out,HJ.out,hje⟩))
        have hq:(er !=0)=true:=by simpa using hne
        clear hje hne;go_wp2;try rw[Exit.noGoto_ret]
        go_ret2
        exact⟨[],none,0,er,rfl,Rs.out Y HUY.out,bG.Zb _,Ud.out⟩
      .obtain rfl:k=V.length:=by omega
       rw[gW]at HJ;have Ud:=ah (HJW.out r 0 (.inl ⟨rfl,HJ.out⟩));go_wp2
       go_ret2
       exact⟨r,A,c,0,rfl,Rs.out wr HU.out,HN.out,Ud.out⟩
end
section
open Go.RowKit Go.Shelf
def alh:aU:=⟨1,0,0,1,[],1,0,false,true, -1, -1,⟨0,1⟩, -1, -1,false⟩
def gV:aB:=⟨3,[0,1,2],[],[⟨1,0,0,1, -1,⟨0,1⟩⟩],[alh],2,[]⟩
theorem M6(w:World):Calls Tryz.prog 29 #[] w (aeh gV w):=by
 go_enter Tryz.func29,Tryz.ntmps29;go_wp2;generalize hW0:World.alloc _ _=W0;obtain⟨HB,hh0,_,zV,hh3,Ql⟩:=bx5 hW0;clear hW0;have o0:Own W0 27 w.heap.size [.int .i64 3,.slice (some ⟨w.heap.size+1+1,0,none⟩) 3 3,.slice none 0 0,.slice (some ⟨w.heap.size+1+1+1,0,none⟩) 1 1,.slice (some ⟨w.heap.size+1+1+1+1,0,none⟩) 1 1,.int .i64 2,.slice none 0 0]:=⟨[],by rw[bV];exact hh0⟩;have g0:=o0.cell (i:=0) rfl;have g1:=o0.cell (i:=1) rfl;have g2:=o0.cell (i:=2) rfl;have g3:=o0.cell (i:=3) rfl;have g4:=o0.cell (i:=4) rfl;have g5:=o0.cell (i:=5) rfl;have g6:=o0.cell (i:=6) rfl;refine bodyPost_ret (v:=.agg #[.int .i64 3,.slice (some ⟨w.heap.size+1+1,0,none⟩) 3 3,.slice none 0 0,.slice (some ⟨w.heap.size+1+1+1,0,none⟩) 1 1,.slice (some ⟨w.heap.size+1+1+1+1,0,none⟩) 1 1,.int .i64 2,.slice none 0 0]) (by simp[results,Tryz.results29,go_sem,g0,g1,g2,g3,g4,g5,g6]) rfl ⟨_,_,_,_,_,_,_,_,_,_,rfl,?_,HB.out⟩;refine⟨?_,fJ _ _,?_,?_,fJ _ _⟩
 .exact zl zV rfl (by decide) (by unfold maxLen;decide)
 .exact zl hh3 rfl (by decide) (by unfold maxLen;decide)
 .refine⟨[⟨none,0⟩],rfl,?_,?_⟩
  .exact zl Ql rfl (by decide) (by unfold maxLen;decide)
  .intro i k st hk hst
   cases i with
   |zero=>
    simp[gV]at hk hst;subst hk hst;exact fJ _ _
   |succ i=>simp[gV]at hk
end
section
open Go.RowKit Go.Shelf
section
variable {C:aB} {P:List Int} {l S r:List ak}
theorem sS.sub(h0:∀s∈l,s∈S)(h1:∀s∈S,s.day<C.days->∀i,i<C.acts.length->hidJ C P s i=true->C.next s i∈S){s:ak}(h:sS C P l s):s∈S:=by
 induction h with
 |base hs=>exact h0 _ hs
 |step _ hd hi hx ih=>exact h1 _ ih hd _ hi hx
theorem SY{F S:List ak}(hn:F.Nodup)(hs:∀s∈F,s∈S):F.length<=S.length:=by
 induction F generalizing S with
 |nil=>exact aZ _
 |cons a F ih=>
  obtain⟨S1,S2,rfl⟩:=List.append_of_mem (hs a (List.mem_cons_self));rw[List.nodup_cons]at hn;have h1:=ih (S:=S1++S2) hn.2 (λs hs'=>by
   have h2:=hs s (jf _ hs');rw[dJ,dI]at h2;rw[dJ];rcases h2 with h2|rfl|h2
   .exact .inl h2
   .exact absurd hs' hn.1
   .exact .inr h2)
  simp only[pJ,iN]at h1⊢;omega
theorem Bu.nodup(h:Bu C P l r):r.Nodup:=by
 have h1:=h.sorted;rw[List.pairwise_map]at h1;refine h1.imp ?_;intro a b hlt e;subst e;exact absurd hlt (List.lt_irrefl _)
theorem sU.not(h0:∀s∈l,s∈S)(h1:∀s∈S,s.day<C.days->∀i,i<C.acts.length->hidJ C P s i=true->C.next s i∈S)(hl:S.length<=300):¬sU C P l:=by
 rintro⟨F,hn,h3,hr⟩;have:=SY hn (λs hs=>(hr s hs).sub h0 h1);omega
theorem Bu.same(h:Bu C P l r)(h0:∀s∈l,s∈S)(h1:∀s∈S,s.day<C.days->∀i,i<C.acts.length->hidJ C P s i=true->C.next s i∈S)(h2:∀s∈S,s∈r)(hn:S.Nodup):r.Perm S:=
 (List.perm_ext_iff_of_nodup h.nodup hn).2 (λs=>⟨λhs=>(h.reach s hs).sub h0 h1,h2 s⟩)
end
theorem Zc{a:ak}{r:List ak}(h:r.Perm [a]):r=[a]:=List.perm_singleton.1 h
theorem P_{a b:ak}{r:List ak}(h:r.Perm [a,b]):r=[a,b]\/r=[b,a]:=by
 have hl:=h.length_eq
 match r,hl with
 |[x,y],_=>
  have hx:=h.mem_iff (a:=x);have hy:=h.mem_iff (a:=y);simp only[dI,gN,or_false,true_or,or_true,true_iff]at hx hy;rcases hx with rfl|rfl
  .have:=(List.perm_cons x).1 h
   exact .inl (by rw[List.perm_singleton.1 this])
  .have h2:[x,y].Perm [x,a]:=h.trans (List.Perm.swap _ _ _)
   have:=(List.perm_cons x).1 h2;exact .inr (by rw[List.perm_singleton.1 this])
def FC:ak:=gV.first
def Qa:ak:=gV.next FC 0
def S9:ak:=gV.next FC (-1)
def Uj:ak:=gV.next Qa (-1)
theorem Zd:gV.valid=true:=by kernel_rfl
theorem ahS:FC≠Qa:=λe=>by
 have h:(FC.marks.map (λm=>m.status))=(Qa.marks.map (λm=>m.status)):=by rw[e]
 exact absurd h (by decide)
theorem aew:S9≠Uj:=λe=>by
 have h:(S9.marks.map (λm=>m.status))=(Uj.marks.map (λm=>m.status)):=by rw[e]
 exact absurd h (by decide)
theorem M7:gV.qJ (-1):=.inl rfl
theorem Uk:gV.qJ 0:=.inr ⟨by decide,by decide⟩
def Calm(P:List Int)(s:ak):Prop:=∀i,i<gV.acts.length->hidJ gV P s i=false
theorem FZ{P:List Int}{s:ak}(h:hidJ gV P s 0=false):Calm P s:=λi hi=>by
 have:i=0:=by have h:gV.acts.length=1:=rfl;omega
 rw[this];exact h
theorem uy{P:List Int}{S:List ak}(h:∀s∈S,Calm P s):∀s∈S,s.day<gV.days->∀i,i<gV.acts.length->hidJ gV P s i=true->gV.next s i∈S:=λs hs _ i hi hh=>by
 rw[h s hs i hi]at hh;cases hh
theorem Qb{P:List Int}{a:ak}{r:List ak}(h:Bu gV P [a] r)(ha:hidJ gV P a 0=false):r=[a]:=
 Zc (h.same (λ_ h=>h) (uy (λs hs=>by rw[d_.1 hs];exact FZ ha)) h.has (by simp))
theorem Ul{P:List Int}{x:Int}{b N:List ak}{S:List ak}(hN:gV.iB P x b=N)(hx:gV.qJ x)(hn:N≠[])(hS:∀s∈N,s∈S)(hc:∀s∈S,hidJ gV P s 0=false)(hl:S.length<=300){er:Int}:¬vY gV P x b er:=by
 subst hN;rintro(⟨_,h⟩|⟨_,⟨_,h⟩|⟨_,h⟩⟩)
 .exact h hx
 .exact hn h
 .exact sU.not hS (uy (λs hs=>FZ (hc s hs))) hl h
theorem Jg{P:List Int}{x:Int}{b:List ak}{a:ak}(hN:gV.iB P x b=[a])(hx:gV.qJ x)(hc:hidJ gV P a 0=false){er:Int}:¬vY gV P x b er:=
 Ul (S:=[a]) hN hx (by simp) (λ_ h=>h) (λs hs=>by rw[d_.1 hs];exact hc) (by simp)
theorem Ed{P:List Int}{x:Int}{b r:List ak}{a:ak}(h:Jf gV P x b r)(hN:gV.iB P x b=[a])(hc:hidJ gV P a 0=false):r=[a]:=by
 have h2:=h.2.2;rw[hN]at h2;exact Qb h2 hc
theorem Um{P:List Int}{r:List ak}(hP:hidJ gV P FC 0=false)(h:Bu gV P [gV.first] r):r=[FC]:=Qb (a:=FC) h hP
theorem Jh:∀s∈[FC,Qa],s.day<gV.days->∀i,i<gV.acts.length->hidJ gV [2] s i=true->gV.next s i∈[FC,Qa]:=by
 intro s hs _ i hi hh;have:i=0:=by have h:gV.acts.length=1:=rfl;omega
 subst this;simp only[dI,gN,or_false]at hs;rcases hs with rfl|rfl
 .exact jf _ (d_.2 rfl)
 .exact absurd hh (by decide+kernel)
theorem Un{r:List ak}(h:Bu gV [2] [gV.first] r):r=[FC,Qa]\/r=[Qa,FC]:=by
 have h0:FC∈r:=h.has FC (d_.2 rfl);have hS:Qa∈r:=h.closed FC h0 (by decide) 0 (by decide) (by decide+kernel);refine P_ (h.same (S:=[FC,Qa]) (λs hs=>by rw[d_]at hs;rw[hs];exact List.mem_cons_self) Jh (λs hs=>?_) (by simp[ahS]));simp only[dI,gN,or_false]at hs;rcases hs with rfl|rfl
 .exact h0
 .exact hS
theorem Qc:¬sU gV [2] [gV.first]:=sU.not (S:=[FC,Qa]) (λs hs=>by rw[d_]at hs;rw[hs];exact List.mem_cons_self) Jh (by decide)
theorem Uo{P:List Int}(hP:hidJ gV P FC 0=false):¬sU gV P [gV.first]:=sU.not (S:=[FC]) (λ_ h=>h) (uy (λs hs=>by rw[d_.1 hs];exact FZ hP)) (by decide)
theorem jY.uz{C:aB}{P:List Int}{r0 r:List ak}(h:jY C P r0 [] r):r=r0:=by
 generalize hl:([]:List Int)=l at h;cases h with
 |nil=>rfl
 |snoc=>simp at hl
theorem jY.zo{C:aB}{P:List Int}{r0 r:List ak}{l:List Int}{x:Int}(h:jY C P r0 (l++[x]) r):∃r1,jY C P r0 l r1/\Jf C P x r1 r:=by
 generalize hl:l++[x]=m at h;cases h with
 |nil=>simp at hl
 |snoc h1 h2=>
  obtain⟨rfl,e⟩:=List.append_inj' hl rfl;injection e with e
  subst e;exact⟨_,h1,h2⟩
theorem F3{P V:List Int}{r:List ak}{er:Int}(h:C_ gV P V r er)(hg:gV.wU P=true)(hm:¬sU gV P [gV.first])(hV:V.length<=4000):∃r0,Bu gV P [gV.first] r0/\SS gV P r0 V r er:=by
 rcases h with⟨_,_,h⟩|⟨_,_,⟨_,_,h⟩|⟨r0,h0,⟨_,_,h⟩|⟨_,h⟩⟩⟩
 .exact absurd ⟨Zd,hg⟩ h
 .exact absurd h hm
 .omega
 .exact⟨r0,h0,h⟩
theorem ab7:gV.iB [2,1] (-1) [FC]=[S9]:=by kernel_rfl
theorem ab8:gV.iB [1,2] 0 [FC]=[Qa]:=by kernel_rfl
theorem ab9:gV.iB [1,2] (-1) [Qa]=[Uj]:=by kernel_rfl
theorem ahT:gV.iB [2] (-1) [FC,Qa]=[S9,Uj]:=by kernel_rfl
theorem ahU:gV.iB [2] (-1) [Qa,FC]=[Uj,S9]:=by kernel_rfl
theorem ahV:gV.iB [2] 0 [FC,Qa]=[]:=by kernel_rfl
theorem ahW:gV.iB [2] 0 [Qa,FC]=[]:=by kernel_rfl
theorem aex{r:List ak}{er:Int}(h:C_ gV [2] [-1] r er):er=0/\(r=[S9,Uj]\/r=[Uj,S9]):=by
 obtain⟨r0,h0,hw⟩:=F3 h (by decide+kernel) Qc (by decide);clear h;have hn:∀s,s∈gV.iB [2] (-1) r0↔s∈[S9,Uj]:=by
  rcases Un h0 with rfl|rfl
  .intro s;rw[ahT]
  .intro s
   rw[ahU];simp only[dI,gN,or_false];exact or_comm
 have hc:∀s∈[S9,Uj],hidJ gV [2] s 0=false:=by
  intro s hs;simp only[dI,gN,or_false]at hs;rcases hs with rfl|rfl<;>decide+kernel
 rcases hw with⟨rfl,h⟩|⟨_,_,k,r1,x,hk,hs,he⟩
 .refine⟨rfl,?_⟩
  obtain⟨r1,h1,_,_,h2⟩:=jY.zo (l:=[]) h;rw[h1.uz]at h2;exact P_ (h2.same (S:=[S9,Uj]) (λs hs=>(hn s).1 hs) (uy (λs hs=>FZ (hc s hs))) (λs hs=>h2.has s ((hn s).2 hs)) (by simp[aew]))
 .match k,hk,hs with
  |0,hk,hs=>
   simp at hk;subst hk;rw[hs.uz]at he;refine absurd he (Ul rfl M7 (λe=>?_) (λs hs=>(hn s).1 hs) hc (by decide));have:=(hn S9).2 (List.mem_cons_self);rw[e]at this;cases this
  |k+1,hk,_=>simp at hk
theorem aey{r:List ak}{er:Int}(h:C_ gV [2,1] [-1] r er):er=0/\r=[S9]:=by
 obtain⟨r0,h0,hw⟩:=F3 h (by decide+kernel) (Uo (by decide+kernel)) (by decide);clear h;obtain rfl:=Um (by decide+kernel) h0;rcases hw with⟨rfl,h⟩|⟨_,_,k,r1,x,hk,hs,he⟩
 .refine⟨rfl,?_⟩
  obtain⟨r1,h1,h2⟩:=jY.zo (l:=[]) h;rw[h1.uz]at h2;exact Ed h2 ab7 (by decide+kernel)
 .match k,hk,hs with
  |0,hk,hs=>
   simp at hk;subst hk;rw[hs.uz]at he;exact absurd he (Jg ab7 M7 (by decide+kernel))
  |k+1,hk,_=>simp at hk
theorem aez{r:List ak}{er:Int}(h:C_ gV [1,2] [0, -1] r er):er=0/\r=[Uj]:=by
 obtain⟨r0,h0,hw⟩:=F3 h (by decide+kernel) (Uo (by decide+kernel)) (by decide);clear h;obtain rfl:=Um (by decide+kernel) h0;have one:∀r1,jY gV [1,2] [FC] [0] r1->r1=[Qa]:=λr1 h=>by
  obtain⟨r1,h1,h2⟩:=jY.zo (l:=[]) h;rw[h1.uz]at h2;exact Ed h2 ab8 (by decide+kernel)
 rcases hw with⟨rfl,h⟩|⟨_,_,k,r1,x,hk,hs,he⟩
 .refine⟨rfl,?_⟩
  obtain⟨r1,h1,h2⟩:=jY.zo (l:=[0]) h;rw[one _ h1]at h2;exact Ed h2 ab9 (by decide+kernel)
 .match k,hk,hs with
  |0,hk,hs=>
   simp at hk;subst hk;rw[hs.uz]at he;exact absurd he (Jg ab8 Uk (by decide+kernel))
  |1,hk,hs=>
   simp at hk;subst hk;rw[one _ hs]at he;exact absurd he (Jg ab9 M7 (by decide+kernel))
  |k+2,hk,_=>simp at hk
theorem aeA{r:List ak}{er:Int}(h:C_ gV [2] [0] r er):er=13:=by
 obtain⟨r0,h0,hw⟩:=F3 h (by decide+kernel) Qc (by decide);clear h;have hn:gV.iB [2] 0 r0=[]:=by
  rcases Un h0 with rfl|rfl
  .exact ahV
  .exact ahW
 rcases hw with⟨rfl,h⟩|⟨_,_,k,r1,x,hk,hs,he⟩
 .obtain⟨r1,h1,_,h2,_⟩:=jY.zo (l:=[]) h
  rw[h1.uz]at h2;exact absurd hn h2
 .match k,hk,hs with
  |0,hk,hs=>
   simp at hk;subst hk;rw[hs.uz]at he;rcases he with⟨_,h⟩|⟨_,⟨h,_⟩|⟨_,h⟩⟩
   .exact absurd Uk h
   .exact h
   .rw[hn]at h
    exact absurd h (sU.not (S:=[]) (λ_ h=>h) (λs hs=>by cases hs) (by decide))
  |k+1,hk,_=>simp at hk
def ejE:aM:=⟨0,[],[]⟩
def WM:aM:=⟨1,[⟨1,0,0,1,0,false⟩],[]⟩
def ejX:aM:=⟨0,[⟨1,0,0,0,0,false⟩],[]⟩
def Zz:List au:=[⟨1,0,0,1,0,false⟩]
def ZA:List au:=[⟨1,0,0,0,0,false⟩]
theorem Da{L:List au}{T:List au}(hs:jP L)(hF:aX L=T)(hl:∀t∈T,t.low<=t.high)(hd:∀x∈T,∀y∈T,x.ref=y.ref->x=y):jo L [] T []:=by
 subst hF;exact⟨hs,⟨List.Pairwise.nil,λ_=>Iff.rfl⟩,⟨rfl,λf hf t ht e=>by rw[hd f hf t ht e];omega,λf hf t ht e=>by rw[hd f hf t ht e];omega,λb hb=>(by cases hb),λb hb=>(by cases hb),λm h _=>h,λm h _=>h⟩,hl⟩
theorem zS(L:List au):qo L []:=λb hb=>by cases hb
theorem M8{fs:List aM}{V:List Int}{er:Int}{T:List au}{Y L:List (List Int)}(h:dD gV fs 1 V er)(hA:um gV fs)(hO:aO fs=[])(hf:jo (aG fs) [] T [])(hT:jo T [] T [])(hok:∀f0,fs[0]?=some f0->dU gV ⟨f0.house,T,[]⟩=true)(hY:rH T [] 1 Y)(hl:Y.length<=400)(hL:qU (Y.map (λD=>bW T D 1))=L)(h4:∀l∈L,l.length<=4000):
 er=0/\V=og 1 (L.map gV.rG):=by
 obtain⟨ho,F,O,e1,hj,h⟩:=h;rcases hj with⟨_,_,_,_,hj⟩|⟨_,f0,hf0,hj⟩
 .exact absurd hA hj
 rw[hO]at hj;rcases hj with⟨he1,hho,hj⟩|⟨_,_,_,_,hj⟩
 .obtain⟨rfl,rfl⟩:=hj.unique hf (zS _)
  subst hho;rcases h with⟨h0,_⟩|⟨_,L2,e2,hc,h⟩
  .exact absurd he1 h0
  .have hc2:e2=0/\L2=L:=by
    rcases hc with⟨_,_,hc⟩|⟨_,_,_,⟨_,_,hc⟩|⟨T2,OO,Y2,hf2,hy2,hc⟩⟩
    .exact absurd ⟨hok f0 hf0,by omega,by decide⟩ hc
    .exact absurd hc (hT.zD (zS _))
    .obtain⟨rfl,rfl⟩:=hf2.unique hT (zS _)
     obtain rfl:=hy2.unique hY;rcases hc with⟨_,_,hc⟩|⟨h1,_,h2⟩
     .omega
     .exact⟨h1,by rw[h2,hL]⟩
   obtain⟨rfl,rfl⟩:=hc2;rcases h with⟨h0,_⟩|⟨_,⟨_,_,l,hl1,hl2⟩|⟨_,h1,h2⟩⟩
   .exact absurd rfl h0
   .have:=h4 l hl1;omega
   .exact⟨h1,h2⟩
 .exact absurd hj (hf.zD (zS _))
theorem aeB{V:List Int}{er:Int}(h:dD gV [ejE] 1 V er):er=0/\V=[3]:=by
 have hf:jo [] [] [] []:=Da (λx hx=>by cases hx) rfl (λt ht=>by cases ht) (λx hx=>by cases hx);obtain⟨h1,h2⟩:=M8 (T:=[]) (Y:=[[]]) (L:=[[-1]]) h ⟨by simp,λf hf=>by rw[d_.1 hf];decide+kernel⟩ rfl hf hf (λf0 h0=>by simp at h0;rw[<-h0];decide+kernel) ⟨by simp,λd=>⟨λh=>⟨λ_=>0,d_.1 h,by simp,by simp,by simp⟩,λ⟨day,h,_⟩=>d_.2 h⟩⟩ (by simp) (by decide+kernel) (by simp);exact⟨h1,h2.trans (by decide+kernel)⟩
theorem M9(x:au):∀y∈[x],∀z∈[x],y.ref=z.ref->y=z:=λy hy z hz _=>by rw[d_.1 hy,d_.1 hz]
theorem aeC{V:List Int}{er:Int}(h:dD gV [WM] 1 V er):er=0/\V=[0]:=by
 have hf:jo Zz [] Zz []:=Da (λx hx y hy e=>by rw[d_.1 hx,d_.1 hy]) (by decide+kernel) (by simp[Zz]) (M9 _);obtain⟨h1,h2⟩:=M8 (T:=Zz) (Y:=[[0],[1]]) (L:=[[0, -1],[-1]]) h ⟨by simp,λf hf=>by rw[d_.1 hf];decide+kernel⟩ rfl hf hf (λf0 h0=>by simp at h0;rw[<-h0];decide+kernel) ⟨by simp[lexLt],λd=>⟨λh=>by
  simp only[dI,gN,or_false]at h;rcases h with rfl|rfl
  .exact⟨λ_=>0,rfl,⟨(by simp[Zz];try omega),(by simp[Zz];try omega),by simp⟩⟩
  .exact⟨λ_=>1,rfl,⟨(by simp[Zz];try omega),(by simp[Zz];try omega),by simp⟩⟩,λ⟨day,h,h1,h2,h3⟩=>by
  subst h;simp[Zz]at h1 h2;simp only[gK,Zz,kN,List.map_nil,dI,gN,or_false,List.cons.injEq,and_true];omega⟩⟩ (by simp) (by decide+kernel) (by simp)
 exact⟨h1,h2.trans (by decide+kernel)⟩
theorem aeD{V:List Int}{er:Int}(h:dD gV [WM,ejX] 1 V er):er=0/\V=[1]:=by
 have hf:jo (aG [WM,ejX]) [] ZA []:=Da (λx hx y hy e=>by
  simp[aG,WM,ejX]at hx hy;rcases hx with rfl|rfl<;>rcases hy with rfl|rfl<;>rfl) (by decide+kernel) (by simp[ZA]) (M9 _)
 have hT:jo ZA [] ZA []:=Da (λx hx y hy e=>by rw[d_.1 hx,d_.1 hy]) (by decide+kernel) (by simp[ZA]) (M9 _);obtain⟨h1,h2⟩:=M8 (T:=ZA) (Y:=[[0]]) (L:=[[0, -1]]) h ⟨by simp,λf hf=>by
  simp only[dI,gN,or_false]at hf;rcases hf with rfl|rfl<;>decide+kernel⟩ rfl hf hT (λf0 h0=>by simp at h0;rw[<-h0];decide+kernel) ⟨by simp,λd=>⟨λh=>by
  rw[d_.1 h];exact⟨λ_=>0,rfl,⟨(by simp[ZA];omega),(by simp[ZA];omega),by simp⟩⟩,λ⟨day,h,h1,h2,h3⟩=>by
  subst h;simp[ZA]at h1 h2;simp only[gK,ZA,kN,List.map_nil,dI,gN,or_false,List.cons.injEq,and_true];omega⟩⟩ (by simp) (by decide+kernel) (by simp)
 exact⟨h1,h2.trans (by decide+kernel)⟩
end
section
open Go.RowKit Go.Shelf
def Stat(W:World)(b o:Nat)(x:Int):Prop:=
 ∃(mb mo mc:Nat),∀z:Bl W,z.val.cell? ⟨b,o+3,none⟩=some (.slice (some ⟨mb,mo,none⟩) 1 mc)/\z.val.cell? ⟨mb,mo,none⟩=some (.int .i64 x)
theorem Stat.below{W W':World}{b o:Nat}{x:Int}(h:Stat W b o x)(hb:Below W.heap.size W W'):Stat W' b o x:=by
 obtain⟨mb,mo,mc,h⟩:=h;exact⟨mb,mo,mc,λz=>h ⟨z.val,ay hb z.prop⟩⟩
theorem bG.stats{W:World}{v:SV}{l:List ak}(h:bG 0 W v l)(hl:0<l.length):
 ∃b off,v.A=some ⟨b,off,none⟩/\∀(i:Nat)(s:ak)(x:Int),l[i]?=some s->s.marks.map (λm=>m.status)=[x]->Stat W b (off+i*4) x:=by
 obtain⟨b,off,hA,_,hc⟩:=h.form hl;refine⟨b,off,hA,λi s x hs hx=>?_⟩;obtain⟨t,⟨ht,_⟩,hcell⟩:=hc i s hs;have hlen:s.marks.length=1:=by
  have:=congrArg List.length hx
  rwa [dS]at this
 obtain⟨mb,mo,Jv,hmb,hmc⟩:=ht.marks.1.form (by omega) (by omega);refine⟨mb,mo,t.m.c,λz=>⟨?_,?_⟩⟩
 .rw[hcell z.val z.prop 3 (by omega)]
  simp only[TV.cells,ak.cells,Jv,hlen];rfl
 .rw[z.prop.cell (p:=⟨mb,mo,none⟩) hmb]
  have h0:=hmc 0 (by omega);rw[kH]at h0;rw[h0];generalize s.marks=ms at hx
  match ms,hx with
  |[m],hx=>
   injection hx with hx
   subst hx;rfl
theorem Ji{l:List Int}:∀u∈aY l,u.oneCell'=true:=λu hu=>by
 obtain⟨x,_,rfl⟩:=dF.1 hu;rfl
theorem zT{W:World}{v:CV}(hC:cK W v gV)(hT:Tab W)(P V:List Int)(hP:P.length<=9)(hV:V.length<=9):
 Calls Tryz.prog 23 #[v.val gV,.slice (some ⟨W.heap.size,0,none⟩) P.length P.length,.slice (some ⟨W.heap.size+1,0,none⟩) V.length V.length] ((W.alloc (.cells (aY P).toArray 3)).alloc (.cells (aY V).toArray 3))
  (λe w'=>∃(r:List ak)(A:Option Addr)(c:Nat)(er:Int),e= .returned (.tuple #[.slice A r.length c,.int .i64 er])/\Below W.heap.size W w'/\bG 0 w' ⟨A,c⟩ r/\C_ gV P V r er):=by
 generalize hW2:World.alloc _ _=W2;obtain⟨HB,h0,h1⟩:=Ko hW2;refine(P9 v gV _ _ P _ _ V W2 (hC.below HB.out) (zl h0 (by simp[aY]) Ji (by unfold maxLen;omega)) (zl h1 (by simp[aY]) Ji (by unfold maxLen;omega)) (hT.below HB.out)).mono ?_;rintro e w' ⟨r,A,c,er,rfl,hb,hN,hj⟩;exact⟨r,A,c,er,rfl,ay HB.out hb,hN,hj⟩
theorem Jj:S9.marks.map (λm=>m.status)=[4]:=by decide+kernel
theorem Jk:Uj.marks.map (λm=>m.status)=[3]:=by decide+kernel
def abb(W:World)(e:Ending)(w':World):Prop:=
 ∃(b o c:Nat)(x y:Int),e= .returned (.tuple #[.slice (some ⟨b,o,none⟩) 2 c,.int .i64 0])/\Below W.heap.size W w'/\Stat w' b o x/\Stat w' b (o+4) y/\((x=4/\y=3)\/(x=3/\y=4))
def M_(x:Int)(W:World)(e:Ending)(w':World):Prop:=
 ∃(b o c:Nat),e= .returned (.tuple #[.slice (some ⟨b,o,none⟩) 1 c,.int .i64 0])/\Below W.heap.size W w'/\Stat w' b o x
def abd(W:World)(e:Ending)(w':World):Prop:=
 ∃(A:Option Addr)(n c:Nat),e= .returned (.tuple #[.slice A n c,.int .i64 13])/\Below W.heap.size W w'
theorem Qd{W:World}{e:Ending}{w':World}{x:Int}{s:ak}{P V:List Int}(hr:∀r er,C_ gV P V r er->er=0/\r=[s])(hs:s.marks.map (λm=>m.status)=[x])
 (h:∃(r:List ak)(A:Option Addr)(c:Nat)(er:Int),e= .returned (.tuple #[.slice A r.length c,.int .i64 er])/\Below W.heap.size W w'/\bG 0 w' ⟨A,c⟩ r/\C_ gV P V r er):M_ x W e w':=by
 obtain⟨r,A,c,er,rfl,hb,hN,hj⟩:=h;obtain⟨rfl,rfl⟩:=hr r er hj;obtain⟨b,o,hA,hst⟩:=hN.stats (by simp);simp only at hA;subst hA;have h0:=hst 0 s x rfl hs;rw[Nat.zero_mul,kH]at h0;exact⟨b,o,c,rfl,hb,h0⟩
theorem ahX{W:World}{v:CV}(hC:cK W v gV)(hT:Tab W):Calls Tryz.prog 23 #[v.val gV,.slice (some ⟨W.heap.size,0,none⟩) 1 1,.slice (some ⟨W.heap.size+1,0,none⟩) 1 1] ((W.alloc (.cells #[.int .i64 2] 3)).alloc (.cells #[.int .i64 (-1)] 3)) (abb W):=by
 refine(zT hC hT [2] [-1] (by decide) (by decide)).mono ?_;rintro e w' ⟨r,A,c,er,rfl,hb,hN,hj⟩;obtain⟨rfl,hr⟩:=aex hj;have hl:r.length=2:=by rcases hr with rfl|rfl<;>rfl
 obtain⟨b,o,hA,hst⟩:=hN.stats (by omega);simp only at hA;subst hA;rw[hl];rcases hr with rfl|rfl
 .have h0:=hst 0 S9 4 rfl Jj
  have h1:=hst 1 Uj 3 rfl Jk;rw[Nat.zero_mul,kH]at h0;rw[Nat.one_mul]at h1;exact⟨b,o,c,4,3,rfl,hb,h0,h1,.inl ⟨rfl,rfl⟩⟩
 .have h0:=hst 0 Uj 3 rfl Jk
  have h1:=hst 1 S9 4 rfl Jj;rw[Nat.zero_mul,kH]at h0;rw[Nat.one_mul]at h1;exact⟨b,o,c,3,4,rfl,hb,h0,h1,.inr ⟨rfl,rfl⟩⟩
theorem ahY{W:World}{v:CV}(hC:cK W v gV)(hT:Tab W):Calls Tryz.prog 23 #[v.val gV,.slice (some ⟨W.heap.size,0,none⟩) 2 2,.slice (some ⟨W.heap.size+1,0,none⟩) 1 1] ((W.alloc (.cells #[.int .i64 2,.int .i64 1] 3)).alloc (.cells #[.int .i64 (-1)] 3)) (M_ 4 W):=
 (zT hC hT [2,1] [-1] (by decide) (by decide)).mono λ_ _ h=>Qd (λ_ _ h=>aey h) Jj h
theorem ahZ{W:World}{v:CV}(hC:cK W v gV)(hT:Tab W):Calls Tryz.prog 23 #[v.val gV,.slice (some ⟨W.heap.size,0,none⟩) 2 2,.slice (some ⟨W.heap.size+1,0,none⟩) 2 2] ((W.alloc (.cells #[.int .i64 1,.int .i64 2] 3)).alloc (.cells #[.int .i64 0,.int .i64 (-1)] 3)) (M_ 3 W):=
 (zT hC hT [1,2] [0, -1] (by decide) (by decide)).mono λ_ _ h=>Qd (λ_ _ h=>aez h) Jk h
theorem ah0{W:World}{v:CV}(hC:cK W v gV)(hT:Tab W):Calls Tryz.prog 23 #[v.val gV,.slice (some ⟨W.heap.size,0,none⟩) 1 1,.slice (some ⟨W.heap.size+1,0,none⟩) 1 1] ((W.alloc (.cells #[.int .i64 2] 3)).alloc (.cells #[.int .i64 0] 3)) (abd W):=by
 refine(zT hC hT [2] [0] (by decide) (by decide)).mono ?_;rintro e w' ⟨r,A,c,er,rfl,hb,_,hj⟩;obtain rfl:=aeA hj;exact⟨A,_,c,rfl,hb⟩
def Uq(x:Int)(W:World)(e:Ending)(w':World):Prop:=
 ∃(A:Option Addr)(c:Nat),e= .returned (.tuple #[.slice A 1 c,.int .i64 0])/\At w' 1 A 1 c (aY [x])/\Below W.heap.size W w'
theorem Ee{W:World}{v:CV}(hC:cK W v gV)(hT:Tab W)(L:List (aM×FV))(hL:∀p∈L,dB W p.2 p.1)(hn:L.length<=9)(h1:∀x∈aG (L.map Prod.fst),1<=x.ref/\x.ref<=2)(h2:(aG (L.map Prod.fst)).length<=400)(h3:(aO (L.map Prod.fst)).length<=4000)
 {x:Int}(hr:∀V er,dD gV (L.map Prod.fst) 1 V er->er=0/\V=[x]):
 Calls Tryz.prog 14 #[v.val gV,.slice (some ⟨W.heap.size,0,none⟩) L.length L.length,.int .i64 1] (W.alloc (.cells (jq L).toArray 31)) (Uq x W):=by
 generalize hW2:World.alloc _ _=W2;obtain⟨HB,h0⟩:=bx1 hW2;have o:Own W2 31 W.heap.size (jq L):=⟨[],by rw[bV];exact h0⟩;have hfs:=dP.row (c:=L.length) o (bJ _) (by unfold maxLen;omega) (λp hp=>(hL p hp).below HB.out);have hc:=lT v gV ⟨some ⟨W.heap.size,0,none⟩,L.length⟩ (L.map Prod.fst) 1 W2 (hC.below HB.out) hfs (by rw[dS];omega) (aei h1) h2 h3 (hT.below HB.out);rw[dS]at hc;refine hc.mono ?_;rintro e w' ⟨A,c,V,er,rfl,hA,hb,hj⟩;obtain⟨rfl,rfl⟩:=hr V er hj;exact⟨A,c,rfl,hA,ay HB.out hb⟩
theorem ah1{W:World}:dB W ⟨⟨none,0⟩,⟨none,0⟩⟩ ejE:=⟨fJ _ _,fJ _ _⟩
theorem ah2{W:World}{v:CV}(hC:cK W v gV)(hT:Tab W):Calls Tryz.prog 14 #[v.val gV,.slice (some ⟨W.heap.size,0,none⟩) 1 1,.int .i64 1] (W.alloc (.cells #[.int .i64 0,.slice none 0 0,.slice none 0 0] 31)) (Uq 3 W):=
 Ee hC hT [(ejE,⟨⟨none,0⟩,⟨none,0⟩⟩)] (λp hp=>by rw[d_.1 hp];exact ah1) (Nat.le_of_ble_eq_true rfl) (λx hx=>by simp[aG,ejE]at hx) (Nat.le_of_ble_eq_true rfl) (Nat.le_of_ble_eq_true rfl) (λ_ _ h=>aeB h)
theorem ah3{W:World}{v:CV}(hC:cK W v gV)(hT:Tab W){A:Option Addr}{c:Nat}(hF:dB W ⟨⟨A,c⟩,⟨none,0⟩⟩ WM):Calls Tryz.prog 14 #[v.val gV,.slice (some ⟨W.heap.size,0,none⟩) 1 1,.int .i64 1] (W.alloc (.cells #[.int .i64 1,.slice A 1 c,.slice none 0 0] 31)) (Uq 0 W):=
 Ee hC hT [(WM,⟨⟨A,c⟩,⟨none,0⟩⟩)] (λp hp=>by rw[d_.1 hp];exact hF) (Nat.le_of_ble_eq_true rfl) (λx hx=>by simp[aG,WM]at hx;subst hx;simp) (Nat.le_of_ble_eq_true rfl) (Nat.le_of_ble_eq_true rfl) (λ_ _ h=>aeC h)
theorem ah4{W:World}{v:CV}(hC:cK W v gV)(hT:Tab W){A B:Option Addr}{c d:Nat}(hF:dB W ⟨⟨A,c⟩,⟨none,0⟩⟩ WM)(hG:dB W ⟨⟨B,d⟩,⟨none,0⟩⟩ ejX):Calls Tryz.prog 14 #[v.val gV,.slice (some ⟨W.heap.size,0,none⟩) 2 2,.int .i64 1] (W.alloc (.cells #[.int .i64 1,.slice A 1 c,.slice none 0 0,.int .i64 0,.slice B 1 d,.slice none 0 0] 31)) (Uq 1 W):=
 Ee hC hT [(WM,⟨⟨A,c⟩,⟨none,0⟩⟩),(ejX,⟨⟨B,d⟩,⟨none,0⟩⟩)] (λp hp=>by
  simp only[dI,gN,or_false]at hp;rcases hp with rfl|rfl
  .exact hF
  .exact hG) (Nat.le_of_ble_eq_true rfl) (λx hx=>by simp[aG,WM,ejX]at hx;rcases hx with rfl|rfl<;>simp) (Nat.le_of_ble_eq_true rfl) (Nat.le_of_ble_eq_true rfl) (λ_ _ h=>aeD h)
end
open Go.RowKit Go.Shelf
def ali(w:World)(e:Ending)(w':World):Prop:=
 ∃(hA:Option Addr)(hc:Nat)(uA:Option Addr)(uc:Nat)(aA:Option Addr)(ac:Nat)(kA:Option Addr)(kc:Nat)(oA:Option Addr)(oc:Nat),e= .returned (.agg #[.int .i64 gV.aJ,.slice hA gV.aj.length hc,.slice uA gV.units.length uc,.slice aA gV.acts.length ac,.slice kA gV.clauses.length kc,.int .i64 gV.days,.slice oA gV.off.length oc])/\cK w' ⟨⟨hA,hc⟩,⟨uA,uc⟩,⟨aA,ac⟩,⟨kA,kc⟩,⟨oA,oc⟩⟩ gV/\Below w.heap.size w w'
theorem Na(w:World):Calls Tryz.prog 29 #[] w (ali w):=(M6 w).mono λ_ _ h=>h
theorem Jl{W:World}{A:Option Addr}{c:Nat}{x:Int}(hA:At W 1 A 1 c (aY [x])):Calls Tryz.prog 21 #[.slice A 1 c,.slice (some ⟨W.heap.size,0,none⟩) 1 1] (W.alloc (.cells #[.int .i64 x] 3)) (dX (.bool true) W):=by
 generalize hW2:World.alloc _ _=W2;obtain⟨HB,h0⟩:=bx1 hW2;refine(Pv [x] [x] ⟨A,c⟩ ⟨some ⟨W.heap.size,0,none⟩,1⟩ W2 (hA.below (by omega) HB.out) (zl (xs:=aY [x]) h0 rfl Ji (by unfold maxLen;simp))).mono ?_;rintro e z ⟨rfl,hz⟩;exact⟨by rw[decide_eq_true rfl],ay HB.out hz⟩
section
variable {W:World} {A B:Option Addr} {c d:Nat} {l m:List Int}
theorem Fb(hl:At W 1 A l.length c (aY l))(hm:At W 1 B m.length d (aY m))(h:dH l m):Calls Tryz.prog 20 #[.slice A l.length c,.slice B m.length d] W (dX (.bool true) W):=
 (zi l m ⟨A,c⟩ ⟨B,d⟩ W hl hm).mono λ_ _ ⟨b,he,hb,hz⟩=>⟨by rw[he,hb.2 h],hz⟩
theorem Jm(hl:At W 1 A l.length c (aY l))(hm:At W 1 B m.length d (aY m))(h:¬dH l m):Calls Tryz.prog 20 #[.slice A l.length c,.slice B m.length d] W (dX (.bool false) W):=
 (zi l m ⟨A,c⟩ ⟨B,d⟩ W hl hm).mono λ_ _ ⟨b,he,hb,hz⟩=>by
  cases b with
  |false=>exact⟨he,hz⟩
  |true=>exact absurd (hb.1 rfl) h
end
theorem ah5:dH [0] [1]:=⟨rfl,λk x hx=>.inl (by have:=bT hx;simpa using this)⟩
theorem ah6:¬dH [1] [0]:=λh=>by
 rcases h.2 0 1 rfl with h|h<;>cases h
theorem ah7:¬dH [] [0]:=λh=>by cases h.1
theorem zU(w:World)(hT:Tab w):Calls Tryz.prog 9 #[] w (dX (.bool true) w):=by
 have HT:=ah hT;clear hT;go_enter Tryz.func9,Tryz.ntmps9;go_wp2_with (go_at_call 29;refine(Na _).mono ?_;rintro e z ⟨hA,hc,uA,uc,aA,ac,kA,kc,oA,oc,rfl,hcon,hb⟩;refine Hid.out ?_);refine ah ?_;have ah8:=ah hcon;have YU:=ah hb;clear hcon hb;go_upto_region 2 with(fail)
 generalize hW0:World.alloc _ _=W0;obtain⟨HBx,h0⟩:=bx1' hW0;have HX0:Hid (uV W0 z.heap.size ⟨⟨hA,hc⟩,⟨uA,uc⟩,⟨aA,ac⟩,⟨kA,kc⟩,⟨oA,oc⟩⟩ gV):=⟨ah8.out.below HBx,⟨[],by rw[bV];exact h0⟩⟩;have HB0:Hid (Below w.heap.size w W0):=ay YU.out HBx;clear hW0 HBx h0 ah8 YU;generalize z.heap.size=cb at*;clear z;obtain⟨c0,c1,c2,c3,c4,c5,c6⟩:=HX0.out.cells;simp only at c0 c1 c2 c3 c4 c5 c6;have hca:=ahX HX0.out.con (HT.out.below HB0.out);simp only[CV.val,CV.cells]at hca;have uE:=ah hca;clear hca;go_wp2_with (go_at_call 23;refine uE.out.mono ?_;rintro _ W1 ⟨ba,oA1,ca,x,y,rfl,hb,hs1,hs2,hxy⟩;refine Hid.out ?_);refine ah ?_;have nY:=ah (HX0.out.below hb);have HB1:Hid (Below w.heap.size w W1):=ay HB0.out hb;have SA:=ah hs1;have SB:=ah hs2;have WI:=ah hxy;clear hb hs1 hs2 hxy HX0 HB0 uE c0 c1 c2 c3 c4 c5 c6;obtain⟨c0,c1,c2,c3,c4,c5,c6⟩:=nY.out.cells;simp only at c0 c1 c2 c3 c4 c5 c6;have hca:=ahY nY.out.con (HT.out.below HB1.out);simp only[CV.val,CV.cells]at hca;have uE:=ah hca;clear hca;go_wp2_with (go_at_call 23;refine uE.out.mono ?_;rintro _ W2 ⟨bb,oB1,cB,rfl,hb,hs1⟩;refine Hid.out ?_);refine ah ?_;have zn:=ah (nY.out.below hb);have HB2:Hid (Below w.heap.size w W2):=ay HB1.out hb;replace SA:=ah (SA.out.below hb);replace SB:=ah (SB.out.below hb);have SC:=ah hs1;clear hb hs1 nY HB1 uE c0 c1 c2 c3 c4 c5 c6;obtain⟨c0,c1,c2,c3,c4,c5,c6⟩:=zn.out.cells;simp only at c0 c1 c2 c3 c4 c5 c6;have hca:=ahZ zn.out.con (HT.out.below HB2.out);simp only[CV.val,CV.cells]at hca;have uE:=ah hca;clear hca;go_wp2_with (go_at_call 23;refine uE.out.mono ?_;rintro _ W3 ⟨bd,oD1,cD,rfl,hb,hs1⟩;refine Hid.out ?_);refine ah ?_;have uj:=ah (zn.out.below hb);have HB3:Hid (Below w.heap.size w W3):=ay HB2.out hb;replace SA:=ah (SA.out.below hb);replace SB:=ah (SB.out.below hb);replace SC:=ah (SC.out.below hb);have SD:=ah hs1;clear hb hs1 zn HB2 uE c0 c1 c2 c3 c4 c5 c6;obtain⟨c0,c1,c2,c3,c4,c5,c6⟩:=uj.out.cells;simp only at c0 c1 c2 c3 c4 c5 c6;have hca:=ah0 uj.out.con (HT.out.below HB3.out);simp only[CV.val,CV.cells]at hca;have uE:=ah hca;clear hca;go_wp2_with (go_at_call 23;refine uE.out.mono ?_;rintro _ W4 ⟨hhA,hn,ZI,rfl,hb⟩;refine Hid.out ?_);refine ah ?_;have Bt:=ah (uj.out.below hb);have uN:Hid (Below w.heap.size w W4):=ay HB3.out hb;replace SA:=ah (SA.out.below hb);replace SB:=ah (SB.out.below hb);replace SC:=ah (SC.out.below hb);replace SD:=ah (SD.out.below hb);clear hb uj HB3 uE c0 c1 c2 c3 c4 c5 c6;go_upto_region 7 with(fail)
 generalize Mj:World.alloc _ _=W5;obtain⟨hb',h0,h1⟩:=Ko Mj;have hb:=hb'.out;have KW:=ah (Bt.out.below hb);have BH:Hid (Below w.heap.size w W5):=ay uN.out hb;replace SA:=ah (SA.out.below hb);replace SB:=ah (SB.out.below hb);replace SC:=ah (SC.out.below hb);replace SD:=ah (SD.out.below hb);have OW:Hid (Own W5 31 (W4.heap.size+1) [.int .i64 1,.slice (some ⟨W4.heap.size,0,none⟩) 1 1,.slice none 0 0]):=⟨[],by rw[bV];exact h1⟩;have FW:Hid (dB W5 ⟨⟨(some ⟨W4.heap.size,0,none⟩),1⟩,⟨none,0⟩⟩ WM):=⟨zl (xs:=bE WM.facts) h0 rfl (pE _) (by unfold maxLen;exact(of_decide_eq_true rfl:(1:Nat)<=9223372036854775807)),fJ _ _⟩;clear hb hb' h0 h1 Mj Bt uN;generalize W4.heap.size=qw at*;go_upto_region 8 with(fail)
 generalize Zn:World.alloc _ _=W6;obtain⟨hb',h0,h1⟩:=Ko Zn;have hb:=hb'.out;have DW:=ah (KW.out.below hb);have JA:Hid (Below w.heap.size w W6):=ay BH.out hb;replace SA:=ah (SA.out.below hb);replace SB:=ah (SB.out.below hb);replace SC:=ah (SC.out.below hb);replace SD:=ah (SD.out.below hb);replace OW:=ah (OW.out.below hb);replace FW:=ah (FW.out.below hb);have OE:Hid (Own W6 31 (W5.heap.size+1) [.int .i64 0,.slice (some ⟨W5.heap.size,0,none⟩) 1 1,.slice none 0 0]):=⟨[],by rw[bV];exact h1⟩;have FE:Hid (dB W6 ⟨⟨(some ⟨W5.heap.size,0,none⟩),1⟩,⟨none,0⟩⟩ ejX):=⟨zl (xs:=bE ejX.facts) h0 rfl (pE _) (by unfold maxLen;exact(of_decide_eq_true rfl:(1:Nat)<=9223372036854775807)),fJ _ _⟩;clear hb hb' h0 h1 Zn KW BH;generalize W5.heap.size=qe at*;obtain⟨c0,c1,c2,c3,c4,c5,c6⟩:=DW.out.cells;simp only at c0 c1 c2 c3 c4 c5 c6;have hca:=ah2 DW.out.con (HT.out.below JA.out);simp only[CV.val,CV.cells]at hca;have uE:=ah hca;clear hca;go_wp2_with (go_at_call 14;refine uE.out.mono ?_;rintro _ W7 ⟨xA,xc,rfl,hx,hb⟩;refine Hid.out ?_);refine ah ?_;have HX7:=ah (DW.out.below hb);have HB7:Hid (Below w.heap.size w W7):=ay JA.out hb;replace SA:=ah (SA.out.below hb);replace SB:=ah (SB.out.below hb);replace SC:=ah (SC.out.below hb);replace SD:=ah (SD.out.below hb);replace OW:=ah (OW.out.below hb);replace FW:=ah (FW.out.below hb);replace OE:=ah (OE.out.below hb);replace FE:=ah (FE.out.below hb);have AX:=ah hx;clear hb hx DW JA uE c0 c1 c2 c3 c4 c5 c6;obtain⟨c0,c1,c2,c3,c4,c5,c6⟩:=HX7.out.cells;simp only at c0 c1 c2 c3 c4 c5 c6;have e0:=OW.out.cell (i:=0) rfl;have e1:=OW.out.cell (i:=1) rfl;have e2:=OW.out.cell (i:=2) rfl;have hca:=ah3 HX7.out.con (HT.out.below HB7.out) FW.out;simp only[CV.val,CV.cells]at hca;have uE:=ah hca;clear hca;go_wp2_with (go_at_call 14;refine uE.out.mono ?_;rintro _ W8 ⟨yA,yc,rfl,hx,hb⟩;refine Hid.out ?_);refine ah ?_;have HX8:=ah (HX7.out.below hb);have HB8:Hid (Below w.heap.size w W8):=ay HB7.out hb;replace SA:=ah (SA.out.below hb);replace SB:=ah (SB.out.below hb);replace SC:=ah (SC.out.below hb);replace SD:=ah (SD.out.below hb);replace OW:=ah (OW.out.below hb);replace FW:=ah (FW.out.below hb);replace OE:=ah (OE.out.below hb);replace FE:=ah (FE.out.below hb);replace AX:=ah (AX.out.below (by omega) hb);have AY:=ah hx;clear hb hx HX7 HB7 uE c0 c1 c2 c3 c4 c5 c6 e0 e1 e2;obtain⟨c0,c1,c2,c3,c4,c5,c6⟩:=HX8.out.cells;simp only at c0 c1 c2 c3 c4 c5 c6;have e0:=OW.out.cell (i:=0) rfl;have e1:=OW.out.cell (i:=1) rfl;have e2:=OW.out.cell (i:=2) rfl;have g0:=OE.out.cell (i:=0) rfl;have g1:=OE.out.cell (i:=1) rfl;have g2:=OE.out.cell (i:=2) rfl;have hca:=ah4 HX8.out.con (HT.out.below HB8.out) FW.out FE.out;simp only[CV.val,CV.cells]at hca;have uE:=ah hca;clear hca;go_wp2_with (go_at_call 14;refine uE.out.mono ?_;rintro _ W9 ⟨zA,zc,rfl,hx,hb⟩;refine Hid.out ?_);refine ah ?_;have HX9:=ah (HX8.out.below hb);have Qs:Hid (Below w.heap.size w W9):=ay HB8.out hb;replace SA:=ah (SA.out.below hb);replace SB:=ah (SB.out.below hb);replace SC:=ah (SC.out.below hb);replace SD:=ah (SD.out.below hb);replace OW:=ah (OW.out.below hb);replace FW:=ah (FW.out.below hb);replace OE:=ah (OE.out.below hb);replace FE:=ah (FE.out.below hb);replace AX:=ah (AX.out.below (by omega) hb);replace AY:=ah (AY.out.below (by omega) hb);have AZ:=ah hx;clear hb hx HX8 HB8 uE c0 c1 c2 c3 c4 c5 c6 e0 e1 e2 g0 g1 g2;clear OW FW OE FE;obtain⟨m1,n1,k1,hs1⟩:=SA.out;obtain⟨m2,n2,k2,hs2⟩:=SB.out;obtain⟨m3,n3,k3,hs3⟩:=SC.out;obtain⟨m4,n4,k4,hs4⟩:=SD.out;have y1:=λz=>(hs1 z).1;have z1:=λz=>(hs1 z).2;have y2:=λz=>(hs2 z).1;have z2:=λz=>(hs2 z).2;have y3:=λz=>(hs3 z).1;have z3:=λz=>(hs3 z).2;have y4:=λz=>(hs4 z).1;have z4:=λz=>(hs4 z).2;clear hs1 hs2 hs3 hs4 SA SB SC SD HX9;go_upto_region 13 with(fail)
 change Code.wp _ _ _ _ (Bl.val (⟨W9,aC _ _⟩:Bl W9));generalize(⟨W9,aC _ _⟩:Bl W9)=s0;obtain⟨u,hu⟩:∃u:Int,x+y=u:=⟨_,rfl⟩;rcases WI.out with⟨rfl,rfl⟩|⟨rfl,rfl⟩
 all_goals
  clear hu u;refine aI (by kernel_rfl) (by kernel_rfl) ?_;repeat(go_big_quiet_step (fail))
  refine aS ?_;rintro _ ⟨z,rfl⟩;have BI:Hid (Below w.heap.size w z.val):=ay Qs.out z.prop;replace AX:=ah (AX.out.below (by omega) z.prop);replace AY:=ah (AY.out.below (by omega) z.prop);replace AZ:=ah (AZ.out.below (by omega) z.prop);clear y1 y2 y3 y4 z1 z2 z3 z4 WI;generalize z.val=V0 at BI AX AY AZ⊢;clear z Qs;have hca:=Jl AX.out;have uE:=ah hca;clear hca;go_wp2_with (go_at_call 21;refine uE.out.mono ?_;rintro _ V1 ⟨rfl,hb⟩;refine Hid.out ?_);refine ah ?_;replace BI:Hid (Below w.heap.size w V1):=ay BI.out hb;replace AX:=ah (AX.out.below (by omega) hb);replace AY:=ah (AY.out.below (by omega) hb);replace AZ:=ah (AZ.out.below (by omega) hb);clear hb uE;have hca:=Jl AY.out;have uE:=ah hca;clear hca;go_wp2_with (go_at_call 21;refine uE.out.mono ?_;rintro _ V2 ⟨rfl,hb⟩;refine Hid.out ?_);refine ah ?_;replace BI:Hid (Below w.heap.size w V2):=ay BI.out hb;replace AX:=ah (AX.out.below (by omega) hb);replace AY:=ah (AY.out.below (by omega) hb);replace AZ:=ah (AZ.out.below (by omega) hb);clear hb uE;have hca:=Jl AZ.out;have uE:=ah hca;clear hca;go_wp2_with (go_at_call 21;refine uE.out.mono ?_;rintro _ V3 ⟨rfl,hb⟩;refine Hid.out ?_);refine ah ?_;replace BI:Hid (Below w.heap.size w V3):=ay BI.out hb;replace AX:=ah (AX.out.below (by omega) hb);replace AY:=ah (AY.out.below (by omega) hb);replace AZ:=ah (AZ.out.below (by omega) hb);clear hb uE;have hca:=(Fb (l:=[0]) (m:=[1]) AY.out AZ.out ah5:(Calls Tryz.prog 20 #[.slice yA 1 yc,.slice zA 1 zc] V3 (dX (.bool true) V3)));have uE:=ah hca;clear hca;go_wp2_with (go_at_call 20;refine uE.out.mono ?_;rintro _ V4 ⟨rfl,hb⟩;refine Hid.out ?_);refine ah ?_;replace BI:Hid (Below w.heap.size w V4):=ay BI.out hb;replace AX:=ah (AX.out.below (by omega) hb);replace AY:=ah (AY.out.below (by omega) hb);replace AZ:=ah (AZ.out.below (by omega) hb);clear hb uE;have hca:=(Jm (l:=[1]) (m:=[0]) AZ.out AY.out ah6:(Calls Tryz.prog 20 #[.slice zA 1 zc,.slice yA 1 yc] V4 (dX (.bool false) V4)));have uE:=ah hca;clear hca;go_wp2_with (go_at_call 20;refine uE.out.mono ?_;rintro _ V5 ⟨rfl,hb⟩;refine Hid.out ?_);refine ah ?_;replace BI:Hid (Below w.heap.size w V5):=ay BI.out hb;replace AX:=ah (AX.out.below (by omega) hb);replace AY:=ah (AY.out.below (by omega) hb);replace AZ:=ah (AZ.out.below (by omega) hb);clear hb uE;have hca:=(Jm (l:=[]) (m:=[0]) (fJ _ _) AY.out ah7:(Calls Tryz.prog 20 #[.slice none 0 0,.slice yA 1 yc] V5 (dX (.bool false) V5)));have uE:=ah hca;clear hca;go_wp2_with (go_at_call 20;refine uE.out.mono ?_;rintro _ V6 ⟨rfl,hb⟩;refine Hid.out ?_);refine ah ?_;replace BI:Hid (Below w.heap.size w V6):=ay BI.out hb;replace AX:=ah (AX.out.below (by omega) hb);replace AY:=ah (AY.out.below (by omega) hb);replace AZ:=ah (AZ.out.below (by omega) hb);clear hb uE;go_wp2;go_ret;exact⟨rfl,BI.out⟩
end Go.Proofs.YtpmdedcnbockhaaGreatDoor
