/-
  JtI; JtJ; JtK; JtL; JtM; JtX; JtN; JtO; JtQ
-/
import Derived.Test.YtpmdedcnbockhaaGreatDoorP31
import Derived.Test.YtpmdedcnbockhaaGreatDoorP29
set_option maxRecDepth 100000
set_option maxHeartbeats 8000000
namespace Go.Proofs.YtpmdedcnbockhaaGreatDoor
section
open Go.RowKit Go.Shelf
def hidJ(C:au)(P:List Int)(s:ak)(i:Nat):Bool:=(C.named s).getD i false&& !(C.sight P s i)
inductive pX (C:au) (P:List Int) (l:List ak):ak->Prop
 |base {s:ak}:s∈l->pX C P l s
 |step {s:ak} {i:Nat}:pX C P l s->s.day<C.days->i<C.acts.length->hidJ C P s i=true->pX C P l (C.next s i)
structure pY(C:au)(P:List Int)(l r:List ak):Prop where
 sorted:(r.map ak.text).Pairwise (· < ·)
 few:r.length<=300
 ok:∀s∈r,bJ C s
 reach:∀s∈r,pX C P l s
 has:∀s∈l,s∈r
 closed:∀s∈r,s.day<C.days->∀i,i<C.acts.length->hidJ C P s i=true->C.next s i∈r
def rO(C:au)(P:List Int)(l:List ak):Prop:=∃F:List ak,F.Nodup/\300<F.length/\∀s∈F,pX C P l s
structure JInv(C:au)(P:List Int)(l F:List ak)(k:Nat):Prop where
 ok:∀s∈F,bJ C s
 reach:∀s∈F,pX C P l s
 closed:∀(j:Nat)(s:ak),j<k->F[j]?=some s->s.day<C.days->∀i,i<C.acts.length->hidJ C P s i=true->C.next s i∈F
section
variable {C:au} {P:List Int} {l F:List ak} {k:Nat} {s:ak}
theorem OG(F:List ak)(s:ak){j:Nat}(hj:j<F.length):(rV F s)[j]?=F[j]?:=by
 unfold rV;cases decide (s.text∈F.map ak.text)with
 |true=>rfl
 |false=>exact lX hj
theorem OH(F:List ak)(s:ak):F.length<=(rV F s).length/\(rV F s).length<=F.length+1:=by
 unfold rV;cases decide (s.text∈F.map ak.text)with
 |true=>exact⟨bH _,Nat.le_succ _⟩
 |false=>simp only[cond_false,lS,vN];omega
theorem JInv.start(C:au)(P:List Int)(l:List ak):JInv C P l [] 0:=⟨by simp,by simp,by simp⟩
theorem JInv.meet(h:JInv C P l F k)(hk:k<=F.length)(hs:bJ C s)(hr:pX C P l s):JInv C P l (rV F s) k:=by
 refine⟨λx hx=>?_,λx hx=>?_,λj x hj hx hd i hi hh=>?_⟩
 .rcases rD.1 hx with hx|rfl
  .exact h.ok x hx
  .exact hs
 .rcases rD.1 hx with hx|rfl
  .exact h.reach x hx
  .exact hr
 .rw[OG F s (by omega)]at hx
  exact rD.2 (.inl (h.closed j x hj hx hd i hi hh))
theorem JInv.done(h:JInv C P l F k)(hs:F[k]?=some s)(hc:s.day<C.days->∀i,i<C.acts.length->hidJ C P s i=true->C.next s i∈F):JInv C P l F (k+1):=by
 refine⟨h.ok,h.reach,λj x hj hx hd i hi hh=>?_⟩;by_cases e:j=k
 .subst e
  rw[hs]at hx;injection hx with hx
  subst hx;exact hc hd i hi hh
 .exact h.closed j x (by omega) hx hd i hi hh
theorem JInv.clo(h:JInv C P l F F.length)(hl:∀s∈l,s∈F){r:List ak}(hm:∀s,s∈r↔s∈F)(hs:(r.map ak.text).Pairwise (· < ·))(hr:r.length<=300):pY C P l r:=by
 refine⟨hs,hr,λx hx=>h.ok x ((hm x).1 hx),λx hx=>h.reach x ((hm x).1 hx),λx hx=>(hm x).2 (hl x hx),λx hx hd i hi hh=>?_⟩;obtain⟨j,hj⟩:=jV.1 ((hm x).1 hx);exact(hm _).2 (h.closed j x (aZ.1 hj).1 hj hd i hi hh)
theorem Kn(hO:bJ C s)(hd:s.day<C.days){i:Nat}(hi:i<C.acts.length):bJ C (C.next s i)/\C.bT s i=0:=by
 have ha:=aT hi;refine⟨?_,D8 hO hd hi⟩;rw[xK ha];exact Ql hO ha
end
theorem dY.get{M:Nat->Prop}{B:Nat}{w:World}{v:Value}{R:List ak}(h:dY M B w v R){i:Nat}{s:ak}(hi:R[i]?=some s):
 ∃(g c:Nat)(t:TV),v= .slice (some ⟨g,0,none⟩) R.length c/\Safe M v.ownBlock w t s/\∀j,j<4->w.cell? ⟨g,i*4+j,none⟩=(t.cells s)[j]?:=by
 obtain⟨ts,h1,h2,h3⟩:=h;have hl:i<R.length:=(aZ.1 hi).1;have ht:ts[i]?=some (ts[i]'(by omega)):=aT _;rcases h2.2 with⟨_,h0⟩|⟨g,cap,cur,rfl,_⟩
 .omega
 refine⟨g,cap,ts[i]'(by omega),rfl,h3 i s _ hi ht,λj hj=>?_⟩;have hz:(R.zip ts)[i]?=some (s,ts[i]'(by omega)):=by rw[Jy];exact⟨hi,ht⟩
 have e:=bG (λp:ak×TV=>TV.cells p.2 p.1) 4 (λ_=>rfl) (R.zip ts) i j _ hz hj;have hx:((ts[i]'(by omega)).cells s)[j]?=some (((ts[i]'(by omega)).cells s)[j]'(by simpa [TV.cells,ak.cells]using hj)):=aT _;have hc:=h2.cells (g:=g) rfl (i*4+j) _ (e.trans hx);rw[hx,<-hc,Addr.add_lit,nJ]
theorem uL.of{Q:TV->ak->Prop}{w:World}{b:Nat}(h:w.heap[b]?=some (.map #[] 0)):uL Q w b []:=by
 obtain⟨es,c,h1,h2⟩:=World.ownsMap_made (P:=Tryz.prog) (k:=9) (R:=R1) w;rw[bC]at h1;injection h1 with h1
 injection h1 with e1 e2
 subst e1 e2;exact⟨.map [],⟨#[],0,h,h2⟩,rfl,List.nodup_nil,by simp,λk hk=>by cases hk⟩
theorem Yi{M:Nat->Prop}{o:Option Nat}{w W:World}{bm:Nat}{t:TV}{s:ak}(h:aW w t s)(hu:aH (λk=>k=bm) w W)(hm:gD w bm)(ho:∀k,k<w.heap.size->(some k=o\/M k)->k=bm):Safe M o W t s:=λw'' hu'=>
 h.upd (hu.trans hu' (λi hi e=>ho i hi e)) (λk hk=>by rw[hk];exact hm)
end
section
open Go.RowKit Go.Shelf Go.Sort
def OI(C:au)(P:List Int)(l:List ak)(bm n:Nat)(w:World)(e:Ending)(w':World):Prop:=
 ∃(r:List ak)(A:Option Addr)(c:Nat)(er:Int),e= .returned (.tuple #[.slice A r.length c,.int .i64 er])/\aH (λk=>k=bm) w w'/\dN C P w' bm (n+1000000)/\
  ((er=0/\dD 0 w' ⟨A,c⟩ r/\pY C P l r)\/(er=3/\A=none/\c=0/\r=[]/\rO C P l))
theorem BP(v:CV)(C:au)(P:List Int){bc bk bp bm n:Nat}(sl:SV)(l:List ak)(w:World)(hC:bU w v C)(hL:dD 0 w sl l)(hO:∀s∈l,bJ C s)(hT:Tab w)(hl:l.length<=1000)(hs:oF C P w bc bk bp bm n)(hn:n<=90000000000):
 Calls Tryz.prog 49 #[v.val C,.slice sl.A l.length sl.c,vL bc bk bp] w (OI C P l bm n w):=by
 obtain⟨⟨dF,dG⟩,⟨dH,dK⟩,⟨dV,dn⟩,⟨dQ,dh⟩,⟨dz,dB⟩⟩:=v;obtain⟨slA,slc⟩:=sl;have DC:gD w bm:=hs.memo.blk;have hblt:bm<w.heap.size:=by obtain⟨es,c,h⟩:=DC;exact av h
 have ZB:=ah DC;clear DC;have HC:=ah hC;clear hC;have HL:=ah hL;clear hL;have HO:=ah hO;clear hO;have HT:=ah hT;clear hT;have HS:=ah hs;clear hs;have HN:=ah hn;clear hn;simp only[CV.val,CV.cells];unfold vL;have hmm:=@run_makeMap Tryz.prog;go_enter Tryz.func49,Tryz.ntmps49;go_upto_region 4 with(fail)
 generalize hWm:World.alloc _ _=Wm;obtain⟨HBm,h0,h1,h2,h3⟩:=bx4 hWm;clear hWm hmm;obtain⟨cq,hcq⟩:∃x,x=w.heap.size+1+1+1:=⟨_,rfl⟩;obtain⟨cm,hcm⟩:∃x,x=w.heap.size+1+1:=⟨_,rfl⟩;obtain⟨bf,hbf⟩:∃x,x=w.heap.size+1:=⟨_,rfl⟩;rw[<-hcq]at h3;rw[<-hcm,<-hbf]at h2;rw[<-hbf]at h1;rw[<-hcq,<-hcm];obtain⟨M,hMM⟩:∃M:Nat->Prop,M=λk=>k=bm\/k=bf\/k=cq:=⟨_,rfl⟩;have I4:Hid (∀k,M k↔(k=bm\/k=bf\/k=cq)):=λk=>by rw[hMM]
 clear hMM;have hwm:w.heap.size+3<Wm.heap.size:=by have:=av h3;omega
 have HX:Hid (Own Wm 27 w.heap.size [.int .i64 C.aF,.slice dF C.aj.length dG,.slice dH C.units.length dK,.slice dV C.acts.length dn,.slice dQ C.clauses.length dh,.int .i64 C.days,.slice dz C.off.length dB]):=⟨[],by rw[b_];exact h0⟩;have HA0:Hid (qo M Wm.heap.size cm cq bf Wm (.slice none 0 0) []):=⟨⟨[],by rw[b_];exact h2⟩,⟨[],by rw[b_];exact h3⟩,uL.of h1,dY.nil _ _ _⟩;have HIX:Hid (cq=w.heap.size+3/\cm=w.heap.size+2/\bf=w.heap.size+1):=⟨by omega,by omega,by omega⟩;clear h0 h1 h2 h3 hcq hcm hbf;have HMW:Hid (∀k,M k->k<Wm.heap.size/\k≠w.heap.size/\k≠cm):=λk hk=>by
  have:=HIX.out;rcases(I4.out k).1 hk with e|e|e<;>omega
 have HOLD:Hid (∀W,aH M Wm W->aH (λk=>k=bm) w W):=λW hu=>((aH.of_below HBm.out).mono (λi hi hle=>by omega)).trans hu (λi hi hM=>by
  have:=HIX.out;rcases(I4.out i).1 hM with e|e|e<;>omega)
 have wC:Hid (∀k,k=bm->gD w k):=λk hk=>by rw[hk];exact ZB.out
 have Mr:Hid (∀W,aH M Wm W->vK W w.heap.size (⟨⟨dF,dG⟩,⟨dH,dK⟩,⟨dV,dn⟩,⟨dQ,dh⟩,⟨dz,dB⟩⟩:CV) C):=λW hu=>⟨HC.out.upd (HOLD.out W hu) wC.out,HX.out.keep hu (λe=>(HMW.out _ e).2.1 rfl)⟩;have HTW:Hid (∀W,aH M Wm W->Tab W):=λW hu=>HT.out.upd (HOLD.out W hu) wC.out;have XE:Hid (dN C P Wm bm n):=HS.out.memo.below HBm.out;have HI0:=ah (JInv.start C P l);have hl9:l.length<=9223372036854775807:=by omega
 clear HX;go_wp2
 go_loopg [23] l.length (λgk v23 wr=>∃(i:Nat)(F:List ak)(v:Value),gk=l.length - i/\i<=l.length/\v23= .int .i64 i/\Hid (qo M Wm.heap.size cm cq bf wr v F)/\F.length<=i/\F.length<=300/\Hid (JInv C P l F 0/\∀x∈l.take i,x∈F)/\Hid (aH M Wm wr)/\Hid (dN C P wr bm n))
 case atStart=>exact⟨0,[],_,rfl,aV _,rfl,HA0,bH _,by simp,⟨HI0.out,by simp⟩,aH.refl _ _,XE⟩
 case round=>
  obtain⟨i,F,v,eH,hi,rfl,HA,hFl,hF3,HI,HU,HM⟩:=hrel;have iB:=ah eH;clear eH;clear HA0 XE HI0;by_cases hlt:i<l.length
  .obtain⟨s,hs⟩:∃s,l[i]?=some s:=⟨_,aT hlt⟩
   have Yj:=ah (HOLD.out wr HU.out);obtain⟨g,off,hA,hg,hcl⟩:=HL.out.form (by omega);simp only at hA;subst hA;obtain⟨⟨⟨fQ,eZ⟩,⟨gH,eX⟩,⟨h_,dW⟩⟩,⟨hst,_⟩,hcells⟩:=hcl i s hs;obtain⟨e0,e1,e2,e3⟩:=rw4 (hcells w (aD _ _)) rfl;have C9:=ah (HO.out s (cK hs));have HRE:Hid (pX C P l s):=.base (cK hs);have d0:=Yj.out.D9 wC.out e0;have d1:=Yj.out.D9 wC.out e1;have d2:=Yj.out.D9 wC.out e2;have d3:=Yj.out.D9 wC.out e3;have Z8:Hid (∀x,x∈l.take (i+1)->x∈l.take i\/x=s):=λx hx=>by
    rw[bS hs]at hx;simpa using hx
   have HST:=ah hst;have i0:(0:Int)<=(i:Int):=by omega
   have i1:(i:Int)<(l.length:Int):=by omega
   clear e0 e1 e2 e3 hcells hcl hst hs hg Yj;go_upto_region 7 with(fail)
   generalize hW1:World.alloc _ _=W1;obtain⟨hb1,g_⟩:=bx1' hW1;have oU:Hid (Own W1 48 wr.heap.size [.int .i64 s.day,.slice fQ s.aj.length eZ,.slice gH s.used.length eX,.slice h_ s.marks.length dW]):=⟨[],by rw[b_];exact g_⟩;have HA1:=ah (HA.out.below hb1);have Af:=ah (HU.out.on hb1);have Mq:=ah (HM.out.below hb1);clear hW1 hb1 g_ d0 d1 d2 d3 HA HU HM;have x0:=oU.out.cell (i:=0) rfl;have x1:=oU.out.cell (i:=1) rfl;have x2:=oU.out.cell (i:=2) rfl;have x3:=oU.out.cell (i:=3) rfl;have had:=SY HA1.out ((I4.out bf).2 (.inr (.inl rfl))) ((I4.out cq).2 (.inr (.inr rfl))) Af.out.size ⟨⟨fQ,eZ⟩,⟨gH,eX⟩,⟨h_,dW⟩⟩ s (Yi HST.out (HOLD.out W1 Af.out) ZB.out (λk hk h=>by
    have:=HIX.out;rcases h with h|h
    .have:=(HA1.out.U_.own h.symm).1;omega
    .rcases(I4.out k).1 h with h|h|h<;>omega)) C9.out.ranged (HTW.out W1 Af.out) (by omega)
   simp only[TV.val,TV.cells,ak.cells]at had;have HAD:=ah had;clear had;go_wp2_with (go_at_call 77;refine HAD.out.mono ?_;rintro e z ⟨rfl,v',hA,hU,hO⟩;refine Hid.out ?_);refine ah ?_;have VF:Hid (aH M Wm z):=Af.out.trans hU (λk hk h=>by
    rcases h with h|h|h
    .have:=(HA1.out.U_.own h.symm).1;omega
    .exact(I4.out k).2 (.inr (.inl h))
    .exact(I4.out k).2 (.inr (.inr h)))
   have HMz:Hid (dN C P z bm n):=Mq.out.keep hU (λh=>by
    have:=HIX.out;rcases h with h|h|h
    .have:=(HA1.out.U_.own h.symm).1;omega
    .omega
    .omega)
   have HAz:=ah hA;have HIz:Hid (JInv C P l (rV F s) 0/\∀x∈l.take (i+1),x∈rV F s):=⟨HI.out.1.meet (aV _) C9.out HRE.out,λx hx=>rD.2 ((Z8.out x hx).imp (HI.out.2 x) id)⟩;have hml:=OH F s;clear hA hU hO HAD HA1 Af Mq oU x0 x1 x2 x3 HI;generalize rV F s=F2 at HAz HIz hml⊢;by_cases h3:F2.length<=300
   .rw[decide_eq_true h3]
    go_wp2
    go_roundg (l.length - (i+1))
    case measure=>rw[iB.out];omega
    case rel=>exact⟨i+1,F2,v',rfl,by omega,by go_num,HAz,by omega,h3,HIz,VF,HMz⟩
   .rw[decide_eq_false h3]
    have HMY:Hid (rO C P l):=⟨F2,Bu HAz.out.set.nodup,by omega,HIz.out.1.reach⟩;go_wp2;try rw[Exit.noGoto_ret]
    go_ret2
    exact⟨[],none,0,3,rfl,HOLD.out z VF.out,HMz.out.mono (by omega),.inr ⟨rfl,rfl,rfl,rfl,HMY.out⟩⟩
  .obtain rfl:i=l.length:=by omega
   rw[gV]at HI;go_wp2
   go_loopg [13] 301 (λgk v13 wr=>∃(k:Nat)(F:List ak)(v:Value),gk=301 - k/\k<=F.length/\F.length<=300/\v13= .int .i64 k/\Hid (qo M Wm.heap.size cm cq bf wr v F)/\Hid (JInv C P l F k/\∀x∈l,x∈F)/\Hid (aH M Wm wr)/\Hid (dN C P wr bm (n+k*1000)))
   case atStart=>exact⟨0,F,v,rfl,aV _,hF3,rfl,HA,HI,HU,HM⟩
   case round=>
    obtain⟨k,F,v,eH,hk,hF3,rfl,HA,HI,HU,HM⟩:=hrel;have iB:=ah eH;clear eH;obtain⟨wo,e⟩:∃x,x=wr:=⟨_,rfl⟩;subst e;by_cases hlt:k<F.length
    .obtain⟨s,hs⟩:∃s,F[k]?=some s:=⟨_,aT hlt⟩
     obtain⟨g,c,⟨⟨fQ,eZ⟩,⟨gH,eX⟩,⟨h_,dW⟩⟩,hv,hsf,hcl⟩:=HA.out.U_.get hs;have C9:=ah (HI.out.1.ok s (cK hs));have HRE:=ah (HI.out.1.reach s (cK hs));have Vt:=ah hs;obtain⟨d0,d1,d2,d3⟩:=rw4 hcl rfl;have q0:=HA.out.Rh.cell (i:=0) rfl;have HOW:Hid (∀q,v.ownBlock=some q->q<wo.heap.size):=λq hq=>(HA.out.U_.own hq).2.1;rw[hv]at q0;have Ve:=ah hsf;have k0:(0:Int)<=(k:Int):=by omega
     have k1:(k:Int)<(F.length:Int):=by omega
     have hwo:=HU.out.size;clear hsf hcl hs;go_upto_region 14 with(fail)
     generalize hW1:World.alloc _ _=W1;obtain⟨hb1,g_⟩:=bx1' hW1;have oU:Hid (Own W1 48 wo.heap.size [.int .i64 s.day,.slice fQ s.aj.length eZ,.slice gH s.used.length eX,.slice h_ s.marks.length dW]):=⟨[],by rw[b_];exact g_⟩;have HA1:=ah (HA.out.below hb1);have Af:=ah (HU.out.on hb1);have Mq:=ah (HM.out.below hb1);have adr:Hid (Safe M v.ownBlock W1 ⟨⟨fQ,eZ⟩,⟨gH,eX⟩,⟨h_,dW⟩⟩ s):=Ve.out.turn (aH.of_below hb1) (λk hk e=>by omega) (.inl rfl);have ao4:wo.heap.size<W1.heap.size:=av g_;clear hW1 hb1 g_ d0 d1 d2 d3 q0 Ve HA HU HM;obtain⟨c0,c1,c2,c3,c4,c5,c6⟩:=(Mr.out W1 Af.out).cells;simp only at c0 c1 c2 c3 c4 c5 c6;have x0:=oU.out.cell (i:=0) rfl;have x1:=oU.out.cell (i:=1) rfl;have x2:=oU.out.cell (i:=2) rfl;have x3:=oU.out.cell (i:=3) rfl;by_cases hd:C.days<=s.day
     .have HID:Hid (JInv C P l F (k+1)/\∀x∈l,x∈F):=⟨HI.out.1.done Vt.out (λh=>by omega),HI.out.2⟩
      clear hv;go_wp2
      go_roundg (301 - (k+1))
      case measure=>rw[iB.out];omega
      case rel=>exact⟨k+1,F,v,rfl,by omega,hF3,by go_num,HA1,HID,Af,Mq.out.mono (by omega)⟩
     .have hd2:s.day<C.days:=by omega
      have Ae:Hid (∀i,i<C.acts.length->bJ C (C.next s i)/\C.bT s i=0/\(hidJ C P s i=true->pX C P l (C.next s i))):=λi hi=>⟨(Kn C9.out hd2 hi).1,(Kn C9.out hd2 hi).2,λh=>.step HRE.out hd2 hi h⟩;have hna:=Uv ⟨⟨dF,dG⟩,⟨dH,dK⟩,⟨dV,dn⟩,⟨dQ,dh⟩,⟨dz,dB⟩⟩ C ⟨⟨fQ,eZ⟩,⟨gH,eX⟩,⟨h_,dW⟩⟩ s W1 (Mr.out W1 Af.out).con adr.out.at C9.out;simp only[CV.val,CV.cells,TV.val,TV.cells,ak.cells]at hna;have HNA:=ah hna;clear hna;have HV:=ah hv;clear hv;go_wp2_with (go_at_call 78;refine HNA.out.mono ?_;rintro e Z ⟨ng,nc,rfl,hng,hnb,hbz⟩;refine Hid.out ?_);refine ah ?_;have HAZ:=ah (HA1.out.below hbz);have HUZ:=ah (Af.out.on hbz);have HMZ:=ah (Mq.out.below hbz);have HXZ:=ah (oU.out.below hbz);have rT:Hid (Safe M v.ownBlock Z ⟨⟨fQ,eZ⟩,⟨gH,eX⟩,⟨h_,dW⟩⟩ s):=adr.out.turn (aH.of_below hbz) (λk hk e=>by omega) (.inl rfl);have HNZ:Hid (Own Z 4 ng (iG (C.named s))):=⟨[],by rw[b_];exact hnb⟩;have hnl:(C.named s).length=C.acts.length:=oQ _ _ _;have hwz:=hbz.size;have ao6:=HNZ.out.lt;have ao7:=(au.ok C9.out.con).JW;have Sk:=ah hnl;clear hnl;clear hnb hbz HNA HA1 Af Mq oU adr c0 c1 c2 c3 c4 c5 c6 x0 x1 x2 x3;have c3:=(Mr.out Z HUZ.out).n_.cell (i:=3) rfl;simp only at c3;have HOZ:Hid (∀q,v.ownBlock=some q->q<wo.heap.size\/Z.heap.size<=q):=λq hq=>.inl (HOW.out q hq);go_wp2
      go_loopg [53] C.acts.length (λgk v53 wr=>∃(i:Nat)(F2:List ak)(v2:Value),gk=C.acts.length - i/\i<=C.acts.length/\v53= .int .i64 i/\F2.length<=300/\k<F2.length/\Hid (qo M Wm.heap.size cm cq bf wr v2 F2)/\Hid (JInv C P l F2 k/\(∀x∈l,x∈F2)/\F2[k]?=some s/\∀j,j<i->hidJ C P s j=true->C.next s j∈F2)/\Hid (aH M Wm wr)/\Hid (dN C P wr bm (n+k*1000+i))/\Hid (aH (λq=>q<wo.heap.size\/Z.heap.size<=q) Z wr)/\Hid (∀q,v2.ownBlock=some q->q<wo.heap.size\/Z.heap.size<=q)/\Hid (Safe M v2.ownBlock wr ⟨⟨fQ,eZ⟩,⟨gH,eX⟩,⟨h_,dW⟩⟩ s))
      case atStart=>exact⟨0,F,v,rfl,aV _,rfl,hF3,hlt,HAZ,⟨HI.out.1,HI.out.2,Vt.out,λj hj=>absurd hj (by omega)⟩,HUZ,HMZ,aH.refl _ _,HOZ,rT⟩
      case round=>
       obtain⟨i,F2,v2,hgi,hi,rfl,hF2,hk2,HA,HI2,HU,HM,HZ,Ah,Ve⟩:=hrel;have Xi:=ah hgi;clear hgi;clear c3 HAZ HUZ HMZ rT HOZ;by_cases hlt2:i<C.acts.length
       .have HXr:Hid (Own wr 48 wo.heap.size [.int .i64 s.day,.slice fQ s.aj.length eZ,.slice gH s.used.length eX,.slice h_ s.marks.length dW]):=HXZ.out.keep HZ.out (by omega)
        have HNr:=ah (HNZ.out.keep HZ.out (by omega));obtain⟨nb,hnb⟩:∃nb,nb=(C.named s).getD i false:=⟨_,rfl⟩;have n0:wr.cell? ⟨ng,i,none⟩=some (.bool nb):=HNr.out.cell (by rw[hnb];simp[iG,Sk.out,hlt2]);have HHJ:Hid (hidJ C P s i=(nb&& !(C.sight P s i))):=by show _=_;rw[hnb];rfl
        have i0:(0:Int)<=(i:Int):=by omega
        have i1:(i:Int)<(C.acts.length:Int):=by omega
        have hnl:=Sk.out;have i2:(i:Int)<((C.named s).length:Int):=by omega
        have hwr:=HU.out.size;clear hnl hnb;cases nb with
        |false=>
         have qB:Hid (JInv C P l F2 k/\(∀x∈l,x∈F2)/\F2[k]?=some s/\∀j,j<i+1->hidJ C P s j=true->C.next s j∈F2):=⟨HI2.out.1,HI2.out.2.1,HI2.out.2.2.1,λj hj hh=>by
          by_cases e:j=i
          .rw[e,HHJ.out]at hh;cases hh
          .exact HI2.out.2.2.2 j (by omega) hh⟩
         go_wp2
         go_roundg (C.acts.length - (i+1))
         case measure=>rw[Xi.out];omega
         case rel=>exact⟨i+1,F2,v2,rfl,by omega,by go_num,hF2,hk2,HA,qB,HU,HM.out.mono (by omega),HZ,Ah,Ve⟩
        |true=>
         have x0:=HXr.out.cell (i:=0) rfl;have x1:=HXr.out.cell (i:=1) rfl;have x2:=HXr.out.cell (i:=2) rfl;have x3:=HXr.out.cell (i:=3) rfl;have hsg:=Ic (HS.out.turn (HOLD.out wr HU.out) wC.out HM.out) (by have:=HN.out;omega) ⟨⟨fQ,eZ⟩,⟨gH,eX⟩,⟨h_,dW⟩⟩ s Ve.out.at C9.out hlt2;simp only[TV.val,TV.cells,ak.cells]at hsg;have SQ:=ah hsg;clear hsg;go_wp2_with (go_at_call 75;refine SQ.out.mono ?_;rintro e Y ⟨rfl,hm,hu⟩;refine Hid.out ?_);refine ah ?_;have hnb:∀q,q=bm->gD wr q/\M q:=λq hq=>by rw[hq];exact⟨HM.out.blk,(I4.out bm).2 (.inl rfl)⟩
         have hix:=HIX.out;have HAY:=ah (HA.out.z_ hu hnb (by omega));have HUY:Hid (aH M Wm Y):=HU.out.trans hu (λq hq e=>(hnb q e).2);have HMY:=ah hm;have HZY:Hid (aH (λq=>q<wo.heap.size\/Z.heap.size<=q) Z Y):=HZ.out.trans hu (λq hq e=>by left;omega);have HSY:Hid (Safe M v2.ownBlock Y ⟨⟨fQ,eZ⟩,⟨gH,eX⟩,⟨h_,dW⟩⟩ s):=Ve.out.turn hu (λq hq e=>.inr (hnb q e).2) (.inl rfl);have ZY:=ah (HXr.out.z_ hu (λq hq=>(hnb q hq).1));clear hu hm hnb hix x0 x1 x2 x3 n0 SQ HA HU HM HZ Ve HXr HNr;generalize C.sight P s i=sg at HHJ⊢;cases sg with
         |true=>
          have qB:Hid (JInv C P l F2 k/\(∀x∈l,x∈F2)/\F2[k]?=some s/\∀j,j<i+1->hidJ C P s j=true->C.next s j∈F2):=⟨HI2.out.1,HI2.out.2.1,HI2.out.2.2.1,λj hj hh=>by
           by_cases e:j=i
           .rw[e,HHJ.out]at hh;cases hh
           .exact HI2.out.2.2.2 j (by omega) hh⟩
          go_wp2
          go_roundg (C.acts.length - (i+1))
          case measure=>rw[Xi.out];omega
          case rel=>exact⟨i+1,F2,v2,rfl,by omega,by go_num,hF2,hk2,HAY,qB,HUY,HMY.out.mono (by omega),HZY,Ah,HSY⟩
         |false=>
          have x0:=ZY.out.cell (i:=0) rfl;have x1:=ZY.out.cell (i:=1) rfl;have x2:=ZY.out.cell (i:=2) rfl;have x3:=ZY.out.cell (i:=3) rfl;obtain⟨c0,c1,c2,c3,c4,c5,c6⟩:=(Mr.out Y HUY.out).cells;simp only at c0 c1 c2 c3 c4 c5 c6;have hsp:=Bq ⟨⟨dF,dG⟩,⟨dH,dK⟩,⟨dV,dn⟩,⟨dQ,dh⟩,⟨dz,dB⟩⟩ C ⟨⟨fQ,eZ⟩,⟨gH,eX⟩,⟨h_,dW⟩⟩ s i Y (Mr.out Y HUY.out).con HSY.out.at;rw[(Ae.out i hlt2).2.1]at hsp;simp only[CV.val,CV.cells,TV.val,TV.cells,ak.cells]at hsp;have QC:=ah (hsp.mono (λ_ _ h=>h.ret));clear hsp;have Fy:=ah (Ae.out i hlt2).1;have HRC:=ah ((Ae.out i hlt2).2.2 (by rw[HHJ.out];rfl));have JZ:Hid (∀G:List ak,(∀x∈F2,x∈G)->C.next s i∈G->∀j,j<i+1->hidJ C P s j=true->C.next s j∈G):=λG h1 h2 j hj hh=>by
           by_cases e:j=i
           .rw[e];exact h2
           .exact h1 _ (HI2.out.2.2.2 j (by omega) hh)
          generalize C.next s i=s2 at QC Fy HRC JZ;go_wp2_with (go_at_call 39;refine QC.out.mono ?_;rintro e X ⟨S_,Ta,Tc,Td,Te,Tf,rfl,GV,GX,hbx⟩;refine Hid.out ?_);refine ah ?_;have HAX:=ah (HAY.out.below hbx);have Y9:=ah (HUY.out.on hbx);have pQ:=ah (HMY.out.below hbx);have HZX:=ah (HZY.out.on hbx);have Av:Hid (Safe M v2.ownBlock X ⟨⟨fQ,eZ⟩,⟨gH,eX⟩,⟨h_,dW⟩⟩ s):=HSY.out.turn (aH.of_below hbx) (λq hq e=>by omega) (.inl rfl);have HS2:Hid (Safe M v2.ownBlock X ⟨⟨S_,Ta⟩,⟨Tc,Td⟩,⟨Te,Tf⟩⟩ s2):=Safe.new GV GX (λq hq=>by
           have:=HUY.out.size;rcases hq with hq|hq
           .exact(HAY.out.U_.own hq.symm).2.1
           .have:=(HMW.out q hq).1;omega)
          clear GV GX hbx QC HAY HUY HMY HZY HSY ZY x0 x1 x2 x3 c0 c1 c2 c3 c4 c5 c6;go_upto_region 21 with(fail)
          generalize hW3:World.alloc _ _=W3;obtain⟨hb3,hh3⟩:=bx1' hW3;have rF:Hid (Own W3 48 X.heap.size [.int .i64 s2.day,.slice S_ s2.aj.length Ta,.slice Tc s2.used.length Td,.slice Te s2.marks.length Tf]):=⟨[],by rw[b_];exact hh3⟩;have HA3:=ah (HAX.out.below hb3);have zD:=ah (Y9.out.on hb3);have Ml:=ah (pQ.out.below hb3);have HZ3:=ah (HZX.out.on hb3);have IJ:Hid (Safe M v2.ownBlock W3 ⟨⟨fQ,eZ⟩,⟨gH,eX⟩,⟨h_,dW⟩⟩ s):=Av.out.turn (aH.of_below hb3) (λq hq e=>by omega) (.inl rfl);have HT3:Hid (Safe M v2.ownBlock W3 ⟨⟨S_,Ta⟩,⟨Tc,Td⟩,⟨Te,Tf⟩⟩ s2):=HS2.out.turn (aH.of_below hb3) (λq hq e=>by omega) (.inl rfl);clear hW3 hb3 hh3 HAX Y9 pQ HZX Av HS2;have x0:=rF.out.cell (i:=0) rfl;have x1:=rF.out.cell (i:=1) rfl;have x2:=rF.out.cell (i:=2) rfl;have x3:=rF.out.cell (i:=3) rfl;have had:=SY HA3.out ((I4.out bf).2 (.inr (.inl rfl))) ((I4.out cq).2 (.inr (.inr rfl))) zD.out.size ⟨⟨S_,Ta⟩,⟨Tc,Td⟩,⟨Te,Tf⟩⟩ s2 HT3.out Fy.out.ranged (HTW.out W3 zD.out) (by omega);simp only[TV.val,TV.cells,ak.cells]at had;have HAD:=ah had;clear had;go_wp2_with (go_at_call 77;refine HAD.out.mono ?_;rintro e Y ⟨rfl,v3,hA,hu,hO⟩;refine Hid.out ?_);refine ah ?_;have hix:=HIX.out;have Um:=HZ3.out.size;have hpos:∀q,q<W3.heap.size->(some q=v2.ownBlock\/q=bf\/q=cq)->Wm.heap.size<=q/\(q<wo.heap.size\/Z.heap.size<=q)\/q=bf\/q=cq:=λq hq h=>by
           rcases h with h|h
           .exact .inl ⟨(HA3.out.U_.own h.symm).1,Ah.out q h.symm⟩
           .exact .inr h
          have YU:Hid (aH M Wm Y):=zD.out.trans hu (λq hq h=>by
           rcases hpos q (by have:=zD.out.size;omega) h with h|h|h
           .omega
           .exact(I4.out q).2 (.inr (.inl h))
           .exact(I4.out q).2 (.inr (.inr h)))
          have HM4:Hid (dN C P Y bm (n+k*1000+i+1)):=Ml.out.keep hu (λh=>by
           rcases hpos bm (by have:=zD.out.size;omega) h with h|h|h<;>omega)
          have HZ4:Hid (aH (λq=>q<wo.heap.size\/Z.heap.size<=q) Z Y):=HZ3.out.trans hu (λq hq h=>by
           rcases hpos q (by omega) h with h|h|h
           .exact h.2
           .left;omega
           .left;omega)
          have YH:Hid (∀q,v3.ownBlock=some q->q<wo.heap.size\/Z.heap.size<=q):=λq hq=>by
           rcases hO with h|h
           .rw[h]at hq;exact Ah.out q hq
           .have:=h q hq;right;omega
          have XI:Hid (Safe M v3.ownBlock Y ⟨⟨fQ,eZ⟩,⟨gH,eX⟩,⟨h_,dW⟩⟩ s):=IJ.out.turn hu (λq hq h=>by
           rcases h with h|h|h
           .exact .inl h
           .exact .inr ((I4.out q).2 (.inr (.inl h)))
           .exact .inr ((I4.out q).2 (.inr (.inr h)))) hO
          have HA4:=ah hA;have hml:=OH F2 s2;have qB:Hid (JInv C P l (rV F2 s2) k/\(∀x∈l,x∈rV F2 s2)/\(rV F2 s2)[k]?=some s/\∀j,j<i+1->hidJ C P s j=true->C.next s j∈rV F2 s2):=⟨HI2.out.1.meet (by omega) Fy.out HRC.out,λx hx=>rD.2 (.inl (HI2.out.2.1 x hx)),by rw[OG F2 s2 hk2];exact HI2.out.2.2.1,JZ.out _ (λx hx=>rD.2 (.inl hx)) (rD.2 (.inr rfl))⟩;clear hA hu hO hix Um hpos HAD HA3 zD Ml HZ3 IJ HT3 rF x0 x1 x2 x3 JZ HI2 Ah;generalize rV F2 s2=F4 at HA4 qB hml⊢;by_cases h3:F4.length<=300
          .rw[decide_eq_true h3]
           go_wp2
           go_roundg (C.acts.length - (i+1))
           case measure=>rw[Xi.out];omega
           case rel=>exact⟨i+1,F4,v3,rfl,by omega,by go_num,h3,by omega,HA4,qB,YU,HM4.out.mono (by omega),HZ4,YH,XI⟩
          .rw[decide_eq_false h3]
           have HMY:Hid (rO C P l):=⟨F4,Bu HA4.out.set.nodup,by omega,qB.out.1.reach⟩;go_wp2;try rw[Exit.noGoto_ret]
           go_ret2
           exact⟨[],none,0,3,rfl,HOLD.out Y YU.out,HM4.out.mono (by omega),.inr ⟨rfl,rfl,rfl,rfl,HMY.out⟩⟩
       .obtain rfl:i=C.acts.length:=by omega
        have HID:Hid (JInv C P l F2 (k+1)/\∀x∈l,x∈F2):=⟨HI2.out.1.done HI2.out.2.2.1 (λ_ j hj hh=>HI2.out.2.2.2 j hj hh),HI2.out.2.1⟩;go_wp2
        go_roundg (301 - (k+1))
        case measure=>rw[iB.out];omega
        case rel=>exact⟨k+1,F2,v2,rfl,by omega,hF2,by go_num,HA,HID,HU,HM.out.mono (by omega)⟩
    .obtain rfl:k=F.length:=by omega
     obtain⟨A,c,hv,hN⟩:=HA.out.U_.ret;have q0:=HA.out.Rh.cell (i:=0) rfl;rw[hv]at q0;have m0:=HA.out.Dj.cell (i:=0) rfl;have hls:=Rs (HA.out.set.SS (λ_ _ h=>h.at)) (aV _) (by omega) (λs hs=>NH (HI.out.1.ok s hs).ranged);have Sw:=ah hls;clear hls hN hv;go_wp2_with (go_at_call 79;refine Sw.out.mono ?_;rintro e z ⟨R,RA,rc,rfl,hsn,hsr,hmm,hln,hbz⟩;have ZI:=ah hln;clear hln;refine Hid.out ?_);refine ah ?_;have HJC:Hid (pY C P l R):=HI.out.1.clo HI.out.2 hmm hsr (by have:=ZI.out;omega);have tT:=ah hsn;have VF:=ah (HU.out.on hbz);have HMz:=ah (HM.out.below hbz);clear hsn hsr hmm hbz;go_wp2
     go_ret2
     exact⟨R,RA,rc,0,rfl,HOLD.out z VF.out,HMz.out.mono (by omega),.inl ⟨rfl,tT.out,HJC.out⟩⟩
end
section
open Go.RowKit Go.Shelf Go.Sort
def au.jU(C:au)(P:List Int):Bool:=decide (1<=P.length)&&(decide (P.length<=12)&&P.all (λp=>decide (0<=p)&&decide (p<C.aF)))
theorem Yk{l:List Int}{k:Nat}{x:Int}(h:l[k]?=some x)(f:Int->Bool):(l.take (k+1)).all f=((l.take k).all f&&f x):=by
 rw[bS h];simp
theorem Tg{l:List Int}{x:Int}(h:x∈l){f:Int->Bool}(hf:f x=false):l.all f=false:=by
 rw[List.all_eq_false];exact⟨x,h,by rw[hf];simp⟩
theorem Vf(v:CV)(C:au)(A:Option Addr)(c:Nat)(P:List Int)(w:World)(hC:bU w v C)(hP:At w 1 A P.length c (aR P)):Calls Tryz.prog 47 #[v.val C,.slice A P.length c] w (dx (.bool (C.jU P)) w):=by
 obtain⟨⟨dF,dG⟩,⟨dH,dK⟩,⟨dV,dn⟩,⟨dQ,dh⟩,⟨dz,dB⟩⟩:=v;have HP:=ah hP;clear hP;clear hC;simp only[CV.val,CV.cells];obtain⟨E,hE⟩:∃E,E=C.jU P:=⟨_,rfl⟩;rw[<-hE];have HE:=ah hE;clear hE;go_enter Tryz.func47,Tryz.ntmps47;go_upto_region 1 with(fail)
 generalize hW0:World.alloc _ _=W0;obtain⟨HB0,h0⟩:=bx1 hW0;have c0:W0.cell? ⟨w.heap.size,0,none⟩=some (.int .i64 C.aF):=(aG W0 _ 0 _ _ _ h0).trans rfl;clear hW0 h0;by_cases h1:P.length<1
 .obtain rfl:E=false:=by rw[HE.out,au.jU,decide_eq_false (by omega)];rfl
  have q1:(P.length:Int)<1:=by omega
  go_wp2;go_ret;exact⟨rfl,HB0.out⟩
 by_cases h2:12<P.length
 .obtain rfl:E=false:=by rw[HE.out,au.jU,decide_eq_false (show¬P.length<=12 by omega),Bool.false_and,Bool.and_false]
  have q1:¬(P.length:Int)<1:=by omega
  have q2:(12:Int)<(P.length:Int):=by omega
  go_wp2;go_ret;exact⟨rfl,HB0.out⟩
 have HE2:Hid (E=P.all (λp=>decide (0<=p)&&decide (p<C.aF))):=by show _=_;rw[HE.out,au.jU,decide_eq_true (by omega),decide_eq_true (by omega)];rfl
 have q1:¬(P.length:Int)<1:=by omega
 have q2:¬(12:Int)<(P.length:Int):=by omega
 have hp9:P.length<=9223372036854775807:=by omega
 go_wp2
 go_loopg [17] P.length (λgk v17 wr=>∃k:Nat,gk=P.length - k/\k<=P.length/\v17= .int .i64 k/\Hid ((P.take k).all (λp=>decide (0<=p)&&decide (p<C.aF))=true)/\wr=W0)
 case atStart=>exact⟨0,rfl,aV _,rfl,rfl,rfl⟩
 case round=>
  obtain⟨k,eH,hk,rfl,HA,rfl⟩:=hrel;have iB:=ah eH;clear eH;by_cases hlt:k<P.length
  .obtain⟨x,hx⟩:∃x,P[k]?=some x:=⟨_,aT hlt⟩
   obtain⟨pb,po,hA,hbl,hcl⟩:=(HP.out.below (by omega) HB0.out).1.form (by omega) (by omega);subst hA;have x0:wr.cell? ⟨pb,po+k,none⟩=some (.int .i64 x):=(hcl k (by omega)).trans (gQ hx);have HAS:=ah (Yk hx (λp=>decide (0<=p)&&decide (p<C.aF)));have k0:(k:Int)<(P.length:Int):=by omega
   have k1:(0:Int)<=(k:Int):=by omega
   have HXM:=ah (cK hx);clear hcl hx;by_cases h3:x<0
   .obtain rfl:E=false:=by rw[HE2.out];exact Tg HXM.out (by simp;omega)
    go_wp2;try rw[Exit.noGoto_ret]
    go_ret;exact⟨rfl,HB0.out⟩
   .by_cases h4:C.aF<=x
    .obtain rfl:E=false:=by rw[HE2.out];exact Tg HXM.out (by simp;omega)
     go_wp2;try rw[Exit.noGoto_ret]
     go_ret;exact⟨rfl,HB0.out⟩
    .have HAN:Hid ((P.take (k+1)).all (λp=>decide (0<=p)&&decide (p<C.aF))=true):=by show _=_;rw[HAS.out,HA.out];simp;omega
     go_wp2
     go_roundg (P.length - (k+1))
     case measure=>rw[iB.out];omega
     case rel=>exact⟨k+1,rfl,by omega,by go_num,HAN,rfl⟩
  .obtain rfl:k=P.length:=by omega
   obtain rfl:E=true:=by rw[HE2.out,<-HA.out,gV]
   go_wp2;go_ret;exact⟨rfl,HB0.out⟩
def xY(C:au)(P:List Int)(x:Int)(s:ak):Bool:=(!decide (C.days<=s.day))&&((x== -1)||C.sight P s x.toNat)
def jN(C:au)(P:List Int)(x:Int)(b:List ak)(k:Nat):List ak:=((b.take k).filter (xY C P x)).map (λs=>C.next s x)
def au.fO(C:au)(P:List Int)(x:Int)(b:List ak):List ak:=(b.filter (xY C P x)).map (λs=>C.next s x)
theorem Jv{C:au}{P:List Int}{x:Int}{b:List ak}{k:Nat}{s:ak}(h:b[k]?=some s):jN C P x b (k+1)=jN C P x b k++cond (xY C P x s) [C.next s x] []:=by
 unfold jN;rw[take_snoc' h,List.filter_append,uf];cases hf:xY C P x s<;>simp[hf]
theorem LQ(C:au)(P:List Int)(x:Int)(b:List ak):jN C P x b b.length=C.fO P x b:=by
 unfold jN au.fO;rw[gV]
theorem BQ(C:au)(P:List Int)(x:Int)(b:List ak)(k:Nat):(jN C P x b k).length<=b.length:=by
 unfold jN;rw[eF];exact bF (List.length_filter_le _ _) (by rw[p9];omega)
theorem Vg{C:au}{P:List Int}{x:Int}{b:List ak}(hx:C.pU x)(hb:∀s∈b,bJ C s):∀s∈C.fO P x b,bJ C s:=by
 intro s hs;unfold au.fO at hs;obtain⟨s0,h0,rfl⟩:=dU.1 hs;obtain⟨h1,h2⟩:=List.mem_filter.1 h0;unfold xY at h2;simp only[bM,iE,decide_eq_false_iff_not]at h2;exact(CO hx (hb s0 h1) (by omega)).2
def Ij(C:au)(P:List Int)(x:Int)(b r:List ak):Prop:=C.pU x/\C.fO P x b≠[]/\pY C P (C.fO P x b) r
def uO(C:au)(P:List Int)(x:Int)(b:List ak)(er:Int):Prop:=(er=1/\¬C.pU x)\/(C.pU x/\((er=13/\C.fO P x b=[])\/(er=3/\rO C P (C.fO P x b))))
def Rt(C:au)(P:List Int)(x:Int)(b:List ak)(bm n:Nat)(w:World)(e:Ending)(w':World):Prop:=
 ∃(r:List ak)(A:Option Addr)(c:Nat)(er:Int),e= .returned (.tuple #[.slice A r.length c,.int .i64 er])/\aH (λk=>k=bm) w w'/\dN C P w' bm (n+2000000)/\
  ((er=0/\dD 0 w' ⟨A,c⟩ r/\Ij C P x b r)\/(er≠0/\A=none/\c=0/\r=[]/\uO C P x b er))
theorem dY.below{M:Nat->Prop}{B:Nat}{w w':World}{v:Value}{R:List ak}(h:dY M B w v R)(hb:Below w.heap.size w w'):dY M B w' v R:=
 h.keep (aH.of_below hb) (λk hk e=>by omega) (λg hg e=>by have:=(h.own hg).2.1;omega)
end
section
open Go.RowKit Go.Shelf Go.Sort
theorem dY.z_{M S:Nat->Prop}{B:Nat}{w w':World}{v:Value}{R:List ak}(h:dY M B w v R)(hu:aH S w w')(hS:∀k,S k->gD w k/\M k):dY M B w' v R:=
 h.keep hu (λk _ e=>(hS k e).2) (λg hg e=>by
  obtain⟨_,_,cs,hc⟩:=h.own hg;obtain⟨es,c,hm⟩:=(hS _ e).1;rw[hc]at hm;cases hm)
theorem Ru(v:CV)(C:au)(P:List Int){bc bk bp bm n:Nat}(sl:SV)(b:List ak)(x:Int)(w:World)(hC:bU w v C)(hL:dD 0 w sl b)(hO:∀s∈b,bJ C s)(hT:Tab w)(hl:b.length<=1000)(hs:oF C P w bc bk bp bm n)(hn:n<=80000000000):
 Calls Tryz.prog 50 #[v.val C,.slice sl.A b.length sl.c,.int .i64 x,vL bc bk bp] w (Rt C P x b bm n w):=by
 have hax:C.acts.length<=9223372036854775807:=by have h1:=hC.acts.2.2.1;have h2:=hC.acts.2.2.2;unfold maxLen at h2;omega
 obtain⟨⟨dF,dG⟩,⟨dH,dK⟩,⟨dV,dn⟩,⟨dQ,dh⟩,⟨dz,dB⟩⟩:=v;obtain⟨slA,slc⟩:=sl;have DC:gD w bm:=hs.memo.blk;have hblt:bm<w.heap.size:=by obtain⟨es,c,h⟩:=DC;exact av h
 have wC:Hid (∀k,k=bm->gD w k):=λk hk=>by rw[hk];exact DC
 clear DC;have HC:=ah hC;clear hC;have HL:=ah hL;clear hL;have HO:=ah hO;clear hO;have HT:=ah hT;clear hT;have HS:=ah hs;clear hs;have HN:=ah hn;clear hn;simp only[CV.val,CV.cells];unfold vL;go_enter Tryz.func50,Tryz.ntmps50;go_upto_region 1 with(fail)
 generalize hW0:World.alloc _ _=W0;obtain⟨HB0,h0⟩:=bx1 hW0;have HX0:Hid (Own W0 27 w.heap.size [.int .i64 C.aF,.slice dF C.aj.length dG,.slice dH C.units.length dK,.slice dV C.acts.length dn,.slice dQ C.clauses.length dh,.int .i64 C.days,.slice dz C.off.length dB]):=⟨[],by rw[b_];exact h0⟩;clear hW0;have hw0:w.heap.size<W0.heap.size:=av h0;have HOLD:Hid (∀W,aH (λk=>k=bm) W0 W->aH (λk=>k=bm) w W):=λW hu=>((aH.of_below HB0.out).mono (λi hi hle=>by omega)).trans hu (λ_ _ h=>h);have Mr:Hid (∀W,aH (λk=>k=bm) W0 W->vK W w.heap.size (⟨⟨dF,dG⟩,⟨dH,dK⟩,⟨dV,dn⟩,⟨dQ,dh⟩,⟨dz,dB⟩⟩:CV) C):=λW hu=>⟨HC.out.upd (HOLD.out W hu) wC.out,HX0.out.keep hu (by omega)⟩;have HTW:Hid (∀W,aH (λk=>k=bm) W0 W->Tab W):=λW hu=>HT.out.upd (HOLD.out W hu) wC.out;have XE:Hid (dN C P W0 bm n):=HS.out.memo.below HB0.out;have c3:=HX0.out.cell (i:=3) rfl;clear h0;by_cases hX:C.pU x
 case neg=>
  have hx1:¬x= -1:=λe=>hX (.inl e);have hx2:(x != -1)=true:=by simpa using hx1
  have HER:Hid (uO C P x b 1):=.inl ⟨rfl,hX⟩;by_cases h3:x<0
  .go_wp2
   go_ret2
   exact⟨[],none,0,1,rfl,HOLD.out W0 (aH.refl _ _),XE.out.mono (by omega),.inr ⟨by omega,rfl,rfl,rfl,HER.out⟩⟩
  .have h4:(C.acts.length:Int)<=x:=by
    apply Classical.byContradiction;intro h;exact hX (.inr ⟨by omega,by omega⟩)
   go_wp2
   go_ret2
   exact⟨[],none,0,1,rfl,HOLD.out W0 (aH.refl _ _),XE.out.mono (by omega),.inr ⟨by omega,rfl,rfl,rfl,HER.out⟩⟩
 case pos=>
 have HXO:=ah hX;clear hX;go_cut [27] (λc wx=>c= .bool false/\wx=W0)
 case first=>
  rcases HXO.out with rfl|⟨h1,h2⟩
  .go_wp2
   go_meet
   exact⟨rfl,rfl⟩
  .have hx2:(x != -1)=true:=by simp;omega
   have h3:¬x<0:=by omega
   have h4:¬(C.acts.length:Int)<=x:=by omega
   go_wp2
   go_meet
   exact⟨rfl,rfl⟩
 case rest=>
 obtain⟨rfl,e⟩:=hcut;rw[e];clear e;have hb9:b.length<=9223372036854775807:=by omega
 go_wp2
 go_loopg [30,10] b.length (λgk v30 v10 wr=>∃k:Nat,gk=b.length - k/\k<=b.length/\v30= .int .i64 k/\Hid (dY (λq=>q=bm) W0.heap.size wr v10 (jN C P x b k))/\Hid (aH (λk=>k=bm) W0 wr)/\Hid (dN C P wr bm (n+k)))
 case atStart=>exact⟨0,rfl,aV _,rfl,dY.nil _ _ _,aH.refl _ _,XE⟩
 case round=>
  obtain⟨k,eH,hk,rfl,HQ,HU,HM⟩:=hrel;have iB:=ah eH;clear eH;clear c3 XE;by_cases hlt:k<b.length
  .obtain⟨s,hs⟩:∃s,b[k]?=some s:=⟨_,aT hlt⟩
   have Yj:=ah (HOLD.out wr HU.out);obtain⟨g,off,hA,hg,hcl⟩:=HL.out.form (by omega);simp only at hA;subst hA;obtain⟨⟨⟨fQ,eZ⟩,⟨gH,eX⟩,⟨h_,dW⟩⟩,⟨hst,_⟩,hcells⟩:=hcl k s hs;obtain⟨e0,e1,e2,e3⟩:=rw4 (hcells w (aD _ _)) rfl;have C9:=ah (HO.out s (cK hs));have d0:=Yj.out.D9 wC.out e0;have d1:=Yj.out.D9 wC.out e1;have d2:=Yj.out.D9 wC.out e2;have d3:=Yj.out.D9 wC.out e3;have YS:=ah (Jv (C:=C) (P:=P) (x:=x) hs);have hnl:=BQ C P x b k;generalize jN C P x b k=R at HQ YS hnl;have HST:=ah hst;have i0:(0:Int)<=(k:Int):=by omega
   have i1:(k:Int)<(b.length:Int):=by omega
   clear e0 e1 e2 e3 hcells hcl hst hs hg Yj;go_upto_region 7 with(fail)
   generalize hW1:World.alloc _ _=W1;obtain⟨hb1,g_⟩:=bx1' hW1;have oU:Hid (Own W1 48 wr.heap.size [.int .i64 s.day,.slice fQ s.aj.length eZ,.slice gH s.used.length eX,.slice h_ s.marks.length dW]):=⟨[],by rw[b_];exact g_⟩;have uT:=ah (HQ.out.below hb1);have Af:=ah (HU.out.on hb1);have Mq:=ah (HM.out.below hb1);clear hW1 hb1 g_ d0 d1 d2 d3 HQ HU HM;have x0:=oU.out.cell (i:=0) rfl;have x1:=oU.out.cell (i:=1) rfl;have x2:=oU.out.cell (i:=2) rfl;have x3:=oU.out.cell (i:=3) rfl;have c5:=(Mr.out W1 Af.out).n_.cell (i:=5) rfl;obtain⟨fb,HFB⟩:∃fb,Hid (xY C P x s=fb):=⟨_,rfl⟩;go_cut [49] (λc wx=>c= .bool (!fb)/\Hid (aH (λq=>q=bm) W1 wx)/\Hid (dN C P wx bm (n+(k+1))))
   case first=>
    by_cases hd:C.days<=s.day
    .obtain rfl:fb=false:=by rw[<-HFB.out,xY,decide_eq_true hd];rfl
     go_wp2
     go_meet
     exact⟨rfl,aH.refl _ _,Mq.out.mono (by omega)⟩
    .rcases HXO.out with rfl|⟨h1,h2⟩
     .obtain rfl:fb=true:=by rw[<-HFB.out,xY,decide_eq_false hd];rfl
      go_wp2
      go_meet
      exact⟨rfl,aH.refl _ _,Mq.out.mono (by omega)⟩
     .obtain⟨i,rfl⟩:∃i:Nat,x=i:=⟨x.toNat,by omega⟩
      have hx2:((i:Int)!= -1)=true:=by simp
      have HFC:Hid (C.sight P s i=fb):=by
       show _=_;rw[<-HFB.out,xY,decide_eq_false hd,show((i:Int)== -1)=false by simp];rfl
      have hsg:=Ic (HS.out.turn (HOLD.out W1 Af.out) wC.out Mq.out) (by have:=HN.out;omega) ⟨⟨fQ,eZ⟩,⟨gH,eX⟩,⟨h_,dW⟩⟩ s (HST.out.upd (HOLD.out W1 Af.out) wC.out) C9.out (i:=i) (by omega);simp only[TV.val,TV.cells,ak.cells]at hsg;have SQ:=ah hsg;clear hsg;go_wp2_with (go_at_call 75;refine SQ.out.mono ?_;rintro e Y ⟨rfl,hm,hu⟩;refine Hid.out ?_);refine ah ?_;have Ag:=ah hm;have uR:=ah hu;clear hm hu;rw[HFC.out];go_wp2
      go_meet
      exact⟨rfl,uR,Ag⟩
   case rest=>
   obtain⟨rfl,uR,Ag⟩:=hcut;have hnb:∀q,q=bm->gD W1 q:=λq hq=>by rw[hq];exact Mq.out.blk
   have zD:Hid (aH (λk=>k=bm) W0 wc):=Af.out.trans uR.out (λ_ _ h=>h);have uM:=ah (oU.out.z_ uR.out hnb);have EK:=ah (uT.out.z_ uR.out (λq hq=>⟨hnb q hq,hq⟩));have Rv:=ah (HST.out.upd (HOLD.out wc zD.out) wC.out);clear hnb uR Af Mq oU uT x0 x1 x2 x3 c5;cases fb with
   |false=>
    have HQN:Hid (dY (λq=>q=bm) W0.heap.size wc u10 (jN C P x b (k+1))):=by
     show dY _ _ _ _ _;rw[YS.out,HFB.out,cond_false,b_];exact EK.out
    go_wp2
    go_roundg (b.length - (k+1))
    case measure=>rw[iB.out];omega
    case rel=>exact⟨k+1,rfl,by omega,by go_num,HQN,zD,Ag⟩
   |true=>
    have hd:s.day<C.days:=by
     have h:=HFB.out;unfold xY at h;simp only[bM,iE,decide_eq_false_iff_not]at h;omega
    obtain⟨agL,_⟩:=CO HXO.out C9.out hd;have hsp:=Bq ⟨⟨dF,dG⟩,⟨dH,dK⟩,⟨dV,dn⟩,⟨dQ,dh⟩,⟨dz,dB⟩⟩ C ⟨⟨fQ,eZ⟩,⟨gH,eX⟩,⟨h_,dW⟩⟩ s x wc (Mr.out wc zD.out).con Rv.out;rw[agL]at hsp;simp only[CV.val,CV.cells,TV.val,TV.cells,ak.cells]at hsp;have QC:=ah (hsp.mono (λ_ _ h=>h.ret));clear hsp agL hd;have agM:Hid (jN C P x b (k+1)=R++[C.next s x]):=by show _=_;rw[YS.out,HFB.out];rfl
    generalize C.next s x=s2 at QC agM;have x0:=uM.out.cell (i:=0) rfl;have x1:=uM.out.cell (i:=1) rfl;have x2:=uM.out.cell (i:=2) rfl;have x3:=uM.out.cell (i:=3) rfl;obtain⟨c0,c1,c2,c3,c4,c5,c6⟩:=(Mr.out wc zD.out).cells;simp only at c0 c1 c2 c3 c4 c5 c6;go_wp2_with (go_at_call 39;refine QC.out.mono ?_;rintro e X ⟨S_,Ta,Tc,Td,Te,Tf,rfl,GV,GX,hbx⟩;refine Hid.out ?_);refine ah ?_;have HQX:=ah (EK.out.below hbx);have Y9:=ah (zD.out.on hbx);have pQ:=ah (Ag.out.below hbx);have HS2:Hid (Safe (λq=>q=bm) u10.ownBlock X ⟨⟨S_,Ta⟩,⟨Tc,Td⟩,⟨Te,Tf⟩⟩ s2):=Safe.new GV GX (λq hq=>by
     have:=zD.out.size;rcases hq with hq|hq
     .exact(EK.out.own hq.symm).2.1
     .omega)
    clear GV GX hbx QC EK zD Ag uM Rv x0 x1 x2 x3 c0 c1 c2 c3 c4 c5 c6;go_upto_region 9 with(fail)
    generalize hW3:World.alloc _ _=W3;obtain⟨hb3,hh3⟩:=bx1' hW3;have rF:Hid (Own W3 48 X.heap.size [.int .i64 s2.day,.slice S_ s2.aj.length Ta,.slice Tc s2.used.length Td,.slice Te s2.marks.length Tf]):=⟨[],by rw[b_];exact hh3⟩;have Ev:=ah (HQX.out.below hb3);have zD:=ah (Y9.out.on hb3);have Ml:=ah (pQ.out.below hb3);have HT3:Hid (Safe (λq=>q=bm) u10.ownBlock W3 ⟨⟨S_,Ta⟩,⟨Tc,Td⟩,⟨Te,Tf⟩⟩ s2):=HS2.out.turn (aH.of_below hb3) (λq hq e=>by omega) (.inl rfl);have Um:=zD.out.size;clear hW3 hb3 hh3 HQX Y9 pQ HS2;have x0:=rF.out.cell (i:=0) rfl;have x1:=rF.out.cell (i:=1) rfl;have x2:=rF.out.cell (i:=2) rfl;have x3:=rF.out.cell (i:=3) rfl;go_wp2_with (at_builtin;refine o8 rfl _ _ rfl W0.heap.size u10 R rfl Ev.out ⟨⟨S_,Ta⟩,⟨Tc,Td⟩,⟨Te,Tf⟩⟩ s2 HT3.out _ rfl rfl (by omega) Um ?_;intro A3 c3 W5 hq5 hu5 ho5;refine Hid.out ?_);refine ah ?_;have HQ5:Hid (dY (λq=>q=bm) W0.heap.size W5 (.slice A3 (R.length+1) c3) (jN C P x b (k+1))):=by
     show dY _ _ _ _ _;rw[agM.out];rw[show(R++[s2]).length=R.length+1 by simp]at hq5;exact hq5
    have Bz:Hid (aH (λq=>q=bm) W0 W5):=zD.out.trans hu5 (λq hq e=>by have:=(Ev.out.own e.symm).1;omega);have UW:Hid (dN C P W5 bm (n+(k+1))):=Ml.out.keep hu5 (λe=>by have:=(Ev.out.own e.symm).1;omega);clear hq5 hu5 ho5 x0 x1 x2 x3 rF Ev zD Ml HT3;go_wp2
    go_roundg (b.length - (k+1))
    case measure=>rw[iB.out];omega
    case rel=>exact⟨k+1,rfl,by omega,by go_num,HQ5,Bz,UW⟩
  .obtain rfl:k=b.length:=by omega
   have hnl:=BQ C P x b b.length;rw[LQ]at HQ hnl;have Qw:=ah (Vg (P:=P) HXO.out HO.out);have YD:Hid (∀r,C.fO P x b≠[]->pY C P (C.fO P x b) r->Ij C P x b r):=λr h1 h2=>⟨HXO.out,h1,h2⟩;have HJE:Hid (∀er:Int,(er=13/\C.fO P x b=[])\/(er=3/\rO C P (C.fO P x b))->uO C P x b er):=λer h=>.inr ⟨HXO.out,h⟩;generalize C.fO P x b=NX at HQ hnl Qw YD HJE;obtain⟨A,c,hv,hN⟩:=HQ.out.ret;subst hv;have MC:=ah hN;clear hN;by_cases h0:NX=[]
   .have akg:=ah (HJE.out 13 (.inl ⟨rfl,h0⟩))
    subst h0;go_wp2
    go_ret2
    exact⟨[],none,0,13,rfl,HOLD.out wr HU.out,HM.out.mono (by omega),.inr ⟨by omega,rfl,rfl,rfl,akg.out⟩⟩
   .have q0:((NX.length:Int)==0)=false:=by
     have:=List.length_pos_iff.2 h0;simp;omega
    obtain⟨c0,c1,c2,c3,c4,c5,c6⟩:=(Mr.out wr HU.out).cells;simp only at c0 c1 c2 c3 c4 c5 c6;have hcl:=BP ⟨⟨dF,dG⟩,⟨dH,dK⟩,⟨dV,dn⟩,⟨dQ,dh⟩,⟨dz,dB⟩⟩ C P ⟨A,c⟩ NX wr (Mr.out wr HU.out).con MC.out Qw.out (HTW.out wr HU.out) (by omega) (HS.out.turn (HOLD.out wr HU.out) wC.out HM.out) (by have:=HN.out;omega);simp only[CV.val,CV.cells,vL]at hcl;have YB:=ah hcl;clear hcl;go_wp2_with (go_at_call 49;refine YB.out.mono ?_;rintro e z ⟨r,A2,c2,er,rfl,hu,hm,hcase⟩;refine Hid.out ?_);refine ah ?_;have HUF:Hid (aH (λq=>q=bm) w z):=(HOLD.out wr HU.out).trans hu (λ_ _ h=>h);have NW:Hid (dN C P z bm (n+2000000)):=hm.mono (by omega);have HCS:=ah hcase;clear hu hm hcase;go_wp2
    go_ret2
    refine⟨r,A2,c2,er,rfl,HUF.out,NW.out,?_⟩;rcases HCS.out with⟨rfl,h1,h2⟩|⟨rfl,rfl,rfl,rfl,h2⟩
    .exact .inl ⟨rfl,h1,YD.out r h0 h2⟩
    .exact .inr ⟨by omega,rfl,rfl,rfl,HJE.out 3 (.inr ⟨rfl,h2⟩)⟩
end
section
open Go.RowKit Go.Shelf Go.Sort
inductive gF (C:au) (P:List Int) (r0:List ak):List Int->List ak->Prop
 |nil:gF C P r0 [] r0
 |snoc {l:List Int} {r r':List ak} {x:Int}:gF C P r0 l r->Ij C P x r r'->gF C P r0 (l++[x]) r'
def Rw(C:au)(P:List Int)(r0:List ak)(V:List Int)(r:List ak)(er:Int):Prop:=
 (er=0/\gF C P r0 V r)\/(er≠0/\r=[]/\∃(k:Nat)(r1:List ak)(x:Int),V[k]?=some x/\gF C P r0 (V.take k) r1/\uO C P x r1 er)
def Aa(C:au)(P V:List Int)(r:List ak)(er:Int):Prop:=
 (er=1/\r=[]/\¬(C.valid=true/\C.jU P=true))\/(C.valid=true/\C.jU P=true/\((er=3/\r=[]/\rO C P [C.first])\/∃r0,pY C P [C.first] r0/\((er=3/\r=[]/\4000<V.length)\/(V.length<=4000/\Rw C P r0 V r er))))
def Yl(C:au)(P V:List Int)(w:World)(e:Ending)(w':World):Prop:=
 ∃(r:List ak)(A:Option Addr)(c:Nat)(er:Int),e= .returned (.tuple #[.slice A r.length c,.int .i64 er])/\Below w.heap.size w w'/\dD 0 w' ⟨A,c⟩ r/\Aa C P V r er
theorem dD.Ym(w:World):dD 0 w ⟨none,0⟩ []:=⟨λ_ _ _=>aV _,[],rfl,⟨⟨rfl,by simp,λh=>absurd h (by simp)⟩,λ_=>⟨rfl,rfl⟩,bH _,aV _⟩,λi s t hs=>by simp at hs⟩
theorem oF.below{C:au}{P:List Int}{w w':World}{bc bk bp bm n:Nat}(h:oF C P w bc bk bp bm n)(hb:Below w.heap.size w w'):oF C P w' bc bk bp bm n:=by
 obtain⟨⟨v,h1⟩,h2,⟨A,c,h3,h4⟩,h5⟩:=h;exact⟨⟨v,h1.below hb⟩,h2.below hb,⟨A,c,h3.below hb,h4.below (by omega) hb⟩,h5.below hb⟩
theorem Ep(v:CV)(C:au)(pA:Option Addr)(pc:Nat)(P:List Int)(vA:Option Addr)(vc:Nat)(V:List Int)(w:World)(hC:bU w v C)(hP:At w 1 pA P.length pc (aR P))(hV:At w 1 vA V.length vc (aR V))(hT:Tab w):
 Calls Tryz.prog 23 #[v.val C,.slice pA P.length pc,.slice vA V.length vc] w (Yl C P V w):=by
 have hvx:V.length<=9223372036854775807:=by have h1:=hV.2.2.1;have h2:=hV.2.2.2;unfold maxLen at h2;omega
 obtain⟨⟨dF,dG⟩,⟨dH,dK⟩,⟨dV,dn⟩,⟨dQ,dh⟩,⟨dz,dB⟩⟩:=v;have HC:=ah hC;clear hC;have HP:=ah hP;clear hP;have HV:=ah hV;clear hV;have HT:=ah hT;clear hT;simp only[CV.val,CV.cells];go_enter Tryz.func23,Tryz.ntmps23;go_upto_region 1 with(fail)
 generalize hW0:World.alloc _ _=W0;obtain⟨HB0,h0⟩:=bx1 hW0;have HX0:Hid (vK W0 w.heap.size ⟨⟨dF,dG⟩,⟨dH,dK⟩,⟨dV,dn⟩,⟨dQ,dh⟩,⟨dz,dB⟩⟩ C):=⟨HC.out.below HB0.out,⟨[],by rw[b_];exact h0⟩⟩;clear hW0 h0 HC;obtain⟨c0,c1,c2,c3,c4,c5,c6⟩:=HX0.out.cells;simp only at c0 c1 c2 c3 c4 c5 c6;have hbe:=yJ (⟨⟨dF,dG⟩,⟨dH,dK⟩,⟨dV,dn⟩,⟨dQ,dh⟩,⟨dz,dB⟩⟩:CV) C W0 HX0.out.con;simp only[CV.val,CV.cells]at hbe;cases q1:C.valid with
 |false=>
  have Ii:Hid (Aa C P V [] 1):=.inl ⟨rfl,rfl,λh=>by rw[q1]at h;cases h.1⟩;have yT:Hid (Calls Tryz.prog 38 #[.agg #[.int .i64 C.aF,.slice dF C.aj.length dG,.slice dH C.units.length dK,.slice dV C.acts.length dn,.slice dQ C.clauses.length dh,.int .i64 C.days,.slice dz C.off.length dB]] W0 (dx (.tuple #[.agg #[.int .i64 0,.slice none 0 0,.slice none 0 0,.slice none 0 0],.int .i64 1]) W0)):=by
   rw[q1]at hbe;refine hbe.mono ?_;rintro e w' ⟨hb,⟨h0,_⟩|⟨_,rfl⟩⟩
   .cases h0
   .exact⟨rfl,hb⟩
  clear hbe;go_wp2_with (go_at_call 38;refine yT.out.mono ?_;rintro e z ⟨rfl,hz⟩;refine Hid.out ?_);refine ah ?_;have Yb:Hid (RowKit.Below w.heap.size w z):=ay HB0.out hz;clear hz yT HX0 c0 c1 c2 c3 c4 c5 c6;go_upto_region 2 with(fail)
  generalize hW1:World.alloc _ _=W1;obtain⟨hb1,_⟩:=bx1' hW1;have HB1:Hid (RowKit.Below w.heap.size w W1):=ay Yb.out hb1;clear hW1 hb1;go_wp2
  go_ret2
  exact⟨[],none,0,1,rfl,HB1.out,dD.Ym _,Ii.out⟩
 |true=>
  have yT:Hid (Calls Tryz.prog 38 #[.agg #[.int .i64 C.aF,.slice dF C.aj.length dG,.slice dH C.units.length dK,.slice dV C.acts.length dn,.slice dQ C.clauses.length dh,.int .i64 C.days,.slice dz C.off.length dB]] W0 (NI C.first W0)):=by
   rw[q1]at hbe;exact hbe.mono (λ_ _ h=>h.ret)
  clear hbe;have uT:=ah q1;have Vu:=ah (Bj q1);clear q1;have HFE:Hid (∃s1,C.first=s1):=⟨_,rfl⟩;generalize hs1:C.first=s1 at yT Vu;have vH:=ah hs1;clear hs1 HFE;go_wp2_with (go_at_call 38;refine yT.out.mono ?_;rintro e z ⟨fQ,eZ,gH,eX,h_,dW,rfl,hst,_,hz⟩;refine Hid.out ?_);refine ah ?_;have Yb:Hid (RowKit.Below w.heap.size w z):=ay HB0.out hz;have ZL:=ah (HX0.out.below hz);have HST:=ah hst;clear hst hz yT HX0 c0 c1 c2 c3 c4 c5 c6;go_upto_region 2 with(fail)
  generalize hW1:World.alloc _ _=W1;obtain⟨hb1,g_⟩:=bx1' hW1;have Mg:Hid (Own W1 48 z.heap.size [.int .i64 s1.day,.slice fQ s1.aj.length eZ,.slice gH s1.used.length eX,.slice h_ s1.marks.length dW]):=⟨[],by rw[b_];exact g_⟩;have HB1:Hid (RowKit.Below w.heap.size w W1):=ay Yb.out hb1;have oU:=ah (ZL.out.below hb1);have agN:=ah (HST.out.below hb1);clear hW1 hb1 g_ ZL HST Yb;obtain⟨c0,c1,c2,c3,c4,c5,c6⟩:=oU.out.cells;simp only at c0 c1 c2 c3 c4 c5 c6;have hgr:=Vf (⟨⟨dF,dG⟩,⟨dH,dK⟩,⟨dV,dn⟩,⟨dQ,dh⟩,⟨dz,dB⟩⟩:CV) C pA pc P W1 oU.out.con (HP.out.below (by omega) HB1.out);simp only[CV.val,CV.cells]at hgr;obtain⟨gq,hgq⟩:∃g,C.jU P=g:=⟨_,rfl⟩;rw[hgq]at hgr;have HGR:=ah hgr;clear hgr;have HGQ:=ah hgq;clear hgq;go_wp2_with (go_at_call 47;refine HGR.out.mono ?_;rintro e z2 ⟨rfl,hz⟩;refine Hid.out ?_);refine ah ?_;have HB2:Hid (RowKit.Below w.heap.size w z2):=ay HB1.out hz;have uM:=ah (oU.out.below hz);have Qf:=ah (Mg.out.below hz);have Rv:=ah (agN.out.below hz);clear hz HGR oU Mg agN HB1 c0 c1 c2 c3 c4 c5 c6;cases gq with
  |false=>
   have Ii:Hid (Aa C P V [] 1):=.inl ⟨rfl,rfl,λh=>by rw[HGQ.out]at h;cases h.2⟩;go_wp2
   go_ret2
   exact⟨[],none,0,1,rfl,HB2.out,dD.Ym _,Ii.out⟩
  |true=>
   obtain⟨c0,c1,c2,c3,c4,c5,c6⟩:=uM.out.cells;simp only at c0 c1 c2 c3 c4 c5 c6;have hsi:=U9 (⟨⟨dF,dG⟩,⟨dH,dK⟩,⟨dV,dn⟩,⟨dQ,dh⟩,⟨dz,dB⟩⟩:CV) C pA pc P z2 uM.out.con (HP.out.below (by omega) HB2.out);simp only[CV.val,CV.cells]at hsi;have HSI:=ah hsi;clear hsi;go_wp2_with (go_at_call 48;refine HSI.out.mono ?_;rintro e Z ⟨bc,bk,bp,bm,rfl,hsa,hz,DC⟩;refine Hid.out ?_);refine ah ?_;have HB3:Hid (RowKit.Below w.heap.size w Z):=ay HB2.out hz;have rF:=ah (uM.out.below hz);have HF3:=ah (Qf.out.below hz);have agP:=ah (Rv.out.below hz);have SF:=ah hsa;have ape:w.heap.size<=bm:=bF HB2.out.size DC;clear hz hsa DC HSI uM Qf Rv c0 c1 c2 c3 c4 c5 c6;obtain⟨c0,c1,c2,c3,c4,c5,c6⟩:=rF.out.cells;simp only at c0 c1 c2 c3 c4 c5 c6;have x0:=HF3.out.cell (i:=0) rfl;have x1:=HF3.out.cell (i:=1) rfl;have x2:=HF3.out.cell (i:=2) rfl;have x3:=HF3.out.cell (i:=3) rfl;obtain⟨Zw,VE⟩:∃Zw,Hid (Zw=Z.alloc (.cells #[.int .i64 s1.day,.slice fQ s1.aj.length eZ,.slice gH s1.used.length eX,.slice h_ s1.marks.length dW] 48)):=⟨_,rfl⟩;have hbz:RowKit.Below Z.heap.size Z Zw:=by rw[VE.out];exact aK (aD _ _) _
   have zU:Hid (RowKit.Below w.heap.size w Zw):=ay HB3.out hbz;have Ox:=ah (rF.out.below hbz);have XI:=ah (SF.out.below hbz);have wC:Hid (∀q,q=bm->gD Zw q):=λq hq=>by rw[hq];exact XI.out.memo.blk
   have hcl:Calls Tryz.prog 49 #[.agg #[.int .i64 C.aF,.slice dF C.aj.length dG,.slice dH C.units.length dK,.slice dV C.acts.length dn,.slice dQ C.clauses.length dh,.int .i64 C.days,.slice dz C.off.length dB],.slice (some ⟨Z.heap.size,0,none⟩) 1 1,vL bc bk bp] Zw (OI C P [s1] bm 0 Zw):=
    BP (⟨⟨dF,dG⟩,⟨dH,dK⟩,⟨dV,dn⟩,⟨dQ,dh⟩,⟨dz,dB⟩⟩:CV) C P ⟨some ⟨Z.heap.size,0,none⟩,1⟩ [s1] Zw Ox.out.con
     (dD.one (t:=⟨⟨fQ,eZ⟩,⟨gH,eX⟩,⟨h_,dW⟩⟩) (by rw[VE.out];exact bC Z _) (agP.out.below hbz) (Ya _) (aV _)) (λs hs=>by rw[dZ]at hs;rw[hs];exact Vu.out) (HT.out.below zU.out) (by simp) XI.out (by omega)
   rw[VE.out]at hcl;unfold vL at hcl⊢;have YB:=ah hcl;clear hcl;go_wp2_with (go_at_call 49;refine YB.out.mono ?_;rintro e z ⟨r0,A,c,er,rfl,hu,hm,hcase⟩;refine Hid.out ?_);refine ah ?_;rw[<-VE.out]at hu;have VF:=ah hu;have HMz:=ah hm;have Qu:Hid (∀W,aH (λq=>q=bm) Zw W->RowKit.Below w.heap.size w W):=λW hW=>zU.out.trans (hW.below zU.out.size (λk hk=>by omega));have Mr:Hid (∀W,aH (λq=>q=bm) Zw W->vK W w.heap.size (⟨⟨dF,dG⟩,⟨dH,dK⟩,⟨dV,dn⟩,⟨dQ,dh⟩,⟨dz,dB⟩⟩:CV) C):=λW hW=>Ox.out.z_ hW wC.out;have HTW:Hid (∀W,aH (λq=>q=bm) Zw W->Tab W):=λW hW=>(HT.out.below zU.out).upd hW wC.out;have YW:Hid (∀W,aH (λq=>q=bm) Zw W->At W 1 vA V.length vc (aR V)):=λW hW=>(HV.out.below (by omega) zU.out).upd (by omega) hW wC.out;clear hu hm hbz YB Ox rF HF3 agP SF HB3 x0 x1 x2 x3 c0 c1 c2 c3 c4 c5 c6;rcases hcase with⟨rfl,hsn,hjc⟩|⟨rfl,rfl,rfl,rfl,aa7⟩
   case inr=>
    have Ii:Hid (Aa C P V [] 3):=.inr ⟨uT.out,HGQ.out,.inl ⟨rfl,rfl,by rw[vH.out];exact aa7⟩⟩;clear aa7;go_wp2
    go_ret2
    exact⟨[],none,0,3,rfl,Qu.out z VF.out,dD.Ym _,Ii.out⟩
   case inl=>
    have tT:=ah hsn;have HJC:Hid (pY C P [C.first] r0):=by rw[vH.out];exact hjc
    clear hsn hjc;by_cases h4:4000<V.length
    .have Ii:Hid (Aa C P V [] 3):=.inr ⟨uT.out,HGQ.out,.inr ⟨r0,HJC.out,.inl ⟨rfl,rfl,h4⟩⟩⟩
     have h5:(4000:Int)<(V.length:Int):=by omega
     go_wp2
     go_ret2
     exact⟨[],none,0,3,rfl,Qu.out z VF.out,dD.Ym _,Ii.out⟩
    .have h5:¬(4000:Int)<(V.length:Int):=by omega
     have HJW:Hid (∀r er,Rw C P r0 V r er->Aa C P V r er):=λr er h=>.inr ⟨uT.out,HGQ.out,.inr ⟨r0,HJC.out,.inr ⟨by omega,h⟩⟩⟩;go_wp2
     go_loopg [46,11] V.length (λgk v46 v11 wr=>∃(k:Nat)(r:List ak)(A:Option Addr)(c:Nat),gk=V.length - k/\k<=V.length/\v46= .int .i64 k/\v11= .slice A r.length c/\Hid (dD 0 wr ⟨A,c⟩ r)/\Hid (gF C P r0 (V.take k) r)/\Hid (∀s∈r,bJ C s)/\r.length<=300/\Hid (aH (λq=>q=bm) Zw wr)/\Hid (dN C P wr bm (1000000+k*2000000)))
     case atStart=>exact⟨0,r0,A,c,rfl,aV _,rfl,rfl,tT,.nil,HJC.out.ok,HJC.out.few,VF,HMz⟩
     case round=>
      obtain⟨k,r,A,c,eH,hk,rfl,rfl,HN,HJ,HO,hr3,HU,HM⟩:=hrel;have iB:=ah eH;clear eH;clear tT VF HMz;by_cases hlt:k<V.length
      .obtain⟨x,hx⟩:∃x,V[k]?=some x:=⟨_,aT hlt⟩
       obtain⟨vb,vo,hA,hbl,hvl⟩:=(YW.out wr HU.out).1.form (by omega) (by omega);subst hA;have x0:wr.cell? ⟨vb,vo+k,none⟩=some (.int .i64 x):=(hvl k (by omega)).trans (gQ hx);have HXV:=ah hx;have Z8:=ah (bS hx);have k0:(0:Int)<=(k:Int):=by omega
       have k1:(k:Int)<(V.length:Int):=by omega
       obtain⟨c0,c1,c2,c3,c4,c5,c6⟩:=(Mr.out wr HU.out).cells;simp only at c0 c1 c2 c3 c4 c5 c6;have haf:=Ru (⟨⟨dF,dG⟩,⟨dH,dK⟩,⟨dV,dn⟩,⟨dQ,dh⟩,⟨dz,dB⟩⟩:CV) C P ⟨A,c⟩ r x wr (Mr.out wr HU.out).con HN.out HO.out (HTW.out wr HU.out) (by omega) (XI.out.turn HU.out wC.out HM.out) (by omega);simp only[CV.val,CV.cells,vL]at haf;have HAF:=ah haf;clear haf;clear hx hvl;go_wp2_with (go_at_call 50;refine HAF.out.mono ?_;rintro e Y ⟨r',A',c',er,rfl,hu,hm,hcase⟩;refine Hid.out ?_);refine ah ?_;have HUY:Hid (aH (λq=>q=bm) Zw Y):=HU.out.trans hu (λ_ _ h=>h);have HMY:Hid (dN C P Y bm (1000000+(k+1)*2000000)):=hm.mono (by omega);clear hu hm HAF HU HM c0 c1 c2 c3 c4 c5 c6 x0;rcases hcase with⟨rfl,hsn,hja⟩|⟨hne,rfl,rfl,rfl,hje⟩
       .have tT:=ah hsn
        have HJN:Hid (gF C P r0 (V.take (k+1)) r'):=by show gF _ _ _ _ _;rw[Z8.out];exact .snoc HJ.out hja
        have YR:=ah hja.2.2.ok;have aki:=hja.2.2.few;clear hsn hja;go_wp2
        go_roundg (V.length - (k+1))
        case measure=>rw[iB.out];omega
        case rel=>exact⟨k+1,r',A',c',rfl,by omega,by go_num,rfl,tT,HJN,YR,aki,HUY,HMY⟩
       .have Ii:=ah (HJW.out [] er (.inr ⟨hne,rfl,k,r,x,HXV.out,HJ.out,hje⟩))
        have hq:(er !=0)=true:=by simpa using hne
        clear hje hne;go_wp2;try rw[Exit.noGoto_ret]
        go_ret2
        exact⟨[],none,0,er,rfl,Qu.out Y HUY.out,dD.Ym _,Ii.out⟩
      .obtain rfl:k=V.length:=by omega
       rw[gV]at HJ;have Ii:=ah (HJW.out r 0 (.inl ⟨rfl,HJ.out⟩));go_wp2
       go_ret2
       exact⟨r,A,c,0,rfl,Qu.out wr HU.out,HN.out,Ii.out⟩
end
section
open Go.RowKit Go.Shelf
def akj:aQ:=⟨1,0,0,1,[],1,0,false,true, -1, -1,⟨0,1⟩, -1, -1,false⟩
def gJ:au:=⟨3,[0,1,2],[],[⟨1,0,0,1, -1,⟨0,1⟩⟩],[akj],2,[]⟩
theorem LU(w:World):Calls Tryz.prog 29 #[] w (ade gJ w):=by
 go_enter Tryz.func29,Tryz.ntmps29;go_wp2;generalize hW0:World.alloc _ _=W0;obtain⟨HB,hh0,_,wu,hh3,K9⟩:=bx5 hW0;clear hW0;have o0:Own W0 27 w.heap.size [.int .i64 3,.slice (some ⟨w.heap.size+1+1,0,none⟩) 3 3,.slice none 0 0,.slice (some ⟨w.heap.size+1+1+1,0,none⟩) 1 1,.slice (some ⟨w.heap.size+1+1+1+1,0,none⟩) 1 1,.int .i64 2,.slice none 0 0]:=⟨[],by rw[b_];exact hh0⟩;have g0:=o0.cell (i:=0) rfl;have g1:=o0.cell (i:=1) rfl;have g2:=o0.cell (i:=2) rfl;have g3:=o0.cell (i:=3) rfl;have g4:=o0.cell (i:=4) rfl;have g5:=o0.cell (i:=5) rfl;have g6:=o0.cell (i:=6) rfl;refine bodyPost_ret (v:=.agg #[.int .i64 3,.slice (some ⟨w.heap.size+1+1,0,none⟩) 3 3,.slice none 0 0,.slice (some ⟨w.heap.size+1+1+1,0,none⟩) 1 1,.slice (some ⟨w.heap.size+1+1+1+1,0,none⟩) 1 1,.int .i64 2,.slice none 0 0]) (by simp[results,Tryz.results29,go_sem,g0,g1,g2,g3,g4,g5,g6]) rfl ⟨_,_,_,_,_,_,_,_,_,_,rfl,?_,HB.out⟩;refine⟨?_,fD _ _,?_,?_,fD _ _⟩
 .exact xX wu rfl (by decide) (by unfold maxLen;decide)
 .exact xX hh3 rfl (by decide) (by unfold maxLen;decide)
 .refine⟨[⟨none,0⟩],rfl,?_,?_⟩
  .exact xX K9 rfl (by decide) (by unfold maxLen;decide)
  .intro i k st hk hst
   cases i with
   |zero=>
    simp[gJ]at hk hst;subst hk hst;exact fD _ _
   |succ i=>simp[gJ]at hk
end
section
open Go.RowKit Go.Shelf
section
variable {C:au} {P:List Int} {l S r:List ak}
theorem pX.sub(h0:∀s∈l,s∈S)(h1:∀s∈S,s.day<C.days->∀i,i<C.acts.length->hidJ C P s i=true->C.next s i∈S){s:ak}(h:pX C P l s):s∈S:=by
 induction h with
 |base hs=>exact h0 _ hs
 |step _ hd hi hx ih=>exact h1 _ ih hd _ hi hx
theorem Rx{F S:List ak}(hn:F.Nodup)(hs:∀s∈F,s∈S):F.length<=S.length:=by
 induction F generalizing S with
 |nil=>exact aV _
 |cons a F ih=>
  obtain⟨S1,S2,rfl⟩:=List.append_of_mem (hs a (List.mem_cons_self));rw[List.nodup_cons]at hn;have h1:=ih (S:=S1++S2) hn.2 (λs hs'=>by
   have h2:=hs s (kT _ hs');rw[jZ,d_]at h2;rw[jZ];rcases h2 with h2|rfl|h2
   .exact .inl h2
   .exact absurd hs' hn.1
   .exact .inr h2)
  simp only[lS,iy]at h1⊢;omega
theorem pY.nodup(h:pY C P l r):r.Nodup:=by
 have h1:=h.sorted;rw[List.pairwise_map]at h1;refine h1.imp ?_;intro a b hlt e;subst e;exact absurd hlt (List.lt_irrefl _)
theorem rO.not(h0:∀s∈l,s∈S)(h1:∀s∈S,s.day<C.days->∀i,i<C.acts.length->hidJ C P s i=true->C.next s i∈S)(hl:S.length<=300):¬rO C P l:=by
 rintro⟨F,hn,h3,hr⟩;have:=Rx hn (λs hs=>(hr s hs).sub h0 h1);omega
theorem pY.same(h:pY C P l r)(h0:∀s∈l,s∈S)(h1:∀s∈S,s.day<C.days->∀i,i<C.acts.length->hidJ C P s i=true->C.next s i∈S)(h2:∀s∈S,s∈r)(hn:S.Nodup):r.Perm S:=
 (List.perm_ext_iff_of_nodup h.nodup hn).2 (λs=>⟨λhs=>(h.reach s hs).sub h0 h1,h2 s⟩)
end
theorem Yn{a:ak}{r:List ak}(h:r.Perm [a]):r=[a]:=List.perm_singleton.1 h
theorem OJ{a b:ak}{r:List ak}(h:r.Perm [a,b]):r=[a,b]\/r=[b,a]:=by
 have hl:=h.length_eq
 match r,hl with
 |[x,y],_=>
  have hx:=h.mem_iff (a:=x);have hy:=h.mem_iff (a:=y);simp only[d_,iW,or_false,true_or,or_true,true_iff]at hx hy;rcases hx with rfl|rfl
  .have:=(List.perm_cons x).1 h
   exact .inl (by rw[List.perm_singleton.1 this])
  .have h2:[x,y].Perm [x,a]:=h.trans (List.Perm.swap _ _ _)
   have:=(List.perm_cons x).1 h2;exact .inr (by rw[List.perm_singleton.1 this])
def EJ:ak:=gJ.first
def OL:ak:=gJ.next EJ 0
def Ry:ak:=gJ.next EJ (-1)
def Ti:ak:=gJ.next OL (-1)
theorem Yo:gJ.valid=true:=by kernel_rfl
theorem agQ:EJ≠OL:=λe=>by
 have h:(EJ.marks.map (λm=>m.status))=(OL.marks.map (λm=>m.status)):=by rw[e]
 exact absurd h (by decide)
theorem adt:Ry≠Ti:=λe=>by
 have h:(Ry.marks.map (λm=>m.status))=(Ti.marks.map (λm=>m.status)):=by rw[e]
 exact absurd h (by decide)
theorem LV:gJ.pU (-1):=.inl rfl
theorem Tj:gJ.pU 0:=.inr ⟨by decide,by decide⟩
def Calm(P:List Int)(s:ak):Prop:=∀i,i<gJ.acts.length->hidJ gJ P s i=false
theorem E_{P:List Int}{s:ak}(h:hidJ gJ P s 0=false):Calm P s:=λi hi=>by
 have:i=0:=by have h:gJ.acts.length=1:=rfl;omega
 rw[this];exact h
theorem sV{P:List Int}{S:List ak}(h:∀s∈S,Calm P s):∀s∈S,s.day<gJ.days->∀i,i<gJ.acts.length->hidJ gJ P s i=true->gJ.next s i∈S:=λs hs _ i hi hh=>by
 rw[h s hs i hi]at hh;cases hh
theorem OM{P:List Int}{a:ak}{r:List ak}(h:pY gJ P [a] r)(ha:hidJ gJ P a 0=false):r=[a]:=
 Yn (h.same (λ_ h=>h) (sV (λs hs=>by rw[dZ.1 hs];exact E_ ha)) h.has (by simp))
theorem Tk{P:List Int}{x:Int}{b N:List ak}{S:List ak}(hN:gJ.fO P x b=N)(hx:gJ.pU x)(hn:N≠[])(hS:∀s∈N,s∈S)(hc:∀s∈S,hidJ gJ P s 0=false)(hl:S.length<=300){er:Int}:¬uO gJ P x b er:=by
 subst hN;rintro(⟨_,h⟩|⟨_,⟨_,h⟩|⟨_,h⟩⟩)
 .exact h hx
 .exact hn h
 .exact rO.not hS (sV (λs hs=>E_ (hc s hs))) hl h
theorem Ik{P:List Int}{x:Int}{b:List ak}{a:ak}(hN:gJ.fO P x b=[a])(hx:gJ.pU x)(hc:hidJ gJ P a 0=false){er:Int}:¬uO gJ P x b er:=
 Tk (S:=[a]) hN hx (by simp) (λ_ h=>h) (λs hs=>by rw[dZ.1 hs];exact hc) (by simp)
theorem Dm{P:List Int}{x:Int}{b r:List ak}{a:ak}(h:Ij gJ P x b r)(hN:gJ.fO P x b=[a])(hc:hidJ gJ P a 0=false):r=[a]:=by
 have h2:=h.2.2;rw[hN]at h2;exact OM h2 hc
theorem Tm{P:List Int}{r:List ak}(hP:hidJ gJ P EJ 0=false)(h:pY gJ P [gJ.first] r):r=[EJ]:=OM (a:=EJ) h hP
theorem Il:∀s∈[EJ,OL],s.day<gJ.days->∀i,i<gJ.acts.length->hidJ gJ [2] s i=true->gJ.next s i∈[EJ,OL]:=by
 intro s hs _ i hi hh;have:i=0:=by have h:gJ.acts.length=1:=rfl;omega
 subst this;simp only[d_,iW,or_false]at hs;rcases hs with rfl|rfl
 .exact kT _ (dZ.2 rfl)
 .exact absurd hh (by decide+kernel)
theorem Tn{r:List ak}(h:pY gJ [2] [gJ.first] r):r=[EJ,OL]\/r=[OL,EJ]:=by
 have h0:EJ∈r:=h.has EJ (dZ.2 rfl);have hS:OL∈r:=h.closed EJ h0 (by decide) 0 (by decide) (by decide+kernel);refine OJ (h.same (S:=[EJ,OL]) (λs hs=>by rw[dZ]at hs;rw[hs];exact List.mem_cons_self) Il (λs hs=>?_) (by simp[agQ]));simp only[d_,iW,or_false]at hs;rcases hs with rfl|rfl
 .exact h0
 .exact hS
theorem OP:¬rO gJ [2] [gJ.first]:=rO.not (S:=[EJ,OL]) (λs hs=>by rw[dZ]at hs;rw[hs];exact List.mem_cons_self) Il (by decide)
theorem Tp{P:List Int}(hP:hidJ gJ P EJ 0=false):¬rO gJ P [gJ.first]:=rO.not (S:=[EJ]) (λ_ h=>h) (sV (λs hs=>by rw[dZ.1 hs];exact E_ hP)) (by decide)
theorem gF.qK{C:au}{P:List Int}{r0 r:List ak}(h:gF C P r0 [] r):r=r0:=by
 generalize hl:([]:List Int)=l at h;cases h with
 |nil=>rfl
 |snoc=>simp at hl
theorem gF.uP{C:au}{P:List Int}{r0 r:List ak}{l:List Int}{x:Int}(h:gF C P r0 (l++[x]) r):∃r1,gF C P r0 l r1/\Ij C P x r1 r:=by
 generalize hl:l++[x]=m at h;cases h with
 |nil=>simp at hl
 |snoc h1 h2=>
  obtain⟨rfl,e⟩:=List.append_inj' hl rfl;injection e with e
  subst e;exact⟨_,h1,h2⟩
theorem Fa{P V:List Int}{r:List ak}{er:Int}(h:Aa gJ P V r er)(hg:gJ.jU P=true)(hm:¬rO gJ P [gJ.first])(hV:V.length<=4000):∃r0,pY gJ P [gJ.first] r0/\Rw gJ P r0 V r er:=by
 rcases h with⟨_,_,h⟩|⟨_,_,⟨_,_,h⟩|⟨r0,h0,⟨_,_,h⟩|⟨_,h⟩⟩⟩
 .exact absurd ⟨Yo,hg⟩ h
 .exact absurd h hm
 .omega
 .exact⟨r0,h0,h⟩
theorem aa8:gJ.fO [2,1] (-1) [EJ]=[Ry]:=by kernel_rfl
theorem aa9:gJ.fO [1,2] 0 [EJ]=[OL]:=by kernel_rfl
theorem aa_:gJ.fO [1,2] (-1) [OL]=[Ti]:=by kernel_rfl
theorem agR:gJ.fO [2] (-1) [EJ,OL]=[Ry,Ti]:=by kernel_rfl
theorem agS:gJ.fO [2] (-1) [OL,EJ]=[Ti,Ry]:=by kernel_rfl
theorem agT:gJ.fO [2] 0 [EJ,OL]=[]:=by kernel_rfl
theorem agU:gJ.fO [2] 0 [OL,EJ]=[]:=by kernel_rfl
theorem adu{r:List ak}{er:Int}(h:Aa gJ [2] [-1] r er):er=0/\(r=[Ry,Ti]\/r=[Ti,Ry]):=by
 obtain⟨r0,h0,hw⟩:=Fa h (by decide+kernel) OP (by decide);clear h;have hn:∀s,s∈gJ.fO [2] (-1) r0↔s∈[Ry,Ti]:=by
  rcases Tn h0 with rfl|rfl
  .intro s;rw[agR]
  .intro s
   rw[agS];simp only[d_,iW,or_false];exact or_comm
 have hc:∀s∈[Ry,Ti],hidJ gJ [2] s 0=false:=by
  intro s hs;simp only[d_,iW,or_false]at hs;rcases hs with rfl|rfl<;>decide+kernel
 rcases hw with⟨rfl,h⟩|⟨_,_,k,r1,x,hk,hs,he⟩
 .refine⟨rfl,?_⟩
  obtain⟨r1,h1,_,_,h2⟩:=gF.uP (l:=[]) h;rw[h1.qK]at h2;exact OJ (h2.same (S:=[Ry,Ti]) (λs hs=>(hn s).1 hs) (sV (λs hs=>E_ (hc s hs))) (λs hs=>h2.has s ((hn s).2 hs)) (by simp[adt]))
 .match k,hk,hs with
  |0,hk,hs=>
   simp at hk;subst hk;rw[hs.qK]at he;refine absurd he (Tk rfl LV (λe=>?_) (λs hs=>(hn s).1 hs) hc (by decide));have:=(hn Ry).2 (List.mem_cons_self);rw[e]at this;cases this
  |k+1,hk,_=>simp at hk
theorem adv{r:List ak}{er:Int}(h:Aa gJ [2,1] [-1] r er):er=0/\r=[Ry]:=by
 obtain⟨r0,h0,hw⟩:=Fa h (by decide+kernel) (Tp (by decide+kernel)) (by decide);clear h;obtain rfl:=Tm (by decide+kernel) h0;rcases hw with⟨rfl,h⟩|⟨_,_,k,r1,x,hk,hs,he⟩
 .refine⟨rfl,?_⟩
  obtain⟨r1,h1,h2⟩:=gF.uP (l:=[]) h;rw[h1.qK]at h2;exact Dm h2 aa8 (by decide+kernel)
 .match k,hk,hs with
  |0,hk,hs=>
   simp at hk;subst hk;rw[hs.qK]at he;exact absurd he (Ik aa8 LV (by decide+kernel))
  |k+1,hk,_=>simp at hk
theorem adw{r:List ak}{er:Int}(h:Aa gJ [1,2] [0, -1] r er):er=0/\r=[Ti]:=by
 obtain⟨r0,h0,hw⟩:=Fa h (by decide+kernel) (Tp (by decide+kernel)) (by decide);clear h;obtain rfl:=Tm (by decide+kernel) h0;have one:∀r1,gF gJ [1,2] [EJ] [0] r1->r1=[OL]:=λr1 h=>by
  obtain⟨r1,h1,h2⟩:=gF.uP (l:=[]) h;rw[h1.qK]at h2;exact Dm h2 aa9 (by decide+kernel)
 rcases hw with⟨rfl,h⟩|⟨_,_,k,r1,x,hk,hs,he⟩
 .refine⟨rfl,?_⟩
  obtain⟨r1,h1,h2⟩:=gF.uP (l:=[0]) h;rw[one _ h1]at h2;exact Dm h2 aa_ (by decide+kernel)
 .match k,hk,hs with
  |0,hk,hs=>
   simp at hk;subst hk;rw[hs.qK]at he;exact absurd he (Ik aa9 Tj (by decide+kernel))
  |1,hk,hs=>
   simp at hk;subst hk;rw[one _ hs]at he;exact absurd he (Ik aa_ LV (by decide+kernel))
  |k+2,hk,_=>simp at hk
theorem adx{r:List ak}{er:Int}(h:Aa gJ [2] [0] r er):er=13:=by
 obtain⟨r0,h0,hw⟩:=Fa h (by decide+kernel) OP (by decide);clear h;have hn:gJ.fO [2] 0 r0=[]:=by
  rcases Tn h0 with rfl|rfl
  .exact agT
  .exact agU
 rcases hw with⟨rfl,h⟩|⟨_,_,k,r1,x,hk,hs,he⟩
 .obtain⟨r1,h1,_,h2,_⟩:=gF.uP (l:=[]) h
  rw[h1.qK]at h2;exact absurd hn h2
 .match k,hk,hs with
  |0,hk,hs=>
   simp at hk;subst hk;rw[hs.qK]at he;rcases he with⟨_,h⟩|⟨_,⟨h,_⟩|⟨_,h⟩⟩
   .exact absurd Tj h
   .exact h
   .rw[hn]at h
    exact absurd h (rO.not (S:=[]) (λ_ h=>h) (λs hs=>by cases hs) (by decide))
  |k+1,hk,_=>simp at hk
def ejE:bR:=⟨0,[],[]⟩
def VG:bR:=⟨1,[⟨1,0,0,1,0,false⟩],[]⟩
def ejX:bR:=⟨0,[⟨1,0,0,0,0,false⟩],[]⟩
def YX:List aB:=[⟨1,0,0,1,0,false⟩]
def YZ:List aB:=[⟨1,0,0,0,0,false⟩]
theorem BR{L:List aB}{T:List aB}(hs:zl L)(hF:dO L=T)(hl:∀t∈T,t.low<=t.high)(hd:∀x∈T,∀y∈T,x.ref=y.ref->x=y):tC L [] T []:=by
 subst hF;exact⟨hs,⟨List.Pairwise.nil,λ_=>Iff.rfl⟩,⟨rfl,λf hf t ht e=>by rw[hd f hf t ht e];omega,λf hf t ht e=>by rw[hd f hf t ht e];omega,λb hb=>(by cases hb),λb hb=>(by cases hb),λm h _=>h,λm h _=>h⟩,hl⟩
theorem yM(L:List aB):wU L []:=λb hb=>by cases hb
theorem LW{fs:List bR}{V:List Int}{er:Int}{T:List aB}{Y L:List (List Int)}(h:jd gJ fs 1 V er)(hA:NZ gJ fs)(hO:bg fs=[])(hf:tC (aL fs) [] T [])(hT:tC T [] T [])(hok:∀f0,fs[0]?=some f0->fZ gJ ⟨f0.house,T,[]⟩=true)(hY:qL T [] 1 Y)(hl:Y.length<=400)(hL:qm (Y.map (λD=>gM T D 1))=L)(h4:∀l∈L,l.length<=4000):
 er=0/\V=sU 1 (L.map gJ.yV):=by
 obtain⟨ho,F,O,e1,hj,h⟩:=h;rcases hj with⟨_,_,_,_,hj⟩|⟨_,f0,hf0,hj⟩
 .exact absurd hA hj
 rw[hO]at hj;rcases hj with⟨he1,hho,hj⟩|⟨_,_,_,_,hj⟩
 .obtain⟨rfl,rfl⟩:=hj.unique hf (yM _)
  subst hho;rcases h with⟨h0,_⟩|⟨_,L2,e2,hc,h⟩
  .exact absurd he1 h0
  .have hc2:e2=0/\L2=L:=by
    rcases hc with⟨_,_,hc⟩|⟨_,_,_,⟨_,_,hc⟩|⟨T2,OO,Y2,hf2,hy2,hc⟩⟩
    .exact absurd ⟨hok f0 hf0,by omega,by decide⟩ hc
    .exact absurd hc (hT.RU (yM _))
    .obtain⟨rfl,rfl⟩:=hf2.unique hT (yM _)
     obtain rfl:=hy2.unique hY;rcases hc with⟨_,_,hc⟩|⟨h1,_,h2⟩
     .omega
     .exact⟨h1,by rw[h2,hL]⟩
   obtain⟨rfl,rfl⟩:=hc2;rcases h with⟨h0,_⟩|⟨_,⟨_,_,l,hl1,hl2⟩|⟨_,h1,h2⟩⟩
   .exact absurd rfl h0
   .have:=h4 l hl1;omega
   .exact⟨h1,h2⟩
 .exact absurd hj (hf.RU (yM _))
theorem ady{V:List Int}{er:Int}(h:jd gJ [ejE] 1 V er):er=0/\V=[3]:=by
 have hf:tC [] [] [] []:=BR (λx hx=>by cases hx) rfl (λt ht=>by cases ht) (λx hx=>by cases hx);obtain⟨h1,h2⟩:=LW (T:=[]) (Y:=[[]]) (L:=[[-1]]) h ⟨by simp,λf hf=>by rw[dZ.1 hf];decide+kernel⟩ rfl hf hf (λf0 h0=>by simp at h0;rw[<-h0];decide+kernel) ⟨by simp,λd=>⟨λh=>⟨λ_=>0,dZ.1 h,by simp,by simp,by simp⟩,λ⟨day,h,_⟩=>dZ.2 h⟩⟩ (by simp) (by decide+kernel) (by simp);exact⟨h1,h2.trans (by decide+kernel)⟩
theorem LX(x:aB):∀y∈[x],∀z∈[x],y.ref=z.ref->y=z:=λy hy z hz _=>by rw[dZ.1 hy,dZ.1 hz]
theorem adz{V:List Int}{er:Int}(h:jd gJ [VG] 1 V er):er=0/\V=[0]:=by
 have hf:tC YX [] YX []:=BR (λx hx y hy e=>by rw[dZ.1 hx,dZ.1 hy]) (by decide+kernel) (by simp[YX]) (LX _);obtain⟨h1,h2⟩:=LW (T:=YX) (Y:=[[0],[1]]) (L:=[[0, -1],[-1]]) h ⟨by simp,λf hf=>by rw[dZ.1 hf];decide+kernel⟩ rfl hf hf (λf0 h0=>by simp at h0;rw[<-h0];decide+kernel) ⟨by simp[lexLt],λd=>⟨λh=>by
  simp only[d_,iW,or_false]at h;rcases h with rfl|rfl
  .exact⟨λ_=>0,rfl,⟨(by simp[YX];try omega),(by simp[YX];try omega),by simp⟩⟩
  .exact⟨λ_=>1,rfl,⟨(by simp[YX];try omega),(by simp[YX];try omega),by simp⟩⟩,λ⟨day,h,h1,h2,h3⟩=>by
  subst h;simp[YX]at h1 h2;simp only[pz,YX,l6,List.map_nil,d_,iW,or_false,List.cons.injEq,and_true];omega⟩⟩ (by simp) (by decide+kernel) (by simp)
 exact⟨h1,h2.trans (by decide+kernel)⟩
theorem adA{V:List Int}{er:Int}(h:jd gJ [VG,ejX] 1 V er):er=0/\V=[1]:=by
 have hf:tC (aL [VG,ejX]) [] YZ []:=BR (λx hx y hy e=>by
  simp[aL,VG,ejX]at hx hy;rcases hx with rfl|rfl<;>rcases hy with rfl|rfl<;>rfl) (by decide+kernel) (by simp[YZ]) (LX _)
 have hT:tC YZ [] YZ []:=BR (λx hx y hy e=>by rw[dZ.1 hx,dZ.1 hy]) (by decide+kernel) (by simp[YZ]) (LX _);obtain⟨h1,h2⟩:=LW (T:=YZ) (Y:=[[0]]) (L:=[[0, -1]]) h ⟨by simp,λf hf=>by
  simp only[d_,iW,or_false]at hf;rcases hf with rfl|rfl<;>decide+kernel⟩ rfl hf hT (λf0 h0=>by simp at h0;rw[<-h0];decide+kernel) ⟨by simp,λd=>⟨λh=>by
  rw[dZ.1 h];exact⟨λ_=>0,rfl,⟨(by simp[YZ];omega),(by simp[YZ];omega),by simp⟩⟩,λ⟨day,h,h1,h2,h3⟩=>by
  subst h;simp[YZ]at h1 h2;simp only[pz,YZ,l6,List.map_nil,d_,iW,or_false,List.cons.injEq,and_true];omega⟩⟩ (by simp) (by decide+kernel) (by simp)
 exact⟨h1,h2.trans (by decide+kernel)⟩
end
section
open Go.RowKit Go.Shelf
def Stat(W:World)(b o:Nat)(x:Int):Prop:=
 ∃(mb mo mc:Nat),∀z:Bl W,z.val.cell? ⟨b,o+3,none⟩=some (.slice (some ⟨mb,mo,none⟩) 1 mc)/\z.val.cell? ⟨mb,mo,none⟩=some (.int .i64 x)
theorem Stat.below{W W':World}{b o:Nat}{x:Int}(h:Stat W b o x)(hb:Below W.heap.size W W'):Stat W' b o x:=by
 obtain⟨mb,mo,mc,h⟩:=h;exact⟨mb,mo,mc,λz=>h ⟨z.val,ay hb z.prop⟩⟩
theorem dD.stats{W:World}{v:SV}{l:List ak}(h:dD 0 W v l)(hl:0<l.length):
 ∃b off,v.A=some ⟨b,off,none⟩/\∀(i:Nat)(s:ak)(x:Int),l[i]?=some s->s.marks.map (λm=>m.status)=[x]->Stat W b (off+i*4) x:=by
 obtain⟨b,off,hA,_,hc⟩:=h.form hl;refine⟨b,off,hA,λi s x hs hx=>?_⟩;obtain⟨t,⟨ht,_⟩,hcell⟩:=hc i s hs;have hlen:s.marks.length=1:=by
  have:=congrArg List.length hx
  rwa [eF]at this
 obtain⟨mb,mo,IE,hmb,hmc⟩:=ht.marks.1.form (by omega) (by omega);refine⟨mb,mo,t.m.c,λz=>⟨?_,?_⟩⟩
 .rw[hcell z.val z.prop 3 (by omega)]
  simp only[TV.cells,ak.cells,IE,hlen];rfl
 .rw[z.prop.cell (p:=⟨mb,mo,none⟩) hmb]
  have h0:=hmc 0 (by omega);rw[jW]at h0;rw[h0];generalize s.marks=ms at hx
  match ms,hx with
  |[m],hx=>
   injection hx with hx
   subst hx;rfl
theorem Im{l:List Int}:∀u∈aR l,u.oneCell'=true:=λu hu=>by
 obtain⟨x,_,rfl⟩:=dU.1 hu;rfl
theorem yN{W:World}{v:CV}(hC:bU W v gJ)(hT:Tab W)(P V:List Int)(hP:P.length<=9)(hV:V.length<=9):
 Calls Tryz.prog 23 #[v.val gJ,.slice (some ⟨W.heap.size,0,none⟩) P.length P.length,.slice (some ⟨W.heap.size+1,0,none⟩) V.length V.length] ((W.alloc (.cells (aR P).toArray 3)).alloc (.cells (aR V).toArray 3))
  (λe w'=>∃(r:List ak)(A:Option Addr)(c:Nat)(er:Int),e= .returned (.tuple #[.slice A r.length c,.int .i64 er])/\Below W.heap.size W w'/\dD 0 w' ⟨A,c⟩ r/\Aa gJ P V r er):=by
 generalize hW2:World.alloc _ _=W2;obtain⟨HB,h0,h1⟩:=IQ hW2;refine(Ep v gJ _ _ P _ _ V W2 (hC.below HB.out) (xX h0 (by simp[aR]) Im (by unfold maxLen;omega)) (xX h1 (by simp[aR]) Im (by unfold maxLen;omega)) (hT.below HB.out)).mono ?_;rintro e w' ⟨r,A,c,er,rfl,hb,hN,hj⟩;exact⟨r,A,c,er,rfl,ay HB.out hb,hN,hj⟩
theorem Io:Ry.marks.map (λm=>m.status)=[4]:=by decide+kernel
theorem Ip:Ti.marks.map (λm=>m.status)=[3]:=by decide+kernel
def aao(W:World)(e:Ending)(w':World):Prop:=
 ∃(b o c:Nat)(x y:Int),e= .returned (.tuple #[.slice (some ⟨b,o,none⟩) 2 c,.int .i64 0])/\Below W.heap.size W w'/\Stat w' b o x/\Stat w' b (o+4) y/\((x=4/\y=3)\/(x=3/\y=4))
def LY(x:Int)(W:World)(e:Ending)(w':World):Prop:=
 ∃(b o c:Nat),e= .returned (.tuple #[.slice (some ⟨b,o,none⟩) 1 c,.int .i64 0])/\Below W.heap.size W w'/\Stat w' b o x
def aap(W:World)(e:Ending)(w':World):Prop:=
 ∃(A:Option Addr)(n c:Nat),e= .returned (.tuple #[.slice A n c,.int .i64 13])/\Below W.heap.size W w'
theorem OQ{W:World}{e:Ending}{w':World}{x:Int}{s:ak}{P V:List Int}(hr:∀r er,Aa gJ P V r er->er=0/\r=[s])(hs:s.marks.map (λm=>m.status)=[x])
 (h:∃(r:List ak)(A:Option Addr)(c:Nat)(er:Int),e= .returned (.tuple #[.slice A r.length c,.int .i64 er])/\Below W.heap.size W w'/\dD 0 w' ⟨A,c⟩ r/\Aa gJ P V r er):LY x W e w':=by
 obtain⟨r,A,c,er,rfl,hb,hN,hj⟩:=h;obtain⟨rfl,rfl⟩:=hr r er hj;obtain⟨b,o,hA,hst⟩:=hN.stats (by simp);simp only at hA;subst hA;have h0:=hst 0 s x rfl hs;rw[Nat.zero_mul,jW]at h0;exact⟨b,o,c,rfl,hb,h0⟩
theorem agV{W:World}{v:CV}(hC:bU W v gJ)(hT:Tab W):Calls Tryz.prog 23 #[v.val gJ,.slice (some ⟨W.heap.size,0,none⟩) 1 1,.slice (some ⟨W.heap.size+1,0,none⟩) 1 1] ((W.alloc (.cells #[.int .i64 2] 3)).alloc (.cells #[.int .i64 (-1)] 3)) (aao W):=by
 refine(yN hC hT [2] [-1] (by decide) (by decide)).mono ?_;rintro e w' ⟨r,A,c,er,rfl,hb,hN,hj⟩;obtain⟨rfl,hr⟩:=adu hj;have hl:r.length=2:=by rcases hr with rfl|rfl<;>rfl
 obtain⟨b,o,hA,hst⟩:=hN.stats (by omega);simp only at hA;subst hA;rw[hl];rcases hr with rfl|rfl
 .have h0:=hst 0 Ry 4 rfl Io
  have h1:=hst 1 Ti 3 rfl Ip;rw[Nat.zero_mul,jW]at h0;rw[Nat.one_mul]at h1;exact⟨b,o,c,4,3,rfl,hb,h0,h1,.inl ⟨rfl,rfl⟩⟩
 .have h0:=hst 0 Ti 3 rfl Ip
  have h1:=hst 1 Ry 4 rfl Io;rw[Nat.zero_mul,jW]at h0;rw[Nat.one_mul]at h1;exact⟨b,o,c,3,4,rfl,hb,h0,h1,.inr ⟨rfl,rfl⟩⟩
theorem agW{W:World}{v:CV}(hC:bU W v gJ)(hT:Tab W):Calls Tryz.prog 23 #[v.val gJ,.slice (some ⟨W.heap.size,0,none⟩) 2 2,.slice (some ⟨W.heap.size+1,0,none⟩) 1 1] ((W.alloc (.cells #[.int .i64 2,.int .i64 1] 3)).alloc (.cells #[.int .i64 (-1)] 3)) (LY 4 W):=
 (yN hC hT [2,1] [-1] (by decide) (by decide)).mono λ_ _ h=>OQ (λ_ _ h=>adv h) Io h
theorem agX{W:World}{v:CV}(hC:bU W v gJ)(hT:Tab W):Calls Tryz.prog 23 #[v.val gJ,.slice (some ⟨W.heap.size,0,none⟩) 2 2,.slice (some ⟨W.heap.size+1,0,none⟩) 2 2] ((W.alloc (.cells #[.int .i64 1,.int .i64 2] 3)).alloc (.cells #[.int .i64 0,.int .i64 (-1)] 3)) (LY 3 W):=
 (yN hC hT [1,2] [0, -1] (by decide) (by decide)).mono λ_ _ h=>OQ (λ_ _ h=>adw h) Ip h
theorem agY{W:World}{v:CV}(hC:bU W v gJ)(hT:Tab W):Calls Tryz.prog 23 #[v.val gJ,.slice (some ⟨W.heap.size,0,none⟩) 1 1,.slice (some ⟨W.heap.size+1,0,none⟩) 1 1] ((W.alloc (.cells #[.int .i64 2] 3)).alloc (.cells #[.int .i64 0] 3)) (aap W):=by
 refine(yN hC hT [2] [0] (by decide) (by decide)).mono ?_;rintro e w' ⟨r,A,c,er,rfl,hb,_,hj⟩;obtain rfl:=adx hj;exact⟨A,_,c,rfl,hb⟩
def Tq(x:Int)(W:World)(e:Ending)(w':World):Prop:=
 ∃(A:Option Addr)(c:Nat),e= .returned (.tuple #[.slice A 1 c,.int .i64 0])/\At w' 1 A 1 c (aR [x])/\Below W.heap.size W w'
theorem Dn{W:World}{v:CV}(hC:bU W v gJ)(hT:Tab W)(L:List (bR×FV))(hL:∀p∈L,fM W p.2 p.1)(hn:L.length<=9)(h1:∀x∈aL (L.map Prod.fst),1<=x.ref/\x.ref<=2)(h2:(aL (L.map Prod.fst)).length<=400)(h3:(bg (L.map Prod.fst)).length<=4000)
 {x:Int}(hr:∀V er,jd gJ (L.map Prod.fst) 1 V er->er=0/\V=[x]):
 Calls Tryz.prog 14 #[v.val gJ,.slice (some ⟨W.heap.size,0,none⟩) L.length L.length,.int .i64 1] (W.alloc (.cells (EY L).toArray 31)) (Tq x W):=by
 generalize hW2:World.alloc _ _=W2;obtain⟨HB,h0⟩:=bx1 hW2;have o:Own W2 31 W.heap.size (EY L):=⟨[],by rw[b_];exact h0⟩;have hfs:=lK.row (c:=L.length) o (bH _) (by unfold maxLen;omega) (λp hp=>(hL p hp).below HB.out);have hc:=LM v gJ ⟨some ⟨W.heap.size,0,none⟩,L.length⟩ (L.map Prod.fst) 1 W2 (hC.below HB.out) hfs (by rw[eF];omega) (adf h1) h2 h3 (hT.below HB.out);rw[eF]at hc;refine hc.mono ?_;rintro e w' ⟨A,c,V,er,rfl,hA,hb,hj⟩;obtain⟨rfl,rfl⟩:=hr V er hj;exact⟨A,c,rfl,hA,ay HB.out hb⟩
theorem agZ{W:World}:fM W ⟨⟨none,0⟩,⟨none,0⟩⟩ ejE:=⟨fD _ _,fD _ _⟩
theorem ag0{W:World}{v:CV}(hC:bU W v gJ)(hT:Tab W):Calls Tryz.prog 14 #[v.val gJ,.slice (some ⟨W.heap.size,0,none⟩) 1 1,.int .i64 1] (W.alloc (.cells #[.int .i64 0,.slice none 0 0,.slice none 0 0] 31)) (Tq 3 W):=
 Dn hC hT [(ejE,⟨⟨none,0⟩,⟨none,0⟩⟩)] (λp hp=>by rw[dZ.1 hp];exact agZ) (Nat.le_of_ble_eq_true rfl) (λx hx=>by simp[aL,ejE]at hx) (Nat.le_of_ble_eq_true rfl) (Nat.le_of_ble_eq_true rfl) (λ_ _ h=>ady h)
theorem ag1{W:World}{v:CV}(hC:bU W v gJ)(hT:Tab W){A:Option Addr}{c:Nat}(hF:fM W ⟨⟨A,c⟩,⟨none,0⟩⟩ VG):Calls Tryz.prog 14 #[v.val gJ,.slice (some ⟨W.heap.size,0,none⟩) 1 1,.int .i64 1] (W.alloc (.cells #[.int .i64 1,.slice A 1 c,.slice none 0 0] 31)) (Tq 0 W):=
 Dn hC hT [(VG,⟨⟨A,c⟩,⟨none,0⟩⟩)] (λp hp=>by rw[dZ.1 hp];exact hF) (Nat.le_of_ble_eq_true rfl) (λx hx=>by simp[aL,VG]at hx;subst hx;simp) (Nat.le_of_ble_eq_true rfl) (Nat.le_of_ble_eq_true rfl) (λ_ _ h=>adz h)
theorem ag2{W:World}{v:CV}(hC:bU W v gJ)(hT:Tab W){A B:Option Addr}{c d:Nat}(hF:fM W ⟨⟨A,c⟩,⟨none,0⟩⟩ VG)(hG:fM W ⟨⟨B,d⟩,⟨none,0⟩⟩ ejX):Calls Tryz.prog 14 #[v.val gJ,.slice (some ⟨W.heap.size,0,none⟩) 2 2,.int .i64 1] (W.alloc (.cells #[.int .i64 1,.slice A 1 c,.slice none 0 0,.int .i64 0,.slice B 1 d,.slice none 0 0] 31)) (Tq 1 W):=
 Dn hC hT [(VG,⟨⟨A,c⟩,⟨none,0⟩⟩),(ejX,⟨⟨B,d⟩,⟨none,0⟩⟩)] (λp hp=>by
  simp only[d_,iW,or_false]at hp;rcases hp with rfl|rfl
  .exact hF
  .exact hG) (Nat.le_of_ble_eq_true rfl) (λx hx=>by simp[aL,VG,ejX]at hx;rcases hx with rfl|rfl<;>simp) (Nat.le_of_ble_eq_true rfl) (Nat.le_of_ble_eq_true rfl) (λ_ _ h=>adA h)
end
open Go.RowKit Go.Shelf
def akk(w:World)(e:Ending)(w':World):Prop:=
 ∃(hA:Option Addr)(hc:Nat)(uA:Option Addr)(uc:Nat)(aA:Option Addr)(ac:Nat)(kA:Option Addr)(kc:Nat)(oA:Option Addr)(oc:Nat),e= .returned (.agg #[.int .i64 gJ.aF,.slice hA gJ.aj.length hc,.slice uA gJ.units.length uc,.slice aA gJ.acts.length ac,.slice kA gJ.clauses.length kc,.int .i64 gJ.days,.slice oA gJ.off.length oc])/\bU w' ⟨⟨hA,hc⟩,⟨uA,uc⟩,⟨aA,ac⟩,⟨kA,kc⟩,⟨oA,oc⟩⟩ gJ/\Below w.heap.size w w'
theorem LZ(w:World):Calls Tryz.prog 29 #[] w (akk w):=(LU w).mono λ_ _ h=>h
theorem Iq{W:World}{A:Option Addr}{c:Nat}{x:Int}(hA:At W 1 A 1 c (aR [x])):Calls Tryz.prog 21 #[.slice A 1 c,.slice (some ⟨W.heap.size,0,none⟩) 1 1] (W.alloc (.cells #[.int .i64 x] 3)) (dx (.bool true) W):=by
 generalize hW2:World.alloc _ _=W2;obtain⟨HB,h0⟩:=bx1 hW2;refine(XW [x] [x] ⟨A,c⟩ ⟨some ⟨W.heap.size,0,none⟩,1⟩ W2 (hA.below (by omega) HB.out) (xX (xs:=aR [x]) h0 rfl Im (by unfold maxLen;simp))).mono ?_;rintro e z ⟨rfl,hz⟩;exact⟨by rw[decide_eq_true rfl],ay HB.out hz⟩
section
variable {W:World} {A B:Option Addr} {c d:Nat} {l m:List Int}
theorem OU(hl:At W 1 A l.length c (aR l))(hm:At W 1 B m.length d (aR m))(h:nE l m):Calls Tryz.prog 20 #[.slice A l.length c,.slice B m.length d] W (dx (.bool true) W):=
 (Em l m ⟨A,c⟩ ⟨B,d⟩ W hl hm).mono λ_ _ ⟨b,he,hb,hz⟩=>⟨by rw[he,hb.2 h],hz⟩
theorem Ir(hl:At W 1 A l.length c (aR l))(hm:At W 1 B m.length d (aR m))(h:¬nE l m):Calls Tryz.prog 20 #[.slice A l.length c,.slice B m.length d] W (dx (.bool false) W):=
 (Em l m ⟨A,c⟩ ⟨B,d⟩ W hl hm).mono λ_ _ ⟨b,he,hb,hz⟩=>by
  cases b with
  |false=>exact⟨he,hz⟩
  |true=>exact absurd (hb.1 rfl) h
end
theorem ag3:nE [0] [1]:=⟨rfl,λk x hx=>.inl (by have:=cK hx;simpa using this)⟩
theorem ag4:¬nE [1] [0]:=λh=>by
 rcases h.2 0 1 rfl with h|h<;>cases h
theorem ag5:¬nE [] [0]:=λh=>by cases h.1
theorem Vh(w:World)(hT:Tab w):Calls Tryz.prog 9 #[] w (dx (.bool true) w):=by
 have HT:=ah hT;clear hT;go_enter Tryz.func9,Tryz.ntmps9;go_wp2_with (go_at_call 29;refine(LZ _).mono ?_;rintro e z ⟨hA,hc,uA,uc,aA,ac,kA,kc,oA,oc,rfl,hcon,hb⟩;refine Hid.out ?_);refine ah ?_;have ag6:=ah hcon;have Yb:=ah hb;clear hcon hb;go_upto_region 2 with(fail)
 generalize hW0:World.alloc _ _=W0;obtain⟨HBx,h0⟩:=bx1' hW0;have HX0:Hid (vK W0 z.heap.size ⟨⟨hA,hc⟩,⟨uA,uc⟩,⟨aA,ac⟩,⟨kA,kc⟩,⟨oA,oc⟩⟩ gJ):=⟨ag6.out.below HBx,⟨[],by rw[b_];exact h0⟩⟩;have HB0:Hid (Below w.heap.size w W0):=ay Yb.out HBx;clear hW0 HBx h0 ag6 Yb;generalize z.heap.size=cb at*;clear z;obtain⟨c0,c1,c2,c3,c4,c5,c6⟩:=HX0.out.cells;simp only at c0 c1 c2 c3 c4 c5 c6;have hca:=agV HX0.out.con (HT.out.below HB0.out);simp only[CV.val,CV.cells]at hca;have rR:=ah hca;clear hca;go_wp2_with (go_at_call 23;refine rR.out.mono ?_;rintro _ W1 ⟨ba,oA1,ca,x,y,rfl,hb,hs1,hs2,hxy⟩;refine Hid.out ?_);refine ah ?_;have oU:=ah (HX0.out.below hb);have HB1:Hid (Below w.heap.size w W1):=ay HB0.out hb;have SA:=ah hs1;have SB:=ah hs2;have ZY:=ah hxy;clear hb hs1 hs2 hxy HX0 HB0 rR c0 c1 c2 c3 c4 c5 c6;obtain⟨c0,c1,c2,c3,c4,c5,c6⟩:=oU.out.cells;simp only at c0 c1 c2 c3 c4 c5 c6;have hca:=agW oU.out.con (HT.out.below HB1.out);simp only[CV.val,CV.cells]at hca;have rR:=ah hca;clear hca;go_wp2_with (go_at_call 23;refine rR.out.mono ?_;rintro _ W2 ⟨bb,oB1,cB,rfl,hb,hs1⟩;refine Hid.out ?_);refine ah ?_;have uM:=ah (oU.out.below hb);have HB2:Hid (Below w.heap.size w W2):=ay HB1.out hb;replace SA:=ah (SA.out.below hb);replace SB:=ah (SB.out.below hb);have SC:=ah hs1;clear hb hs1 oU HB1 rR c0 c1 c2 c3 c4 c5 c6;obtain⟨c0,c1,c2,c3,c4,c5,c6⟩:=uM.out.cells;simp only at c0 c1 c2 c3 c4 c5 c6;have hca:=agX uM.out.con (HT.out.below HB2.out);simp only[CV.val,CV.cells]at hca;have rR:=ah hca;clear hca;go_wp2_with (go_at_call 23;refine rR.out.mono ?_;rintro _ W3 ⟨bd,oD1,cD,rfl,hb,hs1⟩;refine Hid.out ?_);refine ah ?_;have rF:=ah (uM.out.below hb);have HB3:Hid (Below w.heap.size w W3):=ay HB2.out hb;replace SA:=ah (SA.out.below hb);replace SB:=ah (SB.out.below hb);replace SC:=ah (SC.out.below hb);have SD:=ah hs1;clear hb hs1 uM HB2 rR c0 c1 c2 c3 c4 c5 c6;obtain⟨c0,c1,c2,c3,c4,c5,c6⟩:=rF.out.cells;simp only at c0 c1 c2 c3 c4 c5 c6;have hca:=agY rF.out.con (HT.out.below HB3.out);simp only[CV.val,CV.cells]at hca;have rR:=ah hca;clear hca;go_wp2_with (go_at_call 23;refine rR.out.mono ?_;rintro _ W4 ⟨hhA,hn,Y8,rfl,hb⟩;refine Hid.out ?_);refine ah ?_;have Ox:=ah (rF.out.below hb);have zU:Hid (Below w.heap.size w W4):=ay HB3.out hb;replace SA:=ah (SA.out.below hb);replace SB:=ah (SB.out.below hb);replace SC:=ah (SC.out.below hb);replace SD:=ah (SD.out.below hb);clear hb rF HB3 rR c0 c1 c2 c3 c4 c5 c6;go_upto_region 7 with(fail)
 generalize K_:World.alloc _ _=W5;obtain⟨hb',h0,h1⟩:=IQ K_;have hb:=hb'.out;have HX5:=ah (Ox.out.below hb);have GR:Hid (Below w.heap.size w W5):=ay zU.out hb;replace SA:=ah (SA.out.below hb);replace SB:=ah (SB.out.below hb);replace SC:=ah (SC.out.below hb);replace SD:=ah (SD.out.below hb);have OW:Hid (Own W5 31 (W4.heap.size+1) [.int .i64 1,.slice (some ⟨W4.heap.size,0,none⟩) 1 1,.slice none 0 0]):=⟨[],by rw[b_];exact h1⟩;have FW:Hid (fM W5 ⟨⟨(some ⟨W4.heap.size,0,none⟩),1⟩,⟨none,0⟩⟩ VG):=⟨xX (xs:=bE VG.facts) h0 rfl (oD _) (by unfold maxLen;exact(of_decide_eq_true rfl:(1:Nat)<=9223372036854775807)),fD _ _⟩;clear hb hb' h0 h1 K_ Ox zU;generalize W4.heap.size=qw at*;go_upto_region 8 with(fail)
 generalize YG:World.alloc _ _=W6;obtain⟨hb',h0,h1⟩:=IQ YG;have hb:=hb'.out;have UD:=ah (HX5.out.below hb);have YO:Hid (Below w.heap.size w W6):=ay GR.out hb;replace SA:=ah (SA.out.below hb);replace SB:=ah (SB.out.below hb);replace SC:=ah (SC.out.below hb);replace SD:=ah (SD.out.below hb);replace OW:=ah (OW.out.below hb);replace FW:=ah (FW.out.below hb);have OE:Hid (Own W6 31 (W5.heap.size+1) [.int .i64 0,.slice (some ⟨W5.heap.size,0,none⟩) 1 1,.slice none 0 0]):=⟨[],by rw[b_];exact h1⟩;have FE:Hid (fM W6 ⟨⟨(some ⟨W5.heap.size,0,none⟩),1⟩,⟨none,0⟩⟩ ejX):=⟨xX (xs:=bE ejX.facts) h0 rfl (oD _) (by unfold maxLen;exact(of_decide_eq_true rfl:(1:Nat)<=9223372036854775807)),fD _ _⟩;clear hb hb' h0 h1 YG HX5 GR;generalize W5.heap.size=qe at*;obtain⟨c0,c1,c2,c3,c4,c5,c6⟩:=UD.out.cells;simp only at c0 c1 c2 c3 c4 c5 c6;have hca:=ag0 UD.out.con (HT.out.below YO.out);simp only[CV.val,CV.cells]at hca;have rR:=ah hca;clear hca;go_wp2_with (go_at_call 14;refine rR.out.mono ?_;rintro _ W7 ⟨xA,xc,rfl,hx,hb⟩;refine Hid.out ?_);refine ah ?_;have HX7:=ah (UD.out.below hb);have HB7:Hid (Below w.heap.size w W7):=ay YO.out hb;replace SA:=ah (SA.out.below hb);replace SB:=ah (SB.out.below hb);replace SC:=ah (SC.out.below hb);replace SD:=ah (SD.out.below hb);replace OW:=ah (OW.out.below hb);replace FW:=ah (FW.out.below hb);replace OE:=ah (OE.out.below hb);replace FE:=ah (FE.out.below hb);have AX:=ah hx;clear hb hx UD YO rR c0 c1 c2 c3 c4 c5 c6;obtain⟨c0,c1,c2,c3,c4,c5,c6⟩:=HX7.out.cells;simp only at c0 c1 c2 c3 c4 c5 c6;have e0:=OW.out.cell (i:=0) rfl;have e1:=OW.out.cell (i:=1) rfl;have e2:=OW.out.cell (i:=2) rfl;have hca:=ag1 HX7.out.con (HT.out.below HB7.out) FW.out;simp only[CV.val,CV.cells]at hca;have rR:=ah hca;clear hca;go_wp2_with (go_at_call 14;refine rR.out.mono ?_;rintro _ W8 ⟨yA,yc,rfl,hx,hb⟩;refine Hid.out ?_);refine ah ?_;have HX8:=ah (HX7.out.below hb);have HB8:Hid (Below w.heap.size w W8):=ay HB7.out hb;replace SA:=ah (SA.out.below hb);replace SB:=ah (SB.out.below hb);replace SC:=ah (SC.out.below hb);replace SD:=ah (SD.out.below hb);replace OW:=ah (OW.out.below hb);replace FW:=ah (FW.out.below hb);replace OE:=ah (OE.out.below hb);replace FE:=ah (FE.out.below hb);replace AX:=ah (AX.out.below (by omega) hb);have AY:=ah hx;clear hb hx HX7 HB7 rR c0 c1 c2 c3 c4 c5 c6 e0 e1 e2;obtain⟨c0,c1,c2,c3,c4,c5,c6⟩:=HX8.out.cells;simp only at c0 c1 c2 c3 c4 c5 c6;have e0:=OW.out.cell (i:=0) rfl;have e1:=OW.out.cell (i:=1) rfl;have e2:=OW.out.cell (i:=2) rfl;have g0:=OE.out.cell (i:=0) rfl;have g1:=OE.out.cell (i:=1) rfl;have g2:=OE.out.cell (i:=2) rfl;have hca:=ag2 HX8.out.con (HT.out.below HB8.out) FW.out FE.out;simp only[CV.val,CV.cells]at hca;have rR:=ah hca;clear hca;go_wp2_with (go_at_call 14;refine rR.out.mono ?_;rintro _ W9 ⟨zA,zc,rfl,hx,hb⟩;refine Hid.out ?_);refine ah ?_;have HX9:=ah (HX8.out.below hb);have SI:Hid (Below w.heap.size w W9):=ay HB8.out hb;replace SA:=ah (SA.out.below hb);replace SB:=ah (SB.out.below hb);replace SC:=ah (SC.out.below hb);replace SD:=ah (SD.out.below hb);replace OW:=ah (OW.out.below hb);replace FW:=ah (FW.out.below hb);replace OE:=ah (OE.out.below hb);replace FE:=ah (FE.out.below hb);replace AX:=ah (AX.out.below (by omega) hb);replace AY:=ah (AY.out.below (by omega) hb);have AZ:=ah hx;clear hb hx HX8 HB8 rR c0 c1 c2 c3 c4 c5 c6 e0 e1 e2 g0 g1 g2;clear OW FW OE FE;obtain⟨m1,n1,k1,hs1⟩:=SA.out;obtain⟨m2,n2,k2,hs2⟩:=SB.out;obtain⟨m3,n3,k3,hs3⟩:=SC.out;obtain⟨m4,n4,k4,hs4⟩:=SD.out;have y1:=λz=>(hs1 z).1;have z1:=λz=>(hs1 z).2;have y2:=λz=>(hs2 z).1;have z2:=λz=>(hs2 z).2;have y3:=λz=>(hs3 z).1;have z3:=λz=>(hs3 z).2;have y4:=λz=>(hs4 z).1;have z4:=λz=>(hs4 z).2;clear hs1 hs2 hs3 hs4 SA SB SC SD HX9;go_upto_region 13 with(fail)
 change Code.wp _ _ _ _ (Bl.val (⟨W9,aD _ _⟩:Bl W9));generalize(⟨W9,aD _ _⟩:Bl W9)=s0;obtain⟨u,hu⟩:∃u:Int,x+y=u:=⟨_,rfl⟩;rcases ZY.out with⟨rfl,rfl⟩|⟨rfl,rfl⟩
 all_goals
  clear hu u;refine aI (by kernel_rfl) (by kernel_rfl) ?_;repeat(go_big_quiet_step (fail))
  refine aS ?_;rintro _ ⟨z,rfl⟩;have yT:Hid (Below w.heap.size w z.val):=ay SI.out z.prop;replace AX:=ah (AX.out.below (by omega) z.prop);replace AY:=ah (AY.out.below (by omega) z.prop);replace AZ:=ah (AZ.out.below (by omega) z.prop);clear y1 y2 y3 y4 z1 z2 z3 z4 ZY;generalize z.val=V0 at yT AX AY AZ⊢;clear z SI;have hca:=Iq AX.out;have rR:=ah hca;clear hca;go_wp2_with (go_at_call 21;refine rR.out.mono ?_;rintro _ V1 ⟨rfl,hb⟩;refine Hid.out ?_);refine ah ?_;replace yT:Hid (Below w.heap.size w V1):=ay yT.out hb;replace AX:=ah (AX.out.below (by omega) hb);replace AY:=ah (AY.out.below (by omega) hb);replace AZ:=ah (AZ.out.below (by omega) hb);clear hb rR;have hca:=Iq AY.out;have rR:=ah hca;clear hca;go_wp2_with (go_at_call 21;refine rR.out.mono ?_;rintro _ V2 ⟨rfl,hb⟩;refine Hid.out ?_);refine ah ?_;replace yT:Hid (Below w.heap.size w V2):=ay yT.out hb;replace AX:=ah (AX.out.below (by omega) hb);replace AY:=ah (AY.out.below (by omega) hb);replace AZ:=ah (AZ.out.below (by omega) hb);clear hb rR;have hca:=Iq AZ.out;have rR:=ah hca;clear hca;go_wp2_with (go_at_call 21;refine rR.out.mono ?_;rintro _ V3 ⟨rfl,hb⟩;refine Hid.out ?_);refine ah ?_;replace yT:Hid (Below w.heap.size w V3):=ay yT.out hb;replace AX:=ah (AX.out.below (by omega) hb);replace AY:=ah (AY.out.below (by omega) hb);replace AZ:=ah (AZ.out.below (by omega) hb);clear hb rR;have hca:=(OU (l:=[0]) (m:=[1]) AY.out AZ.out ag3:(Calls Tryz.prog 20 #[.slice yA 1 yc,.slice zA 1 zc] V3 (dx (.bool true) V3)));have rR:=ah hca;clear hca;go_wp2_with (go_at_call 20;refine rR.out.mono ?_;rintro _ V4 ⟨rfl,hb⟩;refine Hid.out ?_);refine ah ?_;replace yT:Hid (Below w.heap.size w V4):=ay yT.out hb;replace AX:=ah (AX.out.below (by omega) hb);replace AY:=ah (AY.out.below (by omega) hb);replace AZ:=ah (AZ.out.below (by omega) hb);clear hb rR;have hca:=(Ir (l:=[1]) (m:=[0]) AZ.out AY.out ag4:(Calls Tryz.prog 20 #[.slice zA 1 zc,.slice yA 1 yc] V4 (dx (.bool false) V4)));have rR:=ah hca;clear hca;go_wp2_with (go_at_call 20;refine rR.out.mono ?_;rintro _ V5 ⟨rfl,hb⟩;refine Hid.out ?_);refine ah ?_;replace yT:Hid (Below w.heap.size w V5):=ay yT.out hb;replace AX:=ah (AX.out.below (by omega) hb);replace AY:=ah (AY.out.below (by omega) hb);replace AZ:=ah (AZ.out.below (by omega) hb);clear hb rR;have hca:=(Ir (l:=[]) (m:=[0]) (fD _ _) AY.out ag5:(Calls Tryz.prog 20 #[.slice none 0 0,.slice yA 1 yc] V5 (dx (.bool false) V5)));have rR:=ah hca;clear hca;go_wp2_with (go_at_call 20;refine rR.out.mono ?_;rintro _ V6 ⟨rfl,hb⟩;refine Hid.out ?_);refine ah ?_;replace yT:Hid (Below w.heap.size w V6):=ay yT.out hb;replace AX:=ah (AX.out.below (by omega) hb);replace AY:=ah (AY.out.below (by omega) hb);replace AZ:=ah (AZ.out.below (by omega) hb);clear hb rR;go_wp2;go_ret;exact⟨rfl,yT.out⟩
end Go.Proofs.YtpmdedcnbockhaaGreatDoor
