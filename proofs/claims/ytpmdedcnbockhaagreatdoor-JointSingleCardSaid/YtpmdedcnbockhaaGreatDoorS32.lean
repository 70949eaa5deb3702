/- part -/
import Derived.Test.YtpmdedcnbockhaaGreatDoorS31
import Derived.Test.YtpmdedcnbockhaaGreatDoorS29
set_option maxRecDepth 100000
set_option maxHeartbeats 8000000
namespace Go.Proofs.YtpmdedcnbockhaaGreatDoor
section
open Go.RowKit Go.Shelf Tryz
def hidJ(C:au)(P:List Int)(s:ak)(i:Nat):Bool:=(C.named s).getD i false&& !(C.sight P s i)
inductive qG (C:au) (P:List Int) (l:List ak):ak->Prop
 |base {s:ak}:s∈l->qG C P l s
 |step {s:ak} {i:Nat}:qG C P l s->s.day<C.days->i<C.acts.length->hidJ C P s i=true->qG C P l (C.next s i)
structure yX(C:au)(P:List Int)(l r:List ak):Prop where
 sorted:(r.map ak.text).Pairwise (· < ·)
 few:r.length<=300
 ok:∀s∈r,aV C s
 reach:∀s∈r,qG C P l s
 has:∀s∈l,s∈r
 closed:∀s∈r,s.day<C.days->∀i,i<C.acts.length->hidJ C P s i=true->C.next s i∈r
def qN(C:au)(P:List Int)(l:List ak):Prop:=∃F:List ak,F.Nodup/\300<F.length/\∀s∈F,qG C P l s
structure JInv(C:au)(P:List Int)(l F:List ak)(k:Nat):Prop where
 ok:∀s∈F,aV C s
 reach:∀s∈F,qG C P l s
 closed:∀(j:Nat)(s:ak),j<k->F[j]?=some s->s.day<C.days->∀i,i<C.acts.length->hidJ C P s i=true->C.next s i∈F
section
variable {C:au} {P:List Int} {l F:List ak} {k:Nat} {s:ak}
theorem PS(F:List ak)(s:ak){j:Nat}(hj:j<F.length):(jv F s)[j]?=F[j]?:=by
 unfold jv;cases decide (s.text∈F.map ak.text)with
 |true=>rfl
 |false=>exact kH hj
theorem PU(F:List ak)(s:ak):F.length<=(jv F s).length/\(jv F s).length<=F.length+1:=by
 unfold jv;cases decide (s.text∈F.map ak.text)with
 |true=>exact⟨bJ _,Nat.le_succ _⟩
 |false=>simp only[cond_false,mU,rP];omega
theorem JInv.start(C:au)(P:List Int)(l:List ak):JInv C P l [] 0:=⟨by simp,by simp,by simp⟩
theorem JInv.meet(h:JInv C P l F k)(hk:k<=F.length)(hs:aV C s)(hr:qG C P l s):JInv C P l (jv F s) k:=by
 refine⟨λx hx=>?_,λx hx=>?_,λj x hj hx hd i hi hh=>?_⟩
 .rcases g_.1 hx with hx|rfl
  .exact h.ok x hx
  .exact hs
 .rcases g_.1 hx with hx|rfl
  .exact h.reach x hx
  .exact hr
 .rw[PS F s (by omega)]at hx
  exact g_.2 (.inl (h.closed j x hj hx hd i hi hh))
theorem JInv.done(h:JInv C P l F k)(hs:F[k]?=some s)(hc:s.day<C.days->∀i,i<C.acts.length->hidJ C P s i=true->C.next s i∈F):JInv C P l F (k+1):=by
 refine⟨h.ok,h.reach,λj x hj hx hd i hi hh=>?_⟩;by_cases e:j=k
 .subst e
  rw[hs]at hx;injection hx with hx
  subst hx;exact hc hd i hi hh
 .exact h.closed j x (by omega) hx hd i hi hh
theorem JInv.clo(h:JInv C P l F F.length)(hl:∀s∈l,s∈F){r:List ak}(hm:∀s,s∈r↔s∈F)(hs:(r.map ak.text).Pairwise (· < ·))(hr:r.length<=300):yX C P l r:=by
 refine⟨hs,hr,λx hx=>h.ok x ((hm x).1 hx),λx hx=>h.reach x ((hm x).1 hx),λx hx=>(hm x).2 (hl x hx),λx hx hd i hi hh=>?_⟩;obtain⟨j,hj⟩:=jW.1 ((hm x).1 hx);exact(hm _).2 (h.closed j x (bB.1 hj).1 hj hd i hi hh)
theorem K7(hO:aV C s)(hd:s.day<C.days){i:Nat}(hi:i<C.acts.length):aV C (C.next s i)/\C.dP s i=0:=by
 have ha:=aS hi;refine⟨?_,yE hO hd hi⟩;rw[Ii ha];exact LV hO ha
end
theorem d_.get{M:Nat->Prop}{B:Nat}{w:World}{v:Value}{R:List ak}(h:d_ M B w v R){i:Nat}{s:ak}(hi:R[i]?=some s):
 ∃(g c:Nat)(t:TV),v= .slice (some ⟨g,0,none⟩) R.length c/\Safe M v.ownBlock w t s/\∀j,j<4->w.cell? ⟨g,i*4+j,none⟩=(t.cells s)[j]?:=by
 obtain⟨ts,h1,h2,h3⟩:=h;have hl:i<R.length:=(bB.1 hi).1;have ht:ts[i]?=some (ts[i]'(by omega)):=aS _;rcases h2.2 with⟨_,h0⟩|⟨g,cap,cur,rfl,_⟩
 .omega
 refine⟨g,cap,ts[i]'(by omega),rfl,h3 i s _ hi ht,λj hj=>?_⟩;have hz:(R.zip ts)[i]?=some (s,ts[i]'(by omega)):=by rw[Kk];exact⟨hi,ht⟩
 have e:=bG (λp:ak×TV=>TV.cells p.2 p.1) 4 (λ_=>rfl) (R.zip ts) i j _ hz hj;have hx:((ts[i]'(by omega)).cells s)[j]?=some (((ts[i]'(by omega)).cells s)[j]'(by simpa [TV.cells,ak.cells]using hj)):=aS _;have hc:=h2.cells (g:=g) rfl (i*4+j) _ (e.trans hx);rw[hx,<-hc,Addr.add_lit,pF]
theorem vg.of{Q:TV->ak->Prop}{w:World}{b:Nat}(h:w.heap[b]?=some (.map #[] 0)):vg Q w b []:=by
 obtain⟨es,c,h1,h2⟩:=World.ownsMap_made (P:=prog) (k:=9) (R:=R1) w;rw[bK]at h1;injection h1 with h1
 injection h1 with e1 e2
 subst e1 e2;exact⟨.map [],⟨#[],0,h,h2⟩,rfl,List.nodup_nil,by simp,λk hk=>by cases hk⟩
theorem Zt{M:Nat->Prop}{o:Option Nat}{w W:World}{bm:Nat}{t:TV}{s:ak}(h:aQ w t s)(hu:aG (λk=>k=bm) w W)(hm:eY w bm)(ho:∀k,k<w.heap.size->(some k=o\/M k)->k=bm):Safe M o W t s:=λw'' hu'=>
 h.upd (hu.trans hu' (λi hi e=>ho i hi e)) (λk hk=>by rw[hk];exact hm)
end
section
open Go.RowKit Go.Shelf Go.Sort Tryz
def PV(C:au)(P:List Int)(l:List ak)(bm n:Nat)(w:World)(e:Ending)(w':World):Prop:=
 ∃(r:List ak)(A:Option Addr)(c:Nat)(er:Int),e= .returned (.tuple #[.slice A r.length c,.int .i64 er])/\aG (λk=>k=bm) w w'/\dG C P w' bm (n+1000000)/\
  ((er=0/\aW 0 w' ⟨A,c⟩ r/\yX C P l r)\/(er=3/\A=none/\c=0/\r=[]/\qN C P l))
theorem CK(v:CV)(C:au)(P:List Int){bc bk bp bm n:Nat}(sl:SV)(l:List ak)(w:World)(hC:bO w v C)(hL:aW 0 w sl l)(hO:∀s∈l,aV C s)(hT:Tab w)(hl:l.length<=1000)(hs:pq C P w bc bk bp bm n)(hn:n<=90000000000):
 Calls prog 49 #[v.val C,.slice sl.A l.length sl.c,wm bc bk bp] w (PV C P l bm n w):=by
 obtain⟨⟨dV,dW⟩,⟨dX,dY⟩,⟨fB,dH⟩,⟨eZ,dM⟩,⟨dQ,dR⟩⟩:=v;obtain⟨slA,slc⟩:=sl;have Eh:eY w bm:=hs.memo.blk;have hblt:bm<w.heap.size:=by obtain⟨es,c,h⟩:=Eh;exact aB h
 have HBM:=ah Eh;clear Eh;have HC:=ah hC;clear hC;have HL:=ah hL;clear hL;have HO:=ah hO;clear hO;have HT:=ah hT;clear hT;have HS:=ah hs;clear hs;have HN:=ah hn;clear hn;simp only[CV.val,CV.cells];unfold wm;have hmm:=@run_makeMap prog;go_enter func49,ntmps49;go_upto_region 4 with(fail)
 generalize hWm:World.alloc _ _=Wm;obtain⟨HBm,h0,h1,h2,h3⟩:=bx4 hWm;clear hWm hmm;obtain⟨cq,hcq⟩:∃x,x=w.heap.size+1+1+1:=⟨_,rfl⟩;obtain⟨cm,hcm⟩:∃x,x=w.heap.size+1+1:=⟨_,rfl⟩;obtain⟨bf,hbf⟩:∃x,x=w.heap.size+1:=⟨_,rfl⟩;rw[<-hcq]at h3;rw[<-hcm,<-hbf]at h2;rw[<-hbf]at h1;rw[<-hcq,<-hcm];obtain⟨M,hMM⟩:∃M:Nat->Prop,M=λk=>k=bm\/k=bf\/k=cq:=⟨_,rfl⟩;have JE:Hid (∀k,M k↔(k=bm\/k=bf\/k=cq)):=λk=>by rw[hMM]
 clear hMM;have hwm:w.heap.size+3<Wm.heap.size:=by have:=aB h3;omega
 have HX:Hid (Own Wm 27 w.heap.size [.int .i64 C.aF,.slice dV C.aj.length dW,.slice dX C.units.length dY,.slice fB C.acts.length dH,.slice eZ C.clauses.length dM,.int .i64 C.days,.slice dQ C.off.length dR]):=⟨[],by rw[bU];exact h0⟩;have HA0:Hid (qM M Wm.heap.size cm cq bf Wm (.slice none 0 0) []):=⟨⟨[],by rw[bU];exact h2⟩,⟨[],by rw[bU];exact h3⟩,vg.of h1,d_.nil _ _ _⟩;have HIX:Hid (cq=w.heap.size+3/\cm=w.heap.size+2/\bf=w.heap.size+1):=⟨by omega,by omega,by omega⟩;clear h0 h1 h2 h3 hcq hcm hbf;have HMW:Hid (∀k,M k->k<Wm.heap.size/\k≠w.heap.size/\k≠cm):=λk hk=>by
  have:=HIX.out;rcases(JE.out k).1 hk with e|e|e<;>omega
 have HOLD:Hid (∀W,aG M Wm W->aG (λk=>k=bm) w W):=λW hu=>((aG.of_below HBm.out).mono (λi hi hle=>by omega)).trans hu (λi hi hM=>by
  have:=HIX.out;rcases(JE.out i).1 hM with e|e|e<;>omega)
 have wX:Hid (∀k,k=bm->eY w k):=λk hk=>by rw[hk];exact HBM.out
 have Nn:Hid (∀W,aG M Wm W->wh W w.heap.size (⟨⟨dV,dW⟩,⟨dX,dY⟩,⟨fB,dH⟩,⟨eZ,dM⟩,⟨dQ,dR⟩⟩:CV) C):=λW hu=>⟨HC.out.upd (HOLD.out W hu) wX.out,HX.out.keep hu (λe=>(HMW.out _ e).2.1 rfl)⟩;have HTW:Hid (∀W,aG M Wm W->Tab W):=λW hu=>HT.out.upd (HOLD.out W hu) wX.out;have YP:Hid (dG C P Wm bm n):=HS.out.memo.below HBm.out;have HI0:=ah (JInv.start C P l);have hl9:l.length<=9223372036854775807:=by omega
 clear HX;go_wp2
 go_loopg [23] l.length (λgk v23 wr=>∃(i:Nat)(F:List ak)(v:Value),gk=l.length - i/\i<=l.length/\v23= .int .i64 i/\Hid (qM M Wm.heap.size cm cq bf wr v F)/\F.length<=i/\F.length<=300/\Hid (JInv C P l F 0/\∀x∈l.take i,x∈F)/\Hid (aG M Wm wr)/\Hid (dG C P wr bm n))
 case atStart=>exact⟨0,[],_,rfl,aU _,rfl,HA0,bJ _,by simp,⟨HI0.out,by simp⟩,aG.refl _ _,YP⟩
 case round=>
  obtain⟨i,F,v,eO,hi,rfl,HA,Yt,hF3,HI,HU,HM⟩:=hrel;have iw:=ah eO;clear eO;clear HA0 YP HI0;by_cases hlt:i<l.length
  .obtain⟨s,hs⟩:∃s,l[i]?=some s:=⟨_,aS hlt⟩
   have Zu:=ah (HOLD.out wr HU.out);obtain⟨g,off,hA,hg,hcl⟩:=HL.out.form (by omega);simp only at hA;subst hA;obtain⟨⟨⟨eu,dN⟩,⟨eH,dL⟩,⟨fF,bY⟩⟩,⟨hst,_⟩,hcells⟩:=hcl i s hs;obtain⟨e0,e1,e2,e3⟩:=rw4 (hcells w (aC _ _)) rfl;have uZ:=ah (HO.out s (cK hs));have Wi:Hid (qG C P l s):=.base (cK hs);have d0:=Zu.out.fQ wX.out e0;have d1:=Zu.out.fQ wX.out e1;have d2:=Zu.out.fQ wX.out e2;have d3:=Zu.out.fQ wX.out e3;have HTK:Hid (∀x,x∈l.take (i+1)->x∈l.take i\/x=s):=λx hx=>by
    rw[bT hs]at hx;simpa using hx
   have HST:=ah hst;have i0:(0:Int)<=(i:Int):=by omega
   have i1:(i:Int)<(l.length:Int):=by omega
   clear e0 e1 e2 e3 hcells hcl hst hs hg Zu;go_upto_region 7 with(fail)
   generalize hW1:World.alloc _ _=W1;obtain⟨hb1,gG⟩:=bx1' hW1;have q9:Hid (Own W1 48 wr.heap.size [.int .i64 s.day,.slice eu s.aj.length dN,.slice eH s.used.length dL,.slice fF s.marks.length bY]):=⟨[],by rw[bU];exact gG⟩;have HA1:=ah (HA.out.below hb1);have zQ:=ah (HU.out.on hb1);have Nk:=ah (HM.out.below hb1);clear hW1 hb1 gG d0 d1 d2 d3 HA HU HM;have x0:=q9.out.cell (i:=0) rfl;have x1:=q9.out.cell (i:=1) rfl;have x2:=q9.out.cell (i:=2) rfl;have x3:=q9.out.cell (i:=3) rfl;have had:=Uh HA1.out ((JE.out bf).2 (.inr (.inl rfl))) ((JE.out cq).2 (.inr (.inr rfl))) zQ.out.size ⟨⟨eu,dN⟩,⟨eH,dL⟩,⟨fF,bY⟩⟩ s (Zt HST.out (HOLD.out W1 zQ.out) HBM.out (λk hk h=>by
    have:=HIX.out;rcases h with h|h
    .have:=(HA1.out.V8.own h.symm).1;omega
    .rcases(JE.out k).1 h with h|h|h<;>omega)) uZ.out.ranged (HTW.out W1 zQ.out) (by omega)
   simp only[TV.val,TV.cells,ak.cells]at had;have HAD:=ah had;clear had;go_wp2_with (go_at_call 77;refine HAD.out.mono ?_;rintro e z ⟨rfl,v',hA,hU,hO⟩;refine Hid.out ?_);refine ah ?_;have Me:Hid (aG M Wm z):=zQ.out.trans hU (λk hk h=>by
    rcases h with h|h|h
    .have:=(HA1.out.V8.own h.symm).1;omega
    .exact(JE.out k).2 (.inr (.inl h))
    .exact(JE.out k).2 (.inr (.inr h)))
   have HMz:Hid (dG C P z bm n):=Nk.out.keep hU (λh=>by
    have:=HIX.out;rcases h with h|h|h
    .have:=(HA1.out.V8.own h.symm).1;omega
    .omega
    .omega)
   have HAz:=ah hA;have HIz:Hid (JInv C P l (jv F s) 0/\∀x∈l.take (i+1),x∈jv F s):=⟨HI.out.1.meet (aU _) uZ.out Wi.out,λx hx=>g_.2 ((HTK.out x hx).imp (HI.out.2 x) id)⟩;have hml:=PU F s;clear hA hU hO HAD HA1 zQ Nk q9 x0 x1 x2 x3 HI;generalize jv F s=F2 at HAz HIz hml⊢;by_cases h3:F2.length<=300
   .rw[decide_eq_true h3]
    go_wp2
    go_roundg (l.length - (i+1))
    case measure=>rw[iw.out];omega
    case rel=>exact⟨i+1,F2,v',rfl,by omega,by go_num,HAz,by omega,h3,HIz,Me,HMz⟩
   .rw[decide_eq_false h3]
    have HMY:Hid (qN C P l):=⟨F2,qY HAz.out.set.nodup,by omega,HIz.out.1.reach⟩;go_wp2;try rw[Exit.noGoto_ret]
    go_ret2
    exact⟨[],none,0,3,rfl,HOLD.out z Me.out,HMz.out.mono (by omega),.inr ⟨rfl,rfl,rfl,rfl,HMY.out⟩⟩
  .obtain rfl:i=l.length:=by omega
   rw[iG]at HI;go_wp2
   go_loopg [13] 301 (λgk v13 wr=>∃(k:Nat)(F:List ak)(v:Value),gk=301 - k/\k<=F.length/\F.length<=300/\v13= .int .i64 k/\Hid (qM M Wm.heap.size cm cq bf wr v F)/\Hid (JInv C P l F k/\∀x∈l,x∈F)/\Hid (aG M Wm wr)/\Hid (dG C P wr bm (n+k*1000)))
   case atStart=>exact⟨0,F,v,rfl,aU _,hF3,rfl,HA,HI,HU,HM⟩
   case round=>
    obtain⟨k,F,v,eO,hk,hF3,rfl,HA,HI,HU,HM⟩:=hrel;have iw:=ah eO;clear eO;obtain⟨wo,e⟩:∃x,x=wr:=⟨_,rfl⟩;subst e;by_cases hlt:k<F.length
    .obtain⟨s,hs⟩:∃s,F[k]?=some s:=⟨_,aS hlt⟩
     obtain⟨g,c,⟨⟨eu,dN⟩,⟨eH,dL⟩,⟨fF,bY⟩⟩,hv,hsf,hcl⟩:=HA.out.V8.get hs;have uZ:=ah (HI.out.1.ok s (cK hs));have Wi:=ah (HI.out.1.reach s (cK hs));have ZH:=ah hs;obtain⟨d0,d1,d2,d3⟩:=rw4 hcl rfl;have q0:=HA.out.Sd.cell (i:=0) rfl;have HOW:Hid (∀q,v.ownBlock=some q->q<wo.heap.size):=λq hq=>(HA.out.V8.own hq).2.1;rw[hv]at q0;have TM:=ah hsf;have k0:(0:Int)<=(k:Int):=by omega
     have k1:(k:Int)<(F.length:Int):=by omega
     have hwo:=HU.out.size;clear hsf hcl hs;go_upto_region 14 with(fail)
     generalize hW1:World.alloc _ _=W1;obtain⟨hb1,gG⟩:=bx1' hW1;have q9:Hid (Own W1 48 wo.heap.size [.int .i64 s.day,.slice eu s.aj.length dN,.slice eH s.used.length dL,.slice fF s.marks.length bY]):=⟨[],by rw[bU];exact gG⟩;have HA1:=ah (HA.out.below hb1);have zQ:=ah (HU.out.on hb1);have Nk:=ah (HM.out.below hb1);have aeH:Hid (Safe M v.ownBlock W1 ⟨⟨eu,dN⟩,⟨eH,dL⟩,⟨fF,bY⟩⟩ s):=TM.out.turn (aG.of_below hb1) (λk hk e=>by omega) (.inl rfl);have aqJ:wo.heap.size<W1.heap.size:=aB gG;clear hW1 hb1 gG d0 d1 d2 d3 q0 TM HA HU HM;obtain⟨c0,c1,c2,c3,c4,c5,c6⟩:=(Nn.out W1 zQ.out).cells;simp only at c0 c1 c2 c3 c4 c5 c6;have x0:=q9.out.cell (i:=0) rfl;have x1:=q9.out.cell (i:=1) rfl;have x2:=q9.out.cell (i:=2) rfl;have x3:=q9.out.cell (i:=3) rfl;by_cases hd:C.days<=s.day
     .have HID:Hid (JInv C P l F (k+1)/\∀x∈l,x∈F):=⟨HI.out.1.done ZH.out (λh=>by omega),HI.out.2⟩
      clear hv;go_wp2
      go_roundg (301 - (k+1))
      case measure=>rw[iw.out];omega
      case rel=>exact⟨k+1,F,v,rfl,by omega,hF3,by go_num,HA1,HID,zQ,Nk.out.mono (by omega)⟩
     .have hd2:s.day<C.days:=by omega
      have vC:Hid (∀i,i<C.acts.length->aV C (C.next s i)/\C.dP s i=0/\(hidJ C P s i=true->qG C P l (C.next s i))):=λi hi=>⟨(K7 uZ.out hd2 hi).1,(K7 uZ.out hd2 hi).2,λh=>.step Wi.out hd2 hi h⟩;have hna:=Vk ⟨⟨dV,dW⟩,⟨dX,dY⟩,⟨fB,dH⟩,⟨eZ,dM⟩,⟨dQ,dR⟩⟩ C ⟨⟨eu,dN⟩,⟨eH,dL⟩,⟨fF,bY⟩⟩ s W1 (Nn.out W1 zQ.out).con aeH.out.at uZ.out;simp only[CV.val,CV.cells,TV.val,TV.cells,ak.cells]at hna;have Bq:=ah hna;clear hna;have HV:=ah hv;clear hv;go_wp2_with (go_at_call 78;refine Bq.out.mono ?_;rintro e Z ⟨ng,nc,rfl,hng,hnb,hbz⟩;refine Hid.out ?_);refine ah ?_;have HAZ:=ah (HA1.out.below hbz);have Qk:=ah (zQ.out.on hbz);have HMZ:=ah (Nk.out.below hbz);have HXZ:=ah (q9.out.below hbz);have zN:Hid (Safe M v.ownBlock Z ⟨⟨eu,dN⟩,⟨eH,dL⟩,⟨fF,bY⟩⟩ s):=aeH.out.turn (aG.of_below hbz) (λk hk e=>by omega) (.inl rfl);have HNZ:Hid (Own Z 4 ng (fM (C.named s))):=⟨[],by rw[bU];exact hnb⟩;have hnl:(C.named s).length=C.acts.length:=mR _ _ _;have hwz:=hbz.size;have aqL:=HNZ.out.lt;have aqM:=(au.ok uZ.out.con).Ey;have E8:=ah hnl;clear hnl;clear hnb hbz Bq HA1 zQ Nk q9 aeH c0 c1 c2 c3 c4 c5 c6 x0 x1 x2 x3;have c3:=(Nn.out Z Qk.out).Fw.cell (i:=3) rfl;simp only at c3;have HOZ:Hid (∀q,v.ownBlock=some q->q<wo.heap.size\/Z.heap.size<=q):=λq hq=>.inl (HOW.out q hq);go_wp2
      go_loopg [53] C.acts.length (λgk v53 wr=>∃(i:Nat)(F2:List ak)(v2:Value),gk=C.acts.length - i/\i<=C.acts.length/\v53= .int .i64 i/\F2.length<=300/\k<F2.length/\Hid (qM M Wm.heap.size cm cq bf wr v2 F2)/\Hid (JInv C P l F2 k/\(∀x∈l,x∈F2)/\F2[k]?=some s/\∀j,j<i->hidJ C P s j=true->C.next s j∈F2)/\Hid (aG M Wm wr)/\Hid (dG C P wr bm (n+k*1000+i))/\Hid (aG (λq=>q<wo.heap.size\/Z.heap.size<=q) Z wr)/\Hid (∀q,v2.ownBlock=some q->q<wo.heap.size\/Z.heap.size<=q)/\Hid (Safe M v2.ownBlock wr ⟨⟨eu,dN⟩,⟨eH,dL⟩,⟨fF,bY⟩⟩ s))
      case atStart=>exact⟨0,F,v,rfl,aU _,rfl,hF3,hlt,HAZ,⟨HI.out.1,HI.out.2,ZH.out,λj hj=>absurd hj (by omega)⟩,Qk,HMZ,aG.refl _ _,HOZ,zN⟩
      case round=>
       obtain⟨i,F2,v2,hgi,hi,rfl,hF2,hk2,HA,HI2,HU,HM,HZ,EY,TM⟩:=hrel;have Yf:=ah hgi;clear hgi;clear c3 HAZ Qk HMZ zN HOZ;by_cases hlt2:i<C.acts.length
       .have HXr:Hid (Own wr 48 wo.heap.size [.int .i64 s.day,.slice eu s.aj.length dN,.slice eH s.used.length dL,.slice fF s.marks.length bY]):=HXZ.out.keep HZ.out (by omega)
        have HNr:=ah (HNZ.out.keep HZ.out (by omega));obtain⟨nb,hnb⟩:∃nb,nb=(C.named s).getD i false:=⟨_,rfl⟩;have n0:wr.cell? ⟨ng,i,none⟩=some (.bool nb):=HNr.out.cell (by rw[hnb];simp[fM,E8.out,hlt2]);have HHJ:Hid (hidJ C P s i=(nb&& !(C.sight P s i))):=by show _=_;rw[hnb];rfl
        have i0:(0:Int)<=(i:Int):=by omega
        have i1:(i:Int)<(C.acts.length:Int):=by omega
        have hnl:=E8.out;have i2:(i:Int)<((C.named s).length:Int):=by omega
        have hwr:=HU.out.size;clear hnl hnb;cases nb with
        |false=>
         have uE:Hid (JInv C P l F2 k/\(∀x∈l,x∈F2)/\F2[k]?=some s/\∀j,j<i+1->hidJ C P s j=true->C.next s j∈F2):=⟨HI2.out.1,HI2.out.2.1,HI2.out.2.2.1,λj hj hh=>by
          by_cases e:j=i
          .rw[e,HHJ.out]at hh;cases hh
          .exact HI2.out.2.2.2 j (by omega) hh⟩
         go_wp2
         go_roundg (C.acts.length - (i+1))
         case measure=>rw[Yf.out];omega
         case rel=>exact⟨i+1,F2,v2,rfl,by omega,by go_num,hF2,hk2,HA,uE,HU,HM.out.mono (by omega),HZ,EY,TM⟩
        |true=>
         have x0:=HXr.out.cell (i:=0) rfl;have x1:=HXr.out.cell (i:=1) rfl;have x2:=HXr.out.cell (i:=2) rfl;have x3:=HXr.out.cell (i:=3) rfl;have hsg:=I_ (HS.out.turn (HOLD.out wr HU.out) wX.out HM.out) (by have:=HN.out;omega) ⟨⟨eu,dN⟩,⟨eH,dL⟩,⟨fF,bY⟩⟩ s TM.out.at uZ.out hlt2;simp only[TV.val,TV.cells,ak.cells]at hsg;have Mh:=ah hsg;clear hsg;go_wp2_with (go_at_call 75;refine Mh.out.mono ?_;rintro e Y ⟨rfl,hm,hu⟩;refine Hid.out ?_);refine ah ?_;have hnb:∀q,q=bm->eY wr q/\M q:=λq hq=>by rw[hq];exact⟨HM.out.blk,(JE.out bm).2 (.inl rfl)⟩
         have hix:=HIX.out;have HAY:=ah (HA.out.Bd hu hnb (by omega));have HUY:Hid (aG M Wm Y):=HU.out.trans hu (λq hq e=>(hnb q e).2);have HMY:=ah hm;have HZY:Hid (aG (λq=>q<wo.heap.size\/Z.heap.size<=q) Z Y):=HZ.out.trans hu (λq hq e=>by left;omega);have HSY:Hid (Safe M v2.ownBlock Y ⟨⟨eu,dN⟩,⟨eH,dL⟩,⟨fF,bY⟩⟩ s):=TM.out.turn hu (λq hq e=>.inr (hnb q e).2) (.inl rfl);have HXY:=ah (HXr.out.Bd hu (λq hq=>(hnb q hq).1));clear hu hm hnb hix x0 x1 x2 x3 n0 Mh HA HU HM HZ TM HXr HNr;generalize C.sight P s i=sg at HHJ⊢;cases sg with
         |true=>
          have uE:Hid (JInv C P l F2 k/\(∀x∈l,x∈F2)/\F2[k]?=some s/\∀j,j<i+1->hidJ C P s j=true->C.next s j∈F2):=⟨HI2.out.1,HI2.out.2.1,HI2.out.2.2.1,λj hj hh=>by
           by_cases e:j=i
           .rw[e,HHJ.out]at hh;cases hh
           .exact HI2.out.2.2.2 j (by omega) hh⟩
          go_wp2
          go_roundg (C.acts.length - (i+1))
          case measure=>rw[Yf.out];omega
          case rel=>exact⟨i+1,F2,v2,rfl,by omega,by go_num,hF2,hk2,HAY,uE,HUY,HMY.out.mono (by omega),HZY,EY,HSY⟩
         |false=>
          have x0:=HXY.out.cell (i:=0) rfl;have x1:=HXY.out.cell (i:=1) rfl;have x2:=HXY.out.cell (i:=2) rfl;have x3:=HXY.out.cell (i:=3) rfl;obtain⟨c0,c1,c2,c3,c4,c5,c6⟩:=(Nn.out Y HUY.out).cells;simp only at c0 c1 c2 c3 c4 c5 c6;have hsp:=uV ⟨⟨dV,dW⟩,⟨dX,dY⟩,⟨fB,dH⟩,⟨eZ,dM⟩,⟨dQ,dR⟩⟩ C ⟨⟨eu,dN⟩,⟨eH,dL⟩,⟨fF,bY⟩⟩ s i Y (Nn.out Y HUY.out).con HSY.out.at;rw[(vC.out i hlt2).2.1]at hsp;simp only[CV.val,CV.cells,TV.val,TV.cells,ak.cells]at hsp;have KQ:=ah (hsp.mono (λ_ _ h=>h.ret));clear hsp;have Gf:=ah (vC.out i hlt2).1;have HRC:=ah ((vC.out i hlt2).2.2 (by rw[HHJ.out];rfl));have JZ:Hid (∀G:List ak,(∀x∈F2,x∈G)->C.next s i∈G->∀j,j<i+1->hidJ C P s j=true->C.next s j∈G):=λG h1 h2 j hj hh=>by
           by_cases e:j=i
           .rw[e];exact h2
           .exact h1 _ (HI2.out.2.2.2 j (by omega) hh)
          generalize C.next s i=s2 at KQ Gf HRC JZ;go_wp2_with (go_at_call 39;refine KQ.out.mono ?_;rintro e X ⟨Mi,Mj,Mk,Ml,Mq,Mr,rfl,yJ,yK,hbx⟩;refine Hid.out ?_);refine ah ?_;have HAX:=ah (HAY.out.below hbx);have HUX:=ah (HUY.out.on hbx);have qB:=ah (HMY.out.below hbx);have HZX:=ah (HZY.out.on hbx);have FC:Hid (Safe M v2.ownBlock X ⟨⟨eu,dN⟩,⟨eH,dL⟩,⟨fF,bY⟩⟩ s):=HSY.out.turn (aG.of_below hbx) (λq hq e=>by omega) (.inl rfl);have HS2:Hid (Safe M v2.ownBlock X ⟨⟨Mi,Mj⟩,⟨Mk,Ml⟩,⟨Mq,Mr⟩⟩ s2):=Safe.new yJ yK (λq hq=>by
           have:=HUY.out.size;rcases hq with hq|hq
           .exact(HAY.out.V8.own hq.symm).2.1
           .have:=(HMW.out q hq).1;omega)
          clear yJ yK hbx KQ HAY HUY HMY HZY HSY HXY x0 x1 x2 x3 c0 c1 c2 c3 c4 c5 c6;go_upto_region 21 with(fail)
          generalize hW3:World.alloc _ _=W3;obtain⟨hb3,hh3⟩:=bx1' hW3;have yR:Hid (Own W3 48 X.heap.size [.int .i64 s2.day,.slice Mi s2.aj.length Mj,.slice Mk s2.used.length Ml,.slice Mq s2.marks.length Mr]):=⟨[],by rw[bU];exact hh3⟩;have HA3:=ah (HAX.out.below hb3);have yI:=ah (HUX.out.on hb3);have Nj:=ah (qB.out.below hb3);have HZ3:=ah (HZX.out.on hb3);have Jt:Hid (Safe M v2.ownBlock W3 ⟨⟨eu,dN⟩,⟨eH,dL⟩,⟨fF,bY⟩⟩ s):=FC.out.turn (aG.of_below hb3) (λq hq e=>by omega) (.inl rfl);have HT3:Hid (Safe M v2.ownBlock W3 ⟨⟨Mi,Mj⟩,⟨Mk,Ml⟩,⟨Mq,Mr⟩⟩ s2):=HS2.out.turn (aG.of_below hb3) (λq hq e=>by omega) (.inl rfl);clear hW3 hb3 hh3 HAX HUX qB HZX FC HS2;have x0:=yR.out.cell (i:=0) rfl;have x1:=yR.out.cell (i:=1) rfl;have x2:=yR.out.cell (i:=2) rfl;have x3:=yR.out.cell (i:=3) rfl;have had:=Uh HA3.out ((JE.out bf).2 (.inr (.inl rfl))) ((JE.out cq).2 (.inr (.inr rfl))) yI.out.size ⟨⟨Mi,Mj⟩,⟨Mk,Ml⟩,⟨Mq,Mr⟩⟩ s2 HT3.out Gf.out.ranged (HTW.out W3 yI.out) (by omega);simp only[TV.val,TV.cells,ak.cells]at had;have HAD:=ah had;clear had;go_wp2_with (go_at_call 77;refine HAD.out.mono ?_;rintro e Y ⟨rfl,v3,hA,hu,hO⟩;refine Hid.out ?_);refine ah ?_;have hix:=HIX.out;have Vb:=HZ3.out.size;have hpos:∀q,q<W3.heap.size->(some q=v2.ownBlock\/q=bf\/q=cq)->Wm.heap.size<=q/\(q<wo.heap.size\/Z.heap.size<=q)\/q=bf\/q=cq:=λq hq h=>by
           rcases h with h|h
           .exact .inl ⟨(HA3.out.V8.own h.symm).1,EY.out q h.symm⟩
           .exact .inr h
          have ZV:Hid (aG M Wm Y):=yI.out.trans hu (λq hq h=>by
           rcases hpos q (by have:=yI.out.size;omega) h with h|h|h
           .omega
           .exact(JE.out q).2 (.inr (.inl h))
           .exact(JE.out q).2 (.inr (.inr h)))
          have HM4:Hid (dG C P Y bm (n+k*1000+i+1)):=Nj.out.keep hu (λh=>by
           rcases hpos bm (by have:=yI.out.size;omega) h with h|h|h<;>omega)
          have HZ4:Hid (aG (λq=>q<wo.heap.size\/Z.heap.size<=q) Z Y):=HZ3.out.trans hu (λq hq h=>by
           rcases hpos q (by omega) h with h|h|h
           .exact h.2
           .left;omega
           .left;omega)
          have HO4:Hid (∀q,v3.ownBlock=some q->q<wo.heap.size\/Z.heap.size<=q):=λq hq=>by
           rcases hO with h|h
           .rw[h]at hq;exact EY.out q hq
           .have:=h q hq;right;omega
          have HS4:Hid (Safe M v3.ownBlock Y ⟨⟨eu,dN⟩,⟨eH,dL⟩,⟨fF,bY⟩⟩ s):=Jt.out.turn hu (λq hq h=>by
           rcases h with h|h|h
           .exact .inl h
           .exact .inr ((JE.out q).2 (.inr (.inl h)))
           .exact .inr ((JE.out q).2 (.inr (.inr h)))) hO
          have HA4:=ah hA;have hml:=PU F2 s2;have uE:Hid (JInv C P l (jv F2 s2) k/\(∀x∈l,x∈jv F2 s2)/\(jv F2 s2)[k]?=some s/\∀j,j<i+1->hidJ C P s j=true->C.next s j∈jv F2 s2):=⟨HI2.out.1.meet (by omega) Gf.out HRC.out,λx hx=>g_.2 (.inl (HI2.out.2.1 x hx)),by rw[PS F2 s2 hk2];exact HI2.out.2.2.1,JZ.out _ (λx hx=>g_.2 (.inl hx)) (g_.2 (.inr rfl))⟩;clear hA hu hO hix Vb hpos HAD HA3 yI Nj HZ3 Jt HT3 yR x0 x1 x2 x3 JZ HI2 EY;generalize jv F2 s2=F4 at HA4 uE hml⊢;by_cases h3:F4.length<=300
          .rw[decide_eq_true h3]
           go_wp2
           go_roundg (C.acts.length - (i+1))
           case measure=>rw[Yf.out];omega
           case rel=>exact⟨i+1,F4,v3,rfl,by omega,by go_num,h3,by omega,HA4,uE,ZV,HM4.out.mono (by omega),HZ4,HO4,HS4⟩
          .rw[decide_eq_false h3]
           have HMY:Hid (qN C P l):=⟨F4,qY HA4.out.set.nodup,by omega,uE.out.1.reach⟩;go_wp2;try rw[Exit.noGoto_ret]
           go_ret2
           exact⟨[],none,0,3,rfl,HOLD.out Y ZV.out,HM4.out.mono (by omega),.inr ⟨rfl,rfl,rfl,rfl,HMY.out⟩⟩
       .obtain rfl:i=C.acts.length:=by omega
        have HID:Hid (JInv C P l F2 (k+1)/\∀x∈l,x∈F2):=⟨HI2.out.1.done HI2.out.2.2.1 (λ_ j hj hh=>HI2.out.2.2.2 j hj hh),HI2.out.2.1⟩;go_wp2
        go_roundg (301 - (k+1))
        case measure=>rw[iw.out];omega
        case rel=>exact⟨k+1,F2,v2,rfl,by omega,hF2,by go_num,HA,HID,HU,HM.out.mono (by omega)⟩
    .obtain rfl:k=F.length:=by omega
     obtain⟨A,c,hv,hN⟩:=HA.out.V8.ret;have q0:=HA.out.Sd.cell (i:=0) rfl;rw[hv]at q0;have m0:=HA.out.DX.cell (i:=0) rfl;have hls:=Sv (HA.out.set.Ug (λ_ _ h=>h.at)) (aU _) (by omega) (λs hs=>yD (HI.out.1.ok s hs).ranged);have YL:=ah hls;clear hls hN hv;go_wp2_with (go_at_call 79;refine YL.out.mono ?_;rintro e z ⟨R,RA,rc,rfl,hsn,hsr,hmm,hln,hbz⟩;have ZN:=ah hln;clear hln;refine Hid.out ?_);refine ah ?_;have HJC:Hid (yX C P l R):=HI.out.1.clo HI.out.2 hmm hsr (by have:=ZN.out;omega);have qD:=ah hsn;have Me:=ah (HU.out.on hbz);have HMz:=ah (HM.out.below hbz);clear hsn hsr hmm hbz;go_wp2
     go_ret2
     exact⟨R,RA,rc,0,rfl,HOLD.out z Me.out,HMz.out.mono (by omega),.inl ⟨rfl,qD.out,HJC.out⟩⟩
end
section
open Go.RowKit Go.Shelf Go.Sort Tryz
def au.oP(C:au)(P:List Int):Bool:=decide (1<=P.length)&&(decide (P.length<=12)&&P.all (λp=>decide (0<=p)&&decide (p<C.aF)))
theorem Zv{l:List Int}{k:Nat}{x:Int}(h:l[k]?=some x)(f:Int->Bool):(l.take (k+1)).all f=((l.take k).all f&&f x):=by
 rw[bT h];simp
theorem Uk{l:List Int}{x:Int}(h:x∈l){f:Int->Bool}(hf:f x=false):l.all f=false:=by
 rw[List.all_eq_false];exact⟨x,h,by rw[hf];simp⟩
theorem Wj(v:CV)(C:au)(A:Option Addr)(c:Nat)(P:List Int)(w:World)(hC:bO w v C)(hP:At w 1 A P.length c (aZ P)):Calls prog 47 #[v.val C,.slice A P.length c] w (dZ (.bool (C.oP P)) w):=by
 obtain⟨⟨dV,dW⟩,⟨dX,dY⟩,⟨fB,dH⟩,⟨eZ,dM⟩,⟨dQ,dR⟩⟩:=v;have HP:=ah hP;clear hP;clear hC;simp only[CV.val,CV.cells];obtain⟨E,hE⟩:∃E,E=C.oP P:=⟨_,rfl⟩;rw[<-hE];have HE:=ah hE;clear hE;go_enter func47,ntmps47;go_upto_region 1 with(fail)
 generalize hW0:World.alloc _ _=W0;obtain⟨HB0,h0⟩:=bx1 hW0;have c0:W0.cell? ⟨w.heap.size,0,none⟩=some (.int .i64 C.aF):=(aK W0 _ 0 _ _ _ h0).trans rfl;clear hW0 h0;by_cases h1:P.length<1
 .obtain rfl:E=false:=by rw[HE.out,au.oP,decide_eq_false (by omega)];rfl
  have q1:(P.length:Int)<1:=by omega
  go_wp2;go_ret;exact⟨rfl,HB0.out⟩
 by_cases h2:12<P.length
 .obtain rfl:E=false:=by rw[HE.out,au.oP,decide_eq_false (show¬P.length<=12 by omega),Bool.false_and,Bool.and_false]
  have q1:¬(P.length:Int)<1:=by omega
  have q2:(12:Int)<(P.length:Int):=by omega
  go_wp2;go_ret;exact⟨rfl,HB0.out⟩
 have HE2:Hid (E=P.all (λp=>decide (0<=p)&&decide (p<C.aF))):=by show _=_;rw[HE.out,au.oP,decide_eq_true (by omega),decide_eq_true (by omega)];rfl
 have q1:¬(P.length:Int)<1:=by omega
 have q2:¬(12:Int)<(P.length:Int):=by omega
 have hp9:P.length<=9223372036854775807:=by omega
 go_wp2
 go_loopg [17] P.length (λgk v17 wr=>∃k:Nat,gk=P.length - k/\k<=P.length/\v17= .int .i64 k/\Hid ((P.take k).all (λp=>decide (0<=p)&&decide (p<C.aF))=true)/\wr=W0)
 case atStart=>exact⟨0,rfl,aU _,rfl,rfl,rfl⟩
 case round=>
  obtain⟨k,eO,hk,rfl,HA,rfl⟩:=hrel;have iw:=ah eO;clear eO;by_cases hlt:k<P.length
  .obtain⟨x,hx⟩:∃x,P[k]?=some x:=⟨_,aS hlt⟩
   obtain⟨pb,po,hA,hbl,hcl⟩:=(HP.out.below (by omega) HB0.out).1.form (by omega) (by omega);subst hA;have x0:wr.cell? ⟨pb,po+k,none⟩=some (.int .i64 x):=(hcl k (by omega)).trans (ig hx);have HAS:=ah (Zv hx (λp=>decide (0<=p)&&decide (p<C.aF)));have k0:(k:Int)<(P.length:Int):=by omega
   have k1:(0:Int)<=(k:Int):=by omega
   have HXM:=ah (cK hx);clear hcl hx;by_cases h3:x<0
   .obtain rfl:E=false:=by rw[HE2.out];exact Uk HXM.out (by simp;omega)
    go_wp2;try rw[Exit.noGoto_ret]
    go_ret;exact⟨rfl,HB0.out⟩
   .by_cases h4:C.aF<=x
    .obtain rfl:E=false:=by rw[HE2.out];exact Uk HXM.out (by simp;omega)
     go_wp2;try rw[Exit.noGoto_ret]
     go_ret;exact⟨rfl,HB0.out⟩
    .have HAN:Hid ((P.take (k+1)).all (λp=>decide (0<=p)&&decide (p<C.aF))=true):=by show _=_;rw[HAS.out,HA.out];simp;omega
     go_wp2
     go_roundg (P.length - (k+1))
     case measure=>rw[iw.out];omega
     case rel=>exact⟨k+1,rfl,by omega,by go_num,HAN,rfl⟩
  .obtain rfl:k=P.length:=by omega
   obtain rfl:E=true:=by rw[HE2.out,<-HA.out,iG]
   go_wp2;go_ret;exact⟨rfl,HB0.out⟩
def yY(C:au)(P:List Int)(x:Int)(s:ak):Bool:=(!decide (C.days<=s.day))&&((x== -1)||C.sight P s x.toNat)
def ko(C:au)(P:List Int)(x:Int)(b:List ak)(k:Nat):List ak:=((b.take k).filter (yY C P x)).map (λs=>C.next s x)
def au.gT(C:au)(P:List Int)(x:Int)(b:List ak):List ak:=(b.filter (yY C P x)).map (λs=>C.next s x)
theorem Kh{C:au}{P:List Int}{x:Int}{b:List ak}{k:Nat}{s:ak}(h:b[k]?=some s):ko C P x b (k+1)=ko C P x b k++cond (yY C P x s) [C.next s x] []:=by
 unfold ko;rw[take_snoc' h,List.filter_append,pG];cases hf:yY C P x s<;>simp[hf]
theorem MS(C:au)(P:List Int)(x:Int)(b:List ak):ko C P x b b.length=C.gT P x b:=by
 unfold ko au.gT;rw[iG]
theorem CO(C:au)(P:List Int)(x:Int)(b:List ak)(k:Nat):(ko C P x b k).length<=b.length:=by
 unfold ko;rw[dU];exact bI (List.length_filter_le _ _) (by rw[pz];omega)
theorem Wn{C:au}{P:List Int}{x:Int}{b:List ak}(hx:C.jS x)(hb:∀s∈b,aV C s):∀s∈C.gT P x b,aV C s:=by
 intro s hs;unfold au.gT at hs;obtain⟨s0,h0,rfl⟩:=cZ.1 hs;obtain⟨h1,h2⟩:=List.mem_filter.1 h0;unfold yY at h2;simp only[bS,jk,decide_eq_false_iff_not]at h2;exact(rO hx (hb s0 h1) (by omega)).2
def D5(C:au)(P:List Int)(x:Int)(b r:List ak):Prop:=C.jS x/\C.gT P x b≠[]/\yX C P (C.gT P x b) r
def sH(C:au)(P:List Int)(x:Int)(b:List ak)(er:Int):Prop:=(er=1/\¬C.jS x)\/(C.jS x/\((er=13/\C.gT P x b=[])\/(er=3/\qN C P (C.gT P x b))))
def Sw(C:au)(P:List Int)(x:Int)(b:List ak)(bm n:Nat)(w:World)(e:Ending)(w':World):Prop:=
 ∃(r:List ak)(A:Option Addr)(c:Nat)(er:Int),e= .returned (.tuple #[.slice A r.length c,.int .i64 er])/\aG (λk=>k=bm) w w'/\dG C P w' bm (n+2000000)/\
  ((er=0/\aW 0 w' ⟨A,c⟩ r/\D5 C P x b r)\/(er≠0/\A=none/\c=0/\r=[]/\sH C P x b er))
theorem d_.below{M:Nat->Prop}{B:Nat}{w w':World}{v:Value}{R:List ak}(h:d_ M B w v R)(hb:Below w.heap.size w w'):d_ M B w' v R:=
 h.keep (aG.of_below hb) (λk hk e=>by omega) (λg hg e=>by have:=(h.own hg).2.1;omega)
end
section
open Go.RowKit Go.Shelf Go.Sort Tryz
theorem d_.Bd{M S:Nat->Prop}{B:Nat}{w w':World}{v:Value}{R:List ak}(h:d_ M B w v R)(hu:aG S w w')(hS:∀k,S k->eY w k/\M k):d_ M B w' v R:=
 h.keep hu (λk _ e=>(hS k e).2) (λg hg e=>by
  obtain⟨_,_,cs,hc⟩:=h.own hg;obtain⟨es,c,hm⟩:=(hS _ e).1;rw[hc]at hm;cases hm)
theorem Sy(v:CV)(C:au)(P:List Int){bc bk bp bm n:Nat}(sl:SV)(b:List ak)(x:Int)(w:World)(hC:bO w v C)(hL:aW 0 w sl b)(hO:∀s∈b,aV C s)(hT:Tab w)(hl:b.length<=1000)(hs:pq C P w bc bk bp bm n)(hn:n<=80000000000):
 Calls prog 50 #[v.val C,.slice sl.A b.length sl.c,.int .i64 x,wm bc bk bp] w (Sw C P x b bm n w):=by
 have hax:C.acts.length<=9223372036854775807:=nZ hC.acts;obtain⟨⟨dV,dW⟩,⟨dX,dY⟩,⟨fB,dH⟩,⟨eZ,dM⟩,⟨dQ,dR⟩⟩:=v;obtain⟨slA,slc⟩:=sl;have Eh:eY w bm:=hs.memo.blk;have hblt:bm<w.heap.size:=by obtain⟨es,c,h⟩:=Eh;exact aB h
 have wX:Hid (∀k,k=bm->eY w k):=λk hk=>by rw[hk];exact Eh
 clear Eh;have HC:=ah hC;clear hC;have HL:=ah hL;clear hL;have HO:=ah hO;clear hO;have HT:=ah hT;clear hT;have HS:=ah hs;clear hs;have HN:=ah hn;clear hn;simp only[CV.val,CV.cells];unfold wm;go_enter func50,ntmps50;go_upto_region 1 with(fail)
 generalize hW0:World.alloc _ _=W0;obtain⟨HB0,h0⟩:=bx1 hW0;have HX0:Hid (Own W0 27 w.heap.size [.int .i64 C.aF,.slice dV C.aj.length dW,.slice dX C.units.length dY,.slice fB C.acts.length dH,.slice eZ C.clauses.length dM,.int .i64 C.days,.slice dQ C.off.length dR]):=⟨[],by rw[bU];exact h0⟩;clear hW0;have hw0:w.heap.size<W0.heap.size:=aB h0;have HOLD:Hid (∀W,aG (λk=>k=bm) W0 W->aG (λk=>k=bm) w W):=λW hu=>((aG.of_below HB0.out).mono (λi hi hle=>by omega)).trans hu (λ_ _ h=>h);have Nn:Hid (∀W,aG (λk=>k=bm) W0 W->wh W w.heap.size (⟨⟨dV,dW⟩,⟨dX,dY⟩,⟨fB,dH⟩,⟨eZ,dM⟩,⟨dQ,dR⟩⟩:CV) C):=λW hu=>⟨HC.out.upd (HOLD.out W hu) wX.out,HX0.out.keep hu (by omega)⟩;have HTW:Hid (∀W,aG (λk=>k=bm) W0 W->Tab W):=λW hu=>HT.out.upd (HOLD.out W hu) wX.out;have YP:Hid (dG C P W0 bm n):=HS.out.memo.below HB0.out;have c3:=HX0.out.cell (i:=3) rfl;clear h0;by_cases hX:C.jS x
 case neg=>
  have hx1:¬x= -1:=λe=>hX (.inl e);have hx2:(x != -1)=true:=by simpa using hx1
  have HER:Hid (sH C P x b 1):=.inl ⟨rfl,hX⟩;by_cases h3:x<0
  .go_wp2
   go_ret2
   exact⟨[],none,0,1,rfl,HOLD.out W0 (aG.refl _ _),YP.out.mono (by omega),.inr ⟨by omega,rfl,rfl,rfl,HER.out⟩⟩
  .have h4:(C.acts.length:Int)<=x:=by
    apply Classical.byContradiction;intro h;exact hX (.inr ⟨by omega,by omega⟩)
   go_wp2
   go_ret2
   exact⟨[],none,0,1,rfl,HOLD.out W0 (aG.refl _ _),YP.out.mono (by omega),.inr ⟨by omega,rfl,rfl,rfl,HER.out⟩⟩
 case pos=>
 have ZM:=ah hX;clear hX;go_cut [27] (λc wx=>c= .bool false/\wx=W0)
 case first=>
  rcases ZM.out with rfl|⟨h1,h2⟩
  .go_wp2
   go_meet
   exact⟨rfl,rfl⟩
  .have hx2:(x != -1)=true:=by simp;omega
   have h3:¬x<0:=by omega
   have h4:¬(C.acts.length:Int)<=x:=by omega
   go_wp2
   go_meet
   exact⟨rfl,rfl⟩
 case rest=>
 obtain⟨rfl,e⟩:=hcut;rw[e];clear e;have hb9:b.length<=9223372036854775807:=by omega
 go_wp2
 go_loopg [30,10] b.length (λgk v30 v10 wr=>∃k:Nat,gk=b.length - k/\k<=b.length/\v30= .int .i64 k/\Hid (d_ (λq=>q=bm) W0.heap.size wr v10 (ko C P x b k))/\Hid (aG (λk=>k=bm) W0 wr)/\Hid (dG C P wr bm (n+k)))
 case atStart=>exact⟨0,rfl,aU _,rfl,d_.nil _ _ _,aG.refl _ _,YP⟩
 case round=>
  obtain⟨k,eO,hk,rfl,HQ,HU,HM⟩:=hrel;have iw:=ah eO;clear eO;clear c3 YP;by_cases hlt:k<b.length
  .obtain⟨s,hs⟩:∃s,b[k]?=some s:=⟨_,aS hlt⟩
   have Zu:=ah (HOLD.out wr HU.out);obtain⟨g,off,hA,hg,hcl⟩:=HL.out.form (by omega);simp only at hA;subst hA;obtain⟨⟨⟨eu,dN⟩,⟨eH,dL⟩,⟨fF,bY⟩⟩,⟨hst,_⟩,hcells⟩:=hcl k s hs;obtain⟨e0,e1,e2,e3⟩:=rw4 (hcells w (aC _ _)) rfl;have uZ:=ah (HO.out s (cK hs));have d0:=Zu.out.fQ wX.out e0;have d1:=Zu.out.fQ wX.out e1;have d2:=Zu.out.fQ wX.out e2;have d3:=Zu.out.fQ wX.out e3;have HNS:=ah (Kh (C:=C) (P:=P) (x:=x) hs);have hnl:=CO C P x b k;generalize ko C P x b k=R at HQ HNS hnl;have HST:=ah hst;have i0:(0:Int)<=(k:Int):=by omega
   have i1:(k:Int)<(b.length:Int):=by omega
   clear e0 e1 e2 e3 hcells hcl hst hs hg Zu;go_upto_region 7 with(fail)
   generalize hW1:World.alloc _ _=W1;obtain⟨hb1,gG⟩:=bx1' hW1;have q9:Hid (Own W1 48 wr.heap.size [.int .i64 s.day,.slice eu s.aj.length dN,.slice eH s.used.length dL,.slice fF s.marks.length bY]):=⟨[],by rw[bU];exact gG⟩;have xq:=ah (HQ.out.below hb1);have zQ:=ah (HU.out.on hb1);have Nk:=ah (HM.out.below hb1);clear hW1 hb1 gG d0 d1 d2 d3 HQ HU HM;have x0:=q9.out.cell (i:=0) rfl;have x1:=q9.out.cell (i:=1) rfl;have x2:=q9.out.cell (i:=2) rfl;have x3:=q9.out.cell (i:=3) rfl;have c5:=(Nn.out W1 zQ.out).Fw.cell (i:=5) rfl;obtain⟨fb,HFB⟩:∃fb,Hid (yY C P x s=fb):=⟨_,rfl⟩;go_cut [49] (λc wx=>c= .bool (!fb)/\Hid (aG (λq=>q=bm) W1 wx)/\Hid (dG C P wx bm (n+(k+1))))
   case first=>
    by_cases hd:C.days<=s.day
    .obtain rfl:fb=false:=by rw[<-HFB.out,yY,decide_eq_true hd];rfl
     go_wp2
     go_meet
     exact⟨rfl,aG.refl _ _,Nk.out.mono (by omega)⟩
    .rcases ZM.out with rfl|⟨h1,h2⟩
     .obtain rfl:fb=true:=by rw[<-HFB.out,yY,decide_eq_false hd];rfl
      go_wp2
      go_meet
      exact⟨rfl,aG.refl _ _,Nk.out.mono (by omega)⟩
     .obtain⟨i,rfl⟩:∃i:Nat,x=i:=⟨x.toNat,by omega⟩
      have hx2:((i:Int)!= -1)=true:=by simp
      have HFC:Hid (C.sight P s i=fb):=by
       show _=_;rw[<-HFB.out,yY,decide_eq_false hd,show((i:Int)== -1)=false by simp];rfl
      have hsg:=I_ (HS.out.turn (HOLD.out W1 zQ.out) wX.out Nk.out) (by have:=HN.out;omega) ⟨⟨eu,dN⟩,⟨eH,dL⟩,⟨fF,bY⟩⟩ s (HST.out.upd (HOLD.out W1 zQ.out) wX.out) uZ.out (i:=i) (by omega);simp only[TV.val,TV.cells,ak.cells]at hsg;have Mh:=ah hsg;clear hsg;go_wp2_with (go_at_call 75;refine Mh.out.mono ?_;rintro e Y ⟨rfl,hm,hu⟩;refine Hid.out ?_);refine ah ?_;have Bo:=ah hm;have vD:=ah hu;clear hm hu;rw[HFC.out];go_wp2
      go_meet
      exact⟨rfl,vD,Bo⟩
   case rest=>
   obtain⟨rfl,vD,Bo⟩:=hcut;have hnb:∀q,q=bm->eY W1 q:=λq hq=>by rw[hq];exact Nk.out.blk
   have yI:Hid (aG (λk=>k=bm) W0 wc):=zQ.out.trans vD.out (λ_ _ h=>h);have Bf:=ah (q9.out.Bd vD.out hnb);have F8:=ah (xq.out.Bd vD.out (λq hq=>⟨hnb q hq,hq⟩));have MU:=ah (HST.out.upd (HOLD.out wc yI.out) wX.out);clear hnb vD zQ Nk q9 xq x0 x1 x2 x3 c5;cases fb with
   |false=>
    have HQN:Hid (d_ (λq=>q=bm) W0.heap.size wc u10 (ko C P x b (k+1))):=by
     show d_ _ _ _ _ _;rw[HNS.out,HFB.out,cond_false,bU];exact F8.out
    go_wp2
    go_roundg (b.length - (k+1))
    case measure=>rw[iw.out];omega
    case rel=>exact⟨k+1,rfl,by omega,by go_num,HQN,yI,Bo⟩
   |true=>
    have hd:s.day<C.days:=by
     have h:=HFB.out;unfold yY at h;simp only[bS,jk,decide_eq_false_iff_not]at h;omega
    obtain⟨ah5,_⟩:=rO ZM.out uZ.out hd;have hsp:=uV ⟨⟨dV,dW⟩,⟨dX,dY⟩,⟨fB,dH⟩,⟨eZ,dM⟩,⟨dQ,dR⟩⟩ C ⟨⟨eu,dN⟩,⟨eH,dL⟩,⟨fF,bY⟩⟩ s x wc (Nn.out wc yI.out).con MU.out;rw[ah5]at hsp;simp only[CV.val,CV.cells,TV.val,TV.cells,ak.cells]at hsp;have KQ:=ah (hsp.mono (λ_ _ h=>h.ret));clear hsp ah5 hd;have ah6:Hid (ko C P x b (k+1)=R++[C.next s x]):=by show _=_;rw[HNS.out,HFB.out];rfl
    generalize C.next s x=s2 at KQ ah6;have x0:=Bf.out.cell (i:=0) rfl;have x1:=Bf.out.cell (i:=1) rfl;have x2:=Bf.out.cell (i:=2) rfl;have x3:=Bf.out.cell (i:=3) rfl;obtain⟨c0,c1,c2,c3,c4,c5,c6⟩:=(Nn.out wc yI.out).cells;simp only at c0 c1 c2 c3 c4 c5 c6;go_wp2_with (go_at_call 39;refine KQ.out.mono ?_;rintro e X ⟨Mi,Mj,Mk,Ml,Mq,Mr,rfl,yJ,yK,hbx⟩;refine Hid.out ?_);refine ah ?_;have HQX:=ah (F8.out.below hbx);have HUX:=ah (yI.out.on hbx);have qB:=ah (Bo.out.below hbx);have HS2:Hid (Safe (λq=>q=bm) u10.ownBlock X ⟨⟨Mi,Mj⟩,⟨Mk,Ml⟩,⟨Mq,Mr⟩⟩ s2):=Safe.new yJ yK (λq hq=>by
     have:=yI.out.size;rcases hq with hq|hq
     .exact(F8.out.own hq.symm).2.1
     .omega)
    clear yJ yK hbx KQ F8 yI Bo Bf MU x0 x1 x2 x3 c0 c1 c2 c3 c4 c5 c6;go_upto_region 9 with(fail)
    generalize hW3:World.alloc _ _=W3;obtain⟨hb3,hh3⟩:=bx1' hW3;have yR:Hid (Own W3 48 X.heap.size [.int .i64 s2.day,.slice Mi s2.aj.length Mj,.slice Mk s2.used.length Ml,.slice Mq s2.marks.length Mr]):=⟨[],by rw[bU];exact hh3⟩;have JA:=ah (HQX.out.below hb3);have yI:=ah (HUX.out.on hb3);have Nj:=ah (qB.out.below hb3);have HT3:Hid (Safe (λq=>q=bm) u10.ownBlock W3 ⟨⟨Mi,Mj⟩,⟨Mk,Ml⟩,⟨Mq,Mr⟩⟩ s2):=HS2.out.turn (aG.of_below hb3) (λq hq e=>by omega) (.inl rfl);have Vb:=yI.out.size;clear hW3 hb3 hh3 HQX HUX qB HS2;have x0:=yR.out.cell (i:=0) rfl;have x1:=yR.out.cell (i:=1) rfl;have x2:=yR.out.cell (i:=2) rfl;have x3:=yR.out.cell (i:=3) rfl;go_wp2_with (at_builtin;refine p8 rfl _ _ rfl W0.heap.size u10 R rfl JA.out ⟨⟨Mi,Mj⟩,⟨Mk,Ml⟩,⟨Mq,Mr⟩⟩ s2 HT3.out _ rfl rfl (by omega) Vb ?_;intro A3 c3 W5 hq5 hu5 ho5;refine Hid.out ?_);refine ah ?_;have HQ5:Hid (d_ (λq=>q=bm) W0.heap.size W5 (.slice A3 (R.length+1) c3) (ko C P x b (k+1))):=by
     show d_ _ _ _ _ _;rw[ah6.out];rw[show(R++[s2]).length=R.length+1 by simp]at hq5;exact hq5
    have zG:Hid (aG (λq=>q=bm) W0 W5):=yI.out.trans hu5 (λq hq e=>by have:=(JA.out.own e.symm).1;omega);have VL:Hid (dG C P W5 bm (n+(k+1))):=Nj.out.keep hu5 (λe=>by have:=(JA.out.own e.symm).1;omega);clear hq5 hu5 ho5 x0 x1 x2 x3 yR JA yI Nj HT3;go_wp2
    go_roundg (b.length - (k+1))
    case measure=>rw[iw.out];omega
    case rel=>exact⟨k+1,rfl,by omega,by go_num,HQ5,zG,VL⟩
  .obtain rfl:k=b.length:=by omega
   have hnl:=CO C P x b b.length;rw[MS]at HQ hnl;have FL:=ah (Wn (P:=P) ZM.out HO.out);have HJA:Hid (∀r,C.gT P x b≠[]->yX C P (C.gT P x b) r->D5 C P x b r):=λr h1 h2=>⟨ZM.out,h1,h2⟩;have HJE:Hid (∀er:Int,(er=13/\C.gT P x b=[])\/(er=3/\qN C P (C.gT P x b))->sH C P x b er):=λer h=>.inr ⟨ZM.out,h⟩;generalize C.gT P x b=NX at HQ hnl FL HJA HJE;obtain⟨A,c,hv,hN⟩:=HQ.out.ret;subst hv;have Jy:=ah hN;clear hN;by_cases h0:NX=[]
   .have al0:=ah (HJE.out 13 (.inl ⟨rfl,h0⟩))
    subst h0;go_wp2
    go_ret2
    exact⟨[],none,0,13,rfl,HOLD.out wr HU.out,HM.out.mono (by omega),.inr ⟨by omega,rfl,rfl,rfl,al0.out⟩⟩
   .have q0:((NX.length:Int)==0)=false:=by
     have:=List.length_pos_iff.2 h0;simp;omega
    obtain⟨c0,c1,c2,c3,c4,c5,c6⟩:=(Nn.out wr HU.out).cells;simp only at c0 c1 c2 c3 c4 c5 c6;have hcl:=CK ⟨⟨dV,dW⟩,⟨dX,dY⟩,⟨fB,dH⟩,⟨eZ,dM⟩,⟨dQ,dR⟩⟩ C P ⟨A,c⟩ NX wr (Nn.out wr HU.out).con Jy.out FL.out (HTW.out wr HU.out) (by omega) (HS.out.turn (HOLD.out wr HU.out) wX.out HM.out) (by have:=HN.out;omega);simp only[CV.val,CV.cells,wm]at hcl;have Nc:=ah hcl;clear hcl;go_wp2_with (go_at_call 49;refine Nc.out.mono ?_;rintro e z ⟨r,A2,c2,er,rfl,hu,hm,hcase⟩;refine Hid.out ?_);refine ah ?_;have HUF:Hid (aG (λq=>q=bm) w z):=(HOLD.out wr HU.out).trans hu (λ_ _ h=>h);have O7:Hid (dG C P z bm (n+2000000)):=hm.mono (by omega);have HCS:=ah hcase;clear hu hm hcase;go_wp2
    go_ret2
    refine⟨r,A2,c2,er,rfl,HUF.out,O7.out,?_⟩;rcases HCS.out with⟨rfl,h1,h2⟩|⟨rfl,rfl,rfl,rfl,h2⟩
    .exact .inl ⟨rfl,h1,HJA.out r h0 h2⟩
    .exact .inr ⟨by omega,rfl,rfl,rfl,HJE.out 3 (.inr ⟨rfl,h2⟩)⟩
end
section
open Go.RowKit Go.Shelf Go.Sort Tryz
inductive jT (C:au) (P:List Int) (r0:List ak):List Int->List ak->Prop
 |nil:jT C P r0 [] r0
 |snoc {l:List Int} {r r':List ak} {x:Int}:jT C P r0 l r->D5 C P x r r'->jT C P r0 (l++[x]) r'
def Sz(C:au)(P:List Int)(r0:List ak)(V:List Int)(r:List ak)(er:Int):Prop:=
 (er=0/\jT C P r0 V r)\/(er≠0/\r=[]/\∃(k:Nat)(r1:List ak)(x:Int),V[k]?=some x/\jT C P r0 (V.take k) r1/\sH C P x r1 er)
def Bh(C:au)(P V:List Int)(r:List ak)(er:Int):Prop:=
 (er=1/\r=[]/\¬(C.valid=true/\C.oP P=true))\/(C.valid=true/\C.oP P=true/\((er=3/\r=[]/\qN C P [C.first])\/∃r0,yX C P [C.first] r0/\((er=3/\r=[]/\4000<V.length)\/(V.length<=4000/\Sz C P r0 V r er))))
def Zx(C:au)(P V:List Int)(w:World)(e:Ending)(w':World):Prop:=
 ∃(r:List ak)(A:Option Addr)(c:Nat)(er:Int),e= .returned (.tuple #[.slice A r.length c,.int .i64 er])/\Below w.heap.size w w'/\aW 0 w' ⟨A,c⟩ r/\Bh C P V r er
theorem aW.Wo(w:World):aW 0 w ⟨none,0⟩ []:=⟨λ_ _ _=>aU _,[],rfl,⟨⟨rfl,by simp,λh=>absurd h (by simp)⟩,λ_=>⟨rfl,rfl⟩,bJ _,aU _⟩,λi s t hs=>by simp at hs⟩
theorem pq.below{C:au}{P:List Int}{w w':World}{bc bk bp bm n:Nat}(h:pq C P w bc bk bp bm n)(hb:Below w.heap.size w w'):pq C P w' bc bk bp bm n:=by
 obtain⟨⟨v,h1⟩,h2,⟨A,c,h3,h4⟩,h5⟩:=h;exact⟨⟨v,h1.below hb⟩,h2.below hb,⟨A,c,h3.below hb,h4.below (by omega) hb⟩,h5.below hb⟩
theorem EN(v:CV)(C:au)(pA:Option Addr)(pc:Nat)(P:List Int)(vA:Option Addr)(vc:Nat)(V:List Int)(w:World)(hC:bO w v C)(hP:At w 1 pA P.length pc (aZ P))(hV:At w 1 vA V.length vc (aZ V))(hT:Tab w):
 Calls prog 23 #[v.val C,.slice pA P.length pc,.slice vA V.length vc] w (Zx C P V w):=by
 have hvx:V.length<=9223372036854775807:=nZ hV;obtain⟨⟨dV,dW⟩,⟨dX,dY⟩,⟨fB,dH⟩,⟨eZ,dM⟩,⟨dQ,dR⟩⟩:=v;have HC:=ah hC;clear hC;have HP:=ah hP;clear hP;have HV:=ah hV;clear hV;have HT:=ah hT;clear hT;simp only[CV.val,CV.cells];go_enter func23,ntmps23;go_upto_region 1 with(fail)
 generalize hW0:World.alloc _ _=W0;obtain⟨HB0,h0⟩:=bx1 hW0;have HX0:Hid (wh W0 w.heap.size ⟨⟨dV,dW⟩,⟨dX,dY⟩,⟨fB,dH⟩,⟨eZ,dM⟩,⟨dQ,dR⟩⟩ C):=⟨HC.out.below HB0.out,⟨[],by rw[bU];exact h0⟩⟩;clear hW0 h0 HC;obtain⟨c0,c1,c2,c3,c4,c5,c6⟩:=HX0.out.cells;simp only at c0 c1 c2 c3 c4 c5 c6;have hbe:=DI (⟨⟨dV,dW⟩,⟨dX,dY⟩,⟨fB,dH⟩,⟨eZ,dM⟩,⟨dQ,dR⟩⟩:CV) C W0 HX0.out.con;simp only[CV.val,CV.cells]at hbe;cases q1:C.valid with
 |false=>
  have Ui:Hid (Bh C P V [] 1):=.inl ⟨rfl,rfl,λh=>by rw[q1]at h;cases h.1⟩;have yL:Hid (Calls prog 38 #[.agg #[.int .i64 C.aF,.slice dV C.aj.length dW,.slice dX C.units.length dY,.slice fB C.acts.length dH,.slice eZ C.clauses.length dM,.int .i64 C.days,.slice dQ C.off.length dR]] W0 (dZ (.tuple #[.agg #[.int .i64 0,.slice none 0 0,.slice none 0 0,.slice none 0 0],.int .i64 1]) W0)):=by
   rw[q1]at hbe;refine hbe.mono ?_;rintro e w' ⟨hb,⟨h0,_⟩|⟨_,rfl⟩⟩
   .cases h0
   .exact⟨rfl,hb⟩
  clear hbe;go_wp2_with (go_at_call 38;refine yL.out.mono ?_;rintro e z ⟨rfl,hz⟩;refine Hid.out ?_);refine ah ?_;have Zk:Hid (RowKit.Below w.heap.size w z):=av HB0.out hz;clear hz yL HX0 c0 c1 c2 c3 c4 c5 c6;go_upto_region 2 with(fail)
  generalize hW1:World.alloc _ _=W1;obtain⟨hb1,_⟩:=bx1' hW1;have HB1:Hid (RowKit.Below w.heap.size w W1):=av Zk.out hb1;clear hW1 hb1;go_wp2
  go_ret2
  exact⟨[],none,0,1,rfl,HB1.out,aW.Wo _,Ui.out⟩
 |true=>
  have yL:Hid (Calls prog 38 #[.agg #[.int .i64 C.aF,.slice dV C.aj.length dW,.slice dX C.units.length dY,.slice fB C.acts.length dH,.slice eZ C.clauses.length dM,.int .i64 C.days,.slice dQ C.off.length dR]] W0 (uX C.first W0)):=by
   rw[q1]at hbe;exact hbe.mono (λ_ _ h=>h.ret)
  clear hbe;have xq:=ah q1;have Q0:=ah (yj q1);clear q1;have HFE:Hid (∃s1,C.first=s1):=⟨_,rfl⟩;generalize hs1:C.first=s1 at yL Q0;have vG:=ah hs1;clear hs1 HFE;go_wp2_with (go_at_call 38;refine yL.out.mono ?_;rintro e z ⟨eu,dN,eH,dL,fF,bY,rfl,hst,_,hz⟩;refine Hid.out ?_);refine ah ?_;have Zk:Hid (RowKit.Below w.heap.size w z):=av HB0.out hz;have HXz:=ah (HX0.out.below hz);have HST:=ah hst;clear hst hz yL HX0 c0 c1 c2 c3 c4 c5 c6;go_upto_region 2 with(fail)
  generalize hW1:World.alloc _ _=W1;obtain⟨hb1,gG⟩:=bx1' hW1;have Jr:Hid (Own W1 48 z.heap.size [.int .i64 s1.day,.slice eu s1.aj.length dN,.slice eH s1.used.length dL,.slice fF s1.marks.length bY]):=⟨[],by rw[bU];exact gG⟩;have HB1:Hid (RowKit.Below w.heap.size w W1):=av Zk.out hb1;have q9:=ah (HXz.out.below hb1);have aaT:=ah (HST.out.below hb1);clear hW1 hb1 gG HXz HST Zk;obtain⟨c0,c1,c2,c3,c4,c5,c6⟩:=q9.out.cells;simp only at c0 c1 c2 c3 c4 c5 c6;have hgr:=Wj (⟨⟨dV,dW⟩,⟨dX,dY⟩,⟨fB,dH⟩,⟨eZ,dM⟩,⟨dQ,dR⟩⟩:CV) C pA pc P W1 q9.out.con (HP.out.below (by omega) HB1.out);simp only[CV.val,CV.cells]at hgr;obtain⟨gq,hgq⟩:∃g,C.oP P=g:=⟨_,rfl⟩;rw[hgq]at hgr;have HGR:=ah hgr;clear hgr;have HGQ:=ah hgq;clear hgq;go_wp2_with (go_at_call 47;refine HGR.out.mono ?_;rintro e z2 ⟨rfl,hz⟩;refine Hid.out ?_);refine ah ?_;have HB2:Hid (RowKit.Below w.heap.size w z2):=av HB1.out hz;have Bf:=ah (q9.out.below hz);have QZ:=ah (Jr.out.below hz);have MU:=ah (aaT.out.below hz);clear hz HGR q9 Jr aaT HB1 c0 c1 c2 c3 c4 c5 c6;cases gq with
  |false=>
   have Ui:Hid (Bh C P V [] 1):=.inl ⟨rfl,rfl,λh=>by rw[HGQ.out]at h;cases h.2⟩;go_wp2
   go_ret2
   exact⟨[],none,0,1,rfl,HB2.out,aW.Wo _,Ui.out⟩
  |true=>
   obtain⟨c0,c1,c2,c3,c4,c5,c6⟩:=Bf.out.cells;simp only at c0 c1 c2 c3 c4 c5 c6;have hsi:=V7 (⟨⟨dV,dW⟩,⟨dX,dY⟩,⟨fB,dH⟩,⟨eZ,dM⟩,⟨dQ,dR⟩⟩:CV) C pA pc P z2 Bf.out.con (HP.out.below (by omega) HB2.out);simp only[CV.val,CV.cells]at hsi;have HSI:=ah hsi;clear hsi;go_wp2_with (go_at_call 48;refine HSI.out.mono ?_;rintro e Z ⟨bc,bk,bp,bm,rfl,hsa,hz,Eh⟩;refine Hid.out ?_);refine ah ?_;have HB3:Hid (RowKit.Below w.heap.size w Z):=av HB2.out hz;have yR:=ah (Bf.out.below hz);have HF3:=ah (QZ.out.below hz);have ah7:=ah (MU.out.below hz);have Nh:=ah hsa;have aqT:w.heap.size<=bm:=bI HB2.out.size Eh;clear hz hsa Eh HSI Bf QZ MU c0 c1 c2 c3 c4 c5 c6;obtain⟨c0,c1,c2,c3,c4,c5,c6⟩:=yR.out.cells;simp only at c0 c1 c2 c3 c4 c5 c6;have x0:=HF3.out.cell (i:=0) rfl;have x1:=HF3.out.cell (i:=1) rfl;have x2:=HF3.out.cell (i:=2) rfl;have x3:=HF3.out.cell (i:=3) rfl;obtain⟨Zw,Nl⟩:∃Zw,Hid (Zw=Z.alloc (.cells #[.int .i64 s1.day,.slice eu s1.aj.length dN,.slice eH s1.used.length dL,.slice fF s1.marks.length bY] 48)):=⟨_,rfl⟩;have hbz:RowKit.Below Z.heap.size Z Zw:=by rw[Nl.out];exact aJ (aC _ _) _
   have Ci:Hid (RowKit.Below w.heap.size w Zw):=av HB3.out hbz;have Zm:=ah (yR.out.below hbz);have HS4:=ah (Nh.out.below hbz);have wX:Hid (∀q,q=bm->eY Zw q):=λq hq=>by rw[hq];exact HS4.out.memo.blk
   have hcl:Calls prog 49 #[.agg #[.int .i64 C.aF,.slice dV C.aj.length dW,.slice dX C.units.length dY,.slice fB C.acts.length dH,.slice eZ C.clauses.length dM,.int .i64 C.days,.slice dQ C.off.length dR],.slice (some ⟨Z.heap.size,0,none⟩) 1 1,wm bc bk bp] Zw (PV C P [s1] bm 0 Zw):=
    CK (⟨⟨dV,dW⟩,⟨dX,dY⟩,⟨fB,dH⟩,⟨eZ,dM⟩,⟨dQ,dR⟩⟩:CV) C P ⟨some ⟨Z.heap.size,0,none⟩,1⟩ [s1] Zw Zm.out.con
     (aW.one (t:=⟨⟨eu,dN⟩,⟨eH,dL⟩,⟨fF,bY⟩⟩) (by rw[Nl.out];exact bK Z _) (ah7.out.below hbz) (Zj _) (aU _)) (λs hs=>by rw[eB]at hs;rw[hs];exact Q0.out) (HT.out.below Ci.out) (by simp) HS4.out (by omega)
   rw[Nl.out]at hcl;unfold wm at hcl⊢;have Nc:=ah hcl;clear hcl;go_wp2_with (go_at_call 49;refine Nc.out.mono ?_;rintro e z ⟨r0,A,c,er,rfl,hu,hm,hcase⟩;refine Hid.out ?_);refine ah ?_;rw[<-Nl.out]at hu;have Me:=ah hu;have HMz:=ah hm;have Rj:Hid (∀W,aG (λq=>q=bm) Zw W->RowKit.Below w.heap.size w W):=λW hW=>Ci.out.trans (hW.below Ci.out.size (λk hk=>by omega));have Nn:Hid (∀W,aG (λq=>q=bm) Zw W->wh W w.heap.size (⟨⟨dV,dW⟩,⟨dX,dY⟩,⟨fB,dH⟩,⟨eZ,dM⟩,⟨dQ,dR⟩⟩:CV) C):=λW hW=>Zm.out.Bd hW wX.out;have HTW:Hid (∀W,aG (λq=>q=bm) Zw W->Tab W):=λW hW=>(HT.out.below Ci.out).upd hW wX.out;have HVW:Hid (∀W,aG (λq=>q=bm) Zw W->At W 1 vA V.length vc (aZ V)):=λW hW=>(HV.out.below (by omega) Ci.out).upd (by omega) hW wX.out;clear hu hm hbz Nc Zm yR HF3 ah7 Nh HB3 x0 x1 x2 x3 c0 c1 c2 c3 c4 c5 c6;rcases hcase with⟨rfl,hsn,hjc⟩|⟨rfl,rfl,rfl,rfl,yM⟩
   case inr=>
    have Ui:Hid (Bh C P V [] 3):=.inr ⟨xq.out,HGQ.out,.inl ⟨rfl,rfl,by rw[vG.out];exact yM⟩⟩;clear yM;go_wp2
    go_ret2
    exact⟨[],none,0,3,rfl,Rj.out z Me.out,aW.Wo _,Ui.out⟩
   case inl=>
    have qD:=ah hsn;have HJC:Hid (yX C P [C.first] r0):=by rw[vG.out];exact hjc
    clear hsn hjc;by_cases h4:4000<V.length
    .have Ui:Hid (Bh C P V [] 3):=.inr ⟨xq.out,HGQ.out,.inr ⟨r0,HJC.out,.inl ⟨rfl,rfl,h4⟩⟩⟩
     have h5:(4000:Int)<(V.length:Int):=by omega
     go_wp2
     go_ret2
     exact⟨[],none,0,3,rfl,Rj.out z Me.out,aW.Wo _,Ui.out⟩
    .have h5:¬(4000:Int)<(V.length:Int):=by omega
     have HJW:Hid (∀r er,Sz C P r0 V r er->Bh C P V r er):=λr er h=>.inr ⟨xq.out,HGQ.out,.inr ⟨r0,HJC.out,.inr ⟨by omega,h⟩⟩⟩;go_wp2
     go_loopg [46,11] V.length (λgk v46 v11 wr=>∃(k:Nat)(r:List ak)(A:Option Addr)(c:Nat),gk=V.length - k/\k<=V.length/\v46= .int .i64 k/\v11= .slice A r.length c/\Hid (aW 0 wr ⟨A,c⟩ r)/\Hid (jT C P r0 (V.take k) r)/\Hid (∀s∈r,aV C s)/\r.length<=300/\Hid (aG (λq=>q=bm) Zw wr)/\Hid (dG C P wr bm (1000000+k*2000000)))
     case atStart=>exact⟨0,r0,A,c,rfl,aU _,rfl,rfl,qD,.nil,HJC.out.ok,HJC.out.few,Me,HMz⟩
     case round=>
      obtain⟨k,r,A,c,eO,hk,rfl,rfl,HN,HJ,HO,hr3,HU,HM⟩:=hrel;have iw:=ah eO;clear eO;clear qD Me HMz;by_cases hlt:k<V.length
      .obtain⟨x,hx⟩:∃x,V[k]?=some x:=⟨_,aS hlt⟩
       obtain⟨vb,vo,hA,hbl,hvl⟩:=(HVW.out wr HU.out).1.form (by omega) (by omega);subst hA;have x0:wr.cell? ⟨vb,vo+k,none⟩=some (.int .i64 x):=(hvl k (by omega)).trans (ig hx);have HXV:=ah hx;have HTK:=ah (bT hx);have k0:(0:Int)<=(k:Int):=by omega
       have k1:(k:Int)<(V.length:Int):=by omega
       obtain⟨c0,c1,c2,c3,c4,c5,c6⟩:=(Nn.out wr HU.out).cells;simp only at c0 c1 c2 c3 c4 c5 c6;have haf:=Sy (⟨⟨dV,dW⟩,⟨dX,dY⟩,⟨fB,dH⟩,⟨eZ,dM⟩,⟨dQ,dR⟩⟩:CV) C P ⟨A,c⟩ r x wr (Nn.out wr HU.out).con HN.out HO.out (HTW.out wr HU.out) (by omega) (HS4.out.turn HU.out wX.out HM.out) (by omega);simp only[CV.val,CV.cells,wm]at haf;have HAF:=ah haf;clear haf;clear hx hvl;go_wp2_with (go_at_call 50;refine HAF.out.mono ?_;rintro e Y ⟨r',A',c',er,rfl,hu,hm,hcase⟩;refine Hid.out ?_);refine ah ?_;have HUY:Hid (aG (λq=>q=bm) Zw Y):=HU.out.trans hu (λ_ _ h=>h);have HMY:Hid (dG C P Y bm (1000000+(k+1)*2000000)):=hm.mono (by omega);clear hu hm HAF HU HM c0 c1 c2 c3 c4 c5 c6 x0;rcases hcase with⟨rfl,hsn,hja⟩|⟨hne,rfl,rfl,rfl,hje⟩
       .have qD:=ah hsn
        have HJN:Hid (jT C P r0 (V.take (k+1)) r'):=by show jT _ _ _ _ _;rw[HTK.out];exact .snoc HJ.out hja
        have ZU:=ah hja.2.2.ok;have al2:=hja.2.2.few;clear hsn hja;go_wp2
        go_roundg (V.length - (k+1))
        case measure=>rw[iw.out];omega
        case rel=>exact⟨k+1,r',A',c',rfl,by omega,by go_num,rfl,qD,HJN,ZU,al2,HUY,HMY⟩
       .have Ui:=ah (HJW.out [] er (.inr ⟨hne,rfl,k,r,x,HXV.out,HJ.out,hje⟩))
        have hq:(er !=0)=true:=by simpa using hne
        clear hje hne;go_wp2;try rw[Exit.noGoto_ret]
        go_ret2
        exact⟨[],none,0,er,rfl,Rj.out Y HUY.out,aW.Wo _,Ui.out⟩
      .obtain rfl:k=V.length:=by omega
       rw[iG]at HJ;have Ui:=ah (HJW.out r 0 (.inl ⟨rfl,HJ.out⟩));go_wp2
       go_ret2
       exact⟨r,A,c,0,rfl,Rj.out wr HU.out,HN.out,Ui.out⟩
end
section
open Go.RowKit Go.Shelf Tryz
def al3:aP:=⟨1,0,0,1,[],1,0,false,true, -1, -1,⟨0,1⟩, -1, -1,false⟩
def gU:au:=⟨3,[0,1,2],[],[⟨1,0,0,1, -1,⟨0,1⟩⟩],[al3],2,[]⟩
theorem MV(w:World):Calls prog 29 #[] w (aeu gU w):=by
 go_enter func29,ntmps29;go_wp2;generalize hW0:World.alloc _ _=W0;obtain⟨HB,hh0,_,qd,hh3,Qh⟩:=bx5 hW0;clear hW0;have o0:Own W0 27 w.heap.size [.int .i64 3,.slice (some ⟨w.heap.size+1+1,0,none⟩) 3 3,.slice none 0 0,.slice (some ⟨w.heap.size+1+1+1,0,none⟩) 1 1,.slice (some ⟨w.heap.size+1+1+1+1,0,none⟩) 1 1,.int .i64 2,.slice none 0 0]:=⟨[],by rw[bU];exact hh0⟩;have g0:=o0.cell (i:=0) rfl;have g1:=o0.cell (i:=1) rfl;have g2:=o0.cell (i:=2) rfl;have g3:=o0.cell (i:=3) rfl;have g4:=o0.cell (i:=4) rfl;have g5:=o0.cell (i:=5) rfl;have g6:=o0.cell (i:=6) rfl;refine bodyPost_ret (v:=.agg #[.int .i64 3,.slice (some ⟨w.heap.size+1+1,0,none⟩) 3 3,.slice none 0 0,.slice (some ⟨w.heap.size+1+1+1,0,none⟩) 1 1,.slice (some ⟨w.heap.size+1+1+1+1,0,none⟩) 1 1,.int .i64 2,.slice none 0 0]) (by simp[results,results29,go_sem,g0,g1,g2,g3,g4,g5,g6]) rfl ⟨_,_,_,_,_,_,_,_,_,_,rfl,?_,HB.out⟩;refine⟨?_,gD _ _,?_,?_,gD _ _⟩
 .exact vZ qd rfl (by decide) (by unfold maxLen;decide)
 .exact vZ hh3 rfl (by decide) (by unfold maxLen;decide)
 .refine⟨[⟨none,0⟩],rfl,?_,?_⟩
  .exact vZ Qh rfl (by decide) (by unfold maxLen;decide)
  .intro i k st hk hst
   cases i with
   |zero=>
    simp[gU]at hk hst;subst hk hst;exact gD _ _
   |succ i=>simp[gU]at hk
end
section
open Go.RowKit Go.Shelf Tryz
section
variable {C:au} {P:List Int} {l S r:List ak}
theorem qG.sub(h0:∀s∈l,s∈S)(h1:∀s∈S,s.day<C.days->∀i,i<C.acts.length->hidJ C P s i=true->C.next s i∈S){s:ak}(h:qG C P l s):s∈S:=by
 induction h with
 |base hs=>exact h0 _ hs
 |step _ hd hi hx ih=>exact h1 _ ih hd _ hi hx
theorem wu{F S:List ak}(hn:F.Nodup)(hs:∀s∈F,s∈S):F.length<=S.length:=by
 induction F generalizing S with
 |nil=>exact aU _
 |cons a F ih=>
  obtain⟨S1,S2,rfl⟩:=List.append_of_mem (hs a (List.mem_cons_self));rw[List.nodup_cons]at hn;have h1:=ih (S:=S1++S2) hn.2 (λs hs'=>by
   have h2:=hs s (kG _ hs');rw[jU,dx]at h2;rw[jU];rcases h2 with h2|rfl|h2
   .exact .inl h2
   .exact absurd hs' hn.1
   .exact .inr h2)
  simp only[mU,gV]at h1⊢;omega
theorem yX.nodup(h:yX C P l r):r.Nodup:=by
 have h1:=h.sorted;rw[List.pairwise_map]at h1;refine h1.imp ?_;intro a b hlt e;subst e;exact absurd hlt (List.lt_irrefl _)
theorem qN.not(h0:∀s∈l,s∈S)(h1:∀s∈S,s.day<C.days->∀i,i<C.acts.length->hidJ C P s i=true->C.next s i∈S)(hl:S.length<=300):¬qN C P l:=by
 rintro⟨F,hn,h3,hr⟩;have:=wu hn (λs hs=>(hr s hs).sub h0 h1);omega
theorem yX.same(h:yX C P l r)(h0:∀s∈l,s∈S)(h1:∀s∈S,s.day<C.days->∀i,i<C.acts.length->hidJ C P s i=true->C.next s i∈S)(h2:∀s∈S,s∈r)(hn:S.Nodup):r.Perm S:=
 (List.perm_ext_iff_of_nodup h.nodup hn).2 (λs=>⟨λhs=>(h.reach s hs).sub h0 h1,h2 s⟩)
end
theorem Zy{a:ak}{r:List ak}(h:r.Perm [a]):r=[a]:=List.perm_singleton.1 h
theorem PW{a b:ak}{r:List ak}(h:r.Perm [a,b]):r=[a,b]\/r=[b,a]:=by
 have hl:=h.length_eq
 match r,hl with
 |[x,y],_=>
  have hx:=h.mem_iff (a:=x);have hy:=h.mem_iff (a:=y);simp only[dx,iQ,or_false,true_or,or_true,true_iff]at hx hy;rcases hx with rfl|rfl
  .have:=(List.perm_cons x).1 h
   exact .inl (by rw[List.perm_singleton.1 this])
  .have h2:[x,y].Perm [x,a]:=h.trans (List.Perm.swap _ _ _)
   have:=(List.perm_cons x).1 h2;exact .inr (by rw[List.perm_singleton.1 this])
def Fx:ak:=gU.first
def PX:ak:=gU.next Fx 0
def SE:ak:=gU.next Fx (-1)
def Ul:ak:=gU.next PX (-1)
theorem Zz:gU.valid=true:=by kernel_rfl
theorem ah8:Fx≠PX:=λe=>by
 have h:(Fx.marks.map (λm=>m.status))=(PX.marks.map (λm=>m.status)):=by rw[e]
 exact absurd h (by decide)
theorem aeI:SE≠Ul:=λe=>by
 have h:(SE.marks.map (λm=>m.status))=(Ul.marks.map (λm=>m.status)):=by rw[e]
 exact absurd h (by decide)
theorem MW:gU.jS (-1):=.inl rfl
theorem Um:gU.jS 0:=.inr ⟨by decide,by decide⟩
def Calm(P:List Int)(s:ak):Prop:=∀i,i<gU.acts.length->hidJ gU P s i=false
theorem FY{P:List Int}{s:ak}(h:hidJ gU P s 0=false):Calm P s:=λi hi=>by
 have:i=0:=by have h:gU.acts.length=1:=rfl;omega
 rw[this];exact h
theorem tQ{P:List Int}{S:List ak}(h:∀s∈S,Calm P s):∀s∈S,s.day<gU.days->∀i,i<gU.acts.length->hidJ gU P s i=true->gU.next s i∈S:=λs hs _ i hi hh=>by
 rw[h s hs i hi]at hh;cases hh
theorem PY{P:List Int}{a:ak}{r:List ak}(h:yX gU P [a] r)(ha:hidJ gU P a 0=false):r=[a]:=
 Zy (h.same (λ_ h=>h) (tQ (λs hs=>by rw[eB.1 hs];exact FY ha)) h.has (by simp))
theorem Un{P:List Int}{x:Int}{b N:List ak}{S:List ak}(hN:gU.gT P x b=N)(hx:gU.jS x)(hn:N≠[])(hS:∀s∈N,s∈S)(hc:∀s∈S,hidJ gU P s 0=false)(hl:S.length<=300){er:Int}:¬sH gU P x b er:=by
 subst hN;rintro(⟨_,h⟩|⟨_,⟨_,h⟩|⟨_,h⟩⟩)
 .exact h hx
 .exact hn h
 .exact qN.not hS (tQ (λs hs=>FY (hc s hs))) hl h
theorem Jc{P:List Int}{x:Int}{b:List ak}{a:ak}(hN:gU.gT P x b=[a])(hx:gU.jS x)(hc:hidJ gU P a 0=false){er:Int}:¬sH gU P x b er:=
 Un (S:=[a]) hN hx (by simp) (λ_ h=>h) (λs hs=>by rw[eB.1 hs];exact hc) (by simp)
theorem D6{P:List Int}{x:Int}{b r:List ak}{a:ak}(h:D5 gU P x b r)(hN:gU.gT P x b=[a])(hc:hidJ gU P a 0=false):r=[a]:=by
 have h2:=h.2.2;rw[hN]at h2;exact PY h2 hc
theorem Uo{P:List Int}{r:List ak}(hP:hidJ gU P Fx 0=false)(h:yX gU P [gU.first] r):r=[Fx]:=PY (a:=Fx) h hP
theorem Jd:∀s∈[Fx,PX],s.day<gU.days->∀i,i<gU.acts.length->hidJ gU [2] s i=true->gU.next s i∈[Fx,PX]:=by
 intro s hs _ i hi hh;have:i=0:=by have h:gU.acts.length=1:=rfl;omega
 subst this;simp only[dx,iQ,or_false]at hs;rcases hs with rfl|rfl
 .exact kG _ (eB.2 rfl)
 .exact absurd hh (by decide+kernel)
theorem Uq{r:List ak}(h:yX gU [2] [gU.first] r):r=[Fx,PX]\/r=[PX,Fx]:=by
 have h0:Fx∈r:=h.has Fx (eB.2 rfl);have hS:PX∈r:=h.closed Fx h0 (by decide) 0 (by decide) (by decide+kernel);refine PW (h.same (S:=[Fx,PX]) (λs hs=>by rw[eB]at hs;rw[hs];exact List.mem_cons_self) Jd (λs hs=>?_) (by simp[ah8]));simp only[dx,iQ,or_false]at hs;rcases hs with rfl|rfl
 .exact h0
 .exact hS
theorem PZ:¬qN gU [2] [gU.first]:=qN.not (S:=[Fx,PX]) (λs hs=>by rw[eB]at hs;rw[hs];exact List.mem_cons_self) Jd (by decide)
theorem Ur{P:List Int}(hP:hidJ gU P Fx 0=false):¬qN gU P [gU.first]:=qN.not (S:=[Fx]) (λ_ h=>h) (tQ (λs hs=>by rw[eB.1 hs];exact FY hP)) (by decide)
theorem jT.tT{C:au}{P:List Int}{r0 r:List ak}(h:jT C P r0 [] r):r=r0:=by
 generalize hl:([]:List Int)=l at h;cases h with
 |nil=>rfl
 |snoc=>simp at hl
theorem jT.yZ{C:au}{P:List Int}{r0 r:List ak}{l:List Int}{x:Int}(h:jT C P r0 (l++[x]) r):∃r1,jT C P r0 l r1/\D5 C P x r1 r:=by
 generalize hl:l++[x]=m at h;cases h with
 |nil=>simp at hl
 |snoc h1 h2=>
  obtain⟨rfl,e⟩:=List.append_inj' hl rfl;injection e with e
  subst e;exact⟨_,h1,h2⟩
theorem FZ{P V:List Int}{r:List ak}{er:Int}(h:Bh gU P V r er)(hg:gU.oP P=true)(hm:¬qN gU P [gU.first])(hV:V.length<=4000):∃r0,yX gU P [gU.first] r0/\Sz gU P r0 V r er:=by
 rcases h with⟨_,_,h⟩|⟨_,_,⟨_,_,h⟩|⟨r0,h0,⟨_,_,h⟩|⟨_,h⟩⟩⟩
 .exact absurd ⟨Zz,hg⟩ h
 .exact absurd h hm
 .omega
 .exact⟨r0,h0,h⟩
theorem acu:gU.gT [2,1] (-1) [Fx]=[SE]:=by kernel_rfl
theorem acv:gU.gT [1,2] 0 [Fx]=[PX]:=by kernel_rfl
theorem acw:gU.gT [1,2] (-1) [PX]=[Ul]:=by kernel_rfl
theorem ah9:gU.gT [2] (-1) [Fx,PX]=[SE,Ul]:=by kernel_rfl
theorem ah_:gU.gT [2] (-1) [PX,Fx]=[Ul,SE]:=by kernel_rfl
theorem aia:gU.gT [2] 0 [Fx,PX]=[]:=by kernel_rfl
theorem aib:gU.gT [2] 0 [PX,Fx]=[]:=by kernel_rfl
theorem aeJ{r:List ak}{er:Int}(h:Bh gU [2] [-1] r er):er=0/\(r=[SE,Ul]\/r=[Ul,SE]):=by
 obtain⟨r0,h0,hw⟩:=FZ h (by decide+kernel) PZ (by decide);clear h;have hn:∀s,s∈gU.gT [2] (-1) r0↔s∈[SE,Ul]:=by
  rcases Uq h0 with rfl|rfl
  .intro s;rw[ah9]
  .intro s
   rw[ah_];simp only[dx,iQ,or_false];exact or_comm
 have hc:∀s∈[SE,Ul],hidJ gU [2] s 0=false:=by
  intro s hs;simp only[dx,iQ,or_false]at hs;rcases hs with rfl|rfl<;>decide+kernel
 rcases hw with⟨rfl,h⟩|⟨_,_,k,r1,x,hk,hs,he⟩
 .refine⟨rfl,?_⟩
  obtain⟨r1,h1,_,_,h2⟩:=jT.yZ (l:=[]) h;rw[h1.tT]at h2;exact PW (h2.same (S:=[SE,Ul]) (λs hs=>(hn s).1 hs) (tQ (λs hs=>FY (hc s hs))) (λs hs=>h2.has s ((hn s).2 hs)) (by simp[aeI]))
 .match k,hk,hs with
  |0,hk,hs=>
   simp at hk;subst hk;rw[hs.tT]at he;refine absurd he (Un rfl MW (λe=>?_) (λs hs=>(hn s).1 hs) hc (by decide));have:=(hn SE).2 (List.mem_cons_self);rw[e]at this;cases this
  |k+1,hk,_=>simp at hk
theorem aeK{r:List ak}{er:Int}(h:Bh gU [2,1] [-1] r er):er=0/\r=[SE]:=by
 obtain⟨r0,h0,hw⟩:=FZ h (by decide+kernel) (Ur (by decide+kernel)) (by decide);clear h;obtain rfl:=Uo (by decide+kernel) h0;rcases hw with⟨rfl,h⟩|⟨_,_,k,r1,x,hk,hs,he⟩
 .refine⟨rfl,?_⟩
  obtain⟨r1,h1,h2⟩:=jT.yZ (l:=[]) h;rw[h1.tT]at h2;exact D6 h2 acu (by decide+kernel)
 .match k,hk,hs with
  |0,hk,hs=>
   simp at hk;subst hk;rw[hs.tT]at he;exact absurd he (Jc acu MW (by decide+kernel))
  |k+1,hk,_=>simp at hk
theorem aeL{r:List ak}{er:Int}(h:Bh gU [1,2] [0, -1] r er):er=0/\r=[Ul]:=by
 obtain⟨r0,h0,hw⟩:=FZ h (by decide+kernel) (Ur (by decide+kernel)) (by decide);clear h;obtain rfl:=Uo (by decide+kernel) h0;have one:∀r1,jT gU [1,2] [Fx] [0] r1->r1=[PX]:=λr1 h=>by
  obtain⟨r1,h1,h2⟩:=jT.yZ (l:=[]) h;rw[h1.tT]at h2;exact D6 h2 acv (by decide+kernel)
 rcases hw with⟨rfl,h⟩|⟨_,_,k,r1,x,hk,hs,he⟩
 .refine⟨rfl,?_⟩
  obtain⟨r1,h1,h2⟩:=jT.yZ (l:=[0]) h;rw[one _ h1]at h2;exact D6 h2 acw (by decide+kernel)
 .match k,hk,hs with
  |0,hk,hs=>
   simp at hk;subst hk;rw[hs.tT]at he;exact absurd he (Jc acv Um (by decide+kernel))
  |1,hk,hs=>
   simp at hk;subst hk;rw[one _ hs]at he;exact absurd he (Jc acw MW (by decide+kernel))
  |k+2,hk,_=>simp at hk
theorem aeM{r:List ak}{er:Int}(h:Bh gU [2] [0] r er):er=13:=by
 obtain⟨r0,h0,hw⟩:=FZ h (by decide+kernel) PZ (by decide);clear h;have hn:gU.gT [2] 0 r0=[]:=by
  rcases Uq h0 with rfl|rfl
  .exact aia
  .exact aib
 rcases hw with⟨rfl,h⟩|⟨_,_,k,r1,x,hk,hs,he⟩
 .obtain⟨r1,h1,_,h2,_⟩:=jT.yZ (l:=[]) h
  rw[h1.tT]at h2;exact absurd hn h2
 .match k,hk,hs with
  |0,hk,hs=>
   simp at hk;subst hk;rw[hs.tT]at he;rcases he with⟨_,h⟩|⟨_,⟨h,_⟩|⟨_,h⟩⟩
   .exact absurd Um h
   .exact h
   .rw[hn]at h
    exact absurd h (qN.not (S:=[]) (λ_ h=>h) (λs hs=>by cases hs) (by decide))
  |k+1,hk,_=>simp at hk
def ejE:bR:=⟨0,[],[]⟩
def WT:bR:=⟨1,[⟨1,0,0,1,0,false⟩],[]⟩
def ejX:bR:=⟨0,[⟨1,0,0,0,0,false⟩],[]⟩
def ZX:List ay:=[⟨1,0,0,1,0,false⟩]
def ZY:List ay:=[⟨1,0,0,0,0,false⟩]
theorem CP{L:List ay}{T:List ay}(hs:Ad L)(hF:dI L=T)(hl:∀t∈T,t.low<=t.high)(hd:∀x∈T,∀y∈T,x.ref=y.ref->x=y):tY L [] T []:=by
 subst hF;exact⟨hs,⟨List.Pairwise.nil,λ_=>Iff.rfl⟩,⟨rfl,λf hf t ht e=>by rw[hd f hf t ht e];omega,λf hf t ht e=>by rw[hd f hf t ht e];omega,λb hb=>(by cases hb),λb hb=>(by cases hb),λm h _=>h,λm h _=>h⟩,hl⟩
theorem zK(L:List ay):xK L []:=λb hb=>by cases hb
theorem MX{fs:List bR}{V:List Int}{er:Int}{T:List ay}{Y L:List (List Int)}(h:jC gU fs 1 V er)(hA:O9 gU fs)(hO:bE fs=[])(hf:tY (aM fs) [] T [])(hT:tY T [] T [])(hok:∀f0,fs[0]?=some f0->gN gU ⟨f0.house,T,[]⟩=true)(hY:rC T [] 1 Y)(hl:Y.length<=400)(hL:qL (Y.map (λD=>gY T D 1))=L)(h4:∀l∈L,l.length<=4000):
 er=0/\V=tO 1 (L.map gU.zW):=by
 obtain⟨ho,F,O,e1,hj,h⟩:=h;rcases hj with⟨_,_,_,_,hj⟩|⟨_,f0,hf0,hj⟩
 .exact absurd hA hj
 rw[hO]at hj;rcases hj with⟨he1,hho,hj⟩|⟨_,_,_,_,hj⟩
 .obtain⟨rfl,rfl⟩:=hj.unique hf (zK _)
  subst hho;rcases h with⟨h0,_⟩|⟨_,L2,e2,hc,h⟩
  .exact absurd he1 h0
  .have hc2:e2=0/\L2=L:=by
    rcases hc with⟨_,_,hc⟩|⟨_,_,_,⟨_,_,hc⟩|⟨T2,OO,Y2,hf2,hy2,hc⟩⟩
    .exact absurd ⟨hok f0 hf0,by omega,by decide⟩ hc
    .exact absurd hc (hT.Td (zK _))
    .obtain⟨rfl,rfl⟩:=hf2.unique hT (zK _)
     obtain rfl:=hy2.unique hY;rcases hc with⟨_,_,hc⟩|⟨h1,_,h2⟩
     .omega
     .exact⟨h1,by rw[h2,hL]⟩
   obtain⟨rfl,rfl⟩:=hc2;rcases h with⟨h0,_⟩|⟨_,⟨_,_,l,hl1,hl2⟩|⟨_,h1,h2⟩⟩
   .exact absurd rfl h0
   .have:=h4 l hl1;omega
   .exact⟨h1,h2⟩
 .exact absurd hj (hf.Td (zK _))
theorem aeN{V:List Int}{er:Int}(h:jC gU [ejE] 1 V er):er=0/\V=[3]:=by
 have hf:tY [] [] [] []:=CP (λx hx=>by cases hx) rfl (λt ht=>by cases ht) (λx hx=>by cases hx);obtain⟨h1,h2⟩:=MX (T:=[]) (Y:=[[]]) (L:=[[-1]]) h ⟨by simp,λf hf=>by rw[eB.1 hf];decide+kernel⟩ rfl hf hf (λf0 h0=>by simp at h0;rw[<-h0];decide+kernel) ⟨by simp,λd=>⟨λh=>⟨λ_=>0,eB.1 h,by simp,by simp,by simp⟩,λ⟨day,h,_⟩=>eB.2 h⟩⟩ (by simp) (by decide+kernel) (by simp);exact⟨h1,h2.trans (by decide+kernel)⟩
theorem MZ(x:ay):∀y∈[x],∀z∈[x],y.ref=z.ref->y=z:=λy hy z hz _=>by rw[eB.1 hy,eB.1 hz]
theorem aeO{V:List Int}{er:Int}(h:jC gU [WT] 1 V er):er=0/\V=[0]:=by
 have hf:tY ZX [] ZX []:=CP (λx hx y hy e=>by rw[eB.1 hx,eB.1 hy]) (by decide+kernel) (by simp[ZX]) (MZ _);obtain⟨h1,h2⟩:=MX (T:=ZX) (Y:=[[0],[1]]) (L:=[[0, -1],[-1]]) h ⟨by simp,λf hf=>by rw[eB.1 hf];decide+kernel⟩ rfl hf hf (λf0 h0=>by simp at h0;rw[<-h0];decide+kernel) ⟨by simp[lexLt],λd=>⟨λh=>by
  simp only[dx,iQ,or_false]at h;rcases h with rfl|rfl
  .exact⟨λ_=>0,rfl,⟨(by simp[ZX];try omega),(by simp[ZX];try omega),by simp⟩⟩
  .exact⟨λ_=>1,rfl,⟨(by simp[ZX];try omega),(by simp[ZX];try omega),by simp⟩⟩,λ⟨day,h,h1,h2,h3⟩=>by
  subst h;simp[ZX]at h1 h2;simp only[qh,ZX,kN,List.map_nil,dx,iQ,or_false,List.cons.injEq,and_true];omega⟩⟩ (by simp) (by decide+kernel) (by simp)
 exact⟨h1,h2.trans (by decide+kernel)⟩
theorem aeP{V:List Int}{er:Int}(h:jC gU [WT,ejX] 1 V er):er=0/\V=[1]:=by
 have hf:tY (aM [WT,ejX]) [] ZY []:=CP (λx hx y hy e=>by
  simp[aM,WT,ejX]at hx hy;rcases hx with rfl|rfl<;>rcases hy with rfl|rfl<;>rfl) (by decide+kernel) (by simp[ZY]) (MZ _)
 have hT:tY ZY [] ZY []:=CP (λx hx y hy e=>by rw[eB.1 hx,eB.1 hy]) (by decide+kernel) (by simp[ZY]) (MZ _);obtain⟨h1,h2⟩:=MX (T:=ZY) (Y:=[[0]]) (L:=[[0, -1]]) h ⟨by simp,λf hf=>by
  simp only[dx,iQ,or_false]at hf;rcases hf with rfl|rfl<;>decide+kernel⟩ rfl hf hT (λf0 h0=>by simp at h0;rw[<-h0];decide+kernel) ⟨by simp,λd=>⟨λh=>by
  rw[eB.1 h];exact⟨λ_=>0,rfl,⟨(by simp[ZY];omega),(by simp[ZY];omega),by simp⟩⟩,λ⟨day,h,h1,h2,h3⟩=>by
  subst h;simp[ZY]at h1 h2;simp only[qh,ZY,kN,List.map_nil,dx,iQ,or_false,List.cons.injEq,and_true];omega⟩⟩ (by simp) (by decide+kernel) (by simp)
 exact⟨h1,h2.trans (by decide+kernel)⟩
end
section
open Go.RowKit Go.Shelf Tryz
def Stat(W:World)(b o:Nat)(x:Int):Prop:=
 ∃(mb mo mc:Nat),∀z:Bl W,z.val.cell? ⟨b,o+3,none⟩=some (.slice (some ⟨mb,mo,none⟩) 1 mc)/\z.val.cell? ⟨mb,mo,none⟩=some (.int .i64 x)
theorem Stat.below{W W':World}{b o:Nat}{x:Int}(h:Stat W b o x)(hb:Below W.heap.size W W'):Stat W' b o x:=by
 obtain⟨mb,mo,mc,h⟩:=h;exact⟨mb,mo,mc,λz=>h ⟨z.val,av hb z.prop⟩⟩
theorem aW.stats{W:World}{v:SV}{l:List ak}(h:aW 0 W v l)(hl:0<l.length):
 ∃b off,v.A=some ⟨b,off,none⟩/\∀(i:Nat)(s:ak)(x:Int),l[i]?=some s->s.marks.map (λm=>m.status)=[x]->Stat W b (off+i*4) x:=by
 obtain⟨b,off,hA,_,hc⟩:=h.form hl;refine⟨b,off,hA,λi s x hs hx=>?_⟩;obtain⟨t,⟨ht,_⟩,hcell⟩:=hc i s hs;have hlen:s.marks.length=1:=by
  have:=congrArg List.length hx
  rwa [dU]at this
 obtain⟨mb,mo,Jp,hmb,hmc⟩:=ht.marks.1.form (by omega) (by omega);refine⟨mb,mo,t.m.c,λz=>⟨?_,?_⟩⟩
 .rw[hcell z.val z.prop 3 (by omega)]
  simp only[TV.cells,ak.cells,Jp,hlen];rfl
 .rw[z.prop.cell (p:=⟨mb,mo,none⟩) hmb]
  have h0:=hmc 0 (by omega);rw[kP]at h0;rw[h0];generalize s.marks=ms at hx
  match ms,hx with
  |[m],hx=>
   injection hx with hx
   subst hx;rfl
theorem CQ{l:List Int}:∀u∈aZ l,u.oneCell'=true:=λu hu=>by
 obtain⟨x,_,rfl⟩:=cZ.1 hu;rfl
theorem zL{W:World}{v:CV}(hC:bO W v gU)(hT:Tab W)(P V:List Int)(hP:P.length<=9)(hV:V.length<=9):
 Calls prog 23 #[v.val gU,.slice (some ⟨W.heap.size,0,none⟩) P.length P.length,.slice (some ⟨W.heap.size+1,0,none⟩) V.length V.length] ((W.alloc (.cells (aZ P).toArray 3)).alloc (.cells (aZ V).toArray 3))
  (λe w'=>∃(r:List ak)(A:Option Addr)(c:Nat)(er:Int),e= .returned (.tuple #[.slice A r.length c,.int .i64 er])/\Below W.heap.size W w'/\aW 0 w' ⟨A,c⟩ r/\Bh gU P V r er):=by
 generalize hW2:World.alloc _ _=W2;obtain⟨HB,h0,h1⟩:=F5 hW2;refine(EN v gU _ _ P _ _ V W2 (hC.below HB.out) (vZ h0 (by simp[aZ]) CQ (by unfold maxLen;omega)) (vZ h1 (by simp[aZ]) CQ (by unfold maxLen;omega)) (hT.below HB.out)).mono ?_;rintro e w' ⟨r,A,c,er,rfl,hb,hN,hj⟩;exact⟨r,A,c,er,rfl,av HB.out hb,hN,hj⟩
theorem Je:SE.marks.map (λm=>m.status)=[4]:=by decide+kernel
theorem Jf:Ul.marks.map (λm=>m.status)=[3]:=by decide+kernel
def abx(W:World)(e:Ending)(w':World):Prop:=
 ∃(b o c:Nat)(x y:Int),e= .returned (.tuple #[.slice (some ⟨b,o,none⟩) 2 c,.int .i64 0])/\Below W.heap.size W w'/\Stat w' b o x/\Stat w' b (o+4) y/\((x=4/\y=3)\/(x=3/\y=4))
def M0(x:Int)(W:World)(e:Ending)(w':World):Prop:=
 ∃(b o c:Nat),e= .returned (.tuple #[.slice (some ⟨b,o,none⟩) 1 c,.int .i64 0])/\Below W.heap.size W w'/\Stat w' b o x
def aby(W:World)(e:Ending)(w':World):Prop:=
 ∃(A:Option Addr)(n c:Nat),e= .returned (.tuple #[.slice A n c,.int .i64 13])/\Below W.heap.size W w'
theorem P5{W:World}{e:Ending}{w':World}{x:Int}{s:ak}{P V:List Int}(hr:∀r er,Bh gU P V r er->er=0/\r=[s])(hs:s.marks.map (λm=>m.status)=[x])
 (h:∃(r:List ak)(A:Option Addr)(c:Nat)(er:Int),e= .returned (.tuple #[.slice A r.length c,.int .i64 er])/\Below W.heap.size W w'/\aW 0 w' ⟨A,c⟩ r/\Bh gU P V r er):M0 x W e w':=by
 obtain⟨r,A,c,er,rfl,hb,hN,hj⟩:=h;obtain⟨rfl,rfl⟩:=hr r er hj;obtain⟨b,o,hA,hst⟩:=hN.stats (by simp);simp only at hA;subst hA;have h0:=hst 0 s x rfl hs;rw[Nat.zero_mul,kP]at h0;exact⟨b,o,c,rfl,hb,h0⟩
theorem aic{W:World}{v:CV}(hC:bO W v gU)(hT:Tab W):Calls prog 23 #[v.val gU,.slice (some ⟨W.heap.size,0,none⟩) 1 1,.slice (some ⟨W.heap.size+1,0,none⟩) 1 1] ((W.alloc (.cells #[.int .i64 2] 3)).alloc (.cells #[.int .i64 (-1)] 3)) (abx W):=by
 refine(zL hC hT [2] [-1] (by decide) (by decide)).mono ?_;rintro e w' ⟨r,A,c,er,rfl,hb,hN,hj⟩;obtain⟨rfl,hr⟩:=aeJ hj;have hl:r.length=2:=by rcases hr with rfl|rfl<;>rfl
 obtain⟨b,o,hA,hst⟩:=hN.stats (by omega);simp only at hA;subst hA;rw[hl];rcases hr with rfl|rfl
 .have h0:=hst 0 SE 4 rfl Je
  have h1:=hst 1 Ul 3 rfl Jf;rw[Nat.zero_mul,kP]at h0;rw[Nat.one_mul]at h1;exact⟨b,o,c,4,3,rfl,hb,h0,h1,.inl ⟨rfl,rfl⟩⟩
 .have h0:=hst 0 Ul 3 rfl Jf
  have h1:=hst 1 SE 4 rfl Je;rw[Nat.zero_mul,kP]at h0;rw[Nat.one_mul]at h1;exact⟨b,o,c,3,4,rfl,hb,h0,h1,.inr ⟨rfl,rfl⟩⟩
theorem aie{W:World}{v:CV}(hC:bO W v gU)(hT:Tab W):Calls prog 23 #[v.val gU,.slice (some ⟨W.heap.size,0,none⟩) 2 2,.slice (some ⟨W.heap.size+1,0,none⟩) 1 1] ((W.alloc (.cells #[.int .i64 2,.int .i64 1] 3)).alloc (.cells #[.int .i64 (-1)] 3)) (M0 4 W):=
 (zL hC hT [2,1] [-1] (by decide) (by decide)).mono λ_ _ h=>P5 (λ_ _ h=>aeK h) Je h
theorem aif{W:World}{v:CV}(hC:bO W v gU)(hT:Tab W):Calls prog 23 #[v.val gU,.slice (some ⟨W.heap.size,0,none⟩) 2 2,.slice (some ⟨W.heap.size+1,0,none⟩) 2 2] ((W.alloc (.cells #[.int .i64 1,.int .i64 2] 3)).alloc (.cells #[.int .i64 0,.int .i64 (-1)] 3)) (M0 3 W):=
 (zL hC hT [1,2] [0, -1] (by decide) (by decide)).mono λ_ _ h=>P5 (λ_ _ h=>aeL h) Jf h
theorem aii{W:World}{v:CV}(hC:bO W v gU)(hT:Tab W):Calls prog 23 #[v.val gU,.slice (some ⟨W.heap.size,0,none⟩) 1 1,.slice (some ⟨W.heap.size+1,0,none⟩) 1 1] ((W.alloc (.cells #[.int .i64 2] 3)).alloc (.cells #[.int .i64 0] 3)) (aby W):=by
 refine(zL hC hT [2] [0] (by decide) (by decide)).mono ?_;rintro e w' ⟨r,A,c,er,rfl,hb,_,hj⟩;obtain rfl:=aeM hj;exact⟨A,_,c,rfl,hb⟩
def Us(x:Int)(W:World)(e:Ending)(w':World):Prop:=
 ∃(A:Option Addr)(c:Nat),e= .returned (.tuple #[.slice A 1 c,.int .i64 0])/\At w' 1 A 1 c (aZ [x])/\Below W.heap.size W w'
theorem D7{W:World}{v:CV}(hC:bO W v gU)(hT:Tab W)(L:List (bR×FV))(hL:∀p∈L,gJ W p.2 p.1)(hn:L.length<=9)(h1:∀x∈aM (L.map Prod.fst),1<=x.ref/\x.ref<=2)(h2:(aM (L.map Prod.fst)).length<=400)(h3:(bE (L.map Prod.fst)).length<=4000)
 {x:Int}(hr:∀V er,jC gU (L.map Prod.fst) 1 V er->er=0/\V=[x]):
 Calls prog 14 #[v.val gU,.slice (some ⟨W.heap.size,0,none⟩) L.length L.length,.int .i64 1] (W.alloc (.cells (FQ L).toArray 31)) (Us x W):=by
 generalize hW2:World.alloc _ _=W2;obtain⟨HB,h0⟩:=bx1 hW2;have o:Own W2 31 W.heap.size (FQ L):=⟨[],by rw[bU];exact h0⟩;have hfs:=mF.row (c:=L.length) o (bJ _) (by unfold maxLen;omega) (λp hp=>(hL p hp).below HB.out);have hc:=MQ v gU ⟨some ⟨W.heap.size,0,none⟩,L.length⟩ (L.map Prod.fst) 1 W2 (hC.below HB.out) hfs (by rw[dU];omega) (aev h1) h2 h3 (hT.below HB.out);rw[dU]at hc;refine hc.mono ?_;rintro e w' ⟨A,c,V,er,rfl,hA,hb,hj⟩;obtain⟨rfl,rfl⟩:=hr V er hj;exact⟨A,c,rfl,hA,av HB.out hb⟩
theorem aij{W:World}:gJ W ⟨⟨none,0⟩,⟨none,0⟩⟩ ejE:=⟨gD _ _,gD _ _⟩
theorem aik{W:World}{v:CV}(hC:bO W v gU)(hT:Tab W):Calls prog 14 #[v.val gU,.slice (some ⟨W.heap.size,0,none⟩) 1 1,.int .i64 1] (W.alloc (.cells #[.int .i64 0,.slice none 0 0,.slice none 0 0] 31)) (Us 3 W):=
 D7 hC hT [(ejE,⟨⟨none,0⟩,⟨none,0⟩⟩)] (λp hp=>by rw[eB.1 hp];exact aij) (Nat.le_of_ble_eq_true rfl) (λx hx=>by simp[aM,ejE]at hx) (Nat.le_of_ble_eq_true rfl) (Nat.le_of_ble_eq_true rfl) (λ_ _ h=>aeN h)
theorem ail{W:World}{v:CV}(hC:bO W v gU)(hT:Tab W){A:Option Addr}{c:Nat}(hF:gJ W ⟨⟨A,c⟩,⟨none,0⟩⟩ WT):Calls prog 14 #[v.val gU,.slice (some ⟨W.heap.size,0,none⟩) 1 1,.int .i64 1] (W.alloc (.cells #[.int .i64 1,.slice A 1 c,.slice none 0 0] 31)) (Us 0 W):=
 D7 hC hT [(WT,⟨⟨A,c⟩,⟨none,0⟩⟩)] (λp hp=>by rw[eB.1 hp];exact hF) (Nat.le_of_ble_eq_true rfl) (λx hx=>by simp[aM,WT]at hx;subst hx;simp) (Nat.le_of_ble_eq_true rfl) (Nat.le_of_ble_eq_true rfl) (λ_ _ h=>aeO h)
theorem ain{W:World}{v:CV}(hC:bO W v gU)(hT:Tab W){A B:Option Addr}{c d:Nat}(hF:gJ W ⟨⟨A,c⟩,⟨none,0⟩⟩ WT)(hG:gJ W ⟨⟨B,d⟩,⟨none,0⟩⟩ ejX):Calls prog 14 #[v.val gU,.slice (some ⟨W.heap.size,0,none⟩) 2 2,.int .i64 1] (W.alloc (.cells #[.int .i64 1,.slice A 1 c,.slice none 0 0,.int .i64 0,.slice B 1 d,.slice none 0 0] 31)) (Us 1 W):=
 D7 hC hT [(WT,⟨⟨A,c⟩,⟨none,0⟩⟩),(ejX,⟨⟨B,d⟩,⟨none,0⟩⟩)] (λp hp=>by
  simp only[dx,iQ,or_false]at hp;rcases hp with rfl|rfl
  .exact hF
  .exact hG) (Nat.le_of_ble_eq_true rfl) (λx hx=>by simp[aM,WT,ejX]at hx;rcases hx with rfl|rfl<;>simp) (Nat.le_of_ble_eq_true rfl) (Nat.le_of_ble_eq_true rfl) (λ_ _ h=>aeP h)
end
open Go.RowKit Go.Shelf Tryz
def al4(w:World)(e:Ending)(w':World):Prop:=
 ∃(hA:Option Addr)(hc:Nat)(uA:Option Addr)(uc:Nat)(aA:Option Addr)(ac:Nat)(kA:Option Addr)(kc:Nat)(oA:Option Addr)(oc:Nat),e= .returned (.agg #[.int .i64 gU.aF,.slice hA gU.aj.length hc,.slice uA gU.units.length uc,.slice aA gU.acts.length ac,.slice kA gU.clauses.length kc,.int .i64 gU.days,.slice oA gU.off.length oc])/\bO w' ⟨⟨hA,hc⟩,⟨uA,uc⟩,⟨aA,ac⟩,⟨kA,kc⟩,⟨oA,oc⟩⟩ gU/\Below w.heap.size w w'
theorem M4(w:World):Calls prog 29 #[] w (al4 w):=(MV w).mono λ_ _ h=>h
theorem Jg{W:World}{A:Option Addr}{c:Nat}{x:Int}(hA:At W 1 A 1 c (aZ [x])):Calls prog 21 #[.slice A 1 c,.slice (some ⟨W.heap.size,0,none⟩) 1 1] (W.alloc (.cells #[.int .i64 x] 3)) (dZ (.bool true) W):=by
 generalize hW2:World.alloc _ _=W2;obtain⟨HB,h0⟩:=bx1 hW2;refine(Y9 [x] [x] ⟨A,c⟩ ⟨some ⟨W.heap.size,0,none⟩,1⟩ W2 (hA.below (by omega) HB.out) (vZ (xs:=aZ [x]) h0 rfl CQ (by unfold maxLen;simp))).mono ?_;rintro e z ⟨rfl,hz⟩;exact⟨by rw[decide_eq_true rfl],av HB.out hz⟩
section
variable {W:World} {A B:Option Addr} {c d:Nat} {l m:List Int}
theorem P6(hl:At W 1 A l.length c (aZ l))(hm:At W 1 B m.length d (aZ m))(h:nW l m):Calls prog 20 #[.slice A l.length c,.slice B m.length d] W (dZ (.bool true) W):=
 (EK l m ⟨A,c⟩ ⟨B,d⟩ W hl hm).mono λ_ _ ⟨b,he,hb,hz⟩=>⟨by rw[he,hb.2 h],hz⟩
theorem Jh(hl:At W 1 A l.length c (aZ l))(hm:At W 1 B m.length d (aZ m))(h:¬nW l m):Calls prog 20 #[.slice A l.length c,.slice B m.length d] W (dZ (.bool false) W):=
 (EK l m ⟨A,c⟩ ⟨B,d⟩ W hl hm).mono λ_ _ ⟨b,he,hb,hz⟩=>by
  cases b with
  |false=>exact⟨he,hz⟩
  |true=>exact absurd (hb.1 rfl) h
end
theorem aio:nW [0] [1]:=⟨rfl,λk x hx=>.inl (by have:=cK hx;simpa using this)⟩
theorem aip:¬nW [1] [0]:=λh=>by
 rcases h.2 0 1 rfl with h|h<;>cases h
theorem aiq:¬nW [] [0]:=λh=>by cases h.1
theorem Wp(w:World)(hT:Tab w):Calls prog 9 #[] w (dZ (.bool true) w):=by
 have HT:=ah hT;clear hT;go_enter func9,ntmps9;go_wp2_with (go_at_call 29;refine(M4 _).mono ?_;rintro e z ⟨hA,hc,uA,uc,aA,ac,kA,kc,oA,oc,rfl,hcon,hb⟩;refine Hid.out ?_);refine ah ?_;have air:=ah hcon;have Zk:=ah hb;clear hcon hb;go_upto_region 2 with(fail)
 generalize hW0:World.alloc _ _=W0;obtain⟨HBx,h0⟩:=bx1' hW0;have HX0:Hid (wh W0 z.heap.size ⟨⟨hA,hc⟩,⟨uA,uc⟩,⟨aA,ac⟩,⟨kA,kc⟩,⟨oA,oc⟩⟩ gU):=⟨air.out.below HBx,⟨[],by rw[bU];exact h0⟩⟩;have HB0:Hid (Below w.heap.size w W0):=av Zk.out HBx;clear hW0 HBx h0 air Zk;generalize z.heap.size=cb at*;clear z;obtain⟨c0,c1,c2,c3,c4,c5,c6⟩:=HX0.out.cells;simp only at c0 c1 c2 c3 c4 c5 c6;have hca:=aic HX0.out.con (HT.out.below HB0.out);simp only[CV.val,CV.cells]at hca;have rz:=ah hca;clear hca;go_wp2_with (go_at_call 23;refine rz.out.mono ?_;rintro _ W1 ⟨ba,oA1,ca,x,y,rfl,hb,hs1,hs2,hxy⟩;refine Hid.out ?_);refine ah ?_;have q9:=ah (HX0.out.below hb);have HB1:Hid (Below w.heap.size w W1):=av HB0.out hb;have SA:=ah hs1;have SB:=ah hs2;have HXY:=ah hxy;clear hb hs1 hs2 hxy HX0 HB0 rz c0 c1 c2 c3 c4 c5 c6;obtain⟨c0,c1,c2,c3,c4,c5,c6⟩:=q9.out.cells;simp only at c0 c1 c2 c3 c4 c5 c6;have hca:=aie q9.out.con (HT.out.below HB1.out);simp only[CV.val,CV.cells]at hca;have rz:=ah hca;clear hca;go_wp2_with (go_at_call 23;refine rz.out.mono ?_;rintro _ W2 ⟨bb,oB1,cB,rfl,hb,hs1⟩;refine Hid.out ?_);refine ah ?_;have Bf:=ah (q9.out.below hb);have HB2:Hid (Below w.heap.size w W2):=av HB1.out hb;replace SA:=ah (SA.out.below hb);replace SB:=ah (SB.out.below hb);have SC:=ah hs1;clear hb hs1 q9 HB1 rz c0 c1 c2 c3 c4 c5 c6;obtain⟨c0,c1,c2,c3,c4,c5,c6⟩:=Bf.out.cells;simp only at c0 c1 c2 c3 c4 c5 c6;have hca:=aif Bf.out.con (HT.out.below HB2.out);simp only[CV.val,CV.cells]at hca;have rz:=ah hca;clear hca;go_wp2_with (go_at_call 23;refine rz.out.mono ?_;rintro _ W3 ⟨bd,oD1,cD,rfl,hb,hs1⟩;refine Hid.out ?_);refine ah ?_;have yR:=ah (Bf.out.below hb);have HB3:Hid (Below w.heap.size w W3):=av HB2.out hb;replace SA:=ah (SA.out.below hb);replace SB:=ah (SB.out.below hb);replace SC:=ah (SC.out.below hb);have SD:=ah hs1;clear hb hs1 Bf HB2 rz c0 c1 c2 c3 c4 c5 c6;obtain⟨c0,c1,c2,c3,c4,c5,c6⟩:=yR.out.cells;simp only at c0 c1 c2 c3 c4 c5 c6;have hca:=aii yR.out.con (HT.out.below HB3.out);simp only[CV.val,CV.cells]at hca;have rz:=ah hca;clear hca;go_wp2_with (go_at_call 23;refine rz.out.mono ?_;rintro _ W4 ⟨hhA,hn,hhc,rfl,hb⟩;refine Hid.out ?_);refine ah ?_;have Zm:=ah (yR.out.below hb);have Ci:Hid (Below w.heap.size w W4):=av HB3.out hb;replace SA:=ah (SA.out.below hb);replace SB:=ah (SB.out.below hb);replace SC:=ah (SC.out.below hb);replace SD:=ah (SD.out.below hb);clear hb yR HB3 rz c0 c1 c2 c3 c4 c5 c6;go_upto_region 7 with(fail)
 generalize Js:World.alloc _ _=W5;obtain⟨hb',h0,h1⟩:=F5 Js;have hb:=hb'.out;have HX5:=ah (Zm.out.below hb);have Cj:Hid (Below w.heap.size w W5):=av Ci.out hb;replace SA:=ah (SA.out.below hb);replace SB:=ah (SB.out.below hb);replace SC:=ah (SC.out.below hb);replace SD:=ah (SD.out.below hb);have OW:Hid (Own W5 31 (W4.heap.size+1) [.int .i64 1,.slice (some ⟨W4.heap.size,0,none⟩) 1 1,.slice none 0 0]):=⟨[],by rw[bU];exact h1⟩;have FW:Hid (gJ W5 ⟨⟨(some ⟨W4.heap.size,0,none⟩),1⟩,⟨none,0⟩⟩ WT):=⟨vZ (xs:=bH WT.facts) h0 rfl (o8 _) (by unfold maxLen;exact(of_decide_eq_true rfl:(1:Nat)<=9223372036854775807)),gD _ _⟩;clear hb hb' h0 h1 Js Zm Ci;generalize W4.heap.size=qw at*;go_upto_region 8 with(fail)
 generalize ZJ:World.alloc _ _=W6;obtain⟨hb',h0,h1⟩:=F5 ZJ;have hb:=hb'.out;have Vw:=ah (HX5.out.below hb);have WL:Hid (Below w.heap.size w W6):=av Cj.out hb;replace SA:=ah (SA.out.below hb);replace SB:=ah (SB.out.below hb);replace SC:=ah (SC.out.below hb);replace SD:=ah (SD.out.below hb);replace OW:=ah (OW.out.below hb);replace FW:=ah (FW.out.below hb);have OE:Hid (Own W6 31 (W5.heap.size+1) [.int .i64 0,.slice (some ⟨W5.heap.size,0,none⟩) 1 1,.slice none 0 0]):=⟨[],by rw[bU];exact h1⟩;have FE:Hid (gJ W6 ⟨⟨(some ⟨W5.heap.size,0,none⟩),1⟩,⟨none,0⟩⟩ ejX):=⟨vZ (xs:=bH ejX.facts) h0 rfl (o8 _) (by unfold maxLen;exact(of_decide_eq_true rfl:(1:Nat)<=9223372036854775807)),gD _ _⟩;clear hb hb' h0 h1 ZJ HX5 Cj;generalize W5.heap.size=qe at*;obtain⟨c0,c1,c2,c3,c4,c5,c6⟩:=Vw.out.cells;simp only at c0 c1 c2 c3 c4 c5 c6;have hca:=aik Vw.out.con (HT.out.below WL.out);simp only[CV.val,CV.cells]at hca;have rz:=ah hca;clear hca;go_wp2_with (go_at_call 14;refine rz.out.mono ?_;rintro _ W7 ⟨xA,xc,rfl,hx,hb⟩;refine Hid.out ?_);refine ah ?_;have HX7:=ah (Vw.out.below hb);have HB7:Hid (Below w.heap.size w W7):=av WL.out hb;replace SA:=ah (SA.out.below hb);replace SB:=ah (SB.out.below hb);replace SC:=ah (SC.out.below hb);replace SD:=ah (SD.out.below hb);replace OW:=ah (OW.out.below hb);replace FW:=ah (FW.out.below hb);replace OE:=ah (OE.out.below hb);replace FE:=ah (FE.out.below hb);have AX:=ah hx;clear hb hx Vw WL rz c0 c1 c2 c3 c4 c5 c6;obtain⟨c0,c1,c2,c3,c4,c5,c6⟩:=HX7.out.cells;simp only at c0 c1 c2 c3 c4 c5 c6;have e0:=OW.out.cell (i:=0) rfl;have e1:=OW.out.cell (i:=1) rfl;have e2:=OW.out.cell (i:=2) rfl;have hca:=ail HX7.out.con (HT.out.below HB7.out) FW.out;simp only[CV.val,CV.cells]at hca;have rz:=ah hca;clear hca;go_wp2_with (go_at_call 14;refine rz.out.mono ?_;rintro _ W8 ⟨yA,yc,rfl,hx,hb⟩;refine Hid.out ?_);refine ah ?_;have HX8:=ah (HX7.out.below hb);have HB8:Hid (Below w.heap.size w W8):=av HB7.out hb;replace SA:=ah (SA.out.below hb);replace SB:=ah (SB.out.below hb);replace SC:=ah (SC.out.below hb);replace SD:=ah (SD.out.below hb);replace OW:=ah (OW.out.below hb);replace FW:=ah (FW.out.below hb);replace OE:=ah (OE.out.below hb);replace FE:=ah (FE.out.below hb);replace AX:=ah (AX.out.below (by omega) hb);have AY:=ah hx;clear hb hx HX7 HB7 rz c0 c1 c2 c3 c4 c5 c6 e0 e1 e2;obtain⟨c0,c1,c2,c3,c4,c5,c6⟩:=HX8.out.cells;simp only at c0 c1 c2 c3 c4 c5 c6;have e0:=OW.out.cell (i:=0) rfl;have e1:=OW.out.cell (i:=1) rfl;have e2:=OW.out.cell (i:=2) rfl;have g0:=OE.out.cell (i:=0) rfl;have g1:=OE.out.cell (i:=1) rfl;have g2:=OE.out.cell (i:=2) rfl;have hca:=ain HX8.out.con (HT.out.below HB8.out) FW.out FE.out;simp only[CV.val,CV.cells]at hca;have rz:=ah hca;clear hca;go_wp2_with (go_at_call 14;refine rz.out.mono ?_;rintro _ W9 ⟨zA,zc,rfl,hx,hb⟩;refine Hid.out ?_);refine ah ?_;have HX9:=ah (HX8.out.below hb);have Ue:Hid (Below w.heap.size w W9):=av HB8.out hb;replace SA:=ah (SA.out.below hb);replace SB:=ah (SB.out.below hb);replace SC:=ah (SC.out.below hb);replace SD:=ah (SD.out.below hb);replace OW:=ah (OW.out.below hb);replace FW:=ah (FW.out.below hb);replace OE:=ah (OE.out.below hb);replace FE:=ah (FE.out.below hb);replace AX:=ah (AX.out.below (by omega) hb);replace AY:=ah (AY.out.below (by omega) hb);have AZ:=ah hx;clear hb hx HX8 HB8 rz c0 c1 c2 c3 c4 c5 c6 e0 e1 e2 g0 g1 g2;clear OW FW OE FE;obtain⟨m1,n1,k1,hs1⟩:=SA.out;obtain⟨m2,n2,k2,hs2⟩:=SB.out;obtain⟨m3,n3,k3,hs3⟩:=SC.out;obtain⟨m4,n4,k4,hs4⟩:=SD.out;have y1:=λz=>(hs1 z).1;have z1:=λz=>(hs1 z).2;have y2:=λz=>(hs2 z).1;have z2:=λz=>(hs2 z).2;have y3:=λz=>(hs3 z).1;have z3:=λz=>(hs3 z).2;have y4:=λz=>(hs4 z).1;have z4:=λz=>(hs4 z).2;clear hs1 hs2 hs3 hs4 SA SB SC SD HX9;go_upto_region 13 with(fail)
 change Code.wp _ _ _ _ (Bl.val (⟨W9,aC _ _⟩:Bl W9));generalize(⟨W9,aC _ _⟩:Bl W9)=s0;obtain⟨u,hu⟩:∃u:Int,x+y=u:=⟨_,rfl⟩;rcases HXY.out with⟨rfl,rfl⟩|⟨rfl,rfl⟩
 all_goals
  clear hu u;refine aI ?_;repeat(go_big_quiet_step (fail))
  refine aY ?_;rintro _ ⟨z,rfl⟩;have yL:Hid (Below w.heap.size w z.val):=av Ue.out z.prop;replace AX:=ah (AX.out.below (by omega) z.prop);replace AY:=ah (AY.out.below (by omega) z.prop);replace AZ:=ah (AZ.out.below (by omega) z.prop);clear y1 y2 y3 y4 z1 z2 z3 z4 HXY;generalize z.val=V0 at yL AX AY AZ⊢;clear z Ue;have hca:=Jg AX.out;have rz:=ah hca;clear hca;go_wp2_with (go_at_call 21;refine rz.out.mono ?_;rintro _ V1 ⟨rfl,hb⟩;refine Hid.out ?_);refine ah ?_;replace yL:Hid (Below w.heap.size w V1):=av yL.out hb;replace AX:=ah (AX.out.below (by omega) hb);replace AY:=ah (AY.out.below (by omega) hb);replace AZ:=ah (AZ.out.below (by omega) hb);clear hb rz;have hca:=Jg AY.out;have rz:=ah hca;clear hca;go_wp2_with (go_at_call 21;refine rz.out.mono ?_;rintro _ V2 ⟨rfl,hb⟩;refine Hid.out ?_);refine ah ?_;replace yL:Hid (Below w.heap.size w V2):=av yL.out hb;replace AX:=ah (AX.out.below (by omega) hb);replace AY:=ah (AY.out.below (by omega) hb);replace AZ:=ah (AZ.out.below (by omega) hb);clear hb rz;have hca:=Jg AZ.out;have rz:=ah hca;clear hca;go_wp2_with (go_at_call 21;refine rz.out.mono ?_;rintro _ V3 ⟨rfl,hb⟩;refine Hid.out ?_);refine ah ?_;replace yL:Hid (Below w.heap.size w V3):=av yL.out hb;replace AX:=ah (AX.out.below (by omega) hb);replace AY:=ah (AY.out.below (by omega) hb);replace AZ:=ah (AZ.out.below (by omega) hb);clear hb rz;have hca:=(P6 (l:=[0]) (m:=[1]) AY.out AZ.out aio:(Calls prog 20 #[.slice yA 1 yc,.slice zA 1 zc] V3 (dZ (.bool true) V3)));have rz:=ah hca;clear hca;go_wp2_with (go_at_call 20;refine rz.out.mono ?_;rintro _ V4 ⟨rfl,hb⟩;refine Hid.out ?_);refine ah ?_;replace yL:Hid (Below w.heap.size w V4):=av yL.out hb;replace AX:=ah (AX.out.below (by omega) hb);replace AY:=ah (AY.out.below (by omega) hb);replace AZ:=ah (AZ.out.below (by omega) hb);clear hb rz;have hca:=(Jh (l:=[1]) (m:=[0]) AZ.out AY.out aip:(Calls prog 20 #[.slice zA 1 zc,.slice yA 1 yc] V4 (dZ (.bool false) V4)));have rz:=ah hca;clear hca;go_wp2_with (go_at_call 20;refine rz.out.mono ?_;rintro _ V5 ⟨rfl,hb⟩;refine Hid.out ?_);refine ah ?_;replace yL:Hid (Below w.heap.size w V5):=av yL.out hb;replace AX:=ah (AX.out.below (by omega) hb);replace AY:=ah (AY.out.below (by omega) hb);replace AZ:=ah (AZ.out.below (by omega) hb);clear hb rz;have hca:=(Jh (l:=[]) (m:=[0]) (gD _ _) AY.out aiq:(Calls prog 20 #[.slice none 0 0,.slice yA 1 yc] V5 (dZ (.bool false) V5)));have rz:=ah hca;clear hca;go_wp2_with (go_at_call 20;refine rz.out.mono ?_;rintro _ V6 ⟨rfl,hb⟩;refine Hid.out ?_);refine ah ?_;replace yL:Hid (Below w.heap.size w V6):=av yL.out hb;replace AX:=ah (AX.out.below (by omega) hb);replace AY:=ah (AY.out.below (by omega) hb);replace AZ:=ah (AZ.out.below (by omega) hb);clear hb rz;go_wp2;go_ret;exact⟨rfl,yL.out⟩
end Go.Proofs.YtpmdedcnbockhaaGreatDoor
