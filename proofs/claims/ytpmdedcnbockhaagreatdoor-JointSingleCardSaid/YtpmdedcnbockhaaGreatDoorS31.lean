/- part -/
import Derived.Shelf.Sort.Plain
import Derived.Test.YtpmdedcnbockhaaGreatDoorS21
set_option maxRecDepth 100000
set_option maxHeartbeats 8000000
namespace Go.Proofs.YtpmdedcnbockhaaGreatDoor
open Go.RowKit Go.Shelf Go.Sort Go.Maps Tryz
def Zr(B:Nat)(F:List ak)(w:World)(e:Ending)(w':World):Prop:=
 ∃(R:List ak)(A:Option Addr)(c:Nat),e= .returned (.slice A R.length c)/\aW B w' ⟨A,c⟩ R/\(R.map ak.text).Pairwise (· < ·)/\(∀s,s∈R↔s∈F)/\R.length=F.length/\Below w.heap.size w w'
theorem PO{w:World}{g cap:Nat}{ss:List (List UInt8)}(hH:Holds encStr w g 0 ss.toArray)(hg:g<w.heap.size)(hl:ss.length<4611686018427387904):
 Calls prog 127 #[.slice (some ⟨g,0,none⟩) ss.length cap] w (λe w'=>e= .returned (.tuple #[])/\∃n os,w'=grow (putRow encStr (Sort.ahead w n) g 0 (ss.mergeSort λx y=>decide (x<=y)).toArray) os):=
 Any.sort_Strings Tryz.laysStrings g 0 cap ss w hH hg hl
theorem Sv{B:Nat}{w:World}{b:Nat}{F:List ak}(hF:dJ B w b F)(hBw:B<=w.heap.size)(hF3:F.length<=1000000)(htx:∀s∈F,s.text.length<=maxLen):
 Calls prog 79 #[.map (some b)] w (Zr B F w):=by
 obtain⟨D,hown,hsz,hperm⟩:=hF.keys;have hlf:∀ty,(Builtin.len_ #[142] ty #[.map (some b)]).run prog w= .ok (.int .i64 (F.length:Nat)) w:=λty=>hF.len ty;obtain⟨is,hsi,hsz0,hss,hsb⟩:=info_parts' (P:=prog) (t:=48) (z:=some eF) (s:=4) (b:=80) (by kernel_rfl);obtain⟨ix,hxi,hxz,hxs,hxb⟩:=info_parts' (P:=prog) (t:=9) (z:=some (.string ⟨#[]⟩)) (s:=1) (b:=16) (by kernel_rfl);have hbl:=hown.lt;have HF:=ah hF;clear hF;have HP:=ah hperm;clear hperm;have HX:=ah htx;clear htx;have zN:=ah hsz;clear hsz;go_enter func79,ntmps79;go_wp2_with (first
  |(at_make;refine wpList_make_own _ rfl _ _ 203 rfl w.heap.size 9 ix (.string ⟨#[]⟩) 1 underlying203 hxi hxz hxs _ _ _ F.length rfl rfl rfl (by rw[hxb];omega) (by unfold maxLen;omega) (bJ _) ?_;intro w1 acs hg1)
  |(at_range;refine wpList_range_own _ rfl _ 142 rfl 9 48 uW underlying142 _ b _ D rfl (hown.kept hg1 (by simp)) ?_;intro w0 hrg0 hg0 hs0))
 go_frame
 go_loopw [3] (λv wr=>∃(left:Lit->Bool)(cnt:Nat)(ss:List (List UInt8)),Hid (wr.ranges prog 9 R1 b w1.heap.size (Maps.size D) D left cnt)/\Hid (ss.length+cnt<=Maps.size D)/\Hid (wr.ownsRow w.heap.size 9 1 v ss.length (ss.map encStr))/\Hid (v≠ .slice none 0 0)/\Hid (Collected D left ss)/\Hid (Below w.heap.size w wr))
  (λ_ wr=>wr.rangeLeft b w1.heap.size)
 case atStart=>
  exact⟨_,_,[],hrg0,by show _<=_;simp,acs.kept hg0 (Or.inr (by simp[Value.ownBlock])),by show _≠_;simp,Collected.start D,
   ((aC _ _).grown hg1 (bJ _) (λj hj=>by cases hj)).grown hg0 hg1.size (λj hj=>by cases hj)⟩
 case round=>
  obtain⟨left,cnt,ss,Y6,HCS,mW,Jy,HC,vC⟩:=hrel;clear acs hrg0 hg0 hs0 hlf;go_wp2_with (at_next;refine wpList_next_ranges _ rfl _ rfl 9 uW R1 encStr (λv:Value=>v) (λkey kl hk=>by obtain⟨x,hx,_⟩:=Maps.keyOf_str underlying9 hk;exact⟨x,hx⟩) (λv y hv=>⟨v,rfl⟩) b w1.heap.size _ _ _ _ rfl Y6.out ?_ ?_)
  .intro hc0 hl0
   have hpm:=(HC.out.perm hown uW underlying9 hl0).trans HP.out;have hnb:=vC.out;rcases mW.out.2 with⟨hnil,_⟩|⟨g,cap,cur,rfl,hbase,hb,h1,h2,h3,h4⟩
   .exact absurd hnil Jy.out
   have hH:Holds encStr wr g 0 ss.toArray:=holds_of_block hb (by simpa using h4);have hgl:g<wr.heap.size:=(lS.1 hb).1;have hsl:ss.length=F.length:=by rw[hpm.length_eq,dU]
   have HST:=ah (PO (cap:=cap) hH hgl (by omega));have HSL:=ah hsl;clear hsl;have hsp:=List.mergeSort_perm ss (λx y=>decide (x<=y));have hsrt:=List.pairwise_mergeSort (le:=λx y:List UInt8=>decide (x<=y)) (λa b c h h'=>by simpa using List.le_trans (by simpa using h) (by simpa using h')) (λa b=>by simpa using List.le_total a b) ss;have hrw:∀(n:Nat)(os:Array Obj),(grow (putRow encStr (Sort.ahead wr n) g 0 (ss.mergeSort (λx y=>decide (x<=y))).toArray) os).ownsRow w.heap.size 9 1 (.slice (some ⟨g,0,none⟩) ss.length cap) ss.length ((ss.mergeSort (λx y=>decide (x<=y))).map encStr):=λn os=>ownsRow_sorted (by simp) hbase hb h1 h2 h3;have hbw:∀(n:Nat)(os:Array Obj),Below w.heap.size w (grow (putRow encStr (Sort.ahead wr n) g 0 (ss.mergeSort (λx y=>decide (x<=y))).toArray) os):=λn os=>hnb.grown (grownBy_sorted _) hnb.size (λj hj=>by cases hj;exact hbase);generalize ss.mergeSort (λx y=>decide (x<=y))=T at HST hsp hsrt hrw hbw;have HTP:=ah (hsp.trans hpm);have HTS:Hid (T.Pairwise (· < ·)):=strict (hsrt.imp (λh=>by simpa using h)) (HTP.out.nodup_iff.2 HF.out.nodup);have TL:Hid (ss.length=T.length):=hsp.length_eq.symm;clear hpm hsp hsrt hb h3 h4 hH mW Y6 Jy HC HCS hnb;go_wp2_with (go_at_call 127;refine HST.out.mono ?_;rintro e Z5 ⟨rfl,nn,os,rfl⟩;refine Hid.out ?_);refine ah ?_;have HRW:=ah (hrw nn os);have HB0:=ah (hbw nn os);clear hrw hbw HST;generalize grow (putRow encStr (Sort.ahead wr nn) g 0 T.toArray) os=Z5 at HRW HB0⊢;obtain⟨TA,tc,e,hAt⟩:=kY HRW.out (by
    intro u hu;obtain⟨t,_,rfl⟩:=cZ.1 hu;rfl)
   injection e with e1 e2 e3
   subst e1 e3;have hsl:=HSL.out;rw[TL.out]at hAt hsl⊢;have HAT:=ah hAt;have HF5:=ah (HF.out.below HB0.out);have hT3:T.length<=1000000:=by omega
   have alS:=ah hsl;clear hsl;clear hAt HRW;go_wp2_with (at_make;refine wpList_make_own _ rfl _ _ 41 rfl Z5.heap.size 48 is eF 4 underlying41 hsi hsz0 hss _ _ _ T.length rfl rfl rfl (by rw[hsb];omega) (by unfold maxLen;omega) (bJ _) ?_;intro Z6 EI ZP;refine Hid.out ?_);refine ah ?_;have WL:Hid (Below Z5.heap.size Z5 Z6):=(aC _ _).grown ZP (bJ _) (λj hj=>by cases hj);have FN:=ah EI;clear EI ZP;go_wp2
   go_loopg [28,5] T.length (λg5 v28 v5 w5=>∃(j:Nat)(R:List ak)(ts:List TV),g5=T.length - j/\j<=T.length/\v28= .int .i64 j/\Hid (R.map ak.text=T.take j)/\Hid (∀s∈R,s∈F)/\Hid (ts.length=R.length)/\R.length<=j/\Hid (w5.ownsRow Z5.heap.size 48 4 v5 R.length ((R.zip ts).flatMap (λp=>TV.cells p.2 p.1)))/\Hid (∀(i:Nat)(s:ak)(t:TV),R[i]?=some s->ts[i]?=some t->aQ Z5 t s/\lN B t)/\Hid (Below Z5.heap.size Z5 w5))
   case atStart=>exact⟨0,[],[],rfl,aU _,rfl,rfl,(λs hs=>by cases hs),rfl,bJ _,FN.out,(λi s t hs=>by simp at hs),WL.out⟩
   case round=>
    obtain⟨j,R,ts,hg5,hj,rfl,HRT,HRF,FM,hRl,HR,Ng,Cj⟩:=hrel;clear FN WL;have HG5:=ah hg5;clear hg5;by_cases hlt:j<T.length
    .obtain⟨tx,htx⟩:∃tx,T[j]?=some tx:=⟨_,aS hlt⟩
     obtain⟨s,WJ,hst⟩:=cZ.1 (HTP.out.mem_iff.1 (cK htx));subst hst;have htm:=HX.out s WJ;obtain⟨⟨⟨eu,dN⟩,⟨eH,dL⟩,⟨fF,bY⟩⟩,hrun,OM,Yz⟩:=HF5.out.Yx Cj.out WJ htm;have adG:=ah Yz;clear Yz;simp only[TV.val,TV.cells,ak.cells]at hrun;have ct:wr.cell? ⟨g,0+j,none⟩=some (.string ⟨s.text.toArray⟩):=by
      obtain⟨tb,Mg,hTA,_,htc⟩:=(HAT.out.below (by omega) Cj.out).1.form (by omega) (by omega);injection hTA with e
      injection e with e1 e2
      subst e1 e2;rw[htc j (by omega),gK,htx];rfl
     have ct2:wr.cell? ⟨g,j,none⟩=some (.string ⟨s.text.toArray⟩):=by rw[<-ct,pF]
     have TM:=ah WJ;clear WJ;have J2:=ah (take_snoc' htx);clear htx;have adH:=ah OM;clear OM htm;have j0:(0:Int)<=(j:Int):=by omega
     have j1:(j:Int)<(T.length:Int):=by omega
     have hsz5:=Cj.out.size;go_wp2_with (at_builtin;refine nQ rfl _ _ 41 rfl 48 is eF 4 80 underlying41 hsi hsz0 hss hsb rfl (by decide) Z5.heap.size _ _ _ rfl HR.out [.int .i64 s.day,.slice eu s.aj.length dN,.slice eH s.used.length dL,.slice fF s.marks.length bY] _ rfl rfl (by intro u hu;simp only[dx,iQ,or_false]at hu;rcases hu with rfl|rfl|rfl|rfl<;>rfl) rfl (by unfold maxLen;omega) (by omega) hsz5 ?_;intro v6 w6 h1 h2 h3;refine Hid.out ?_);refine ah ?_;have FN:Hid (w6.ownsRow Z5.heap.size 48 4 v6 (R++[s]).length (((R++[s]).zip (ts++[⟨⟨eu,dN⟩,⟨eH,dL⟩,⟨fF,bY⟩⟩])).flatMap (λp=>TV.cells p.2 p.1))):=by
      show World.ownsRow _ _ _ _ _ _ _;rw[List.zip_append FM.out.symm,Bt,mU,rP];simpa [TV.cells,ak.cells]using h1
     have WL:Hid (Below Z5.heap.size Z5 w6):=Cj.out.trans h2;have YA:Hid (∀(i:Nat)(x:ak)(t:TV),(R++[s])[i]?=some x->(ts++[⟨⟨eu,dN⟩,⟨eH,dL⟩,⟨fF,bY⟩⟩])[i]?=some t->aQ Z5 t x/\lN B t):=λi x t hx ht=>by
      by_cases hi:i<R.length
      .rw[kH hi]at hx
       rw[kH (by rw[FM.out];exact hi)]at ht;exact Ng.out i x t hx ht
      .rw[lW (by omega)]at hx
       rw[lW (by rw[FM.out];omega),FM.out]at ht;cases hk:i - R.length with
       |zero=>
        rw[hk]at hx ht;simp at hx ht;rw[<-hx,<-ht];exact⟨adH.out,adG.out⟩
       |succ q=>rw[hk]at hx;simp at hx
     have adI:Hid (∀x∈R++[s],x∈F):=λx hx=>by
      rcases jU.1 hx with hx|hx
      .exact HRF.out x hx
      .rw[eB]at hx
       rw[hx];exact TM.out
     clear h1 h2 h3 hrun ct ct2;go_wp2
     go_roundg (T.length - (j+1))
     case measure=>rw[HG5.out];omega
     case rel=>exact⟨j+1,R++[s],ts++[⟨⟨eu,dN⟩,⟨eH,dL⟩,⟨fF,bY⟩⟩],rfl,by omega,by go_num,by show _=_;rw[pG,HRT.out,J2.out];rfl,adI,by show _=_;simp[FM.out],by simp;omega,FN,YA,WL⟩
    .obtain rfl:j=T.length:=by omega
     have hrt:=HRT.out;rw[iG]at hrt;obtain⟨A,c,rfl,hAt⟩:=kY HR.out (cells_one _);have YB:Hid (aW B wr ⟨A,c⟩ R):=⟨λb off e=>bI (bI hBw HB0.out.size) (HR.out.lt b (by simp only at e;rw[e];rfl)).1,ts,FM.out,hAt,λi s t hs ht=>⟨(Ng.out i s t hs ht).1.below Cj.out,(Ng.out i s t hs ht).2⟩⟩;have hmem:∀s,s∈F->s∈R:=λs hs=>by
      rw[<-mE,hrt];exact HTP.out.mem_iff.2 (mE.2 hs)
     have HML:Hid (∀s,s∈R↔s∈F):=λs=>⟨HRF.out s,hmem s⟩;have ZN:Hid (R.length=F.length):=by
      have h:=congrArg List.length hrt;have h2:=alS.out;rw[dU]at h;show _=_;omega
     have VF:Hid ((R.map ak.text).Pairwise (· < ·)):=by show List.Pairwise _ _;rw[hrt];exact HTS.out
     have vE:=ah (HB0.out.trans (Cj.out.mono HB0.out.size));clear hrt hAt hmem;go_wp2;go_ret;exact⟨R,A,c,rfl,YB.out,VF.out,HML.out,ZN.out,vE.out⟩
  .intro x c kl yd yp w2 cnt2 hkey hlk hv hat hrg2 hlt hg2 hs2 hen
   obtain⟨x',ex,rfl,_⟩:=Maps.keyOf_str underlying9 hkey;obtain rfl:x=x':=encStr_inj ex;have hrow2:=mW.out.kept hg2 (Or.inr (row_ne_iter mW.out Y6.out).symm);have hcs:=HCS.out;have hnx:=vC.out;clear hs2;go_wp2_with (at_builtin;refine wpList_append_own _ rfl _ _ 203 rfl w.heap.size 9 ix (.string ⟨#[]⟩) 1 16 underlying203 hxi hxz hxs hxb rfl (by decide) _ _ _ rfl (hrow2.alloc _) ⟨w2.heap.size,0,none⟩ 1 1 [encStr x] rfl rfl (cell_one_new _ _ _) (by simp[Value.oneCell',encStr]) (by rw[zN.out]at hcs;unfold maxLen;omega) (by rw[zN.out]at hcs;omega) (by have:=hnx.size;have:=hg2.size;simp;omega) ?_;intro v' w3 hown' hg3 hnil3;go_frame);have hrg3:=(hrg2.alloc _).kept hg3 (row_ne_low hrow2 hbl) (row_ne_iter hrow2 hrg2)
   go_roundw
   case rel=>
    refine⟨_,cnt2,ss++[x],hrg3,by show _<=_;simp;omega,by show World.ownsRow _ _ _ _ _ _ _;simpa using hown',λhv'=>by have:=(hnil3.1 hv').2;omega,HC.out.step hlk hat,?_⟩;exact((hnx.grown hg2 hnx.size (λj hj=>by cases hj;exact hg1.size)).alloc (by have:=hnx.size;have:=hg2.size;omega) _).grown hg3 (by have:=hnx.size;have:=hg2.size;simp;omega) (λj hj=>(hrow2.lt j hj).1)
   case measure=>rw[hrg3.left_eq,Y6.out.left_eq];exact hlt
end Go.Proofs.YtpmdedcnbockhaaGreatDoor
