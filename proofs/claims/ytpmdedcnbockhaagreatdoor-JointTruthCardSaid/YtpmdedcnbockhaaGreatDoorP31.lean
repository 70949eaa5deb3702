/-
  JtD
-/
import Derived.Shelf.Sort.Plain
import Derived.Test.YtpmdedcnbockhaaGreatDoorP21
set_option maxRecDepth 100000
set_option maxHeartbeats 8000000
namespace Go.Proofs.YtpmdedcnbockhaaGreatDoor
open Go.RowKit Go.Shelf Go.Sort Go.Maps
def Yh(B:Nat)(F:List ak)(w:World)(e:Ending)(w':World):Prop:=
 ∃(R:List ak)(A:Option Addr)(c:Nat),e= .returned (.slice A R.length c)/\dD B w' ⟨A,c⟩ R/\(R.map ak.text).Pairwise (· < ·)/\(∀s,s∈R↔s∈F)/\R.length=F.length/\Below w.heap.size w w'
theorem OD{w:World}{g cap:Nat}{ss:List (List UInt8)}(hH:Holds encStr w g 0 ss.toArray)(hg:g<w.heap.size)(hl:ss.length<4611686018427387904):
 Calls Tryz.prog 127 #[.slice (some ⟨g,0,none⟩) ss.length cap] w (λe w'=>e= .returned (.tuple #[])/\∃n os,w'=grow (putRow encStr (Sort.ahead w n) g 0 (ss.mergeSort λx y=>decide (x<=y)).toArray) os):=
 Any.sort_Strings Tryz.laysStrings g 0 cap ss w hH hg hl
theorem Rs{B:Nat}{w:World}{b:Nat}{F:List ak}(hF:lI B w b F)(hBw:B<=w.heap.size)(hF3:F.length<=1000000)(htx:∀s∈F,s.text.length<=maxLen):
 Calls Tryz.prog 79 #[.map (some b)] w (Yh B F w):=by
 obtain⟨D,hown,hsz,hperm⟩:=hF.keys;have hlf:∀ty,(Builtin.len_ #[142] ty #[.map (some b)]).run Tryz.prog w= .ok (.int .i64 (F.length:Nat)) w:=λty=>hF.len ty;obtain⟨is,hsi,hsz0,hss,hsb⟩:=info_parts' (P:=Tryz.prog) (t:=48) (z:=some gB) (s:=4) (b:=80) (by kernel_rfl);obtain⟨ix,hxi,hxz,hxs,hxb⟩:=info_parts' (P:=Tryz.prog) (t:=9) (z:=some (.string ⟨#[]⟩)) (s:=1) (b:=16) (by kernel_rfl);have hbl:=hown.lt;have HF:=ah hF;clear hF;have HP:=ah hperm;clear hperm;have HX:=ah htx;clear htx;have rT:=ah hsz;clear hsz;go_enter Tryz.func79,Tryz.ntmps79;go_wp2_with (first
  |(at_make;refine wpList_make_own _ rfl _ _ 203 rfl w.heap.size 9 ix (.string ⟨#[]⟩) 1 Tryz.underlying203 hxi hxz hxs _ _ _ F.length rfl rfl rfl (by rw[hxb];omega) (by unfold maxLen;omega) (bH _) ?_;intro w1 aa6 hg1)
  |(at_range;refine wpList_range_own _ rfl _ 142 rfl 9 48 Br Tryz.underlying142 _ b _ D rfl (hown.kept hg1 (by simp)) ?_;intro w0 hrg0 hg0 hs0))
 go_frame
 go_loopw [3] (λv wr=>∃(left:Lit->Bool)(cnt:Nat)(ss:List (List UInt8)),Hid (wr.ranges Tryz.prog 9 R1 b w1.heap.size (Maps.size D) D left cnt)/\Hid (ss.length+cnt<=Maps.size D)/\Hid (wr.ownsRow w.heap.size 9 1 v ss.length (ss.map encStr))/\Hid (v≠ .slice none 0 0)/\Hid (Collected D left ss)/\Hid (Below w.heap.size w wr))
  (λ_ wr=>wr.rangeLeft b w1.heap.size)
 case atStart=>
  exact⟨_,_,[],hrg0,by show _<=_;simp,aa6.kept hg0 (Or.inr (by simp[Value.ownBlock])),by show _≠_;simp,Collected.start D,
   ((aD _ _).grown hg1 (bH _) (λj hj=>by cases hj)).grown hg0 hg1.size (λj hj=>by cases hj)⟩
 case round=>
  obtain⟨left,cnt,ss,SG,HCS,mG,MC,HC,Ae⟩:=hrel;clear aa6 hrg0 hg0 hs0 hlf;go_wp2_with (at_next;refine wpList_next_ranges _ rfl _ rfl 9 Br R1 encStr (λv:Value=>v) (λkey kl hk=>by obtain⟨x,hx,_⟩:=Maps.keyOf_str Tryz.underlying9 hk;exact⟨x,hx⟩) (λv y hv=>⟨v,rfl⟩) b w1.heap.size _ _ _ _ rfl SG.out ?_ ?_)
  .intro hc0 hl0
   have hpm:=(HC.out.perm hown Br Tryz.underlying9 hl0).trans HP.out;have hnb:=Ae.out;rcases mG.out.2 with⟨hnil,_⟩|⟨g,cap,cur,rfl,hbase,hb,h1,h2,h3,h4⟩
   .exact absurd hnil MC.out
   have hH:Holds encStr wr g 0 ss.toArray:=holds_of_block hb (by simpa using h4);have hgl:g<wr.heap.size:=(kW.1 hb).1;have hsl:ss.length=F.length:=by rw[hpm.length_eq,eF]
   have HST:=ah (OD (cap:=cap) hH hgl (by omega));have HSL:=ah hsl;clear hsl;have hsp:=List.mergeSort_perm ss (λx y=>decide (x<=y));have hsrt:=List.pairwise_mergeSort (le:=λx y:List UInt8=>decide (x<=y)) (λa b c h h'=>by simpa using List.le_trans (by simpa using h) (by simpa using h')) (λa b=>by simpa using List.le_total a b) ss;have hrw:∀(n:Nat)(os:Array Obj),(grow (putRow encStr (Sort.ahead wr n) g 0 (ss.mergeSort (λx y=>decide (x<=y))).toArray) os).ownsRow w.heap.size 9 1 (.slice (some ⟨g,0,none⟩) ss.length cap) ss.length ((ss.mergeSort (λx y=>decide (x<=y))).map encStr):=λn os=>ownsRow_sorted (by simp) hbase hb h1 h2 h3;have hbw:∀(n:Nat)(os:Array Obj),Below w.heap.size w (grow (putRow encStr (Sort.ahead wr n) g 0 (ss.mergeSort (λx y=>decide (x<=y))).toArray) os):=λn os=>hnb.grown (grownBy_sorted _) hnb.size (λj hj=>by cases hj;exact hbase);generalize ss.mergeSort (λx y=>decide (x<=y))=T at HST hsp hsrt hrw hbw;have HTP:=ah (hsp.trans hpm);have HTS:Hid (T.Pairwise (· < ·)):=strict (hsrt.imp (λh=>by simpa using h)) (HTP.out.nodup_iff.2 HF.out.nodup);have ZJ:Hid (ss.length=T.length):=hsp.length_eq.symm;clear hpm hsp hsrt hb h3 h4 hH mG SG MC HC HCS hnb;go_wp2_with (go_at_call 127;refine HST.out.mono ?_;rintro e Z5 ⟨rfl,nn,os,rfl⟩;refine Hid.out ?_);refine ah ?_;have HRW:=ah (hrw nn os);have HB0:=ah (hbw nn os);clear hrw hbw HST;generalize grow (putRow encStr (Sort.ahead wr nn) g 0 T.toArray) os=Z5 at HRW HB0⊢;obtain⟨TA,tc,e,hAt⟩:=nX HRW.out (by
    intro u hu;obtain⟨t,_,rfl⟩:=dU.1 hu;rfl)
   injection e with e1 e2 e3
   subst e1 e3;have hsl:=HSL.out;rw[ZJ.out]at hAt hsl⊢;have HAT:=ah hAt;have HF5:=ah (HF.out.below HB0.out);have hT3:T.length<=1000000:=by omega
   have aj1:=ah hsl;clear hsl;clear hAt HRW;go_wp2_with (at_make;refine wpList_make_own _ rfl _ _ 41 rfl Z5.heap.size 48 is gB 4 Tryz.underlying41 hsi hsz0 hss _ _ _ T.length rfl rfl rfl (by rw[hsb];omega) (by unfold maxLen;omega) (bH _) ?_;intro Z6 Ej YL;refine Hid.out ?_);refine ah ?_;have YO:Hid (Below Z5.heap.size Z5 Z6):=(aD _ _).grown YL (bH _) (λj hj=>by cases hj);have II:=ah Ej;clear Ej YL;go_wp2
   go_loopg [28,5] T.length (λg5 v28 v5 w5=>∃(j:Nat)(R:List ak)(ts:List TV),g5=T.length - j/\j<=T.length/\v28= .int .i64 j/\Hid (R.map ak.text=T.take j)/\Hid (∀s∈R,s∈F)/\Hid (ts.length=R.length)/\R.length<=j/\Hid (w5.ownsRow Z5.heap.size 48 4 v5 R.length ((R.zip ts).flatMap (λp=>TV.cells p.2 p.1)))/\Hid (∀(i:Nat)(s:ak)(t:TV),R[i]?=some s->ts[i]?=some t->aW Z5 t s/\rC B t)/\Hid (Below Z5.heap.size Z5 w5))
   case atStart=>exact⟨0,[],[],rfl,aV _,rfl,rfl,(λs hs=>by cases hs),rfl,bH _,II.out,(λi s t hs=>by simp at hs),YO.out⟩
   case round=>
    obtain⟨j,R,ts,hg5,hj,rfl,HRT,HRF,Pm,hRl,HR,Mk,GR⟩:=hrel;clear II YO;have HG5:=ah hg5;clear hg5;by_cases hlt:j<T.length
    .obtain⟨tx,htx⟩:∃tx,T[j]?=some tx:=⟨_,aT hlt⟩
     obtain⟨s,hsF,hst⟩:=dU.1 (HTP.out.mem_iff.1 (cK htx));subst hst;have htm:=HX.out s hsF;obtain⟨⟨⟨fQ,eZ⟩,⟨gH,eX⟩,⟨h_,dW⟩⟩,hrun,agJ,agK⟩:=HF5.out.acg GR.out hsF htm;have aj2:=ah agK;clear agK;simp only[TV.val,TV.cells,ak.cells]at hrun;have ct:wr.cell? ⟨g,0+j,none⟩=some (.string ⟨s.text.toArray⟩):=by
      obtain⟨tb,acr,hTA,_,htc⟩:=(HAT.out.below (by omega) GR.out).1.form (by omega) (by omega);injection hTA with e
      injection e with e1 e2
      subst e1 e2;rw[htc j (by omega),gG,htx];rfl
     have ct2:wr.cell? ⟨g,j,none⟩=some (.string ⟨s.text.toArray⟩):=by rw[<-ct,nJ]
     have Ve:=ah hsF;clear hsF;have Vw:=ah (take_snoc' htx);clear htx;have aj3:=ah agJ;clear agJ htm;have j0:(0:Int)<=(j:Int):=by omega
     have j1:(j:Int)<(T.length:Int):=by omega
     have hsz5:=GR.out.size;go_wp2_with (at_builtin;refine Bo rfl _ _ 41 rfl 48 is gB 4 80 Tryz.underlying41 hsi hsz0 hss hsb rfl (by decide) Z5.heap.size _ _ _ rfl HR.out [.int .i64 s.day,.slice fQ s.aj.length eZ,.slice gH s.used.length eX,.slice h_ s.marks.length dW] _ rfl rfl (by intro u hu;simp only[d_,iW,or_false]at hu;rcases hu with rfl|rfl|rfl|rfl<;>rfl) rfl (by unfold maxLen;omega) (by omega) hsz5 ?_;intro v6 w6 h1 h2 h3;refine Hid.out ?_);refine ah ?_;have II:Hid (w6.ownsRow Z5.heap.size 48 4 v6 (R++[s]).length (((R++[s]).zip (ts++[⟨⟨fQ,eZ⟩,⟨gH,eX⟩,⟨h_,dW⟩⟩])).flatMap (λp=>TV.cells p.2 p.1))):=by
      show World.ownsRow _ _ _ _ _ _ _;rw[List.zip_append Pm.out.symm,Fb,lS,vN];simpa [TV.cells,ak.cells]using h1
     have YO:Hid (Below Z5.heap.size Z5 w6):=GR.out.trans h2;have acF:Hid (∀(i:Nat)(x:ak)(t:TV),(R++[s])[i]?=some x->(ts++[⟨⟨fQ,eZ⟩,⟨gH,eX⟩,⟨h_,dW⟩⟩])[i]?=some t->aW Z5 t x/\rC B t):=λi x t hx ht=>by
      by_cases hi:i<R.length
      .rw[lX hi]at hx
       rw[lX (by rw[Pm.out];exact hi)]at ht;exact Mk.out i x t hx ht
      .rw[oG (by omega)]at hx
       rw[oG (by rw[Pm.out];omega),Pm.out]at ht;cases hk:i - R.length with
       |zero=>
        rw[hk]at hx ht;simp at hx ht;rw[<-hx,<-ht];exact⟨aj3.out,aj2.out⟩
       |succ q=>rw[hk]at hx;simp at hx
     have aj4:Hid (∀x∈R++[s],x∈F):=λx hx=>by
      rcases jZ.1 hx with hx|hx
      .exact HRF.out x hx
      .rw[dZ]at hx
       rw[hx];exact Ve.out
     clear h1 h2 h3 hrun ct ct2;go_wp2
     go_roundg (T.length - (j+1))
     case measure=>rw[HG5.out];omega
     case rel=>exact⟨j+1,R++[s],ts++[⟨⟨fQ,eZ⟩,⟨gH,eX⟩,⟨h_,dW⟩⟩],rfl,by omega,by go_num,by show _=_;rw[uf,HRT.out,Vw.out];rfl,aj4,by show _=_;simp[Pm.out],by simp;omega,II,acF,YO⟩
    .obtain rfl:j=T.length:=by omega
     have hrt:=HRT.out;rw[gV]at hrt;obtain⟨A,c,rfl,hAt⟩:=nX HR.out (cells_one _);have aco:Hid (dD B wr ⟨A,c⟩ R):=⟨λb off e=>bF (bF hBw HB0.out.size) (HR.out.lt b (by simp only at e;rw[e];rfl)).1,ts,Pm.out,hAt,λi s t hs ht=>⟨(Mk.out i s t hs ht).1.below GR.out,(Mk.out i s t hs ht).2⟩⟩;have hmem:∀s,s∈F->s∈R:=λs hs=>by
      rw[<-Bp,hrt];exact HTP.out.mem_iff.2 (Bp.2 hs)
     have HML:Hid (∀s,s∈R↔s∈F):=λs=>⟨HRF.out s,hmem s⟩;have ZI:Hid (R.length=F.length):=by
      have h:=congrArg List.length hrt;have h2:=aj1.out;rw[eF]at h;show _=_;omega
     have UN:Hid ((R.map ak.text).Pairwise (· < ·)):=by show List.Pairwise _ _;rw[hrt];exact HTS.out
     have xE:=ah (HB0.out.trans (GR.out.mono HB0.out.size));clear hrt hAt hmem;go_wp2;go_ret;exact⟨R,A,c,rfl,aco.out,UN.out,HML.out,ZI.out,xE.out⟩
  .intro x c kl yd yp w2 cnt2 hkey hlk hv hat hrg2 hlt hg2 hs2 hen
   obtain⟨x',ex,rfl,_⟩:=Maps.keyOf_str Tryz.underlying9 hkey;obtain rfl:x=x':=encStr_inj ex;have hrow2:=mG.out.kept hg2 (Or.inr (row_ne_iter mG.out SG.out).symm);have hcs:=HCS.out;have hnx:=Ae.out;clear hs2;go_wp2_with (at_builtin;refine wpList_append_own _ rfl _ _ 203 rfl w.heap.size 9 ix (.string ⟨#[]⟩) 1 16 Tryz.underlying203 hxi hxz hxs hxb rfl (by decide) _ _ _ rfl (hrow2.alloc _) ⟨w2.heap.size,0,none⟩ 1 1 [encStr x] rfl rfl (cell_one_new _ _ _) (by simp[Value.oneCell',encStr]) (by rw[rT.out]at hcs;unfold maxLen;omega) (by rw[rT.out]at hcs;omega) (by have:=hnx.size;have:=hg2.size;simp;omega) ?_;intro v' w3 hown' hg3 hnil3;go_frame);have hrg3:=(hrg2.alloc _).kept hg3 (row_ne_low hrow2 hbl) (row_ne_iter hrow2 hrg2)
   go_roundw
   case rel=>
    refine⟨_,cnt2,ss++[x],hrg3,by show _<=_;simp;omega,by show World.ownsRow _ _ _ _ _ _ _;simpa using hown',λhv'=>by have:=(hnil3.1 hv').2;omega,HC.out.step hlk hat,?_⟩;exact((hnx.grown hg2 hnx.size (λj hj=>by cases hj;exact hg1.size)).alloc (by have:=hnx.size;have:=hg2.size;omega) _).grown hg3 (by have:=hnx.size;have:=hg2.size;simp;omega) (λj hj=>(hrow2.lt j hj).1)
   case measure=>rw[hrg3.left_eq,SG.out.left_eq];exact hlt
end Go.Proofs.YtpmdedcnbockhaaGreatDoor
