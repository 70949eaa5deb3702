/-
  Step; Init
-/
import Derived.Test.YtpmdedcnbockhaaGreatDoorM17
set_option maxRecDepth 100000
set_option maxHeartbeats 8000000
namespace Go.Proofs.YtpmdedcnbockhaaGreatDoor
section
open Go.RowKit
attribute [local go_sem] jJ stillUpon
def aB.eP(C:aB)(s:ak)(x:Int):Int:=cond (!(C.gF s)) 1 (cond (decide (x< -1)) 1 (cond (decide ((C.acts.length:Int)<=x)) 1 (cond (s.day==C.days) 13 0)))
def aB.next(C:aB)(s:ak)(x:Int):ak:=cond (x== -1) (C.tick s) (match C.acts[x.toNat]? with|some a=>C.act x.toNat a s|none=>s)
def fV:Value:=.agg #[.int .i64 0,.slice none 0 0,.slice none 0 0,.slice none 0 0]
def zK(er:Int)(s:ak)(w:World)(e:Ending)(w':World):Prop:=
 Below w.heap.size w w'/\((er=0/\∃t:TV,e= .returned (.tuple #[t.val s,.int .i64 0])/\bF w' t s/\p9 w.heap.size t)\/(er≠0/\e= .returned (.tuple #[fV,.int .i64 er])))
theorem Ib(v:CV)(C:aB)(tv:TV)(s:ak)(x:Int)(w:World)(hC:cK w v C)(hS:bF w tv s):Calls Tryz.prog 39 #[v.val C,tv.val s,.int .i64 x] w (zK (C.eP s x) (C.next s x) w):=by
 obtain⟨⟨g_,h_⟩,⟨ig,iq⟩,⟨jk,gD⟩,⟨iM,gB⟩,⟨gT,gU⟩⟩:=v;obtain⟨⟨jw,iJ⟩,⟨jN,iC⟩,⟨kP,fK⟩⟩:=tv;have hax:C.acts.length<=9223372036854775807:=by have h1:=hC.acts.2.2.1;have h2:=hC.acts.2.2.2;unfold maxLen at h2;omega
 have HC:=ah hC;clear hC;have HS:=ah hS;clear hS;simp only[CV.val,CV.cells,TV.val,TV.cells,ak.cells];go_enter Tryz.func39,Tryz.ntmps39;go_upto_region 1 with(fail)
 generalize hW0:World.alloc _ _=W0;obtain⟨HB,hh0,iU,zV⟩:=bx3 hW0;clear hW0;obtain⟨j5,j6,kE,lg,lq,l7,ny⟩:=Jt hh0;clear hh0;obtain⟨qW,qX,sW,xG⟩:=kc4 iU;clear iU;obtain⟨Lu,Lv,Lx,LA⟩:=kc4 zV;have agd:=Ej (i:=0) zV;have agf:=Ej (i:=1) zV;have agh:=Ej (i:=2) zV;have agi:=Ej (i:=3) zV;have hl2:=aF zV;clear zV;change Code.wp _ _ _ _ (Bl.val (⟨W0,aC _ _⟩:Bl W0));generalize(⟨W0,aC _ _⟩:Bl W0)=s0;have hsv:∀z:Bl W0,Calls Tryz.prog 68 #[.agg #[.int .i64 C.aJ,.slice g_ C.aj.length h_,.slice ig C.units.length iq,.slice jk C.acts.length gD,.slice iM C.clauses.length gB,.int .i64 C.days,.slice gT C.off.length gU],.agg #[.int .i64 s.day,.slice jw s.aj.length iJ,.slice jN s.used.length iC,.slice kP s.marks.length fK]] z.val (dX (.bool (C.gF s)) z.val):=λz=>yg (⟨⟨g_,h_⟩,⟨ig,iq⟩,⟨jk,gD⟩,⟨iM,gB⟩,⟨gT,gU⟩⟩:CV) C (⟨⟨jw,iJ⟩,⟨jN,iC⟩,⟨kP,fK⟩⟩:TV) s z.val (HC.out.below (ay HB.out z.prop)) (HS.out.below (ay HB.out z.prop));cases q1:C.gF s with
 |false=>
  rw[q1]at hsv;have Td:=ah hsv;clear hsv;go_wp2_with (first|(go_at_call 68;refine(Td.out _).mono ?_;rintro e z ⟨rfl,hz⟩;obtain⟨z,rfl⟩:=Bl.on hz;clear hz));obtain⟨Wf,oh⟩:∃Wf,Hid (Wf=(((z.val.setCell ⟨w.heap.size+1+1,0,none⟩ (.int .i64 0)).setCell ⟨w.heap.size+1+1,1,none⟩ (.slice none 0 0)).setCell ⟨w.heap.size+1+1,2,none⟩ (.slice none 0 0)).setCell ⟨w.heap.size+1+1,3,none⟩ (.slice none 0 0)):=⟨_,rfl⟩;rw[<-oh.out];obtain⟨d0,d1,d2,d3,zL⟩:=pF (Lu _) (Lv _) (Lx _) (LA _) oh.out;refine bodyPost_ret (v:=.tuple #[.agg #[.int .i64 0,.slice none 0 0,.slice none 0 0,.slice none 0 0],.int .i64 1]) (by simp[results,Tryz.results39,go_sem,d0,d1,d2,d3]) rfl ⟨?_,.inr ⟨by simp[aB.eP,q1],by simp[aB.eP,q1,fV]⟩⟩;exact(ay HB.out z.prop).trans (zL.below (by have h1:=HB.out.size;have h2:=z.prop.size;omega) (λk hk=>by omega))
 |true=>
  rw[q1]at hsv;have Td:=ah hsv;clear hsv;cases q2:decide (x< -1)with
  |true=>
   go_wp2_with (first|(go_at_call 68;refine(Td.out _).mono ?_;rintro e z ⟨rfl,hz⟩;obtain⟨z,rfl⟩:=Bl.on hz;clear hz));obtain⟨Wf,oh⟩:∃Wf,Hid (Wf=(((z.val.setCell ⟨w.heap.size+1+1,0,none⟩ (.int .i64 0)).setCell ⟨w.heap.size+1+1,1,none⟩ (.slice none 0 0)).setCell ⟨w.heap.size+1+1,2,none⟩ (.slice none 0 0)).setCell ⟨w.heap.size+1+1,3,none⟩ (.slice none 0 0)):=⟨_,rfl⟩;rw[<-oh.out];obtain⟨d0,d1,d2,d3,zL⟩:=pF (Lu _) (Lv _) (Lx _) (LA _) oh.out;refine bodyPost_ret (v:=.tuple #[.agg #[.int .i64 0,.slice none 0 0,.slice none 0 0,.slice none 0 0],.int .i64 1]) (by simp[results,Tryz.results39,go_sem,d0,d1,d2,d3]) rfl ⟨?_,.inr ⟨by simp[aB.eP,q1,q2],by simp[aB.eP,q1,q2,fV]⟩⟩;exact(ay HB.out z.prop).trans (zL.below (by have h1:=HB.out.size;have h2:=z.prop.size;omega) (λk hk=>by omega))
  |false=>
   cases q3:decide ((C.acts.length:Int)<=x)with
   |true=>
    go_wp2_with (first|(go_at_call 68;refine(Td.out _).mono ?_;rintro e z ⟨rfl,hz⟩;obtain⟨z,rfl⟩:=Bl.on hz;clear hz));obtain⟨Wf,oh⟩:∃Wf,Hid (Wf=(((z.val.setCell ⟨w.heap.size+1+1,0,none⟩ (.int .i64 0)).setCell ⟨w.heap.size+1+1,1,none⟩ (.slice none 0 0)).setCell ⟨w.heap.size+1+1,2,none⟩ (.slice none 0 0)).setCell ⟨w.heap.size+1+1,3,none⟩ (.slice none 0 0)):=⟨_,rfl⟩;rw[<-oh.out];obtain⟨d0,d1,d2,d3,zL⟩:=pF (Lu _) (Lv _) (Lx _) (LA _) oh.out;refine bodyPost_ret (v:=.tuple #[.agg #[.int .i64 0,.slice none 0 0,.slice none 0 0,.slice none 0 0],.int .i64 1]) (by simp[results,Tryz.results39,go_sem,d0,d1,d2,d3]) rfl ⟨?_,.inr ⟨by simp[aB.eP,q1,q2,q3],by simp[aB.eP,q1,q2,q3,fV]⟩⟩;exact(ay HB.out z.prop).trans (zL.below (by have h1:=HB.out.size;have h2:=z.prop.size;omega) (λk hk=>by omega))
   |false=>
    cases q4:(s.day==C.days)with
    |true=>
     go_wp2_with (first|(go_at_call 68;refine(Td.out _).mono ?_;rintro e z ⟨rfl,hz⟩;obtain⟨z,rfl⟩:=Bl.on hz;clear hz));obtain⟨Wf,oh⟩:∃Wf,Hid (Wf=(((z.val.setCell ⟨w.heap.size+1+1,0,none⟩ (.int .i64 0)).setCell ⟨w.heap.size+1+1,1,none⟩ (.slice none 0 0)).setCell ⟨w.heap.size+1+1,2,none⟩ (.slice none 0 0)).setCell ⟨w.heap.size+1+1,3,none⟩ (.slice none 0 0)):=⟨_,rfl⟩;rw[<-oh.out];obtain⟨d0,d1,d2,d3,zL⟩:=pF (Lu _) (Lv _) (Lx _) (LA _) oh.out;refine bodyPost_ret (v:=.tuple #[.agg #[.int .i64 0,.slice none 0 0,.slice none 0 0,.slice none 0 0],.int .i64 13]) (by simp[results,Tryz.results39,go_sem,d0,d1,d2,d3]) rfl ⟨?_,.inr ⟨by simp[aB.eP,q1,q2,q3,q4],by simp[aB.eP,q1,q2,q3,q4,fV]⟩⟩;exact(ay HB.out z.prop).trans (zL.below (by have h1:=HB.out.size;have h2:=z.prop.size;omega) (λk hk=>by omega))
    |false=>
     have hO:=(jR C s).1 q1;have HN:=ah hO.needs;have hlh:=HN.out.lh;have hlu:=HN.out.lu;have hlm:=HN.out.lm;have HO:=ah hO;clear hO;go_wp2_with (first|(go_at_call 68;refine(Td.out _).mono ?_;rintro e z ⟨rfl,hz⟩;obtain⟨z,rfl⟩:=Bl.on hz;clear hz));have hp1:=z.prop;have X3:=j5 z;have X4:=j6 z;have X5:=kE z;have X6:=lg z;have Ve:=lq z;have X7:=l7 z;have X8:=ny z;have X9:=qW z;have Vf:=qX z;have Vg:=sW z;have Vh:=xG z;have ac_:=Lu z;have ada:=Lv z;have adb:=Lx z;have ade:=LA z;have e0:=agd z;have e1:=agf z;have e2:=agh z;have e3:=agi z;generalize z.val=W1 at hp1 X3 X4 X5 X6 Ve X7 X8 X9 Vf Vg Vh ac_ ada adb ade e0 e1 e2 e3⊢;clear j5 j6 kE lg lq l7 ny qW qX sW xG Lu Lv Lx LA agd agf agh agi Td;have nC:Hid (Below w.heap.size w W1):=ay HB.out hp1;have hs1:=hp1.size;have AB:=ah (HC.out.below nC.out);have adf:∀y:Bl W1,y.val.cell? ⟨w.heap.size,0,none⟩=some (.int .i64 C.aJ):=λy=>y.cell X3;have adg:∀y:Bl W1,y.val.cell? ⟨w.heap.size,1,none⟩=some (.slice g_ C.aj.length h_):=λy=>y.cell X4;have adh:∀y:Bl W1,y.val.cell? ⟨w.heap.size,2,none⟩=some (.slice ig C.units.length iq):=λy=>y.cell X5;have adi:∀y:Bl W1,y.val.cell? ⟨w.heap.size,3,none⟩=some (.slice jk C.acts.length gD):=λy=>y.cell X6;have adj:∀y:Bl W1,y.val.cell? ⟨w.heap.size,4,none⟩=some (.slice iM C.clauses.length gB):=λy=>y.cell Ve;have adk:∀y:Bl W1,y.val.cell? ⟨w.heap.size,5,none⟩=some (.int .i64 C.days):=λy=>y.cell X7;have adl:∀y:Bl W1,y.val.cell? ⟨w.heap.size,6,none⟩=some (.slice gT C.off.length gU):=λy=>y.cell X8;have ajF:∀y:Bl W1,y.val.cell? ⟨w.heap.size+1,0,none⟩=some (.int .i64 s.day):=λy=>y.cell X9;have ajG:∀y:Bl W1,y.val.cell? ⟨w.heap.size+1,1,none⟩=some (.slice jw s.aj.length iJ):=λy=>y.cell Vf;have ajH:∀y:Bl W1,y.val.cell? ⟨w.heap.size+1,2,none⟩=some (.slice jN s.used.length iC):=λy=>y.cell Vg;have ajI:∀y:Bl W1,y.val.cell? ⟨w.heap.size+1,3,none⟩=some (.slice kP s.marks.length fK):=λy=>y.cell Vh;obtain⟨ii,hii,hiz,his,hib⟩:=info_parts' (P:=Tryz.prog) (t:=3) (z:=some (.int .i64 0)) (s:=1) (b:=8) (by kernel_rfl);obtain⟨ib,hbi,hbz,hbs,hbb⟩:=info_parts' (P:=Tryz.prog) (t:=4) (z:=some (.bool false)) (s:=1) (b:=1) (by kernel_rfl);obtain⟨im,hmi,hmz,hms,hmb⟩:=info_parts' (P:=Tryz.prog) (t:=51) (z:=some (.agg eO.cells.toArray)) (s:=5) (b:=40) (by kernel_rfl);refine yJ (s:=(⟨W1,aC _ _⟩:Bl W1)) 17 (λi=>match i with
      |6=>some (wL W1 3 s.aj.length (madeCells (Value.cells (.int .i64 0)) (s.aj.length*1)))
      |10=>some (wL W1 4 s.used.length (madeCells (Value.cells (.bool false)) (s.used.length*1)))
      |14=>some (wL W1 51 s.marks.length (madeCells (Value.cells (.agg eO.cells.toArray)) (s.marks.length*5)))
      |_=>none) (by simp) (by kernel_rfl) (by kernel_rfl) ?keeps ?_
     case keeps=>
      intro i sp h;split at h
      .injection h with h;subst h;exact mF _ _ _ _
      .injection h with h;subst h;exact mF _ _ _ _
      .injection h with h;subst h;exact mF _ _ _ _
      .cases h
     simp only[fP,bX,fZ,bY];repeat(refine m_ rfl (λK hK=>?_);go_simp;refine hK _ ?_;clear hK K)
     refine vL _ rfl rfl (vR 22 (.tmp 36) (.tmp 36) rfl 3 ii (.int .i64 0) 1 Tryz.underlying22 hii hiz his s.aj.length rfl rfl (by rw[hib];omega) (by omega)) ?_;rintro _ ⟨gh,hgh,rfl⟩;repeat(refine m_ rfl (λK hK=>?_);go_simp;refine hK _ ?_;clear hK K)
     refine vL _ rfl rfl (vR 45 (.tmp 40) (.tmp 40) rfl 4 ib (.bool false) 1 Tryz.underlying45 hbi hbz hbs s.used.length rfl rfl (by rw[hbb];omega) (by omega)) ?_;rintro _ ⟨gu,hgu,rfl⟩;repeat(refine m_ rfl (λK hK=>?_);go_simp;refine hK _ ?_;clear hK K)
     refine vL _ rfl rfl (vR 46 (.tmp 44) (.tmp 44) rfl 51 im (.agg eO.cells.toArray) 5 Tryz.underlying46 hmi hmz hms s.marks.length rfl rfl (by rw[hmb];omega) (by omega)) ?_;rintro _ ⟨gm,hgm,rfl⟩;repeat(refine m_ rfl (λK hK=>?_);go_simp;refine hK _ ?_;clear hK K)
     refine Tj ?_;rintro z2 ⟨⟨⟨_,hA⟩,hB⟩,hD⟩;have hh:=hA gh rfl;have hu:=hB gu rfl;have hm:=hD gm rfl;clear hA hB hD;gi_wp2;obtain⟨W5,oO⟩:∃W5,Hid (W5=z2.val.alloc (.cells #[.int .i64 C.aJ,.slice g_ C.aj.length h_,.slice ig C.units.length iq,.slice jk C.acts.length gD,.slice iM C.clauses.length gB,.int .i64 C.days,.slice gT C.off.length gU,.int .i64 s.day,.slice (some ⟨gh,0,none⟩) s.aj.length s.aj.length,.slice (some ⟨gu,0,none⟩) s.used.length s.used.length,.slice (some ⟨gm,0,none⟩) s.marks.length s.marks.length] 129)):=⟨_,rfl⟩;rw[<-oO.out];obtain⟨g,hg⟩:∃g,g=z2.val.heap.size:=⟨_,rfl⟩;rw[<-hg];have BH:Hid (Below W1.heap.size W1 W5):=by show Below _ _ _;rw[oO.out];exact aN z2.prop _
     have Mj:aK W1 W5 g (⟨⟨g_,h_⟩,⟨ig,iq⟩,⟨jk,gD⟩,⟨iM,gB⟩,⟨gT,gU⟩⟩:CV) C (⟨⟨some ⟨gh,0,none⟩,s.aj.length⟩,⟨some ⟨gu,0,none⟩,s.used.length⟩,⟨some ⟨gm,0,none⟩,s.marks.length⟩⟩:TV) ⟨s.day,List.replicate s.aj.length 0,List.replicate s.used.length false,List.replicate s.marks.length eO⟩ gh gu gm:=by
      refine⟨?_,AB.out,BH.out,?_,?_,?_,by rw[hg];exact z2.prop.size,hgh,hgu,hgm⟩
      .rw[oO.out,hg]
       simp only[nI];exact bQ z2.val _
      .have h:W5.heap[gh]?=some (.cells (madeCells (Value.cells (.int .i64 0)) (s.aj.length*1)) 3 (0,0)):=by rw[oO.out];exact(Below.heap_alloc _ _ _ (aF hh)).trans hh
       have h2:=dR.of_block (size:=1) (n:=s.aj.length) h (size_madeCells _ _) (by unfold maxLen;omega);rw[U8]at h2;simpa only[nI]using h2
      .have h:W5.heap[gu]?=some (.cells (madeCells (Value.cells (.bool false)) (s.used.length*1)) 4 (0,0)):=by rw[oO.out];exact(Below.heap_alloc _ _ _ (aF hu)).trans hu
       have h2:=dR.of_block (size:=1) (n:=s.used.length) h (size_madeCells _ _) (by unfold maxLen;omega);rw[Bf]at h2;simpa only[nI]using h2
      .have h:W5.heap[gm]?=some (.cells (madeCells (Value.cells (.agg eO.cells.toArray)) (s.marks.length*5)) 51 (0,0)):=by rw[oO.out];exact(Below.heap_alloc _ _ _ (aF hm)).trans hm
       have h2:=dR.of_block (size:=5) (n:=s.marks.length) h (size_madeCells _ _) (by unfold maxLen;omega);rw[show(Value.cells (.agg eO.cells.toArray))=eO.cells.toArray from rfl,H7]at h2;simpa only[nI]using h2
     have HH5:=ah Mj;clear Mj hh hu hm oO BH adf adg adh adi adj adk adl ajF ajG ajH ajI;have HG:=ah hg;clear hg;go_wp2;have r1:∀y:Bl W5,y.val.cell? ⟨g,8,none⟩=some (.slice (some ⟨gh,0,none⟩) s.aj.length s.aj.length):=λy=>by
      have h:=(HH5.out.on y.prop).cell 8;simp only[nI]at h;exact h
     have r2:∀y:Bl W5,y.val.cell? ⟨w.heap.size+1,1,none⟩=some (.slice jw s.aj.length iJ):=λy=>y.cell (((bB HH5.out.below).1 _ _ (by omega)).trans Vf);refine nP (s:=(⟨W5,aC _ _⟩:Bl W5)) 7 (by simp) (by kernel_rfl) (by kernel_rfl) ?_;simp only[fP,bX,fZ,bY];repeat(go_big_quiet_step (fail))
     refine aS ?_;rintro _ ⟨y,rfl⟩;clear r1 r2;refine nV _ rfl (.tmp 53) (.tmp 55) 22 rfl 3 ii 1 Tryz.underlying22 hii his rfl rfl (by
      have h:=(HH5.out.on y.prop).aj;simp only[nI]at h;exact h) ((HS.out.aj.1).below (by omega) (ay nC.out (ay HH5.out.below y.prop))) ?_
     intro W6 hr hu;have hWn:aK W1 W6 g (⟨⟨g_,h_⟩,⟨ig,iq⟩,⟨jk,gD⟩,⟨iM,gB⟩,⟨gT,gU⟩⟩:CV) C (⟨⟨some ⟨gh,0,none⟩,s.aj.length⟩,⟨some ⟨gu,0,none⟩,s.used.length⟩,⟨some ⟨gm,0,none⟩,s.marks.length⟩⟩:TV) ⟨s.day,s.aj,List.replicate s.used.length false,List.replicate s.marks.length eO⟩ gh gu gm:=(HH5.out.on y.prop).Ro s.aj (by simp) (by simpa only[nI]using hr) hu;have zJ:=ah hWn;clear hWn hr hu HH5;clear y;refine wpListIn_nil ?_
     go_frame
     go_wp2;have r1:∀y:Bl W6,y.val.cell? ⟨g,9,none⟩=some (.slice (some ⟨gu,0,none⟩) s.used.length s.used.length):=λy=>by
      have h:=(zJ.out.on y.prop).cell 9;simp only[nI]at h;exact h
     have r2:∀y:Bl W6,y.val.cell? ⟨w.heap.size+1,2,none⟩=some (.slice jN s.used.length iC):=λy=>y.cell (((bB zJ.out.below).1 _ _ (by omega)).trans Vg);refine nP (s:=(⟨W6,aC _ _⟩:Bl W6)) 7 (by simp) (by kernel_rfl) (by kernel_rfl) ?_;simp only[fP,bX,fZ,bY];repeat(go_big_quiet_step (fail))
     refine aS ?_;rintro _ ⟨y,rfl⟩;clear r1 r2;refine nV _ rfl (.tmp 61) (.tmp 63) 45 rfl 4 ib 1 Tryz.underlying45 hbi hbs rfl rfl (by
      have h:=(zJ.out.on y.prop).used;simp only[nI]at h;exact h) ((HS.out.used.1).below (by omega) (ay nC.out (ay zJ.out.below y.prop))) ?_
     intro W7 hr hu;have hWn:aK W1 W7 g (⟨⟨g_,h_⟩,⟨ig,iq⟩,⟨jk,gD⟩,⟨iM,gB⟩,⟨gT,gU⟩⟩:CV) C (⟨⟨some ⟨gh,0,none⟩,s.aj.length⟩,⟨some ⟨gu,0,none⟩,s.used.length⟩,⟨some ⟨gm,0,none⟩,s.marks.length⟩⟩:TV) ⟨s.day,s.aj,s.used,List.replicate s.marks.length eO⟩ gh gu gm:=(zJ.out.on y.prop).aai s.used (by simp) (by simpa only[nI]using hr) hu;have BG:=ah hWn;clear hWn hr hu zJ;clear y;refine wpListIn_nil ?_
     go_frame
     go_wp2;have r1:∀y:Bl W7,y.val.cell? ⟨g,10,none⟩=some (.slice (some ⟨gm,0,none⟩) s.marks.length s.marks.length):=λy=>by
      have h:=(BG.out.on y.prop).cell 10;simp only[nI]at h;exact h
     have r2:∀y:Bl W7,y.val.cell? ⟨w.heap.size+1,3,none⟩=some (.slice kP s.marks.length fK):=λy=>y.cell (((bB BG.out.below).1 _ _ (by omega)).trans Vh);refine nP (s:=(⟨W7,aC _ _⟩:Bl W7)) 7 (by simp) (by kernel_rfl) (by kernel_rfl) ?_;simp only[fP,bX,fZ,bY];repeat(go_big_quiet_step (fail))
     refine aS ?_;rintro _ ⟨y,rfl⟩;clear r1 r2;refine nV _ rfl (.tmp 69) (.tmp 71) 46 rfl 51 im 5 Tryz.underlying46 hmi hms rfl rfl (by
      have h:=(BG.out.on y.prop).marks;simp only[nI]at h;exact h) ((HS.out.marks.1).below (by omega) (ay nC.out (ay BG.out.below y.prop))) ?_
     intro W8 hr hu;have hWn:aK W1 W8 g (⟨⟨g_,h_⟩,⟨ig,iq⟩,⟨jk,gD⟩,⟨iM,gB⟩,⟨gT,gU⟩⟩:CV) C (⟨⟨some ⟨gh,0,none⟩,s.aj.length⟩,⟨some ⟨gu,0,none⟩,s.used.length⟩,⟨some ⟨gm,0,none⟩,s.marks.length⟩⟩:TV) ⟨s.day,s.aj,s.used,s.marks⟩ gh gu gm:=(BG.out.on y.prop).Gp s.marks (by simp) (by simpa only[nI]using hr) hu;have HW8:=ah hWn;clear hWn hr hu BG;clear y;refine wpListIn_nil ?_
     go_frame
     cases q5:(x== -1)with
     |true=>
      have HT:=ah (XO HW8.out HO.out.lm HN.out.hin HN.out.hro HN.out.hki HN.out.hof HN.out.hol HN.out.hd0 HN.out.hd1 HN.out.hle);go_wp2_with (go_at_call 69;refine HT.out.mono ?_;rintro e zc ⟨rfl,hz1,hz2⟩;refine Hid.out ?_);refine ah ?_;generalize hs2:C.tick ⟨s.day,s.aj,s.used,s.marks⟩=s2 at hz1;have HS2:=ah hs2;clear hs2;have n7:zc.cell? ⟨g,7,none⟩=some (.int .i64 s2.day):=hz1.cell 7;have n8:zc.cell? ⟨g,8,none⟩=some (.slice (some ⟨gh,0,none⟩) s2.aj.length s.aj.length):=hz1.cell 8;have n9:zc.cell? ⟨g,9,none⟩=some (.slice (some ⟨gu,0,none⟩) s2.used.length s.used.length):=hz1.cell 9;have n10:zc.cell? ⟨g,10,none⟩=some (.slice (some ⟨gm,0,none⟩) s2.marks.length s.marks.length):=hz1.cell 10;have t0:=((bB hz1.below).1 (w.heap.size+1+1) 0 (by omega)).trans ac_;have u0:=((bB hz1.below).2 (w.heap.size+1+1) 0 (by omega)).trans e0;have t1:=((bB hz1.below).1 (w.heap.size+1+1) 1 (by omega)).trans ada;have u1:=((bB hz1.below).2 (w.heap.size+1+1) 1 (by omega)).trans e1;have t2:=((bB hz1.below).1 (w.heap.size+1+1) 2 (by omega)).trans adb;have u2:=((bB hz1.below).2 (w.heap.size+1+1) 2 (by omega)).trans e2;have t3:=((bB hz1.below).1 (w.heap.size+1+1) 3 (by omega)).trans ade;have u3:=((bB hz1.below).2 (w.heap.size+1+1) 3 (by omega)).trans e3;have HZ:=ah hz1;clear hz1;go_wp2;obtain⟨Wf,oh⟩:∃Wf,Hid (Wf=(((zc.setCell ⟨w.heap.size+1+1,0,none⟩ (.int .i64 s2.day)).setCell ⟨w.heap.size+1+1,1,none⟩ (.slice (some ⟨gh,0,none⟩) s2.aj.length s.aj.length)).setCell ⟨w.heap.size+1+1,2,none⟩ (.slice (some ⟨gu,0,none⟩) s2.used.length s.used.length)).setCell ⟨w.heap.size+1+1,3,none⟩ (.slice (some ⟨gm,0,none⟩) s2.marks.length s.marks.length)):=⟨_,rfl⟩;rw[<-oh.out];obtain⟨d0,d1,d2,d3,zL⟩:=pF t0 t1 t2 t3 oh.out;refine bodyPost_ret (v:=.tuple #[.agg #[.int .i64 s2.day,.slice (some ⟨gh,0,none⟩) s2.aj.length s.aj.length,.slice (some ⟨gu,0,none⟩) s2.used.length s.used.length,.slice (some ⟨gm,0,none⟩) s2.marks.length s.marks.length],.int .i64 0]) (by simp[results,Tryz.results39,go_sem,d0,d1,d2,d3]) rfl ⟨?_,.inl ⟨by simp only[aB.eP,q1,q2,q3,q4,Bool.not_true,cond_false],(⟨⟨some ⟨gh,0,none⟩,s.aj.length⟩,⟨some ⟨gu,0,none⟩,s.used.length⟩,⟨some ⟨gm,0,none⟩,s.marks.length⟩⟩:TV),?_,?_,mG (bL nC.out.size HZ.out.newH),mG (bL nC.out.size HZ.out.AJ),mG (bL nC.out.size HZ.out.vB)⟩⟩
      .exact(nC.out.trans (HZ.out.below.mono nC.out.size)).trans (zL.below (by have h1:=nC.out.size;have h2:=HZ.out.below.size;omega) (λk hk=>by omega))
      .rw[show C.next s x=s2 by simp only[aB.next,q5,cond_true];exact HS2.out]
       rfl
      .rw[show C.next s x=s2 by simp only[aB.next,q5,cond_true];exact HS2.out]
       exact HZ.out.Ml zL (λk hk=>by omega)
     |false=>
      obtain⟨i,rfl⟩:∃i:Nat,x=i:=by
       have h1:x≠ -1:=by simpa using q5
       have h2:¬x< -1:=by simpa using q2
       exact⟨x.toNat,by omega⟩
      have hil:i<C.acts.length:=by
       have h3:¬(C.acts.length:Int)<=(i:Int):=by simpa using q3
       omega
      obtain⟨a,ha⟩:∃a,C.acts[i]?=some a:=⟨_,aW hil⟩;have hact:=(aB.ok HO.out.con).act (bT ha);have adn:=HO.out.lh;have HT:=ah (aah HW8.out i a ha (by show i<s.used.length;rw[HO.out.lu];exact hil) (by show a.kind≠1->0<=a.give/\a.give<s.aj.length;rw[adn];exact hact.give) HO.out.lm HN.out.hin HN.out.hro HN.out.hki (by show a.role≠ -1->0<=a.role/\a.role<s.aj.length;rw[adn];exact hact.role) HN.out.hgo);have HA:=ah ha;clear ha hact adn;go_wp2_with (go_at_call 70;refine HT.out.mono ?_;rintro e zc ⟨rfl,hz1,hz2⟩;refine Hid.out ?_);refine ah ?_;generalize hs2:C.act i a ⟨s.day,s.aj,s.used,s.marks⟩=s2 at hz1;have HS2:=ah hs2;clear hs2;have n7:zc.cell? ⟨g,7,none⟩=some (.int .i64 s2.day):=hz1.cell 7;have n8:zc.cell? ⟨g,8,none⟩=some (.slice (some ⟨gh,0,none⟩) s2.aj.length s.aj.length):=hz1.cell 8;have n9:zc.cell? ⟨g,9,none⟩=some (.slice (some ⟨gu,0,none⟩) s2.used.length s.used.length):=hz1.cell 9;have n10:zc.cell? ⟨g,10,none⟩=some (.slice (some ⟨gm,0,none⟩) s2.marks.length s.marks.length):=hz1.cell 10;have t0:=((bB hz1.below).1 (w.heap.size+1+1) 0 (by omega)).trans ac_;have u0:=((bB hz1.below).2 (w.heap.size+1+1) 0 (by omega)).trans e0;have t1:=((bB hz1.below).1 (w.heap.size+1+1) 1 (by omega)).trans ada;have u1:=((bB hz1.below).2 (w.heap.size+1+1) 1 (by omega)).trans e1;have t2:=((bB hz1.below).1 (w.heap.size+1+1) 2 (by omega)).trans adb;have u2:=((bB hz1.below).2 (w.heap.size+1+1) 2 (by omega)).trans e2;have t3:=((bB hz1.below).1 (w.heap.size+1+1) 3 (by omega)).trans ade;have u3:=((bB hz1.below).2 (w.heap.size+1+1) 3 (by omega)).trans e3;have HZ:=ah hz1;clear hz1;go_wp2;obtain⟨Wf,oh⟩:∃Wf,Hid (Wf=(((zc.setCell ⟨w.heap.size+1+1,0,none⟩ (.int .i64 s2.day)).setCell ⟨w.heap.size+1+1,1,none⟩ (.slice (some ⟨gh,0,none⟩) s2.aj.length s.aj.length)).setCell ⟨w.heap.size+1+1,2,none⟩ (.slice (some ⟨gu,0,none⟩) s2.used.length s.used.length)).setCell ⟨w.heap.size+1+1,3,none⟩ (.slice (some ⟨gm,0,none⟩) s2.marks.length s.marks.length)):=⟨_,rfl⟩;rw[<-oh.out];obtain⟨d0,d1,d2,d3,zL⟩:=pF t0 t1 t2 t3 oh.out;refine bodyPost_ret (v:=.tuple #[.agg #[.int .i64 s2.day,.slice (some ⟨gh,0,none⟩) s2.aj.length s.aj.length,.slice (some ⟨gu,0,none⟩) s2.used.length s.used.length,.slice (some ⟨gm,0,none⟩) s2.marks.length s.marks.length],.int .i64 0]) (by simp[results,Tryz.results39,go_sem,d0,d1,d2,d3]) rfl ⟨?_,.inl ⟨by simp only[aB.eP,q1,q2,q3,q4,Bool.not_true,cond_false],(⟨⟨some ⟨gh,0,none⟩,s.aj.length⟩,⟨some ⟨gu,0,none⟩,s.used.length⟩,⟨some ⟨gm,0,none⟩,s.marks.length⟩⟩:TV),?_,?_,mG (bL nC.out.size HZ.out.newH),mG (bL nC.out.size HZ.out.AJ),mG (bL nC.out.size HZ.out.vB)⟩⟩
      .exact(nC.out.trans (HZ.out.below.mono nC.out.size)).trans (zL.below (by have h1:=nC.out.size;have h2:=HZ.out.below.size;omega) (λk hk=>by omega))
      .rw[show C.next s (i:Int)=s2 by simp only[aB.next,q5,cond_false,xg,HA.out];exact HS2.out]
       rfl
      .rw[show C.next s (i:Int)=s2 by simp only[aB.next,q5,cond_false,xg,HA.out];exact HS2.out]
       exact HZ.out.Ml zL (λk hk=>by omega)
end
open Go.RowKit Go.Shelf
attribute [local go_sem] jJ stillUpon bH
theorem dR.below'{w w':World}{e:TypeId}{size n g:Nat}{v:Value}{xs:List Value}(h:dR w e size v n xs (some g))(hb:Below w.heap.size w w'):dR w' e size v n xs (some g):=
 h.keep (aH.of_below hb) (λk hk hle=>by have:=h.lt hk;omega)
def rP(W0:World)(l:List Int):bK:=
 ⟨λv=>∃b c,W0.heap.size<=b/\v= .slice (some ⟨b,0,none⟩) l.length c,λv z=>∀b c,v= .slice (some ⟨b,0,none⟩) l.length c->dR z 3 1 v l.length (aY l) (some b)⟩
theorem Fv(W0:World)(l:List Int):(rP W0 l).Keeps:=λ_ _ _ h hb b c hv=>(h b c hv).below' hb
theorem Vi{W0:World}(z:Bl W0){A:Option Addr}{c:Nat}{l:List Int}(h:At z.val 1 A l.length c (aY l))(h0:0<l.length)(hl:l.length*8<=140737488355328):
 Calls Tryz.prog 66 #[.slice A l.length c] z.val (λe w''=>∃v,e= .returned v/\(rP W0 l).V v/\(rP W0 l).S v w''/\Below z.val.heap.size z.val w''):=by
 obtain⟨b,off,rfl,hc⟩:=h.GN h0;refine(Any.slices_Clone_int Tryz.laysClone b off l.length c l z.val (bJ _) hl hc).mono ?_;rintro e w' ⟨v',rfl,hown,hnn,hb⟩;rw[gW]at hown;rcases hown.2 with⟨h1,_⟩|⟨g,cap,cur,rfl,h2,h3,h4,h5,h6,h7⟩
 .exact absurd h1 hnn
 .refine⟨_,rfl,⟨g,cap,bL z.prop.size h2,rfl⟩,?_,hb⟩
  intro b' c' hv;simp only[Value.slice.injEq,Option.some.injEq,Addr.mk.injEq,and_true,true_and]at hv;obtain⟨rfl,rfl⟩:=hv;exact⟨hown.1,.inr ⟨g,0,cap,cur,rfl,rfl,h3,h4,h5,by omega,by simpa [aY]using h7⟩⟩
def jD(C:aB)(k:Nat):List aD:=(C.clauses.take k).map jL++List.replicate (C.clauses.length - k) eO
theorem yS(C:aB)(k:Nat)(hk:k<=C.clauses.length):(jD C k).length=C.clauses.length:=by simp[jD];omega
theorem Mq(C:aB):jD C 0=List.replicate C.clauses.length eO:=by simp[jD]
theorem EM(C:aB):jD C C.clauses.length=C.clauses.map jL:=by simp[jD]
theorem yT{C:aB}{k:Nat}(hk:k<C.clauses.length):(jD C k)[k]?=some eO:=by
 rw[jD,qL (by simp;omega),BK,if_pos (by simp;omega)]
theorem Mr{C:aB}{k:Nat}{c:aU}(hc:C.clauses[k]?=some c):jD C (k+1)=(jD C k).set k (jL c):=by
 have hk:k<C.clauses.length:=(bC.1 hc).1;apply kM;intro j;rw[j4];by_cases hj:k=j
 .subst hj
  rw[if_pos rfl,if_pos (by rw[yS C k (by omega)];exact hk),jD,nG (by simp;omega),fM,lU,if_pos (by omega),hc];rfl
 .rw[if_neg hj]
  unfold jD;by_cases h2:j<k
  .rw[nG (by simp;omega),nG (by simp;omega),fM,fM,lU,lU,if_pos (by omega),if_pos h2]
  .rw[qL (by simp;omega),qL (by simp;omega),BK,BK]
   simp only[dS,mV];rw[Nat.min_eq_left (by omega),Nat.min_eq_left (by omega)];by_cases h3:j<C.clauses.length
   .rw[if_pos (by omega),if_pos (by omega)]
   .rw[if_neg (by omega),if_neg (by omega)]
theorem OL{C:aB}(h:C.valid=true):C.errno=0:=by
 simp only[aB.valid,bP,iV]at h;simp[aB.errno,h.1,h.2.1,h.2.2]
theorem Vj{C:aB}(h:C.valid=false):(C.errno !=0)=true:=by
 unfold aB.valid at h;unfold aB.errno;cases ho:C.over with
 |true=>rfl
 |false=>
  rw[ho]at h;simp only[Bool.not_false,Bool.true_and]at h;rw[h];rfl
theorem KT(v:CV)(C:aB)(w:World)(hC:cK w v C):Calls Tryz.prog 38 #[v.val C] w (zK (cond C.valid 0 1) C.first w):=by
 obtain⟨⟨g_,h_⟩,⟨ig,iq⟩,⟨jk,gD⟩,⟨iM,gB⟩,⟨gT,gU⟩⟩:=v;have HC:=ah hC;clear hC;simp only[CV.val,CV.cells];go_enter Tryz.func38,Tryz.ntmps38;go_upto_region 1 with(fail)
 generalize hW0:World.alloc _ _=W0;obtain⟨HB,hh0,iU⟩:=Ko hW0;clear hW0;obtain⟨j5,j6,kE,lg,lq,l7,ny⟩:=Jt hh0;clear hh0;obtain⟨qW,qX,sW,xG⟩:=kc4 iU;have agj:=Ej (i:=0) iU;have agk:=Ej (i:=1) iU;have agl:=Ej (i:=2) iU;have agm:=Ej (i:=3) iU;have hl1:=aF iU;clear iU;change Code.wp _ _ _ _ (Bl.val (⟨W0,aC _ _⟩:Bl W0));generalize(⟨W0,aC _ _⟩:Bl W0)=s0;have hcv:∀z:Bl W0,Calls Tryz.prog 31 #[.agg #[.int .i64 C.aJ,.slice g_ C.aj.length h_,.slice ig C.units.length iq,.slice jk C.acts.length gD,.slice iM C.clauses.length gB,.int .i64 C.days,.slice gT C.off.length gU]] z.val (FI C.errno z.val):=λz=>wm (⟨⟨g_,h_⟩,⟨ig,iq⟩,⟨jk,gD⟩,⟨iM,gB⟩,⟨gT,gU⟩⟩:CV) C z.val (HC.out.below (ay HB.out z.prop));cases q1:C.valid with
 |false=>
  have hne:=Vj q1;generalize C.errno=en at hcv hne;have UC:=ah hcv;clear hcv;go_wp2_with (first|(go_at_call 31;refine(UC.out _).mono ?_;rintro e z ⟨nn,rfl,hz⟩;obtain⟨z,rfl⟩:=Bl.on hz;clear hz));obtain⟨Wf,oh⟩:∃Wf,Hid (Wf=(((z.val.setCell ⟨w.heap.size+1,0,none⟩ (.int .i64 0)).setCell ⟨w.heap.size+1,1,none⟩ (.slice none 0 0)).setCell ⟨w.heap.size+1,2,none⟩ (.slice none 0 0)).setCell ⟨w.heap.size+1,3,none⟩ (.slice none 0 0)):=⟨_,rfl⟩;rw[<-oh.out];obtain⟨d0,d1,d2,d3,zL⟩:=pF (qW _) (qX _) (sW _) (xG _) oh.out;refine bodyPost_ret (v:=.tuple #[.agg #[.int .i64 0,.slice none 0 0,.slice none 0 0,.slice none 0 0],.int .i64 1]) (by simp[results,Tryz.results38,go_sem,d0,d1,d2,d3]) rfl ⟨?_,.inr ⟨by rw[q1];decide,by rw[q1];rfl⟩⟩;exact(ay HB.out z.prop).trans (zL.below (by have h1:=HB.out.size;have h2:=z.prop.size;omega) (λk hk=>by omega))
 |true=>
  rw[OL q1]at hcv;have UC:=ah hcv;clear hcv;have hO:=aB.ok q1;have hlh:=hO.Rb;have aov:=hO.roles;have hlu:=hO.KN;have hlm:=hO.Hl;have HN:=ah (Co q1).needs;have HO:=ah hO;clear hO;go_wp2_with (first|(go_at_call 31;refine(UC.out _).mono ?_;rintro e z ⟨nn,rfl,hz⟩;obtain⟨z,rfl⟩:=Bl.on hz;clear hz));have hp1:=z.prop;have X3:=j5 z;have X4:=j6 z;have X5:=kE z;have X6:=lg z;have Ve:=lq z;have X7:=l7 z;have X8:=ny z;have X9:=qW z;have Vf:=qX z;have Vg:=sW z;have Vh:=xG z;have e0:=agj z;have e1:=agk z;have e2:=agl z;have e3:=agm z;generalize z.val=W1 at hp1 X3 X4 X5 X6 Ve X7 X8 X9 Vf Vg Vh e0 e1 e2 e3⊢;clear j5 j6 kE lg lq l7 ny qW qX sW xG agj agk agl agm UC;have nC:Hid (Below w.heap.size w W1):=ay HB.out hp1;have hs1:=hp1.size;have AB:=ah (HC.out.below nC.out);have adf:∀y:Bl W1,y.val.cell? ⟨w.heap.size,0,none⟩=some (.int .i64 C.aJ):=λy=>y.cell X3;have adg:∀y:Bl W1,y.val.cell? ⟨w.heap.size,1,none⟩=some (.slice g_ C.aj.length h_):=λy=>y.cell X4;have adh:∀y:Bl W1,y.val.cell? ⟨w.heap.size,2,none⟩=some (.slice ig C.units.length iq):=λy=>y.cell X5;have adi:∀y:Bl W1,y.val.cell? ⟨w.heap.size,3,none⟩=some (.slice jk C.acts.length gD):=λy=>y.cell X6;have adj:∀y:Bl W1,y.val.cell? ⟨w.heap.size,4,none⟩=some (.slice iM C.clauses.length gB):=λy=>y.cell Ve;have adk:∀y:Bl W1,y.val.cell? ⟨w.heap.size,5,none⟩=some (.int .i64 C.days):=λy=>y.cell X7;have adl:∀y:Bl W1,y.val.cell? ⟨w.heap.size,6,none⟩=some (.slice gT C.off.length gU):=λy=>y.cell X8;obtain⟨ib,hbi,hbz,hbs,hbb⟩:=info_parts' (P:=Tryz.prog) (t:=4) (z:=some (.bool false)) (s:=1) (b:=1) (by kernel_rfl);obtain⟨im,hmi,hmz,hms,hmb⟩:=info_parts' (P:=Tryz.prog) (t:=51) (z:=some (.agg eO.cells.toArray)) (s:=5) (b:=40) (by kernel_rfl);have Zj:Hid (∀z:Bl W1,Calls Tryz.prog 66 #[.slice g_ C.aj.length h_] z.val (λe w''=>∃v,e= .returned v/\(rP W1 C.aj).V v/\(rP W1 C.aj).S v w''/\Below z.val.heap.size z.val w'')):=λz=>
   Vi z (AB.out.below z.prop).aj (by omega) (by omega)
  refine yJ (s:=(⟨W1,aC _ _⟩:Bl W1)) 14 (λi=>match i with
   |3=>some (rP W1 C.aj)
   |7=>some (wL W1 4 C.acts.length (madeCells (Value.cells (.bool false)) (C.acts.length*1)))
   |11=>some (wL W1 51 C.clauses.length (madeCells (Value.cells (.agg eO.cells.toArray)) (C.clauses.length*5)))
   |_=>none) (by simp) (by kernel_rfl) (by kernel_rfl) ?keeps ?_
  case keeps=>
   intro i sp h;split at h
   .injection h with h;subst h;exact Fv _ _
   .injection h with h;subst h;exact mF _ _ _ _
   .injection h with h;subst h;exact mF _ _ _ _
   .cases h
  simp only[fP,bX,fZ,bY];repeat(refine m_ rfl (λK hK=>?_);go_simp;refine hK _ ?_;clear hK K)
  refine vL _ rfl rfl (λz=>?_) ?_
  .go_simp
   exact Zj.out z
  rintro _ ⟨gh,hcp,hgh,rfl⟩;repeat(refine m_ rfl (λK hK=>?_);go_simp;refine hK _ ?_;clear hK K)
  refine vL _ rfl rfl (vR 45 (.tmp 23) (.tmp 23) rfl 4 ib (.bool false) 1 Tryz.underlying45 hbi hbz hbs C.acts.length rfl rfl (by rw[hbb];omega) (by omega)) ?_;rintro _ ⟨gu,hgu,rfl⟩;repeat(refine m_ rfl (λK hK=>?_);go_simp;refine hK _ ?_;clear hK K)
  refine vL _ rfl rfl (vR 46 (.tmp 27) (.tmp 27) rfl 51 im (.agg eO.cells.toArray) 5 Tryz.underlying46 hmi hmz hms C.clauses.length rfl rfl (by rw[hmb];omega) (by omega)) ?_;rintro _ ⟨gm,hgm,rfl⟩;repeat(refine m_ rfl (λK hK=>?_);go_simp;refine hK _ ?_;clear hK K)
  refine Tj ?_;rintro z2 ⟨⟨⟨_,hA⟩,hB⟩,hD⟩;have hh:=hA gh hcp rfl;have hu:=hB gu rfl;have hm:=hD gm rfl;clear hA hB hD Zj;gi_wp2;obtain⟨W5,oO⟩:∃W5,Hid (W5=z2.val.alloc (.cells #[.int .i64 C.aJ,.slice g_ C.aj.length h_,.slice ig C.units.length iq,.slice jk C.acts.length gD,.slice iM C.clauses.length gB,.int .i64 C.days,.slice gT C.off.length gU,.int .i64 0,.slice (some ⟨gh,0,none⟩) C.aj.length hcp,.slice (some ⟨gu,0,none⟩) C.acts.length C.acts.length,.slice (some ⟨gm,0,none⟩) C.clauses.length C.clauses.length] 129)):=⟨_,rfl⟩;rw[<-oO.out];obtain⟨g,hg⟩:∃g,g=z2.val.heap.size:=⟨_,rfl⟩;rw[<-hg];have BH:Hid (Below W1.heap.size W1 W5):=by show Below _ _ _;rw[oO.out];exact aN z2.prop _
  have Mj:aK W1 W5 g (⟨⟨g_,h_⟩,⟨ig,iq⟩,⟨jk,gD⟩,⟨iM,gB⟩,⟨gT,gU⟩⟩:CV) C (⟨⟨some ⟨gh,0,none⟩,hcp⟩,⟨some ⟨gu,0,none⟩,C.acts.length⟩,⟨some ⟨gm,0,none⟩,C.clauses.length⟩⟩:TV) ⟨0,C.aj,List.replicate C.acts.length false,List.replicate C.clauses.length eO⟩ gh gu gm:=by
   refine⟨?_,AB.out,BH.out,?_,?_,?_,by rw[hg];exact z2.prop.size,hgh,hgu,hgm⟩
   .rw[oO.out,hg]
    simp only[nI];exact bQ z2.val _
   .rw[oO.out]
    exact hh.below' (aN (aC _ _) _)
   .have h:W5.heap[gu]?=some (.cells (madeCells (Value.cells (.bool false)) (C.acts.length*1)) 4 (0,0)):=by rw[oO.out];exact(Below.heap_alloc _ _ _ (aF hu)).trans hu
    have h2:=dR.of_block (size:=1) (n:=C.acts.length) h (size_madeCells _ _) (by unfold maxLen;omega);rw[Bf]at h2;simpa only[nI]using h2
   .have h:W5.heap[gm]?=some (.cells (madeCells (Value.cells (.agg eO.cells.toArray)) (C.clauses.length*5)) 51 (0,0)):=by rw[oO.out];exact(Below.heap_alloc _ _ _ (aF hm)).trans hm
    have h2:=dR.of_block (size:=5) (n:=C.clauses.length) h (size_madeCells _ _) (by unfold maxLen;omega);rw[show(Value.cells (.agg eO.cells.toArray))=eO.cells.toArray from rfl,H7]at h2;simpa only[nI]using h2
  have i4:=((bB BH.out).1 (w.heap.size) 4 (by omega)).trans Ve;have HH5:=ah Mj;clear Mj hh hu hm oO BH adf adg adh adi adj adk adl;have HG:=ah hg;clear hg;go_wp2
  go_loopw [35] (λi wr=>∃j:Nat,j<=C.clauses.length/\i= .int .i64 j/\Hid (aK W1 wr g (⟨⟨g_,h_⟩,⟨ig,iq⟩,⟨jk,gD⟩,⟨iM,gB⟩,⟨gT,gU⟩⟩:CV) C (⟨⟨some ⟨gh,0,none⟩,hcp⟩,⟨some ⟨gu,0,none⟩,C.acts.length⟩,⟨some ⟨gm,0,none⟩,C.clauses.length⟩⟩:TV) ⟨0,C.aj,List.replicate C.acts.length false,jD C j⟩ gh gu gm)) (λi _=>C.clauses.length - (intOf i).toNat)
  case atStart=>exact⟨0,aZ _,rfl,by show aK _ _ _ _ _ _ _ _ _ _;rw[Mq];exact HH5.out⟩
  case round=>
   obtain⟨j,hj,rfl,HW⟩:=hrel;clear i4;by_cases hlt:j<C.clauses.length
   .obtain⟨k,hk⟩:∃k,C.clauses[j]?=some k:=⟨_,aW hlt⟩
    obtain⟨kb,lF,st,hK,hkb,hkc,_⟩:=HW.out.con.clause hk;simp only at hK;subst hK;have oF:=hkc _ HW.out.below;obtain⟨k0,FQ,ac,ne,start,af,gr,bu,fi,pa,re,⟨vn,vd⟩,KJ,KL,wa⟩:=k;obtain⟨stA,Bv⟩:=st;obtain⟨x0,x1,x2,x3,x4,x5,x6,x7,x8,x9,x10,x11,x12,x13,x14,x15⟩:=F9 oF rfl;clear hkc oF;have HK:=ah hk;clear hk;have j0:(0:Int)<=(j:Int):=by omega
    have j1:(j:Int)<(C.clauses.length:Int):=by omega
    have j2:C.clauses.length<=9223372036854775807:=by omega
    go_upto_region 8 with(fail)
    obtain⟨Wa,Qm⟩:∃Wa,Hid (Wa=wr.alloc (.cells #[.int .i64 k0,.int .i64 FQ,.int .i64 ac,.int .i64 ne,.slice stA start.length Bv,.int .i64 af,.int .i64 gr,.bool bu,.bool fi,.int .i64 pa,.int .i64 re,.int .i64 vn,.int .i64 vd,.int .i64 KJ,.int .i64 KL,.bool wa] 112)):=⟨_,rfl⟩;rw[<-Qm.out];have hb:Below wr.heap.size wr Wa:=by rw[Qm.out];exact aN (aC _ _) _
    have hWa:aK W1 Wa g (⟨⟨g_,h_⟩,⟨ig,iq⟩,⟨jk,gD⟩,⟨some ⟨kb,lF,none⟩,gB⟩,⟨gT,gU⟩⟩:CV) C (⟨⟨some ⟨gh,0,none⟩,hcp⟩,⟨some ⟨gu,0,none⟩,C.acts.length⟩,⟨some ⟨gm,0,none⟩,C.clauses.length⟩⟩:TV) ⟨0,C.aj,List.replicate C.acts.length false,jD C j⟩ gh gu gm:=HW.out.on hb;have y15:Wa.cell? ⟨wr.heap.size,15,none⟩=some (.bool wa):=by
     have h:=bQ wr (.cells #[.int .i64 k0,.int .i64 FQ,.int .i64 ac,.int .i64 ne,.slice stA start.length Bv,.int .i64 af,.int .i64 gr,.bool bu,.bool fi,.int .i64 pa,.int .i64 re,.int .i64 vn,.int .i64 vd,.int .i64 KJ,.int .i64 KL,.bool wa] 112);rw[<-Qm.out]at h;exact(aL Wa _ 15 _ _ _ h).trans rfl
    have Qn:Wa.cell? ⟨g,10,none⟩=some (.slice (some ⟨gm,0,none⟩) C.clauses.length C.clauses.length):=by
     have h:=hWa.cell 10;simp only[yS C j hj]at h;exact h
    obtain⟨Gt,rZ,Gu,hcell',hfz'⟩:=hWa.oD (yT hlt);simp only[Option.some.injEq,Addr.mk.injEq,true_and,and_true]at rZ;subst rZ;simp only[qN]at hcell' hfz';obtain⟨m0,m1,m2,m3,m4⟩:=rw5 hcell' rfl;have z0:=hfz' (j*5);have z1:=hfz' (j*5+1);have z2:=hfz' (j*5+2);have z3:=hfz' (j*5+3);have z4:=hfz' (j*5+4);have hne:g≠gm:=hWa.Kv;have hne2:wr.heap.size≠gm:=by have:=HW.out.marks.lt rfl;omega
    clear hcell' hfz' x0 x1 x2 x3 x4 x5 x6 x7 x8 x9 x10 x11 x12 x13 x14 x15;have hset:=hWa.LG (yT hlt) 0 0 0 (-1) false;simp only[qN]at hset;have HWS:=ah hset;clear hset hWa;have HSU:=ah (Mr HK.out);have HGT:Hid ((List.set (jD C j) j ⟨0,0,0, -1,false⟩)[j]?=some ⟨0,0,0, -1,false⟩):=rO (yT hlt) _;clear hb hkb Gu;cases wa with
    |false=>
     go_wp2
     go_roundw
     case rel=>exact⟨j+1,by omega,by go_num,by
      show aK _ _ _ _ _ _ _ _ _ _;rw[HSU.out];exact HWS.out⟩
     case measure=>simp[intOf];omega
    |true=>
     go_wp2
     go_roundw
     case rel=>exact⟨j+1,by omega,by go_num,by
      show aK _ _ _ _ _ _ _ _ _ _;rw[HSU.out];have h:=HWS.out.gG (i:=j) (j:=0) (u:=.int .i64 5) (m':=⟨5,0,0, -1,false⟩) HGT.out (by omega) rfl;simp only[qN,kH,List.set_set]at h;exact h⟩
     case measure=>simp[intOf];omega
   .obtain rfl:j=C.clauses.length:=by omega
    have HST:=ah (zC HW.out (yS C _ (bJ _)) HN.out.hin HN.out.hro);go_wp2_with (go_at_call 67;refine HST.out.mono ?_;rintro e zc ⟨rfl,hz1,hz2⟩;refine Hid.out ?_);refine ah ?_;generalize hs2:ak.mk 0 C.aj (List.replicate C.acts.length false) (C.begin C.aj (jD C C.clauses.length))=s2 at hz1;have HS2:=ah hs2;clear hs2;have n7:zc.cell? ⟨g,7,none⟩=some (.int .i64 s2.day):=hz1.cell 7;have n8:zc.cell? ⟨g,8,none⟩=some (.slice (some ⟨gh,0,none⟩) s2.aj.length hcp):=hz1.cell 8;have n9:zc.cell? ⟨g,9,none⟩=some (.slice (some ⟨gu,0,none⟩) s2.used.length C.acts.length):=hz1.cell 9;have n10:zc.cell? ⟨g,10,none⟩=some (.slice (some ⟨gm,0,none⟩) s2.marks.length C.clauses.length):=hz1.cell 10;have t0:=((bB hz1.below).1 (w.heap.size+1) 0 (by omega)).trans X9;have u0:=((bB hz1.below).2 (w.heap.size+1) 0 (by omega)).trans e0;have t1:=((bB hz1.below).1 (w.heap.size+1) 1 (by omega)).trans Vf;have u1:=((bB hz1.below).2 (w.heap.size+1) 1 (by omega)).trans e1;have t2:=((bB hz1.below).1 (w.heap.size+1) 2 (by omega)).trans Vg;have u2:=((bB hz1.below).2 (w.heap.size+1) 2 (by omega)).trans e2;have t3:=((bB hz1.below).1 (w.heap.size+1) 3 (by omega)).trans Vh;have u3:=((bB hz1.below).2 (w.heap.size+1) 3 (by omega)).trans e3;have HZ:=ah hz1;clear hz1;go_wp2;obtain⟨Wf,oh⟩:∃Wf,Hid (Wf=(((zc.setCell ⟨w.heap.size+1,0,none⟩ (.int .i64 s2.day)).setCell ⟨w.heap.size+1,1,none⟩ (.slice (some ⟨gh,0,none⟩) s2.aj.length hcp)).setCell ⟨w.heap.size+1,2,none⟩ (.slice (some ⟨gu,0,none⟩) s2.used.length C.acts.length)).setCell ⟨w.heap.size+1,3,none⟩ (.slice (some ⟨gm,0,none⟩) s2.marks.length C.clauses.length)):=⟨_,rfl⟩;rw[<-oh.out];obtain⟨d0,d1,d2,d3,zL⟩:=pF t0 t1 t2 t3 oh.out;refine bodyPost_ret (v:=.tuple #[.agg #[.int .i64 s2.day,.slice (some ⟨gh,0,none⟩) s2.aj.length hcp,.slice (some ⟨gu,0,none⟩) s2.used.length C.acts.length,.slice (some ⟨gm,0,none⟩) s2.marks.length C.clauses.length],.int .i64 0]) (by simp[results,Tryz.results38,go_sem,d0,d1,d2,d3]) rfl ⟨?_,.inl ⟨by rw[q1];rfl,(⟨⟨some ⟨gh,0,none⟩,hcp⟩,⟨some ⟨gu,0,none⟩,C.acts.length⟩,⟨some ⟨gm,0,none⟩,C.clauses.length⟩⟩:TV),?_,?_,mG (bL nC.out.size HZ.out.newH),mG (bL nC.out.size HZ.out.AJ),mG (bL nC.out.size HZ.out.vB)⟩⟩
    .exact(nC.out.trans (HZ.out.below.mono nC.out.size)).trans (zL.below (by have h1:=nC.out.size;have h2:=HZ.out.below.size;omega) (λk hk=>by omega))
    .rw[show C.first=s2 by rw[<-HS2.out,EM];rfl]
     rfl
    .rw[show C.first=s2 by rw[<-HS2.out,EM];rfl]
     exact HZ.out.Ml zL (λk hk=>by omega)
end Go.Proofs.YtpmdedcnbockhaaGreatDoor
