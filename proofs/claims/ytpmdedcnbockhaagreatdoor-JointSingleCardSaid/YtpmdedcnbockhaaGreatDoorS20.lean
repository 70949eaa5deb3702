/- part -/
import Derived.Test.YtpmdedcnbockhaaGreatDoorS19
set_option maxRecDepth 100000
set_option maxHeartbeats 8000000
namespace Go.Proofs.YtpmdedcnbockhaaGreatDoor
section
open Go.RowKit Tryz
def qW(C:au)(ms:List aD)(j:Nat)(l:List Bool):List Bool:=
 match C.clauses[j]?,ms[j]? with
 |some k,some m=>cond m.runs (cond (k.pause== -1) (l.set k.act.toNat true) (((l.set k.act.toNat true).set k.pause.toNat true).set k.resume.toNat true)) l
 |_,_=>l
def fK(C:au)(ms:List aD):Nat->List Bool
 |0=>List.replicate C.acts.length false
 |j+1=>qW C ms j (fK C ms j)
theorem OD(C:au)(ms:List aD)(j:Nat)(l:List Bool):(qW C ms j l).length=l.length:=by
 unfold qW;split
 .rename_i k m _ _
  cases m.runs<;>cases (k.pause== -1)<;>simp
 .rfl
theorem mR(C:au)(ms:List aD):∀j,(fK C ms j).length=C.acts.length
 |0=>by simp[fK]
 |j+1=>by rw[fK,OD,mR C ms j]
def zT(C:au)(s:ak)(p:Int)(i:Nat):Bool:=
 match C.acts[i]? with
 |some a=>((fK C s.marks s.marks.length).getD i false)&&((a.kind==1)&&((!(a.tgt== -1))&&(!(C.sees s p i))))
 |none=>false
def wM(C:au)(s:ak)(p:Int)(k:Nat):List Int:=((List.range k).filter (zT C s p)).map Int.ofNat
def au.hid(C:au)(s:ak)(p:Int):List Int:=wM C s p C.acts.length
theorem Rl(C:au)(s:ak)(p:Int)(k:Nat):wM C s p (k+1)=wM C s p k++cond (zT C s p k) [(k:Int)] []:=by
 unfold wM;rw[List.range_succ,List.filter_append,pG];cases h:zT C s p k<;>simp[h]
theorem KN(C:au)(s:ak)(p:Int)(k:Nat):(wM C s p k).length<=k:=by
 unfold wM;rw[dU];exact bI (List.length_filter_le _ _) (by simp)
def OG(l:List Int)(w:World)(e:Ending)(w':World):Prop:=∃A c,e= .returned (.slice A l.length c)/\At w' 1 A l.length c (aZ l)/\Below w.heap.size w w'
theorem Yo(l:List Int):∀u∈aZ l,u.oneCell'=true:=by
 intro u hu;simp only[aZ,cZ]at hu;obtain⟨_,_,rfl⟩:=hu;rfl
theorem kY{w:World}{B:Nat}{e:TypeId}{size n:Nat}{v:Value}{xs:List Value}(h:w.ownsRow B e size v n xs)(h1:∀u∈xs,u.oneCell'=true):∃A c,v= .slice A n c/\At w size A n c xs:=by
 rcases h.2 with⟨rfl,rfl⟩|⟨g,cap,cur,rfl,_,h3,h4,h5,h6,h7⟩
 .exact⟨none,0,rfl,⟨h.1,h1,λh0=>by omega⟩,λ_=>⟨rfl,rfl⟩,bJ _,aU _⟩
 .refine⟨_,cap,rfl,⟨h.1,h1,λ_=>⟨_,rfl,λj u hu=>?_⟩⟩,(λh=>by cases h),h4,h5⟩
  rw[Addr.add_lit,aK w g (0+j) cur e (0,0) h3,<-h7,lT]at*;split at hu
  .simpa using hu
  .cases hu
theorem rM(l:List Bool)(i:Nat)(x:Bool):(fM l).set i (.bool x)=fM (l.set i x):=by simp[fM,List.map_set]
theorem oM{l:List Bool}{j:Nat}(hj:j<l.length):(fM l).toArray[j]?=some (.bool (l.getD j false)):=by
 simp[fM,hj]
theorem Rm(v:CV)(C:au)(tv:TV)(s:ak)(p:Int)(w:World)(hC:bO w v C)(hS:aQ w tv s)(hO:aV C s):Calls prog 132 #[v.val C,tv.val s,.int .i64 p] w (OG (C.hid s p) w):=by
 obtain⟨⟨dV,dW⟩,⟨dX,dY⟩,⟨fB,dH⟩,⟨eZ,dM⟩,⟨dQ,dR⟩⟩:=v;obtain⟨⟨eu,dN⟩,⟨eH,dL⟩,⟨fF,bY⟩⟩:=tv;have HK:=ah (au.ok hO.con);have hna:=HK.out.Ey;have hnc:=HK.out.Cc;have HLM:=ah hO.lm;have hlm:s.marks.length<=400:=by rw[HLM.out];exact hnc
 have HC:=ah hC;clear hC;have HS:=ah hS;clear hS;have HO:=ah hO;clear hO;simp only[CV.val,CV.cells,TV.val,TV.cells,ak.cells];go_enter func132,ntmps132;go_upto_region 1 with(fail)
 generalize hW0:World.alloc _ _=W0;obtain⟨HB,hh0,gG⟩:=F5 hW0;have HW0:=ah hW0.symm;clear hW0;obtain⟨iC,iD,iI,iy,iP,jc,jA⟩:=CS hh0;clear hh0;obtain⟨jM,jY,qO,tV⟩:=Wx gG;clear gG;have a3:=iy default;have hw0:w.heap.size+1<W0.heap.size:=by rw[HW0.out];simp
 have Qf:Hid (∀z:Bl W0,bO z.val (⟨⟨dV,dW⟩,⟨dX,dY⟩,⟨fB,dH⟩,⟨eZ,dM⟩,⟨dQ,dR⟩⟩:CV) C):=λz=>HC.out.below (av HB.out z.prop);have vF:Hid (∀z:Bl W0,aQ z.val (⟨⟨eu,dN⟩,⟨eH,dL⟩,⟨fF,bY⟩⟩:TV) s):=λz=>HS.out.below (av HB.out z.prop);have S_:Hid (∀(i:Nat)(z:Bl W0),Calls prog 76 #[.agg #[.int .i64 C.aF,.slice dV C.aj.length dW,.slice dX C.units.length dY,.slice fB C.acts.length dH,.slice eZ C.clauses.length dM,.int .i64 C.days,.slice dQ C.off.length dR],.agg #[.int .i64 s.day,.slice eu s.aj.length dN,.slice eH s.used.length dL,.slice fF s.marks.length bY],.int .i64 p,.int .i64 i] z.val (dZ (.bool (C.sees s p i)) z.val)):=λi z=>xD (⟨⟨dV,dW⟩,⟨dX,dY⟩,⟨fB,dH⟩,⟨eZ,dM⟩,⟨dQ,dR⟩⟩:CV) C (⟨⟨eu,dN⟩,⟨eH,dL⟩,⟨fF,bY⟩⟩:TV) s p i z.val (Qf.out z) (vF.out z);obtain⟨ib,hbi,hbz,hbs,hbb⟩:=info_parts' (P:=prog) (t:=4) (z:=some (.bool false)) (s:=1) (b:=1) (by kernel_rfl);obtain⟨ii,hii,hiz,his,hib⟩:=info_parts' (P:=prog) (t:=3) (z:=some (.int .i64 0)) (s:=1) (b:=8) (by kernel_rfl);have a3':W0.cell? ⟨w.heap.size,3,none⟩=some (.slice fB C.acts.length dH):=a3;clear a3;go_wp2_with (at_make;refine wpList_make_full _ rfl _ _ 45 rfl W0.heap.size 4 ib (.bool false) 1 underlying45 hbi hbz hbs .i64 .i64 _ _ C.acts.length rfl rfl rfl rfl (by rw[hbb];omega) (by unfold maxLen;omega) (bJ _) ?_;intro W1 hown hgr;refine Hid.out ?_);refine ah ?_;have HB1:Hid (Below W0.heap.size W0 W1):=⟨hgr.os,hgr.tape,hgr.output,hgr.size,λk hk=>hgr.block k hk (by simp)⟩;obtain⟨gn,hgn,hblk⟩:∃gn,gn=W0.heap.size/\W1.heap[gn]?=some (.cells (fM (fK C s.marks 0)).toArray 4 (0,0)):=by
  refine⟨_,rfl,?_⟩;rw[vU]at hown;rcases hown.2 with⟨h,_⟩|⟨g,cap,cur,h,_,h3,h4,h5,h6,h7⟩
  .cases h
  .simp only[Value.slice.injEq,Option.some.injEq,Addr.mk.injEq,and_true]at h
   obtain⟨rfl,_,rfl⟩:=h;rw[h3];congr 2;apply Array.ext';rw[zY (by simp[h6])]at h7;rw[h7];rfl
 rw[<-hgn];have ZK:=ah hblk;clear hblk hown hgr;have hgl:W0.heap.size<=gn:=by omega
 have hgw:gn<W1.heap.size:=aB ZK.out;clear hgn a3';have b3:W1.cell? ⟨w.heap.size+1,3,none⟩=some (.slice fF s.marks.length bY):=tV ⟨W1,HB1.out⟩;go_wp2
 go_loopw [21] (λi wr=>∃k:Nat,k<=s.marks.length/\i= .int .i64 k/\Hid (wr.heap[gn]?=some (.cells (fM (fK C s.marks k)).toArray 4 (0,0)))/\Hid (Below W0.heap.size W0 wr)) (λi _=>s.marks.length - (intOf i).toNat)
 case atStart=>exact⟨0,aU _,rfl,ZK,HB1⟩
 case round=>
  obtain⟨k,hk,rfl,HN,HW⟩:=hrel;clear b3 ZK HB1 hgw;by_cases hlt:k<s.marks.length
  .obtain⟨m,hm⟩:∃m,s.marks[k]?=some m:=⟨_,aS hlt⟩
   obtain⟨c,hc⟩:∃c,C.clauses[k]?=some c:=⟨_,aS (by rw[<-HLM.out];exact hlt)⟩;have hck:=HK.out.clause hc;obtain⟨hb,hoff,hA,hbl,hcell⟩:=(vF.out ⟨wr,HW.out⟩).marks.1.form (by omega) (by omega);simp only at hA;subst hA;have hmc:∀j,j<5->wr.cell? ⟨hb,hoff+k*5+j,none⟩=m.cells[j]?:=λj hj=>by
    rw[iR];exact(hcell _ (by omega)).trans (bG aD.cells 5 (λ_=>rfl) s.marks k j m hm hj)
   obtain⟨kb,kK,st,hKA,hkb,hkc,_⟩:=(Qf.out ⟨wr,HW.out⟩).clause hc;simp only at hKA;subst hKA;have HE:Hid (fK C s.marks (k+1)=qW C s.marks k (fK C s.marks k)):=rfl;have FL:Hid (qW C s.marks k (fK C s.marks k)=cond m.runs (cond (c.pause== -1) ((fK C s.marks k).set c.act.toNat true) ((((fK C s.marks k).set c.act.toNat true).set c.pause.toNat true).set c.resume.toNat true)) (fK C s.marks k)):=by
    show _=_;simp only[qW,hc,hm]
   have hnl:=mR C s.marks k;generalize fK C s.marks k=L at HN HE FL hnl;have E8:=ah hnl;clear hnl hm hc hcell;obtain⟨m0,m1,m2,m3,m4⟩:=m;obtain⟨c0,c1,c2,c3,c4⟩:=rw5 hmc rfl;clear hmc;have q0:(0:Int)<=(k:Int):=by omega
   have q1:(k:Int)<(s.marks.length:Int):=by omega
   have q2:(k:Int)<(C.clauses.length:Int):=by rw[<-HLM.out];exact q1
   have hsw:=HW.out.size;have ZL:=ah (aB HN.out);go_upto_region 5 with(fail)
   obtain⟨Wa,ow⟩:∃Wa,Hid (Wa=wr.alloc (.cells #[.int .i64 m0,.int .i64 m1,.int .i64 m2,.int .i64 m3,.bool m4] 51)):=⟨_,rfl⟩;rw[<-ow.out];have hba:Below wr.heap.size wr Wa:=by rw[ow.out];exact aJ (aC _ _) _
   have DJ:Hid (Below W0.heap.size W0 Wa):=av HW.out hba;have Bq:Hid (Wa.heap[gn]?=_):=(hba.block gn ZL.out).trans HN.out;have d0:Wa.cell? ⟨wr.heap.size,0,none⟩=some (.int .i64 m0):=by
    have h:=bK wr (.cells #[.int .i64 m0,.int .i64 m1,.int .i64 m2,.int .i64 m3,.bool m4] 51);rw[<-ow.out]at h;exact(aK Wa _ 0 _ _ _ h).trans rfl
   have mJ:=hkc Wa hba;have hw4:Wa.cell? ⟨w.heap.size,4,none⟩=some (.slice (some ⟨kb,kK,none⟩) C.clauses.length dM):=iP ⟨Wa,DJ.out⟩;have hsa:wr.heap.size<Wa.heap.size:=by rw[ow.out];simp
   clear c0 c1 c2 c3 c4 hkc hba;cases qr:aD.runs ⟨m0,m1,m2,m3,m4⟩with
   |false=>
    have hq1:(m0 !=1)=true:=by
     simp only[aD.runs,oh,beq_eq_false_iff_ne]at qr;simpa using qr.1
    have hq2:(m0 !=2)=true:=by
     simp only[aD.runs,oh,beq_eq_false_iff_ne]at qr;simpa using qr.2
    have aj3:(m0==1)=false:=by simpa using hq1
    have aj4:(m0==2)=false:=by simpa using hq2
    rw[qr,cond_false]at FL;clear mJ hw4;go_wp2
    go_roundw
    case rel=>exact⟨k+1,by omega,by go_num,by show _=_;rw[HE.out,FL.out];exact Bq.out,DJ⟩
    case measure=>simp[intOf];omega
   |true=>
    rw[qr,cond_true]at FL;have hq:(m0 !=1)=false\/((m0 !=1)=true/\(m0 !=2)=false):=by
     simp only[aD.runs,qH,beq_iff_eq]at qr;rcases qr with h|h
     .left;simpa using h
     .right;subst h;decide
    obtain⟨k0,AO,ac,ne,start,af,gr,bu,fi,pa,re,⟨vn,vd⟩,Dt,Du,wa⟩:=c;obtain⟨stA,wQ⟩:=st;obtain⟨x0,x1,x2,x3,x4,x5,x6,x7,x8,x9,x10,x11,x12,x13,x14,x15⟩:=EP mJ rfl;clear mJ;have y0:=hck.af6;have y1:=hck.af7;simp only at y0 y1;have Nf:Hid ((pa== -1)=false->(0<=pa/\pa<C.acts.length)/\(0<=re/\re<C.acts.length)/\pa≠re):=λh=>by
     have h1:=hck.pause (.inl (by simpa using h));have Yp:∀i,C.natural i=true->0<=i/\i<C.acts.length:=λi hi=>by
      unfold au.natural au.Km at hi;by_cases h0:0<=i
      .rw[if_pos h0]at hi
       cases ha:C.acts[i.toNat]? with
       |none=>rw[ha]at hi;cases hi
       |some a=>
        have:=(bB.1 ha).1;omega
      .rw[if_neg h0]at hi;cases hi
     exact⟨Yp _ h1.2.1,Yp _ h1.2.2,h1.1⟩
    clear hck;rcases hq with hq|⟨hq,hq2⟩
    .go_upto_region 7 with(fail)
     obtain⟨Wb,yC⟩:∃Wb,Hid (Wb=Wa.alloc (.cells #[.int .i64 k0,.int .i64 AO,.int .i64 ac,.int .i64 ne,.slice stA start.length wQ,.int .i64 af,.int .i64 gr,.bool bu,.bool fi,.int .i64 pa,.int .i64 re,.int .i64 vn,.int .i64 vd,.int .i64 Dt,.int .i64 Du,.bool wa] 112)):=⟨_,rfl⟩;rw[<-yC.out];have hbb:Below Wa.heap.size Wa Wb:=by rw[yC.out];exact aJ (aC _ _) _
     have Qj:Hid (Below W0.heap.size W0 Wb):=av DJ.out hbb;have Yq:=aB Bq.out;have Mc:Hid (Wb.heap[gn]?=some (.cells (fM L).toArray 4 (0,0))):=(hbb.block gn Yq).trans Bq.out;have hbx:Wb.heap[Wa.heap.size]?=some (.cells #[.int .i64 k0,.int .i64 AO,.int .i64 ac,.int .i64 ne,.slice stA start.length wQ,.int .i64 af,.int .i64 gr,.bool bu,.bool fi,.int .i64 pa,.int .i64 re,.int .i64 vn,.int .i64 vd,.int .i64 Dt,.int .i64 Du,.bool wa] 112 (0,0)):=by
      have h:=bK Wa (.cells #[.int .i64 k0,.int .i64 AO,.int .i64 ac,.int .i64 ne,.slice stA start.length wQ,.int .i64 af,.int .i64 gr,.bool bu,.bool fi,.int .i64 pa,.int .i64 re,.int .i64 vn,.int .i64 vd,.int .i64 Dt,.int .i64 Du,.bool wa] 112);rw[<-yC.out]at h;exact h
     have e2:Wb.cell? ⟨Wa.heap.size,2,none⟩=some (.int .i64 ac):=(aK Wb _ 2 _ _ _ hbx).trans rfl;have e9:Wb.cell? ⟨Wa.heap.size,9,none⟩=some (.int .i64 pa):=(aK Wb _ 9 _ _ _ hbx).trans rfl;have e10:Wb.cell? ⟨Wa.heap.size,10,none⟩=some (.int .i64 re):=(aK Wb _ 10 _ _ _ hbx).trans rfl;have hfz:∀j,Wb.frozen? ⟨gn,j,none⟩=false:=λj=>by simp[World.frozen?,Mc.out]
     have hcl:∀j,j<C.acts.length->Wb.cell? ⟨gn,j,none⟩=some (.bool (L.getD j false)):=λj hj=>by
      rw[aK _ _ j _ _ _ Mc.out];exact oM (by first|(rw[E8.out];exact hj)|(rw[List.length_set,E8.out];exact hj))
     have n0:=hcl ac.toNat (by omega);have n1:=hfz ac.toNat;have Nc:=ah hcl;clear hcl;have HFZ:=ah hfz;clear hfz;have hng:Wa.heap.size≠gn:=by omega
     clear x0 x1 x2 x3 x4 x5 x6 x7 x8 x9 x10 x11 x12 x13 x14 x15 hw4 d0 hbx;go_upto_region 8 with(fail)
     obtain⟨Wc,wU⟩:∃Wc,Hid (Wc=Wb.setCell ⟨gn,ac.toNat,none⟩ (.bool true)):=⟨_,rfl⟩;rw[<-wU.out];have TI:Hid (Wc.heap[gn]?=some (.cells (fM (L.set ac.toNat true)).toArray 4 (0,0))):=by
      show _=_;rw[wU.out,heap_setCell_same Mc.out];congr 2;apply Array.ext';simp[rM]
     have HWC:Hid (Below W0.heap.size W0 Wc):=by
      show Below _ _ _;rw[wU.out];exact Qj.out.setCell hgl _
     have hkeep:∀o u,Wb.cell? ⟨Wa.heap.size,o,none⟩=some u->Wc.cell? ⟨Wa.heap.size,o,none⟩=some u:=λo u h=>by
      rw[wU.out,World.cell?_setCell_other _ _ _ _ (λe=>hng (by first|exact congrArg Addr.block e|exact(congrArg Addr.block e).symm))];exact h
     have f9:=hkeep _ _ e9;have f10:=hkeep _ _ e10;clear e2 e9 e10 n0 n1 hkeep;cases qp:(pa== -1)with
     |true=>
      have qp':(pa != -1)=false:=by simpa using qp
      go_wp2
      go_roundw
      case rel=>exact⟨k+1,by omega,by go_num,by show _=_;rw[HE.out,FL.out,qp,cond_true];exact TI.out,HWC⟩
      case measure=>simp[intOf];omega
     |false=>
      have qp':(pa != -1)=true:=by simpa using qp
      obtain⟨⟨p0,p1⟩,⟨r0,r1⟩,hpr⟩:=Nf.out qp;have hcl:∀j,j<C.acts.length->Wc.cell? ⟨gn,j,none⟩=some (.bool ((L.set ac.toNat true).getD j false)):=λj hj=>by
       rw[aK _ _ j _ _ _ TI.out];exact oM (by first|(rw[E8.out];exact hj)|(rw[List.length_set,E8.out];exact hj))
      have hfz:∀j,Wc.frozen? ⟨gn,j,none⟩=false:=λj=>by simp[World.frozen?,TI.out]
      have n0:=hcl pa.toNat (by omega);have n1:=hfz pa.toNat;have n2:=hcl re.toNat (by omega);have n3:=hfz re.toNat;have agB:pa.toNat≠re.toNat:=by omega
      clear hcl hfz;go_wp2
      go_region
      all_goals
       go_wp2
       go_roundw
       case rel=>exact⟨k+1,by omega,by go_num,by
        show _=_;rw[HE.out,FL.out,qp,cond_false];have h1:=heap_setCell_same (i:=pa.toNat) TI.out (.bool true);have h2:=heap_setCell_same (i:=re.toNat) h1 (.bool true);refine Eq.trans h2 ?_;congr 2;apply Array.ext';simp[rM],by show Below _ _ _;exact((HWC.out.setCell hgl _).setCell hgl _).drew⟩
       case measure=>simp[intOf];omega
    .go_upto_region 7 with(fail)
     obtain⟨Wb,yC⟩:∃Wb,Hid (Wb=Wa.alloc (.cells #[.int .i64 k0,.int .i64 AO,.int .i64 ac,.int .i64 ne,.slice stA start.length wQ,.int .i64 af,.int .i64 gr,.bool bu,.bool fi,.int .i64 pa,.int .i64 re,.int .i64 vn,.int .i64 vd,.int .i64 Dt,.int .i64 Du,.bool wa] 112)):=⟨_,rfl⟩;rw[<-yC.out];have hbb:Below Wa.heap.size Wa Wb:=by rw[yC.out];exact aJ (aC _ _) _
     have Qj:Hid (Below W0.heap.size W0 Wb):=av DJ.out hbb;have Yq:=aB Bq.out;have Mc:Hid (Wb.heap[gn]?=some (.cells (fM L).toArray 4 (0,0))):=(hbb.block gn Yq).trans Bq.out;have hbx:Wb.heap[Wa.heap.size]?=some (.cells #[.int .i64 k0,.int .i64 AO,.int .i64 ac,.int .i64 ne,.slice stA start.length wQ,.int .i64 af,.int .i64 gr,.bool bu,.bool fi,.int .i64 pa,.int .i64 re,.int .i64 vn,.int .i64 vd,.int .i64 Dt,.int .i64 Du,.bool wa] 112 (0,0)):=by
      have h:=bK Wa (.cells #[.int .i64 k0,.int .i64 AO,.int .i64 ac,.int .i64 ne,.slice stA start.length wQ,.int .i64 af,.int .i64 gr,.bool bu,.bool fi,.int .i64 pa,.int .i64 re,.int .i64 vn,.int .i64 vd,.int .i64 Dt,.int .i64 Du,.bool wa] 112);rw[<-yC.out]at h;exact h
     have e2:Wb.cell? ⟨Wa.heap.size,2,none⟩=some (.int .i64 ac):=(aK Wb _ 2 _ _ _ hbx).trans rfl;have e9:Wb.cell? ⟨Wa.heap.size,9,none⟩=some (.int .i64 pa):=(aK Wb _ 9 _ _ _ hbx).trans rfl;have e10:Wb.cell? ⟨Wa.heap.size,10,none⟩=some (.int .i64 re):=(aK Wb _ 10 _ _ _ hbx).trans rfl;have hfz:∀j,Wb.frozen? ⟨gn,j,none⟩=false:=λj=>by simp[World.frozen?,Mc.out]
     have hcl:∀j,j<C.acts.length->Wb.cell? ⟨gn,j,none⟩=some (.bool (L.getD j false)):=λj hj=>by
      rw[aK _ _ j _ _ _ Mc.out];exact oM (by first|(rw[E8.out];exact hj)|(rw[List.length_set,E8.out];exact hj))
     have n0:=hcl ac.toNat (by omega);have n1:=hfz ac.toNat;have Nc:=ah hcl;clear hcl;have HFZ:=ah hfz;clear hfz;have hng:Wa.heap.size≠gn:=by omega
     clear x0 x1 x2 x3 x4 x5 x6 x7 x8 x9 x10 x11 x12 x13 x14 x15 hw4 d0 hbx;go_upto_region 8 with(fail)
     obtain⟨Wc,wU⟩:∃Wc,Hid (Wc=Wb.setCell ⟨gn,ac.toNat,none⟩ (.bool true)):=⟨_,rfl⟩;rw[<-wU.out];have TI:Hid (Wc.heap[gn]?=some (.cells (fM (L.set ac.toNat true)).toArray 4 (0,0))):=by
      show _=_;rw[wU.out,heap_setCell_same Mc.out];congr 2;apply Array.ext';simp[rM]
     have HWC:Hid (Below W0.heap.size W0 Wc):=by
      show Below _ _ _;rw[wU.out];exact Qj.out.setCell hgl _
     have hkeep:∀o u,Wb.cell? ⟨Wa.heap.size,o,none⟩=some u->Wc.cell? ⟨Wa.heap.size,o,none⟩=some u:=λo u h=>by
      rw[wU.out,World.cell?_setCell_other _ _ _ _ (λe=>hng (by first|exact congrArg Addr.block e|exact(congrArg Addr.block e).symm))];exact h
     have f9:=hkeep _ _ e9;have f10:=hkeep _ _ e10;clear e2 e9 e10 n0 n1 hkeep;cases qp:(pa== -1)with
     |true=>
      have qp':(pa != -1)=false:=by simpa using qp
      go_wp2
      go_roundw
      case rel=>exact⟨k+1,by omega,by go_num,by show _=_;rw[HE.out,FL.out,qp,cond_true];exact TI.out,HWC⟩
      case measure=>simp[intOf];omega
     |false=>
      have qp':(pa != -1)=true:=by simpa using qp
      obtain⟨⟨p0,p1⟩,⟨r0,r1⟩,hpr⟩:=Nf.out qp;have hcl:∀j,j<C.acts.length->Wc.cell? ⟨gn,j,none⟩=some (.bool ((L.set ac.toNat true).getD j false)):=λj hj=>by
       rw[aK _ _ j _ _ _ TI.out];exact oM (by first|(rw[E8.out];exact hj)|(rw[List.length_set,E8.out];exact hj))
      have hfz:∀j,Wc.frozen? ⟨gn,j,none⟩=false:=λj=>by simp[World.frozen?,TI.out]
      have n0:=hcl pa.toNat (by omega);have n1:=hfz pa.toNat;have n2:=hcl re.toNat (by omega);have n3:=hfz re.toNat;have agB:pa.toNat≠re.toNat:=by omega
      clear hcl hfz;go_wp2
      go_region
      all_goals
       go_wp2
       go_roundw
       case rel=>exact⟨k+1,by omega,by go_num,by
        show _=_;rw[HE.out,FL.out,qp,cond_false];have h1:=heap_setCell_same (i:=pa.toNat) TI.out (.bool true);have h2:=heap_setCell_same (i:=re.toNat) h1 (.bool true);refine Eq.trans h2 ?_;congr 2;apply Array.ext';simp[rM],by show Below _ _ _;exact((HWC.out.setCell hgl _).setCell hgl _).drew⟩
       case measure=>simp[intOf];omega
  .obtain rfl:k=s.marks.length:=by omega
   have b3:wr.cell? ⟨w.heap.size,3,none⟩=some (.slice fB C.acts.length dH):=iy ⟨wr,HW.out⟩;generalize hNL:fK C s.marks s.marks.length=NL at HN;have HHB:Hid (∀i,zT C s p i=match C.acts[i]? with|some a=>(NL.getD i false)&&((a.kind==1)&&((!(a.tgt== -1))&&(!(C.sees s p i))))|none=>false):=λi=>by
    unfold zT;rw[hNL]
   have hnl:NL.length=C.acts.length:=by rw[<-hNL];exact mR _ _ _
   have E8:=ah hnl;clear hnl hNL;go_wp2
   go_loopw [58,11] (λi v11 w2=>∃j:Nat,j<=C.acts.length/\i= .int .i64 j/\Hid (w2.ownsRow W0.heap.size 3 1 v11 (wM C s p j).length (aZ (wM C s p j)))/\Hid (w2.heap[gn]?=some (.cells (fM NL).toArray 4 (0,0)))/\Hid (Below W0.heap.size W0 w2)) (λi _ _=>C.acts.length - (intOf i).toNat)
   case atStart=>exact⟨0,aU _,rfl,World.ownsRow_nil _ _ _ _,HN,HW⟩
   case round=>
    obtain⟨j,hj,rfl,HR,HN2,HW2⟩:=hrel;clear b3 HN HW;by_cases hlt:j<C.acts.length
    .obtain⟨a,ha⟩:∃a,C.acts[j]?=some a:=⟨_,aS hlt⟩
     obtain⟨ab,mO,hA,hab,hac⟩:=(Qf.out ⟨wr,HW2.out⟩).act ha;simp only at hA;subst hA;have BX:=hac wr (aC _ _);have HD:Hid (zT C s p j=((NL.getD j false)&&((a.kind==1)&&((!(a.tgt== -1))&&(!(C.sees s p j)))))):=by
      show _=_;rw[HHB.out,ha]
     have HH:Hid (wM C s p (j+1)=wM C s p j++cond (zT C s p j) [(j:Int)] []):=Rl C s p j;have hhl:=KN C s p j;generalize wM C s p j=HL at HR HH hhl;obtain⟨ki,ro,gi,tg,un,⟨ln,ld⟩⟩:=a;simp only at HD;obtain⟨c0,c1,c2,c3,c4,c5,c6⟩:=rw7 BX rfl;clear hac BX ha;have q0:(0:Int)<=(j:Int):=by omega
     have q1:(j:Int)<(C.acts.length:Int):=by omega
     have hsw:=HW2.out.size;have ZL:=ah (aB HN2.out);go_upto_region 15 with(fail)
     obtain⟨Wa,ow⟩:∃Wa,Hid (Wa=wr.alloc (.cells #[.int .i64 ki,.int .i64 ro,.int .i64 gi,.int .i64 tg,.int .i64 un,.int .i64 ln,.int .i64 ld] 109)):=⟨_,rfl⟩;rw[<-ow.out];have hba:Below wr.heap.size wr Wa:=by rw[ow.out];exact aJ (aC _ _) _
     have DJ:Hid (Below W0.heap.size W0 Wa):=av HW2.out hba;have Bq:Hid (Wa.heap[gn]?=some (.cells (fM NL).toArray 4 (0,0))):=(hba.block gn ZL.out).trans HN2.out;have WH:=ah (ownsRow_below HR.out hba);have hax:Wa.heap[wr.heap.size]?=some (.cells #[.int .i64 ki,.int .i64 ro,.int .i64 gi,.int .i64 tg,.int .i64 un,.int .i64 ln,.int .i64 ld] 109 (0,0)):=by
      have h:=bK wr (.cells #[.int .i64 ki,.int .i64 ro,.int .i64 gi,.int .i64 tg,.int .i64 un,.int .i64 ln,.int .i64 ld] 109);rw[<-ow.out]at h;exact h
     have d0:Wa.cell? ⟨wr.heap.size,0,none⟩=some (.int .i64 ki):=(aK Wa _ 0 _ _ _ hax).trans rfl;have d3:Wa.cell? ⟨wr.heap.size,3,none⟩=some (.int .i64 tg):=(aK Wa _ 3 _ _ _ hax).trans rfl;have dn:Wa.cell? ⟨gn,j,none⟩=some (.bool (NL.getD j false)):=by
      rw[aK _ _ j _ _ _ Bq.out];exact oM (by rw[E8.out];exact hlt)
     have hsa:wr.heap.size<Wa.heap.size:=by rw[ow.out];simp
     clear c0 c1 c2 c3 c4 c5 c6 hba hax hab HR HN2 HW2 ow;generalize NL.getD j false=nb at dn HD;cases nb with
     |false=>
      go_wp2
      go_roundw
      case rel=>exact⟨j+1,by omega,by go_num,by show World.ownsRow _ _ _ _ _ _ _;rw[HH.out,show zT C s p j=false by rw[HD.out,Bool.false_and],cond_false,bU];exact WH.out,Bq,DJ⟩
      case measure=>simp[intOf];omega
     |true=>
      cases qk:(ki==1)with
      |false=>
       go_wp2
       go_roundw
       case rel=>exact⟨j+1,by omega,by go_num,by show World.ownsRow _ _ _ _ _ _ _;rw[HH.out,show zT C s p j=false by rw[HD.out,qk,Bool.false_and,Bool.and_false],cond_false,bU];exact WH.out,Bq,DJ⟩
       case measure=>simp[intOf];omega
      |true=>
       cases qt:(tg== -1)with
       |true=>
        have qt':(tg != -1)=false:=by simpa using qt
        go_wp2
        go_roundw
        case rel=>exact⟨j+1,by omega,by go_num,by show World.ownsRow _ _ _ _ _ _ _;rw[HH.out,show zT C s p j=false by rw[HD.out,qt,Bool.not_true,Bool.false_and,Bool.and_false,Bool.and_false],cond_false,bU];exact WH.out,Bq,DJ⟩
        case measure=>simp[intOf];omega
       |false=>
        have qt':(tg != -1)=true:=by simpa using qt
        have aj7:=iC ⟨Wa,DJ.out⟩;have aj8:=iD ⟨Wa,DJ.out⟩;have aj9:=iI ⟨Wa,DJ.out⟩;have aj_:=iy ⟨Wa,DJ.out⟩;have akb:=iP ⟨Wa,DJ.out⟩;have akc:=jc ⟨Wa,DJ.out⟩;have akd:=jA ⟨Wa,DJ.out⟩;have ake:=jM ⟨Wa,DJ.out⟩;have akf:=jY ⟨Wa,DJ.out⟩;have akg:=qO ⟨Wa,DJ.out⟩;have akh:=tV ⟨Wa,DJ.out⟩;have hsj:∀z:Bl W0,_:=S_.out j;generalize C.sees s p j=sb at hsj HD;have HSJ:=ah hsj;clear hsj;simp only at aj7 aj8 aj9 aj_ akb akc akd ake akf akg akh;cases sb with
        |true=>
         go_wp2_with (go_at_call 76;refine(HSJ.out ⟨Wa,DJ.out⟩).mono ?_;rintro e z ⟨rfl,hz⟩;refine Hid.out ?_);refine ah ?_;have HRZ:=ah (ownsRow_below WH.out hz);have HNZ:Hid (z.heap[gn]?=some (.cells (fM NL).toArray 4 (0,0))):=(hz.block gn (aB Bq.out)).trans Bq.out;have kL:Hid (Below W0.heap.size W0 z):=av DJ.out hz;clear hz;go_wp2
         go_roundw
         case rel=>exact⟨j+1,by omega,by go_num,by show World.ownsRow _ _ _ _ _ _ _;rw[HH.out,show zT C s p j=false by rw[HD.out];simp,cond_false,bU];exact HRZ.out,HNZ,kL⟩
         case measure=>simp[intOf];omega
        |false=>
         go_wp2_with (go_at_call 76;refine(HSJ.out ⟨Wa,DJ.out⟩).mono ?_;rintro e z ⟨rfl,hz⟩;refine Hid.out ?_);refine ah ?_;have HRZ:=ah (ownsRow_below WH.out hz);have HNZ:Hid (z.heap[gn]?=some (.cells (fM NL).toArray 4 (0,0))):=(hz.block gn (aB Bq.out)).trans Bq.out;have kL:Hid (Below W0.heap.size W0 z):=av DJ.out hz;clear hz;have hsz:=kL.out.size;have akj:Hid (zT C s p j=true):=by show _=_;rw[HD.out,qk,qt];rfl
         go_wp2_with (at_builtin;refine nQ rfl _ _ 22 rfl 3 ii (.int .i64 0) 1 8 underlying22 hii hiz his hib rfl (by decide) W0.heap.size _ _ _ rfl HRZ.out [.int .i64 j] _ rfl rfl (by intro u hu;rw[eB]at hu;subst hu;rfl) rfl (by unfold maxLen;omega) (by omega) hsz ?_;intro v5 w5 h1 h2 h3;refine Hid.out ?_);refine ah ?_;have KO:=ah h1;clear h1;have HN5:Hid (w5.heap[gn]?=some (.cells (fM NL).toArray 4 (0,0))):=h3 gn _ HNZ.out (by simp) (by intro c fz h;simp at h);have og:Hid (Below W0.heap.size W0 w5):=kL.out.trans h2;clear h2 h3;go_wp2
         go_roundw
         case rel=>exact⟨j+1,by omega,by go_num,by show World.ownsRow _ _ _ _ _ _ _;rw[HH.out,akj.out,cond_true];simpa [aZ]using KO.out,HN5,og⟩
         case measure=>simp[intOf];omega
    .obtain rfl:j=C.acts.length:=by omega
     obtain⟨A,c,rfl,hAt⟩:=kY HR.out (Yo _);have HAT:=ah hAt;clear hAt;go_wp2;go_ret;exact⟨A,c,rfl,HAT.out,HB.out.trans (HW2.out.mono HB.out.size)⟩
end
open Go.RowKit Tryz
def au.named(C:au)(s:ak):List Bool:=fK C s.marks s.marks.length
def Vj(l:List Bool)(w:World)(e:Ending)(w':World):Prop:=∃g c,e= .returned (.slice (some ⟨g,0,none⟩) l.length c)/\w.heap.size<=g/\w'.heap[g]?=some (.cells (fM l).toArray 4 (0,0))/\Below w.heap.size w w'
theorem Vk(v:CV)(C:au)(tv:TV)(s:ak)(w:World)(hC:bO w v C)(hS:aQ w tv s)(hO:aV C s):Calls prog 78 #[v.val C,tv.val s] w (Vj (C.named s) w):=by
 obtain⟨⟨dV,dW⟩,⟨dX,dY⟩,⟨fB,dH⟩,⟨eZ,dM⟩,⟨dQ,dR⟩⟩:=v;obtain⟨⟨eu,dN⟩,⟨eH,dL⟩,⟨fF,bY⟩⟩:=tv;have HK:=ah (au.ok hO.con);have hna:=HK.out.Ey;have hnc:=HK.out.Cc;have HLM:=ah hO.lm;have hlm:s.marks.length<=400:=by rw[HLM.out];exact hnc
 have HC:=ah hC;clear hC;have HS:=ah hS;clear hS;have HO:=ah hO;clear hO;simp only[CV.val,CV.cells,TV.val,TV.cells,ak.cells];go_enter func78,ntmps78;go_upto_region 1 with(fail)
 generalize hW0:World.alloc _ _=W0;obtain⟨HB,hh0,gG⟩:=F5 hW0;have HW0:=ah hW0.symm;clear hW0;obtain⟨iC,iD,iI,iy,iP,jc,jA⟩:=CS hh0;clear hh0;obtain⟨jM,jY,qO,tV⟩:=Wx gG;clear gG;have a3:=iy default;have hw0:w.heap.size+1<W0.heap.size:=by rw[HW0.out];simp
 have Qf:Hid (∀z:Bl W0,bO z.val (⟨⟨dV,dW⟩,⟨dX,dY⟩,⟨fB,dH⟩,⟨eZ,dM⟩,⟨dQ,dR⟩⟩:CV) C):=λz=>HC.out.below (av HB.out z.prop);have vF:Hid (∀z:Bl W0,aQ z.val (⟨⟨eu,dN⟩,⟨eH,dL⟩,⟨fF,bY⟩⟩:TV) s):=λz=>HS.out.below (av HB.out z.prop);obtain⟨ib,hbi,hbz,hbs,hbb⟩:=info_parts' (P:=prog) (t:=4) (z:=some (.bool false)) (s:=1) (b:=1) (by kernel_rfl);have a3':W0.cell? ⟨w.heap.size,3,none⟩=some (.slice fB C.acts.length dH):=a3;clear a3;go_wp2_with (at_make;refine wpList_make_full _ rfl _ _ 45 rfl W0.heap.size 4 ib (.bool false) 1 underlying45 hbi hbz hbs .i64 .i64 _ _ C.acts.length rfl rfl rfl rfl (by rw[hbb];omega) (by unfold maxLen;omega) (bJ _) ?_;intro W1 hown hgr;refine Hid.out ?_);refine ah ?_;have HB1:Hid (Below W0.heap.size W0 W1):=⟨hgr.os,hgr.tape,hgr.output,hgr.size,λk hk=>hgr.block k hk (by simp)⟩;obtain⟨gn,hgn,hblk⟩:∃gn,gn=W0.heap.size/\W1.heap[gn]?=some (.cells (fM (fK C s.marks 0)).toArray 4 (0,0)):=by
  refine⟨_,rfl,?_⟩;rw[vU]at hown;rcases hown.2 with⟨h,_⟩|⟨g,cap,cur,h,_,h3,h4,h5,h6,h7⟩
  .cases h
  .simp only[Value.slice.injEq,Option.some.injEq,Addr.mk.injEq,and_true]at h
   obtain⟨rfl,_,rfl⟩:=h;rw[h3];congr 2;apply Array.ext';rw[zY (by simp[h6])]at h7;rw[h7];rfl
 rw[<-hgn];have ZK:=ah hblk;clear hblk hown hgr;have hgl:W0.heap.size<=gn:=by omega
 have hgw:gn<W1.heap.size:=aB ZK.out;clear hgn a3';have b3:W1.cell? ⟨w.heap.size+1,3,none⟩=some (.slice fF s.marks.length bY):=tV ⟨W1,HB1.out⟩;go_wp2
 go_loopw [16] (λi wr=>∃k:Nat,k<=s.marks.length/\i= .int .i64 k/\Hid (wr.heap[gn]?=some (.cells (fM (fK C s.marks k)).toArray 4 (0,0)))/\Hid (Below W0.heap.size W0 wr)) (λi _=>s.marks.length - (intOf i).toNat)
 case atStart=>exact⟨0,aU _,rfl,ZK,HB1⟩
 case round=>
  obtain⟨k,hk,rfl,HN,HW⟩:=hrel;clear b3 ZK HB1 hgw;by_cases hlt:k<s.marks.length
  .obtain⟨m,hm⟩:∃m,s.marks[k]?=some m:=⟨_,aS hlt⟩
   obtain⟨c,hc⟩:∃c,C.clauses[k]?=some c:=⟨_,aS (by rw[<-HLM.out];exact hlt)⟩;have hck:=HK.out.clause hc;obtain⟨hb,hoff,hA,hbl,hcell⟩:=(vF.out ⟨wr,HW.out⟩).marks.1.form (by omega) (by omega);simp only at hA;subst hA;have hmc:∀j,j<5->wr.cell? ⟨hb,hoff+k*5+j,none⟩=m.cells[j]?:=λj hj=>by
    rw[iR];exact(hcell _ (by omega)).trans (bG aD.cells 5 (λ_=>rfl) s.marks k j m hm hj)
   obtain⟨kb,kK,st,hKA,hkb,hkc,_⟩:=(Qf.out ⟨wr,HW.out⟩).clause hc;simp only at hKA;subst hKA;have HE:Hid (fK C s.marks (k+1)=qW C s.marks k (fK C s.marks k)):=rfl;have FL:Hid (qW C s.marks k (fK C s.marks k)=cond m.runs (cond (c.pause== -1) ((fK C s.marks k).set c.act.toNat true) ((((fK C s.marks k).set c.act.toNat true).set c.pause.toNat true).set c.resume.toNat true)) (fK C s.marks k)):=by
    show _=_;simp only[qW,hc,hm]
   have hnl:=mR C s.marks k;generalize fK C s.marks k=L at HN HE FL hnl;have E8:=ah hnl;clear hnl hm hc hcell;obtain⟨m0,m1,m2,m3,m4⟩:=m;obtain⟨c0,c1,c2,c3,c4⟩:=rw5 hmc rfl;clear hmc;have q0:(0:Int)<=(k:Int):=by omega
   have q1:(k:Int)<(s.marks.length:Int):=by omega
   have q2:(k:Int)<(C.clauses.length:Int):=by rw[<-HLM.out];exact q1
   have hsw:=HW.out.size;have ZL:=ah (aB HN.out);go_upto_region 5 with(fail)
   obtain⟨Wa,ow⟩:∃Wa,Hid (Wa=wr.alloc (.cells #[.int .i64 m0,.int .i64 m1,.int .i64 m2,.int .i64 m3,.bool m4] 51)):=⟨_,rfl⟩;rw[<-ow.out];have hba:Below wr.heap.size wr Wa:=by rw[ow.out];exact aJ (aC _ _) _
   have DJ:Hid (Below W0.heap.size W0 Wa):=av HW.out hba;have Bq:Hid (Wa.heap[gn]?=_):=(hba.block gn ZL.out).trans HN.out;have d0:Wa.cell? ⟨wr.heap.size,0,none⟩=some (.int .i64 m0):=by
    have h:=bK wr (.cells #[.int .i64 m0,.int .i64 m1,.int .i64 m2,.int .i64 m3,.bool m4] 51);rw[<-ow.out]at h;exact(aK Wa _ 0 _ _ _ h).trans rfl
   have mJ:=hkc Wa hba;have hw4:Wa.cell? ⟨w.heap.size,4,none⟩=some (.slice (some ⟨kb,kK,none⟩) C.clauses.length dM):=iP ⟨Wa,DJ.out⟩;have hsa:wr.heap.size<Wa.heap.size:=by rw[ow.out];simp
   clear c0 c1 c2 c3 c4 hkc hba;cases qr:aD.runs ⟨m0,m1,m2,m3,m4⟩with
   |false=>
    have hq1:(m0 !=1)=true:=by
     simp only[aD.runs,oh,beq_eq_false_iff_ne]at qr;simpa using qr.1
    have hq2:(m0 !=2)=true:=by
     simp only[aD.runs,oh,beq_eq_false_iff_ne]at qr;simpa using qr.2
    have aj3:(m0==1)=false:=by simpa using hq1
    have aj4:(m0==2)=false:=by simpa using hq2
    rw[qr,cond_false]at FL;clear mJ hw4;go_wp2
    go_roundw
    case rel=>exact⟨k+1,by omega,by go_num,by show _=_;rw[HE.out,FL.out];exact Bq.out,DJ⟩
    case measure=>simp[intOf];omega
   |true=>
    rw[qr,cond_true]at FL;have hq:(m0 !=1)=false\/((m0 !=1)=true/\(m0 !=2)=false):=by
     simp only[aD.runs,qH,beq_iff_eq]at qr;rcases qr with h|h
     .left;simpa using h
     .right;subst h;decide
    obtain⟨k0,AO,ac,ne,start,af,gr,bu,fi,pa,re,⟨vn,vd⟩,Dt,Du,wa⟩:=c;obtain⟨stA,wQ⟩:=st;obtain⟨x0,x1,x2,x3,x4,x5,x6,x7,x8,x9,x10,x11,x12,x13,x14,x15⟩:=EP mJ rfl;clear mJ;have y0:=hck.af6;have y1:=hck.af7;simp only at y0 y1;have Nf:Hid ((pa== -1)=false->(0<=pa/\pa<C.acts.length)/\(0<=re/\re<C.acts.length)/\pa≠re):=λh=>by
     have h1:=hck.pause (.inl (by simpa using h));have Yp:∀i,C.natural i=true->0<=i/\i<C.acts.length:=λi hi=>by
      unfold au.natural au.Km at hi;by_cases h0:0<=i
      .rw[if_pos h0]at hi
       cases ha:C.acts[i.toNat]? with
       |none=>rw[ha]at hi;cases hi
       |some a=>
        have:=(bB.1 ha).1;omega
      .rw[if_neg h0]at hi;cases hi
     exact⟨Yp _ h1.2.1,Yp _ h1.2.2,h1.1⟩
    clear hck;rcases hq with hq|⟨hq,hq2⟩
    all_goals
     go_upto_region 7 with(fail)
     obtain⟨Wb,yC⟩:∃Wb,Hid (Wb=Wa.alloc (.cells #[.int .i64 k0,.int .i64 AO,.int .i64 ac,.int .i64 ne,.slice stA start.length wQ,.int .i64 af,.int .i64 gr,.bool bu,.bool fi,.int .i64 pa,.int .i64 re,.int .i64 vn,.int .i64 vd,.int .i64 Dt,.int .i64 Du,.bool wa] 112)):=⟨_,rfl⟩;rw[<-yC.out];have hbb:Below Wa.heap.size Wa Wb:=by rw[yC.out];exact aJ (aC _ _) _
     have Qj:Hid (Below W0.heap.size W0 Wb):=av DJ.out hbb;have Yq:=aB Bq.out;have Mc:Hid (Wb.heap[gn]?=some (.cells (fM L).toArray 4 (0,0))):=(hbb.block gn Yq).trans Bq.out;have hbx:Wb.heap[Wa.heap.size]?=some (.cells #[.int .i64 k0,.int .i64 AO,.int .i64 ac,.int .i64 ne,.slice stA start.length wQ,.int .i64 af,.int .i64 gr,.bool bu,.bool fi,.int .i64 pa,.int .i64 re,.int .i64 vn,.int .i64 vd,.int .i64 Dt,.int .i64 Du,.bool wa] 112 (0,0)):=by
      have h:=bK Wa (.cells #[.int .i64 k0,.int .i64 AO,.int .i64 ac,.int .i64 ne,.slice stA start.length wQ,.int .i64 af,.int .i64 gr,.bool bu,.bool fi,.int .i64 pa,.int .i64 re,.int .i64 vn,.int .i64 vd,.int .i64 Dt,.int .i64 Du,.bool wa] 112);rw[<-yC.out]at h;exact h
     have e2:Wb.cell? ⟨Wa.heap.size,2,none⟩=some (.int .i64 ac):=(aK Wb _ 2 _ _ _ hbx).trans rfl;have e9:Wb.cell? ⟨Wa.heap.size,9,none⟩=some (.int .i64 pa):=(aK Wb _ 9 _ _ _ hbx).trans rfl;have e10:Wb.cell? ⟨Wa.heap.size,10,none⟩=some (.int .i64 re):=(aK Wb _ 10 _ _ _ hbx).trans rfl;have hfz:∀j,Wb.frozen? ⟨gn,j,none⟩=false:=λj=>by simp[World.frozen?,Mc.out]
     have hcl:∀j,j<C.acts.length->Wb.cell? ⟨gn,j,none⟩=some (.bool (L.getD j false)):=λj hj=>by
      rw[aK _ _ j _ _ _ Mc.out];exact oM (by first|(rw[E8.out];exact hj)|(rw[List.length_set,E8.out];exact hj))
     have n0:=hcl ac.toNat (by omega);have n1:=hfz ac.toNat;have Nc:=ah hcl;clear hcl;have HFZ:=ah hfz;clear hfz;have hng:Wa.heap.size≠gn:=by omega
     clear x0 x1 x2 x3 x4 x5 x6 x7 x8 x9 x10 x11 x12 x13 x14 x15 hw4 d0 hbx;go_upto_region 8 with(fail)
     obtain⟨Wc,wU⟩:∃Wc,Hid (Wc=Wb.setCell ⟨gn,ac.toNat,none⟩ (.bool true)):=⟨_,rfl⟩;rw[<-wU.out];have TI:Hid (Wc.heap[gn]?=some (.cells (fM (L.set ac.toNat true)).toArray 4 (0,0))):=by
      show _=_;rw[wU.out,heap_setCell_same Mc.out];congr 2;apply Array.ext';simp[rM]
     have HWC:Hid (Below W0.heap.size W0 Wc):=by
      show Below _ _ _;rw[wU.out];exact Qj.out.setCell hgl _
     have hkeep:∀o u,Wb.cell? ⟨Wa.heap.size,o,none⟩=some u->Wc.cell? ⟨Wa.heap.size,o,none⟩=some u:=λo u h=>by
      rw[wU.out,World.cell?_setCell_other _ _ _ _ (λe=>hng (by first|exact congrArg Addr.block e|exact(congrArg Addr.block e).symm))];exact h
     have f9:=hkeep _ _ e9;have f10:=hkeep _ _ e10;clear e2 e9 e10 n0 n1 hkeep;cases qp:(pa== -1)with
     |true=>
      have qp':(pa != -1)=false:=by simpa using qp
      go_wp2
      go_roundw
      case rel=>exact⟨k+1,by omega,by go_num,by show _=_;rw[HE.out,FL.out,qp,cond_true];exact TI.out,HWC⟩
      case measure=>simp[intOf];omega
     |false=>
      have qp':(pa != -1)=true:=by simpa using qp
      obtain⟨⟨p0,p1⟩,⟨r0,r1⟩,hpr⟩:=Nf.out qp;have hcl:∀j,j<C.acts.length->Wc.cell? ⟨gn,j,none⟩=some (.bool ((L.set ac.toNat true).getD j false)):=λj hj=>by
       rw[aK _ _ j _ _ _ TI.out];exact oM (by first|(rw[E8.out];exact hj)|(rw[List.length_set,E8.out];exact hj))
      have hfz:∀j,Wc.frozen? ⟨gn,j,none⟩=false:=λj=>by simp[World.frozen?,TI.out]
      have n0:=hcl pa.toNat (by omega);have n1:=hfz pa.toNat;have n2:=hcl re.toNat (by omega);have n3:=hfz re.toNat;have agB:pa.toNat≠re.toNat:=by omega
      clear hcl hfz;go_wp2
      go_region
      all_goals
       go_wp2
       go_roundw
       case rel=>exact⟨k+1,by omega,by go_num,by
        show _=_;rw[HE.out,FL.out,qp,cond_false];have h1:=heap_setCell_same (i:=pa.toNat) TI.out (.bool true);have h2:=heap_setCell_same (i:=re.toNat) h1 (.bool true);refine Eq.trans h2 ?_;congr 2;apply Array.ext';simp[rM],by show Below _ _ _;exact((HWC.out.setCell hgl _).setCell hgl _).drew⟩
       case measure=>simp[intOf];omega
  .obtain rfl:k=s.marks.length:=by omega
   have hnl:(C.named s).length=C.acts.length:=mR _ _ _;have HN9:Hid (wr.heap[gn]?=some (.cells (fM (C.named s)).toArray 4 (0,0))):=HN;have HWF:Hid (Below w.heap.size w wr):=HB.out.trans (HW.out.mono HB.out.size);go_wp2;go_ret;exact⟨gn,C.acts.length,by show Ending.returned (.slice (some ⟨gn,0,none⟩) C.acts.length C.acts.length)=_;rw[hnl],bI HB.out.size hgl,HN9.out,HWF.out⟩
end Go.Proofs.YtpmdedcnbockhaaGreatDoor
