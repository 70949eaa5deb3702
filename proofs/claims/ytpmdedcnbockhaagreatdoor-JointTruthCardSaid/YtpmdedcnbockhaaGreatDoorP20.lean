/-
  Hid; JtC
-/
import Derived.Test.YtpmdedcnbockhaaGreatDoorP19
set_option maxRecDepth 100000
set_option maxHeartbeats 8000000
namespace Go.Proofs.YtpmdedcnbockhaaGreatDoor
section
open Go.RowKit
def qG(C:au)(ms:List aC)(j:Nat)(l:List Bool):List Bool:=
 match C.clauses[j]?,ms[j]? with
 |some k,some m=>cond m.runs (cond (k.pause== -1) (l.set k.act.toNat true) (((l.set k.act.toNat true).set k.pause.toNat true).set k.resume.toNat true)) l
 |_,_=>l
def iq(C:au)(ms:List aC):Nat->List Bool
 |0=>List.replicate C.acts.length false
 |j+1=>qG C ms j (iq C ms j)
theorem NG(C:au)(ms:List aC)(j:Nat)(l:List Bool):(qG C ms j l).length=l.length:=by
 unfold qG;split
 .rename_i k m _ _
  cases m.runs<;>cases (k.pause== -1)<;>simp
 .rfl
theorem oQ(C:au)(ms:List aC):∀j,(iq C ms j).length=C.acts.length
 |0=>by simp[iq]
 |j+1=>by rw[iq,NG,oQ C ms j]
theorem nX{w:World}{B:Nat}{e:TypeId}{size n:Nat}{v:Value}{xs:List Value}(h:w.ownsRow B e size v n xs)(h1:∀u∈xs,u.oneCell'=true):∃A c,v= .slice A n c/\At w size A n c xs:=by
 rcases h.2 with⟨rfl,rfl⟩|⟨g,cap,cur,rfl,_,h3,h4,h5,h6,h7⟩
 .exact⟨none,0,rfl,⟨h.1,h1,λh0=>by omega⟩,λ_=>⟨rfl,rfl⟩,bH _,aV _⟩
 .refine⟨_,cap,rfl,⟨h.1,h1,λ_=>⟨_,rfl,λj u hu=>?_⟩⟩,(λh=>by cases h),h4,h5⟩
  rw[Addr.add_lit,aG w g (0+j) cur e (0,0) h3,<-h7,lZ]at*;split at hu
  .simpa using hu
  .cases hu
theorem J6(l:List Bool)(i:Nat)(x:Bool):(iG l).set i (.bool x)=iG (l.set i x):=by simp[iG,List.map_set]
theorem J7{l:List Bool}{j:Nat}(hj:j<l.length):(iG l).toArray[j]?=some (.bool (l.getD j false)):=by
 simp[iG,hj]
end
open Go.RowKit
def au.named(C:au)(s:ak):List Bool:=iq C s.marks s.marks.length
def Uu(l:List Bool)(w:World)(e:Ending)(w':World):Prop:=∃g c,e= .returned (.slice (some ⟨g,0,none⟩) l.length c)/\w.heap.size<=g/\w'.heap[g]?=some (.cells (iG l).toArray 4 (0,0))/\Below w.heap.size w w'
theorem Uv(v:CV)(C:au)(tv:TV)(s:ak)(w:World)(hC:bU w v C)(hS:aW w tv s)(hO:bJ C s):Calls Tryz.prog 78 #[v.val C,tv.val s] w (Uu (C.named s) w):=by
 obtain⟨⟨dF,dG⟩,⟨dH,dK⟩,⟨dV,dn⟩,⟨dQ,dh⟩,⟨dz,dB⟩⟩:=v;obtain⟨⟨fQ,eZ⟩,⟨gH,eX⟩,⟨h_,dW⟩⟩:=tv;have HK:=ah (au.ok hO.con);have hna:=HK.out.JW;have hnc:=HK.out.Gs;have HLM:=ah hO.lm;have hlm:s.marks.length<=400:=by rw[HLM.out];exact hnc
 have HC:=ah hC;clear hC;have HS:=ah hS;clear hS;have HO:=ah hO;clear hO;simp only[CV.val,CV.cells,TV.val,TV.cells,ak.cells];go_enter Tryz.func78,Tryz.ntmps78;go_upto_region 1 with(fail)
 generalize hW0:World.alloc _ _=W0;obtain⟨HB,hh0,g_⟩:=IQ hW0;have HW0:=ah hW0.symm;clear hW0;obtain⟨jA,jB,jK,j4,j5,kV,lT⟩:=Fg hh0;clear hh0;obtain⟨o_,qy,rQ,vX⟩:=kc4 g_;clear g_;have a3:=j4 default;have hw0:w.heap.size+1<W0.heap.size:=by rw[HW0.out];simp
 have Vv:Hid (∀z:Bl W0,bU z.val (⟨⟨dF,dG⟩,⟨dH,dK⟩,⟨dV,dn⟩,⟨dQ,dh⟩,⟨dz,dB⟩⟩:CV) C):=λz=>HC.out.below (ay HB.out z.prop);have sO:Hid (∀z:Bl W0,aW z.val (⟨⟨fQ,eZ⟩,⟨gH,eX⟩,⟨h_,dW⟩⟩:TV) s):=λz=>HS.out.below (ay HB.out z.prop);obtain⟨ib,hbi,hbz,hbs,hbb⟩:=info_parts' (P:=Tryz.prog) (t:=4) (z:=some (.bool false)) (s:=1) (b:=1) (by kernel_rfl);have a3':W0.cell? ⟨w.heap.size,3,none⟩=some (.slice dV C.acts.length dn):=a3;clear a3;go_wp2_with (at_make;refine wpList_make_full _ rfl _ _ 45 rfl W0.heap.size 4 ib (.bool false) 1 Tryz.underlying45 hbi hbz hbs .i64 .i64 _ _ C.acts.length rfl rfl rfl rfl (by rw[hbb];omega) (by unfold maxLen;omega) (bH _) ?_;intro W1 hown hgr;refine Hid.out ?_);refine ah ?_;have HB1:Hid (Below W0.heap.size W0 W1):=⟨hgr.os,hgr.tape,hgr.output,hgr.size,λk hk=>hgr.block k hk (by simp)⟩;obtain⟨gn,hgn,hblk⟩:∃gn,gn=W0.heap.size/\W1.heap[gn]?=some (.cells (iG (iq C s.marks 0)).toArray 4 (0,0)):=by
  refine⟨_,rfl,?_⟩;rw[zV]at hown;rcases hown.2 with⟨h,_⟩|⟨g,cap,cur,h,_,h3,h4,h5,h6,h7⟩
  .cases h
  .simp only[Value.slice.injEq,Option.some.injEq,Addr.mk.injEq,and_true]at h
   obtain⟨rfl,_,rfl⟩:=h;rw[h3];congr 2;apply Array.ext';rw[Ak (by simp[h6])]at h7;rw[h7];rfl
 rw[<-hgn];have HBL:=ah hblk;clear hblk hown hgr;have hgl:W0.heap.size<=gn:=by omega
 have hgw:gn<W1.heap.size:=av HBL.out;clear hgn a3';have b3:W1.cell? ⟨w.heap.size+1,3,none⟩=some (.slice h_ s.marks.length dW):=vX ⟨W1,HB1.out⟩;go_wp2
 go_loopw [16] (λi wr=>∃k:Nat,k<=s.marks.length/\i= .int .i64 k/\Hid (wr.heap[gn]?=some (.cells (iG (iq C s.marks k)).toArray 4 (0,0)))/\Hid (Below W0.heap.size W0 wr)) (λi _=>s.marks.length - (intOf i).toNat)
 case atStart=>exact⟨0,aV _,rfl,HBL,HB1⟩
 case round=>
  obtain⟨k,hk,rfl,HN,HW⟩:=hrel;clear b3 HBL HB1 hgw;by_cases hlt:k<s.marks.length
  .obtain⟨m,hm⟩:∃m,s.marks[k]?=some m:=⟨_,aT hlt⟩
   obtain⟨c,hc⟩:∃c,C.clauses[k]?=some c:=⟨_,aT (by rw[<-HLM.out];exact hlt)⟩;have hck:=HK.out.clause hc;obtain⟨hb,hoff,hA,hbl,hcell⟩:=(sO.out ⟨wr,HW.out⟩).marks.1.form (by omega) (by omega);simp only at hA;subst hA;have hmc:∀j,j<5->wr.cell? ⟨hb,hoff+k*5+j,none⟩=m.cells[j]?:=λj hj=>by
    rw[iM];exact(hcell _ (by omega)).trans (bG aC.cells 5 (λ_=>rfl) s.marks k j m hm hj)
   obtain⟨kb,kL,st,hKA,hkb,hkc,_⟩:=(Vv.out ⟨wr,HW.out⟩).clause hc;simp only at hKA;subst hKA;have HE:Hid (iq C s.marks (k+1)=qG C s.marks k (iq C s.marks k)):=rfl;have Qw:Hid (qG C s.marks k (iq C s.marks k)=cond m.runs (cond (c.pause== -1) ((iq C s.marks k).set c.act.toNat true) ((((iq C s.marks k).set c.act.toNat true).set c.pause.toNat true).set c.resume.toNat true)) (iq C s.marks k)):=by
    show _=_;simp only[qG,hc,hm]
   have hnl:=oQ C s.marks k;generalize iq C s.marks k=L at HN HE Qw hnl;have Sk:=ah hnl;clear hnl hm hc hcell;obtain⟨m0,m1,m2,m3,m4⟩:=m;obtain⟨c0,c1,c2,c3,c4⟩:=rw5 hmc rfl;clear hmc;have q0:(0:Int)<=(k:Int):=by omega
   have q1:(k:Int)<(s.marks.length:Int):=by omega
   have q2:(k:Int)<(C.clauses.length:Int):=by rw[<-HLM.out];exact q1
   have hsw:=HW.out.size;have HGW:=ah (av HN.out);go_upto_region 5 with(fail)
   obtain⟨Wa,Pf⟩:∃Wa,Hid (Wa=wr.alloc (.cells #[.int .i64 m0,.int .i64 m1,.int .i64 m2,.int .i64 m3,.bool m4] 51)):=⟨_,rfl⟩;rw[<-Pf.out];have hba:Below wr.heap.size wr Wa:=by rw[Pf.out];exact aK (aD _ _) _
   have HWA:Hid (Below W0.heap.size W0 Wa):=ay HW.out hba;have HNA:Hid (Wa.heap[gn]?=_):=(hba.block gn HGW.out).trans HN.out;have d0:Wa.cell? ⟨wr.heap.size,0,none⟩=some (.int .i64 m0):=by
    have h:=bC wr (.cells #[.int .i64 m0,.int .i64 m1,.int .i64 m2,.int .i64 m3,.bool m4] 51);rw[<-Pf.out]at h;exact(aG Wa _ 0 _ _ _ h).trans rfl
   have nN:=hkc Wa hba;have hw4:Wa.cell? ⟨w.heap.size,4,none⟩=some (.slice (some ⟨kb,kL,none⟩) C.clauses.length dh):=j5 ⟨Wa,HWA.out⟩;have hsa:wr.heap.size<Wa.heap.size:=by rw[Pf.out];simp
   clear c0 c1 c2 c3 c4 hkc hba;cases qr:aC.runs ⟨m0,m1,m2,m3,m4⟩with
   |false=>
    have hq1:(m0 !=1)=true:=by
     simp only[aC.runs,oH,beq_eq_false_iff_ne]at qr;simpa using qr.1
    have hq2:(m0 !=2)=true:=by
     simp only[aC.runs,oH,beq_eq_false_iff_ne]at qr;simpa using qr.2
    have anO:(m0==1)=false:=by simpa using hq1
    have anP:(m0==2)=false:=by simpa using hq2
    rw[qr,cond_false]at Qw;clear nN hw4;go_wp2
    go_roundw
    case rel=>exact⟨k+1,by omega,by go_num,by show _=_;rw[HE.out,Qw.out];exact HNA.out,HWA⟩
    case measure=>simp[intOf];omega
   |true=>
    rw[qr,cond_true]at Qw;have hq:(m0 !=1)=false\/((m0 !=1)=true/\(m0 !=2)=false):=by
     simp only[aC.runs,qd,beq_iff_eq]at qr;rcases qr with h|h
     .left;simpa using h
     .right;subst h;decide
    obtain⟨k0,EU,ac,ne,start,af,gr,bu,fi,pa,re,⟨vn,vd⟩,JR,JU,wa⟩:=c;obtain⟨stA,Ac⟩:=st;obtain⟨x0,x1,x2,x3,x4,x5,x6,x7,x8,x9,x10,x11,x12,x13,x14,x15⟩:=Fh nN rfl;clear nN;have y0:=hck.aeS;have y1:=hck.aeT;simp only at y0 y1;have Qx:Hid ((pa== -1)=false->(0<=pa/\pa<C.acts.length)/\(0<=re/\re<C.acts.length)/\pa≠re):=λh=>by
     have h1:=hck.pause (.inl (by simpa using h));have afr:∀i,C.natural i=true->0<=i/\i<C.acts.length:=λi hi=>by
      unfold au.natural au.JA at hi;by_cases h0:0<=i
      .rw[if_pos h0]at hi
       cases ha:C.acts[i.toNat]? with
       |none=>rw[ha]at hi;cases hi
       |some a=>
        have:=(aZ.1 ha).1;omega
      .rw[if_neg h0]at hi;cases hi
     exact⟨afr _ h1.2.1,afr _ h1.2.2,h1.1⟩
    clear hck;rcases hq with hq|⟨hq,hq2⟩
    all_goals
     go_upto_region 7 with(fail)
     obtain⟨Wb,YI⟩:∃Wb,Hid (Wb=Wa.alloc (.cells #[.int .i64 k0,.int .i64 EU,.int .i64 ac,.int .i64 ne,.slice stA start.length Ac,.int .i64 af,.int .i64 gr,.bool bu,.bool fi,.int .i64 pa,.int .i64 re,.int .i64 vn,.int .i64 vd,.int .i64 JR,.int .i64 JU,.bool wa] 112)):=⟨_,rfl⟩;rw[<-YI.out];have hbb:Below Wa.heap.size Wa Wb:=by rw[YI.out];exact aK (aD _ _) _
     have HWB:Hid (Below W0.heap.size W0 Wb):=ay HWA.out hbb;have aiW:=av HNA.out;have Xv:Hid (Wb.heap[gn]?=some (.cells (iG L).toArray 4 (0,0))):=(hbb.block gn aiW).trans HNA.out;have hbx:Wb.heap[Wa.heap.size]?=some (.cells #[.int .i64 k0,.int .i64 EU,.int .i64 ac,.int .i64 ne,.slice stA start.length Ac,.int .i64 af,.int .i64 gr,.bool bu,.bool fi,.int .i64 pa,.int .i64 re,.int .i64 vn,.int .i64 vd,.int .i64 JR,.int .i64 JU,.bool wa] 112 (0,0)):=by
      have h:=bC Wa (.cells #[.int .i64 k0,.int .i64 EU,.int .i64 ac,.int .i64 ne,.slice stA start.length Ac,.int .i64 af,.int .i64 gr,.bool bu,.bool fi,.int .i64 pa,.int .i64 re,.int .i64 vn,.int .i64 vd,.int .i64 JR,.int .i64 JU,.bool wa] 112);rw[<-YI.out]at h;exact h
     have e2:Wb.cell? ⟨Wa.heap.size,2,none⟩=some (.int .i64 ac):=(aG Wb _ 2 _ _ _ hbx).trans rfl;have e9:Wb.cell? ⟨Wa.heap.size,9,none⟩=some (.int .i64 pa):=(aG Wb _ 9 _ _ _ hbx).trans rfl;have e10:Wb.cell? ⟨Wa.heap.size,10,none⟩=some (.int .i64 re):=(aG Wb _ 10 _ _ _ hbx).trans rfl;have hfz:∀j,Wb.frozen? ⟨gn,j,none⟩=false:=λj=>by simp[World.frozen?,Xv.out]
     have hcl:∀j,j<C.acts.length->Wb.cell? ⟨gn,j,none⟩=some (.bool (L.getD j false)):=λj hj=>by
      rw[aG _ _ j _ _ _ Xv.out];exact J7 (by first|(rw[Sk.out];exact hj)|(rw[List.length_set,Sk.out];exact hj))
     have n0:=hcl ac.toNat (by omega);have n1:=hfz ac.toNat;have YB:=ah hcl;clear hcl;have HFZ:=ah hfz;clear hfz;have hng:Wa.heap.size≠gn:=by omega
     clear x0 x1 x2 x3 x4 x5 x6 x7 x8 x9 x10 x11 x12 x13 x14 x15 hw4 d0 hbx;go_upto_region 8 with(fail)
     obtain⟨Wc,DZ⟩:∃Wc,Hid (Wc=Wb.setCell ⟨gn,ac.toNat,none⟩ (.bool true)):=⟨_,rfl⟩;rw[<-DZ.out];have HNC:Hid (Wc.heap[gn]?=some (.cells (iG (L.set ac.toNat true)).toArray 4 (0,0))):=by
      show _=_;rw[DZ.out,heap_setCell_same Xv.out];congr 2;apply Array.ext';simp[J6]
     have HWC:Hid (Below W0.heap.size W0 Wc):=by
      show Below _ _ _;rw[DZ.out];exact HWB.out.setCell hgl _
     have hkeep:∀o u,Wb.cell? ⟨Wa.heap.size,o,none⟩=some u->Wc.cell? ⟨Wa.heap.size,o,none⟩=some u:=λo u h=>by
      rw[DZ.out,World.cell?_setCell_other _ _ _ _ (λe=>hng (by first|exact congrArg Addr.block e|exact(congrArg Addr.block e).symm))];exact h
     have f9:=hkeep _ _ e9;have f10:=hkeep _ _ e10;clear e2 e9 e10 n0 n1 hkeep;cases qp:(pa== -1)with
     |true=>
      have qp':(pa != -1)=false:=by simpa using qp
      go_wp2
      go_roundw
      case rel=>exact⟨k+1,by omega,by go_num,by show _=_;rw[HE.out,Qw.out,qp,cond_true];exact HNC.out,HWC⟩
      case measure=>simp[intOf];omega
     |false=>
      have qp':(pa != -1)=true:=by simpa using qp
      obtain⟨⟨p0,p1⟩,⟨r0,r1⟩,hpr⟩:=Qx.out qp;have hcl:∀j,j<C.acts.length->Wc.cell? ⟨gn,j,none⟩=some (.bool ((L.set ac.toNat true).getD j false)):=λj hj=>by
       rw[aG _ _ j _ _ _ HNC.out];exact J7 (by first|(rw[Sk.out];exact hj)|(rw[List.length_set,Sk.out];exact hj))
      have hfz:∀j,Wc.frozen? ⟨gn,j,none⟩=false:=λj=>by simp[World.frozen?,HNC.out]
      have n0:=hcl pa.toNat (by omega);have n1:=hfz pa.toNat;have n2:=hcl re.toNat (by omega);have n3:=hfz re.toNat;have anR:pa.toNat≠re.toNat:=by omega
      clear hcl hfz;go_wp2
      go_region
      all_goals
       go_wp2
       go_roundw
       case rel=>exact⟨k+1,by omega,by go_num,by
        show _=_;rw[HE.out,Qw.out,qp,cond_false];have h1:=heap_setCell_same (i:=pa.toNat) HNC.out (.bool true);have h2:=heap_setCell_same (i:=re.toNat) h1 (.bool true);refine Eq.trans h2 ?_;congr 2;apply Array.ext';simp[J6],by show Below _ _ _;exact((HWC.out.setCell hgl _).setCell hgl _).drew⟩
       case measure=>simp[intOf];omega
  .obtain rfl:k=s.marks.length:=by omega
   have hnl:(C.named s).length=C.acts.length:=oQ _ _ _;have HN9:Hid (wr.heap[gn]?=some (.cells (iG (C.named s)).toArray 4 (0,0))):=HN;have HWF:Hid (Below w.heap.size w wr):=HB.out.trans (HW.out.mono HB.out.size);go_wp2;go_ret;exact⟨gn,C.acts.length,by show Ending.returned (.slice (some ⟨gn,0,none⟩) C.acts.length C.acts.length)=_;rw[hnl],bF HB.out.size hgl,HN9.out,HWF.out⟩
end Go.Proofs.YtpmdedcnbockhaaGreatDoor
