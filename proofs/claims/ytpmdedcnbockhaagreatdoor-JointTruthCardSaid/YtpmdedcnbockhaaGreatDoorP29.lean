/-
  CuS; JtE; JtF; JtG; JtH; JtP; JtB; JtT
-/
import Derived.Test.YtpmdedcnbockhaaGreatDoorP28
import Derived.Test.YtpmdedcnbockhaaGreatDoorP21
set_option maxRecDepth 100000
set_option maxHeartbeats 8000000
namespace Go.Proofs.YtpmdedcnbockhaaGreatDoor
section
open Go.RowKit Go.Shelf
theorem En:∀{O L:List aX},O.Pairwise EO->(∀b∈O,b∈L)->O.length<=L.length
 |[],_,_,_=>aV _
 |a::O,L,hp,hm=>by
  rw[yX]at hp;have h1:=En (L:=L.erase a) hp.2 (λb hb=>(List.mem_erase_of_ne (λe=>EP a (by have:=hp.1 b hb;rw[e]at this;exact this))).2 (hm b (kT _ hb)));have h2:=hm a (by simp);rw[List.length_erase_of_mem h2]at h1;have h3:=List.length_pos_of_mem h2;simp only[iy];omega
theorem EX.size{C:au}{fs:List bR}{ho:Int}{F:List aB}{O:List aX}{er:Int}(h:EX C fs ho F O er):F.length<=(aL fs).length/\O.length<=(bg fs).length/\((∀x∈aL fs,gW x.ref)->∀x∈F,gW x.ref):=by
 have fine:tC (aL fs) (bg fs) F O->F.length<=(aL fs).length/\O.length<=(bg fs).length/\((∀x∈aL fs,gW x.ref)->∀x∈F,gW x.ref):=λhf=>by
  have h1:=C8 hf.tight;have h2:=xQ (aL fs);have h3:=zW (aL fs);refine⟨by omega,En hf.ord.1 (λb hb=>(hf.ord.2 b).1 hb),λhr x hx=>?_⟩;obtain⟨z,hz,e⟩:=hf.tight.had hx;obtain⟨y,hy,e2,_⟩:=(DK hz).act;rw[<-jD e,<-e2];exact hr y hy
 rcases h with⟨_,_,rfl,rfl,_⟩|⟨_,f0,_,⟨_,_,hf⟩|⟨_,_,rfl,rfl,_⟩⟩
 .exact⟨aV _,aV _,λ_ x hx=>by cases hx⟩
 .exact fine hf
 .exact⟨aV _,aV _,λ_ x hx=>by cases hx⟩
end
section
open Go.RowKit Go.Shelf Go.Sort
def au.lQ(C:au)(P:List Int)(s:ak)(i:Nat):Bool:=P.any (λp=>C.sees s p i)
def au.sight(C:au)(P:List Int)(s:ak)(i:Nat):Bool:=
 match C.acts[i]? with
 |some a=>(!(a.kind==1))||((a.tgt== -1)||C.lQ P s i)
 |none=>false
def jw(l:List Int):List UInt8:=l.map (λh=>UInt8.ofNat h.toNat)
def Jt(s:ak)(i:Nat):List UInt8:=jw s.aj++[UInt8.ofNat i]
theorem BM{x:Int}(h:0<=x/\x<=255):x=((UInt8.ofNat x.toNat).toNat:Int):=by
 rw[UInt8.toNat_ofNat'];have:x.toNat % 2 ^ 8=x.toNat:=Nat.mod_eq_of_lt (by omega);rw[this];omega
theorem Ib:∀{l m:List Int},(∀x∈l,0<=x/\x<=255)->(∀x∈m,0<=x/\x<=255)->jw l=jw m->l=m
 |[],[],_,_,_=>rfl
 |[],_::_,_,_,h=>by cases h
 |_::_,[],_,_,h=>by cases h
 |x::l,y::m,h1,h2,h=>by
  unfold jw at h;rw[l6,l6]at h;injection h with ha hb
  have e:x=y:=by rw[BM (h1 x (by simp)),BM (h2 y (by simp)),ha]
  rw[e,Ib (λz hz=>h1 z (kT _ hz)) (λz hz=>h2 z (kT _ hz)) hb]
theorem X8{C:au}{s s':ak}(hO:bJ C s)(hO':bJ C s'){i i':Nat}(hi:i<C.acts.length)(hi':i'<C.acts.length)(h:Jt s i=Jt s' i'):s.aj=s'.aj/\i=i':=by
 have HK:=au.ok hO.con;have hp:=HK.Gr;have hn:=HK.JW;obtain⟨h1,h2⟩:=List.append_inj' h rfl;refine⟨Ib (λx hx=>by have:=hO.held x hx;omega) (λx hx=>by have:=hO'.held x hx;omega) h1,?_⟩;have h3:UInt8.ofNat i=UInt8.ofNat i':=by simpa using h2
 have e:=congrArg UInt8.toNat h3;rw[UInt8.toNat_ofNat',UInt8.toNat_ofNat',Nat.mod_eq_of_lt (by omega),Nat.mod_eq_of_lt (by omega)]at e;exact e
theorem LG{C:au}{s s':ak}(hO:bJ C s)(hO':bJ C s')(h:s.aj=s'.aj)(p x:Int):C.sees s p x=C.sees s' p x:=by
 unfold au.sees au.wN zi;rw[(iC C s).2 hO,(iC C s').2 hO',h]
def Sound(C:au)(P:List Int)(x:List UInt8)(b:Bool):Prop:=∀(s:ak)(i:Nat),bJ C s->i<C.acts.length->Jt s i=x->b=C.lQ P s i
theorem X9{C:au}{P:List Int}{s:ak}{i:Nat}(hO:bJ C s)(hi:i<C.acts.length):Sound C P (Jt s i) (C.lQ P s i):=λs' i' hO' hi' e=>by
 obtain⟨h1,h2⟩:=X8 hO' hO hi' hi e;subst h2;unfold au.lQ;congr 1;funext p;exact(LG hO' hO h1 p _).symm
theorem agD(w:World):(zeroValue 4).run Tryz.prog w= .ok (.bool false) w:=by kernel_rfl
def dN(C:au)(P:List Int)(w:World)(b n:Nat):Prop:=
 ∃D:DataW Value,w.ownsMap Tryz.prog 9 R1 b (Maps.size D) D/\Maps.size D<=n/\∀x:List UInt8,Maps.has D (.string x)=true->∃y:Bool,(∀z,D.atKey (.string x) z= .held (.bool y))/\Sound C P x y
section
variable {C:au} {P:List Int} {w w':World} {b n:Nat}
theorem dN.blk(h:dN C P w b n):gD w b:=by
 obtain⟨D,⟨es,c,hb,_⟩,_⟩:=h;exact⟨es,c,hb⟩
theorem dN.keep{S:Nat->Prop}(h:dN C P w b n)(hu:aH S w w')(hb:¬S b):dN C P w' b n:=by
 obtain⟨D,⟨es,c,h1,h2⟩,h3⟩:=h;exact⟨D,⟨es,c,hu.keep h1 hb,h2⟩,h3⟩
theorem dN.below(h:dN C P w b n)(hb:Below w.heap.size w w'):dN C P w' b n:=by
 obtain⟨es,c,h1⟩:=h.blk;exact h.keep (aH.of_below hb) (by have:=av h1;omega)
theorem dN.mono{m:Nat}(h:dN C P w b n)(hm:n<=m):dN C P w b m:=by
 obtain⟨D,h1,h2,h3⟩:=h;exact⟨D,h1,bF h2 hm,h3⟩
theorem dN.made(C:au)(P:List Int)(w:World):dN C P (w.alloc (.map #[] 0)) w.heap.size 0:=⟨.map [],World.ownsMap_made _ _ _ _,bH _,λx hx=>by cases hx⟩
theorem dN.look(h:dN C P w b n){x:List UInt8}(hl:x.length<=maxLen):
 ∃y k:Bool,(Instr.lookup 119 (.map (some b)) (.string ⟨x.toArray⟩) true).run Tryz.prog w= .ok (.tuple #[.bool y,.bool k]) w/\(k=true->Sound C P x y)/\(k=false->y=false):=by
 obtain⟨D,h1,h2,h3⟩:=h;obtain⟨v,ps,hrun,hv⟩:=h1.look_ok (t:=119) (e:=4) Br Tryz.underlying119 (agD w) (zd:=.held (.bool false)) (zp:=[]) rfl (Qy hl);have h6:=Qz hv;cases hh:Maps.has D (.string x)with
 |true=>
  obtain⟨y,hy,hs⟩:=h3 x hh;rw[hy]at h6;injection h6 with h6
  subst h6;rw[hh]at hrun;exact⟨y,true,hrun,λ_=>hs,λh=>(by cases h)⟩
 |false=>
  rw[Maps.atKey_of_not_has hh]at h6;injection h6 with h6
  subst h6;rw[hh]at hrun;exact⟨false,false,hrun,λh=>(by cases h),λ_=>rfl⟩
theorem dN.put(h:dN C P w b n){x:List UInt8}(hl:x.length<=maxLen){y:Bool}(hs:Sound C P x y)(hn:n<=100000000000):
 ∃w',(Instr.mapUpdate 119 (.map (some b)) (.string ⟨x.toArray⟩) (.bool y)).run Tryz.prog w= .ok () w'/\dN C P w' b (n+1)/\aH (λk=>k=b) w w':=by
 obtain⟨D,h1,h2,h3⟩:=h;obtain⟨w',hrun,hown,htr⟩:=h1.store (t:=119) (e:=4) Br Tryz.underlying119 (by unfold maxLen;omega) (Qy hl) (val:=.bool y) (d:=.held (.bool y)) (ps:=[]) rfl;obtain⟨hu,_⟩:=zB htr;refine⟨w',hrun,⟨D.put (.string x) (.held (.bool y)),Bt hown,?_,λx' hx'=>?_⟩,hu⟩
 .rw[Maps.size_put (h1.tidy Br)]
  split<;>omega
 .by_cases e:x'=x
  .subst e
   exact⟨y,λz=>Maps.atKey_put_same h1.isMap (Br.key (Qy hl)) _ _,hs⟩
  .have hne:Lit.string x'≠ .string x:=λh=>e (by injection h)
   rw[Maps.has_put_other hne]at hx';obtain⟨y',hy',hs'⟩:=h3 x' hx';exact⟨y',λz=>by rw[Maps.atKey_put_other hne];exact hy' z,hs'⟩
end
def vL(bc bk bp:Nat):Value:=.func (.func 75) #[] #[.pointer (some ⟨bc,0,none⟩),.pointer (some ⟨bk,0,none⟩),.pointer (some ⟨bp,0,none⟩)]
structure oF(C:au)(P:List Int)(w:World)(bc bk bp bm n:Nat):Prop where
 con:∃v,vK w bc v C
 key:Own w 119 bk [.map (some bm)]
 par:∃A c,Own w 22 bp [.slice A P.length c]/\At w 1 A P.length c (aR P)
 memo:dN C P w bm n
theorem Own.SN{w:World}{t:TypeId}{b:Nat}{cs:List Value}(h:Own w t b cs):¬gD w b:=λ⟨es,c,e⟩=>by
 obtain⟨tl,h⟩:=h;rw[h]at e;cases e
theorem Own.z_{S:Nat->Prop}{w w':World}{t:TypeId}{b:Nat}{cs:List Value}(h:Own w t b cs)(hu:aH S w w')(hS:∀k,S k->gD w k):Own w' t b cs:=h.keep hu (λhb=>h.SN (hS b hb))
theorem vK.z_{S:Nat->Prop}{w w':World}{b:Nat}{v:CV}{C:au}(h:vK w b v C)(hu:aH S w w')(hS:∀k,S k->gD w k):vK w' b v C:=⟨h.con.upd hu hS,h.n_.z_ hu hS⟩
theorem oF.turn{C:au}{P:List Int}{S:Nat->Prop}{w w':World}{bc bk bp bm n m:Nat}(h:oF C P w bc bk bp bm n)(hu:aH S w w')(hS:∀k,S k->gD w k)(hm:dN C P w' bm m):oF C P w' bc bk bp bm m:=by
 obtain⟨⟨v,h1⟩,h2,⟨A,c,h3,h4⟩,_⟩:=h;exact⟨⟨v,h1.z_ hu hS⟩,h2.z_ hu hS,⟨A,c,h3.z_ hu hS,h4.upd (by omega) hu hS⟩,hm⟩
def U8(C:au)(P:List Int)(w:World)(e:Ending)(w':World):Prop:=
 ∃bc bk bp bm:Nat,e= .returned (vL bc bk bp)/\oF C P w' bc bk bp bm 0/\Below w.heap.size w w'/\w.heap.size<=bm
theorem U9(v:CV)(C:au)(A:Option Addr)(c:Nat)(P:List Int)(w:World)(hC:bU w v C)(hP:At w 1 A P.length c (aR P)):Calls Tryz.prog 48 #[v.val C,.slice A P.length c] w (U8 C P w):=by
 obtain⟨⟨dF,dG⟩,⟨dH,dK⟩,⟨dV,dn⟩,⟨dQ,dh⟩,⟨dz,dB⟩⟩:=v;have HC:=ah hC;clear hC;have HP:=ah hP;clear hP;simp only[CV.val,CV.cells];have hmm:=@run_makeMap Tryz.prog;go_enter Tryz.func48,Tryz.ntmps48;go_upto_region 1 with(fail)
 generalize hW0:World.alloc _ _=W0;obtain⟨HB0,h0,h1⟩:=IQ hW0;have yR:Hid (W0.heap.size=w.heap.size+1+1):=by show _=_;rw[<-hW0];simp
 clear hW0;go_upto_region 2 with(fail)
 generalize hW1:World.alloc _ _=W1;obtain⟨HB1,h2,h3⟩:=IQ hW1;have HM:Hid (dN C P (W0.alloc (.map #[] 0)) W0.heap.size 0):=dN.made C P W0;have Mq:Hid (dN C P W1 W0.heap.size 0):=by rw[<-hW1];exact HM.out.below (aK (aD _ _) _)
 clear hW1 HM;go_wp2;go_ret;refine⟨w.heap.size,W0.heap.size+1,w.heap.size+1,W0.heap.size,rfl,⟨⟨⟨⟨dF,dG⟩,⟨dH,dK⟩,⟨dV,dn⟩,⟨dQ,dh⟩,⟨dz,dB⟩⟩,⟨HC.out.below (ay HB0.out HB1.out),⟨[],?_⟩⟩⟩,⟨[],by rw[b_];exact h3⟩,⟨A,c,⟨[],?_⟩,HP.out.below (by omega) (ay HB0.out HB1.out)⟩,Mq.out⟩,ay HB0.out HB1.out,by have:=yR.out;omega⟩
 .rw[b_];exact(HB1.out.block _ (av h0)).trans h0
 .rw[b_];exact(HB1.out.block _ (av h1)).trans h1
end
section
open Go.RowKit Go.Shelf Go.Sort
theorem aa5(W:World){x:Int}(h:0<=x/\x<=255):(convert 3 5 (.int .i64 x)).run Tryz.prog W= .ok (.int .u8 x) W:=by
 have h1:=run_convert_int (P:=Tryz.prog) W 3 5 .i64 x (by rw[Tryz.underlying3];rfl) (by kernel_rfl);have h2:Tryz.prog.intKind 5= .u8:=by kernel_rfl
 rw[h2,IntWalk.u8_in x h]at h1;exact h1
theorem Ou{l:List Int}{k:Nat}{x:Int}(h:l[k]?=some x):jw (l.take (k+1))=jw (l.take k)++[UInt8.ofNat x.toNat]:=by
 rw[bS h];simp[jw]
theorem X_{l:List Int}{k:Nat}{x:Int}(h:l[k]?=some x)(f:Int->Bool):(l.take (k+1)).any f=((l.take k).any f||f x):=by
 rw[bS h];simp
def Ov(C:au)(P:List Int)(s:ak)(i:Nat)(bm n:Nat)(w:World)(e:Ending)(w':World):Prop:=
 e= .returned (.bool (C.sight P s i))/\dN C P w' bm (n+1)/\aH (λk=>k=bm) w w'
theorem E9{C:au}{P:List Int}{w W:World}{bm n:Nat}(h:dN C P w bm n)(hb:Below w.heap.size w W):dN C P W bm (n+1)/\aH (λk=>k=bm) w W:=
 ⟨(h.below hb).mono (by omega),(aH.of_below hb).mono (λi hi hle=>by omega)⟩
theorem Ic{C:au}{P:List Int}{w:World}{bc bk bp bm n:Nat}(H:oF C P w bc bk bp bm n)(hn:n<=100000000000)(t:TV)(s:ak)(hS:aW w t s)(hO:bJ C s){i:Nat}(hi:i<C.acts.length):
 Calls Tryz.prog 75 #[t.val s,.int .i64 i,.pointer (some ⟨bc,0,none⟩),.pointer (some ⟨bk,0,none⟩),.pointer (some ⟨bp,0,none⟩)] w (Ov C P s i bm n w):=by
 obtain⟨⟨⟨⟨dF,dG⟩,⟨dH,dK⟩,⟨dV,dn⟩,⟨dQ,dh⟩,⟨dz,dB⟩⟩,hco⟩,hkey,⟨pA,pc,hpb,hpa⟩,hmem⟩:=H;obtain⟨⟨fQ,eZ⟩,⟨gH,eX⟩,⟨h_,dW⟩⟩:=t;obtain⟨a,ha⟩:∃a,C.acts[i]?=some a:=⟨_,aT hi⟩;have SQ:Hid (C.sight P s i=((!(a.kind==1))||((a.tgt== -1)||C.lQ P s i))):=by show _=_;unfold au.sight;rw[ha]
 have HK:=ah (au.ok hO.con);have hnr:=HK.out.Qi;have hnp:=HK.out.Gr;have hna:=HK.out.JW;have hlh:s.aj.length<=12:=by rw[hO.lh];exact hnr
 have HHR:Hid (∀x∈s.aj,0<=x/\x<=255):=λx hx=>by have:=hO.held x hx;omega
 have HN:=ah hn;clear hn;have C9:Hid (Sound C P (Jt s i) (C.lQ P s i)):=X9 hO hi;have RP:Hid (∀b,Sound C P (Jt s i) b->b=C.lQ P s i):=λb h=>h s i hO hi rfl;have HC:=ah hco;clear hco;have HKE:=ah hkey;clear hkey;have HPB:=ah hpb;clear hpb;have HPA:=ah hpa;clear hpa;have HM:=ah hmem;clear hmem;have HS:=ah hS;clear hS;have HO:=ah hO;clear hO;generalize hE:C.sight P s i=E at SQ;have HE:=ah hE;clear hE;unfold Ov;rw[HE.out];simp only[TV.val,TV.cells,ak.cells];go_enter Tryz.func75,Tryz.ntmps75;go_upto_region 1 with(fail)
 generalize hW0:World.alloc _ _=W0;obtain⟨HB0,h0⟩:=bx1 hW0;have sO:Hid (Own W0 48 w.heap.size [.int .i64 s.day,.slice fQ s.aj.length eZ,.slice gH s.used.length eX,.slice h_ s.marks.length dW]):=⟨[],by rw[b_];exact h0⟩;have TT:=ah (HC.out.below HB0.out);obtain⟨c0,c1,c2,c3,c4,c5,c6⟩:=TT.out.cells;simp only at c0 c1 c2 c3 c4 c5 c6;obtain⟨ab,mF,hA,hab,hac⟩:=TT.out.con.act ha;simp only at hA;subst hA;obtain⟨ki,ro,gi,tg,un,⟨ln,ld⟩⟩:=a;simp only at SQ;obtain⟨r0,r1,r2,r3,r4,r5,r6⟩:=rw7 (hac W0 (aD _ _)) rfl;have i0:(0:Int)<=(i:Int):=by omega
 have i1:(i:Int)<(C.acts.length:Int):=by omega
 clear hW0 h0 hac hab ha;go_upto_region 2 with(fail)
 generalize hW1:World.alloc _ _=W1;obtain⟨hb1,h1⟩:=bx1' hW1;have d0:W1.cell? ⟨W0.heap.size,0,none⟩=some (.int .i64 ki):=(aG W1 _ 0 _ _ _ h1).trans rfl;have d3:W1.cell? ⟨W0.heap.size,3,none⟩=some (.int .i64 tg):=(aG W1 _ 3 _ _ _ h1).trans rfl;have zK:=ah (TT.out.below hb1);have HB1:Hid (Below w.heap.size w W1):=ay HB0.out hb1;have adh:=ah (sO.out.below hb1);clear hW1 h1 r0 r1 r2 r3 r4 r5 r6 c0 c1 c2 c3 c4 c5 c6 TT hb1 sO HC HB0;cases qk:(ki==1)with
 |false=>
  rw[qk]at SQ;have qk':(ki !=1)=true:=by simpa using qk
  go_wp2;go_ret;exact⟨by rw[SQ.out];rfl,E9 HM.out HB1.out⟩
 |true=>
  have qk':(ki !=1)=false:=by simpa using qk
  cases qt:(tg== -1)with
  |true=>
   rw[qk,qt]at SQ;go_wp2;go_ret;exact⟨by rw[SQ.out];rfl,E9 HM.out HB1.out⟩
  |false=>
   rw[qk,qt]at SQ;have agE:Hid (E=C.lQ P s i):=by show _=_;rw[SQ.out];rfl
   clear SQ;obtain⟨iu,hui,huz,Qr,hub⟩:=info_parts' J2;have s1:=adh.out.cell (i:=1) rfl;have KH:Hid (∀z,Below W1.heap.size W1 z->vK z bc ⟨⟨dF,dG⟩,⟨dH,dK⟩,⟨some ⟨ab,mF,none⟩,dn⟩,⟨dQ,dh⟩,⟨dz,dB⟩⟩ C):=λz hz=>zK.out.below hz;clear zK;go_wp2_with (at_make;refine wpList_make_own _ rfl _ _ 101 rfl W1.heap.size 5 iu (.int .u8 0) 1 Tryz.underlying101 hui huz Qr _ _ _ (s.aj.length+1) rfl rfl (by simp) (by rw[hub];omega) (by unfold maxLen;omega) (bH _) ?_;intro W2 hrow2 hg2;refine Hid.out ?_);refine ah ?_;have XO:Hid (Bytes W1.heap.size W2 (.slice (some ⟨W1.heap.size,0,none⟩) 0 (s.aj.length+1)) (jw (s.aj.take 0))):=hrow2;have HZ2:Hid (RowKit.Below W1.heap.size W1 W2):=(aD _ _).grown hg2 (bH _) (λj hj=>by cases hj);clear hrow2 hg2 s1 d0 d3;have s1:=(adh.out.below HZ2.out).cell (i:=1) rfl;go_wp2
   go_loopg [37,9] s.aj.length (λgk v37 v9 wr=>∃k:Nat,gk=s.aj.length - k/\k<=s.aj.length/\v37= .int .i64 k/\Hid (Bytes W1.heap.size wr v9 (jw (s.aj.take k)))/\Hid (Below W1.heap.size W1 wr))
   case atStart=>exact⟨0,rfl,aV _,rfl,XO,HZ2⟩
   case round=>
    obtain⟨k,eH,hk,rfl,HY,HZ⟩:=hrel;have iB:=ah eH;clear eH;clear XO HZ2 s1;have hyl:(jw (s.aj.take k)).length=k:=by unfold jw;rw[eF,p9];omega
    by_cases hlt:k<s.aj.length
    .obtain⟨x,hx⟩:∃x,s.aj[k]?=some x:=⟨_,aT hlt⟩
     have Xj:=HHR.out x (cK hx);obtain⟨hb,ho,hA,hbl,hcl⟩:=(HS.out.below (ay HB1.out HZ.out)).aj.1.form (by omega) (by omega);simp only at hA;subst hA;have x0:wr.cell? ⟨hb,ho+k,none⟩=some (.int .i64 x):=(hcl k (by omega)).trans (gQ hx);have hcv:∀W:World,(convert 3 5 (.int .i64 x)).run Tryz.prog W= .ok (.int .u8 x) W:=λW=>aa5 W Xj;have HXB:=ah (BM Xj);have tT:=ah (Ou hx);have k0:(k:Int)<(s.aj.length:Int):=by omega
     have k1:(0:Int)<=(k:Int):=by omega
     clear hcl hx Xj;go_wp2_with (at_builtin;refine wpList_append_byte rfl _ _ rfl W1.heap.size _ _ rfl HY.out _ x HXB.out rfl (by rw[hyl];omega) HZ.out.size ?_;intro v2 w2 h1 h2;refine Hid.out ?_);refine ah ?_;have HYN:Hid (Bytes W1.heap.size w2 v2 (jw (s.aj.take (k+1)))):=by show Bytes _ _ _ _;rw[tT.out];exact h1
     have HZN:Hid (RowKit.Below W1.heap.size W1 w2):=HZ.out.trans h2.below;clear h1 h2 x0 hcv;go_wp2
     go_roundg (s.aj.length - (k+1))
     case measure=>rw[iB.out];omega
     case rel=>exact⟨k+1,rfl,by omega,by go_num,HYN,HZN⟩
    .obtain rfl:k=s.aj.length:=by omega
     rw[gV]at HY;have hir:(0:Int)<=(i:Int)/\(i:Int)<=255:=by omega
     have hcv:∀W:World,(convert 3 5 (.int .i64 i)).run Tryz.prog W= .ok (.int .u8 i) W:=λW=>aa5 W hir;have HXB:=ah (BM hir);rw[gV]at hyl;go_wp2_with (at_builtin;refine wpList_append_byte rfl _ _ rfl W1.heap.size _ _ rfl HY.out _ i HXB.out rfl (by rw[hyl];omega) HZ.out.size ?_;intro v2 w2 h1 h2;refine Hid.out ?_);refine ah ?_;have HY3:Hid (Bytes W1.heap.size w2 v2 (Jt s i)):=h1;have HZ3:Hid (Below W1.heap.size W1 w2):=HZ.out.trans h2.below;have hkl:(Jt s i).length=s.aj.length+1:=by unfold Jt;rw[lS,hyl];rfl
     clear h1 h2 HY HZ hcv HXB hyl;generalize hX:Jt s i=X at HY3 C9 RP hkl;clear hX;have hxm:X.length<=maxLen:=by unfold maxLen;omega
     have HXM:=ah hxm;clear hxm;have HKL:=ah hkl;clear hkl;rcases HY3.out.2 with⟨_,h0⟩|⟨g,cap,cur,rfl,hgb,hg1,hg2,hg3,hg4,hg5⟩
     .exact absurd h0 (by have:=HKL.out;omega)
     clear hgb hg1 hg2 hg3 hg4 hg5;have TI:Hid (∀W:World,RowKit.Below w2.heap.size w2 W->(convert 101 9 (.slice (some ⟨g,0,none⟩) X.length cap)).run Tryz.prog W= .ok (.string ⟨X.toArray⟩) W):=λW hW=>
      run_convert_bytes_back (P:=Tryz.prog) W 101 9 5 ⟨g,0,none⟩ cap X Tryz.underlying101 Tryz.underlying5 Tryz.underlying9 (λj hj=>World.ownsRow.cells (show World.ownsRow _ _ _ _ _ _ _ from ownsRow_below HY3.out hW) (g:=g) rfl j _ (by simp[Lib.byteCells,hj]))
     have hcv:=TI.out w2 (aD _ _);have VE:Hid (RowKit.Below w.heap.size w w2):=ay HB1.out HZ3.out;obtain⟨y,kn,hrun,hk1,hk0⟩:=(HM.out.below VE.out).look HXM.out;have e0:=(HKE.out.below VE.out).cell (i:=0) rfl;cases kn with
     |true=>
      have HY1:Hid (y=E):=by show _=_;rw[agE.out];exact RP.out y (hk1 rfl)
      clear hk1 hk0;go_wp2;go_ret;exact⟨congrArg (λb=>Ending.returned (.bool b)) HY1.out,E9 HM.out VE.out⟩
     |false=>
      obtain rfl:=hk0 rfl;have p0:=(HPB.out.below VE.out).cell (i:=0) rfl;have hpx:P.length<=9223372036854775807:=by have h1:=HPA.out.2.2.1;have h2:=HPA.out.2.2.2;unfold maxLen at h2;omega
      clear hk0 hk1;go_wp2
      go_loopg [63,12] P.length (λgk v63 v12 wr=>∃j:Nat,gk=P.length - j/\j<=P.length/\v63= .int .i64 j/\v12= .bool ((P.take j).any (λp=>C.sees s p i))/\Hid (RowKit.Below w2.heap.size w2 wr))
      case atStart=>exact⟨0,rfl,aV _,rfl,rfl,aD _ _⟩
      case round=>
       obtain⟨j,hgj,hj,rfl,rfl,HW⟩:=hrel;have Pk:=ah hgj;clear hgj;clear hcv hrun e0 p0;have ZA:Hid (RowKit.Below w.heap.size w wr):=ay VE.out HW.out;by_cases hlt:j<P.length
       .obtain⟨x,hx⟩:∃x,P[j]?=some x:=⟨_,aT hlt⟩
        obtain⟨pb,po,hA,hbl,hcl⟩:=(HPA.out.below (by omega) ZA.out).1.form (by omega) (by omega);subst hA;have x0:wr.cell? ⟨pb,po+j,none⟩=some (.int .i64 x):=(hcl j (by omega)).trans (gQ hx);have HAS:=ah (X_ hx (λp=>C.sees s p i));have j0:(j:Int)<(P.length:Int):=by omega
        have j1:(0:Int)<=(j:Int):=by omega
        clear hcl hx;have Mr:=ah (KH.out wr (ay HZ3.out HW.out));obtain⟨c0,c1,c2,c3,c4,c5,c6⟩:=Mr.out.cells;simp only at c0 c1 c2 c3 c4 c5 c6;have K7:=ah (adh.out.below (ay HZ3.out HW.out));have s0:=K7.out.cell (i:=0) rfl;have s1:=K7.out.cell (i:=1) rfl;have s2:=K7.out.cell (i:=2) rfl;have s3:=K7.out.cell (i:=3) rfl;generalize(P.take j).any (λp=>C.sees s p i)=acc at HAS⊢;cases acc with
        |true=>
         go_wp2
         go_roundg (P.length - (j+1))
         case measure=>rw[Pk.out];omega
         case rel=>exact⟨j+1,rfl,by omega,by go_num,by rw[HAS.out,Bool.true_or],HW⟩
        |false=>
         have hse:=MO ⟨⟨dF,dG⟩,⟨dH,dK⟩,⟨some ⟨ab,mF,none⟩,dn⟩,⟨dQ,dh⟩,⟨dz,dB⟩⟩ C ⟨⟨fQ,eZ⟩,⟨gH,eX⟩,⟨h_,dW⟩⟩ s x i wr Mr.out.con (HS.out.below ZA.out);simp only[CV.val,CV.cells,TV.val,TV.cells,ak.cells]at hse;have Pz:=ah hse;clear hse;generalize C.sees s x i=q at HAS Pz;go_wp2_with (go_at_call 76;refine Pz.out.mono ?_;rintro e z ⟨rfl,hz⟩;refine Hid.out ?_);refine ah ?_;have lq:Hid (RowKit.Below w2.heap.size w2 z):=ay HW.out hz;clear hz Pz Mr K7 c0 c1 c2 c3 c4 c5 c6 s0 s1 s2 s3 x0;go_wp2
         go_roundg (P.length - (j+1))
         case measure=>rw[Pk.out];omega
         case rel=>exact⟨j+1,rfl,by omega,by go_num,by rw[HAS.out,Bool.false_or],lq⟩
       .obtain rfl:j=P.length:=by omega
        rw[gV];have HEV:Hid (P.any (λp=>C.sees s p i)=C.lQ P s i):=rfl;have HEQ:Hid (P.any (λp=>C.sees s p i)=E):=by show _=_;rw[agE.out];rfl
        generalize P.any (λp=>C.sees s p i)=y at HEV HEQ⊢;have hcv:=TI.out wr HW.out;have e0:=(HKE.out.below ZA.out).cell (i:=0) rfl;obtain⟨W9,hput,hm9,hu9⟩:=(HM.out.below ZA.out).put HXM.out (y:=y) (by rw[HEV.out];exact C9.out) HN.out;have HM9:=ah hm9;have HU9:Hid (aH (λk=>k=bm) w W9):=((E9 HM.out ZA.out).2).trans hu9 (λ_ _ h=>h);clear hm9 hu9;go_wp2;go_ret;exact⟨congrArg (λb=>Ending.returned (.bool b)) HEQ.out,HM9.out,HU9.out⟩
end
section
open Go.RowKit Go.Shelf Go.Sort
def Safe(M:Nat->Prop)(o:Option Nat)(w:World)(t:TV)(s:ak):Prop:=∀w',aH (λk=>some k=o\/M k) w w'->aW w' t s
section
variable {M:Nat->Prop} {o o':Option Nat} {w w':World} {t:TV} {s:ak}
theorem Safe.at(h:Safe M o w t s):aW w t s:=h w (aH.refl _ _)
theorem Safe.turn{S:Nat->Prop}(h:Safe M o w t s)(hu:aH S w w')(hS:∀k,k<w.heap.size->S k->some k=o\/M k)(ho:o'=o\/∀g,o'=some g->w.heap.size<=g):Safe M o' w' t s:=λw'' hu'=>
 h w'' ((hu.mono hS).trans hu' (λi hi e=>by
  rcases e with e|e
  .rcases ho with ho|ho
   .exact .inl (e.trans ho)
   .have:=ho i e.symm;omega
  .exact .inr e))
theorem Safe.new{z:World}(hs:aW w t s)(hn:rC z.heap.size t)(ho:∀k,(some k=o\/M k)->k<z.heap.size):Safe M o w t s:=λ_ hu=>hs.vE hn hu ho
end
def uL(Q:TV->ak->Prop)(w:World)(b:Nat)(F:List ak):Prop:=
 ∃D:DataW Value,w.ownsMap Tryz.prog 9 R1 b (Maps.size D) D/\Maps.size D=F.length/\(F.map ak.text).Nodup/\
  (∀s∈F,∃t:TV,(∀z,D.atKey (.string s.text) z= .held (t.val s))/\Q t s)/\(∀k,Maps.has D k=true->∃s∈F,k= .string s.text)
section
variable {Q Q':TV->ak->Prop} {w w':World} {b:Nat} {F:List ak}
theorem Ya(t:TV):rC 0 t:=⟨λ_ _ _=>aV _,λ_ _ _=>aV _,λ_ _ _=>aV _⟩
theorem uL.SS(h:uL Q w b F)(hq:∀t s,Q t s->aW w t s):lI 0 w b F:=by
 obtain⟨D,h1,h2,h3,h4,h5⟩:=h;exact⟨D,h1,h2,h3,λs hs=>(h4 s hs).imp (λt ht=>⟨ht.1,hq t s ht.2,Ya t⟩),h5⟩
theorem uL.imp(h:uL Q w b F)(hq:∀t s,Q t s->Q' t s):uL Q' w b F:=by
 obtain⟨D,h1,h2,h3,h4,h5⟩:=h;exact⟨D,h1,h2,h3,λs hs=>(h4 s hs).imp (λt ht=>⟨ht.1,hq t s ht.2⟩),h5⟩
theorem uL.blk(h:uL Q w b F):gD w b:=by
 obtain⟨D,⟨es,c,hb,_⟩,_⟩:=h;exact⟨es,c,hb⟩
theorem uL.keep{S:Nat->Prop}(h:uL Q w b F)(hu:aH S w w')(hb:¬S b):uL Q w' b F:=by
 obtain⟨D,⟨es,c,h1,h2⟩,h3⟩:=h;exact⟨D,⟨es,c,hu.keep h1 hb,h2⟩,h3⟩
theorem uL.nodup(h:uL Q w b F):(F.map ak.text).Nodup:=by
 obtain⟨D,_,_,h3,_⟩:=h;exact h3
theorem uL.put(h:uL Q w b F){s:ak}(hn:s.text∉F.map ak.text){t:TV}(hq:Q t s)(hl:s.text.length<=maxLen)(hF:F.length<1000000):
 ∃w',(Instr.mapUpdate 142 (.map (some b)) (.string ⟨s.text.toArray⟩) (t.val s)).run Tryz.prog w= .ok () w'/\uL Q w' b (F++[s])/\aH (λk=>k=b) w w':=by
 obtain⟨D,h1,h2,h3,h4,h5⟩:=h;obtain⟨w',hrun,hown,htr⟩:=h1.store (t:=142) (e:=48) Br Tryz.underlying142 (by rw[h2];unfold maxLen;omega) (Qy hl) (val:=t.val s) (d:=.held (t.val s)) (ps:=[]) rfl;obtain⟨hu,_⟩:=zB htr;have hnot:Maps.has D (.string s.text)=false:=by
  cases hh:Maps.has D (.string s.text)with
  |false=>rfl
  |true=>
   obtain⟨s',hs',e⟩:=h5 _ hh;exact absurd (dU.2 ⟨s',hs',(Lit.string.inj e).symm⟩) hn
 refine⟨w',hrun,⟨D.put (.string s.text) (.held (t.val s)),Bt hown,?_,?_,?_,?_⟩,hu⟩
 .rw[Maps.size_put (h1.tidy Br),hnot]
  simp[h2]
 .rw[uf,List.nodup_append]
  exact⟨h3,by simp,λa ha b hb e=>by simp at hb;rw[e,hb]at ha;exact hn ha⟩
 .intro x hx
  rcases jZ.1 hx with hx|hx
  .obtain⟨t',ht',hq'⟩:=h4 x hx
   refine⟨t',λz=>?_,hq'⟩;rw[Maps.atKey_put_other (λe=>by injection e with e;exact hn (by rw[<-e];exact dU.2 ⟨x,hx,rfl⟩))];exact ht' z
  .rw[dZ]at hx
   subst hx;exact⟨t,λz=>Maps.atKey_put_same h1.isMap (Br.key (Qy hl)) _ _,hq⟩
 .intro k hk
  by_cases e:k= .string s.text
  .exact⟨s,by simp,e⟩
  .rw[Maps.has_put_other e]at hk
   obtain⟨s',hs',e'⟩:=h5 k hk;exact⟨s',List.mem_append_left _ hs',e'⟩
end
def dY(M:Nat->Prop)(B:Nat)(w:World)(v:Value)(R:List ak):Prop:=
 ∃ts:List TV,ts.length=R.length/\w.ownsRow B 48 4 v R.length ((R.zip ts).flatMap (λp=>TV.cells p.2 p.1))/\∀(i:Nat)(s:ak)(t:TV),R[i]?=some s->ts[i]?=some t->Safe M v.ownBlock w t s
theorem dY.nil(M:Nat->Prop)(B:Nat)(w:World):dY M B w (.slice none 0 0) []:=⟨[],rfl,World.ownsRow_nil _ _ _ _,λi s t hs=>by simp at hs⟩
theorem dY.keep{M S:Nat->Prop}{B:Nat}{w w':World}{v:Value}{R:List ak}(h:dY M B w v R)(hu:aH S w w')(hS:∀k,k<w.heap.size->S k->M k)(hg:∀g,v.ownBlock=some g->¬S g):dY M B w' v R:=by
 obtain⟨ts,h1,h2,h3⟩:=h;exact⟨ts,h1,bX h2 hu hg,λi s t hs ht=>(h3 i s t hs ht).turn hu (λk hk e=>.inr (hS k hk e)) (.inl rfl)⟩
theorem dY.ret{M:Nat->Prop}{B:Nat}{w:World}{v:Value}{R:List ak}(h:dY M B w v R):∃A c,v= .slice A R.length c/\dD 0 w ⟨A,c⟩ R:=by
 obtain⟨ts,h1,h2,h3⟩:=h;obtain⟨A,c,rfl,hAt⟩:=nX h2 (cells_one _);exact⟨A,c,rfl,λb off e=>aV _,ts,h1,hAt,λi s t hs ht=>⟨(h3 i s t hs ht).at,Ya t⟩⟩
theorem dY.own{M:Nat->Prop}{B:Nat}{w:World}{v:Value}{R:List ak}(h:dY M B w v R){g:Nat}(hg:v.ownBlock=some g):B<=g/\g<w.heap.size/\∃cs,w.heap[g]?=some (.cells cs 48 (0,0)):=by
 obtain⟨ts,_,h2,_⟩:=h;rcases h2.2 with⟨rfl,_⟩|⟨g',cap,cur,rfl,hb,hh,_⟩
 .cases hg
 .simp only[Value.ownBlock,Option.some.injEq]at hg
  subst hg;exact⟨hb,av hh,cur,hh⟩
theorem o8{M:Nat->Prop}{W:World}{ops:Array Oper}{rest:List Oper}{o:Oper}{a:Act}{Q:Exit->Act->World->Prop}
 (hg:o.guard=none)(so x:Operand)(hop:o.op=Op.call {callee:=Callee.builtin Builtin.append,args:=#[so,x],argTypes:=#[41,41]})
 (B:Nat)(v:Value)(R:List ak)(hs:a.eval so=v)(hown:dY M B W v R)(t:TV)(s:ak)(hst:Safe M v.ownBlock W t s)(arr:Array Value)(harr:arr=(t.cells s).toArray)
 (hx:a.eval x= .slice (some ⟨W.heap.size,0,none⟩) 1 1)(hlen:R.length<=1000000)(hBW:B<=W.heap.size)
 (hK:∀A' c' w',dY M B w' (.slice A' (R++[s]).length c') (R++[s])->aH (λk=>some k=v.ownBlock) W w'->((Value.slice A' (R++[s]).length c').ownBlock=v.ownBlock\/∀g,(Value.slice A' (R++[s]).length c').ownBlock=some g->W.heap.size<=g)->wpList Tryz.prog ops Q rest (a.put o.dst (.slice A' (R++[s]).length c')) w'):
 wpList Tryz.prog ops Q (o::rest) a (W.alloc (.cells arr 48)):=by
 subst harr;obtain⟨ts,h1,h2,h3⟩:=hown;obtain⟨is,hsi,hsz,hss,hsb⟩:=info_parts' (P:=Tryz.prog) (t:=48) (z:=some gB) (s:=4) (b:=80) (by kernel_rfl);have hba:Below W.heap.size W (W.alloc (.cells (t.cells s).toArray 48)):=aK (aD _ _) _;refine wpList_append_own_at _ hg so x 41 hop B 48 is gB 4 80 Tryz.underlying41 hsi hsz hss hsb rfl (by decide) v R.length _ hs (World.ownsRow.alloc h2 _) ⟨W.heap.size,0,none⟩ 1 1 (t.cells s) hx rfl
  (λj u hj=>by
   rw[Addr.add_lit,aG _ _ (0+j) _ _ _ (bC W _)];simpa using hj) (by
   intro u hu;simp only[TV.cells,ak.cells,d_,iW,or_false]at hu;rcases hu with rfl|rfl|rfl|rfl<;>rfl) (by unfold maxLen;omega) (by omega) (by simp;omega) ?_
 intro v' w' hown' hgrow _ hblk;have ach:aH (λk=>some k=v.ownBlock) (W.alloc (.cells (t.cells s).toArray 48)) w':=⟨hgrow.os,hgrow.tape,hgrow.output,hgrow.size,λk hk hn=>hgrow.block k hk hn⟩;have hU:aH (λk=>some k=v.ownBlock) W w':=(((aH.of_below hba).mono (λi hi hle=>by omega)).trans ach (λ_ _ e=>e));have ho:v'.ownBlock=v.ownBlock\/∀g,v'.ownBlock=some g->W.heap.size<=g:=by
  rcases hblk with hblk|hblk
  .exact .inl hblk
  .exact .inr (λg e=>by rw[hblk]at e;injection e with e;simp at e;omega)
 suffices hso:dY M B w' v' (R++[s]) by
  obtain⟨A',c',e,_⟩:=hso.ret;subst e;exact hK A' c' w' hso hU ho
 refine⟨ts++[t],by simp[h1],?_,λi x' t' hx' ht'=>?_⟩
 .rw[List.zip_append h1.symm,Fb,lS,vN]
  simpa using hown'
 .have hsf:∀t' s',Safe M v.ownBlock W t' s'->Safe M v'.ownBlock w' t' s':=λt' s' h=>h.turn hU (λk _ e=>.inl e) ho
  by_cases hi:i<R.length
  .rw[lX hi]at hx'
   rw[lX (by rw[h1];exact hi)]at ht';exact hsf _ _ (h3 i x' t' hx' ht')
  .rw[oG (by omega)]at hx'
   rw[oG (by rw[h1];omega),h1]at ht';cases hk:i - R.length with
   |zero=>
    rw[hk]at hx' ht';simp at hx' ht';rw[<-hx',<-ht'];exact hsf _ _ hst
   |succ q=>rw[hk]at hx';simp at hx'
structure qo(M:Nat->Prop)(B cm cq bf:Nat)(w:World)(v:Value)(F:List ak):Prop where
 Dj:Own w 142 cm [.map (some bf)]
 Rh:Own w 41 cq [v]
 set:uL (Safe M v.ownBlock w) w bf F
 U_:dY M B w v F
theorem qo.keep{M S:Nat->Prop}{B cm cq bf:Nat}{w w':World}{v:Value}{F:List ak}(h:qo M B cm cq bf w v F)(hu:aH S w w')(hS:∀k,k<w.heap.size->S k->M k)(h1:¬S cm)(h2:¬S cq)(h3:¬S bf)(hg:∀g,v.ownBlock=some g->¬S g):qo M B cm cq bf w' v F:=
 ⟨h.Dj.keep hu h1,h.Rh.keep hu h2,(h.set.keep hu h3).imp (λ_ _ hs=>hs.turn hu (λk hk e=>.inr (hS k hk e)) (.inl rfl)),h.U_.keep hu hS hg⟩
theorem qo.below{M:Nat->Prop}{B cm cq bf:Nat}{w w':World}{v:Value}{F:List ak}(h:qo M B cm cq bf w v F)(hb:Below w.heap.size w w'):qo M B cm cq bf w' v F:=by
 have h1:=h.Dj.lt;have h2:=h.Rh.lt;obtain⟨es,c,h3⟩:=h.set.blk;have h3:=av h3;refine h.keep (aH.of_below hb) (λk hk e=>by omega) (by omega) (by omega) (by omega) (λg hg e=>?_);have:=(h.U_.own hg).2.1;omega
theorem qo.z_{M S:Nat->Prop}{B cm cq bf:Nat}{w w':World}{v:Value}{F:List ak}(h:qo M B cm cq bf w v F)(hu:aH S w w')(hS:∀k,S k->gD w k/\M k)(h3:¬S bf):qo M B cm cq bf w' v F:=
 h.keep hu (λk _ e=>(hS k e).2) (λe=>h.Dj.SN (hS _ e).1) (λe=>h.Rh.SN (hS _ e).1) h3 (λg hg e=>by
  obtain⟨_,_,cs,hc⟩:=h.U_.own hg;obtain⟨es,c,hm⟩:=(hS _ e).1;rw[hc]at hm;cases hm)
end
section
open Go.RowKit Go.Shelf Go.Sort
def LH(M:Nat->Prop)(B cm cq bf:Nat)(v:Value)(F:List ak)(s:ak)(w:World)(e:Ending)(w':World):Prop:=
 e= .returned (.bool (decide ((rV F s).length<=300)))/\∃v',qo M B cm cq bf w' v' (rV F s)/\aH (λk=>some k=v.ownBlock\/k=bf\/k=cq) w w'/\(v'.ownBlock=v.ownBlock\/∀g,v'.ownBlock=some g->w.heap.size<=g)
theorem SY{M:Nat->Prop}{B cm cq bf:Nat}{w:World}{v:Value}{F:List ak}(H:qo M B cm cq bf w v F)(hMf:M bf)(hMq:M cq)(hB:B<=w.heap.size)(t:TV)(s:ak)(hS:Safe M v.ownBlock w t s)(hR:CK s)(hT:Tab w)(hF:F.length<=100000):
 Calls Tryz.prog 77 #[t.val s,.pointer (some ⟨cm,0,none⟩),.pointer (some ⟨cq,0,none⟩)] w (LH M B cm cq bf v F s w):=by
 have hlt1:=H.Dj.lt;have hlt2:=H.Rh.lt;have HH:=ah H;clear H;obtain⟨⟨fQ,eZ⟩,⟨gH,eX⟩,⟨h_,dW⟩⟩:=t;have HTM:=ah (NH hR);have adi:Hid (∀z,Below w.heap.size w z->Calls Tryz.prog 25 #[TV.val ⟨⟨fQ,eZ⟩,⟨gH,eX⟩,⟨h_,dW⟩⟩ s] z (dx (.string ⟨s.text.toArray⟩) z)):=λz hz=>GN _ s z (hS.at.below hz) hR (hT.below hz);have HS:=ah hS;clear hS;have I4:Hid (M bf/\M cq):=⟨hMf,hMq⟩;clear hMf hMq hT hR;simp only[TV.val,TV.cells,ak.cells]at adi⊢;go_enter Tryz.func77,Tryz.ntmps77;go_upto_region 1 with(fail)
 generalize hW0:World.alloc _ _=W0;obtain⟨HB0,h0⟩:=bx1 hW0;have HX0:Hid (Own W0 48 w.heap.size [.int .i64 s.day,.slice fQ s.aj.length eZ,.slice gH s.used.length eX,.slice h_ s.marks.length dW]):=⟨[],by rw[b_];exact h0⟩;clear hW0 h0;have x0:=HX0.out.cell (i:=0) rfl;have x1:=HX0.out.cell (i:=1) rfl;have x2:=HX0.out.cell (i:=2) rfl;have x3:=HX0.out.cell (i:=3) rfl;have Li:=ah (adi.out W0 HB0.out);obtain⟨tx,htx⟩:∃tx,tx=s.text:=⟨_,rfl⟩;rw[<-htx]at Li HTM;have HE:=ah htx;clear htx;go_wp2_with (go_at_call 25;refine Li.out.mono ?_;rintro e z ⟨rfl,hz⟩;refine Hid.out ?_);refine ah ?_;have Yb:Hid (RowKit.Below w.heap.size w z):=ay HB0.out hz;have ZL:=ah (HX0.out.below hz);have HHz:=ah (HH.out.below Yb.out);have hF0:=HHz.out.set.SS (λ_ _ h=>h.at);obtain⟨d,a1,n1,c1,a2,n2,c2,a3,n3,c3,hrun⟩:=hF0.KO HTM.out;unfold stV at hrun;obtain⟨bq,hbq⟩:∃b,b=decide (tx∈F.map ak.text):=⟨_,rfl⟩;rw[<-hbq]at hrun;have HBQ:=ah hbq;clear hbq;have y0:=HHz.out.Dj.cell (i:=0) rfl;clear x0 x1 x2 x3 Li adi hF0 HX0 HB0 hz;go_upto_region 3 with(fail)
 generalize hW1:World.alloc _ _=W1;obtain⟨hb1,_⟩:=bx1' hW1;have HB1:Hid (RowKit.Below w.heap.size w W1):=ay Yb.out hb1;have oU:=ah (ZL.out.below hb1);have Pn:=ah (HHz.out.below hb1);clear hW1 y0 hrun ZL HHz Yb hb1;have y0:=Pn.out.Dj.cell (i:=0) rfl;cases bq with
 |true=>
  have HQ:Hid (decide (tx∈F.map ak.text)=true):=HBQ.out.symm;have NW:Hid (rV F s=F):=by show _=_;rw[rV,<-HE.out,HQ.out];rfl
  have hlf:∀ty,(Builtin.len_ #[142] ty #[.map (some bf)]).run Tryz.prog W1= .ok (.int .i64 (F.length:Nat)) W1:=λty=>(Pn.out.set.SS (λ_ _ h=>h.at)).len ty;have HDL:Hid (decide ((F.length:Int)<=300)=decide (F.length<=300)):=decide_eq_decide.2 (by omega);go_wp2;go_ret;unfold LH;rw[NW.out];exact⟨congrArg (λb=>Ending.returned (.bool b)) HDL.out,v,Pn.out,(aH.of_below HB1.out).mono (λi hi hle=>by omega),.inl rfl⟩
 |false=>
  have HQ:Hid (decide (tx∈F.map ak.text)=false):=HBQ.out.symm;have NW:Hid (rV F s=F++[s]):=by show _=_;rw[rV,<-HE.out,HQ.out];rfl
  have hS1:Safe M v.ownBlock W1 ⟨⟨fQ,eZ⟩,⟨gH,eX⟩,⟨h_,dW⟩⟩ s:=HS.out.turn (aH.of_below HB1.out) (λk hk e=>by omega) (.inl rfl);obtain⟨W2,hput,hs2,hu2⟩:=Pn.out.set.put (s:=s) (by rw[<-HE.out];exact of_decide_eq_false HQ.out) hS1 (by rw[<-HE.out];exact HTM.out) (by omega);rw[<-HE.out]at hput;simp only[TV.val,TV.cells,ak.cells]at hput;have hnb:∀k,k=bf->gD W1 k/\M k:=λk hk=>by rw[hk];exact⟨Pn.out.set.blk,I4.out.1⟩
  have hS2:Safe M v.ownBlock W2 ⟨⟨fQ,eZ⟩,⟨gH,eX⟩,⟨h_,dW⟩⟩ s:=hS1.turn hu2 (λk hk e=>.inr (hnb k e).2) (.inl rfl);have uM:=ah (oU.out.z_ hu2 (λk hk=>(hnb k hk).1));have Ag:=ah (Pn.out.Dj.z_ hu2 (λk hk=>(hnb k hk).1));have EK:=ah (Pn.out.Rh.z_ hu2 (λk hk=>(hnb k hk).1));have HR2:Hid (dY M B W2 v F):=Pn.out.U_.keep hu2 (λk hk e=>(hnb k e).2) (λg hg e=>by
   obtain⟨_,_,cs,hc⟩:=Pn.out.U_.own hg;obtain⟨es,c,hm⟩:=(hnb _ e).1;rw[hc]at hm;cases hm)
  have HG2:Hid (uL (Safe M v.ownBlock W2) W2 bf (F++[s])):=hs2.imp (λ_ _ h=>h.turn hu2 (λk hk e=>.inr (hnb k e).2) (.inl rfl));have HS2:=ah hS2;have uR:Hid (aH (λk=>k=bf) w W2):=((aH.of_below HB1.out).mono (λi hi hle=>by omega)).trans hu2 (λ_ _ h=>h);have hsz2:B<=W2.heap.size:=bF hB uR.out.size;have HGN:Hid (∀g,v.ownBlock=some g->g≠cq/\g≠cm):=λg hg=>by
   obtain⟨_,_,cs,hc⟩:=HR2.out.own hg;refine⟨?_,?_⟩
   .rintro rfl
    obtain⟨tl,h⟩:=EK.out;rw[hc]at h;simp at h
   .rintro rfl
    obtain⟨tl,h⟩:=Ag.out;rw[hc]at h;simp at h
  have w0:=oU.out.cell (i:=0) rfl;have w1:=oU.out.cell (i:=1) rfl;have w2:=oU.out.cell (i:=2) rfl;have w3:=oU.out.cell (i:=3) rfl;clear hS1 hS2 hs2 hu2 hnb Pn oU HB1;have x0:=uM.out.cell (i:=0) rfl;have x1:=uM.out.cell (i:=1) rfl;have x2:=uM.out.cell (i:=2) rfl;have x3:=uM.out.cell (i:=3) rfl;have q0:=EK.out.cell (i:=0) rfl;go_wp2_with (at_builtin;refine o8 rfl _ _ rfl B v F rfl HR2.out ⟨⟨fQ,eZ⟩,⟨gH,eX⟩,⟨h_,dW⟩⟩ s HS2.out _ rfl rfl (by omega) hsz2 ?_;intro A3 c3 W3 hq3 hu3 ho3;refine Hid.out ?_);refine ah ?_;have Ev:Hid (Own W3 41 cq [v]):=EK.out.keep hu3 (λe=>(HGN.out cq e.symm).1 rfl);have Ml:Hid (Own W3 142 cm [.map (some bf)]):=Ag.out.keep hu3 (λe=>(HGN.out cm e.symm).2 rfl);have HG3:=ah ((HG2.out.keep hu3 (λe=>by
   obtain⟨_,_,cs,hc⟩:=HR2.out.own e.symm;obtain⟨es,c,hm⟩:=HG2.out.blk;rw[hc]at hm;cases hm)).imp (λ_ _ h=>h.turn hu3 (λk hk e=>.inl e) ho3))
  have HR3:=ah hq3;have zD:Hid (aH (λk=>some k=v.ownBlock\/k=bf\/k=cq) w W3):=(uR.out.mono (λi hi e=>.inr (.inl e))).trans hu3 (λi hi e=>.inl e);have Xk:Hid ((Value.slice A3 (F++[s]).length c3).ownBlock=v.ownBlock\/∀g,(Value.slice A3 (F++[s]).length c3).ownBlock=some g->w.heap.size<=g):=ho3.imp id (λh g hg=>bF uR.out.size (h g hg));rw[show(F++[s]).length=F.length+1 by simp]at HG3 HR3 Xk;have q3:=Ev.out.cell (i:=0) rfl;have f3:=Ev.out.frozen 0;have m3:=Ml.out.cell (i:=0) rfl;clear hq3 hu3 ho3 w0 w1 w2 w3 y0 hput x0 x1 x2 x3 q0 uM Ag EK HR2 HG2 HS2 uR;go_upto_region 6 with(fail)
  generalize hW4:World.setCell _ _ _=W4;have QT:aH (λk=>k=cq) W3 W4:=by rw[<-hW4];exact(aH.refl (λk=>k=cq) W3).setCell (p:=⟨cq,0,none⟩) (.inl rfl) _
  have Vr:Hid (Own W4 41 cq [Value.slice A3 (F.length+1) c3]):=by
   have h:=Ev.out.set (i:=0) (by simp) (Value.slice A3 (F.length+1) c3);rw[hW4]at h;exact h
  have hcm:¬cm=cq:=by
   rintro rfl;obtain⟨tl,h1⟩:=Ev.out;obtain⟨tl',h2⟩:=Ml.out;rw[h1]at h2;simp at h2
  have hgo:∀g,(Value.slice A3 (F.length+1) c3).ownBlock=some g->¬g=cq:=λg hg e=>by
   obtain⟨_,_,cs,hc⟩:=HR3.out.own hg;obtain⟨tl,h1⟩:=Ev.out;rw[e,h1]at hc;simp at hc
  have hbq:¬bf=cq:=λe=>Ev.out.SN (by rw[<-e];exact HG3.out.blk);have HA4:Hid (qo M B cm cq bf W4 (Value.slice A3 (F.length+1) c3) (F++[s])):=
   ⟨Ml.out.keep QT hcm,Vr.out,(HG3.out.keep QT hbq).imp (λ_ _ h=>h.turn QT (λk hk e=>.inr (by rw[e];exact I4.out.2)) (.inl rfl)),HR3.out.keep QT (λk hk e=>by rw[e];exact I4.out.2) hgo⟩
  have YU:Hid (aH (λk=>some k=v.ownBlock\/k=bf\/k=cq) w W4):=zD.out.trans QT (λi hi e=>.inr (.inr e));clear hW4 QT hcm hgo hbq Vr Ml HG3 HR3 Ev zD q3 f3 m3;have m4:=HA4.out.Dj.cell (i:=0) rfl;have hlf:∀ty,(Builtin.len_ #[142] ty #[.map (some bf)]).run Tryz.prog W4= .ok (.int .i64 ((F.length+1:Nat):Int)) W4:=λty=>by
   have h:=(HA4.out.set.SS (λ_ _ h=>h.at)).len ty;rw[lS,vN]at h;exact h
  have HDL:Hid (decide ((F.length:Int)+1<=300)=decide (F.length+1<=300)):=decide_eq_decide.2 (by omega);go_wp2;go_ret;unfold LH;rw[NW.out];refine⟨?_,_,HA4.out,YU.out,Xk.out⟩;rw[lS,vN,<-HDL.out];first|rfl|simp
end
section
open Go.RowKit Go.Shelf
theorem Ri(C:au)(i:Nat)(a:iO)(s:ak):(C.shift i a s).day=s.day:=by
 unfold au.shift;cases (a.kind==3)<;>rfl
theorem Ie(C:au)(i:Nat)(a:iO)(s:ak):(C.act i a s).day=s.day:=by
 unfold au.act;cases ((a.kind !=1)&&(s.used.getD i false))with
 |true=>rfl
 |false=>
  cases (a.kind !=1)with
  |false=>rfl
  |true=>exact Ri C i a _
def jh(l:List Int):Nat:=l.countP (·== -1)
theorem mD(l m:List Int):jh (l++m)=jh l+jh m:=List.countP_append
theorem og{l:List Int}(h:∀a∈l,a≠ -1):jh l=0:=List.countP_eq_zero.2 (λa ha=>by simpa using h a ha)
theorem Kj{C:au}{s:ak}{x:Int}(hO:bJ C s)(hd:s.day<C.days)(hx:x= -1\/0<=x/\x<C.acts.length):C.bT s x=0/\bJ C (C.next s x)/\(C.next s x).day=s.day+(if x= -1 then 1 else 0):=by
 rcases hx with rfl|⟨h0,h1⟩
 .have q1:C.fC s=true:=(iC C s).2 hO
  have q2:decide ((C.acts.length:Int)<= -1)=false:=by simp;omega
  have q3:(s.day==C.days)=false:=by simp;omega
  refine⟨by simp only[au.bT,q1,q2,q3];rfl,Sb hO hd,rfl⟩
 .obtain⟨n,rfl⟩:∃n:Nat,x=n:=⟨x.toNat,by omega⟩
  obtain⟨a,ha⟩:∃a,C.acts[n]?=some a:=⟨C.acts[n]'(by omega),aT _⟩;have e:C.next s n=C.act n a s:=by
   have h:((n:Int)== -1)=false:=by simp
   simp only[au.next,h,cond_false,su,ha]
  have q1:C.fC s=true:=(iC C s).2 hO;have q2:decide ((n:Int)< -1)=false:=by simp
  have q3:decide ((C.acts.length:Int)<=(n:Int))=false:=by simp;omega
  have q4:(s.day==C.days)=false:=by simp;omega
  refine⟨by simp only[au.bT,q1,q2,q3,q4];rfl,by rw[e];exact Ql hO ha,?_⟩;rw[e,Ie,if_neg (by omega),Int.add_zero]
theorem Ow{C:au}(hv:C.valid=true){l:List Int}(ha:∀x∈l,x= -1\/0<=x/\x<C.acts.length)(hd:∀k,k<l.length->(jh (l.take k):Int)<C.days):∀k,k<=l.length->bJ C (C.sP (l.take k))/\(C.sP (l.take k)).day=jh (l.take k)
 |0,_=>⟨Bj hv,rfl⟩
 |k+1,hk=>by
  obtain⟨h1,h2⟩:=Ow hv ha hd k (by omega);have hx:l[k]?=some l[k]:=aT (by omega);obtain⟨_,h3,h4⟩:=Kj h1 (by rw[h2];exact hd k (by omega)) (ha _ (wG (show k<l.length by omega)));rw[xL hx,bS hx,mD];refine⟨h3,?_⟩;rw[h4,h2];by_cases e:l[k]= -1
  .rw[if_pos e,e];simp[jh]
  .rw[if_neg e]
   have:jh [l[k]]=0:=og (λa h=>by rw[dZ.1 h];exact e);rw[this];simp
theorem Good.of{C:au}(hv:C.valid=true){l:List Int}(hl:l.length<=4000)(ha:∀x∈l,x= -1\/0<=x/\x<C.acts.length)(hd:∀k,k<l.length->(jh (l.take k):Int)<C.days):Good C l:=
 ⟨hv,hl,λk x hx=>by
  have hk:=(aZ.1 hx).1;obtain⟨h1,h2⟩:=Ow hv ha hd k (by omega);exact(Kj h1 (by rw[h2];exact hd k hk) (ha _ (cK hx))).1⟩
theorem BN{F:List aB}(h:KL F)(hn:eY F)(D:List Int):∀n,jh (blocks F D n)=n
 |0=>rfl
 |n+1=>by
  rw[oJ,mD,BN h hn D n];unfold wV;rw[mD,og (FT h hn D n)];rfl
theorem Ju{F:List aB}(h:KL F)(hn:eY F)(D:List Int){n k:Nat}(hk:k<(blocks F D n).length):jh ((blocks F D n).take k)<n:=by
 cases n with
 |zero=>simp[blocks]at hk
 |succ n=>
  have e:blocks F D (n+1)=(blocks F D n++(mQ (fE F D n)).map (jq F))++[-1]:=by rw[oJ];unfold wV;rw[wE]
  have h2:jh (blocks F D n++(mQ (fE F D n)).map (jq F))=n:=by rw[mD,BN h hn D n,og (FT h hn D n)];rfl
  rw[e]at hk⊢;rw[lS,vN]at hk;rw[List.take_append_of_le_length (by omega)];have h3:jh ((blocks F D n++(mQ (fE F D n)).map (jq F)).take k)<=jh (blocks F D n++(mQ (fE F D n)).map (jq F)):=List.Sublist.countP_le (List.take_sublist _ _);omega
theorem aac{C:au}{f:bR}{T:List aB}{OO:List aX}(hok:fZ C f=true)(h:tC f.facts f.orders T OO):∀t∈T,0<=t.act/\t.act<(C.acts.length:Int):=λt ht=>by
 have hd:=iZ (nu hok);have h1:=h.tight;rw[qD hd]at h1;obtain⟨x,hx,e⟩:=h1.had ht;have h2:=rM (ku (nu hok) x hx).2;have h3:x.act=t.act:=congrArg (λz=>z.2.1) e;omega
theorem yL.good{C:au}{f:bR}{u:Int}{L:List (List Int)}(h:yL C f u L 0):∀l∈L,l.length<=4000->Good C l:=λl hl h4=>by
 obtain⟨hok,h0,h1,T,OO,hf,hm⟩:=h.mem;obtain⟨day,_,rfl⟩:=(hm l).1 hl;have hact:=Rf hok hf;have hd:=hf.distinct.Zb;have h2:=sS hok;have hv:C.valid=true:=by
  unfold fZ at hok;simp only[bM]at hok;exact hok.1
 have e:=FQ (F:=T) (D:=pz T day) (u:=u) (by simp[pz]) h0 (by omega) hd;rw[e]at h4⊢;refine Good.of hv h4 (λx hx=>?_) (λk hk=>?_)
 .have hb:∀n,∀x∈blocks T (pz T day) n,x= -1\/0<=x/\x<C.acts.length:=λn=>by
   induction n with
   |zero=>intro x hx;simp[blocks]at hx
   |succ n ih=>
    intro x hx;rw[oJ]at hx;rcases jZ.1 hx with hx|hx
    .exact ih x hx
    .unfold wV at hx
     rcases jZ.1 hx with hx|hx
     .right
      obtain⟨r,hr,rfl⟩:=dU.1 hx;rw[qM,uZ]at hr;obtain⟨i,t,ht,_,rfl⟩:=hr;rw[Cg hd (cK ht)];exact aac hok hf t (cK ht)
     .left;simpa using hx
  exact hb _ x hx
 .have:=Ju hact hd (pz T day) hk
  omega
end
section
open Go.RowKit Go.Shelf
def au.yV(C:au)(l:List Int):List Int:=(C.sP l).marks.map (λm=>vJ m.status)
def Kk(V r:List Int):List Int:=List.zipWith (λa b=>if a=b then a else 0) V r
def sU(n:Nat):List (List Int)->List Int
 |[]=>List.replicate n 0
 |r::rs=>rs.foldl Kk r
def Ig(i:Nat)(V r:List Int):List Int:=if i=0 then r else Kk V r
theorem Rj{n:Nat}{R:List (List Int)}{i:Nat}{r:List Int}(hr:R[i]?=some r):sU n (R.take (i+1))=Ig i (sU n (R.take i)) r:=by
 cases R with
 |nil=>simp at hr
 |cons a R=>
  cases i with
  |zero=>simp at hr;subst hr;simp[sU,Ig]
  |succ i=>
   rw[List.getElem?_cons_succ]at hr;simp only[fK,sU,Ig];rw[if_neg (by omega),Dt,hr,t_];rfl
theorem Kl{V r:List Int}{n:Nat}(h1:V.length=n)(h2:r.length=n):(Kk V r).length=n:=by simp[Kk,h1,h2]
theorem Km{n:Nat}:∀{R:List (List Int)},(∀r∈R,r.length=n)->(sU n R).length=n
 |[],_=>by simp[sU]
 |a::R,h=>by
  have:∀(R:List (List Int))(a:List Int),a.length=n->(∀r∈R,r.length=n)->(R.foldl Kk a).length=n:=λR=>by
   induction R with
   |nil=>intro a h _;exact h
   |cons b R ih=>intro a h h2;exact ih _ (Kl h (h2 b (by simp))) (λr hr=>h2 r (kT _ hr))
  exact this R a (h a (by simp)) (λr hr=>h r (kT _ hr))
def jd(C:au)(fs:List bR)(u:Int)(V:List Int)(er:Int):Prop:=
 ∃(ho:Int)(F:List aB)(O:List aX)(e1:Int),EX C fs ho F O e1/\
  ((e1≠0/\er=e1/\V=[])\/
   (e1=0/\∃(L:List (List Int))(e2:Int),yL C ⟨ho,F,O⟩ u L e2/\
    ((e2≠0/\er=e2/\V=[])\/
     (e2=0/\((V=[]/\er=3/\∃l∈L,4000<l.length)\/
      ((∀l∈L,Good C l)/\er=0/\V=sU C.clauses.length (L.map C.yV)))))))
def LJ(C:au)(fs:List bR)(u:Int)(w:World)(e:Ending)(w':World):Prop:=
 ∃(A:Option Addr)(c:Nat)(V:List Int)(er:Int),e= .returned (.tuple #[.slice A V.length c,.int .i64 er])/\At w' 1 A V.length c (aR V)/\Below w.heap.size w w'/\jd C fs u V er
theorem Ih{C:au}{f:bR}(h:fZ C f=true):C.clauses.length<=400:=by
 simp only[fZ,bM]at h;have h:=h.1;simp only[au.valid,au.over,bM,iE,oH,decide_eq_false_iff_not]at h;omega
theorem adk{V N:List Int}{k:Nat}{x:Int}(hl:N.length=V.length)(hx:N[k]?=some x):(N.take k++V.drop k).set k x=N.take (k+1)++V.drop (k+1):=by
 obtain⟨hk,rfl⟩:=aZ.1 hx;apply kX;intro j;rw[jI];have h1:(N.take k).length=k:=by rw[p9];omega
 have h2:(N.take (k+1)).length=k+1:=by rw[p9];omega
 rcases Nat.lt_trichotomy j k with h|h|h
 .rw[if_neg (by omega),lX (by omega),lX (by omega),lZ,lZ,if_pos h,if_pos (by omega)]
 .subst h
  rw[if_pos rfl,if_pos (by simp;omega),lX (by omega),lZ,if_pos (by omega)];exact(aT hk).symm
 .rw[if_neg (by omega),oG (by omega),oG (by omega),h1,h2,List.getElem?_drop,List.getElem?_drop]
  congr 1;omega
theorem adl{V N:List Int}{k:Nat}(hl:N.length=V.length)(hk:k<V.length):(N.take k++V.drop k)[k]?=V[k]?:=by
 have h1:(N.take k).length=k:=by rw[p9];omega
 rw[oG (by omega),h1,List.getElem?_drop];congr 1;omega
theorem Va{i k:Nat}{V r:List Int}{a b:Int}(hV:V[k]?=some a)(hr:r[k]?=some b):(Ig i V r)[k]?=some (if i=0 then b else if a=b then a else 0):=by
 unfold Ig;by_cases h:i=0
 .rw[if_pos h,if_pos h];exact hr
 .rw[if_neg h,if_neg h]
  unfold Kk;rw[List.getElem?_zipWith,hV,hr]
theorem aad{α:Type}{l:List α}{k:Nat}{a:α}(h:l[k]?=some a):l.set k a=l:=by
 apply kX;intro j;rw[jI];by_cases hj:k=j
 .subst hj
  rw[if_pos rfl,if_pos (aZ.1 h).1,h]
 .rw[if_neg hj]
attribute [local go_sem] jS stillUpon bK
theorem LM(v:CV)(C:au)(sv:SV)(fs:List bR)(u:Int)(w:World)(hC:bU w v C)(hF:lK w sv fs)(hn:fs.length<=100)(hR:∀x∈aL fs,gW x.ref)(hL:(aL fs).length<=400)(hO:(bg fs).length<=4000)(hT:Tab w):
 Calls Tryz.prog 14 #[v.val C,.slice sv.A fs.length sv.c,.int .i64 u] w (LJ C fs u w):=by
 obtain⟨⟨hA,hc⟩,⟨uA,uc⟩,⟨aA,ac⟩,⟨kA,kc⟩,⟨oA,oc⟩⟩:=v;obtain⟨sA,sc⟩:=sv;have HC:=ah hC;clear hC;have HF:=ah hF;clear hF;have HT:=ah hT;clear hT;have HRA:=ah hR;clear hR;have HLO:Hid ((aL fs).length<=400/\(bg fs).length<=4000):=⟨hL,hO⟩;clear hL hO;simp only[CV.val,CV.cells];go_enter Tryz.func14,Tryz.ntmps14;go_upto_region 1 with(fail)
 generalize hW0:World.alloc _ _=W0;obtain⟨HB0,h0⟩:=bx1 hW0;have HX0:Hid (vK W0 w.heap.size ⟨⟨hA,hc⟩,⟨uA,uc⟩,⟨aA,ac⟩,⟨kA,kc⟩,⟨oA,oc⟩⟩ C):=⟨HC.out.below HB0.out,⟨[],by rw[b_];exact h0⟩⟩;clear hW0 h0 HC;obtain⟨c0,c1,c2,c3,c4,c5,c6⟩:=HX0.out.cells;simp only at c0 c1 c2 c3 c4 c5 c6;have hj:=XD ⟨⟨hA,hc⟩,⟨uA,uc⟩,⟨aA,ac⟩,⟨kA,kc⟩,⟨oA,oc⟩⟩ C ⟨sA,sc⟩ fs W0 HX0.out.con (HF.out.below HB0.out) hn HRA.out (bF HLO.out.1 (by omega)) HLO.out.2;simp only[CV.val,CV.cells]at hj;have HJ:=ah hj;clear hj;go_wp2_with (go_at_call 35;refine HJ.out.mono ?_;rintro _ W1 ⟨ho,F,O,e1,A1,d1,B1,b1,rfl,hf,_,hb,hj⟩;refine Hid.out ?_);refine ah ?_;have oU:=ah (HX0.out.below hb);have HB1:Hid (Below w.heap.size w W1):=ay HB0.out hb;have Yc:=ah hj;have Mg:=ah hf;clear hb hj hf HJ HX0 HB0 c0 c1 c2 c3 c4 c5 c6;go_upto_region 2 with(fail)
 generalize hW2:World.alloc _ _=W2;obtain⟨hb,hh⟩:=bx1' hW2;have uM:=ah (oU.out.below hb);have XO:Hid (adg W2 W1.heap.size ⟨⟨A1,d1⟩,⟨B1,b1⟩⟩ ⟨ho,F,O⟩):=⟨Mg.out.below hb,⟨[],by rw[b_];exact hh⟩⟩;have HB2:Hid (Below w.heap.size w W2):=ay HB1.out hb;clear hW2 hb hh oU Mg HB1;generalize W1.heap.size=jb at XO⊢;by_cases he1:e1=0
 case neg=>
  have q1:(e1 !=0)=true:=by simpa using he1
  have HV:Hid (jd C fs u [] e1):=⟨ho,F,O,e1,Yc.out,.inl ⟨he1,rfl,rfl⟩⟩;clear he1;go_wp2;refine bodyPost_ret (v:=.tuple #[.slice none 0 0,.int .i64 e1]) (by simp[results,Tryz.results14,go_sem]) rfl ⟨none,0,[],e1,rfl,fD _ _,HB2.out,HV.out⟩
 case pos=>
  subst he1;have HFL:Hid (F.length<=400):=bF Yc.out.size.1 HLO.out.1;obtain⟨c0,c1,c2,c3,c4,c5,c6⟩:=uM.out.cells;obtain⟨p0,p1,p2⟩:=XO.out.cells;simp only at c0 c1 c2 c3 c4 c5 c6 p0 p1 p2;have hco:=EI ⟨⟨hA,hc⟩,⟨uA,uc⟩,⟨aA,ac⟩,⟨kA,kc⟩,⟨oA,oc⟩⟩ C ⟨⟨A1,d1⟩,⟨B1,b1⟩⟩ ⟨ho,F,O⟩ u W2 uM.out.con XO.out.file HFL.out (HT.out.below HB2.out);simp only[CV.val,CV.cells,FV.val,FV.cells]at hco;have Ii:=ah hco;clear hco;go_wp2_with (go_at_call 36;refine Ii.out.mono ?_;rintro _ W3 ⟨L,e2,A3,d3,rfl,hN,hb,hc1⟩;refine Hid.out ?_);refine ah ?_;have rF:=ah (uM.out.below hb);have HB3:Hid (Below w.heap.size w W3):=ay HB2.out hb;have HN:=ah hN;have zK:=ah hc1;clear hb hN hc1 uM XO HB2 Ii c0 c1 c2 c3 c4 c5 c6 p0 p1 p2;by_cases he2:e2=0
  case neg=>
   have q1:(e2 !=0)=true:=by simpa using he2
   have HV:Hid (jd C fs u [] e2):=⟨ho,F,O,0,Yc.out,.inr ⟨rfl,L,e2,zK.out,.inl ⟨he2,rfl,rfl⟩⟩⟩;clear he2;go_wp2;refine bodyPost_ret (v:=.tuple #[.slice none 0 0,.int .i64 e2]) (by simp[results,Tryz.results14,go_sem]) rfl ⟨none,0,[],e2,rfl,fD _ _,HB3.out,HV.out⟩
  case pos=>
   subst he2;have hLx:L.length<=9223372036854775807:=by have:=HN.out.len;omega
   go_wp2
   go_loopg [42] L.length (λgk v42 wr=>∃(i:Nat)(z:Bl W3),gk=L.length - i/\i<=L.length/\v42= .int .i64 i/\wr=z.val/\Hid (∀l∈L.take i,l.length<=4000))
   case atStart=>exact⟨0,⟨W3,aD _ _⟩,rfl,aV _,rfl,rfl,λl hl=>by simp at hl⟩
   case round=>
    obtain⟨i,z,eH,hi,rfl,rfl,HT4⟩:=hrel;have iB:=ah eH;clear eH;by_cases hlt:i<L.length
    .have i0:(i:Int)<(L.length:Int):=by omega
     obtain⟨l,hl⟩:∃x,L[i]?=some x:=⟨_,aT hlt⟩;obtain⟨g,o,kI,hg,hcl⟩:=HN.out.form (by omega);simp only at kI;subst kI;obtain⟨t,hta,htc⟩:=hcl i l hl;have x0:=htc z.val z.prop;have hlx:=oZ hta;have HLI:=ah hl;clear hcl htc hl hta;by_cases h4:4000<l.length
     .have q1:(4000:Int)<(l.length:Int):=by omega
      have HV:Hid (jd C fs u [] 3):=⟨ho,F,O,0,Yc.out,.inr ⟨rfl,L,0,zK.out,.inr ⟨rfl,.inl ⟨rfl,rfl,l,cK HLI.out,h4⟩⟩⟩⟩;have EF:Hid (Below w.heap.size w z.val):=ay HB3.out z.prop;go_wp2;refine bodyPost_ret (v:=.tuple #[.slice none 0 0,.int .i64 3]) (by simp[results,Tryz.results14,go_sem]) rfl ⟨none,0,[],3,rfl,fD _ _,EF.out,HV.out⟩
     .have q1:¬(4000:Int)<(l.length:Int):=by omega
      have HTN:Hid (∀l∈L.take (i+1),l.length<=4000):=λm hm=>by
       rw[bS HLI.out]at hm;rcases jZ.1 hm with h|h
       .exact HT4.out m h
       .rw[dZ.1 h];omega
      go_wp2
      go_roundg (L.length - (i+1))
      case measure=>rw[iB.out];omega
      case rel=>exact⟨i+1,z,rfl,by omega,by go_num,rfl,HTN⟩
    .obtain rfl:i=L.length:=by omega
     have HGD:Hid (∀l∈L,Good C l):=λl hl=>zK.out.good l hl (by have h:=HT4.out;rw[gV]at h;exact h l hl);have H40:Hid (∀l∈L,l.length<=4000):=by have h:=HT4.out;rw[gV]at h;exact h
     have hcl:C.clauses.length<=400:=Ih zK.out.mem.1;have Ox:=ah (rF.out.below z.prop);have HZ4:=ah z.prop;clear HT4 iB hlt hi;generalize z.val=W4 at Ox HZ4⊢;clear z;obtain⟨ii,hii,hiz,his,hib⟩:=info_parts' (P:=Tryz.prog) (t:=3) (z:=some (.int .i64 0)) (s:=1) (b:=8) (by kernel_rfl);have hmk:=run_makeSlice (P:=Tryz.prog) (w:=W4) 22 3 ii _ Tryz.underlying22 hii hiz .i64 .i64 (C.clauses.length:Int) (C.clauses.length:Int) (by omega) (by omega) (by rw[his];simp;omega) (by rw[hib];omega) (by omega);simp only[su,his]at hmk;have c4:=Ox.out.n_.cell (i:=4) rfl;simp only at c4;go_upto_region 14 with(fail)
     obtain⟨vb,hvb⟩:∃b,b=W4.heap.size:=⟨_,rfl⟩;rw[<-hvb];generalize K_:World.alloc _ _=W5;obtain⟨hb5,hh5⟩:=bx1' K_;have HV5:Hid (Own W5 3 vb (aR (List.replicate C.clauses.length 0))):=by
      refine⟨[],?_⟩;rw[b_,H_,Array.toArray_toList,hvb];exact hh5
     have HX5:=ah (Ox.out.below hb5);have HZ5:Hid (Below W3.heap.size W3 W5):=ay HZ4.out hb5;have HVB:Hid (W3.heap.size<=vb):=by show _<=_;rw[hvb];exact HZ4.out.size
     clear K_ hh5 hb5 hmk c4 hvb Ox HZ4 hii hiz his hib ii;have HCX:Hid (∀z:World,Below W3.heap.size W3 z->vK z w.heap.size ⟨⟨hA,hc⟩,⟨uA,uc⟩,⟨aA,ac⟩,⟨kA,kc⟩,⟨oA,oc⟩⟩ C):=λz hz=>rF.out.below hz;obtain⟨E,HE⟩:∃E,Hid (sU C.clauses.length (L.map C.yV)=E):=⟨_,rfl⟩;have Pm:Hid (∀r∈L.map C.yV,r.length=C.clauses.length):=λr hr=>by
      obtain⟨l,hl,rfl⟩:=dU.1 hr;have hg:=HGD.out l hl;have h:=hg.ok l.length (bH _);rw[gV]at h;unfold au.yV;rw[eF];exact h.lm
     go_wp2
     go_loopg [56] L.length (λgk v56 wr=>∃(i:Nat),gk=L.length - i/\i<=L.length/\v56= .int .i64 i/\Hid (Below W3.heap.size W3 wr)/\Hid (Own wr 3 vb (aR (sU C.clauses.length ((L.map C.yV).take i)))))
     case atStart=>exact⟨0,rfl,aV _,rfl,HZ5,HV5⟩
     case round=>
      obtain⟨i,eH,hi,rfl,HZ,HV⟩:=hrel;have iB:=ah eH;clear eH;by_cases hlt:i<L.length
      .have i0:(i:Int)<(L.length:Int):=by omega
       obtain⟨l,hl⟩:∃x,L[i]?=some x:=⟨_,aT hlt⟩;obtain⟨g,o,kI,hg,hcl'⟩:=HN.out.form (by omega);simp only at kI;subst kI;obtain⟨t,hta,htc⟩:=hcl' i l hl;have x0:=htc wr HZ.out;have hlx:=oZ hta;have Jl:=ah (HGD.out l (cK hl));have aoS:=H40.out l (cK hl);have HRI:Hid ((L.map C.yV)[i]?=some (C.yV l)):=by show _=_;rw[gG,hl];rfl
       obtain⟨c0,c1,c2,c3,c4,c5,c6⟩:=(HCX.out wr HZ.out).cells;simp only at c0 c1 c2 c3 c4 c5 c6;have hru:=Sl ⟨⟨hA,hc⟩,⟨uA,uc⟩,⟨aA,ac⟩,⟨kA,kc⟩,⟨oA,oc⟩⟩ C t l wr (HCX.out wr HZ.out).con (hta.below (by omega) HZ.out);simp only[CV.val,CV.cells]at hru;have HRU:=ah hru;clear hcl' htc hta hl hru;go_wp2_with (go_at_call 15;refine HRU.out.mono ?_;rintro _ W6 ⟨A6,d6,R,er6,rfl,hb,hrun⟩;refine Hid.out ?_);refine ah ?_;rcases hrun with⟨rfl,_,rfl,hst⟩|⟨_,hng,_⟩
       case inr=>exact absurd Jl.out hng
       have HST:=ah hst;have HZ6:Hid (Below W3.heap.size W3 W6):=ay HZ.out hb;have Sq:=ah (HV.out.below hb);have rT:Hid (vb<wr.heap.size):=HV.out.lt;have htl:=CP C l l.length;have hgo:=Jl.out.ok l.length (bH _);rw[gV]at hgo;obtain⟨rb,ro,hR0,hrb,hrs⟩:=hst.form (by omega);simp only at hR0;subst hR0;obtain⟨⟨⟨Tz,TB⟩,⟨TD,TF⟩,⟨smA,RO⟩⟩,⟨hs,hnew⟩,hsc⟩:=hrs l.length (C.sP l) (by rw[J8 (bH _),gV]);have s3:W6.cell? ⟨rb,ro+l.length*4+3,none⟩=some (.slice smA (C.sP l).marks.length RO):=hsc W6 (aD _ _) 3 (by omega);obtain⟨ms,hms⟩:∃ms,ms=(C.sP l).marks:=⟨_,rfl⟩;have hml:ms.length=C.clauses.length:=by rw[hms];exact hgo.lm
       have HRW:Hid (C.yV l=ms.map (λm=>vJ m.status)):=by show _=_;rw[hms];rfl
       have zJ:Hid (∀(k:Nat)(m:aC),ms[k]?=some m->∃mb mo,smA=some ⟨mb,mo,none⟩/\mb<W6.heap.size/\¬mb=vb/\∀j,j<5->W6.cell? ⟨mb,mo+k*5+j,none⟩=m.cells[j]?):=λk m hm=>by
        rw[hms]at hm;obtain⟨mb,mo,h1,h2,h3⟩:=hs.mark hm;have h4:=hnew.2.2 mb mo h1;exact⟨mb,mo,h1,h2,by have:=rT.out;omega,h3 k m hm W6 (aD _ _)⟩
       rw[<-hms]at s3;have htx:(C.trail l l.length).length<=9223372036854775807:=by omega
       have hi1:((C.trail l l.length).length:Int) - 1=(l.length:Int):=by omega
       have hi2:(l.length:Int)<((C.trail l l.length).length:Int):=by omega
       have hmx:ms.length<=9223372036854775807:=by omega
       obtain⟨V,HVd⟩:∃V,Hid (V=sU C.clauses.length ((L.map C.yV).take i)):=⟨_,rfl⟩;rw[<-HVd.out]at Sq;have YV:Hid (V.length=C.clauses.length):=by show _=_;rw[HVd.out];exact Km (λr hr=>Pm.out r (List.mem_of_mem_take hr))
       obtain⟨N,HNd⟩:∃N,Hid (N=Ig i V (C.yV l)):=⟨_,rfl⟩;have YS:Hid (sU C.clauses.length ((L.map C.yV).take (i+1))=N):=by show _=_;rw[Rj HRI.out,HNd.out,HVd.out]
       have Sk:Hid (N.length=V.length):=by
        show _=_;have h:=Pm.out (C.yV l) (cK HRI.out);rw[HNd.out];unfold Ig;by_cases h0:i=0
        .rw[if_pos h0,h,YV.out]
        .rw[if_neg h0,Kl YV.out h,YV.out]
       have HN0:Hid (Own W6 3 vb (aR (N.take 0++V.drop 0))):=by rw[bV,mI,cO];exact Sq.out
       clear hst hb HRU HZ HV Sq c0 c1 c2 c3 c4 c5 c6 x0 hrs hs hnew hsc hms htl hgo;go_wp2
       go_loopg [78] C.clauses.length (λgk v78 wr=>∃(k:Nat),gk=C.clauses.length - k/\k<=C.clauses.length/\v78= .int .i64 k/\Hid (aH (λb=>b=vb) W6 wr)/\Hid (Own wr 3 vb (aR (N.take k++V.drop k))))
       case atStart=>exact⟨0,rfl,aV _,rfl,aH.refl _ _,HN0⟩
       case round=>
        obtain⟨k,eH,hk,rfl,HU,HW⟩:=hrel;have Xi:=ah eH;clear eH HN0;by_cases hkl:k<C.clauses.length
        .have k0:(k:Int)<(ms.length:Int):=by omega
         obtain⟨⟨mst,mle,mgo,mbe,mpa⟩,hm⟩:∃m,ms[k]?=some m:=⟨ms[k]'(by omega),aT _⟩;obtain⟨mb,mo,hMA,hmb,hmv,hmc⟩:=zJ.out k _ hm;subst hMA;have hx:∀j,j<5->wr.cell? ⟨mb,mo+k*5+j,none⟩=(aC.cells ⟨mst,mle,mgo,mbe,mpa⟩)[j]?:=λj hj=>(bP HU.out hmb hmv).trans (hmc j hj);have x0:=hx 0 (by omega);have x1:=hx 1 (by omega);have x2:=hx 2 (by omega);have x3:=hx 3 (by omega);have x4:=hx 4 (by omega);simp only[aC.cells,jW,Al,List.getElem?_cons_succ]at x0 x1 x2 x3 x4;obtain⟨a,ha⟩:∃a,V[k]?=some a:=⟨V[k]'(by rw[YV.out];omega),aT _⟩;have HRK:Hid ((C.yV l)[k]?=some (vJ mst)):=by show _=_;rw[HRW.out,gG,hm];rfl
         have HNK:Hid (N[k]?=some (if i=0 then vJ mst else if a=vJ mst then a else 0)):=by show _=_;rw[HNd.out];exact Va ha HRK.out
         have HVK:Hid ((N.take k++V.drop k)[k]?=some a):=(adl Sk.out (by rw[YV.out];omega)).trans ha;have XM:Hid (∀x,N[k]?=some x->(N.take k++V.drop k).set k x=N.take (k+1)++V.drop (k+1)):=λx hx=>adk Sk.out hx;have hkv:(k:Int)<(C.clauses.length:Int):=by omega
         clear hx hmc hm ha;go_upto_region 23 with(fail)
         generalize hWa:World.alloc _ _=Wa;obtain⟨hba,hxa⟩:=bx1' hWa;have d0:Wa.cell? ⟨wr.heap.size,0,none⟩=some (.int .i64 mst):=(aG Wa _ 0 _ _ _ hxa).trans rfl;have Mh:Hid (aH (λb=>b=vb) W6 Wa):=lD HU.out hba;have Pf:=ah (HW.out.below hba);have YP:=ah (λW:World=>LB mst W);clear hWa hba hxa HU HW x0 x1 x2 x3 x4;go_wp2_with (go_at_call 37;refine(YP.out _).mono ?_;rintro e z ⟨rfl,hz⟩;refine Hid.out ?_);refine ah ?_;have VF:Hid (aH (λb=>b=vb) W6 z):=lD Mh.out hz;have HWz:=ah (Pf.out.below hz);have y0:z.cell? ⟨vb,k,none⟩=some (.int .i64 a):=HWz.out.cell (gQ HVK.out);have y1:=HWz.out.frozen k;have agH:Hid (∀x,N[k]?=some x->Own (z.setCell ⟨vb,k,none⟩ (.int .i64 x)) 3 vb (aR (N.take (k+1)++V.drop (k+1)))):=λx hx=>by
          have h:=HWz.out.set (i:=k) (by rw[N7];exact(aZ.1 HVK.out).1) (.int .i64 x);rw[ints_set,XM.out x hx]at h;exact h
         have HUS:Hid (∀x,aH (λb=>b=vb) W6 (z.setCell ⟨vb,k,none⟩ x)):=λx=>VF.out.setCell (p:=⟨vb,k,none⟩) (.inl rfl) x;generalize vJ mst=mt at HNK⊢;clear hz Mh Pf YP d0 HRK;by_cases h0:i=0
         .have q0:((i:Int)==0)=true:=by simp[h0]
          have Ae:=HNK.out;rw[if_pos h0]at Ae;have HW2:=ah (agH.out _ Ae);have uR:=ah (HUS.out (.int .i64 mt));clear h0 Ae;go_wp2
          go_roundg (C.clauses.length - (k+1))
          case measure=>rw[Xi.out];omega
          case rel=>exact⟨k+1,rfl,by omega,by go_num,uR,HW2⟩
         .have q0:((i:Int)==0)=false:=by simp[h0]
          have Ae:=HNK.out;rw[if_neg h0]at Ae;by_cases hat:a=mt
          .rw[if_pos hat]at Ae
           have q1:(a !=mt)=false:=by simp[hat]
           have HW2:Hid (Own z 3 vb (aR (N.take (k+1)++V.drop (k+1)))):=by
            rw[<-XM.out a Ae,aad HVK.out];exact HWz
           clear h0 Ae hat;go_wp2
           go_roundg (C.clauses.length - (k+1))
           case measure=>rw[Xi.out];omega
           case rel=>exact⟨k+1,rfl,by omega,by go_num,VF,HW2⟩
          .rw[if_neg hat]at Ae
           have q1:(a !=mt)=true:=by simp[hat]
           have HW2:=ah (agH.out _ Ae);have uR:=ah (HUS.out (.int .i64 0));clear h0 Ae hat;go_wp2
           go_roundg (C.clauses.length - (k+1))
           case measure=>rw[Xi.out];omega
           case rel=>exact⟨k+1,rfl,by omega,by go_num,uR,HW2⟩
        .obtain rfl:k=C.clauses.length:=by omega
         have HWN:Hid (Own wr 3 vb (aR (sU C.clauses.length ((L.map C.yV).take (i+1))))):=by
          have h:=HW.out;rw[Ak (by rw[Sk.out,YV.out];exact bH _),List.drop_eq_nil_of_le (by rw[YV.out];exact bH _),b_]at h;rw[YS.out];exact h
         have VE:Hid (Below W3.heap.size W3 wr):=HZ6.out.trans (HU.out.below HZ6.out.size (λb hb=>by have:=HVB.out;omega));go_wp2
         go_roundg (L.length - (i+1))
         case measure=>rw[iB.out];omega
         case rel=>exact⟨i+1,rfl,by omega,by go_num,VE,HWN⟩
      .obtain rfl:i=L.length:=by omega
       have hE:sU C.clauses.length ((L.map C.yV).take L.length)=E:=by rw[Ak (by simp)];exact HE.out
       rw[hE]at HV;have YV:Hid (E.length=C.clauses.length):=by show _=_;rw[<-HE.out];exact Km Pm.out
       have Jo:Hid (jd C fs u E 0):=⟨ho,F,O,0,Yc.out,.inr ⟨rfl,L,0,zK.out,.inr ⟨rfl,.inr ⟨HGD.out,rfl,HE.out.symm⟩⟩⟩⟩;have HAT:Hid (At wr 1 (some ⟨vb,0,none⟩) E.length C.clauses.length (aR E)):=HV.out.Cb (n:=E.length) (by simp[aR]) (C_ E) (by rw[YV.out];exact bH _) (by unfold maxLen;omega);have yT:Hid (Below w.heap.size w wr):=ay HB3.out HZ.out;clear hE;go_wp2;refine bodyPost_ret (v:=.tuple #[.slice (some ⟨vb,0,none⟩) C.clauses.length C.clauses.length,.int .i64 0]) (by simp[results,Tryz.results14,go_sem]) rfl ⟨some ⟨vb,0,none⟩,C.clauses.length,E,0,by rw[YV.out],HAT.out,yT.out,Jo.out⟩
end
open Go.RowKit Go.Shelf
theorem Yd(v:CV)(C:au)(w:World)(hC:bU w v C):Calls Tryz.prog 30 #[v.val C] w (XY w):=by
 obtain⟨⟨dF,dG⟩,⟨dH,dK⟩,⟨dV,dn⟩,⟨dQ,dh⟩,⟨dz,dB⟩⟩:=v;have hx1:C.aj.length<=9223372036854775807:=by have h1:=hC.aj.2.2.1;have h2:=hC.aj.2.2.2;unfold maxLen at h2;omega
 have hx2:C.units.length<=9223372036854775807:=by have h1:=hC.units.2.2.1;have h2:=hC.units.2.2.2;unfold maxLen at h2;omega
 have hx3:C.acts.length<=9223372036854775807:=by have h1:=hC.acts.2.2.1;have h2:=hC.acts.2.2.2;unfold maxLen at h2;omega
 have hx6:C.off.length<=9223372036854775807:=by have h1:=hC.off.2.2.1;have h2:=hC.off.2.2.2;unfold maxLen at h2;omega
 have hx4:C.clauses.length<=9223372036854775807:=by
  obtain⟨ss,g1,g2,g3⟩:=hC.clauses;have h1:=g2.2.2.1;have h2:=g2.2.2.2;unfold maxLen at h2;omega
 have HC:=ah hC;clear hC;simp only[CV.val,CV.cells];go_enter Tryz.func30,Tryz.ntmps30;go_upto_region 1 with(fail)
 generalize hW0:World.alloc _ _=W0;obtain⟨HB,hh0⟩:=Go.Proofs.YtpmdedcnbockhaaGreatDoor.bx1 hW0;clear hW0;obtain⟨jA,jB,jK,j4,j5,kV,lT⟩:=Fg hh0;clear hh0;change Code.wp _ _ _ _ (Bl.val (⟨W0,aD _ _⟩:Bl W0));generalize(⟨W0,aD _ _⟩:Bl W0)=s0;have HS:Hid (∀z:Bl W0,Calls Tryz.prog 55 #[.agg #[.int .i64 C.aF,.slice dF C.aj.length dG,.slice dH C.units.length dK,.slice dV C.acts.length dn,.slice dQ C.clauses.length dh,.int .i64 C.days,.slice dz C.off.length dB],.int .i64 6] z.val (XY z.val)):=λz=>U2 (⟨⟨dF,dG⟩,⟨dH,dK⟩,⟨dV,dn⟩,⟨dQ,dh⟩,⟨dz,dB⟩⟩:CV) C 6 z.val (HC.out.below (ay HB.out z.prop));go_wp2_with (go_at_call 55;refine(HS.out _).mono ?_;rintro e z ⟨x,rfl,hz⟩;obtain⟨z,rfl⟩:=Bl.on hz;clear hz;refine Hid.out ?_);refine ah ?_;cases x with
 |false=>
  go_wp2;go_ret;exact⟨_,rfl,ay HB.out (Bl.prop _)⟩
 |true=>
  cases q1:decide ((C.acts.length:Int)<=8)with
  |false=>
   go_wp2;go_ret;exact⟨_,rfl,ay HB.out (Bl.prop _)⟩
  |true=>
   go_wp2;go_ret;exact⟨_,rfl,ay HB.out (Bl.prop _)⟩
def OkB(p l:Nat)(w:World)(e:Ending)(w':World):Prop:=∃x:Bool,e= .returned (.bool x)/\(x=true->p<=14/\l<=30)/\Below w.heap.size w w'
theorem ado(v:CV)(C:au)(pA:Option Addr)(p pc:Nat)(lA:Option Addr)(l lc:Nat)(w:World)(hC:bU w v C)(hp:p<=9223372036854775807)(hl:l<=9223372036854775807):Calls Tryz.prog 10 #[v.val C,.slice pA p pc,.slice lA l lc] w (OkB p l w):=by
 obtain⟨⟨hA,hc⟩,⟨uA,uc⟩,⟨aA,ac⟩,⟨kA,kc⟩,⟨oA,oc⟩⟩:=v;have HC:=ah hC;clear hC;simp only[CV.val,CV.cells];go_enter Tryz.func10,Tryz.ntmps10;go_upto_region 1 with(fail)
 generalize hW0:World.alloc _ _=W0;obtain⟨HB0,h0⟩:=bx1 hW0;have HX0:Hid (vK W0 w.heap.size ⟨⟨hA,hc⟩,⟨uA,uc⟩,⟨aA,ac⟩,⟨kA,kc⟩,⟨oA,oc⟩⟩ C):=⟨HC.out.below HB0.out,⟨[],by rw[b_];exact h0⟩⟩;clear hW0 h0 HC;obtain⟨c0,c1,c2,c3,c4,c5,c6⟩:=HX0.out.cells;simp only at c0 c1 c2 c3 c4 c5 c6;have ht:=Yd ⟨⟨hA,hc⟩,⟨uA,uc⟩,⟨aA,ac⟩,⟨kA,kc⟩,⟨oA,oc⟩⟩ C W0 HX0.out.con;simp only[CV.val,CV.cells]at ht;have HTM:=ah ht;clear ht;go_wp2_with (go_at_call 30;refine HTM.out.mono ?_;rintro _ W1 ⟨x,rfl,hb⟩;refine Hid.out ?_);refine ah ?_;have HB1:Hid (Below w.heap.size w W1):=ay HB0.out hb;clear hb HTM HX0 HB0 c0 c1 c2 c3 c4 c5 c6;cases x with
 |false=>
  go_wp2;go_ret;exact⟨_,rfl,(λh=>by cases h),HB1.out⟩
 |true=>
  by_cases q1:p<=14
  .have r1:(p:Int)<=14:=by omega
   by_cases q2:l<=30
   .have r2:(l:Int)<=30:=by omega
    go_wp2;go_ret;exact⟨_,rfl,λ_=>⟨q1,q2⟩,HB1.out⟩
   .have r2:¬(l:Int)<=30:=by omega
    clear q2;go_wp2;go_ret;exact⟨_,rfl,(λh=>by cases h),HB1.out⟩
  .have r1:¬(p:Int)<=14:=by omega
   clear q1;go_wp2;go_ret;exact⟨_,rfl,(λh=>by cases h),HB1.out⟩
end Go.Proofs.YtpmdedcnbockhaaGreatDoor
