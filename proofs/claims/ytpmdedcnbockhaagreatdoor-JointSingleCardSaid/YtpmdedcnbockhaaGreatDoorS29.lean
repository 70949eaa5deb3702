/- part -/
import Derived.Test.YtpmdedcnbockhaaGreatDoorS28
import Derived.Test.YtpmdedcnbockhaaGreatDoorS21
set_option maxRecDepth 100000
set_option maxHeartbeats 8000000
namespace Go.Proofs.YtpmdedcnbockhaaGreatDoor
section
open Go.RowKit Go.Shelf Tryz
theorem EL:∀{O L:List aX},O.Pairwise FD->(∀b∈O,b∈L)->O.length<=L.length
 |[],_,_,_=>aU _
 |a::O,L,hp,hm=>by
  rw[wF]at hp;have h1:=EL (L:=L.erase a) hp.2 (λb hb=>(List.mem_erase_of_ne (λe=>FH a (by have:=hp.1 b hb;rw[e]at this;exact this))).2 (hm b (kG _ hb)));have h2:=hm a (by simp);rw[List.length_erase_of_mem h2]at h1;have h3:=List.length_pos_of_mem h2;simp only[gV];omega
theorem FP.size{C:au}{fs:List bR}{ho:Int}{F:List ay}{O:List aX}{er:Int}(h:FP C fs ho F O er):F.length<=(aM fs).length/\O.length<=(bE fs).length/\((∀x∈aM fs,iK x.ref)->∀x∈F,iK x.ref):=by
 have fine:tY (aM fs) (bE fs) F O->F.length<=(aM fs).length/\O.length<=(bE fs).length/\((∀x∈aM fs,iK x.ref)->∀x∈F,iK x.ref):=λhf=>by
  have h1:=DK hf.tight;have h2:=yQ (aM fs);have h3:=AV (aM fs);refine⟨by omega,EL hf.ord.1 (λb hb=>(hf.ord.2 b).1 hb),λhr x hx=>?_⟩;obtain⟨z,hz,e⟩:=hf.tight.had hx;obtain⟨y,hy,e2,_⟩:=(El hz).act;rw[<-j3 e,<-e2];exact hr y hy
 rcases h with⟨_,_,rfl,rfl,_⟩|⟨_,f0,_,⟨_,_,hf⟩|⟨_,_,rfl,rfl,_⟩⟩
 .exact⟨aU _,aU _,λ_ x hx=>by cases hx⟩
 .exact fine hf
 .exact⟨aU _,aU _,λ_ x hx=>by cases hx⟩
end
section
open Go.RowKit Go.Shelf Go.Sort Tryz
def au.nY(C:au)(P:List Int)(s:ak)(i:Nat):Bool:=P.any (λp=>C.sees s p i)
def au.sight(C:au)(P:List Int)(s:ak)(i:Nat):Bool:=
 match C.acts[i]? with
 |some a=>(!(a.kind==1))||((a.tgt== -1)||C.nY P s i)
 |none=>false
def jR(l:List Int):List UInt8:=l.map (λh=>UInt8.ofNat h.toNat)
def Ke(s:ak)(i:Nat):List UInt8:=jR s.aj++[UInt8.ofNat i]
theorem CF{x:Int}(h:0<=x/\x<=255):x=((UInt8.ofNat x.toNat).toNat:Int):=by
 rw[UInt8.toNat_ofNat'];have:x.toNat % 2 ^ 8=x.toNat:=Nat.mod_eq_of_lt (by omega);rw[this];omega
theorem I9:∀{l m:List Int},(∀x∈l,0<=x/\x<=255)->(∀x∈m,0<=x/\x<=255)->jR l=jR m->l=m
 |[],[],_,_,_=>rfl
 |[],_::_,_,_,h=>by cases h
 |_::_,[],_,_,h=>by cases h
 |x::l,y::m,h1,h2,h=>by
  unfold jR at h;rw[kN,kN]at h;injection h with ha hb
  have e:x=y:=by rw[CF (h1 x (by simp)),CF (h2 y (by simp)),ha]
  rw[e,I9 (λz hz=>h1 z (kG _ hz)) (λz hz=>h2 z (kG _ hz)) hb]
theorem Zg{C:au}{s s':ak}(hO:aV C s)(hO':aV C s'){i i':Nat}(hi:i<C.acts.length)(hi':i'<C.acts.length)(h:Ke s i=Ke s' i'):s.aj=s'.aj/\i=i':=by
 have HK:=au.ok hO.con;have hp:=HK.Hg;have hn:=HK.Ey;obtain⟨h1,h2⟩:=List.append_inj' h rfl;refine⟨I9 (λx hx=>by have:=hO.held x hx;omega) (λx hx=>by have:=hO'.held x hx;omega) h1,?_⟩;have h3:UInt8.ofNat i=UInt8.ofNat i':=by simpa using h2
 have e:=congrArg UInt8.toNat h3;rw[UInt8.toNat_ofNat',UInt8.toNat_ofNat',Nat.mod_eq_of_lt (by omega),Nat.mod_eq_of_lt (by omega)]at e;exact e
theorem MN{C:au}{s s':ak}(hO:aV C s)(hO':aV C s')(h:s.aj=s'.aj)(p x:Int):C.sees s p x=C.sees s' p x:=by
 unfold au.sees au.Av Ed;rw[(jr C s).2 hO,(jr C s').2 hO',h]
def Sound(C:au)(P:List Int)(x:List UInt8)(b:Bool):Prop:=∀(s:ak)(i:Nat),aV C s->i<C.acts.length->Ke s i=x->b=C.nY P s i
theorem Zh{C:au}{P:List Int}{s:ak}{i:Nat}(hO:aV C s)(hi:i<C.acts.length):Sound C P (Ke s i) (C.nY P s i):=λs' i' hO' hi' e=>by
 obtain⟨h1,h2⟩:=Zg hO' hO hi' hi e;subst h2;unfold au.nY;congr 1;funext p;exact(MN hO' hO h1 p _).symm
theorem ahZ(w:World):(zeroValue 4).run prog w= .ok (.bool false) w:=by kernel_rfl
def dG(C:au)(P:List Int)(w:World)(b n:Nat):Prop:=
 ∃D:DataW Value,w.ownsMap prog 9 R1 b (Maps.size D) D/\Maps.size D<=n/\∀x:List UInt8,Maps.has D (.string x)=true->∃y:Bool,(∀z,D.atKey (.string x) z= .held (.bool y))/\Sound C P x y
section
variable {C:au} {P:List Int} {w w':World} {b n:Nat}
theorem dG.blk(h:dG C P w b n):eY w b:=by
 obtain⟨D,⟨es,c,hb,_⟩,_⟩:=h;exact⟨es,c,hb⟩
theorem dG.keep{S:Nat->Prop}(h:dG C P w b n)(hu:aG S w w')(hb:¬S b):dG C P w' b n:=by
 obtain⟨D,⟨es,c,h1,h2⟩,h3⟩:=h;exact⟨D,⟨es,c,hu.keep h1 hb,h2⟩,h3⟩
theorem dG.below(h:dG C P w b n)(hb:Below w.heap.size w w'):dG C P w' b n:=by
 obtain⟨es,c,h1⟩:=h.blk;exact h.keep (aG.of_below hb) (by have:=aB h1;omega)
theorem dG.mono{m:Nat}(h:dG C P w b n)(hm:n<=m):dG C P w b m:=by
 obtain⟨D,h1,h2,h3⟩:=h;exact⟨D,h1,bI h2 hm,h3⟩
theorem dG.made(C:au)(P:List Int)(w:World):dG C P (w.alloc (.map #[] 0)) w.heap.size 0:=⟨.map [],World.ownsMap_made _ _ _ _,bJ _,λx hx=>by cases hx⟩
theorem dG.look(h:dG C P w b n){x:List UInt8}(hl:x.length<=maxLen):
 ∃y k:Bool,(Instr.lookup 119 (.map (some b)) (.string ⟨x.toArray⟩) true).run prog w= .ok (.tuple #[.bool y,.bool k]) w/\(k=true->Sound C P x y)/\(k=false->y=false):=by
 obtain⟨D,h1,h2,h3⟩:=h;obtain⟨v,ps,hrun,hv⟩:=h1.look_ok (t:=119) (e:=4) uW underlying119 (ahZ w) (zd:=.held (.bool false)) (zp:=[]) rfl (Ic hl);have h6:=Md hv;cases hh:Maps.has D (.string x)with
 |true=>
  obtain⟨y,hy,hs⟩:=h3 x hh;rw[hy]at h6;injection h6 with h6
  subst h6;rw[hh]at hrun;exact⟨y,true,hrun,λ_=>hs,λh=>(by cases h)⟩
 |false=>
  rw[Maps.atKey_of_not_has hh]at h6;injection h6 with h6
  subst h6;rw[hh]at hrun;exact⟨false,false,hrun,λh=>(by cases h),λ_=>rfl⟩
theorem dG.put(h:dG C P w b n){x:List UInt8}(hl:x.length<=maxLen){y:Bool}(hs:Sound C P x y)(hn:n<=100000000000):
 ∃w',(Instr.mapUpdate 119 (.map (some b)) (.string ⟨x.toArray⟩) (.bool y)).run prog w= .ok () w'/\dG C P w' b (n+1)/\aG (λk=>k=b) w w':=by
 obtain⟨D,h1,h2,h3⟩:=h;obtain⟨w',hrun,hown,htr⟩:=h1.store (t:=119) (e:=4) uW underlying119 (by unfold maxLen;omega) (Ic hl) (val:=.bool y) (d:=.held (.bool y)) (ps:=[]) rfl;obtain⟨hu,_⟩:=o_ htr;refine⟨w',hrun,⟨D.put (.string x) (.held (.bool y)),qX hown,?_,λx' hx'=>?_⟩,hu⟩
 .rw[Maps.size_put (h1.tidy uW)]
  split<;>omega
 .by_cases e:x'=x
  .subst e
   exact⟨y,λz=>Maps.atKey_put_same h1.isMap (uW.key (Ic hl)) _ _,hs⟩
  .have hne:Lit.string x'≠ .string x:=λh=>e (by injection h)
   rw[Maps.has_put_other hne]at hx';obtain⟨y',hy',hs'⟩:=h3 x' hx';exact⟨y',λz=>by rw[Maps.atKey_put_other hne];exact hy' z,hs'⟩
end
def wm(bc bk bp:Nat):Value:=.func (.func 75) #[] #[.pointer (some ⟨bc,0,none⟩),.pointer (some ⟨bk,0,none⟩),.pointer (some ⟨bp,0,none⟩)]
structure pq(C:au)(P:List Int)(w:World)(bc bk bp bm n:Nat):Prop where
 con:∃v,wh w bc v C
 key:Own w 119 bk [.map (some bm)]
 par:∃A c,Own w 22 bp [.slice A P.length c]/\At w 1 A P.length c (aZ P)
 memo:dG C P w bm n
theorem Own.Uf{w:World}{t:TypeId}{b:Nat}{cs:List Value}(h:Own w t b cs):¬eY w b:=λ⟨es,c,e⟩=>by
 obtain⟨tl,h⟩:=h;rw[h]at e;cases e
theorem Own.Bd{S:Nat->Prop}{w w':World}{t:TypeId}{b:Nat}{cs:List Value}(h:Own w t b cs)(hu:aG S w w')(hS:∀k,S k->eY w k):Own w' t b cs:=h.keep hu (λhb=>h.Uf (hS b hb))
theorem wh.Bd{S:Nat->Prop}{w w':World}{b:Nat}{v:CV}{C:au}(h:wh w b v C)(hu:aG S w w')(hS:∀k,S k->eY w k):wh w' b v C:=⟨h.con.upd hu hS,h.Fw.Bd hu hS⟩
theorem pq.turn{C:au}{P:List Int}{S:Nat->Prop}{w w':World}{bc bk bp bm n m:Nat}(h:pq C P w bc bk bp bm n)(hu:aG S w w')(hS:∀k,S k->eY w k)(hm:dG C P w' bm m):pq C P w' bc bk bp bm m:=by
 obtain⟨⟨v,h1⟩,h2,⟨A,c,h3,h4⟩,_⟩:=h;exact⟨⟨v,h1.Bd hu hS⟩,h2.Bd hu hS,⟨A,c,h3.Bd hu hS,h4.upd (by omega) hu hS⟩,hm⟩
def VZ(C:au)(P:List Int)(w:World)(e:Ending)(w':World):Prop:=
 ∃bc bk bp bm:Nat,e= .returned (wm bc bk bp)/\pq C P w' bc bk bp bm 0/\Below w.heap.size w w'/\w.heap.size<=bm
theorem V7(v:CV)(C:au)(A:Option Addr)(c:Nat)(P:List Int)(w:World)(hC:bO w v C)(hP:At w 1 A P.length c (aZ P)):Calls prog 48 #[v.val C,.slice A P.length c] w (VZ C P w):=by
 obtain⟨⟨dV,dW⟩,⟨dX,dY⟩,⟨fB,dH⟩,⟨eZ,dM⟩,⟨dQ,dR⟩⟩:=v;have HC:=ah hC;clear hC;have HP:=ah hP;clear hP;simp only[CV.val,CV.cells];have hmm:=@run_makeMap prog;go_enter func48,ntmps48;go_upto_region 1 with(fail)
 generalize hW0:World.alloc _ _=W0;obtain⟨HB0,h0,h1⟩:=F5 hW0;have zR:Hid (W0.heap.size=w.heap.size+1+1):=by show _=_;rw[<-hW0];simp
 clear hW0;go_upto_region 2 with(fail)
 generalize hW1:World.alloc _ _=W1;obtain⟨HB1,h2,h3⟩:=F5 hW1;have HM:Hid (dG C P (W0.alloc (.map #[] 0)) W0.heap.size 0):=dG.made C P W0;have Nk:Hid (dG C P W1 W0.heap.size 0):=by rw[<-hW1];exact HM.out.below (aJ (aC _ _) _)
 clear hW1 HM;go_wp2;go_ret;refine⟨w.heap.size,W0.heap.size+1,w.heap.size+1,W0.heap.size,rfl,⟨⟨⟨⟨dV,dW⟩,⟨dX,dY⟩,⟨fB,dH⟩,⟨eZ,dM⟩,⟨dQ,dR⟩⟩,⟨HC.out.below (av HB0.out HB1.out),⟨[],?_⟩⟩⟩,⟨[],by rw[bU];exact h3⟩,⟨A,c,⟨[],?_⟩,HP.out.below (by omega) (av HB0.out HB1.out)⟩,Nk.out⟩,av HB0.out HB1.out,by have:=zR.out;omega⟩
 .rw[bU];exact(HB1.out.block _ (aB h0)).trans h0
 .rw[bU];exact(HB1.out.block _ (aB h1)).trans h1
end
section
open Go.RowKit Go.Shelf Go.Sort Tryz
theorem acr(W:World){x:Int}(h:0<=x/\x<=255):(convert 3 5 (.int .i64 x)).run prog W= .ok (.int .u8 x) W:=by
 have h1:=run_convert_int (P:=prog) W 3 5 .i64 x (by rw[underlying3];rfl) (by kernel_rfl);have h2:prog.intKind 5= .u8:=by kernel_rfl
 rw[h2,IntWalk.u8_in x h]at h1;exact h1
theorem PD{l:List Int}{k:Nat}{x:Int}(h:l[k]?=some x):jR (l.take (k+1))=jR (l.take k)++[UInt8.ofNat x.toNat]:=by
 rw[bT h];simp[jR]
theorem Zi{l:List Int}{k:Nat}{x:Int}(h:l[k]?=some x)(f:Int->Bool):(l.take (k+1)).any f=((l.take k).any f||f x):=by
 rw[bT h];simp
def PE(C:au)(P:List Int)(s:ak)(i:Nat)(bm n:Nat)(w:World)(e:Ending)(w':World):Prop:=
 e= .returned (.bool (C.sight P s i))/\dG C P w' bm (n+1)/\aG (λk=>k=bm) w w'
theorem FX{C:au}{P:List Int}{w W:World}{bm n:Nat}(h:dG C P w bm n)(hb:Below w.heap.size w W):dG C P W bm (n+1)/\aG (λk=>k=bm) w W:=
 ⟨(h.below hb).mono (by omega),(aG.of_below hb).mono (λi hi hle=>by omega)⟩
theorem I_{C:au}{P:List Int}{w:World}{bc bk bp bm n:Nat}(H:pq C P w bc bk bp bm n)(hn:n<=100000000000)(t:TV)(s:ak)(hS:aQ w t s)(hO:aV C s){i:Nat}(hi:i<C.acts.length):
 Calls prog 75 #[t.val s,.int .i64 i,.pointer (some ⟨bc,0,none⟩),.pointer (some ⟨bk,0,none⟩),.pointer (some ⟨bp,0,none⟩)] w (PE C P s i bm n w):=by
 obtain⟨⟨⟨⟨dV,dW⟩,⟨dX,dY⟩,⟨fB,dH⟩,⟨eZ,dM⟩,⟨dQ,dR⟩⟩,hco⟩,hkey,⟨pA,pc,hpb,hpa⟩,hmem⟩:=H;obtain⟨⟨eu,dN⟩,⟨eH,dL⟩,⟨fF,bY⟩⟩:=t;obtain⟨a,ha⟩:∃a,C.acts[i]?=some a:=⟨_,aS hi⟩;have Mh:Hid (C.sight P s i=((!(a.kind==1))||((a.tgt== -1)||C.nY P s i))):=by show _=_;unfold au.sight;rw[ha]
 have HK:=ah (au.ok hO.con);have hnr:=HK.out.Q6;have hnp:=HK.out.Hg;have hna:=HK.out.Ey;have hlh:s.aj.length<=12:=by rw[hO.lh];exact hnr
 have HHR:Hid (∀x∈s.aj,0<=x/\x<=255):=λx hx=>by have:=hO.held x hx;omega
 have HN:=ah hn;clear hn;have uZ:Hid (Sound C P (Ke s i) (C.nY P s i)):=Zh hO hi;have S9:Hid (∀b,Sound C P (Ke s i) b->b=C.nY P s i):=λb h=>h s i hO hi rfl;have HC:=ah hco;clear hco;have HKE:=ah hkey;clear hkey;have HPB:=ah hpb;clear hpb;have tL:=ah hpa;clear hpa;have HM:=ah hmem;clear hmem;have HS:=ah hS;clear hS;have HO:=ah hO;clear hO;generalize hE:C.sight P s i=E at Mh;have HE:=ah hE;clear hE;unfold PE;rw[HE.out];simp only[TV.val,TV.cells,ak.cells];go_enter func75,ntmps75;go_upto_region 1 with(fail)
 generalize hW0:World.alloc _ _=W0;obtain⟨HB0,h0⟩:=bx1 hW0;have vF:Hid (Own W0 48 w.heap.size [.int .i64 s.day,.slice eu s.aj.length dN,.slice eH s.used.length dL,.slice fF s.marks.length bY]):=⟨[],by rw[bU];exact h0⟩;have WA:=ah (HC.out.below HB0.out);obtain⟨c0,c1,c2,c3,c4,c5,c6⟩:=WA.out.cells;simp only at c0 c1 c2 c3 c4 c5 c6;obtain⟨ab,mO,hA,hab,hac⟩:=WA.out.con.act ha;simp only at hA;subst hA;obtain⟨ki,ro,gi,tg,un,⟨ln,ld⟩⟩:=a;simp only at Mh;obtain⟨r0,r1,r2,r3,r4,r5,r6⟩:=rw7 (hac W0 (aC _ _)) rfl;have i0:(0:Int)<=(i:Int):=by omega
 have i1:(i:Int)<(C.acts.length:Int):=by omega
 clear hW0 h0 hac hab ha;go_upto_region 2 with(fail)
 generalize hW1:World.alloc _ _=W1;obtain⟨hb1,h1⟩:=bx1' hW1;have d0:W1.cell? ⟨W0.heap.size,0,none⟩=some (.int .i64 ki):=(aK W1 _ 0 _ _ _ h1).trans rfl;have d3:W1.cell? ⟨W0.heap.size,3,none⟩=some (.int .i64 tg):=(aK W1 _ 3 _ _ _ h1).trans rfl;have zm:=ah (WA.out.below hb1);have HB1:Hid (Below w.heap.size w W1):=av HB0.out hb1;have aex:=ah (vF.out.below hb1);clear hW1 h1 r0 r1 r2 r3 r4 r5 r6 c0 c1 c2 c3 c4 c5 c6 WA hb1 vF HC HB0;cases qk:(ki==1)with
 |false=>
  rw[qk]at Mh;have qk':(ki !=1)=true:=by simpa using qk
  go_wp2;go_ret;exact⟨by rw[Mh.out];rfl,FX HM.out HB1.out⟩
 |true=>
  have qk':(ki !=1)=false:=by simpa using qk
  cases qt:(tg== -1)with
  |true=>
   rw[qk,qt]at Mh;go_wp2;go_ret;exact⟨by rw[Mh.out];rfl,FX HM.out HB1.out⟩
  |false=>
   rw[qk,qt]at Mh;have ah0:Hid (E=C.nY P s i):=by show _=_;rw[Mh.out];rfl
   clear Mh;obtain⟨iu,hui,huz,Rf,hub⟩:=info_parts' KJ;have s1:=aex.out.cell (i:=1) rfl;have Jo:Hid (∀z,Below W1.heap.size W1 z->wh z bc ⟨⟨dV,dW⟩,⟨dX,dY⟩,⟨some ⟨ab,mO,none⟩,dH⟩,⟨eZ,dM⟩,⟨dQ,dR⟩⟩ C):=λz hz=>zm.out.below hz;clear zm;go_wp2_with (at_make;refine wpList_make_own _ rfl _ _ 101 rfl W1.heap.size 5 iu (.int .u8 0) 1 underlying101 hui huz Rf _ _ _ (s.aj.length+1) rfl rfl (by simp) (by rw[hub];omega) (by unfold maxLen;omega) (bJ _) ?_;intro W2 hrow2 hg2;refine Hid.out ?_);refine ah ?_;have YX:Hid (Bytes W1.heap.size W2 (.slice (some ⟨W1.heap.size,0,none⟩) 0 (s.aj.length+1)) (jR (s.aj.take 0))):=hrow2;have HZ2:Hid (RowKit.Below W1.heap.size W1 W2):=(aC _ _).grown hg2 (bJ _) (λj hj=>by cases hj);clear hrow2 hg2 s1 d0 d3;have s1:=(aex.out.below HZ2.out).cell (i:=1) rfl;go_wp2
   go_loopg [37,9] s.aj.length (λgk v37 v9 wr=>∃k:Nat,gk=s.aj.length - k/\k<=s.aj.length/\v37= .int .i64 k/\Hid (Bytes W1.heap.size wr v9 (jR (s.aj.take k)))/\Hid (Below W1.heap.size W1 wr))
   case atStart=>exact⟨0,rfl,aU _,rfl,YX,HZ2⟩
   case round=>
    obtain⟨k,eO,hk,rfl,HY,HZ⟩:=hrel;have iw:=ah eO;clear eO;clear YX HZ2 s1;have hyl:(jR (s.aj.take k)).length=k:=by unfold jR;rw[dU,pz];omega
    by_cases hlt:k<s.aj.length
    .obtain⟨x,hx⟩:∃x,s.aj[k]?=some x:=⟨_,aS hlt⟩
     have TD:=HHR.out x (cK hx);obtain⟨hb,ho,hA,hbl,hcl⟩:=(HS.out.below (av HB1.out HZ.out)).aj.1.form (by omega) (by omega);simp only at hA;subst hA;have x0:wr.cell? ⟨hb,ho+k,none⟩=some (.int .i64 x):=(hcl k (by omega)).trans (ig hx);have hcv:∀W:World,(convert 3 5 (.int .i64 x)).run prog W= .ok (.int .u8 x) W:=λW=>acr W TD;have HXB:=ah (CF TD);have qD:=ah (PD hx);have k0:(k:Int)<(s.aj.length:Int):=by omega
     have k1:(0:Int)<=(k:Int):=by omega
     clear hcl hx TD;go_wp2_with (at_builtin;refine wpList_append_byte rfl _ _ rfl W1.heap.size _ _ rfl HY.out _ x HXB.out rfl (by rw[hyl];omega) HZ.out.size ?_;intro v2 w2 h1 h2;refine Hid.out ?_);refine ah ?_;have HYN:Hid (Bytes W1.heap.size w2 v2 (jR (s.aj.take (k+1)))):=by show Bytes _ _ _ _;rw[qD.out];exact h1
     have HZN:Hid (RowKit.Below W1.heap.size W1 w2):=HZ.out.trans h2.below;clear h1 h2 x0 hcv;go_wp2
     go_roundg (s.aj.length - (k+1))
     case measure=>rw[iw.out];omega
     case rel=>exact⟨k+1,rfl,by omega,by go_num,HYN,HZN⟩
    .obtain rfl:k=s.aj.length:=by omega
     rw[iG]at HY;have hir:(0:Int)<=(i:Int)/\(i:Int)<=255:=by omega
     have hcv:∀W:World,(convert 3 5 (.int .i64 i)).run prog W= .ok (.int .u8 i) W:=λW=>acr W hir;have HXB:=ah (CF hir);rw[iG]at hyl;go_wp2_with (at_builtin;refine wpList_append_byte rfl _ _ rfl W1.heap.size _ _ rfl HY.out _ i HXB.out rfl (by rw[hyl];omega) HZ.out.size ?_;intro v2 w2 h1 h2;refine Hid.out ?_);refine ah ?_;have HY3:Hid (Bytes W1.heap.size w2 v2 (Ke s i)):=h1;have HZ3:Hid (Below W1.heap.size W1 w2):=HZ.out.trans h2.below;have hkl:(Ke s i).length=s.aj.length+1:=by unfold Ke;rw[mU,hyl];rfl
     clear h1 h2 HY HZ hcv HXB hyl;generalize hX:Ke s i=X at HY3 uZ S9 hkl;clear hX;have hxm:X.length<=maxLen:=by unfold maxLen;omega
     have HXM:=ah hxm;clear hxm;have HKL:=ah hkl;clear hkl;rcases HY3.out.2 with⟨_,h0⟩|⟨g,cap,cur,rfl,hgb,hg1,hg2,hg3,hg4,hg5⟩
     .exact absurd h0 (by have:=HKL.out;omega)
     clear hgb hg1 hg2 hg3 hg4 hg5;have UC:Hid (∀W:World,RowKit.Below w2.heap.size w2 W->(convert 101 9 (.slice (some ⟨g,0,none⟩) X.length cap)).run prog W= .ok (.string ⟨X.toArray⟩) W):=λW hW=>
      run_convert_bytes_back (P:=prog) W 101 9 5 ⟨g,0,none⟩ cap X underlying101 underlying5 underlying9 (λj hj=>World.ownsRow.cells (show World.ownsRow _ _ _ _ _ _ _ from ownsRow_below HY3.out hW) (g:=g) rfl j _ (by simp[Lib.byteCells,hj]))
     have hcv:=UC.out w2 (aC _ _);have Nl:Hid (RowKit.Below w.heap.size w w2):=av HB1.out HZ3.out;obtain⟨y,kn,hrun,hk1,hk0⟩:=(HM.out.below Nl.out).look HXM.out;have e0:=(HKE.out.below Nl.out).cell (i:=0) rfl;cases kn with
     |true=>
      have HY1:Hid (y=E):=by show _=_;rw[ah0.out];exact S9.out y (hk1 rfl)
      clear hk1 hk0;go_wp2;go_ret;exact⟨congrArg (λb=>Ending.returned (.bool b)) HY1.out,FX HM.out Nl.out⟩
     |false=>
      obtain rfl:=hk0 rfl;have p0:=(HPB.out.below Nl.out).cell (i:=0) rfl;have hpx:P.length<=9223372036854775807:=nZ tL.out;clear hk0 hk1;go_wp2
      go_loopg [63,12] P.length (λgk v63 v12 wr=>∃j:Nat,gk=P.length - j/\j<=P.length/\v63= .int .i64 j/\v12= .bool ((P.take j).any (λp=>C.sees s p i))/\Hid (RowKit.Below w2.heap.size w2 wr))
      case atStart=>exact⟨0,rfl,aU _,rfl,rfl,aC _ _⟩
      case round=>
       obtain⟨j,hgj,hj,rfl,rfl,HW⟩:=hrel;have Qn:=ah hgj;clear hgj;clear hcv hrun e0 p0;have HWW:Hid (RowKit.Below w.heap.size w wr):=av Nl.out HW.out;by_cases hlt:j<P.length
       .obtain⟨x,hx⟩:∃x,P[j]?=some x:=⟨_,aS hlt⟩
        obtain⟨pb,po,hA,hbl,hcl⟩:=(tL.out.below (by omega) HWW.out).1.form (by omega) (by omega);subst hA;have x0:wr.cell? ⟨pb,po+j,none⟩=some (.int .i64 x):=(hcl j (by omega)).trans (ig hx);have HAS:=ah (Zi hx (λp=>C.sees s p i));have j0:(j:Int)<(P.length:Int):=by omega
        have j1:(0:Int)<=(j:Int):=by omega
        clear hcl hx;have Nn:=ah (Jo.out wr (av HZ3.out HW.out));obtain⟨c0,c1,c2,c3,c4,c5,c6⟩:=Nn.out.cells;simp only at c0 c1 c2 c3 c4 c5 c6;have L6:=ah (aex.out.below (av HZ3.out HW.out));have s0:=L6.out.cell (i:=0) rfl;have s1:=L6.out.cell (i:=1) rfl;have s2:=L6.out.cell (i:=2) rfl;have s3:=L6.out.cell (i:=3) rfl;generalize(P.take j).any (λp=>C.sees s p i)=acc at HAS⊢;cases acc with
        |true=>
         go_wp2
         go_roundg (P.length - (j+1))
         case measure=>rw[Qn.out];omega
         case rel=>exact⟨j+1,rfl,by omega,by go_num,by rw[HAS.out,Bool.true_or],HW⟩
        |false=>
         have hse:=xD ⟨⟨dV,dW⟩,⟨dX,dY⟩,⟨some ⟨ab,mO,none⟩,dH⟩,⟨eZ,dM⟩,⟨dQ,dR⟩⟩ C ⟨⟨eu,dN⟩,⟨eH,dL⟩,⟨fF,bY⟩⟩ s x i wr Nn.out.con (HS.out.below HWW.out);simp only[CV.val,CV.cells,TV.val,TV.cells,ak.cells]at hse;have S_:=ah hse;clear hse;generalize C.sees s x i=q at HAS S_;go_wp2_with (go_at_call 76;refine S_.out.mono ?_;rintro e z ⟨rfl,hz⟩;refine Hid.out ?_);refine ah ?_;have kL:Hid (RowKit.Below w2.heap.size w2 z):=av HW.out hz;clear hz S_ Nn L6 c0 c1 c2 c3 c4 c5 c6 s0 s1 s2 s3 x0;go_wp2
         go_roundg (P.length - (j+1))
         case measure=>rw[Qn.out];omega
         case rel=>exact⟨j+1,rfl,by omega,by go_num,by rw[HAS.out,Bool.false_or],kL⟩
       .obtain rfl:j=P.length:=by omega
        rw[iG];have HEV:Hid (P.any (λp=>C.sees s p i)=C.nY P s i):=rfl;have HEQ:Hid (P.any (λp=>C.sees s p i)=E):=by show _=_;rw[ah0.out];rfl
        generalize P.any (λp=>C.sees s p i)=y at HEV HEQ⊢;have hcv:=UC.out wr HW.out;have e0:=(HKE.out.below HWW.out).cell (i:=0) rfl;obtain⟨W9,hput,hm9,hu9⟩:=(HM.out.below HWW.out).put HXM.out (y:=y) (by rw[HEV.out];exact uZ.out) HN.out;have HM9:=ah hm9;have HU9:Hid (aG (λk=>k=bm) w W9):=((FX HM.out HWW.out).2).trans hu9 (λ_ _ h=>h);clear hm9 hu9;go_wp2;go_ret;exact⟨congrArg (λb=>Ending.returned (.bool b)) HEQ.out,HM9.out,HU9.out⟩
end
section
open Go.RowKit Go.Shelf Go.Sort Tryz
def Safe(M:Nat->Prop)(o:Option Nat)(w:World)(t:TV)(s:ak):Prop:=∀w',aG (λk=>some k=o\/M k) w w'->aQ w' t s
section
variable {M:Nat->Prop} {o o':Option Nat} {w w':World} {t:TV} {s:ak}
theorem Safe.at(h:Safe M o w t s):aQ w t s:=h w (aG.refl _ _)
theorem Safe.turn{S:Nat->Prop}(h:Safe M o w t s)(hu:aG S w w')(hS:∀k,k<w.heap.size->S k->some k=o\/M k)(ho:o'=o\/∀g,o'=some g->w.heap.size<=g):Safe M o' w' t s:=λw'' hu'=>
 h w'' ((hu.mono hS).trans hu' (λi hi e=>by
  rcases e with e|e
  .rcases ho with ho|ho
   .exact .inl (e.trans ho)
   .have:=ho i e.symm;omega
  .exact .inr e))
theorem Safe.new{z:World}(hs:aQ w t s)(hn:lN z.heap.size t)(ho:∀k,(some k=o\/M k)->k<z.heap.size):Safe M o w t s:=λ_ hu=>hs.kX hn hu ho
end
def vg(Q:TV->ak->Prop)(w:World)(b:Nat)(F:List ak):Prop:=
 ∃D:DataW Value,w.ownsMap prog 9 R1 b (Maps.size D) D/\Maps.size D=F.length/\(F.map ak.text).Nodup/\
  (∀s∈F,∃t:TV,(∀z,D.atKey (.string s.text) z= .held (t.val s))/\Q t s)/\(∀k,Maps.has D k=true->∃s∈F,k= .string s.text)
section
variable {Q Q':TV->ak->Prop} {w w':World} {b:Nat} {F:List ak}
theorem Zj(t:TV):lN 0 t:=⟨λ_ _ _=>aU _,λ_ _ _=>aU _,λ_ _ _=>aU _⟩
theorem vg.Ug(h:vg Q w b F)(hq:∀t s,Q t s->aQ w t s):dJ 0 w b F:=by
 obtain⟨D,h1,h2,h3,h4,h5⟩:=h;exact⟨D,h1,h2,h3,λs hs=>(h4 s hs).imp (λt ht=>⟨ht.1,hq t s ht.2,Zj t⟩),h5⟩
theorem vg.imp(h:vg Q w b F)(hq:∀t s,Q t s->Q' t s):vg Q' w b F:=by
 obtain⟨D,h1,h2,h3,h4,h5⟩:=h;exact⟨D,h1,h2,h3,λs hs=>(h4 s hs).imp (λt ht=>⟨ht.1,hq t s ht.2⟩),h5⟩
theorem vg.blk(h:vg Q w b F):eY w b:=by
 obtain⟨D,⟨es,c,hb,_⟩,_⟩:=h;exact⟨es,c,hb⟩
theorem vg.keep{S:Nat->Prop}(h:vg Q w b F)(hu:aG S w w')(hb:¬S b):vg Q w' b F:=by
 obtain⟨D,⟨es,c,h1,h2⟩,h3⟩:=h;exact⟨D,⟨es,c,hu.keep h1 hb,h2⟩,h3⟩
theorem vg.nodup(h:vg Q w b F):(F.map ak.text).Nodup:=by
 obtain⟨D,_,_,h3,_⟩:=h;exact h3
theorem vg.put(h:vg Q w b F){s:ak}(hn:s.text∉F.map ak.text){t:TV}(hq:Q t s)(hl:s.text.length<=maxLen)(hF:F.length<1000000):
 ∃w',(Instr.mapUpdate 142 (.map (some b)) (.string ⟨s.text.toArray⟩) (t.val s)).run prog w= .ok () w'/\vg Q w' b (F++[s])/\aG (λk=>k=b) w w':=by
 obtain⟨D,h1,h2,h3,h4,h5⟩:=h;obtain⟨w',hrun,hown,htr⟩:=h1.store (t:=142) (e:=48) uW underlying142 (by rw[h2];unfold maxLen;omega) (Ic hl) (val:=t.val s) (d:=.held (t.val s)) (ps:=[]) rfl;obtain⟨hu,_⟩:=o_ htr;have hnot:Maps.has D (.string s.text)=false:=by
  cases hh:Maps.has D (.string s.text)with
  |false=>rfl
  |true=>
   obtain⟨s',hs',e⟩:=h5 _ hh;exact absurd (cZ.2 ⟨s',hs',(Lit.string.inj e).symm⟩) hn
 refine⟨w',hrun,⟨D.put (.string s.text) (.held (t.val s)),qX hown,?_,?_,?_,?_⟩,hu⟩
 .rw[Maps.size_put (h1.tidy uW),hnot]
  simp[h2]
 .rw[pG,List.nodup_append]
  exact⟨h3,by simp,λa ha b hb e=>by simp at hb;rw[e,hb]at ha;exact hn ha⟩
 .intro x hx
  rcases jU.1 hx with hx|hx
  .obtain⟨t',ht',hq'⟩:=h4 x hx
   refine⟨t',λz=>?_,hq'⟩;rw[Maps.atKey_put_other (λe=>by injection e with e;exact hn (by rw[<-e];exact cZ.2 ⟨x,hx,rfl⟩))];exact ht' z
  .rw[eB]at hx
   subst hx;exact⟨t,λz=>Maps.atKey_put_same h1.isMap (uW.key (Ic hl)) _ _,hq⟩
 .intro k hk
  by_cases e:k= .string s.text
  .exact⟨s,by simp,e⟩
  .rw[Maps.has_put_other e]at hk
   obtain⟨s',hs',e'⟩:=h5 k hk;exact⟨s',List.mem_append_left _ hs',e'⟩
end
def d_(M:Nat->Prop)(B:Nat)(w:World)(v:Value)(R:List ak):Prop:=
 ∃ts:List TV,ts.length=R.length/\w.ownsRow B 48 4 v R.length ((R.zip ts).flatMap (λp=>TV.cells p.2 p.1))/\∀(i:Nat)(s:ak)(t:TV),R[i]?=some s->ts[i]?=some t->Safe M v.ownBlock w t s
theorem d_.nil(M:Nat->Prop)(B:Nat)(w:World):d_ M B w (.slice none 0 0) []:=⟨[],rfl,World.ownsRow_nil _ _ _ _,λi s t hs=>by simp at hs⟩
theorem d_.keep{M S:Nat->Prop}{B:Nat}{w w':World}{v:Value}{R:List ak}(h:d_ M B w v R)(hu:aG S w w')(hS:∀k,k<w.heap.size->S k->M k)(hg:∀g,v.ownBlock=some g->¬S g):d_ M B w' v R:=by
 obtain⟨ts,h1,h2,h3⟩:=h;exact⟨ts,h1,bV h2 hu hg,λi s t hs ht=>(h3 i s t hs ht).turn hu (λk hk e=>.inr (hS k hk e)) (.inl rfl)⟩
theorem d_.ret{M:Nat->Prop}{B:Nat}{w:World}{v:Value}{R:List ak}(h:d_ M B w v R):∃A c,v= .slice A R.length c/\aW 0 w ⟨A,c⟩ R:=by
 obtain⟨ts,h1,h2,h3⟩:=h;obtain⟨A,c,rfl,hAt⟩:=kY h2 (cells_one _);exact⟨A,c,rfl,λb off e=>aU _,ts,h1,hAt,λi s t hs ht=>⟨(h3 i s t hs ht).at,Zj t⟩⟩
theorem d_.own{M:Nat->Prop}{B:Nat}{w:World}{v:Value}{R:List ak}(h:d_ M B w v R){g:Nat}(hg:v.ownBlock=some g):B<=g/\g<w.heap.size/\∃cs,w.heap[g]?=some (.cells cs 48 (0,0)):=by
 obtain⟨ts,_,h2,_⟩:=h;rcases h2.2 with⟨rfl,_⟩|⟨g',cap,cur,rfl,hb,hh,_⟩
 .cases hg
 .simp only[Value.ownBlock,Option.some.injEq]at hg
  subst hg;exact⟨hb,aB hh,cur,hh⟩
theorem p8{M:Nat->Prop}{W:World}{ops:Array Oper}{rest:List Oper}{o:Oper}{a:Act}{Q:Exit->Act->World->Prop}
 (hg:o.guard=none)(so x:Operand)(hop:o.op=Op.call {callee:=Callee.builtin Builtin.append,args:=#[so,x],argTypes:=#[41,41]})
 (B:Nat)(v:Value)(R:List ak)(hs:a.eval so=v)(hown:d_ M B W v R)(t:TV)(s:ak)(hst:Safe M v.ownBlock W t s)(arr:Array Value)(harr:arr=(t.cells s).toArray)
 (hx:a.eval x= .slice (some ⟨W.heap.size,0,none⟩) 1 1)(hlen:R.length<=1000000)(hBW:B<=W.heap.size)
 (hK:∀A' c' w',d_ M B w' (.slice A' (R++[s]).length c') (R++[s])->aG (λk=>some k=v.ownBlock) W w'->((Value.slice A' (R++[s]).length c').ownBlock=v.ownBlock\/∀g,(Value.slice A' (R++[s]).length c').ownBlock=some g->W.heap.size<=g)->wpList prog ops Q rest (a.put o.dst (.slice A' (R++[s]).length c')) w'):
 wpList prog ops Q (o::rest) a (W.alloc (.cells arr 48)):=by
 subst harr;obtain⟨ts,h1,h2,h3⟩:=hown;obtain⟨is,hsi,hsz,hss,hsb⟩:=info_parts' (P:=prog) (t:=48) (z:=some eF) (s:=4) (b:=80) (by kernel_rfl);have hba:Below W.heap.size W (W.alloc (.cells (t.cells s).toArray 48)):=aJ (aC _ _) _;refine wpList_append_own_at _ hg so x 41 hop B 48 is eF 4 80 underlying41 hsi hsz hss hsb rfl (by decide) v R.length _ hs (World.ownsRow.alloc h2 _) ⟨W.heap.size,0,none⟩ 1 1 (t.cells s) hx rfl
  (λj u hj=>by
   rw[Addr.add_lit,aK _ _ (0+j) _ _ _ (bK W _)];simpa using hj) (by
   intro u hu;simp only[TV.cells,ak.cells,dx,iQ,or_false]at hu;rcases hu with rfl|rfl|rfl|rfl<;>rfl) (by unfold maxLen;omega) (by omega) (by simp;omega) ?_
 intro v' w' hown' hgrow _ hblk;have YC:aG (λk=>some k=v.ownBlock) (W.alloc (.cells (t.cells s).toArray 48)) w':=⟨hgrow.os,hgrow.tape,hgrow.output,hgrow.size,λk hk hn=>hgrow.block k hk hn⟩;have hU:aG (λk=>some k=v.ownBlock) W w':=(((aG.of_below hba).mono (λi hi hle=>by omega)).trans YC (λ_ _ e=>e));have ho:v'.ownBlock=v.ownBlock\/∀g,v'.ownBlock=some g->W.heap.size<=g:=by
  rcases hblk with hblk|hblk
  .exact .inl hblk
  .exact .inr (λg e=>by rw[hblk]at e;injection e with e;simp at e;omega)
 suffices hso:d_ M B w' v' (R++[s]) by
  obtain⟨A',c',e,_⟩:=hso.ret;subst e;exact hK A' c' w' hso hU ho
 refine⟨ts++[t],by simp[h1],?_,λi x' t' hx' ht'=>?_⟩
 .rw[List.zip_append h1.symm,Bt,mU,rP]
  simpa using hown'
 .have hsf:∀t' s',Safe M v.ownBlock W t' s'->Safe M v'.ownBlock w' t' s':=λt' s' h=>h.turn hU (λk _ e=>.inl e) ho
  by_cases hi:i<R.length
  .rw[kH hi]at hx'
   rw[kH (by rw[h1];exact hi)]at ht';exact hsf _ _ (h3 i x' t' hx' ht')
  .rw[lW (by omega)]at hx'
   rw[lW (by rw[h1];omega),h1]at ht';cases hk:i - R.length with
   |zero=>
    rw[hk]at hx' ht';simp at hx' ht';rw[<-hx',<-ht'];exact hsf _ _ hst
   |succ q=>rw[hk]at hx';simp at hx'
structure qM(M:Nat->Prop)(B cm cq bf:Nat)(w:World)(v:Value)(F:List ak):Prop where
 DX:Own w 142 cm [.map (some bf)]
 Sd:Own w 41 cq [v]
 set:vg (Safe M v.ownBlock w) w bf F
 V8:d_ M B w v F
theorem qM.keep{M S:Nat->Prop}{B cm cq bf:Nat}{w w':World}{v:Value}{F:List ak}(h:qM M B cm cq bf w v F)(hu:aG S w w')(hS:∀k,k<w.heap.size->S k->M k)(h1:¬S cm)(h2:¬S cq)(h3:¬S bf)(hg:∀g,v.ownBlock=some g->¬S g):qM M B cm cq bf w' v F:=
 ⟨h.DX.keep hu h1,h.Sd.keep hu h2,(h.set.keep hu h3).imp (λ_ _ hs=>hs.turn hu (λk hk e=>.inr (hS k hk e)) (.inl rfl)),h.V8.keep hu hS hg⟩
theorem qM.below{M:Nat->Prop}{B cm cq bf:Nat}{w w':World}{v:Value}{F:List ak}(h:qM M B cm cq bf w v F)(hb:Below w.heap.size w w'):qM M B cm cq bf w' v F:=by
 have h1:=h.DX.lt;have h2:=h.Sd.lt;obtain⟨es,c,h3⟩:=h.set.blk;have h3:=aB h3;refine h.keep (aG.of_below hb) (λk hk e=>by omega) (by omega) (by omega) (by omega) (λg hg e=>?_);have:=(h.V8.own hg).2.1;omega
theorem qM.Bd{M S:Nat->Prop}{B cm cq bf:Nat}{w w':World}{v:Value}{F:List ak}(h:qM M B cm cq bf w v F)(hu:aG S w w')(hS:∀k,S k->eY w k/\M k)(h3:¬S bf):qM M B cm cq bf w' v F:=
 h.keep hu (λk _ e=>(hS k e).2) (λe=>h.DX.Uf (hS _ e).1) (λe=>h.Sd.Uf (hS _ e).1) h3 (λg hg e=>by
  obtain⟨_,_,cs,hc⟩:=h.V8.own hg;obtain⟨es,c,hm⟩:=(hS _ e).1;rw[hc]at hm;cases hm)
end
section
open Go.RowKit Go.Shelf Go.Sort Tryz
def MO(M:Nat->Prop)(B cm cq bf:Nat)(v:Value)(F:List ak)(s:ak)(w:World)(e:Ending)(w':World):Prop:=
 e= .returned (.bool (decide ((jv F s).length<=300)))/\∃v',qM M B cm cq bf w' v' (jv F s)/\aG (λk=>some k=v.ownBlock\/k=bf\/k=cq) w w'/\(v'.ownBlock=v.ownBlock\/∀g,v'.ownBlock=some g->w.heap.size<=g)
theorem Uh{M:Nat->Prop}{B cm cq bf:Nat}{w:World}{v:Value}{F:List ak}(H:qM M B cm cq bf w v F)(hMf:M bf)(hMq:M cq)(hB:B<=w.heap.size)(t:TV)(s:ak)(hS:Safe M v.ownBlock w t s)(hR:DF s)(hT:Tab w)(hF:F.length<=100000):
 Calls prog 77 #[t.val s,.pointer (some ⟨cm,0,none⟩),.pointer (some ⟨cq,0,none⟩)] w (MO M B cm cq bf v F s w):=by
 have hlt1:=H.DX.lt;have hlt2:=H.Sd.lt;have HH:=ah H;clear H;obtain⟨⟨eu,dN⟩,⟨eH,dL⟩,⟨fF,bY⟩⟩:=t;have TJ:=ah (yD hR);have aey:Hid (∀z,Below w.heap.size w z->Calls prog 25 #[TV.val ⟨⟨eu,dN⟩,⟨eH,dL⟩,⟨fF,bY⟩⟩ s] z (dZ (.string ⟨s.text.toArray⟩) z)):=λz hz=>Ia _ s z (hS.at.below hz) hR (hT.below hz);have HS:=ah hS;clear hS;have JE:Hid (M bf/\M cq):=⟨hMf,hMq⟩;clear hMf hMq hT hR;simp only[TV.val,TV.cells,ak.cells]at aey⊢;go_enter func77,ntmps77;go_upto_region 1 with(fail)
 generalize hW0:World.alloc _ _=W0;obtain⟨HB0,h0⟩:=bx1 hW0;have HX0:Hid (Own W0 48 w.heap.size [.int .i64 s.day,.slice eu s.aj.length dN,.slice eH s.used.length dL,.slice fF s.marks.length bY]):=⟨[],by rw[bU];exact h0⟩;clear hW0 h0;have x0:=HX0.out.cell (i:=0) rfl;have x1:=HX0.out.cell (i:=1) rfl;have x2:=HX0.out.cell (i:=2) rfl;have x3:=HX0.out.cell (i:=3) rfl;have KP:=ah (aey.out W0 HB0.out);obtain⟨tx,htx⟩:∃tx,tx=s.text:=⟨_,rfl⟩;rw[<-htx]at KP TJ;have HE:=ah htx;clear htx;go_wp2_with (go_at_call 25;refine KP.out.mono ?_;rintro e z ⟨rfl,hz⟩;refine Hid.out ?_);refine ah ?_;have Zk:Hid (RowKit.Below w.heap.size w z):=av HB0.out hz;have HXz:=ah (HX0.out.below hz);have HHz:=ah (HH.out.below Zk.out);have hF0:=HHz.out.set.Ug (λ_ _ h=>h.at);obtain⟨d,a1,n1,c1,a2,n2,c2,a3,n3,c3,hrun⟩:=hF0.GJ TJ.out;unfold stV at hrun;obtain⟨bq,hbq⟩:∃b,b=decide (tx∈F.map ak.text):=⟨_,rfl⟩;rw[<-hbq]at hrun;have HBQ:=ah hbq;clear hbq;have y0:=HHz.out.DX.cell (i:=0) rfl;clear x0 x1 x2 x3 KP aey hF0 HX0 HB0 hz;go_upto_region 3 with(fail)
 generalize hW1:World.alloc _ _=W1;obtain⟨hb1,_⟩:=bx1' hW1;have HB1:Hid (RowKit.Below w.heap.size w W1):=av Zk.out hb1;have q9:=ah (HXz.out.below hb1);have VH:=ah (HHz.out.below hb1);clear hW1 y0 hrun HXz HHz Zk hb1;have y0:=VH.out.DX.cell (i:=0) rfl;cases bq with
 |true=>
  have HQ:Hid (decide (tx∈F.map ak.text)=true):=HBQ.out.symm;have O7:Hid (jv F s=F):=by show _=_;rw[jv,<-HE.out,HQ.out];rfl
  have hlf:∀ty,(Builtin.len_ #[142] ty #[.map (some bf)]).run prog W1= .ok (.int .i64 (F.length:Nat)) W1:=λty=>(VH.out.set.Ug (λ_ _ h=>h.at)).len ty;have HDL:Hid (decide ((F.length:Int)<=300)=decide (F.length<=300)):=decide_eq_decide.2 (by omega);go_wp2;go_ret;unfold MO;rw[O7.out];exact⟨congrArg (λb=>Ending.returned (.bool b)) HDL.out,v,VH.out,(aG.of_below HB1.out).mono (λi hi hle=>by omega),.inl rfl⟩
 |false=>
  have HQ:Hid (decide (tx∈F.map ak.text)=false):=HBQ.out.symm;have O7:Hid (jv F s=F++[s]):=by show _=_;rw[jv,<-HE.out,HQ.out];rfl
  have hS1:Safe M v.ownBlock W1 ⟨⟨eu,dN⟩,⟨eH,dL⟩,⟨fF,bY⟩⟩ s:=HS.out.turn (aG.of_below HB1.out) (λk hk e=>by omega) (.inl rfl);obtain⟨W2,hput,hs2,hu2⟩:=VH.out.set.put (s:=s) (by rw[<-HE.out];exact of_decide_eq_false HQ.out) hS1 (by rw[<-HE.out];exact TJ.out) (by omega);rw[<-HE.out]at hput;simp only[TV.val,TV.cells,ak.cells]at hput;have hnb:∀k,k=bf->eY W1 k/\M k:=λk hk=>by rw[hk];exact⟨VH.out.set.blk,JE.out.1⟩
  have hS2:Safe M v.ownBlock W2 ⟨⟨eu,dN⟩,⟨eH,dL⟩,⟨fF,bY⟩⟩ s:=hS1.turn hu2 (λk hk e=>.inr (hnb k e).2) (.inl rfl);have Bf:=ah (q9.out.Bd hu2 (λk hk=>(hnb k hk).1));have Bo:=ah (VH.out.DX.Bd hu2 (λk hk=>(hnb k hk).1));have F8:=ah (VH.out.Sd.Bd hu2 (λk hk=>(hnb k hk).1));have HR2:Hid (d_ M B W2 v F):=VH.out.V8.keep hu2 (λk hk e=>(hnb k e).2) (λg hg e=>by
   obtain⟨_,_,cs,hc⟩:=VH.out.V8.own hg;obtain⟨es,c,hm⟩:=(hnb _ e).1;rw[hc]at hm;cases hm)
  have HG2:Hid (vg (Safe M v.ownBlock W2) W2 bf (F++[s])):=hs2.imp (λ_ _ h=>h.turn hu2 (λk hk e=>.inr (hnb k e).2) (.inl rfl));have HS2:=ah hS2;have vD:Hid (aG (λk=>k=bf) w W2):=((aG.of_below HB1.out).mono (λi hi hle=>by omega)).trans hu2 (λ_ _ h=>h);have hsz2:B<=W2.heap.size:=bI hB vD.out.size;have HGN:Hid (∀g,v.ownBlock=some g->g≠cq/\g≠cm):=λg hg=>by
   obtain⟨_,_,cs,hc⟩:=HR2.out.own hg;refine⟨?_,?_⟩
   .rintro rfl
    obtain⟨tl,h⟩:=F8.out;rw[hc]at h;simp at h
   .rintro rfl
    obtain⟨tl,h⟩:=Bo.out;rw[hc]at h;simp at h
  have w0:=q9.out.cell (i:=0) rfl;have w1:=q9.out.cell (i:=1) rfl;have w2:=q9.out.cell (i:=2) rfl;have w3:=q9.out.cell (i:=3) rfl;clear hS1 hS2 hs2 hu2 hnb VH q9 HB1;have x0:=Bf.out.cell (i:=0) rfl;have x1:=Bf.out.cell (i:=1) rfl;have x2:=Bf.out.cell (i:=2) rfl;have x3:=Bf.out.cell (i:=3) rfl;have q0:=F8.out.cell (i:=0) rfl;go_wp2_with (at_builtin;refine p8 rfl _ _ rfl B v F rfl HR2.out ⟨⟨eu,dN⟩,⟨eH,dL⟩,⟨fF,bY⟩⟩ s HS2.out _ rfl rfl (by omega) hsz2 ?_;intro A3 c3 W3 hq3 hu3 ho3;refine Hid.out ?_);refine ah ?_;have JA:Hid (Own W3 41 cq [v]):=F8.out.keep hu3 (λe=>(HGN.out cq e.symm).1 rfl);have Nj:Hid (Own W3 142 cm [.map (some bf)]):=Bo.out.keep hu3 (λe=>(HGN.out cm e.symm).2 rfl);have Q_:=ah ((HG2.out.keep hu3 (λe=>by
   obtain⟨_,_,cs,hc⟩:=HR2.out.own e.symm;obtain⟨es,c,hm⟩:=HG2.out.blk;rw[hc]at hm;cases hm)).imp (λ_ _ h=>h.turn hu3 (λk hk e=>.inl e) ho3))
  have HR3:=ah hq3;have yI:Hid (aG (λk=>some k=v.ownBlock\/k=bf\/k=cq) w W3):=(vD.out.mono (λi hi e=>.inr (.inl e))).trans hu3 (λi hi e=>.inl e);have HO3:Hid ((Value.slice A3 (F++[s]).length c3).ownBlock=v.ownBlock\/∀g,(Value.slice A3 (F++[s]).length c3).ownBlock=some g->w.heap.size<=g):=ho3.imp id (λh g hg=>bI vD.out.size (h g hg));rw[show(F++[s]).length=F.length+1 by simp]at Q_ HR3 HO3;have q3:=JA.out.cell (i:=0) rfl;have f3:=JA.out.frozen 0;have m3:=Nj.out.cell (i:=0) rfl;clear hq3 hu3 ho3 w0 w1 w2 w3 y0 hput x0 x1 x2 x3 q0 Bf Bo F8 HR2 HG2 HS2 vD;go_upto_region 6 with(fail)
  generalize hW4:World.setCell _ _ _=W4;have RN:aG (λk=>k=cq) W3 W4:=by rw[<-hW4];exact(aG.refl (λk=>k=cq) W3).setCell (p:=⟨cq,0,none⟩) (.inl rfl) _
  have Wy:Hid (Own W4 41 cq [Value.slice A3 (F.length+1) c3]):=by
   have h:=JA.out.set (i:=0) (by simp) (Value.slice A3 (F.length+1) c3);rw[hW4]at h;exact h
  have hcm:¬cm=cq:=by
   rintro rfl;obtain⟨tl,h1⟩:=JA.out;obtain⟨tl',h2⟩:=Nj.out;rw[h1]at h2;simp at h2
  have hgo:∀g,(Value.slice A3 (F.length+1) c3).ownBlock=some g->¬g=cq:=λg hg e=>by
   obtain⟨_,_,cs,hc⟩:=HR3.out.own hg;obtain⟨tl,h1⟩:=JA.out;rw[e,h1]at hc;simp at hc
  have hbq:¬bf=cq:=λe=>JA.out.Uf (by rw[<-e];exact Q_.out.blk);have HA4:Hid (qM M B cm cq bf W4 (Value.slice A3 (F.length+1) c3) (F++[s])):=
   ⟨Nj.out.keep RN hcm,Wy.out,(Q_.out.keep RN hbq).imp (λ_ _ h=>h.turn RN (λk hk e=>.inr (by rw[e];exact JE.out.2)) (.inl rfl)),HR3.out.keep RN (λk hk e=>by rw[e];exact JE.out.2) hgo⟩
  have ZV:Hid (aG (λk=>some k=v.ownBlock\/k=bf\/k=cq) w W4):=yI.out.trans RN (λi hi e=>.inr (.inr e));clear hW4 RN hcm hgo hbq Wy Nj Q_ HR3 JA yI q3 f3 m3;have m4:=HA4.out.DX.cell (i:=0) rfl;have hlf:∀ty,(Builtin.len_ #[142] ty #[.map (some bf)]).run prog W4= .ok (.int .i64 ((F.length+1:Nat):Int)) W4:=λty=>by
   have h:=(HA4.out.set.Ug (λ_ _ h=>h.at)).len ty;rw[mU,rP]at h;exact h
  have HDL:Hid (decide ((F.length:Int)+1<=300)=decide (F.length+1<=300)):=decide_eq_decide.2 (by omega);go_wp2;go_ret;unfold MO;rw[O7.out];refine⟨?_,_,HA4.out,ZV.out,HO3.out⟩;rw[mU,rP,<-HDL.out];first|rfl|simp
end
section
open Go.RowKit Go.Shelf Tryz
theorem Sg(C:au)(i:Nat)(a:jy)(s:ak):(C.shift i a s).day=s.day:=by
 unfold au.shift;cases (a.kind==3)<;>rfl
theorem Zl(C:au)(i:Nat)(a:jy)(s:ak):(C.act i a s).day=s.day:=by
 unfold au.act;cases ((a.kind !=1)&&(s.used.getD i false))with
 |true=>rfl
 |false=>
  cases (a.kind !=1)with
  |false=>rfl
  |true=>exact Sg C i a _
def tN(l:List Int):Nat:=l.countP (·== -1)
theorem zJ(l m:List Int):tN (l++m)=tN l+tN m:=List.countP_append
theorem Bg{l:List Int}(h:∀a∈l,a≠ -1):tN l=0:=List.countP_eq_zero.2 (λa ha=>by simpa using h a ha)
theorem K3{C:au}{s:ak}{x:Int}(hO:aV C s)(hd:s.day<C.days)(hx:x= -1\/0<=x/\x<C.acts.length):C.dP s x=0/\aV C (C.next s x)/\(C.next s x).day=s.day+(if x= -1 then 1 else 0):=by
 rcases hx with rfl|⟨h0,h1⟩
 .have q1:C.f_ s=true:=(jr C s).2 hO
  have q2:decide ((C.acts.length:Int)<= -1)=false:=by simp;omega
  have q3:(s.day==C.days)=false:=by simp;omega
  refine⟨by simp only[au.dP,q1,q2,q3];rfl,Tx hO hd,rfl⟩
 .obtain⟨n,rfl⟩:∃n:Nat,x=n:=⟨x.toNat,by omega⟩
  obtain⟨a,ha⟩:∃a,C.acts[n]?=some a:=⟨C.acts[n]'(by omega),aS _⟩;have e:C.next s n=C.act n a s:=by
   have h:((n:Int)== -1)=false:=by simp
   simp only[au.next,h,cond_false,sM,ha]
  have q1:C.f_ s=true:=(jr C s).2 hO;have q2:decide ((n:Int)< -1)=false:=by simp
  have q3:decide ((C.acts.length:Int)<=(n:Int))=false:=by simp;omega
  have q4:(s.day==C.days)=false:=by simp;omega
  refine⟨by simp only[au.dP,q1,q2,q3,q4];rfl,by rw[e];exact LV hO ha,?_⟩;rw[e,Zl,if_neg (by omega),Int.add_zero]
theorem PG{C:au}(hv:C.valid=true){l:List Int}(ha:∀x∈l,x= -1\/0<=x/\x<C.acts.length)(hd:∀k,k<l.length->(tN (l.take k):Int)<C.days):∀k,k<=l.length->aV C (C.J5 (l.take k))/\(C.J5 (l.take k)).day=tN (l.take k)
 |0,_=>⟨yj hv,rfl⟩
 |k+1,hk=>by
  obtain⟨h1,h2⟩:=PG hv ha hd k (by omega);have hx:l[k]?=some l[k]:=aS (by omega);obtain⟨_,h3,h4⟩:=K3 h1 (by rw[h2];exact hd k (by omega)) (ha _ (zZ (show k<l.length by omega)));rw[Im hx,bT hx,zJ];refine⟨h3,?_⟩;rw[h4,h2];by_cases e:l[k]= -1
  .rw[if_pos e,e];simp[tN]
  .rw[if_neg e]
   have:tN [l[k]]=0:=Bg (λa h=>by rw[eB.1 h];exact e);rw[this];simp
theorem Good.of{C:au}(hv:C.valid=true){l:List Int}(hl:l.length<=4000)(ha:∀x∈l,x= -1\/0<=x/\x<C.acts.length)(hd:∀k,k<l.length->(tN (l.take k):Int)<C.days):Good C l:=
 ⟨hv,hl,λk x hx=>by
  have hk:=(bB.1 hx).1;obtain⟨h1,h2⟩:=PG hv ha hd k (by omega);exact(K3 h1 (by rw[h2];exact hd k hk) (ha _ (cK hx))).1⟩
theorem CG{F:List ay}(h:Lv F)(hn:fJ F)(D:List Int):∀n,tN (blocks F D n)=n
 |0=>rfl
 |n+1=>by
  rw[pJ,zJ,CG h hn D n];unfold xL;rw[zJ,Bg (Gw h hn D n)];rfl
theorem Kg{F:List ay}(h:Lv F)(hn:fJ F)(D:List Int){n k:Nat}(hk:k<(blocks F D n).length):tN ((blocks F D n).take k)<n:=by
 cases n with
 |zero=>simp[blocks]at hk
 |succ n=>
  have e:blocks F D (n+1)=(blocks F D n++(nC (fU F D n)).map (jN F))++[-1]:=by rw[pJ];unfold xL;rw[zX]
  have h2:tN (blocks F D n++(nC (fU F D n)).map (jN F))=n:=by rw[zJ,CG h hn D n,Bg (Gw h hn D n)];rfl
  rw[e]at hk⊢;rw[mU,rP]at hk;rw[List.take_append_of_le_length (by omega)];have h3:tN ((blocks F D n++(nC (fU F D n)).map (jN F)).take k)<=tN (blocks F D n++(nC (fU F D n)).map (jN F)):=List.Sublist.countP_le (List.take_sublist _ _);omega
theorem abl{C:au}{f:bR}{T:List ay}{OO:List aX}(hok:gN C f=true)(h:tY f.facts f.orders T OO):∀t∈T,0<=t.act/\t.act<(C.acts.length:Int):=λt ht=>by
 have hd:=jq (nS hok);have h1:=h.tight;rw[qR hd]at h1;obtain⟨x,hx,e⟩:=h1.had ht;have h2:=sG (kV (nS hok) x hx).2;have h3:x.act=t.act:=congrArg (λz=>z.2.1) e;omega
theorem zI.good{C:au}{f:bR}{u:Int}{L:List (List Int)}(h:zI C f u L 0):∀l∈L,l.length<=4000->Good C l:=λl hl h4=>by
 obtain⟨hok,h0,h1,T,OO,hf,hm⟩:=h.mem;obtain⟨day,_,rfl⟩:=(hm l).1 hl;have hact:=Sc hok hf;have hd:=hf.distinct.aag;have h2:=tK hok;have hv:C.valid=true:=by
  unfold gN at hok;simp only[bS]at hok;exact hok.1
 have e:=Gu (F:=T) (D:=qh T day) (u:=u) (by simp[qh]) h0 (by omega) hd;rw[e]at h4⊢;refine Good.of hv h4 (λx hx=>?_) (λk hk=>?_)
 .have hb:∀n,∀x∈blocks T (qh T day) n,x= -1\/0<=x/\x<C.acts.length:=λn=>by
   induction n with
   |zero=>intro x hx;simp[blocks]at hx
   |succ n ih=>
    intro x hx;rw[pJ]at hx;rcases jU.1 hx with hx|hx
    .exact ih x hx
    .unfold xL at hx
     rcases jU.1 hx with hx|hx
     .right
      obtain⟨r,hr,rfl⟩:=cZ.1 hx;rw[rD,vN]at hr;obtain⟨i,t,ht,_,rfl⟩:=hr;rw[Da hd (cK ht)];exact abl hok hf t (cK ht)
     .left;simpa using hx
  exact hb _ x hx
 .have:=Kg hact hd (qh T day) hk
  omega
end
section
open Go.RowKit Go.Shelf Tryz
def au.zW(C:au)(l:List Int):List Int:=(C.J5 l).marks.map (λm=>vY m.status)
def K4(V r:List Int):List Int:=List.zipWith (λa b=>if a=b then a else 0) V r
def tO(n:Nat):List (List Int)->List Int
 |[]=>List.replicate n 0
 |r::rs=>rs.foldl K4 r
def Ja(i:Nat)(V r:List Int):List Int:=if i=0 then r else K4 V r
theorem Si{n:Nat}{R:List (List Int)}{i:Nat}{r:List Int}(hr:R[i]?=some r):tO n (R.take (i+1))=Ja i (tO n (R.take i)) r:=by
 cases R with
 |nil=>simp at hr
 |cons a R=>
  cases i with
  |zero=>simp at hr;subst hr;simp[tO,Ja]
  |succ i=>
   rw[List.getElem?_cons_succ]at hr;simp only[gF,tO,Ja];rw[if_neg (by omega),D_,hr,uG];rfl
theorem K5{V r:List Int}{n:Nat}(h1:V.length=n)(h2:r.length=n):(K4 V r).length=n:=by simp[K4,h1,h2]
theorem K6{n:Nat}:∀{R:List (List Int)},(∀r∈R,r.length=n)->(tO n R).length=n
 |[],_=>by simp[tO]
 |a::R,h=>by
  have:∀(R:List (List Int))(a:List Int),a.length=n->(∀r∈R,r.length=n)->(R.foldl K4 a).length=n:=λR=>by
   induction R with
   |nil=>intro a h _;exact h
   |cons b R ih=>intro a h h2;exact ih _ (K5 h (h2 b (by simp))) (λr hr=>h2 r (kG _ hr))
  exact this R a (h a (by simp)) (λr hr=>h r (kG _ hr))
def jC(C:au)(fs:List bR)(u:Int)(V:List Int)(er:Int):Prop:=
 ∃(ho:Int)(F:List ay)(O:List aX)(e1:Int),FP C fs ho F O e1/\
  ((e1≠0/\er=e1/\V=[])\/
   (e1=0/\∃(L:List (List Int))(e2:Int),zI C ⟨ho,F,O⟩ u L e2/\
    ((e2≠0/\er=e2/\V=[])\/
     (e2=0/\((V=[]/\er=3/\∃l∈L,4000<l.length)\/
      ((∀l∈L,Good C l)/\er=0/\V=tO C.clauses.length (L.map C.zW)))))))
def MP(C:au)(fs:List bR)(u:Int)(w:World)(e:Ending)(w':World):Prop:=
 ∃(A:Option Addr)(c:Nat)(V:List Int)(er:Int),e= .returned (.tuple #[.slice A V.length c,.int .i64 er])/\At w' 1 A V.length c (aZ V)/\Below w.heap.size w w'/\jC C fs u V er
theorem Jb{C:au}{f:bR}(h:gN C f=true):C.clauses.length<=400:=by
 simp only[gN,bS]at h;have h:=h.1;simp only[au.valid,au.over,bS,jk,oh,decide_eq_false_iff_not]at h;omega
theorem aeA{V N:List Int}{k:Nat}{x:Int}(hl:N.length=V.length)(hx:N[k]?=some x):(N.take k++V.drop k).set k x=N.take (k+1)++V.drop (k+1):=by
 obtain⟨hk,rfl⟩:=bB.1 hx;apply lX;intro j;rw[j_];have h1:(N.take k).length=k:=by rw[pz];omega
 have h2:(N.take (k+1)).length=k+1:=by rw[pz];omega
 rcases Nat.lt_trichotomy j k with h|h|h
 .rw[if_neg (by omega),kH (by omega),kH (by omega),lT,lT,if_pos h,if_pos (by omega)]
 .subst h
  rw[if_pos rfl,if_pos (by simp;omega),kH (by omega),lT,if_pos (by omega)];exact(aS hk).symm
 .rw[if_neg (by omega),lW (by omega),lW (by omega),h1,h2,List.getElem?_drop,List.getElem?_drop]
  congr 1;omega
theorem aeB{V N:List Int}{k:Nat}(hl:N.length=V.length)(hk:k<V.length):(N.take k++V.drop k)[k]?=V[k]?:=by
 have h1:(N.take k).length=k:=by rw[pz];omega
 rw[lW (by omega),h1,List.getElem?_drop];congr 1;omega
theorem V9{i k:Nat}{V r:List Int}{a b:Int}(hV:V[k]?=some a)(hr:r[k]?=some b):(Ja i V r)[k]?=some (if i=0 then b else if a=b then a else 0):=by
 unfold Ja;by_cases h:i=0
 .rw[if_pos h,if_pos h];exact hr
 .rw[if_neg h,if_neg h]
  unfold K4;rw[List.getElem?_zipWith,hV,hr]
theorem abm{α:Type}{l:List α}{k:Nat}{a:α}(h:l[k]?=some a):l.set k a=l:=by
 apply lX;intro j;rw[j_];by_cases hj:k=j
 .subst hj
  rw[if_pos rfl,if_pos (bB.1 h).1,h]
 .rw[if_neg hj]
attribute [local go_sem] kD stillUpon bM
theorem MQ(v:CV)(C:au)(sv:SV)(fs:List bR)(u:Int)(w:World)(hC:bO w v C)(hF:mF w sv fs)(hn:fs.length<=100)(hR:∀x∈aM fs,iK x.ref)(hL:(aM fs).length<=400)(hO:(bE fs).length<=4000)(hT:Tab w):
 Calls prog 14 #[v.val C,.slice sv.A fs.length sv.c,.int .i64 u] w (MP C fs u w):=by
 obtain⟨⟨hA,hc⟩,⟨uA,uc⟩,⟨aA,ac⟩,⟨kA,kc⟩,⟨oA,oc⟩⟩:=v;obtain⟨sA,sc⟩:=sv;have HC:=ah hC;clear hC;have HF:=ah hF;clear hF;have HT:=ah hT;clear hT;have WH:=ah hR;clear hR;have HLO:Hid ((aM fs).length<=400/\(bE fs).length<=4000):=⟨hL,hO⟩;clear hL hO;simp only[CV.val,CV.cells];go_enter func14,ntmps14;go_upto_region 1 with(fail)
 generalize hW0:World.alloc _ _=W0;obtain⟨HB0,h0⟩:=bx1 hW0;have HX0:Hid (wh W0 w.heap.size ⟨⟨hA,hc⟩,⟨uA,uc⟩,⟨aA,ac⟩,⟨kA,kc⟩,⟨oA,oc⟩⟩ C):=⟨HC.out.below HB0.out,⟨[],by rw[bU];exact h0⟩⟩;clear hW0 h0 HC;obtain⟨c0,c1,c2,c3,c4,c5,c6⟩:=HX0.out.cells;simp only at c0 c1 c2 c3 c4 c5 c6;have hj:=YO ⟨⟨hA,hc⟩,⟨uA,uc⟩,⟨aA,ac⟩,⟨kA,kc⟩,⟨oA,oc⟩⟩ C ⟨sA,sc⟩ fs W0 HX0.out.con (HF.out.below HB0.out) hn WH.out (bI HLO.out.1 (by omega)) HLO.out.2;simp only[CV.val,CV.cells]at hj;have HJ:=ah hj;clear hj;go_wp2_with (go_at_call 35;refine HJ.out.mono ?_;rintro _ W1 ⟨ho,F,O,e1,A1,d1,B1,b1,rfl,hf,_,hb,hj⟩;refine Hid.out ?_);refine ah ?_;have q9:=ah (HX0.out.below hb);have HB1:Hid (Below w.heap.size w W1):=av HB0.out hb;have HJ1:=ah hj;have Jr:=ah hf;clear hb hj hf HJ HX0 HB0 c0 c1 c2 c3 c4 c5 c6;go_upto_region 2 with(fail)
 generalize hW2:World.alloc _ _=W2;obtain⟨hb,hh⟩:=bx1' hW2;have Bf:=ah (q9.out.below hb);have YX:Hid (aew W2 W1.heap.size ⟨⟨A1,d1⟩,⟨B1,b1⟩⟩ ⟨ho,F,O⟩):=⟨Jr.out.below hb,⟨[],by rw[bU];exact hh⟩⟩;have HB2:Hid (Below w.heap.size w W2):=av HB1.out hb;clear hW2 hb hh q9 Jr HB1;generalize W1.heap.size=jb at YX⊢;by_cases he1:e1=0
 case neg=>
  have q1:(e1 !=0)=true:=by simpa using he1
  have HV:Hid (jC C fs u [] e1):=⟨ho,F,O,e1,HJ1.out,.inl ⟨he1,rfl,rfl⟩⟩;clear he1;go_wp2;refine bodyPost_ret (v:=.tuple #[.slice none 0 0,.int .i64 e1]) (by simp[results,results14,go_sem]) rfl ⟨none,0,[],e1,rfl,gD _ _,HB2.out,HV.out⟩
 case pos=>
  subst he1;have HFL:Hid (F.length<=400):=bI HJ1.out.size.1 HLO.out.1;obtain⟨c0,c1,c2,c3,c4,c5,c6⟩:=Bf.out.cells;obtain⟨p0,p1,p2⟩:=YX.out.cells;simp only at c0 c1 c2 c3 c4 c5 c6 p0 p1 p2;have hco:=Fv ⟨⟨hA,hc⟩,⟨uA,uc⟩,⟨aA,ac⟩,⟨kA,kc⟩,⟨oA,oc⟩⟩ C ⟨⟨A1,d1⟩,⟨B1,b1⟩⟩ ⟨ho,F,O⟩ u W2 Bf.out.con YX.out.file HFL.out (HT.out.below HB2.out);simp only[CV.val,CV.cells,FV.val,FV.cells]at hco;have Ui:=ah hco;clear hco;go_wp2_with (go_at_call 36;refine Ui.out.mono ?_;rintro _ W3 ⟨L,e2,A3,d3,rfl,hN,hb,hc1⟩;refine Hid.out ?_);refine ah ?_;have yR:=ah (Bf.out.below hb);have HB3:Hid (Below w.heap.size w W3):=av HB2.out hb;have HN:=ah hN;have zm:=ah hc1;clear hb hN hc1 Bf YX HB2 Ui c0 c1 c2 c3 c4 c5 c6 p0 p1 p2;by_cases he2:e2=0
  case neg=>
   have q1:(e2 !=0)=true:=by simpa using he2
   have HV:Hid (jC C fs u [] e2):=⟨ho,F,O,0,HJ1.out,.inr ⟨rfl,L,e2,zm.out,.inl ⟨he2,rfl,rfl⟩⟩⟩;clear he2;go_wp2;refine bodyPost_ret (v:=.tuple #[.slice none 0 0,.int .i64 e2]) (by simp[results,results14,go_sem]) rfl ⟨none,0,[],e2,rfl,gD _ _,HB3.out,HV.out⟩
  case pos=>
   subst he2;have hLx:L.length<=9223372036854775807:=by have:=HN.out.len;omega
   go_wp2
   go_loopg [42] L.length (λgk v42 wr=>∃(i:Nat)(z:Bl W3),gk=L.length - i/\i<=L.length/\v42= .int .i64 i/\wr=z.val/\Hid (∀l∈L.take i,l.length<=4000))
   case atStart=>exact⟨0,⟨W3,aC _ _⟩,rfl,aU _,rfl,rfl,λl hl=>by simp at hl⟩
   case round=>
    obtain⟨i,z,eO,hi,rfl,rfl,HT4⟩:=hrel;have iw:=ah eO;clear eO;by_cases hlt:i<L.length
    .have i0:(i:Int)<(L.length:Int):=by omega
     obtain⟨l,hl⟩:∃x,L[i]?=some x:=⟨_,aS hlt⟩;obtain⟨g,o,lG,hg,hcl⟩:=HN.out.form (by omega);simp only at lG;subst lG;obtain⟨t,hta,htc⟩:=hcl i l hl;have x0:=htc z.val z.prop;have hlx:=tJ hta;have HLI:=ah hl;clear hcl htc hl hta;by_cases h4:4000<l.length
     .have q1:(4000:Int)<(l.length:Int):=by omega
      have HV:Hid (jC C fs u [] 3):=⟨ho,F,O,0,HJ1.out,.inr ⟨rfl,L,0,zm.out,.inr ⟨rfl,.inl ⟨rfl,rfl,l,cK HLI.out,h4⟩⟩⟩⟩;have J7:Hid (Below w.heap.size w z.val):=av HB3.out z.prop;go_wp2;refine bodyPost_ret (v:=.tuple #[.slice none 0 0,.int .i64 3]) (by simp[results,results14,go_sem]) rfl ⟨none,0,[],3,rfl,gD _ _,J7.out,HV.out⟩
     .have q1:¬(4000:Int)<(l.length:Int):=by omega
      have HTN:Hid (∀l∈L.take (i+1),l.length<=4000):=λm hm=>by
       rw[bT HLI.out]at hm;rcases jU.1 hm with h|h
       .exact HT4.out m h
       .rw[eB.1 h];omega
      go_wp2
      go_roundg (L.length - (i+1))
      case measure=>rw[iw.out];omega
      case rel=>exact⟨i+1,z,rfl,by omega,by go_num,rfl,HTN⟩
    .obtain rfl:i=L.length:=by omega
     have HGD:Hid (∀l∈L,Good C l):=λl hl=>zm.out.good l hl (by have h:=HT4.out;rw[iG]at h;exact h l hl);have H40:Hid (∀l∈L,l.length<=4000):=by have h:=HT4.out;rw[iG]at h;exact h
     have hcl:C.clauses.length<=400:=Jb zm.out.mem.1;have Zm:=ah (yR.out.below z.prop);have HZ4:=ah z.prop;clear HT4 iw hlt hi;generalize z.val=W4 at Zm HZ4⊢;clear z;obtain⟨ii,hii,hiz,his,hib⟩:=info_parts' (P:=prog) (t:=3) (z:=some (.int .i64 0)) (s:=1) (b:=8) (by kernel_rfl);have hmk:=run_makeSlice (P:=prog) (w:=W4) 22 3 ii _ underlying22 hii hiz .i64 .i64 (C.clauses.length:Int) (C.clauses.length:Int) (by omega) (by omega) (by rw[his];simp;omega) (by rw[hib];omega) (by omega);simp only[sM,his]at hmk;have c4:=Zm.out.Fw.cell (i:=4) rfl;simp only at c4;go_upto_region 14 with(fail)
     obtain⟨vb,hvb⟩:∃b,b=W4.heap.size:=⟨_,rfl⟩;rw[<-hvb];generalize Js:World.alloc _ _=W5;obtain⟨hb5,hh5⟩:=bx1' Js;have HV5:Hid (Own W5 3 vb (aZ (List.replicate C.clauses.length 0))):=by
      refine⟨[],?_⟩;rw[bU,I7,Array.toArray_toList,hvb];exact hh5
     have HX5:=ah (Zm.out.below hb5);have HZ5:Hid (Below W3.heap.size W3 W5):=av HZ4.out hb5;have HVB:Hid (W3.heap.size<=vb):=by show _<=_;rw[hvb];exact HZ4.out.size
     clear Js hh5 hb5 hmk c4 hvb Zm HZ4 hii hiz his hib ii;have HCX:Hid (∀z:World,Below W3.heap.size W3 z->wh z w.heap.size ⟨⟨hA,hc⟩,⟨uA,uc⟩,⟨aA,ac⟩,⟨kA,kc⟩,⟨oA,oc⟩⟩ C):=λz hz=>yR.out.below hz;obtain⟨E,HE⟩:∃E,Hid (tO C.clauses.length (L.map C.zW)=E):=⟨_,rfl⟩;have FM:Hid (∀r∈L.map C.zW,r.length=C.clauses.length):=λr hr=>by
      obtain⟨l,hl,rfl⟩:=cZ.1 hr;have hg:=HGD.out l hl;have h:=hg.ok l.length (bJ _);rw[iG]at h;unfold au.zW;rw[dU];exact h.lm
     go_wp2
     go_loopg [56] L.length (λgk v56 wr=>∃(i:Nat),gk=L.length - i/\i<=L.length/\v56= .int .i64 i/\Hid (Below W3.heap.size W3 wr)/\Hid (Own wr 3 vb (aZ (tO C.clauses.length ((L.map C.zW).take i)))))
     case atStart=>exact⟨0,rfl,aU _,rfl,HZ5,HV5⟩
     case round=>
      obtain⟨i,eO,hi,rfl,HZ,HV⟩:=hrel;have iw:=ah eO;clear eO;by_cases hlt:i<L.length
      .have i0:(i:Int)<(L.length:Int):=by omega
       obtain⟨l,hl⟩:∃x,L[i]?=some x:=⟨_,aS hlt⟩;obtain⟨g,o,lG,hg,hcl'⟩:=HN.out.form (by omega);simp only at lG;subst lG;obtain⟨t,hta,htc⟩:=hcl' i l hl;have x0:=htc wr HZ.out;have hlx:=tJ hta;have Vp:=ah (HGD.out l (cK hl));have aqA:=H40.out l (cK hl);have HRI:Hid ((L.map C.zW)[i]?=some (C.zW l)):=by show _=_;rw[gK,hl];rfl
       obtain⟨c0,c1,c2,c3,c4,c5,c6⟩:=(HCX.out wr HZ.out).cells;simp only at c0 c1 c2 c3 c4 c5 c6;have hru:=aaX ⟨⟨hA,hc⟩,⟨uA,uc⟩,⟨aA,ac⟩,⟨kA,kc⟩,⟨oA,oc⟩⟩ C t l wr (HCX.out wr HZ.out).con (hta.below (by omega) HZ.out);simp only[CV.val,CV.cells]at hru;have HRU:=ah hru;clear hcl' htc hta hl hru;go_wp2_with (go_at_call 15;refine HRU.out.mono ?_;rintro _ W6 ⟨A6,d6,R,er6,rfl,hb,hrun⟩;refine Hid.out ?_);refine ah ?_;rcases hrun with⟨rfl,_,rfl,hst⟩|⟨_,hng,_⟩
       case inr=>exact absurd Vp.out hng
       have HST:=ah hst;have HZ6:Hid (Below W3.heap.size W3 W6):=av HZ.out hb;have TW:=ah (HV.out.below hb);have zN:Hid (vb<wr.heap.size):=HV.out.lt;have htl:=KR C l l.length;have hgo:=Vp.out.ok l.length (bJ _);rw[iG]at hgo;obtain⟨rb,ro,hR0,hrb,hrs⟩:=hst.form (by omega);simp only at hR0;subst hR0;obtain⟨⟨⟨Xg,Xh⟩,⟨Xi,Xj⟩,⟨smA,Wz⟩⟩,⟨hs,hnew⟩,hsc⟩:=hrs l.length (C.J5 l) (by rw[Vo (bJ _),iG]);have s3:W6.cell? ⟨rb,ro+l.length*4+3,none⟩=some (.slice smA (C.J5 l).marks.length Wz):=hsc W6 (aC _ _) 3 (by omega);obtain⟨ms,hms⟩:∃ms,ms=(C.J5 l).marks:=⟨_,rfl⟩;have hml:ms.length=C.clauses.length:=by rw[hms];exact hgo.lm
       have HRW:Hid (C.zW l=ms.map (λm=>vY m.status)):=by show _=_;rw[hms];rfl
       have Au:Hid (∀(k:Nat)(m:aD),ms[k]?=some m->∃mb mo,smA=some ⟨mb,mo,none⟩/\mb<W6.heap.size/\¬mb=vb/\∀j,j<5->W6.cell? ⟨mb,mo+k*5+j,none⟩=m.cells[j]?):=λk m hm=>by
        rw[hms]at hm;obtain⟨mb,mo,h1,h2,h3⟩:=hs.mark hm;have h4:=hnew.2.2 mb mo h1;exact⟨mb,mo,h1,h2,by have:=zN.out;omega,h3 k m hm W6 (aC _ _)⟩
       rw[<-hms]at s3;have htx:(C.trail l l.length).length<=9223372036854775807:=by omega
       have hi1:((C.trail l l.length).length:Int) - 1=(l.length:Int):=by omega
       have hi2:(l.length:Int)<((C.trail l l.length).length:Int):=by omega
       have hmx:ms.length<=9223372036854775807:=by omega
       obtain⟨V,HVd⟩:∃V,Hid (V=tO C.clauses.length ((L.map C.zW).take i)):=⟨_,rfl⟩;rw[<-HVd.out]at TW;have ZW:Hid (V.length=C.clauses.length):=by show _=_;rw[HVd.out];exact K6 (λr hr=>FM.out r (List.mem_of_mem_take hr))
       obtain⟨N,HNd⟩:∃N,Hid (N=Ja i V (C.zW l)):=⟨_,rfl⟩;have HNS:Hid (tO C.clauses.length ((L.map C.zW).take (i+1))=N):=by show _=_;rw[Si HRI.out,HNd.out,HVd.out]
       have E8:Hid (N.length=V.length):=by
        show _=_;have h:=FM.out (C.zW l) (cK HRI.out);rw[HNd.out];unfold Ja;by_cases h0:i=0
        .rw[if_pos h0,h,ZW.out]
        .rw[if_neg h0,K5 ZW.out h,ZW.out]
       have HN0:Hid (Own W6 3 vb (aZ (N.take 0++V.drop 0))):=by rw[bW,pE,b_];exact TW.out
       clear hst hb HRU HZ HV TW c0 c1 c2 c3 c4 c5 c6 x0 hrs hs hnew hsc hms htl hgo;go_wp2
       go_loopg [78] C.clauses.length (λgk v78 wr=>∃(k:Nat),gk=C.clauses.length - k/\k<=C.clauses.length/\v78= .int .i64 k/\Hid (aG (λb=>b=vb) W6 wr)/\Hid (Own wr 3 vb (aZ (N.take k++V.drop k))))
       case atStart=>exact⟨0,rfl,aU _,rfl,aG.refl _ _,HN0⟩
       case round=>
        obtain⟨k,eO,hk,rfl,HU,HW⟩:=hrel;have Yf:=ah eO;clear eO HN0;by_cases hkl:k<C.clauses.length
        .have k0:(k:Int)<(ms.length:Int):=by omega
         obtain⟨⟨mst,mle,mgo,mbe,mpa⟩,hm⟩:∃m,ms[k]?=some m:=⟨ms[k]'(by omega),aS _⟩;obtain⟨mb,mo,hMA,hmb,hmv,hmc⟩:=Au.out k _ hm;subst hMA;have hx:∀j,j<5->wr.cell? ⟨mb,mo+k*5+j,none⟩=(aD.cells ⟨mst,mle,mgo,mbe,mpa⟩)[j]?:=λj hj=>(bQ HU.out hmb hmv).trans (hmc j hj);have x0:=hx 0 (by omega);have x1:=hx 1 (by omega);have x2:=hx 2 (by omega);have x3:=hx 3 (by omega);have x4:=hx 4 (by omega);simp only[aD.cells,kP,Bu,List.getElem?_cons_succ]at x0 x1 x2 x3 x4;obtain⟨a,ha⟩:∃a,V[k]?=some a:=⟨V[k]'(by rw[ZW.out];omega),aS _⟩;have HRK:Hid ((C.zW l)[k]?=some (vY mst)):=by show _=_;rw[HRW.out,gK,hm];rfl
         have HNK:Hid (N[k]?=some (if i=0 then vY mst else if a=vY mst then a else 0)):=by show _=_;rw[HNd.out];exact V9 ha HRK.out
         have HVK:Hid ((N.take k++V.drop k)[k]?=some a):=(aeB E8.out (by rw[ZW.out];omega)).trans ha;have YW:Hid (∀x,N[k]?=some x->(N.take k++V.drop k).set k x=N.take (k+1)++V.drop (k+1)):=λx hx=>aeA E8.out hx;have hkv:(k:Int)<(C.clauses.length:Int):=by omega
         clear hx hmc hm ha;go_upto_region 23 with(fail)
         generalize hWa:World.alloc _ _=Wa;obtain⟨hba,hxa⟩:=bx1' hWa;have d0:Wa.cell? ⟨wr.heap.size,0,none⟩=some (.int .i64 mst):=(aK Wa _ 0 _ _ _ hxa).trans rfl;have Ht:Hid (aG (λb=>b=vb) W6 Wa):=l8 HU.out hba;have ow:=ah (HW.out.below hba);have Ql:=ah (λW:World=>MJ mst W);clear hWa hba hxa HU HW x0 x1 x2 x3 x4;go_wp2_with (go_at_call 37;refine(Ql.out _).mono ?_;rintro e z ⟨rfl,hz⟩;refine Hid.out ?_);refine ah ?_;have Me:Hid (aG (λb=>b=vb) W6 z):=l8 Ht.out hz;have HWz:=ah (ow.out.below hz);have y0:z.cell? ⟨vb,k,none⟩=some (.int .i64 a):=HWz.out.cell (ig HVK.out);have y1:=HWz.out.frozen k;have ah3:Hid (∀x,N[k]?=some x->Own (z.setCell ⟨vb,k,none⟩ (.int .i64 x)) 3 vb (aZ (N.take (k+1)++V.drop (k+1)))):=λx hx=>by
          have h:=HWz.out.set (i:=k) (by rw[O_];exact(bB.1 HVK.out).1) (.int .i64 x);rw[ints_set,YW.out x hx]at h;exact h
         have HUS:Hid (∀x,aG (λb=>b=vb) W6 (z.setCell ⟨vb,k,none⟩ x)):=λx=>Me.out.setCell (p:=⟨vb,k,none⟩) (.inl rfl) x;generalize vY mst=mt at HNK⊢;clear hz Ht ow Ql d0 HRK;by_cases h0:i=0
         .have q0:((i:Int)==0)=true:=by simp[h0]
          have vC:=HNK.out;rw[if_pos h0]at vC;have HW2:=ah (ah3.out _ vC);have vD:=ah (HUS.out (.int .i64 mt));clear h0 vC;go_wp2
          go_roundg (C.clauses.length - (k+1))
          case measure=>rw[Yf.out];omega
          case rel=>exact⟨k+1,rfl,by omega,by go_num,vD,HW2⟩
         .have q0:((i:Int)==0)=false:=by simp[h0]
          have vC:=HNK.out;rw[if_neg h0]at vC;by_cases hat:a=mt
          .rw[if_pos hat]at vC
           have q1:(a !=mt)=false:=by simp[hat]
           have HW2:Hid (Own z 3 vb (aZ (N.take (k+1)++V.drop (k+1)))):=by
            rw[<-YW.out a vC,abm HVK.out];exact HWz
           clear h0 vC hat;go_wp2
           go_roundg (C.clauses.length - (k+1))
           case measure=>rw[Yf.out];omega
           case rel=>exact⟨k+1,rfl,by omega,by go_num,Me,HW2⟩
          .rw[if_neg hat]at vC
           have q1:(a !=mt)=true:=by simp[hat]
           have HW2:=ah (ah3.out _ vC);have vD:=ah (HUS.out (.int .i64 0));clear h0 vC hat;go_wp2
           go_roundg (C.clauses.length - (k+1))
           case measure=>rw[Yf.out];omega
           case rel=>exact⟨k+1,rfl,by omega,by go_num,vD,HW2⟩
        .obtain rfl:k=C.clauses.length:=by omega
         have HWN:Hid (Own wr 3 vb (aZ (tO C.clauses.length ((L.map C.zW).take (i+1))))):=by
          have h:=HW.out;rw[zY (by rw[E8.out,ZW.out];exact bJ _),List.drop_eq_nil_of_le (by rw[ZW.out];exact bJ _),bU]at h;rw[HNS.out];exact h
         have Nl:Hid (Below W3.heap.size W3 wr):=HZ6.out.trans (HU.out.below HZ6.out.size (λb hb=>by have:=HVB.out;omega));go_wp2
         go_roundg (L.length - (i+1))
         case measure=>rw[iw.out];omega
         case rel=>exact⟨i+1,rfl,by omega,by go_num,Nl,HWN⟩
      .obtain rfl:i=L.length:=by omega
       have hE:tO C.clauses.length ((L.map C.zW).take L.length)=E:=by rw[zY (by simp)];exact HE.out
       rw[hE]at HV;have ZW:Hid (E.length=C.clauses.length):=by show _=_;rw[<-HE.out];exact K6 FM.out
       have J8:Hid (jC C fs u E 0):=⟨ho,F,O,0,HJ1.out,.inr ⟨rfl,L,0,zm.out,.inr ⟨rfl,.inr ⟨HGD.out,rfl,HE.out.symm⟩⟩⟩⟩;have HAT:Hid (At wr 1 (some ⟨vb,0,none⟩) E.length C.clauses.length (aZ E)):=HV.out.C8 (n:=E.length) (by simp[aZ]) (DL E) (by rw[ZW.out];exact bJ _) (by unfold maxLen;omega);have yL:Hid (Below w.heap.size w wr):=av HB3.out HZ.out;clear hE;go_wp2;refine bodyPost_ret (v:=.tuple #[.slice (some ⟨vb,0,none⟩) C.clauses.length C.clauses.length,.int .i64 0]) (by simp[results,results14,go_sem]) rfl ⟨some ⟨vb,0,none⟩,C.clauses.length,E,0,by rw[ZW.out],HAT.out,yL.out,J8.out⟩
end
open Go.RowKit Go.Shelf Tryz
theorem Zn(v:CV)(C:au)(w:World)(hC:bO w v C):Calls prog 30 #[v.val C] w (Y_ w):=by
 obtain⟨⟨dV,dW⟩,⟨dX,dY⟩,⟨fB,dH⟩,⟨eZ,dM⟩,⟨dQ,dR⟩⟩:=v;have hx1:C.aj.length<=9223372036854775807:=nZ hC.aj;have hx2:C.units.length<=9223372036854775807:=nZ hC.units;have hx3:C.acts.length<=9223372036854775807:=nZ hC.acts;have hx6:C.off.length<=9223372036854775807:=nZ hC.off;have hx4:C.clauses.length<=9223372036854775807:=by
  obtain⟨ss,g1,g2,g3⟩:=hC.clauses;have h1:=g2.2.2.1;have h2:=g2.2.2.2;unfold maxLen at h2;omega
 have HC:=ah hC;clear hC;simp only[CV.val,CV.cells];go_enter func30,ntmps30;go_upto_region 1 with(fail)
 generalize hW0:World.alloc _ _=W0;obtain⟨HB,hh0⟩:=Go.Proofs.YtpmdedcnbockhaaGreatDoor.bx1 hW0;clear hW0;obtain⟨iC,iD,iI,iy,iP,jc,jA⟩:=CS hh0;clear hh0;change Code.wp _ _ _ _ (Bl.val (⟨W0,aC _ _⟩:Bl W0));generalize(⟨W0,aC _ _⟩:Bl W0)=s0;have HS:Hid (∀z:Bl W0,Calls prog 55 #[.agg #[.int .i64 C.aF,.slice dV C.aj.length dW,.slice dX C.units.length dY,.slice fB C.acts.length dH,.slice eZ C.clauses.length dM,.int .i64 C.days,.slice dQ C.off.length dR],.int .i64 6] z.val (Y_ z.val)):=λz=>VR (⟨⟨dV,dW⟩,⟨dX,dY⟩,⟨fB,dH⟩,⟨eZ,dM⟩,⟨dQ,dR⟩⟩:CV) C 6 z.val (HC.out.below (av HB.out z.prop));go_wp2_with (go_at_call 55;refine(HS.out _).mono ?_;rintro e z ⟨x,rfl,hz⟩;obtain⟨z,rfl⟩:=Bl.on hz;clear hz;refine Hid.out ?_);refine ah ?_;cases x with
 |false=>
  go_wp2;go_ret;exact⟨_,rfl,av HB.out (Bl.prop _)⟩
 |true=>
  cases q1:decide ((C.acts.length:Int)<=8)with
  |false=>
   go_wp2;go_ret;exact⟨_,rfl,av HB.out (Bl.prop _)⟩
  |true=>
   go_wp2;go_ret;exact⟨_,rfl,av HB.out (Bl.prop _)⟩
def OkB(p l:Nat)(w:World)(e:Ending)(w':World):Prop:=∃x:Bool,e= .returned (.bool x)/\(x=true->p<=14/\l<=30)/\Below w.heap.size w w'
theorem aeD(v:CV)(C:au)(pA:Option Addr)(p pc:Nat)(lA:Option Addr)(l lc:Nat)(w:World)(hC:bO w v C)(hp:p<=9223372036854775807)(hl:l<=9223372036854775807):Calls prog 10 #[v.val C,.slice pA p pc,.slice lA l lc] w (OkB p l w):=by
 obtain⟨⟨hA,hc⟩,⟨uA,uc⟩,⟨aA,ac⟩,⟨kA,kc⟩,⟨oA,oc⟩⟩:=v;have HC:=ah hC;clear hC;simp only[CV.val,CV.cells];go_enter func10,ntmps10;go_upto_region 1 with(fail)
 generalize hW0:World.alloc _ _=W0;obtain⟨HB0,h0⟩:=bx1 hW0;have HX0:Hid (wh W0 w.heap.size ⟨⟨hA,hc⟩,⟨uA,uc⟩,⟨aA,ac⟩,⟨kA,kc⟩,⟨oA,oc⟩⟩ C):=⟨HC.out.below HB0.out,⟨[],by rw[bU];exact h0⟩⟩;clear hW0 h0 HC;obtain⟨c0,c1,c2,c3,c4,c5,c6⟩:=HX0.out.cells;simp only at c0 c1 c2 c3 c4 c5 c6;have ht:=Zn ⟨⟨hA,hc⟩,⟨uA,uc⟩,⟨aA,ac⟩,⟨kA,kc⟩,⟨oA,oc⟩⟩ C W0 HX0.out.con;simp only[CV.val,CV.cells]at ht;have TJ:=ah ht;clear ht;go_wp2_with (go_at_call 30;refine TJ.out.mono ?_;rintro _ W1 ⟨x,rfl,hb⟩;refine Hid.out ?_);refine ah ?_;have HB1:Hid (Below w.heap.size w W1):=av HB0.out hb;clear hb TJ HX0 HB0 c0 c1 c2 c3 c4 c5 c6;cases x with
 |false=>
  go_wp2;go_ret;exact⟨_,rfl,(λh=>by cases h),HB1.out⟩
 |true=>
  by_cases q1:p<=14
  .have r1:(p:Int)<=14:=by omega
   by_cases q2:l<=30
   .have r2:(l:Int)<=30:=by omega
    go_wp2;go_ret;exact⟨_,rfl,λ_=>⟨q1,q2⟩,HB1.out⟩
   .have r2:¬(l:Int)<=30:=by omega
    clear q2;go_wp2;go_ret;exact⟨_,rfl,(λh=>by cases h),HB1.out⟩
  .have r1:¬(p:Int)<=14:=by omega
   clear q1;go_wp2;go_ret;exact⟨_,rfl,(λh=>by cases h),HB1.out⟩
end Go.Proofs.YtpmdedcnbockhaaGreatDoor
