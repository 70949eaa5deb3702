/-
  CsW; CsX; CsJ; CsI; CsY
-/
import Derived.Test.YtpmdedcnbockhaaGreatDoorP22
set_option maxRecDepth 100000
set_option maxHeartbeats 8000000
namespace Go.Proofs
open Go.Shelf Go.RowKit Go.Lib Go.Sort
end Go.Proofs
namespace Go.Proofs.YtpmdedcnbockhaaGreatDoor
section
open Go.RowKit Go.Sort Go.Shelf
theorem NR(x:Int)(w:World):Calls Tryz.prog 92 #[.int .i64 x] w (λe w'=>e= .returned (.bool false)/\w'=w):=by
 have h:(x !=x)=false:=by simp
 go_enter Tryz.func92,Tryz.ntmps92;go_wp2;go_ret;exact⟨by first|rfl|simp,rfl⟩
theorem G6(x y:Int)(w:World):Calls Tryz.prog 60 #[.int .i64 x,.int .i64 y] w (λe w'=>e= .returned (.int .i64 (kN x y))/\w'=w):=by
 generalize hE:kN x y=E;simp only[kN]at hE;repeat' (first|(replace hE:=uh hE (by assumption))|(replace hE:=uj hE (by assumption))|(replace hE:=l7 hE;rcases hE with⟨q,q',hE⟩|⟨q,q',hE⟩)|(replace hE:=jo hE;rcases hE with⟨q,hE⟩|⟨q,hE⟩)|fail)
 all_goals
  subst hE;go_enter Tryz.func60,Tryz.ntmps60;go_wp2_with (go_at_call 92;refine(NR _ _).mono ?_;rintro e z ⟨rfl,rfl⟩;refine Hid.out ?_);refine ah ?_;go_wp2_with (go_at_call 92;refine(NR _ _).mono ?_;rintro e z ⟨rfl,rfl⟩;refine Hid.out ?_);refine ah ?_;go_wp2;go_ret;exact⟨rfl,rfl⟩
theorem acn(g:Nat)(x y:Int)(w:World)(h0:w.cell? ⟨g,0,none⟩=some (.int .i64 x))(h1:w.cell? ⟨g,1,none⟩=some (.int .i64 y)):Calls Tryz.prog 61 #[.slice (some ⟨g,0,none⟩) 2 2] w (λe w'=>e= .returned (.int .i64 (cond (x==0) y x))/\w'=w):=by
 generalize hE:cond (x==0) y x=E;cases q:(x==0)with
 |false=>
  have q':(x !=0)=true:=by simp[bne,q]
  rw[q,cond_false]at hE;subst hE;go_enter Tryz.func61,Tryz.ntmps61;go_wp2
  go_loopg [8] 0 (λgk v8 wr=>v8= .int .i64 0/\w=wr)
  case atStart=>exact⟨rfl,rfl⟩
  case round=>
   obtain⟨rfl,rfl⟩:=hrel;go_wp2;go_ret;exact⟨rfl,rfl⟩
 |true=>
  have q':(x !=0)=false:=by simp[bne,q]
  rw[q,cond_true]at hE;subst hE;go_enter Tryz.func61,Tryz.ntmps61;go_wp2
  go_loopg [8] 2 (λgk v8 wr=>∃j:Nat,gk=2 - j/\j<=2/\v8= .int .i64 j/\w=wr/\(j=2->y=0))
  case atStart=>exact⟨0,rfl,by omega,rfl,rfl,λh=>by omega⟩
  case round=>
   obtain⟨j,eH,hj,rfl,rfl,hy⟩:=hrel;have iB:=ah eH;clear eH;rcases(by omega:j=0\/j=1\/j=2)with rfl|rfl|rfl
   .clear hy
    go_wp2
    go_roundg 1
    case measure=>have:=iB.out;omega
    case rel=>exact⟨1,by omega,by omega,by go_num,rfl,λh=>by omega⟩
   .clear hy
    cases p:(y==0)with
    |false=>
     have p':(y !=0)=true:=by simp[bne,p]
     go_wp2;go_ret;exact⟨rfl,rfl⟩
    |true=>
     have p':(y !=0)=false:=by simp[bne,p]
     have hy0:y=0:=by simpa using p
     have HY:=ah hy0;clear hy0;go_wp2
     go_roundg 0
     case measure=>have:=iB.out;omega
     case rel=>exact⟨2,by omega,by omega,by go_num,rfl,λ_=>HY.out⟩
   .have hy0:=hy rfl
    clear hy;subst hy0;go_wp2;go_ret;exact⟨rfl,rfl⟩
theorem QF(a b:aX)(w:World):Calls Tryz.prog 97 #[.agg #[.int .i64 a.ref,.int .i64 a.next],.agg #[.int .i64 b.ref,.int .i64 b.next]] w (λe w'=>e= .returned (.int .i64 (Ch a b))/\∃q os',w'=grow (w.drewN q) os'):=by
 obtain⟨ar,an⟩:=a;obtain⟨br,bn⟩:=b;simp only[Ch];have HO:=ah (λz:World=>acn z.heap.size (kN ar br) (kN an bn) (z.alloc (.cells #[.int .i64 (kN ar br),.int .i64 (kN an bn)] 3)) ((aG _ _ 0 _ _ _ (bC z _)).trans rfl) ((aG _ _ 1 _ _ _ (bC z _)).trans rfl));have zK:=ah (λW:World=>G6 ar br W);have KH:=ah (λW:World=>G6 an bn W);generalize hx:kN ar br=x at HO zK⊢;generalize hy:kN an bn=y at HO KH⊢;generalize hE:cond (x==0) y x=E at HO⊢;clear hx hy hE;go_enter Tryz.func97,Tryz.ntmps97;go_upto_region 1 with(fail)
 have HG:Hid (∃os,((w.alloc (.cells #[.int .i64 ar,.int .i64 an] 78)).alloc (.cells #[.int .i64 br,.int .i64 bn] 78))=grow w os):=⟨_,by rw[alloc_eq_grow,alloc_eq_grow,grow_grow]⟩;generalize hW0:World.alloc _ _=W0 at HG;obtain⟨HB,hh0,g_⟩:=IQ hW0;clear hW0 HB;have jA:W0.cell? ⟨w.heap.size,0,none⟩=some (.int .i64 ar):=(aG W0 _ 0 _ _ _ hh0).trans rfl;have jB:W0.cell? ⟨w.heap.size,1,none⟩=some (.int .i64 an):=(aG W0 _ 1 _ _ _ hh0).trans rfl;have o_:W0.cell? ⟨w.heap.size+1,0,none⟩=some (.int .i64 br):=(aG W0 _ 0 _ _ _ g_).trans rfl;have qy:W0.cell? ⟨w.heap.size+1,1,none⟩=some (.int .i64 bn):=(aG W0 _ 1 _ _ _ g_).trans rfl;clear hh0 g_;refine iH 10 (by simp) (by kernel_rfl) (by kernel_rfl) ?_;simp only[List.take_succ_cons,List.take_zero,List.drop_succ_cons,List.drop_zero];repeat(go_big_quiet_step (first|(go_at_call_of 60 (Value.int IntKind.i64 ar);refine(zK.out _).mono ?_;rintro e z ⟨h1,h2⟩;exact⟨h1,_,h2⟩)|(go_at_call_of 60 (Value.int IntKind.i64 an);refine(KH.out _).mono ?_;rintro e z ⟨h1,h2⟩;exact⟨h1,_,h2⟩)))
 refine aS ?_;rintro _ ⟨mq,rfl⟩;gi_wp2_with (fail);refine⟨trivial,rfl,(bQ.2 (HO.out _)).mono ?_⟩;rintro e z ⟨rfl,rfl⟩;gi_wp2;go_wp2;go_ret;obtain⟨os,hos⟩:=HG.out;exact⟨rfl,mq,_,by rw[alloc_eq_grow,hos,show(grow w os).drewN mq=grow (w.drewN mq) os from rfl,grow_grow]⟩
instance:Inhabited aX:=⟨⟨0,0⟩⟩
theorem yK(a b:aX):ltOf Ch a b=decide (EO a b):=by
 unfold ltOf Ch kN EO;by_cases h1:a.ref<b.ref
 .simp[h1]
 .by_cases h2:b.ref<a.ref
  .have h3:¬a.ref=b.ref:=by omega
   simp[h1,h2,h3]
  .have h3:a.ref=b.ref:=by omega
   by_cases h4:a.next<b.next
   .simp[h3,h4]
   .by_cases h5:b.next<a.next<;>simp[h3,h4,h5]
theorem ai4:SWO (ltOf Ch) where
 irrefl x:=by rw[yK];simp[EP]
 trans x y z h1 h2:=by rw[yK,decide_eq_true_eq]at*;exact JF _ _ _ h1 h2
 ntrans x y z h1 h2:=by rw[yK,decide_eq_false_iff_not]at*;unfold EO at*;omega
theorem G7(T:List aX):(flatK aX.cells 2 T.toArray).toList=eB T:=by
 apply List.ext_getElem?;intro j;rcases Nat.lt_or_ge j (T.length*2)with hj|hj
 .have hq:j/2<T.length:=by omega
  have h1:=bG aX.cells 2 (λ_=>rfl) T (j/2) (j % 2) _ (List.getElem?_eq_getElem hq) (by omega);rw[show j/2*2+j % 2=j by omega]at h1;show _=(T.flatMap aX.cells)[j]?;rw[h1];unfold flatK;simp only[Array.toList_map,Array.toList_range,List.size_toArray,List.getElem?_map,List.getElem?_range hj,Option.map_some];have h2:T.toArray[j/2]! =T[j/2]:=by simp[hq]
  rw[h2];rcases Nat.mod_two_eq_zero_or_one j with h3|h3<;>rw[h3]<;>rfl
 .rw[List.getElem?_eq_none (by rw[Array.length_toList,size_flatK];simpa using hj),List.getElem?_eq_none (by rw[qJ];exact hj)]
theorem Ll{Bm mb nn:Nat}{D0:DataW Value}(w:World)(hm:w.cell? ⟨Bm,0,none⟩=some (.map (some mb)))(hown:w.ownsMap Tryz.prog 78 RM mb nn D0)(hsz:Maps.size D0<=1000000):
 Calls Tryz.prog 137 #[.func (.func 139) #[] #[.pointer (some ⟨Bm,0,none⟩)]] w (λe w'=>∃(T:List aX)(A:Option Addr)(c:Nat),e= .returned (.slice A T.length c)/\w'.ownsRow w.heap.size 78 2 (.slice A T.length c) T.length (eB T)/\Below w.heap.size w w'/\T.length<=Maps.size D0/\T.Nodup/\(∀x∈T,F7 x)/\∀x,F7 x->(x∈T↔Maps.has D0 (oK x)=true)):=by
 have HA:=ah (G5 w hm hown hsz);go_enter Tryz.func137,Tryz.ntmps137;go_wp2_with (go_at_call 161;refine HA.out.mono ?_;rintro e z ⟨T,v,rfl,h1,h2,h0,h3,h4,h5⟩;obtain⟨A,c,rfl⟩:=ownsRow_form h1;refine Hid.out ?_);refine ah ?_;have H0:=ah h0;clear h0;have H1:=ah h1;clear h1;have H2:=ah h2;clear h2;have H3:=ah h3;clear h3;have H4:=ah h4;clear h4;have H5:=ah h5;clear h5;go_wp2;go_ret;exact⟨T,A,c,rfl,H1.out,H2.out,H0.out,H3.out,H4.out,H5.out⟩
theorem QG{w:World}{g cap n:Nat}{cur:Array Value}{t:TypeId}{size:Nat}{cs:List Value}(hg:w.heap[g]?=some (.cells cur t (0,0)))(hl:cs.length=n*size)(h1:∀u∈cs,u.oneCell'=true)(hc:∀j,j<cs.length->cur[j]?=cs[j]?)(hn:n<=cap)(hm:cap<=maxLen):At w size (some ⟨g,0,none⟩) n cap cs:=
 ⟨⟨hl,h1,λ_=>⟨_,rfl,λj u hj=>by rw[Addr.add_lit,Nat.zero_add,aG w g j _ _ _ hg,hc j (List.getElem?_eq_some_iff.1 hj).1,hj]⟩⟩,λe=>(by cases e),hn,hm⟩
theorem Jm(T:List aX)(A:Option Addr)(c B:Nat)(w:World)(hown:w.ownsRow B 78 2 (.slice A T.length c) T.length (eB T))(hT:T.length<=1000000)(hnd:T.Nodup):
 Calls Tryz.prog 138 #[.slice A T.length c,.func (.func 97) #[] #[]] w (λe w'=>e= .returned (.tuple #[])/\∃T':List aX,T'.length=T.length/\T'.Perm T/\T'.Pairwise EO/\At w' 2 A T'.length c (eB T')/\(∀b off,A=some ⟨b,off,none⟩->B<=b)/\aH (λk=>B<=k) w w'):=by
 obtain⟨A',c',e',hAt,hB⟩:=xO hown (Bv T);obtain⟨rfl,rfl⟩:A=A'/\c=c':=by
  simp only[Value.slice.injEq]at e';exact⟨e'.1,e'.2.2⟩
 rcases hown.2 with⟨e,h0⟩|⟨g,cap,cur,e,hgB,hg,h1,h2,h3,h4⟩
 .obtain⟨rfl,rfl⟩:A=none/\c=0:=by
   simp only[Value.slice.injEq]at e;exact⟨e.1,e.2.2⟩
  have hT0:T=[]:=List.eq_nil_of_length_eq_zero h0;subst hT0;have h:=AnyF.slices_SortFunc_none Tryz.sortFuncB none 0 (.func (.func 97) #[] #[]) w;change Calls Tryz.prog 138 _ _ _ at h;refine h.mono ?_;rintro e w' ⟨rfl,rfl⟩;exact⟨rfl,[],rfl,List.Perm.refl _,List.Pairwise.nil,hAt,hB,aH.refl _ _⟩
 .obtain⟨rfl,rfl⟩:A=some ⟨g,0,none⟩/\c=cap:=by
   simp only[Value.slice.injEq]at e;exact⟨e.1,e.2.2⟩
  have hcl:=qJ T;have hcc:∀j,j<T.length*2->cur[j]?=(eB T)[j]?:=λj hj=>by
   rw[<-h4,List.getElem?_take,if_pos (by omega),Array.getElem?_toList]
  have hH:HoldsK aX.cells 2 w g 0 T.toArray:=by
   intro j hj;rw[size_flatK]at hj;simp only[List.size_toArray]at hj;refine⟨?_,by simp[World.frozen?,hg]⟩;rw[Nat.zero_add,aG w g j _ _ _ hg,hcc j hj];have h5:(flatK aX.cells 2 T.toArray)[j]?=(eB T)[j]?:=by rw[<-G7,Array.getElem?_toList]
   rw[<-h5];have hjs:j<(flatK aX.cells 2 T.toArray).size:=by rw[size_flatK];simpa using hj
   rw[getElem!_pos _ j hjs,Array.getElem?_eq_getElem hjs];rfl
  have hcon:=AnyQ.slices_SortFunc Tryz.sortFuncB 2 (λw=>by kernel_rfl) (λw=>by kernel_rfl) aX.cells (λ_=>rfl) (λx v hv=>by simp[aX.cells]at hv;rcases hv with rfl|rfl<;>rfl) Ch ai4 97 #[] g 0 c T.toArray w (enters_of Tryz.func97 (by kernel_rfl) rfl) (λ_ _ _ _ x y=>QF x y _) hH (av hg) (by simp;omega);change Calls Tryz.prog 138 _ _ _ at hcon;simp only[List.size_toArray]at hcon;refine hcon.mono ?_;rintro e w' ⟨rfl,d',n,os,hp,hs,rfl⟩;obtain⟨hsz,_,hperm⟩:=hp;have hsz':d'.toList.length=T.length:=by rw[Array.length_toList,hsz];simp
  have hpp:d'.toList.Perm T:=by
   rw[Array.extract_eq_self_of_le (by rw[hsz];simp),Array.extract_eq_self_of_le (by simp)]at hperm;simpa using hperm
  have hnd':d'.toList.Nodup:=hpp.nodup_iff.2 hnd;have hcd:(flatK aX.cells 2 d').toList=eB d'.toList:=G7 d'.toList;have hgl:=av hg;have hg':(sortWorldK aX.cells 2 w g 0 n d' os).heap[g]?=some (.cells (putCells id 0 (flatK aX.cells 2 d') cur) 78 (0,0)):=by
   unfold sortWorldK putRowK;rw[heap_grow_old _ _ (by simp[putRow,mapBlock];exact hgl)];simp[putRow,mapBlock,Sort.ahead,Array.getElem?_modify,hg,onCells]
  refine⟨rfl,d'.toList,hsz',hpp,?_,?_,hB,?_⟩
  .rw[List.pairwise_iff_getElem]
   intro i j hi hj hij;have h5:=hs i j (Nat.zero_le _) hij (by omega);rw[getElem!_pos d' j (by simpa using hj),getElem!_pos d' i (by simpa using hi),yK,decide_eq_false_iff_not]at h5;rcases Y_ d'.toList[i] d'.toList[j]with h6|h6|h6
   .exact h6
   .have:=List.pairwise_iff_getElem.1 hnd' i j hi hj hij
    exact absurd h6 this
   .exact absurd h6 h5
  .refine QG hg' (qJ _) (Bv _) (λj hj=>?_) (by omega) h2
   rw[qJ,hsz']at hj;rw[<-hcd,Array.getElem?_toList];have hjs:j<(flatK aX.cells 2 d').size:=by rw[size_flatK,<-Array.length_toList,hsz'];exact hj
   have hjc:j<cur.size:=by rw[h3];omega
   unfold putCells;rw[Array.getElem?_mapIdx,Array.getElem?_eq_getElem hjc,Array.getElem?_eq_getElem hjs];have hj2:j<d'.size*2:=by simpa using hjs
   simp only[Option.map_some,Nat.zero_le,true_and,Nat.zero_add,size_flatK,hj2,if_true,Nat.sub_zero,id];rw[getElem!_pos _ j hjs]
  .have hgr:w.grownBy (sortWorldK aX.cells 2 w g 0 n d' os) (some g):=by
    refine⟨rfl,rfl,rfl,by simp[sortWorldK,putRowK,putRow,mapBlock,grow,Sort.ahead],λk hk hne=>?_⟩;unfold sortWorldK putRowK;rw[heap_grow_old _ _ (by simp[putRow,mapBlock];exact hk)];have:g≠k:=λe=>hne (by rw[e]);simp[putRow,mapBlock,Sort.ahead,Array.getElem?_modify,this]
   exact aH.mono (aH.jm hgr) (λi _ h=>by injection h with h;subst h;exact hgB)
def afx(g:aX->Option Value)(w:World)(e:Ending)(w':World):Prop:=
 ∃(T:List aX)(A:Option Addr)(c:Nat),e= .returned (.slice A T.length c)/\At w' 2 A T.length c (eB T)/\(∀b off,A=some ⟨b,off,none⟩->w.heap.size<=b)/\Below w.heap.size w w'/\T.Pairwise EO/\(∀x∈T,F7 x)/\∀x,F7 x->(x∈T↔(g x).isSome=true)
theorem EC{w:World}{b n:Nat}{g:aX->Option Value}(h:d9 F7 78 oK w b n g)(hn:n<=1000000):
 Calls Tryz.prog 95 #[.func (.func 139) #[] #[.pointer (some ⟨w.heap.size,0,none⟩)],.func (.func 97) #[] #[]] (w.alloc (.cells #[.map (some b)] 161)) (afx g (w.alloc (.cells #[.map (some b)] 161))):=by
 have hba:Below w.heap.size w (w.alloc (.cells #[.map (some b)] 161)):=aK (aD _ _) _;have hma:=h.below h.lt hba;have hcell:(w.alloc (.cells #[.map (some b)] 161)).cell? ⟨w.heap.size,0,none⟩=some (.map (some b)):=(aG _ _ 0 _ _ _ (bC w _)).trans rfl;generalize w.alloc (.cells #[.map (some b)] 161)=W at hma hcell⊢;obtain⟨D,h1,h2,h3,h4,h5⟩:=hma;have hsz:Maps.size D<=1000000:=by omega
 have HA:=ah (Ll W hcell h1 hsz);have H4:=ah h4;clear h4;have H1:=ah h1;clear h1;clear h3 h5 hba;go_enter Tryz.func95,Tryz.ntmps95;go_wp2_with (go_at_call 137;refine HA.out.mono ?_;rintro e z ⟨T,A,c,rfl,hown,hb,hl0,hnd,hin,hmem⟩;refine Hid.out ?_);refine ah ?_;have hTl:T.length<=1000000:=by omega
 have HS:=ah (Jm T A c W.heap.size z hown hTl hnd);have HB:=ah hb;clear hb;have HI:=ah hin;clear hin;have HM:=ah hmem;clear hmem;clear hown;go_wp2_with (go_at_call 138;refine HS.out.mono ?_;rintro e z2 ⟨rfl,T2,hl,hp,hpw,hAt,hBn,hU⟩;refine Hid.out ?_);refine ah ?_;have HL:=ah hl;clear hl;have HP:=ah hp;clear hp;have HPW:=ah hpw;clear hpw;have HAT:=ah hAt;clear hAt;have EW:=ah hBn;clear hBn;have HU:=ah hU;clear hU;go_wp2;go_ret;refine⟨T2,A,c,by rw[HL.out];rfl,HAT.out,EW.out,HB.out.trans (HU.out.below HB.out.size (λk hk=>hk)),HPW.out,λx hx=>HI.out x (HP.out.mem_iff.1 hx),λx hx=>?_⟩;rw[HP.out.mem_iff,HM.out x hx,H4.out x hx]
end
section
open Go.RowKit Go.Shelf
theorem Uz{L:List aB}{x:aB}(h:look L x.ref=none):zl (L++[x])↔zl L:=by
 have hn:∀y∈L,y.ref≠x.ref:=by
  rcases Aw L x.ref with⟨_,h2⟩|⟨z,h2,_⟩
  .exact h2
  .rw[h]at h2;cases h2
 constructor
 .exactλhs a ha b hb e=>hs a (List.mem_append_left _ ha) b (List.mem_append_left _ hb) e
 .intro hs a ha b hb e
  rcases List.mem_append.1 ha with h1|h1<;>rcases List.mem_append.1 hb with h2|h2
  .exact hs a h1 b h2 e
  .rw[List.mem_singleton.1 h2]at e;exact absurd e (hn a h1)
  .rw[List.mem_singleton.1 h1]at e;exact absurd e.symm (hn b h2)
  .rw[List.mem_singleton.1 h1,List.mem_singleton.1 h2]
theorem UA{L:List aB}{x y:aB}(h:look L x.ref=some y):zl (L++[x])↔(zl L/\y.act=x.act):=by
 have hl:uX L x.ref y:=by
  rcases Aw L x.ref with⟨h1,_⟩|⟨z,h2,h3⟩
  .rw[h]at h1;cases h1
  .rw[h]at h2;cases h2;exact h3
 obtain⟨u,hu,e1,e2⟩:=hl.act;constructor
 .exactλhs=>⟨λa ha b hb e=>hs a (List.mem_append_left _ ha) b (List.mem_append_left _ hb) e,by rw[<-e2];exact hs u (List.mem_append_left _ hu) x (by simp) e1⟩
 .rintro⟨hs,ha⟩ a h1 b h2 e
  have key:∀z∈L,z.ref=x.ref->z.act=x.act:=λz hz hr=>by rw[<-ha,<-e2];exact hs z hz u hu (hr.trans e1.symm)
  rcases List.mem_append.1 h1 with h1|h1<;>rcases List.mem_append.1 h2 with h2|h2
  .exact hs a h1 b h2 e
  .rw[List.mem_singleton.1 h2]at e⊢;exact key a h1 e
  .rw[List.mem_singleton.1 h1]at e⊢;exact(key b h2 e.symm).symm
  .rw[List.mem_singleton.1 h1,List.mem_singleton.1 h2]
theorem Eh{L:List aB}{r:Int}:(look L r).isSome=true↔∃x∈L,x.ref=r:=by
 rcases Aw L r with⟨h1,h2⟩|⟨z,h1,h2⟩
 .rw[h1]
  simp only[Option.isSome_none,Bool.false_eq_true,false_iff];rintro⟨x,hx,e⟩;exact h2 x hx e
 .rw[h1]
  obtain⟨x,hx,e,_⟩:=h2.act;simp only[Option.isSome_some,true_iff];exact⟨x,hx,e⟩
theorem NS(r:Int):∀l:List Int,(yP r l).length<=l.length+1
 |[]=>by simp[yP]
 |k::l=>by
  unfold yP;split
  .simp
  .split
   .simp
   .have:=NS r l
    simp only[List.length_cons];omega
theorem zW(L:List aB):(jR L).length<=L.length:=by
 induction L using qC with
 |h0=>simp[jR]
 |h1 L x ih=>rw[wS,List.length_append,List.length_singleton];have:=NS x.ref (jR L);omega
theorem xQ(L:List aB):(dO L).length=(jR L).length:=by rw[<-uY,List.length_map]
theorem vU{α:Type}[DecidableEq α]:∀{l1 l2:List α},l1.Nodup->(∀x∈l1,x∈l2)->l1.length<=l2.length
 |[],_,_,_=>Nat.zero_le _
 |a::l1,l2,h,hs=>by
  rw[List.nodup_cons]at h;have ha:a∈l2:=hs a (by simp);have h1:=vU (l1:=l1) (l2:=l2.erase a) h.2 (λx hx=>(List.mem_erase_of_ne (λe=>h.1 (by rw[<-e];exact hx))).2 (hs x (List.mem_cons_of_mem _ hx)));rw[List.length_erase_of_mem ha]at h1;have:=List.length_pos_of_mem ha;rw[List.length_cons];omega
instance:DecidableEq aX:=λa b=>by
 obtain⟨a1,a2⟩:=a;obtain⟨b1,b2⟩:=b;exact decidable_of_iff (a1=b1/\a2=b2) (by simp)
theorem G8{O OO:List aX}(h:oI O OO):OO.length<=O.length:=
 vU (List.Pairwise.imp (S:=λa b=>a≠b) (λ{a b} hl e=>EP a (by rw[<-e]at hl;exact hl)) h.1) (λx hx=>(h.2 x).1 hx)
def G9(x:aB):Value:=.agg x.cells.toArray
def ql(L:List aB)(r:Int):Option Value:=(look L r).map G9
def QH(O:List aX)(b:aX):Option Value:=if b∈O then some (.bool true)else none
theorem QI{L:List aB}{x:aB}(h:look L x.ref=none)(r:Int):(if r=x.ref then some (G9 x)else ql L r)=ql (L++[x]) r:=by
 unfold ql;rw[Cc];unfold wQ;by_cases e:r=x.ref
 .rw[if_pos e,if_pos e.symm,e,h];rfl
 .rw[if_neg e,if_neg (λh=>e h.symm)]
theorem vG{L:List aB}{x y:aB}(h:look L x.ref=some y)(r:Int):(if r=x.ref then some (G9 (PD y x))else ql L r)=ql (L++[x]) r:=by
 unfold ql;rw[Cc];unfold wQ;by_cases e:r=x.ref
 .rw[if_pos e,if_pos e.symm,e,h];rfl
 .rw[if_neg e,if_neg (λh=>e h.symm)]
theorem Xy(O:List aX)(x b:aX):(if b=x then some (Value.bool true)else QH O b)=QH (O++[x]) b:=by
 unfold QH;by_cases e:b=x
 .rw[if_pos e,if_pos (by simp[e])]
 .rw[if_neg e]
  by_cases h:b∈O
  .rw[if_pos h,if_pos (List.mem_append_left _ h)]
  .rw[if_neg h,if_neg (λk=>by rcases List.mem_append.1 k with k|k;exact h k;exact e (List.mem_singleton.1 k))]
theorem d9.congr{α:Type}{P:α->Prop}{K:TypeId}{enc:α->Lit}{w:World}{b n:Nat}{g g':α->Option Value}(h:d9 P K enc w b n g)(e:∀a,g a=g' a):d9 P K enc w b n g':=by rw[<-show g=g' from funext e];exact h
theorem d9.empty{α:Type}{P:α->Prop}{K:TypeId}{enc:α->Lit}{w:World}{b:Nat}(h:w.heap[b]?=some (.map #[] 0)):d9 P K enc w b 0 (λ_=>none):=by
 obtain⟨D,⟨es,c,h1,h2⟩,h3⟩:=d9.made (P:=P) (K:=K) (enc:=enc) w;rw[bC w (.map #[] 0)]at h1;cases h1
 exact⟨D,⟨#[],0,h,h2⟩,h3⟩
theorem gP{w w':World}{b:Nat}(h:w.mapTurned w' b):aH (λk=>k=b) w w':=by
 have hg:=h.grown;exact⟨hg.os,hg.tape,hg.output,hg.size,λk hk hn=>hg.block k hk (λe=>by injection e with e;first|exact hn e|exact hn e.symm)⟩
theorem rE{w:World}{B:Nat}{e:TypeId}{size n c:Nat}{A:Option Addr}{xs:List Value}(h:w.ownsRow B e size (.slice A n c) n xs):(n=0/\A=none/\c=0)\/∃g,A=some ⟨g,0,none⟩/\B<=g/\Own w e g xs:=by
 rcases h.2 with⟨h1,h2⟩|⟨g,cap,cur,h1,h2,h3,h4,h5,h6,h7⟩
 .simp only[Value.slice.injEq]at h1
  exact .inl ⟨h2,h1.1,h1.2.2⟩
 .simp only[Value.slice.injEq]at h1
  refine .inr ⟨g,h1.1,h2,cur.toList.drop (n*size),?_⟩;rw[<-h7,List.take_append_drop];exact h3
theorem iI{P:Program}{W:World}{ops:Array Oper}{rest:List Oper}{o:Oper}{a:Act}{Q:Exit->Act->World->Prop}
 (hg:o.guard=none)(s x:Operand)(T:TypeId)(hop:o.op=Op.call {callee:=Callee.builtin Builtin.append,args:=#[s,x],argTypes:=#[T,T]})
 (e:TypeId)(i:TypeInfo)(z:Value)(size bytes:Nat)(ht:P.underlying T=some (.slice e))(hi:P.info? e=some i)(hz:i.zero=some z)(hsize:i.size=size)(hby:i.bytes=bytes)(hzs:z.cells.size=size)(h0:0<size)
 (B:Nat)(v:Value)(n:Nat)(xs:List Value)(hs:a.eval s=v)(hown:W.ownsRow B e size v n xs)(cs:List Value)(arr:Array Value)(harr:arr=cs.toArray)(hcs:cs.length=size)(h1:∀u∈cs,u.oneCell'=true)
 (hx:a.eval x= .slice (some ⟨W.heap.size,0,none⟩) 1 1)(hlen:n+1<=maxLen)(hb:(n+1)*bytes<=140737488355328)(hBW:B<=W.heap.size)
 (hK:∀g' c' w',w'.ownsRow B e size (.slice (some ⟨g',0,none⟩) (n+1) c') (n+1) (xs++cs)->(W.alloc (.cells arr e)).grownBy w' v.ownBlock->wpList P ops Q rest (a.put o.dst (.slice (some ⟨g',0,none⟩) (n+1) c')) w'):
 wpList P ops Q (o::rest) a (W.alloc (.cells arr e)):=by
 subst harr;refine wpList_append_own _ hg s x T hop B e i z size bytes ht hi hz hsize hby hzs h0 v n xs hs (World.ownsRow.alloc hown _) ⟨W.heap.size,0,none⟩ 1 1 cs hx (by omega)
  (λj u hj=>by
   rw[Addr.add_lit,aG _ _ (0+j) _ _ _ (bC W _)];simpa using hj) h1 hlen hb (by simp;omega) ?_
 intro v' w' hown' hgrow hnil;rcases hown'.2 with⟨e,_⟩|⟨g,cap,cur,rfl,_⟩
 .have:=(hnil.1 e).2;omega
 .exact hK g cap w' hown' hgrow
theorem QJ{L:List bR}{k:Nat}{f:bR}(h:L[k]?=some f):(L.take (k+1)).flatMap bR.facts=(L.take k).flatMap bR.facts++f.facts:=by
 rw[List.take_add_one,h,List.flatMap_append];simp
theorem NT{L:List bR}{k:Nat}{f:bR}(h:L[k]?=some f):(L.take (k+1)).flatMap bR.orders=(L.take k).flatMap bR.orders++f.orders:=by
 rw[List.take_add_one,h,List.flatMap_append];simp
theorem bS{α:Type}{l:List α}{k:Nat}{x:α}(h:l[k]?=some x):l.take (k+1)=l.take k++[x]:=by rw[List.take_add_one,h];rfl
end
section
open Go.RowKit Go.Shelf
attribute [local go_sem] P9 WL stillUpon mh
def aL(fs:List bR):List aB:=fs.flatMap bR.facts
def bg(fs:List bR):List aX:=fs.flatMap bR.orders
def Xz(ho:Int)(L:List aB)(O:List aX)(ho':Int)(F':List aB)(O':List aX)(er:Int):Prop:=(er=0/\ho'=ho/\tC L O F' O')\/(er=23/\ho'=0/\F'=[]/\O'=[]/\Wn L O)
def NU(ho:Int)(L:List aB)(O:List aX)(w:World)(e:Ending)(w':World):Prop:=
 ∃(ho':Int)(F':List aB)(O':List aX)(er:Int)(A:Option Addr)(c:Nat)(A':Option Addr)(c':Nat),e= .returned (.tuple #[.agg #[.int .i64 ho',.slice A F'.length c,.slice A' O'.length c'],.int .i64 er])/\fM w' ⟨⟨A,c⟩,⟨A',c'⟩⟩ ⟨ho',F',O'⟩/\((∀b off,A=some ⟨b,off,none⟩->w.heap.size<=b)/\∀b off,A'=some ⟨b,off,none⟩->w.heap.size<=b)/\Below w.heap.size w w'/\Xz ho L O ho' F' O' er
structure Ei(W3:World)(mf mo:Nat)(L:List aB)(O:List aX)(sm:Bool)(wr:World):Prop where
 f:∃nF,nF<=L.length/\d9 gW 3 encI wr mf nF (ql L)
 o:∃nO,nO<=O.length/\d9 F7 78 oK wr mo nO (QH O)
 upd:aH (λk=>k=mf\/k=mo) W3 wr
 same:sm=true↔zl L
theorem Ei.on{W3:World}{mf mo:Nat}{L:List aB}{O:List aX}{sm:Bool}{wr z:World}(h:Ei W3 mf mo L O sm wr)(hb:Below wr.heap.size wr z):Ei W3 mf mo L O sm z:=by
 obtain⟨⟨nF,h1,h2⟩,⟨nO,h3,h4⟩,h5,h6⟩:=h;exact⟨⟨nF,h1,h2.below h2.lt hb⟩,⟨nO,h3,h4.below h4.lt hb⟩,lD h5 hb,h6⟩
theorem Ei.turn{W3:World}{mf mo:Nat}{L:List aB}{O:List aX}{sm:Bool}{wr z:World}{S:Nat->Prop}(h:Ei W3 mf mo L O sm wr)(hu:aH S wr z)(h1:¬S mf)(h2:¬S mo)(h3:∀k,k<W3.heap.size->¬S k):Ei W3 mf mo L O sm z:=by
 obtain⟨⟨nF,a1,a2⟩,⟨nO,a3,a4⟩,a5,a6⟩:=h;exact⟨⟨nF,a1,a2.upd hu h1⟩,⟨nO,a3,a4.upd hu h2⟩,a5.trans hu (λi hi hs=>absurd hs (h3 i hi)),a6⟩
theorem fD(w:World)(size:Nat):At w size none 0 0 []:=⟨⟨by simp,by simp,λh=>absurd h (Nat.lt_irrefl _)⟩,λ_=>⟨rfl,rfl⟩,Nat.le_refl _,Nat.zero_le _⟩
theorem C8{F T:List aB}{O:List aX}(h:jf F T O):T.length=F.length:=by have:=congrArg List.length h.rest;simpa using this
theorem G_(fs:List bR)(sv:SV)(f0:bR)(w:World)(hF:lK w sv fs)(h0:fs[0]?=some f0)(hn:fs.length<=100)(hR:∀x∈aL fs,gW x.ref)(hL:(aL fs).length<=4000)(hO:(bg fs).length<=4000)(hK:wU (aL fs) (bg fs)):
 Calls Tryz.prog 62 #[.slice sv.A fs.length sv.c] w (NU f0.house (aL fs) (bg fs) w):=by
 obtain⟨sA,sc⟩:=sv;have hn0:0<fs.length:=(List.getElem?_eq_some_iff.1 h0).1;obtain⟨fb,fo,kI,hfb,NV⟩:=hF.form hn0;simp only at kI;subst kI;have Sr:=ah NV;clear NV;have HR:=ah hR;clear hR;have HK:=ah hK;clear hK;have H0:=ah h0;clear h0;have HLL:=ah hL;clear hL;have HOL:=ah hO;clear hO;clear hF;have hmm:=@run_makeMap Tryz.prog;go_enter Tryz.func62,Tryz.ntmps62;go_upto_region 4 with(fail)
 obtain⟨mf,wz⟩:∃mf,mf=w.heap.size+1:=⟨_,rfl⟩;obtain⟨mo,hmo⟩:∃mo,mo=w.heap.size+1+1:=⟨_,rfl⟩;rw[<-hmo,<-wz];generalize hW3:World.alloc _ _=W3;obtain⟨HB,hh0,g_,wu⟩:=bx3 hW3;rw[<-wz]at g_;rw[<-hmo]at wu;have aco:=ah hh0;have NW:Hid (d9 gW 3 encI W3 mf 0 (ql [])):=(d9.empty g_).congr (λ_=>rfl);have HMO:Hid (d9 F7 78 oK W3 mo 0 (QH [])):=(d9.empty wu).congr (λ_=>rfl);have hrl:=av hh0;have hfl:=av g_;have hol:=av wu;clear hW3 hh0 g_ wu hmm;go_wp2;have UC:mf≠mo:=by omega
 have hmw:w.heap.size<mf:=by omega
 have anY:w.heap.size<mo:=by omega
 have HBU:Hid (∀wr,aH (λk=>k=mf\/k=mo) W3 wr->Below w.heap.size w wr):=λwr hu=>HB.out.trans (hu.below HB.out.size (λk hk=>by omega));have KV:Hid (Ei W3 mf mo (aL (fs.take 0)) (bg (fs.take 0)) true W3):=⟨⟨0,Nat.zero_le _,NW.out⟩,⟨0,Nat.zero_le _,HMO.out⟩,aH.refl _ _,⟨λ_ x hx=>(by cases hx),λ_=>rfl⟩⟩;clear NW HMO;have HME:=ah wz;clear wz;have HMG:=ah hmo;clear hmo
 go_loopg [22,6] fs.length (λgk v22 v6 wr=>∃(k:Nat)(sm:Bool),gk=fs.length - k/\k<=fs.length/\v22= .int .i64 k/\v6= .bool sm/\Hid (Ei W3 mf mo (aL (fs.take k)) (bg (fs.take k)) sm wr))
 case atStart=>exact⟨0,true,rfl,Nat.zero_le _,rfl,rfl,KV⟩
 case round=>
  clear KV;obtain⟨k,sm,eH,hk,rfl,rfl,HJ⟩:=hrel;have iB:=ah eH;clear eH;by_cases hlt:k<fs.length
  .obtain⟨⟨ho,F,O⟩,hx⟩:∃x,fs[k]?=some x:=⟨fs[k],List.getElem?_eq_getElem hlt⟩
   obtain⟨⟨⟨gA,gc⟩,⟨qA,qc⟩⟩,hfa,hcell⟩:=Sr.out k _ hx;have hbw:=HBU.out wr HJ.out.upd;have c0:wr.cell? ⟨fb,fo+k*3,none⟩=some (.int .i64 ho):=hcell wr hbw 0 (by omega);have c1:wr.cell? ⟨fb,fo+k*3+1,none⟩=some (.slice gA F.length gc):=hcell wr hbw 1 (by omega);have c2:wr.cell? ⟨fb,fo+k*3+2,none⟩=some (.slice qA O.length qc):=hcell wr hbw 2 (by omega);have HFF:Hid (At w 6 gA F.length gc (bE F)):=hfa.facts;have HQQ:Hid (At w 2 qA O.length qc (eB O)):=hfa.orders;have hFl:F.length<=9223372036854775807:=by have:=hfa.abz;simp only at this;omega
   have hOl:O.length<=9223372036854775807:=by have:=hfa.abA;simp only at this;omega
   have hLk:Hid (aL (fs.take (k+1))=aL (fs.take k)++F):=QJ hx;have WQ:Hid (bg (fs.take (k+1))=bg (fs.take k)++O):=NT hx;have HRF:Hid (∀x∈F,gW x.ref):=λx hxF=>HR.out x (List.mem_flatMap.2 ⟨_,List.mem_of_getElem? hx,hxF⟩);have HLF:Hid ((aL (fs.take k)).length+F.length<=4000):=by
    show _<=_;have h1:(aL (fs.take (k+1))).length<=(aL fs).length:=by
     have h2:aL fs=aL (fs.take (k+1))++aL (fs.drop (k+1)):=by unfold aL;rw[<-List.flatMap_append,List.take_append_drop]
     rw[h2,List.length_append];omega
    rw[hLk.out,List.length_append]at h1;have:=HLL.out;omega
   have HLO:Hid ((bg (fs.take k)).length+O.length<=4000):=by
    show _<=_;have h1:(bg (fs.take (k+1))).length<=(bg fs).length:=by
     have h2:bg fs=bg (fs.take (k+1))++bg (fs.drop (k+1)):=by unfold bg;rw[<-List.flatMap_append,List.take_append_drop]
     rw[h2,List.length_append];omega
    rw[WQ.out,List.length_append]at h1;have:=HOL.out;omega
   have HXB:Hid (∀x∈O,F7 x):=λb hb=>by
    obtain⟨⟨x,hx1,e1⟩,y,hy1,e2⟩:=HK.out b (List.mem_flatMap.2 ⟨_,List.mem_of_getElem? hx,hb⟩);exact⟨e1▸HR.out x hx1,e2▸HR.out y hy1⟩
   generalize aL (fs.take k)=LK at HJ hLk HLF;generalize bg (fs.take k)=OK at HJ WQ HLO;clear hx hcell hfa hbw;go_upto_region 7 with(fail)
   generalize hWa:World.alloc _ _=Wa;obtain⟨hba,hxa⟩:=bx1' hWa;obtain⟨bf,hbf⟩:∃bf,bf=wr.heap.size:=⟨_,rfl⟩;rw[<-hbf]at hxa;rw[<-hbf];have d1:Wa.cell? ⟨bf,1,none⟩=some (.slice gA F.length gc):=(aG Wa _ 1 _ _ _ hxa).trans rfl;have d2:Wa.cell? ⟨bf,2,none⟩=some (.slice qA O.length qc):=(aG Wa _ 2 _ _ _ hxa).trans rfl;have hbl:=av hxa;have HJa:=ah (HJ.out.on hba);have an3:W3.heap.size<=bf:=by have:=HJ.out.upd.size;omega
   have Qu:=ah hbf;clear hbf;clear hWa hba hxa c0 c1 c2 HJ;go_wp2
   go_loopg [29,6] F.length (λg2 v29 v6 wq=>∃(j:Nat)(sm:Bool),g2=F.length - j/\j<=F.length/\v29= .int .i64 j/\v6= .bool sm/\Hid (Ei W3 mf mo (LK++F.take j) OK sm wq)/\Hid (aH (λk=>k=mf\/k=mo) Wa wq))
   case atStart=>exact⟨0,sm,rfl,Nat.zero_le _,rfl,rfl,by rw[List.take_zero,List.append_nil];exact HJa,aH.refl _ _⟩
   case round=>
    clear HJa sm;obtain⟨j,sm,hg2,hj,rfl,rfl,HJ,HU⟩:=hrel;have HG2:=ah hg2;clear hg2;by_cases hjl:j<F.length
    .obtain⟨ab,ao,hA,hab,hcell⟩:=HFF.out.fact (by omega)
     subst hA;obtain⟨⟨re,ac,lo,hi,fi,se⟩,hx⟩:∃x,F[j]?=some x:=⟨F[j],List.getElem?_eq_getElem hjl⟩;have hbw:=HBU.out wr HJ.out.upd;have hre:gW re:=HRF.out _ (List.mem_of_getElem? hx);have e0:wr.cell? ⟨ab,ao+j*6,none⟩=some (.int .i64 re):=hcell j _ hx wr hbw 0 (by omega);have e1:wr.cell? ⟨ab,ao+j*6+1,none⟩=some (.int .i64 ac):=hcell j _ hx wr hbw 1 (by omega);have e2:wr.cell? ⟨ab,ao+j*6+2,none⟩=some (.int .i64 lo):=hcell j _ hx wr hbw 2 (by omega);have e3:wr.cell? ⟨ab,ao+j*6+3,none⟩=some (.int .i64 hi):=hcell j _ hx wr hbw 3 (by omega);have e4:wr.cell? ⟨ab,ao+j*6+4,none⟩=some (.int .i64 fi):=hcell j _ hx wr hbw 4 (by omega);have e5:wr.cell? ⟨ab,ao+j*6+5,none⟩=some (.bool se):=hcell j _ hx wr hbw 5 (by omega);have tT:Hid (LK++F.take (j+1)=(LK++F.take j)++[⟨re,ac,lo,hi,fi,se⟩]):=by show _=_;rw[bS hx,List.append_assoc]
     have Nc:Hid ((LK++F.take j).length<4000):=by show _<_;have:=HLF.out;rw[List.length_append,List.length_take];omega
     generalize LK++F.take j=L at HJ tT Nc;clear hx hcell hbw;have jF:(j:Int)<(F.length:Int):=by omega
     go_upto_region 10 with(fail)
     generalize CF:World.alloc _ _=Wb;obtain⟨hbb,hxb⟩:=bx1' CF;have hwb:=hbb.size;have q0:Wb.cell? ⟨wr.heap.size,0,none⟩=some (.int .i64 re):=(aG Wb _ 0 _ _ _ hxb).trans rfl;have q1:Wb.cell? ⟨wr.heap.size,1,none⟩=some (.int .i64 ac):=(aG Wb _ 1 _ _ _ hxb).trans rfl;have q2:Wb.cell? ⟨wr.heap.size,2,none⟩=some (.int .i64 lo):=(aG Wb _ 2 _ _ _ hxb).trans rfl;have q3:Wb.cell? ⟨wr.heap.size,3,none⟩=some (.int .i64 hi):=(aG Wb _ 3 _ _ _ hxb).trans rfl;have q4:Wb.cell? ⟨wr.heap.size,4,none⟩=some (.int .i64 fi):=(aG Wb _ 4 _ _ _ hxb).trans rfl;have q5:Wb.cell? ⟨wr.heap.size,5,none⟩=some (.bool se):=(aG Wb _ 5 _ _ _ hxb).trans rfl;have hxl:=av hxb;have XA:=ah (HJ.out.on hbb);have HUb:Hid (aH (λk=>k=mf\/k=mo) Wa Wb):=lD HU.out hbb;have an4:=HU.out.size;clear CF hbb hxb e0 e1 e2 e3 e4 e5 HJ HU;obtain⟨nF,hnF,wz⟩:=XA.out.f;have hlk:=d9.KO AP Tryz.underlying160 wz (aaD Wb) hre (Ci hre);cases hl:look L re with
     |none=>
      have hv:ql L re=none:=by unfold ql;rw[hl];rfl
      rw[hv]at hlk;simp only[Option.getD_none,Option.isSome_none]at hlk;have ZI:Hid (look L re=none):=hl;clear hl hv;go_upto_region 12 with(fail)
      generalize hWc:World.alloc _ _=Wc;obtain⟨hbc,hxc⟩:=bx1' hWc;have p0:=((aY hbc).1 _ _ hxl).trans q0;have p1:=((aY hbc).1 _ _ hxl).trans q1;have p2:=((aY hbc).1 _ _ hxl).trans q2;have p3:=((aY hbc).1 _ _ hxl).trans q3;have p4:=((aY hbc).1 _ _ hxl).trans q4;have p5:=((aY hbc).1 _ _ hxl).trans q5;have QK:=ah (XA.out.on hbc);have vB:Hid (aH (λk=>k=mf\/k=mo) Wa Wc):=lD HUb.out hbc;obtain⟨nF,hnF,wz⟩:=QK.out.f;obtain⟨w2,hrun,hm2,htr⟩:=d9.put qZ AP Tryz.underlying160 wz (by have:=Nc.out;unfold maxLen;omega) hre (Ci hre) (.agg #[.int .i64 re,.int .i64 ac,.int .i64 lo,.int .i64 hi,.int .i64 fi,.bool se]);have hut:=gP htr;have HJ2:Hid (Ei W3 mf mo (LK++F.take (j+1)) OK sm w2):=by
       show Ei _ _ _ _ _ _ _;rw[tT.out];obtain⟨nO,Sv,hmo⟩:=QK.out.o;exact⟨⟨_,by rw[List.length_append,List.length_singleton];split<;>omega,hm2.congr (λr=>QI (x:=⟨re,ac,lo,hi,fi,se⟩) ZI.out r)⟩,⟨nO,Sv,hmo.upd hut (λe=>UC e.symm)⟩,QK.out.upd.trans hut (λ_ _ h=>.inl h),QK.out.same.trans (Uz (x:=⟨re,ac,lo,hi,fi,se⟩) ZI.out).symm⟩
      have uR:Hid (aH (λk=>k=mf\/k=mo) Wa w2):=vB.out.trans hut (λ_ _ h=>.inl h);clear hWc hbc hxc wz hm2 htr hut hlk q0 q1 q2 q3 q4 q5 XA HUb QK vB;go_wp2
      go_roundg (F.length - (j+1))
      case measure=>rw[HG2.out];omega
      case rel=>exact⟨j+1,sm,rfl,by omega,by go_num,rfl,HJ2,uR⟩
     |some y=>
      have hv:ql L re=some (G9 y):=by unfold ql;rw[hl];rfl
      rw[hv]at hlk;obtain⟨yr,ya,yl,yh,yf,ys⟩:=y;simp only[Option.getD_some,Option.isSome_some,G9,aB.cells]at hlk;have Sw:Hid (look L re=some ⟨yr,ya,yl,yh,yf,ys⟩):=hl;clear hl hv;go_upto_region 13 with(fail)
      generalize hWc:World.alloc _ _=Wc;obtain⟨hbc,hxc⟩:=bx1' hWc;have YJ:Hid (Own Wc 56 Wb.heap.size [.int .i64 yr,.int .i64 ya,.int .i64 yl,.int .i64 yh,.int .i64 yf,.bool ys]):=⟨[],by rw[List.append_nil];exact hxc⟩;have p0:=((aY hbc).1 _ _ hxl).trans q0;have p1:=((aY hbc).1 _ _ hxl).trans q1;have p2:=((aY hbc).1 _ _ hxl).trans q2;have p3:=((aY hbc).1 _ _ hxl).trans q3;have p4:=((aY hbc).1 _ _ hxl).trans q4;have p5:=((aY hbc).1 _ _ hxl).trans q5;have o0:Wc.cell? ⟨Wb.heap.size,0,none⟩=some (.int .i64 yr):=YJ.out.cell rfl;have o1:Wc.cell? ⟨Wb.heap.size,1,none⟩=some (.int .i64 ya):=YJ.out.cell rfl;have o2:Wc.cell? ⟨Wb.heap.size,2,none⟩=some (.int .i64 yl):=YJ.out.cell rfl;have o3:Wc.cell? ⟨Wb.heap.size,3,none⟩=some (.int .i64 yh):=YJ.out.cell rfl;have z2:=YJ.out.frozen 2;have z3:=YJ.out.frozen 3;have QK:=ah (XA.out.on hbc);have vB:Hid (aH (λk=>k=mf\/k=mo) Wa Wc):=lD HUb.out hbc;have hwc:=hbc.size;have hne:¬(wr.heap.size=Wb.heap.size):=by omega
      have hne':¬(Wb.heap.size=wr.heap.size):=by omega
      have YK:Hid ((sm&&(ya==ac))=true↔zl (LK++F.take (j+1))):=by
       show _↔_;rw[tT.out,UA (x:=⟨re,ac,lo,hi,fi,se⟩) Sw.out,Bool.and_eq_true,QK.out.same,beq_iff_eq]
      clear hWc hbc hxc wz hlk q0 q1 q2 q3 q4 q5 XA HUb hnF;cases sm with
      |false=>
       cases ys with
       |false=>
        as_aux_lemma=>
         go_upto_region 14 with(fail)
         refine mX (w1:=Wc.drew.setCell ⟨Wb.heap.size,2,none⟩ (.int .i64 (max yl lo))) 13 11 (by omega) (by simp) (by kernel_rfl) (by kernel_rfl) ?_;simp only[List.take_succ_cons,List.take_zero,List.drop_succ_cons,List.drop_zero];refine iV rfl (λK hK=>?_);go_simp;refine hK _ ?_;clear hK K;refine yD rfl (by kernel_rfl) (λK hK=>?_);go_simp;refine hK _ ?_;clear hK K;repeat(refine iV rfl (λK hK=>?_);go_simp;refine hK _ ?_;clear hK K)
         refine AV rfl rfl ?_ ?_
         .go_simp
         go_simp;repeat(refine iV rfl (λK hK=>?_);go_simp;refine hK _ ?_;clear hK K)
         refine ET ?_;gi_wp2;go_upto_region 15 with(fail)
         obtain⟨W5,nW⟩:∃W5,Hid (W5=((Wc.setCell ⟨Wb.heap.size,2,none⟩ (.int .i64 (max yl lo))).setCell ⟨Wb.heap.size,3,none⟩ (.int .i64 (min yh hi))).drew):=⟨_,rfl⟩;rw[<-nW.out];have Bz:Hid (aH (λk=>k=Wb.heap.size) Wc W5):=by show aH _ _ _;rw[nW.out];exact(((aH.refl (λk=>k=Wb.heap.size) Wc).setCell (.inl rfl) _).setCell (.inl rfl) _).drew
         have GQ:Hid (Own W5 56 Wb.heap.size [.int .i64 yr,.int .i64 ya,.int .i64 (max yl lo),.int .i64 (min yh hi),.int .i64 yf,.bool false]):=by
          show Own _ _ _ _;rw[nW.out];exact((YJ.out.set (i:=2) (by simp) _).set (i:=3) (by simp) _).keep ((aH.refl (λ_=>False) _).drew) (λh=>h)
         have r0:=(bP Bz.out (by omega) hne).trans p0;have r4:=(bP Bz.out (by omega) hne).trans p4;have r5:=(bP Bz.out (by omega) hne).trans p5;have s4:W5.cell? ⟨Wb.heap.size,4,none⟩=some (.int .i64 yf):=GQ.out.cell rfl;have g4:=GQ.out.frozen 4;clear p0 p1 p2 p3 p4 p5 o0 o1 o2 o3 z2 z3 nW;go_upto_region 16 with(fail)
         obtain⟨W6,yG⟩:∃W6,Hid (W6=W5.setCell ⟨Wb.heap.size,4,none⟩ (.int .i64 (min yf fi))):=⟨_,rfl⟩;rw[<-yG.out];have ED:aH (λk=>k=Wb.heap.size) W5 W6:=by rw[yG.out];exact(aH.refl (λk=>k=Wb.heap.size) W5).setCell (.inl rfl) _
         have D6:Hid (Own W6 56 Wb.heap.size [.int .i64 yr,.int .i64 ya,.int .i64 (max yl lo),.int .i64 (min yh hi),.int .i64 (min yf fi),.bool false]):=by
          show Own _ _ _ _;rw[yG.out];exact GQ.out.set (i:=4) (by simp) _
         have hs5:=Bz.out.size;have m0:=(bP ED (by omega) hne).trans r0;have m5:=(bP ED (by omega) hne).trans r5;have s5:W6.cell? ⟨Wb.heap.size,5,none⟩=some (.bool false):=D6.out.cell rfl;have g5:=D6.out.frozen 5;have vC:Hid (aH (λk=>k=Wb.heap.size) Wc W6):=Bz.out.trans ED (λ_ _ h=>h);clear r0 r4 r5 s4 g4 yG ED GQ Bz;go_upto_region 17 with(fail)
         obtain⟨W7,Ai⟩:∃W7,Hid (W7=W6.setCell ⟨Wb.heap.size,5,none⟩ (.bool false)):=⟨_,rfl⟩;rw[<-Ai.out];have QL:aH (λk=>k=Wb.heap.size) W6 W7:=by rw[Ai.out];exact(aH.refl (λk=>k=Wb.heap.size) W6).setCell (.inl rfl) _
         have xH:Hid (Own W7 56 Wb.heap.size [.int .i64 yr,.int .i64 ya,.int .i64 (max yl lo),.int .i64 (min yh hi),.int .i64 (min yf fi),.bool false]):=by
          show Own _ _ _ _;rw[Ai.out];exact D6.out.set (i:=5) (by simp) _
         have hs6:=vC.out.size;have n0:=(bP QL (by omega) hne).trans m0;have EA:Hid (aH (λk=>k=Wb.heap.size) Wc W7):=vC.out.trans QL (λ_ _ h=>h);have t0:W7.cell? ⟨Wb.heap.size,0,none⟩=some (.int .i64 yr):=xH.out.cell rfl;have t1:W7.cell? ⟨Wb.heap.size,1,none⟩=some (.int .i64 ya):=xH.out.cell rfl;have t2:W7.cell? ⟨Wb.heap.size,2,none⟩=some (.int .i64 (max yl lo)):=xH.out.cell rfl;have t3:W7.cell? ⟨Wb.heap.size,3,none⟩=some (.int .i64 (min yh hi)):=xH.out.cell rfl;have t4:W7.cell? ⟨Wb.heap.size,4,none⟩=some (.int .i64 (min yf fi)):=xH.out.cell rfl;have t5:W7.cell? ⟨Wb.heap.size,5,none⟩=some (.bool false):=xH.out.cell rfl;clear m0 m5 s5 g5 Ai QL D6 vC;have Lm:=ah (QK.out.turn EA.out (by omega) (by omega) (λk hk e=>by omega));have He:Hid (aH (λk=>k=mf\/k=mo) Wa W7):=vB.out.trans EA.out (λi hi e=>by omega);obtain⟨nF,hnF,wz⟩:=Lm.out.f;obtain⟨w2,hrun,hm2,htr⟩:=d9.put qZ AP Tryz.underlying160 wz (by have:=Nc.out;unfold maxLen;omega) hre (Ci hre) (.agg #[.int .i64 yr,.int .i64 ya,.int .i64 (max yl lo),.int .i64 (min yh hi),.int .i64 (min yf fi),.bool false]);have hut:=gP htr;have HJ2:Hid (Ei W3 mf mo (LK++F.take (j+1)) OK false w2):=by
          show Ei _ _ _ _ _ _ _;have hsm:=YK.out;rw[tT.out]at hsm⊢;obtain⟨nO,Sv,hmo⟩:=Lm.out.o;refine⟨⟨_,by rw[List.length_append,List.length_singleton];split<;>omega,hm2.congr (λr=>?_)⟩,⟨nO,Sv,hmo.upd hut (λe=>UC e.symm)⟩,Lm.out.upd.trans hut (λ_ _ h=>.inl h),hsm⟩;exact vG (x:=⟨re,ac,lo,hi,fi,se⟩) Sw.out r
         have uR:Hid (aH (λk=>k=mf\/k=mo) Wa w2):=He.out.trans hut (λ_ _ h=>.inl h);clear wz hm2 htr hut Lm He EA xH QK vB YK Sw;go_wp2
         go_roundg (F.length - (j+1))
         case measure=>rw[HG2.out];omega
         case rel=>exact⟨j+1,_,rfl,by omega,by go_num,rfl,HJ2,uR⟩
       |true=>
        as_aux_lemma=>
         go_upto_region 14 with(fail)
         refine mX (w1:=Wc.drew.setCell ⟨Wb.heap.size,2,none⟩ (.int .i64 (max yl lo))) 13 11 (by omega) (by simp) (by kernel_rfl) (by kernel_rfl) ?_;simp only[List.take_succ_cons,List.take_zero,List.drop_succ_cons,List.drop_zero];refine iV rfl (λK hK=>?_);go_simp;refine hK _ ?_;clear hK K;refine yD rfl (by kernel_rfl) (λK hK=>?_);go_simp;refine hK _ ?_;clear hK K;repeat(refine iV rfl (λK hK=>?_);go_simp;refine hK _ ?_;clear hK K)
         refine AV rfl rfl ?_ ?_
         .go_simp
         go_simp;repeat(refine iV rfl (λK hK=>?_);go_simp;refine hK _ ?_;clear hK K)
         refine ET ?_;gi_wp2;go_upto_region 15 with(fail)
         obtain⟨W5,nW⟩:∃W5,Hid (W5=((Wc.setCell ⟨Wb.heap.size,2,none⟩ (.int .i64 (max yl lo))).setCell ⟨Wb.heap.size,3,none⟩ (.int .i64 (min yh hi))).drew):=⟨_,rfl⟩;rw[<-nW.out];have Bz:Hid (aH (λk=>k=Wb.heap.size) Wc W5):=by show aH _ _ _;rw[nW.out];exact(((aH.refl (λk=>k=Wb.heap.size) Wc).setCell (.inl rfl) _).setCell (.inl rfl) _).drew
         have GQ:Hid (Own W5 56 Wb.heap.size [.int .i64 yr,.int .i64 ya,.int .i64 (max yl lo),.int .i64 (min yh hi),.int .i64 yf,.bool true]):=by
          show Own _ _ _ _;rw[nW.out];exact((YJ.out.set (i:=2) (by simp) _).set (i:=3) (by simp) _).keep ((aH.refl (λ_=>False) _).drew) (λh=>h)
         have r0:=(bP Bz.out (by omega) hne).trans p0;have r4:=(bP Bz.out (by omega) hne).trans p4;have r5:=(bP Bz.out (by omega) hne).trans p5;have s4:W5.cell? ⟨Wb.heap.size,4,none⟩=some (.int .i64 yf):=GQ.out.cell rfl;have g4:=GQ.out.frozen 4;clear p0 p1 p2 p3 p4 p5 o0 o1 o2 o3 z2 z3 nW;go_upto_region 16 with(fail)
         obtain⟨W6,yG⟩:∃W6,Hid (W6=W5.setCell ⟨Wb.heap.size,4,none⟩ (.int .i64 (min yf fi))):=⟨_,rfl⟩;rw[<-yG.out];have ED:aH (λk=>k=Wb.heap.size) W5 W6:=by rw[yG.out];exact(aH.refl (λk=>k=Wb.heap.size) W5).setCell (.inl rfl) _
         have D6:Hid (Own W6 56 Wb.heap.size [.int .i64 yr,.int .i64 ya,.int .i64 (max yl lo),.int .i64 (min yh hi),.int .i64 (min yf fi),.bool true]):=by
          show Own _ _ _ _;rw[yG.out];exact GQ.out.set (i:=4) (by simp) _
         have hs5:=Bz.out.size;have m0:=(bP ED (by omega) hne).trans r0;have m5:=(bP ED (by omega) hne).trans r5;have s5:W6.cell? ⟨Wb.heap.size,5,none⟩=some (.bool true):=D6.out.cell rfl;have g5:=D6.out.frozen 5;have vC:Hid (aH (λk=>k=Wb.heap.size) Wc W6):=Bz.out.trans ED (λ_ _ h=>h);clear r0 r4 r5 s4 g4 yG ED GQ Bz;go_upto_region 17 with(fail)
         obtain⟨W7,Ai⟩:∃W7,Hid (W7=W6.setCell ⟨Wb.heap.size,5,none⟩ (.bool se)):=⟨_,rfl⟩;rw[<-Ai.out];have QL:aH (λk=>k=Wb.heap.size) W6 W7:=by rw[Ai.out];exact(aH.refl (λk=>k=Wb.heap.size) W6).setCell (.inl rfl) _
         have xH:Hid (Own W7 56 Wb.heap.size [.int .i64 yr,.int .i64 ya,.int .i64 (max yl lo),.int .i64 (min yh hi),.int .i64 (min yf fi),.bool se]):=by
          show Own _ _ _ _;rw[Ai.out];exact D6.out.set (i:=5) (by simp) _
         have hs6:=vC.out.size;have n0:=(bP QL (by omega) hne).trans m0;have EA:Hid (aH (λk=>k=Wb.heap.size) Wc W7):=vC.out.trans QL (λ_ _ h=>h);have t0:W7.cell? ⟨Wb.heap.size,0,none⟩=some (.int .i64 yr):=xH.out.cell rfl;have t1:W7.cell? ⟨Wb.heap.size,1,none⟩=some (.int .i64 ya):=xH.out.cell rfl;have t2:W7.cell? ⟨Wb.heap.size,2,none⟩=some (.int .i64 (max yl lo)):=xH.out.cell rfl;have t3:W7.cell? ⟨Wb.heap.size,3,none⟩=some (.int .i64 (min yh hi)):=xH.out.cell rfl;have t4:W7.cell? ⟨Wb.heap.size,4,none⟩=some (.int .i64 (min yf fi)):=xH.out.cell rfl;have t5:W7.cell? ⟨Wb.heap.size,5,none⟩=some (.bool se):=xH.out.cell rfl;clear m0 m5 s5 g5 Ai QL D6 vC;have Lm:=ah (QK.out.turn EA.out (by omega) (by omega) (λk hk e=>by omega));have He:Hid (aH (λk=>k=mf\/k=mo) Wa W7):=vB.out.trans EA.out (λi hi e=>by omega);obtain⟨nF,hnF,wz⟩:=Lm.out.f;obtain⟨w2,hrun,hm2,htr⟩:=d9.put qZ AP Tryz.underlying160 wz (by have:=Nc.out;unfold maxLen;omega) hre (Ci hre) (.agg #[.int .i64 yr,.int .i64 ya,.int .i64 (max yl lo),.int .i64 (min yh hi),.int .i64 (min yf fi),.bool se]);have hut:=gP htr;have HJ2:Hid (Ei W3 mf mo (LK++F.take (j+1)) OK false w2):=by
          show Ei _ _ _ _ _ _ _;have hsm:=YK.out;rw[tT.out]at hsm⊢;obtain⟨nO,Sv,hmo⟩:=Lm.out.o;refine⟨⟨_,by rw[List.length_append,List.length_singleton];split<;>omega,hm2.congr (λr=>?_)⟩,⟨nO,Sv,hmo.upd hut (λe=>UC e.symm)⟩,Lm.out.upd.trans hut (λ_ _ h=>.inl h),hsm⟩;exact vG (x:=⟨re,ac,lo,hi,fi,se⟩) Sw.out r
         have uR:Hid (aH (λk=>k=mf\/k=mo) Wa w2):=He.out.trans hut (λ_ _ h=>.inl h);clear wz hm2 htr hut Lm He EA xH QK vB YK Sw;go_wp2
         go_roundg (F.length - (j+1))
         case measure=>rw[HG2.out];omega
         case rel=>exact⟨j+1,_,rfl,by omega,by go_num,rfl,HJ2,uR⟩
      |true=>
       cases ys with
       |false=>
        as_aux_lemma=>
         go_upto_region 14 with(fail)
         refine mX (w1:=Wc.drew.setCell ⟨Wb.heap.size,2,none⟩ (.int .i64 (max yl lo))) 13 11 (by omega) (by simp) (by kernel_rfl) (by kernel_rfl) ?_;simp only[List.take_succ_cons,List.take_zero,List.drop_succ_cons,List.drop_zero];refine iV rfl (λK hK=>?_);go_simp;refine hK _ ?_;clear hK K;refine yD rfl (by kernel_rfl) (λK hK=>?_);go_simp;refine hK _ ?_;clear hK K;repeat(refine iV rfl (λK hK=>?_);go_simp;refine hK _ ?_;clear hK K)
         refine AV rfl rfl ?_ ?_
         .go_simp
         go_simp;repeat(refine iV rfl (λK hK=>?_);go_simp;refine hK _ ?_;clear hK K)
         refine ET ?_;gi_wp2;go_upto_region 15 with(fail)
         obtain⟨W5,nW⟩:∃W5,Hid (W5=((Wc.setCell ⟨Wb.heap.size,2,none⟩ (.int .i64 (max yl lo))).setCell ⟨Wb.heap.size,3,none⟩ (.int .i64 (min yh hi))).drew):=⟨_,rfl⟩;rw[<-nW.out];have Bz:Hid (aH (λk=>k=Wb.heap.size) Wc W5):=by show aH _ _ _;rw[nW.out];exact(((aH.refl (λk=>k=Wb.heap.size) Wc).setCell (.inl rfl) _).setCell (.inl rfl) _).drew
         have GQ:Hid (Own W5 56 Wb.heap.size [.int .i64 yr,.int .i64 ya,.int .i64 (max yl lo),.int .i64 (min yh hi),.int .i64 yf,.bool false]):=by
          show Own _ _ _ _;rw[nW.out];exact((YJ.out.set (i:=2) (by simp) _).set (i:=3) (by simp) _).keep ((aH.refl (λ_=>False) _).drew) (λh=>h)
         have r0:=(bP Bz.out (by omega) hne).trans p0;have r4:=(bP Bz.out (by omega) hne).trans p4;have r5:=(bP Bz.out (by omega) hne).trans p5;have s4:W5.cell? ⟨Wb.heap.size,4,none⟩=some (.int .i64 yf):=GQ.out.cell rfl;have g4:=GQ.out.frozen 4;clear p0 p1 p2 p3 p4 p5 o0 o1 o2 o3 z2 z3 nW;go_upto_region 16 with(fail)
         obtain⟨W6,yG⟩:∃W6,Hid (W6=W5.setCell ⟨Wb.heap.size,4,none⟩ (.int .i64 (min yf fi))):=⟨_,rfl⟩;rw[<-yG.out];have ED:aH (λk=>k=Wb.heap.size) W5 W6:=by rw[yG.out];exact(aH.refl (λk=>k=Wb.heap.size) W5).setCell (.inl rfl) _
         have D6:Hid (Own W6 56 Wb.heap.size [.int .i64 yr,.int .i64 ya,.int .i64 (max yl lo),.int .i64 (min yh hi),.int .i64 (min yf fi),.bool false]):=by
          show Own _ _ _ _;rw[yG.out];exact GQ.out.set (i:=4) (by simp) _
         have hs5:=Bz.out.size;have m0:=(bP ED (by omega) hne).trans r0;have m5:=(bP ED (by omega) hne).trans r5;have s5:W6.cell? ⟨Wb.heap.size,5,none⟩=some (.bool false):=D6.out.cell rfl;have g5:=D6.out.frozen 5;have vC:Hid (aH (λk=>k=Wb.heap.size) Wc W6):=Bz.out.trans ED (λ_ _ h=>h);clear r0 r4 r5 s4 g4 yG ED GQ Bz;go_upto_region 17 with(fail)
         obtain⟨W7,Ai⟩:∃W7,Hid (W7=W6.setCell ⟨Wb.heap.size,5,none⟩ (.bool false)):=⟨_,rfl⟩;rw[<-Ai.out];have QL:aH (λk=>k=Wb.heap.size) W6 W7:=by rw[Ai.out];exact(aH.refl (λk=>k=Wb.heap.size) W6).setCell (.inl rfl) _
         have xH:Hid (Own W7 56 Wb.heap.size [.int .i64 yr,.int .i64 ya,.int .i64 (max yl lo),.int .i64 (min yh hi),.int .i64 (min yf fi),.bool false]):=by
          show Own _ _ _ _;rw[Ai.out];exact D6.out.set (i:=5) (by simp) _
         have hs6:=vC.out.size;have n0:=(bP QL (by omega) hne).trans m0;have EA:Hid (aH (λk=>k=Wb.heap.size) Wc W7):=vC.out.trans QL (λ_ _ h=>h);have t0:W7.cell? ⟨Wb.heap.size,0,none⟩=some (.int .i64 yr):=xH.out.cell rfl;have t1:W7.cell? ⟨Wb.heap.size,1,none⟩=some (.int .i64 ya):=xH.out.cell rfl;have t2:W7.cell? ⟨Wb.heap.size,2,none⟩=some (.int .i64 (max yl lo)):=xH.out.cell rfl;have t3:W7.cell? ⟨Wb.heap.size,3,none⟩=some (.int .i64 (min yh hi)):=xH.out.cell rfl;have t4:W7.cell? ⟨Wb.heap.size,4,none⟩=some (.int .i64 (min yf fi)):=xH.out.cell rfl;have t5:W7.cell? ⟨Wb.heap.size,5,none⟩=some (.bool false):=xH.out.cell rfl;clear m0 m5 s5 g5 Ai QL D6 vC;have Lm:=ah (QK.out.turn EA.out (by omega) (by omega) (λk hk e=>by omega));have He:Hid (aH (λk=>k=mf\/k=mo) Wa W7):=vB.out.trans EA.out (λi hi e=>by omega);obtain⟨nF,hnF,wz⟩:=Lm.out.f;obtain⟨w2,hrun,hm2,htr⟩:=d9.put qZ AP Tryz.underlying160 wz (by have:=Nc.out;unfold maxLen;omega) hre (Ci hre) (.agg #[.int .i64 yr,.int .i64 ya,.int .i64 (max yl lo),.int .i64 (min yh hi),.int .i64 (min yf fi),.bool false]);have hut:=gP htr;have HJ2:Hid (Ei W3 mf mo (LK++F.take (j+1)) OK (ya==ac) w2):=by
          show Ei _ _ _ _ _ _ _;have hsm:=YK.out;rw[tT.out]at hsm⊢;obtain⟨nO,Sv,hmo⟩:=Lm.out.o;refine⟨⟨_,by rw[List.length_append,List.length_singleton];split<;>omega,hm2.congr (λr=>?_)⟩,⟨nO,Sv,hmo.upd hut (λe=>UC e.symm)⟩,Lm.out.upd.trans hut (λ_ _ h=>.inl h),hsm⟩;exact vG (x:=⟨re,ac,lo,hi,fi,se⟩) Sw.out r
         have uR:Hid (aH (λk=>k=mf\/k=mo) Wa w2):=He.out.trans hut (λ_ _ h=>.inl h);clear wz hm2 htr hut Lm He EA xH QK vB YK Sw;go_wp2
         go_roundg (F.length - (j+1))
         case measure=>rw[HG2.out];omega
         case rel=>exact⟨j+1,_,rfl,by omega,by go_num,rfl,HJ2,uR⟩
       |true=>
        as_aux_lemma=>
         go_upto_region 14 with(fail)
         refine mX (w1:=Wc.drew.setCell ⟨Wb.heap.size,2,none⟩ (.int .i64 (max yl lo))) 13 11 (by omega) (by simp) (by kernel_rfl) (by kernel_rfl) ?_;simp only[List.take_succ_cons,List.take_zero,List.drop_succ_cons,List.drop_zero];refine iV rfl (λK hK=>?_);go_simp;refine hK _ ?_;clear hK K;refine yD rfl (by kernel_rfl) (λK hK=>?_);go_simp;refine hK _ ?_;clear hK K;repeat(refine iV rfl (λK hK=>?_);go_simp;refine hK _ ?_;clear hK K)
         refine AV rfl rfl ?_ ?_
         .go_simp
         go_simp;repeat(refine iV rfl (λK hK=>?_);go_simp;refine hK _ ?_;clear hK K)
         refine ET ?_;gi_wp2;go_upto_region 15 with(fail)
         obtain⟨W5,nW⟩:∃W5,Hid (W5=((Wc.setCell ⟨Wb.heap.size,2,none⟩ (.int .i64 (max yl lo))).setCell ⟨Wb.heap.size,3,none⟩ (.int .i64 (min yh hi))).drew):=⟨_,rfl⟩;rw[<-nW.out];have Bz:Hid (aH (λk=>k=Wb.heap.size) Wc W5):=by show aH _ _ _;rw[nW.out];exact(((aH.refl (λk=>k=Wb.heap.size) Wc).setCell (.inl rfl) _).setCell (.inl rfl) _).drew
         have GQ:Hid (Own W5 56 Wb.heap.size [.int .i64 yr,.int .i64 ya,.int .i64 (max yl lo),.int .i64 (min yh hi),.int .i64 yf,.bool true]):=by
          show Own _ _ _ _;rw[nW.out];exact((YJ.out.set (i:=2) (by simp) _).set (i:=3) (by simp) _).keep ((aH.refl (λ_=>False) _).drew) (λh=>h)
         have r0:=(bP Bz.out (by omega) hne).trans p0;have r4:=(bP Bz.out (by omega) hne).trans p4;have r5:=(bP Bz.out (by omega) hne).trans p5;have s4:W5.cell? ⟨Wb.heap.size,4,none⟩=some (.int .i64 yf):=GQ.out.cell rfl;have g4:=GQ.out.frozen 4;clear p0 p1 p2 p3 p4 p5 o0 o1 o2 o3 z2 z3 nW;go_upto_region 16 with(fail)
         obtain⟨W6,yG⟩:∃W6,Hid (W6=W5.setCell ⟨Wb.heap.size,4,none⟩ (.int .i64 (min yf fi))):=⟨_,rfl⟩;rw[<-yG.out];have ED:aH (λk=>k=Wb.heap.size) W5 W6:=by rw[yG.out];exact(aH.refl (λk=>k=Wb.heap.size) W5).setCell (.inl rfl) _
         have D6:Hid (Own W6 56 Wb.heap.size [.int .i64 yr,.int .i64 ya,.int .i64 (max yl lo),.int .i64 (min yh hi),.int .i64 (min yf fi),.bool true]):=by
          show Own _ _ _ _;rw[yG.out];exact GQ.out.set (i:=4) (by simp) _
         have hs5:=Bz.out.size;have m0:=(bP ED (by omega) hne).trans r0;have m5:=(bP ED (by omega) hne).trans r5;have s5:W6.cell? ⟨Wb.heap.size,5,none⟩=some (.bool true):=D6.out.cell rfl;have g5:=D6.out.frozen 5;have vC:Hid (aH (λk=>k=Wb.heap.size) Wc W6):=Bz.out.trans ED (λ_ _ h=>h);clear r0 r4 r5 s4 g4 yG ED GQ Bz;go_upto_region 17 with(fail)
         obtain⟨W7,Ai⟩:∃W7,Hid (W7=W6.setCell ⟨Wb.heap.size,5,none⟩ (.bool se)):=⟨_,rfl⟩;rw[<-Ai.out];have QL:aH (λk=>k=Wb.heap.size) W6 W7:=by rw[Ai.out];exact(aH.refl (λk=>k=Wb.heap.size) W6).setCell (.inl rfl) _
         have xH:Hid (Own W7 56 Wb.heap.size [.int .i64 yr,.int .i64 ya,.int .i64 (max yl lo),.int .i64 (min yh hi),.int .i64 (min yf fi),.bool se]):=by
          show Own _ _ _ _;rw[Ai.out];exact D6.out.set (i:=5) (by simp) _
         have hs6:=vC.out.size;have n0:=(bP QL (by omega) hne).trans m0;have EA:Hid (aH (λk=>k=Wb.heap.size) Wc W7):=vC.out.trans QL (λ_ _ h=>h);have t0:W7.cell? ⟨Wb.heap.size,0,none⟩=some (.int .i64 yr):=xH.out.cell rfl;have t1:W7.cell? ⟨Wb.heap.size,1,none⟩=some (.int .i64 ya):=xH.out.cell rfl;have t2:W7.cell? ⟨Wb.heap.size,2,none⟩=some (.int .i64 (max yl lo)):=xH.out.cell rfl;have t3:W7.cell? ⟨Wb.heap.size,3,none⟩=some (.int .i64 (min yh hi)):=xH.out.cell rfl;have t4:W7.cell? ⟨Wb.heap.size,4,none⟩=some (.int .i64 (min yf fi)):=xH.out.cell rfl;have t5:W7.cell? ⟨Wb.heap.size,5,none⟩=some (.bool se):=xH.out.cell rfl;clear m0 m5 s5 g5 Ai QL D6 vC;have Lm:=ah (QK.out.turn EA.out (by omega) (by omega) (λk hk e=>by omega));have He:Hid (aH (λk=>k=mf\/k=mo) Wa W7):=vB.out.trans EA.out (λi hi e=>by omega);obtain⟨nF,hnF,wz⟩:=Lm.out.f;obtain⟨w2,hrun,hm2,htr⟩:=d9.put qZ AP Tryz.underlying160 wz (by have:=Nc.out;unfold maxLen;omega) hre (Ci hre) (.agg #[.int .i64 yr,.int .i64 ya,.int .i64 (max yl lo),.int .i64 (min yh hi),.int .i64 (min yf fi),.bool se]);have hut:=gP htr;have HJ2:Hid (Ei W3 mf mo (LK++F.take (j+1)) OK (ya==ac) w2):=by
          show Ei _ _ _ _ _ _ _;have hsm:=YK.out;rw[tT.out]at hsm⊢;obtain⟨nO,Sv,hmo⟩:=Lm.out.o;refine⟨⟨_,by rw[List.length_append,List.length_singleton];split<;>omega,hm2.congr (λr=>?_)⟩,⟨nO,Sv,hmo.upd hut (λe=>UC e.symm)⟩,Lm.out.upd.trans hut (λ_ _ h=>.inl h),hsm⟩;exact vG (x:=⟨re,ac,lo,hi,fi,se⟩) Sw.out r
         have uR:Hid (aH (λk=>k=mf\/k=mo) Wa w2):=He.out.trans hut (λ_ _ h=>.inl h);clear wz hm2 htr hut Lm He EA xH QK vB YK Sw;go_wp2
         go_roundg (F.length - (j+1))
         case measure=>rw[HG2.out];omega
         case rel=>exact⟨j+1,_,rfl,by omega,by go_num,rfl,HJ2,uR⟩
    .obtain rfl:j=F.length:=by omega
     have ZJ:Hid (LK++F.take F.length=LK++F):=by show _=_;rw[List.take_length]
     rw[ZJ.out]at HJ;have d2':=(bP (o:=2) HU.out hbl (by omega)).trans d2;clear ZJ hjl HU;go_wp2
     go_loopg [87] O.length (λg2 v87 wq=>∃j:Nat,g2=O.length - j/\j<=O.length/\v87= .int .i64 j/\Hid (Ei W3 mf mo (LK++F) (OK++O.take j) sm wq))
     case atStart=>exact⟨0,rfl,Nat.zero_le _,rfl,by rw[List.take_zero,List.append_nil];exact HJ⟩
     case round=>
      clear HJ d2';obtain⟨j,hg2,hj,rfl,HJ⟩:=hrel;have HG3:=ah hg2;clear hg2;by_cases hjl:j<O.length
      .obtain⟨ab,ao,hA,hab,hcell⟩:=HQQ.out.uQ (by omega)
       subst hA;obtain⟨⟨br,bn⟩,hx⟩:∃x,O[j]?=some x:=⟨O[j],List.getElem?_eq_getElem hjl⟩;have hbw:=HBU.out wr HJ.out.upd;have hin:F7 ⟨br,bn⟩:=HXB.out _ (List.mem_of_getElem? hx);have e0:wr.cell? ⟨ab,ao+j*2,none⟩=some (.int .i64 br):=hcell j _ hx wr hbw 0 (by omega);have e1:wr.cell? ⟨ab,ao+j*2+1,none⟩=some (.int .i64 bn):=hcell j _ hx wr hbw 1 (by omega);have tT:Hid (OK++O.take (j+1)=(OK++O.take j)++[⟨br,bn⟩]):=by show _=_;rw[bS hx,List.append_assoc]
       have Nc:Hid ((OK++O.take j).length<4000):=by show _<_;have:=HLO.out;rw[List.length_append,List.length_take];omega
       generalize OK++O.take j=QQ at HJ tT Nc;clear hx hcell hbw;have jO:(j:Int)<(O.length:Int):=by omega
       go_upto_region 22 with(fail)
       generalize CF:World.alloc _ _=Wb;obtain⟨hbb,hxb⟩:=bx1' CF;have q0:Wb.cell? ⟨wr.heap.size,0,none⟩=some (.int .i64 br):=(aG Wb _ 0 _ _ _ hxb).trans rfl;have q1:Wb.cell? ⟨wr.heap.size,1,none⟩=some (.int .i64 bn):=(aG Wb _ 1 _ _ _ hxb).trans rfl;have XA:=ah (HJ.out.on hbb);obtain⟨nO,Sv,hmo⟩:=XA.out.o;obtain⟨w2,hrun,hm2,htr⟩:=d9.put M8 Zf Tryz.underlying161 hmo (by have:=Nc.out;unfold maxLen;omega) hin (Zg hin) (.bool true);have hut:=gP htr;have HJ2:Hid (Ei W3 mf mo (LK++F) (OK++O.take (j+1)) sm w2):=by
        show Ei _ _ _ _ _ _ _;rw[tT.out];obtain⟨nF,hnF,wz⟩:=XA.out.f;exact⟨⟨nF,hnF,wz.upd hut UC⟩,⟨_,by rw[List.length_append,List.length_singleton];split<;>omega,hm2.congr (λb=>Xy QQ ⟨br,bn⟩ b)⟩,XA.out.upd.trans hut (λ_ _ h=>.inr h),XA.out.same⟩
       clear CF hbb hxb hmo hm2 htr hut e0 e1 XA HJ;go_wp2
       go_roundg (O.length - (j+1))
       case measure=>rw[HG3.out];omega
       case rel=>exact⟨j+1,rfl,by omega,by go_num,HJ2⟩
      .obtain rfl:j=O.length:=by omega
       have HJ2:Hid (Ei W3 mf mo (aL (fs.take (k+1))) (bg (fs.take (k+1))) sm wr):=by
        show Ei _ _ _ _ _ _ _;have h:=HJ.out;rw[List.take_length]at h;rw[hLk.out,WQ.out];exact h
       go_wp2
       go_roundg (fs.length - (k+1))
       case measure=>rw[iB.out];omega
       case rel=>exact⟨k+1,sm,rfl,by omega,by go_num,rfl,HJ2⟩
  .obtain rfl:k=fs.length:=by omega
   have ZJ:Hid (fs.take fs.length=fs):=List.take_length;rw[ZJ.out]at HJ;have hbw:=HBU.out wr HJ.out.upd;obtain⟨_,_,hcell0⟩:=Sr.out 0 f0 H0.out;have c0:wr.cell? ⟨fb,fo,none⟩=some (.int .i64 f0.house):=by have h:=hcell0 wr hbw 0 (by omega);rw[Nat.zero_mul]at h;exact h
   obtain⟨nF,hnF,wz⟩:=HJ.out.f;obtain⟨nO,Sv,hmo⟩:=HJ.out.o;have hlf:=λty=>d9.len Tryz.underlying160 wz ty;have hlo:=λty=>d9.len Tryz.underlying161 hmo ty;have n1:¬((4000:Int)<(nF:Int)):=by have:=HLL.out;omega
   have n2:¬((4000:Int)<(nO:Int)):=by have:=HOL.out;omega
   have HRW:Hid (Own wr 31 w.heap.size [.int .i64 0,.slice none 0 0,.slice none 0 0]):=⟨[],by rw[List.append_nil];exact HJ.out.upd.keep aco.out (λh=>by omega)⟩;have an6:=ah hlt;clear hcell0 wz hmo ZJ hlt;go_upto_region 28 with(fail)
   generalize hWa:World.alloc _ _=Wa;obtain⟨hba,hxa⟩:=bx1' hWa;obtain⟨rb,hrb⟩:∃rb,rb=wr.heap.size:=⟨_,rfl⟩;rw[<-hrb]at hxa;rw[<-hrb];have an7:=av hxa;have hsw:=HJ.out.upd.size;have hrm:mf<rb/\mo<rb/\w.heap.size<rb/\W3.heap.size<=rb:=by omega
   have HXA:Hid (Own Wa 31 rb [.int .i64 f0.house,.slice none 0 0,.slice none 0 0]):=⟨[],by rw[List.append_nil];exact hxa⟩;have HJa:=ah (HJ.out.on hba);have HRa:=ah (HRW.out.below hba);obtain⟨nF',ai5,afz⟩:=HJa.out.f;have HKY:=ah (Uw mf Wa);have C9:=ah (NK afz (by have:=HLL.out;omega));have Mi:=ah hrb;clear hrb;clear hWa hba hxa hlf hlo n1 n2 hnF Sv ai5 afz HJ HRW c0 hbw;go_wp2_with (first|(go_at_call 94;refine HKY.out.mono ?_;rintro e z0 ⟨rfl,rfl⟩)|(go_at_call 93;refine C9.out.mono ?_;rintro e Z3 ⟨T,TA,tc,rfl,hAt,hTB,hb,hTP,hTI,hTM⟩;refine Hid.out ?_));refine ah ?_;have hb3:Below Wa.heap.size Wa Z3:=ay (aK (aD _ _) _) hb;have HT:Hid (T=jR (aL fs)):=DJ hTP (λr=>by
    constructor
    .intro hr
     exact Eh.1 (by have h:=(hTM r (hTI r hr)).1 hr;unfold ql at h;simpa using h)
    .rintro⟨x,hx,rfl⟩
     exact(hTM x.ref (HR.out x hx)).2 (by unfold ql;simpa using Eh.2 ⟨x,hx,rfl⟩))
   have afB:Hid (∀r∈T,gW r/\∃x,look (aL fs) r=some x):=λr hr=>⟨hTI r hr,by
    rw[HT.out]at hr;obtain⟨z,h1,_⟩:=Ce hr;exact⟨z,h1⟩⟩
   have htl:T.length<=4000:=by rw[HT.out];exact Nat.le_trans (zW _) HLL.out
   have HAT:=ah hAt;clear hAt;have HTB:Hid (∀b off,TA=some ⟨b,off,none⟩->rb<b):=λb off e=>by have h:=hTB b off e;rw[aM]at h;omega
   have rF:=ah (HXA.out.below hb3);have Vy:=ah (HJa.out.on hb3);have HR3:=ah (HRa.out.below hb3);have hs3:=hb3.size;clear hb hTP hTI hTM hTB hb3 HXA HJa HRa HKY C9;obtain⟨is,hsi,hsz,hss,hsb⟩:=info_parts' (P:=Tryz.prog) (t:=56) (z:=some (.agg #[.int .i64 0,.int .i64 0,.int .i64 0,.int .i64 0,.int .i64 0,.bool false])) (s:=6) (b:=48) (by kernel_rfl);go_wp2
   go_loopg [113] T.length (λg2 ai8 wq=>∃(i:Nat)(A:Option Addr)(c:Nat),g2=T.length - i/\i<=T.length/\ai8= .int .i64 i/\Hid (Own wq 31 rb [.int .i64 f0.house,.slice A i c,.slice none 0 0])/\Hid (wq.ownsRow Z3.heap.size 56 6 (.slice A i c) i (bE ((T.take i).filterMap (look (aL fs)))))/\Hid (aH (λk=>k=rb) Z3 wq))
   case atStart=>exact⟨0,none,0,rfl,Nat.zero_le _,rfl,rF,World.ownsRow_nil _ _ _ _,aH.refl _ _⟩
   case round=>
    clear rF;obtain⟨i,A,c,hg2,hi,rfl,HX,QM,HU⟩:=hrel;have HG2:=ah hg2;clear hg2;by_cases hil:i<T.length
    .obtain⟨tb,acr,hTA,htb,htc⟩:=HAT.out.1.form (by omega) (by omega)
     subst hTA;obtain⟨r,hr⟩:∃r,T[i]?=some r:=⟨T[i],List.getElem?_eq_getElem hil⟩;obtain⟨hri,⟨re,ac,lo,hi2,fi,se⟩,hlx⟩:=afB.out r (List.mem_of_getElem? hr);have htn:=HTB.out tb acr rfl;have ct:wr.cell? ⟨tb,acr+i,none⟩=some (.int .i64 r):=by
      rw[bP HU.out htb (by omega),htc i (by omega),List.getElem?_map,hr];rfl
     obtain⟨nF,hnF,wz⟩:=Vy.out.f;have hlk:=d9.look AP Tryz.underlying160 (wz.upd HU.out (by omega)) (aaD wr) hri (Ci hri);have hv:ql (aL fs) r=some (G9 ⟨re,ac,lo,hi2,fi,se⟩):=by unfold ql;rw[hlx];rfl
     rw[hv]at hlk;simp only[Option.getD_some,G9,aB.cells]at hlk;have b0:wr.cell? ⟨rb,0,none⟩=some (.int .i64 f0.house):=HX.out.cell rfl;have b1:wr.cell? ⟨rb,1,none⟩=some (.slice A i c):=HX.out.cell rfl;have tT:Hid ((T.take (i+1)).filterMap (look (aL fs))=(T.take i).filterMap (look (aL fs))++[⟨re,ac,lo,hi2,fi,se⟩]):=by
      show _=_;rw[bS hr,List.filterMap_append];simp[hlx]
     have iT:(i:Int)<(T.length:Int):=by omega
     have Um:=HU.out.size;clear hr hlx hv wz hnF htc;go_wp2_with (at_builtin;refine iI rfl _ _ 28 rfl 56 is (.agg #[.int .i64 0,.int .i64 0,.int .i64 0,.int .i64 0,.int .i64 0,.bool false]) 6 48 Tryz.underlying28 hsi hsz hss hsb rfl (by decide) Z3.heap.size _ _ _ rfl QM.out [.int .i64 re,.int .i64 ac,.int .i64 lo,.int .i64 hi2,.int .i64 fi,.bool se] _ rfl rfl (by intro u hu;simp only[List.mem_cons,List.not_mem_nil,or_false]at hu;rcases hu with rfl|rfl|rfl|rfl|rfl|rfl<;>rfl) rfl (by unfold maxLen;omega) (by omega) (by omega) ?_;intro g6 c6 w6 h1 h2;refine Hid.out ?_);refine ah ?_;have hnb:∀k,(Value.slice A i c).ownBlock=some k->Z3.heap.size<=k:=λk e=>(QM.out.lt k e).1;have YL:Z3.heap.size<=g6:=(h1.lt g6 rfl).1;have vC:Hid (aH (λk=>Z3.heap.size<=k) wr w6):=((aH.refl _ wr).alloc _).trans (aH.jm h2) (λk _ h=>hnb k h);have UD:Hid (Own w6 31 rb [.int .i64 f0.house,.slice A i c,.slice none 0 0]):=HX.out.keep vC.out (by omega);have II:Hid (w6.ownsRow Z3.heap.size 56 6 (.slice (some ⟨g6,0,none⟩) (i+1) c6) (i+1) (bE ((T.take (i+1)).filterMap (look (aL fs))))):=by
      show World.ownsRow _ _ _ _ _ _ _;rw[tT.out];have e:∀(l:List aB)(x:aB),bE (l++[x])=bE l++x.cells:=λl x=>by unfold bE;rw[List.flatMap_append];simp
      rw[e];exact h1
     have t1:w6.cell? ⟨rb,1,none⟩=some (.slice A i c):=UD.out.cell rfl;have z1:=UD.out.frozen 1;clear h1 h2 hlk b0 b1 ct;go_wp2
     go_roundg (T.length - (i+1))
     case measure=>rw[HG2.out];omega
     case rel=>
      refine⟨i+1,_,_,rfl,by omega,by go_num,UD.out.set (i:=1) (by simp) _,xP II.out (λe=>by simp only[Value.ownBlock,Option.some.injEq]at e;omega) _,?_⟩;exact(HU.out.trans vC.out (λk hk h=>by omega)).setCell (.inl rfl) _
    .obtain rfl:i=T.length:=by omega
     have HFT:Hid ((T.take T.length).filterMap (look (aL fs))=dO (aL fs)):=by show _=_;rw[List.take_length,HT.out];rfl
     rw[HFT.out]at QM;have ZJ:Hid (T.length=(dO (aL fs)).length):=by show _=_;rw[xQ,HT.out]
     rw[ZJ.out]at QM HX;have HJw:Hid (Ei W3 mf mo (aL fs) (bg fs) sm wr):=Vy.out.turn HU.out (by omega) (by omega) (λk hk e=>by omega);have HRw:Hid (Own wr 31 w.heap.size [.int .i64 0,.slice none 0 0,.slice none 0 0]):=HR3.out.keep HU.out (by omega);have Um:=HU.out.size;obtain⟨nO,Sv,hmo⟩:=HJw.out.o;have HKY:=ah (Ux mo wr);have C9:=ah (EC hmo (by have:=HOL.out;omega));clear hmo Sv HFT HT afB HAT HTB hil htl;go_wp2_with (first|(go_at_call 96;refine HKY.out.mono ?_;rintro e z0 ⟨rfl,rfl⟩)|(go_at_call 95;refine C9.out.mono ?_;rintro e Z5 ⟨OO,OA,oc,rfl,hAt,hOB,hb,hOP,hOI,hOM⟩;refine Hid.out ?_));refine ah ?_;have hb5:Below wr.heap.size wr Z5:=ay (aK (aD _ _) _) hb;have HOO:Hid (oI (bg fs) OO):=⟨hOP,λx=>by
      have hin:x∈bg fs->F7 x:=λh=>by
       obtain⟨⟨y,hy,e1⟩,u,hu,e2⟩:=HK.out x h;exact⟨e1▸HR.out y hy,e2▸HR.out u hu⟩
      have hh:(QH (bg fs) x).isSome=true↔x∈bg fs:=by unfold QH;split<;>simp[*]
      constructor
      .exactλh=>hh.1 ((hOM x (hOI x h)).1 h)
      .exactλh=>(hOM x (hin h)).2 (hh.2 h)⟩
     have HAT:=ah hAt;clear hAt;have HOB:Hid (∀b off,OA=some ⟨b,off,none⟩->wr.heap.size<b):=λb off e=>by have h:=hOB b off e;rw[aM]at h;omega
     have HGW:Hid (∀k,(Value.slice A (dO (aL fs)).length c).ownBlock=some k->k<wr.heap.size):=λk e=>(QM.out.lt k e).2;have HX5:=ah (HX.out.below hb5);have HJ5:=ah (HJw.out.on hb5);have Mj:=ah (HRw.out.below hb5);have XB:=ah (dM QM.out hb5);have hs5:=hb5.size;have t2:Z5.cell? ⟨rb,2,none⟩=some (.slice none 0 0):=HX5.out.cell rfl;have z2:=HX5.out.frozen 2;clear hb hOP hOI hOM hOB hb5 HX HJw HRw HKY C9 QM;go_upto_region 34 with(fail)
     obtain⟨Z6,HZ6⟩:∃Z6,Hid (Z6=Z5.setCell ⟨rb,2,none⟩ (.slice OA OO.length oc)):=⟨_,rfl⟩;rw[<-HZ6.out];have ED:aH (λk=>k=rb) Z5 Z6:=by rw[HZ6.out];exact(aH.refl (λk=>k=rb) Z5).setCell (.inl rfl) _
     have UD:Hid (Own Z6 31 rb [.int .i64 f0.house,.slice A (dO (aL fs)).length c,.slice OA OO.length oc]):=by
      show Own _ _ _ _;rw[HZ6.out];exact HX5.out.set (i:=2) (by simp) _
     have HJ6:Hid (Ei W3 mf mo (aL fs) (bg fs) sm Z6):=HJ5.out.turn ED (by omega) (by omega) (λk hk e=>by omega);have II:Hid (Own Z6 31 w.heap.size [.int .i64 0,.slice none 0 0,.slice none 0 0]):=Mj.out.keep ED (by omega);have D6:Hid (At Z6 2 OA OO.length oc (eB OO)):=uG HAT.out (by omega) ED (λb off e h=>by have:=HOB.out b off e;omega);have Sy:Hid (Z6.ownsRow Z3.heap.size 56 6 (.slice A (dO (aL fs)).length c) (dO (aL fs)).length (bE (dO (aL fs)))):=by
      show World.ownsRow _ _ _ _ _ _ _;rw[HZ6.out];exact xP XB.out (λe=>by have:=(XB.out.lt _ e).1;simp only at this;omega) _
     have hs6:=ED.size;have ZK:Hid (Below w.heap.size w Z6):=HBU.out Z6 HJ6.out.upd;clear HZ6 ED HX5 HJ5 Mj HAT XB t2 z2;have r0:Z6.cell? ⟨w.heap.size,0,none⟩=some (.int .i64 0):=II.out.cell rfl;have r1:Z6.cell? ⟨w.heap.size,1,none⟩=some (.slice none 0 0):=II.out.cell rfl;have r2:Z6.cell? ⟨w.heap.size,2,none⟩=some (.slice none 0 0):=II.out.cell rfl;have y0:=II.out.frozen 0;have y1:=II.out.frozen 1;have y2:=II.out.frozen 2;cases sm with
     |false=>
      have HEV:Hid (Wn (aL fs) (bg fs)):=.inl (λh=>by have:=HJ6.out.same.2 h;cases this);go_wp2;obtain⟨Wf,lW⟩:∃Wf,Hid (Wf=((Z6.setCell ⟨w.heap.size,0,none⟩ (.int .i64 0)).setCell ⟨w.heap.size,1,none⟩ (.slice none 0 0)).setCell ⟨w.heap.size,2,none⟩ (.slice none 0 0)):=⟨_,rfl⟩;rw[<-lW.out];have XC:Own Wf 31 w.heap.size [.int .i64 0,.slice none 0 0,.slice none 0 0]:=by
       rw[lW.out];exact((II.out.set (i:=0) (by simp) _).set (i:=1) (by simp) _).set (i:=2) (by simp) _
      have yI:aH (λk=>k=w.heap.size) Z6 Wf:=by rw[lW.out];exact(((aH.refl (λk=>k=w.heap.size) _).setCell (.inl rfl) _).setCell (.inl rfl) _).setCell (.inl rfl) _
      have d0:Wf.cell? ⟨w.heap.size,0,none⟩=some (.int .i64 0):=XC.cell rfl;have d1:Wf.cell? ⟨w.heap.size,1,none⟩=some (.slice none 0 0):=XC.cell rfl;have d2:Wf.cell? ⟨w.heap.size,2,none⟩=some (.slice none 0 0):=XC.cell rfl;refine bodyPost_ret (v:=.tuple #[.agg #[.int .i64 0,.slice none 0 0,.slice none 0 0],.int .i64 23]) (by simp[results,Tryz.results62,go_sem,d0,d1,d2]) rfl ⟨0,[],[],23,none,0,none,0,rfl,⟨fD _ _,fD _ _⟩,⟨λb off e=>(by cases e),λb off e=>(by cases e)⟩,ZK.out.trans (yI.below ZK.out.size (λk hk=>by omega)),.inr ⟨rfl,rfl,rfl,rfl,HEV.out⟩⟩
     |true=>
      obtain⟨fk,hOF,ajb,hfw,hfr,hfo⟩:∃fk,GH Z6 A fk (dO (aL fs))/\fk<Z6.heap.size/\w.heap.size<fk/\fk≠rb/\∀b off,OA=some ⟨b,off,none⟩->b≠fk:=by
       rcases rE Sy.out with⟨h1,h2,h3⟩|⟨g,h1,h2,h3⟩
       .exact⟨mf,.inl (List.eq_nil_of_length_eq_zero h1),by omega,hmw,by omega,λb off e=>by have:=HOB.out b off e;omega⟩
       .refine⟨g,.inr ⟨h1,h3⟩,h3.lt,by omega,by omega,λb off e=>?_⟩
        have h4:=HOB.out b off e;have h5:=HGW.out g (by rw[h1];rfl);omega
      have hFA:fM Z6 ⟨⟨A,c⟩,⟨OA,oc⟩⟩ ⟨f0.house,dO (aL fs),OO⟩:=⟨by
       obtain⟨A',c',e,h,_⟩:=xO Sy.out (oD _);simp only[Value.slice.injEq]at e;rw[e.1,e.2.2];exact h,D6.out⟩
      have hjl:(dO (aL fs)).length<=4000:=by rw[xQ];exact Nat.le_trans (zW _) HLL.out
      have abO:OO.length<=4000:=Nat.le_trans (G8 HOO.out) HOL.out;have HKN:Hid (Known (dO (aL fs)) OO):=HK.out.known HOO.out;have HTI:=ah (Nq A c fk OA oc f0.house (dO (aL fs)) OO Z6 hFA hOF ajb (λx hx=>by
       obtain⟨y,hy,e,_⟩:=(DK hx).act;rw[<-e];exact HR.out y hy) (kM _) hjl abO HKN.out)
      have YK:Hid (zl (aL fs)):=HJ6.out.same.1 rfl;have v0:Z6.cell? ⟨rb,0,none⟩=some (.int .i64 f0.house):=UD.out.cell rfl;have v1:Z6.cell? ⟨rb,1,none⟩=some (.slice A (dO (aL fs)).length c):=UD.out.cell rfl;have v2:Z6.cell? ⟨rb,2,none⟩=some (.slice OA OO.length oc):=UD.out.cell rfl;have Vv:Hid ((A=none->(dO (aL fs)).length=0/\c=0)/\(dO (aL fs)).length<=c/\c<=maxLen):=hFA.facts.2;have YM:Hid (∀b off,A=some ⟨b,off,none⟩->w.heap.size<=b):=λb off e=>by
       have h:=(Sy.out.lt b (by rw[e];rfl)).1;omega
      clear hFA hOF HJ6 Sy;go_wp2_with (go_at_call 98;refine HTI.out.mono ?_;rintro e z ⟨T',rfl,hti,hof,huz⟩;refine Hid.out ?_);refine ah ?_;have HRz:=ah (II.out.keep huz (by omega));have ZL:=ah (UD.out.keep huz (λe=>hfr e.symm));have HOz:Hid (At z 2 OA OO.length oc (eB OO)):=uG D6.out (by omega) huz hfo;have ZM:Hid (Below w.heap.size w z):=ZK.out.trans (huz.below ZK.out.size (λk hk=>by omega));have HTG:=ah hti;have Zn:=ah hof;have ab1:=C8 hti;have r0:z.cell? ⟨w.heap.size,0,none⟩=some (.int .i64 0):=HRz.out.cell rfl;have r1:z.cell? ⟨w.heap.size,1,none⟩=some (.slice none 0 0):=HRz.out.cell rfl;have r2:z.cell? ⟨w.heap.size,2,none⟩=some (.slice none 0 0):=HRz.out.cell rfl;have y0:=HRz.out.frozen 0;have y1:=HRz.out.frozen 1;have y2:=HRz.out.frozen 2;have v0':z.cell? ⟨rb,0,none⟩=some (.int .i64 f0.house):=ZL.out.cell rfl;have v1':z.cell? ⟨rb,1,none⟩=some (.slice A (dO (aL fs)).length c):=ZL.out.cell rfl;have v2':z.cell? ⟨rb,2,none⟩=some (.slice OA OO.length oc):=ZL.out.cell rfl;clear hti hof huz v0 v1 v2 HTI;cases hb:sN T' with
      |false=>
       have HEV:Hid (Wn (aL fs) (bg fs)):=.inr ⟨T',OO,HOO.out,HTG.out,by
        unfold sN at hb;rw[List.all_eq_false]at hb;obtain⟨t,ht,hlt⟩:=hb;exact⟨t,ht,by simpa using hlt⟩⟩
       clear hb;go_wp2;obtain⟨Wf,lW⟩:∃Wf,Hid (Wf=((z.setCell ⟨w.heap.size,0,none⟩ (.int .i64 0)).setCell ⟨w.heap.size,1,none⟩ (.slice none 0 0)).setCell ⟨w.heap.size,2,none⟩ (.slice none 0 0)):=⟨_,rfl⟩;rw[<-lW.out];have XC:Own Wf 31 w.heap.size [.int .i64 0,.slice none 0 0,.slice none 0 0]:=by
        rw[lW.out];exact((HRz.out.set (i:=0) (by simp) _).set (i:=1) (by simp) _).set (i:=2) (by simp) _
       have yI:aH (λk=>k=w.heap.size) z Wf:=by rw[lW.out];exact(((aH.refl (λk=>k=w.heap.size) _).setCell (.inl rfl) _).setCell (.inl rfl) _).setCell (.inl rfl) _
       have d0:Wf.cell? ⟨w.heap.size,0,none⟩=some (.int .i64 0):=XC.cell rfl;have d1:Wf.cell? ⟨w.heap.size,1,none⟩=some (.slice none 0 0):=XC.cell rfl;have d2:Wf.cell? ⟨w.heap.size,2,none⟩=some (.slice none 0 0):=XC.cell rfl;refine bodyPost_ret (v:=.tuple #[.agg #[.int .i64 0,.slice none 0 0,.slice none 0 0],.int .i64 23]) (by simp[results,Tryz.results62,go_sem,d0,d1,d2]) rfl ⟨0,[],[],23,none,0,none,0,rfl,⟨fD _ _,fD _ _⟩,⟨λb off e=>(by cases e),λb off e=>(by cases e)⟩,ZM.out.trans (yI.below ZM.out.size (λk hk=>by omega)),.inr ⟨rfl,rfl,rfl,rfl,HEV.out⟩⟩
      |true=>
       have HFI:Hid (tC (aL fs) (bg fs) T' OO):=⟨YK.out,HOO.out,HTG.out,xG.1 hb⟩;clear hb;go_wp2;obtain⟨Wf,lW⟩:∃Wf,Hid (Wf=((z.setCell ⟨w.heap.size,0,none⟩ (.int .i64 f0.house)).setCell ⟨w.heap.size,1,none⟩ (.slice A (dO (aL fs)).length c)).setCell ⟨w.heap.size,2,none⟩ (.slice OA OO.length oc)):=⟨_,rfl⟩;rw[<-lW.out];have XC:Own Wf 31 w.heap.size [.int .i64 f0.house,.slice A (dO (aL fs)).length c,.slice OA OO.length oc]:=by
        rw[lW.out];exact((HRz.out.set (i:=0) (by simp) _).set (i:=1) (by simp) _).set (i:=2) (by simp) _
       have yI:aH (λk=>k=w.heap.size) z Wf:=by rw[lW.out];exact(((aH.refl (λk=>k=w.heap.size) _).setCell (.inl rfl) _).setCell (.inl rfl) _).setCell (.inl rfl) _
       have d0:Wf.cell? ⟨w.heap.size,0,none⟩=some (.int .i64 f0.house):=XC.cell rfl;have d1:Wf.cell? ⟨w.heap.size,1,none⟩=some (.slice A (dO (aL fs)).length c):=XC.cell rfl;have d2:Wf.cell? ⟨w.heap.size,2,none⟩=some (.slice OA OO.length oc):=XC.cell rfl;refine bodyPost_ret (v:=.tuple #[.agg #[.int .i64 f0.house,.slice A (dO (aL fs)).length c,.slice OA OO.length oc],.int .i64 0]) (by simp[results,Tryz.results62,go_sem,d0,d1,d2]) rfl ⟨f0.house,T',OO,0,A,c,OA,oc,by rw[ab1],⟨?_,uG HOz.out (by omega) yI (λb off e h=>?_)⟩,⟨YM.out,λb off e=>by have:=HOB.out b off e;omega⟩,ZM.out.trans (yI.below ZM.out.size (λk hk=>by omega)),.inl ⟨rfl,rfl,HFI.out⟩⟩
       .obtain⟨hc1,hc2,hc3⟩:=Vv.out
        rcases Zn.out with rfl|⟨h1,h2⟩
        .exact⟨⟨rfl,λu hu=>(by cases hu),λh=>absurd h (Nat.lt_irrefl _)⟩,λe=>⟨rfl,(hc1 e).2⟩,Nat.zero_le _,hc3⟩
        .subst h1
         exact(h2.keep yI (λe=>by omega)).Cb (tN _) (oD _) (Nat.le_trans (Nat.le_of_eq ab1) hc2) hc3
       .have:=HOB.out b off e;omega
end
section
open Go.RowKit Go.Shelf
theorem Hf{F:List aB}:∀{O:List aX}{p:Option aX},nU F p O=true->∀b∈O,jT F b.ref=true/\jT F b.next=true/\b.ref≠b.next
 |[],_,_,b,hb=>by cases hb
 |a::O,p,h,b,hb=>by
  simp only[nU,Bool.and_eq_true,Bool.not_eq_true',beq_eq_false_iff_ne]at h;rcases List.mem_cons.1 hb with e|e
  .subst e;exact⟨h.1,h.2.1,h.2.2.1⟩
  .exact Hf h.2.2.2.2 b e
theorem Hg{F:List aB}{r:Int}:jT F r=true↔∃x∈F,x.ref=r:=by simp[jT]
theorem NY{C:au}{f:bR}(h:fZ C f=true):nU f.facts none f.orders=true:=by
 simp only[fZ,Bool.and_eq_true]at h;exact h.2.2.2.2
theorem nu{C:au}{f:bR}(h:fZ C f=true):gY C 0 f.facts=true:=by
 simp only[fZ,Bool.and_eq_true]at h;exact h.2.2.2.1
theorem BA{C:au}{fs:List bR}(h:∀f∈fs,fZ C f=true):wU (aL fs) (bg fs):=λb hb=>by
 obtain⟨f,hf,hbf⟩:=List.mem_flatMap.1 hb;obtain⟨h1,h2,_⟩:=Hf (NY (h f hf)) b hbf;obtain⟨x,hx,e1⟩:=Hg.1 h1;obtain⟨y,hy,e2⟩:=Hg.1 h2;exact⟨⟨x,List.mem_flatMap.2 ⟨f,hf,hx⟩,e1⟩,y,List.mem_flatMap.2 ⟨f,hf,hy⟩,e2⟩
theorem Hl{z Wf:World}{t:TypeId}{rs:Nat}{x0 x1 x2 a b c:Value}(h:Own z t rs [x0,x1,x2])(hW:Wf=((z.setCell ⟨rs,0,none⟩ a).setCell ⟨rs,1,none⟩ b).setCell ⟨rs,2,none⟩ c):
 Wf.cell? ⟨rs,0,none⟩=some a/\Wf.cell? ⟨rs,1,none⟩=some b/\Wf.cell? ⟨rs,2,none⟩=some c/\aH (λk=>k=rs) z Wf:=by
 have hr:Own Wf t rs [a,b,c]:=by
  rw[hW];exact((h.set (i:=0) (by simp) _).set (i:=1) (by simp) _).set (i:=2) (by simp) _
 refine⟨hr.cell rfl,hr.cell rfl,hr.cell rfl,?_⟩;rw[hW];exact(((aH.refl (λk=>k=rs) _).setCell (.inl rfl) _).setCell (.inl rfl) _).setCell (.inl rfl) _
def NZ(C:au)(fs:List bR):Prop:=fs≠[]/\∀f∈fs,fZ C f=true
def EX(C:au)(fs:List bR)(ho':Int)(F':List aB)(O':List aX)(er:Int):Prop:=
 (er=1/\ho'=0/\F'=[]/\O'=[]/\¬NZ C fs)\/(NZ C fs/\∃f0,fs[0]?=some f0/\Xz f0.house (aL fs) (bg fs) ho' F' O' er)
def QN(C:au)(fs:List bR)(w:World)(e:Ending)(w':World):Prop:=
 ∃(ho':Int)(F':List aB)(O':List aX)(er:Int)(A:Option Addr)(c:Nat)(A':Option Addr)(c':Nat),e= .returned (.tuple #[.agg #[.int .i64 ho',.slice A F'.length c,.slice A' O'.length c'],.int .i64 er])/\fM w' ⟨⟨A,c⟩,⟨A',c'⟩⟩ ⟨ho',F',O'⟩/\((∀b off,A=some ⟨b,off,none⟩->w.heap.size<=b)/\∀b off,A'=some ⟨b,off,none⟩->w.heap.size<=b)/\Below w.heap.size w w'/\EX C fs ho' F' O' er
theorem XD(v:CV)(C:au)(sv:SV)(fs:List bR)(w:World)(hC:bU w v C)(hF:lK w sv fs)(hn:fs.length<=100)(hR:∀x∈aL fs,gW x.ref)(hL:(aL fs).length<=4000)(hO:(bg fs).length<=4000):
 Calls Tryz.prog 35 #[v.val C,.slice sv.A fs.length sv.c] w (QN C fs w):=by
 obtain⟨⟨dF,dG⟩,⟨dH,dK⟩,⟨dV,dn⟩,⟨dQ,dh⟩,⟨dz,dB⟩⟩:=v;obtain⟨sA,sc⟩:=sv;have HC:=ah hC;clear hC;have HF:=ah hF;clear hF;have HR:=ah hR;clear hR;have HL:=ah hL;clear hL;have HO:=ah hO;clear hO;simp only[CV.val,CV.cells];go_enter Tryz.func35,Tryz.ntmps35;go_upto_region 1 with(fail)
 generalize hW0:World.alloc _ _=W0;obtain⟨HB,hh0,g_⟩:=IQ hW0;clear hW0;obtain⟨jA,jB,jK,j4,j5,kV,lT⟩:=Fg hh0;have Mk:Hid (W0.heap[w.heap.size+1]?=some (.cells #[.int .i64 0,.slice none 0 0,.slice none 0 0] 31 (0,0))):=g_;have hs0:=av g_;clear hh0 g_;have HOW:Hid (∀z:Bl W0,Own z.val 31 (w.heap.size+1) [.int .i64 0,.slice none 0 0,.slice none 0 0]):=λz=>⟨[],by rw[List.append_nil];exact(z.prop.block _ hs0).trans Mk.out⟩;have r0:∀z:Bl W0,z.val.cell? ⟨w.heap.size+1,0,none⟩=some (.int .i64 0):=λz=>(HOW.out z).cell rfl;have r1:∀z:Bl W0,z.val.cell? ⟨w.heap.size+1,1,none⟩=some (.slice none 0 0):=λz=>(HOW.out z).cell rfl;have r2:∀z:Bl W0,z.val.cell? ⟨w.heap.size+1,2,none⟩=some (.slice none 0 0):=λz=>(HOW.out z).cell rfl;have y0:∀z:Bl W0,z.val.frozen? ⟨w.heap.size+1,0,none⟩=false:=λz=>(HOW.out z).frozen 0;have y1:∀z:Bl W0,z.val.frozen? ⟨w.heap.size+1,1,none⟩=false:=λz=>(HOW.out z).frozen 1;have y2:∀z:Bl W0,z.val.frozen? ⟨w.heap.size+1,2,none⟩=false:=λz=>(HOW.out z).frozen 2;change Code.wp _ _ _ _ (Bl.val (⟨W0,aD _ _⟩:Bl W0));generalize(⟨W0,aD _ _⟩:Bl W0)=s0;have EF:Hid (∀z:Bl W0,Below w.heap.size w z.val):=λz=>ay HB.out z.prop;by_cases hn0:fs.length=0
 .have hfs:fs=[]:=List.eq_nil_of_length_eq_zero hn0
  subst hfs;have n0:((0:Nat):Int)=0:=rfl;go_wp2;obtain⟨Wf,lW⟩:∃Wf,Hid (Wf=((s0.val.setCell ⟨w.heap.size+1,0,none⟩ (.int .i64 0)).setCell ⟨w.heap.size+1,1,none⟩ (.slice none 0 0)).setCell ⟨w.heap.size+1,2,none⟩ (.slice none 0 0)):=⟨_,rfl⟩;rw[<-lW.out];obtain⟨d0,d1,d2,yI⟩:=Hl (HOW.out s0) lW.out;refine bodyPost_ret (v:=.tuple #[.agg #[.int .i64 0,.slice none 0 0,.slice none 0 0],.int .i64 1]) (by simp[results,Tryz.results35,go_sem,d0,d1,d2]) rfl ⟨0,[],[],1,none,0,none,0,rfl,⟨fD _ _,fD _ _⟩,⟨λb off e=>(by cases e),λb off e=>(by cases e)⟩,(EF.out s0).trans (yI.below (EF.out s0).size (λk hk=>by omega)),.inl ⟨rfl,rfl,rfl,rfl,λh=>h.1 rfl⟩⟩
 .have n0:((fs.length:Int)==0)=false:=by simp;intro h;subst h;simp at hn0
  have n1:¬((fs.length:Int)=0):=by omega
  obtain⟨f0,h0⟩:∃f0,fs[0]?=some f0:=⟨_,List.getElem?_eq_getElem (by omega)⟩;obtain⟨fb,fo,kI,hfb,NV⟩:=HF.out.form (by omega);simp only at kI;subst kI;have Sr:=ah NV;clear NV;have H0:=ah h0;clear h0;go_wp2
  go_loopg [14] fs.length (λgk v14 wr=>∃(k:Nat)(z:Bl W0),gk=fs.length - k/\k<=fs.length/\v14= .int .i64 k/\wr=z.val/\Hid (∀(i:Nat)(f:bR),i<k->fs[i]?=some f->fZ C f=true))
  case atStart=>exact⟨0,s0,rfl,Nat.zero_le _,rfl,rfl,λi f h=>absurd h (Nat.not_lt_zero _)⟩
  case round=>
   obtain⟨k,z,eH,hk,rfl,rfl,HP⟩:=hrel;have iB:=ah eH;clear eH;by_cases hlt:k<fs.length
   .obtain⟨⟨ho,F,O⟩,hx⟩:∃x,fs[k]?=some x:=⟨fs[k],List.getElem?_eq_getElem hlt⟩
    obtain⟨⟨⟨gA,gc⟩,⟨qA,qc⟩⟩,hfa,hcell⟩:=Sr.out k _ hx;have e0:z.val.cell? ⟨fb,fo+k*3,none⟩=some (.int .i64 ho):=hcell z.val (EF.out z) 0 (by omega);have e1:z.val.cell? ⟨fb,fo+k*3+1,none⟩=some (.slice gA F.length gc):=hcell z.val (EF.out z) 1 (by omega);have e2:z.val.cell? ⟨fb,fo+k*3+2,none⟩=some (.slice qA O.length qc):=hcell z.val (EF.out z) 2 (by omega);have YN:=ah hfa;clear hfa;have HX:=ah hx;clear hx hcell;have kF:(k:Int)<(fs.length:Int):=by omega
    go_upto_region 6 with(fail)
    generalize hWa:World.alloc _ _=Wa;obtain⟨hba,hxa⟩:=bx1' hWa;clear hWa;have o9:Hid (Below W0.heap.size W0 Wa):=ay z.prop hba;obtain⟨d0,d1,d2⟩:=kc3 hxa;have c0:=vW o9.out jA;have c1:=vW o9.out jB;have c2:=vW o9.out jK;have c3:=vW o9.out j4;have c4:=vW o9.out j5;have c5:=vW o9.out kV;have c6:=vW o9.out lT;have u0:=vW o9.out r0;have u1:=vW o9.out r1;have u2:=vW o9.out r2;have Lp:Hid (∀s:Bl Wa,Below W0.heap.size W0 s.val):=λs=>ay o9.out s.prop;have v0:∀s:Bl Wa,s.val.frozen? ⟨w.heap.size+1,0,none⟩=false:=λs=>y0 ⟨s.val,Lp.out s⟩;have v1:∀s:Bl Wa,s.val.frozen? ⟨w.heap.size+1,1,none⟩=false:=λs=>y1 ⟨s.val,Lp.out s⟩;have v2:∀s:Bl Wa,s.val.frozen? ⟨w.heap.size+1,2,none⟩=false:=λs=>y2 ⟨s.val,Lp.out s⟩;have KU:=ah (λs:Bl Wa=>zw (⟨⟨dF,dG⟩,⟨dH,dK⟩,⟨dV,dn⟩,⟨dQ,dh⟩,⟨dz,dB⟩⟩:CV) C ⟨⟨gA,gc⟩,⟨qA,qc⟩⟩ ⟨ho,F,O⟩ s.val (HC.out.below (ay HB.out (Lp.out s))) (YN.out.below (ay HB.out (Lp.out s))));simp only[CV.val,CV.cells,FV.val,FV.cells]at KU;clear e0 e1 e2 hxa hba jA jB jK j4 j5 kV lT r0 r1 r2 y0 y1 y2;change Code.wp _ _ _ _ (Bl.val (⟨Wa,aD _ _⟩:Bl Wa));generalize(⟨Wa,aD _ _⟩:Bl Wa)=sa;generalize hE:fZ C ⟨ho,F,O⟩=E at KU;have HE:=ah hE;clear hE;go_wp2_with (go_at_call 12;refine(KU.out _).mono ?_;rintro e z2 ⟨rfl,hz⟩;obtain⟨z2,rfl⟩:=Bl.on hz;clear hz;refine Hid.out ?_);refine ah ?_;cases E with
    |false=>
     have Qw:Hid (¬NZ C fs):=λh=>by have h2:=h.2 _ (List.mem_of_getElem? HX.out);rw[HE.out]at h2;cases h2
     obtain⟨s2,hs2⟩:∃s2:Bl W0,z2.val=s2.val:=⟨⟨z2.val,Lp.out z2⟩,rfl⟩;have HS2:=ah hs2;clear hs2;go_wp2;rw[HS2.out];obtain⟨Wf,lW⟩:∃Wf,Hid (Wf=((s2.val.setCell ⟨w.heap.size+1,0,none⟩ (.int .i64 0)).setCell ⟨w.heap.size+1,1,none⟩ (.slice none 0 0)).setCell ⟨w.heap.size+1,2,none⟩ (.slice none 0 0)):=⟨_,rfl⟩;rw[<-lW.out];obtain⟨d0,d1,d2,yI⟩:=Hl (HOW.out s2) lW.out;refine bodyPost_ret (v:=.tuple #[.agg #[.int .i64 0,.slice none 0 0,.slice none 0 0],.int .i64 1]) (by simp[results,Tryz.results35,go_sem,d0,d1,d2]) rfl ⟨0,[],[],1,none,0,none,0,rfl,⟨fD _ _,fD _ _⟩,⟨λb off e=>(by cases e),λb off e=>(by cases e)⟩,(EF.out s2).trans (yI.below (EF.out s2).size (λk hk=>by omega)),.inl ⟨rfl,rfl,rfl,rfl,Qw.out⟩⟩
    |true=>
     have Mf:Hid (∀(i:Nat)(f:bR),i<k+1->fs[i]?=some f->fZ C f=true):=λi f hi hf=>by
      by_cases e:i=k
      .subst e
       rw[HX.out]at hf;cases hf
       exact HE.out
      .exact HP.out i f (by omega) hf
     obtain⟨s2,hs2⟩:∃s2:Bl W0,z2.val=s2.val:=⟨⟨z2.val,Lp.out z2⟩,rfl⟩;have HS2:=ah hs2;clear hs2;go_wp2
     go_roundg (fs.length - (k+1))
     case measure=>rw[iB.out];omega
     case rel=>exact⟨k+1,s2,rfl,by omega,by go_num,HS2.out,Mf⟩
   .obtain rfl:k=fs.length:=by omega
    have afE:Hid (NZ C fs):=⟨λe=>by rw[e]at hn0;exact hn0 rfl,λf hf=>by
     obtain⟨i,hi⟩:=List.mem_iff_getElem?.1 hf;exact HP.out i f (List.getElem?_eq_some_iff.1 hi).1 hi⟩
    have HJN:=ah (G_ fs ⟨some ⟨fb,fo,none⟩,sc⟩ f0 z.val (HF.out.below (EF.out z)) H0.out hn HR.out HL.out HO.out (BA afE.out.2));simp only at HJN;clear HP hlt iB;go_wp2_with (go_at_call 62;refine HJN.out.mono ?_;rintro e z2 ⟨ho',F',O',er,A,c,A',c',rfl,hfa,hnw,hb,hj⟩;obtain⟨z2,rfl⟩:=Bl.on hb;refine Hid.out ?_);refine ah ?_;have YN:=ah hfa;clear hfa;have HJ:=ah hj;clear hj hb;have Pj:=ah hnw;clear hnw;have hsz:=z.prop.size;go_wp2;obtain⟨Wf,lW⟩:∃Wf,Hid (Wf=((z2.val.setCell ⟨w.heap.size+1,0,none⟩ (.int .i64 ho')).setCell ⟨w.heap.size+1,1,none⟩ (.slice A F'.length c)).setCell ⟨w.heap.size+1,2,none⟩ (.slice A' O'.length c')):=⟨_,rfl⟩;rw[<-lW.out];obtain⟨d0,d1,d2,yI⟩:=Hl (HOW.out z2) lW.out;refine bodyPost_ret (v:=.tuple #[.agg #[.int .i64 ho',.slice A F'.length c,.slice A' O'.length c'],.int .i64 er]) (by simp[results,Tryz.results35,go_sem,d0,d1,d2]) rfl ⟨ho',F',O',er,A,c,A',c',rfl,⟨uG YN.out.facts (by omega) yI (λb off e h=>?_),uG YN.out.orders (by omega) yI (λb off e h=>?_)⟩,⟨λb off e=>?_,λb off e=>?_⟩,(EF.out z2).trans (yI.below (EF.out z2).size (λk hk=>by omega)),.inr ⟨afE.out,f0,H0.out,HJ.out⟩⟩
    .have:=Pj.out.1 b off e;omega
    .have:=Pj.out.2 b off e;omega
    .have:=Pj.out.1 b off e;omega
    .have:=Pj.out.2 b off e;omega
end
open Go.RowKit Go.Shelf
def EY(l:List (bR×FV)):List Value:=l.flatMap (λp=>FV.cells p.2 p.1)
theorem lK.row{w:World}{t:TypeId}{b c:Nat}{l:List (bR×FV)}(h:Own w t b (EY l))(hc:l.length<=c)(hm:c<=maxLen)(hf:∀p∈l,fM w p.2 p.1):lK w ⟨some ⟨b,0,none⟩,c⟩ (l.map Prod.fst):=by
 have hz:(l.map Prod.fst).zip (l.map Prod.snd)=l:=by rw[<-List.unzip_fst,<-List.unzip_snd];exact List.zip_unzip l
 refine⟨l.map Prod.snd,by simp,?_,λi f t hi ht=>?_⟩
 .rw[hz,List.length_map]
  refine h.Cb (gK (λp:bR×FV=>FV.cells p.2 p.1) 3 (λ_=>rfl) l) (λu hu=>?_) hc hm;obtain⟨p,_,hp⟩:=List.mem_flatMap.1 hu;simp only[FV.cells,List.mem_cons,List.not_mem_nil,or_false]at hp;rcases hp with rfl|rfl|rfl<;>rfl
 .have h1:(l.map Prod.fst).zip (l.map Prod.snd)=l:=hz
  have h2:((l.map Prod.fst).zip (l.map Prod.snd))[i]?=some (f,t):=by rw[List.getElem?_zip_eq_some];exact⟨hi,ht⟩
  rw[h1]at h2;exact hf _ (List.mem_of_getElem? h2)
attribute [local go_sem] jS stillUpon bK
end Go.Proofs.YtpmdedcnbockhaaGreatDoor
