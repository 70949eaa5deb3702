/- part -/
import Derived.Test.YtpmdedcnbockhaaGreatDoorS22
set_option maxRecDepth 100000
set_option maxHeartbeats 8000000
namespace Go.Proofs
open Go.Shelf Go.RowKit Go.Lib Go.Sort Tryz
end Go.Proofs
namespace Go.Proofs.YtpmdedcnbockhaaGreatDoor
section
open Go.RowKit Go.Sort Go.Shelf Tryz
theorem OX(x:Int)(w:World):Calls prog 92 #[.int .i64 x] w (λe w'=>e= .returned (.bool false)/\w'=w):=by
 have h:(x !=x)=false:=by simp
 go_enter func92,ntmps92;go_wp2;go_ret;exact⟨by first|rfl|simp,rfl⟩
theorem Iu(x y:Int)(w:World):Calls prog 60 #[.int .i64 x,.int .i64 y] w (λe w'=>e= .returned (.int .i64 (lK x y))/\w'=w):=by
 generalize hE:lK x y=E;simp only[lK]at hE;repeat' (first|(replace hE:=uI hE (by assumption))|(replace hE:=uJ hE (by assumption))|(replace hE:=mP hE;rcases hE with⟨q,q',hE⟩|⟨q,q',hE⟩)|(replace hE:=jL hE;rcases hE with⟨q,hE⟩|⟨q,hE⟩)|fail)
 all_goals
  subst hE;go_enter func60,ntmps60;go_wp2_with (go_at_call 92;refine(OX _ _).mono ?_;rintro e z ⟨rfl,rfl⟩;refine Hid.out ?_);refine Lib.hid ?_;go_wp2_with (go_at_call 92;refine(OX _ _).mono ?_;rintro e z ⟨rfl,rfl⟩;refine Hid.out ?_);refine Lib.hid ?_;go_wp2;go_ret;exact⟨rfl,rfl⟩
theorem adK(g:Nat)(x y:Int)(w:World)(h0:w.cell? ⟨g,0,none⟩=some (.int .i64 x))(h1:w.cell? ⟨g,1,none⟩=some (.int .i64 y)):Calls prog 61 #[.slice (some ⟨g,0,none⟩) 2 2] w (λe w'=>e= .returned (.int .i64 (cond (x==0) y x))/\w'=w):=by
 generalize hE:cond (x==0) y x=E;cases q:(x==0)with
 |false=>
  have q':(x !=0)=true:=by simp[bne,q]
  rw[q,cond_false]at hE;subst hE;go_enter func61,ntmps61;go_wp2
  go_loopg [8] 0 (λgk v8 wr=>v8= .int .i64 0/\w=wr)
  case atStart=>exact⟨rfl,rfl⟩
  case round=>
   obtain⟨rfl,rfl⟩:=hrel;go_wp2;go_ret;exact⟨rfl,rfl⟩
 |true=>
  have q':(x !=0)=false:=by simp[bne,q]
  rw[q,cond_true]at hE;subst hE;go_enter func61,ntmps61;go_wp2
  go_loopg [8] 2 (λgk v8 wr=>∃j:Nat,gk=2 - j/\j<=2/\v8= .int .i64 j/\w=wr/\(j=2->y=0))
  case atStart=>exact⟨0,rfl,by omega,rfl,rfl,λh=>by omega⟩
  case round=>
   obtain⟨j,eO,hj,rfl,rfl,hy⟩:=hrel;have iw:=Lib.hid eO;clear eO;rcases(by omega:j=0\/j=1\/j=2)with rfl|rfl|rfl
   .clear hy
    go_wp2
    go_roundg 1
    case measure=>have:=iw.out;omega
    case rel=>exact⟨1,by omega,by omega,by go_num,rfl,λh=>by omega⟩
   .clear hy
    cases p:(y==0)with
    |false=>
     have p':(y !=0)=true:=by simp[bne,p]
     go_wp2;go_ret;exact⟨rfl,rfl⟩
    |true=>
     have p':(y !=0)=false:=by simp[bne,p]
     have hy0:y=0:=by simpa using p
     have HY:=Lib.hid hy0;clear hy0;go_wp2
     go_roundg 0
     case measure=>have:=iw.out;omega
     case rel=>exact⟨2,by omega,by omega,by go_num,rfl,λ_=>HY.out⟩
   .have hy0:=hy rfl
    clear hy;subst hy0;go_wp2;go_ret;exact⟨rfl,rfl⟩
theorem Rw(a b:aX)(w:World):Calls prog 97 #[.agg #[.int .i64 a.ref,.int .i64 a.next],.agg #[.int .i64 b.ref,.int .i64 b.next]] w (λe w'=>e= .returned (.int .i64 (Db a b))/\∃q os',w'=grow (w.drewN q) os'):=by
 obtain⟨ar,an⟩:=a;obtain⟨br,bn⟩:=b;simp only[Db];have HO:=Lib.hid (λz:World=>adK z.heap.size (lK ar br) (lK an bn) (z.alloc (.cells #[.int .i64 (lK ar br),.int .i64 (lK an bn)] 3)) ((cell_of_row _ _ 0 _ _ _ (heap_alloc_new z _)).trans rfl) ((cell_of_row _ _ 1 _ _ _ (heap_alloc_new z _)).trans rfl));have zm:=Lib.hid (λW:World=>Iu ar br W);have Jo:=Lib.hid (λW:World=>Iu an bn W);generalize hx:lK ar br=x at HO zm⊢;generalize hy:lK an bn=y at HO Jo⊢;generalize hE:cond (x==0) y x=E at HO⊢;clear hx hy hE;go_enter func97,ntmps97;go_upto_region 1 with(fail)
 have HG:Hid (∃os,((w.alloc (.cells #[.int .i64 ar,.int .i64 an] 78)).alloc (.cells #[.int .i64 br,.int .i64 bn] 78))=grow w os):=⟨_,by rw[alloc_eq_grow,alloc_eq_grow,grow_grow]⟩;generalize hW0:World.alloc _ _=W0 at HG;obtain⟨HB,hh0,gG⟩:=F5 hW0;clear hW0 HB;have iC:W0.cell? ⟨w.heap.size,0,none⟩=some (.int .i64 ar):=(cell_of_row W0 _ 0 _ _ _ hh0).trans rfl;have iD:W0.cell? ⟨w.heap.size,1,none⟩=some (.int .i64 an):=(cell_of_row W0 _ 1 _ _ _ hh0).trans rfl;have jM:W0.cell? ⟨w.heap.size+1,0,none⟩=some (.int .i64 br):=(cell_of_row W0 _ 0 _ _ _ gG).trans rfl;have jY:W0.cell? ⟨w.heap.size+1,1,none⟩=some (.int .i64 bn):=(cell_of_row W0 _ 1 _ _ _ gG).trans rfl;clear hh0 gG;refine iU 10 ?_;simp only[List.take_succ_cons,List.take_zero,List.drop_succ_cons,List.drop_zero];repeat(go_big_quiet_step (first|(go_at_call_of 60 (Value.int IntKind.i64 ar);refine(zm.out _).mono ?_;rintro e z ⟨h1,h2⟩;exact⟨h1,_,h2⟩)|(go_at_call_of 60 (Value.int IntKind.i64 an);refine(Jo.out _).mono ?_;rintro e z ⟨h1,h2⟩;exact⟨h1,_,h2⟩)))
 refine wpQuiet_nil ?_;rintro _ ⟨mq,rfl⟩;gi_wp2_with (fail);refine⟨trivial,rfl,(callsIn_wide.2 (HO.out _)).mono ?_⟩;rintro e z ⟨rfl,rfl⟩;gi_wp2;go_wp2;go_ret;obtain⟨os,hos⟩:=HG.out;exact⟨rfl,mq,_,by rw[alloc_eq_grow,hos,show(grow w os).drewN mq=grow (w.drewN mq) os from rfl,grow_grow]⟩
instance:Inhabited aX:=⟨⟨0,0⟩⟩
theorem zH(a b:aX):ltOf Db a b=decide (FD a b):=by
 unfold ltOf Db lK FD;by_cases h1:a.ref<b.ref
 .simp[h1]
 .by_cases h2:b.ref<a.ref
  .have h3:¬a.ref=b.ref:=by omega
   simp[h1,h2,h3]
  .have h3:a.ref=b.ref:=by omega
   by_cases h4:a.next<b.next
   .simp[h3,h4]
   .by_cases h5:b.next<a.next<;>simp[h3,h4,h5]
theorem akW:SWO (ltOf Db) where
 irrefl x:=by rw[zH];simp[FH]
 trans x y z h1 h2:=by rw[zH,decide_eq_true_eq]at*;exact Kt _ _ _ h1 h2
 ntrans x y z h1 h2:=by rw[zH,decide_eq_false_iff_not]at*;unfold FD at*;omega
theorem Iw(T:List aX):(flatK aX.cells 2 T.toArray).toList=eT T:=by
 apply List.ext_getElem?;intro j;rcases Nat.lt_or_ge j (T.length*2)with hj|hj
 .have hq:j/2<T.length:=by omega
  have h1:=bG aX.cells 2 (λ_=>rfl) T (j/2) (j % 2) _ (List.getElem?_eq_getElem hq) (by omega);rw[show j/2*2+j % 2=j by omega]at h1;show _=(T.flatMap aX.cells)[j]?;rw[h1];unfold flatK;simp only[Array.toList_map,Array.toList_range,List.size_toArray,List.getElem?_map,List.getElem?_range hj,Option.map_some];have h2:T.toArray[j/2]! =T[j/2]:=by simp[hq]
  rw[h2];rcases Nat.mod_two_eq_zero_or_one j with h3|h3<;>rw[h3]<;>rfl
 .rw[List.getElem?_eq_none (by rw[Array.length_toList,size_flatK];simpa using hj),List.getElem?_eq_none (by rw[q8];exact hj)]
theorem Mw{Bm mb nn:Nat}{D0:DataW Value}(w:World)(hm:w.cell? ⟨Bm,0,none⟩=some (.map (some mb)))(hown:w.ownsMap prog 78 RM mb nn D0)(hsz:Maps.size D0<=1000000):
 Calls prog 137 #[.func (.func 139) #[] #[.pointer (some ⟨Bm,0,none⟩)]] w (λe w'=>∃(T:List aX)(A:Option Addr)(c:Nat),e= .returned (.slice A T.length c)/\w'.ownsRow w.heap.size 78 2 (.slice A T.length c) T.length (eT T)/\Below w.heap.size w w'/\T.length<=Maps.size D0/\T.Nodup/\(∀x∈T,GK x)/\∀x,GK x->(x∈T↔Maps.has D0 (pK x)=true)):=by
 have HA:=Lib.hid (Ir w hm hown hsz);go_enter func137,ntmps137;go_wp2_with (go_at_call 161;refine HA.out.mono ?_;rintro e z ⟨T,v,rfl,h1,h2,h0,h3,h4,h5⟩;obtain⟨A,c,rfl⟩:=ownsRow_form h1;refine Hid.out ?_);refine Lib.hid ?_;have H0:=Lib.hid h0;clear h0;have H1:=Lib.hid h1;clear h1;have H2:=Lib.hid h2;clear h2;have H3:=Lib.hid h3;clear h3;have H4:=Lib.hid h4;clear h4;have H5:=Lib.hid h5;clear h5;go_wp2;go_ret;exact⟨T,A,c,rfl,H1.out,H2.out,H0.out,H3.out,H4.out,H5.out⟩
theorem Rx{w:World}{g cap n:Nat}{cur:Array Value}{t:TypeId}{size:Nat}{cs:List Value}(hg:w.heap[g]?=some (.cells cur t (0,0)))(hl:cs.length=n*size)(h1:∀u∈cs,u.oneCell'=true)(hc:∀j,j<cs.length->cur[j]?=cs[j]?)(hn:n<=cap)(hm:cap<=maxLen):At w size (some ⟨g,0,none⟩) n cap cs:=
 ⟨⟨hl,h1,λ_=>⟨_,rfl,λj u hj=>by rw[Addr.add_lit,Nat.zero_add,cell_of_row w g j _ _ _ hg,hc j (List.getElem?_eq_some_iff.1 hj).1,hj]⟩⟩,λe=>(by cases e),hn,hm⟩
theorem J6(T:List aX)(A:Option Addr)(c B:Nat)(w:World)(hown:w.ownsRow B 78 2 (.slice A T.length c) T.length (eT T))(hT:T.length<=1000000)(hnd:T.Nodup):
 Calls prog 138 #[.slice A T.length c,.func (.func 97) #[] #[]] w (λe w'=>e= .returned (.tuple #[])/\∃T':List aX,T'.length=T.length/\T'.Perm T/\T'.Pairwise FD/\At w' 2 A T'.length c (eT T')/\(∀b off,A=some ⟨b,off,none⟩->B<=b)/\aG (λk=>B<=k) w w'):=by
 obtain⟨A',c',e',hAt,hB⟩:=yO hown (Co T);obtain⟨rfl,rfl⟩:A=A'/\c=c':=by
  simp only[Value.slice.injEq]at e';exact⟨e'.1,e'.2.2⟩
 rcases hown.2 with⟨e,h0⟩|⟨g,cap,cur,e,hgB,hg,h1,h2,h3,h4⟩
 .obtain⟨rfl,rfl⟩:A=none/\c=0:=by
   simp only[Value.slice.injEq]at e;exact⟨e.1,e.2.2⟩
  have hT0:T=[]:=List.eq_nil_of_length_eq_zero h0;subst hT0;have h:=AnyF.slices_SortFunc_none Tryz.sortFuncB none 0 (.func (.func 97) #[] #[]) w;change Calls prog 138 _ _ _ at h;refine h.mono ?_;rintro e w' ⟨rfl,rfl⟩;exact⟨rfl,[],rfl,List.Perm.refl _,List.Pairwise.nil,hAt,hB,aG.refl _ _⟩
 .obtain⟨rfl,rfl⟩:A=some ⟨g,0,none⟩/\c=cap:=by
   simp only[Value.slice.injEq]at e;exact⟨e.1,e.2.2⟩
  have hcl:=q8 T;have hcc:∀j,j<T.length*2->cur[j]?=(eT T)[j]?:=λj hj=>by
   rw[<-h4,List.getElem?_take,if_pos (by omega),Array.getElem?_toList]
  have hH:HoldsK aX.cells 2 w g 0 T.toArray:=by
   intro j hj;rw[size_flatK]at hj;simp only[List.size_toArray]at hj;refine⟨?_,by simp[World.frozen?,hg]⟩;rw[Nat.zero_add,cell_of_row w g j _ _ _ hg,hcc j hj];have h5:(flatK aX.cells 2 T.toArray)[j]?=(eT T)[j]?:=by rw[<-Iw,Array.getElem?_toList]
   rw[<-h5];have hjs:j<(flatK aX.cells 2 T.toArray).size:=by rw[size_flatK];simpa using hj
   rw[getElem!_pos _ j hjs,Array.getElem?_eq_getElem hjs];rfl
  have hcon:=AnyQ.slices_SortFunc Tryz.sortFuncB 2 (λw=>by kernel_rfl) (λw=>by kernel_rfl) aX.cells (λ_=>rfl) (λx v hv=>by simp[aX.cells]at hv;rcases hv with rfl|rfl<;>rfl) Db akW 97 #[] g 0 c T.toArray w (enters_of func97 (by kernel_rfl) rfl) (λ_ _ _ _ x y=>Rw x y _) hH (aB hg) (by simp;omega);change Calls prog 138 _ _ _ at hcon;simp only[List.size_toArray]at hcon;refine hcon.mono ?_;rintro e w' ⟨rfl,d',n,os,hp,hs,rfl⟩;obtain⟨hsz,_,hperm⟩:=hp;have hsz':d'.toList.length=T.length:=by rw[Array.length_toList,hsz];simp
  have hpp:d'.toList.Perm T:=by
   rw[Array.extract_eq_self_of_le (by rw[hsz];simp),Array.extract_eq_self_of_le (by simp)]at hperm;simpa using hperm
  have hnd':d'.toList.Nodup:=hpp.nodup_iff.2 hnd;have hcd:(flatK aX.cells 2 d').toList=eT d'.toList:=Iw d'.toList;have hgl:=aB hg;have hg':(sortWorldK aX.cells 2 w g 0 n d' os).heap[g]?=some (.cells (putCells id 0 (flatK aX.cells 2 d') cur) 78 (0,0)):=by
   unfold sortWorldK putRowK;rw[heap_grow_old _ _ (by simp[putRow,mapBlock];exact hgl)];simp[putRow,mapBlock,Sort.ahead,Array.getElem?_modify,hg,onCells]
  refine⟨rfl,d'.toList,hsz',hpp,?_,?_,hB,?_⟩
  .rw[List.pairwise_iff_getElem]
   intro i j hi hj hij;have h5:=hs i j (Nat.zero_le _) hij (by omega);rw[getElem!_pos d' j (by simpa using hj),getElem!_pos d' i (by simpa using hi),zH,decide_eq_false_iff_not]at h5;rcases aae d'.toList[i] d'.toList[j]with h6|h6|h6
   .exact h6
   .have:=List.pairwise_iff_getElem.1 hnd' i j hi hj hij
    exact absurd h6 this
   .exact absurd h6 h5
  .refine Rx hg' (q8 _) (Co _) (λj hj=>?_) (by omega) h2
   rw[q8,hsz']at hj;rw[<-hcd,Array.getElem?_toList];have hjs:j<(flatK aX.cells 2 d').size:=by rw[size_flatK,<-Array.length_toList,hsz'];exact hj
   have hjc:j<cur.size:=by rw[h3];omega
   unfold putCells;rw[Array.getElem?_mapIdx,Array.getElem?_eq_getElem hjc,Array.getElem?_eq_getElem hjs];have hj2:j<d'.size*2:=by simpa using hjs
   simp only[Option.map_some,Nat.zero_le,true_and,Nat.zero_add,size_flatK,hj2,if_true,Nat.sub_zero,id];rw[getElem!_pos _ j hjs]
  .have hgr:w.grownBy (sortWorldK aX.cells 2 w g 0 n d' os) (some g):=by
    refine⟨rfl,rfl,rfl,by simp[sortWorldK,putRowK,putRow,mapBlock,grow,Sort.ahead],λk hk hne=>?_⟩;unfold sortWorldK putRowK;rw[heap_grow_old _ _ (by simp[putRow,mapBlock];exact hk)];have:g≠k:=λe=>hne (by rw[e]);simp[putRow,mapBlock,Sort.ahead,Array.getElem?_modify,this]
   exact aG.mono (aG.jK hgr) (λi _ h=>by injection h with h;subst h;exact hgB)
def agX(g:aX->Option Value)(w:World)(e:Ending)(w':World):Prop:=
 ∃(T:List aX)(A:Option Addr)(c:Nat),e= .returned (.slice A T.length c)/\At w' 2 A T.length c (eT T)/\(∀b off,A=some ⟨b,off,none⟩->w.heap.size<=b)/\Below w.heap.size w w'/\T.Pairwise FD/\(∀x∈T,GK x)/\∀x,GK x->(x∈T↔(g x).isSome=true)
theorem Fj{w:World}{b n:Nat}{g:aX->Option Value}(h:eD GK 78 pK w b n g)(hn:n<=1000000):
 Calls prog 95 #[.func (.func 139) #[] #[.pointer (some ⟨w.heap.size,0,none⟩)],.func (.func 97) #[] #[]] (w.alloc (.cells #[.map (some b)] 161)) (agX g (w.alloc (.cells #[.map (some b)] 161))):=by
 have hba:Below w.heap.size w (w.alloc (.cells #[.map (some b)] 161)):=Below.jX (Below.refl _ _) _;have hma:=h.below h.lt hba;have hcell:(w.alloc (.cells #[.map (some b)] 161)).cell? ⟨w.heap.size,0,none⟩=some (.map (some b)):=(cell_of_row _ _ 0 _ _ _ (heap_alloc_new w _)).trans rfl;generalize w.alloc (.cells #[.map (some b)] 161)=W at hma hcell⊢;obtain⟨D,h1,h2,h3,h4,h5⟩:=hma;have hsz:Maps.size D<=1000000:=by omega
 have HA:=Lib.hid (Mw W hcell h1 hsz);have H4:=Lib.hid h4;clear h4;have H1:=Lib.hid h1;clear h1;clear h3 h5 hba;go_enter func95,ntmps95;go_wp2_with (go_at_call 137;refine HA.out.mono ?_;rintro e z ⟨T,A,c,rfl,hown,hb,hl0,hnd,hin,hmem⟩;refine Hid.out ?_);refine Lib.hid ?_;have hTl:T.length<=1000000:=by omega
 have HS:=Lib.hid (J6 T A c W.heap.size z hown hTl hnd);have HB:=Lib.hid hb;clear hb;have HI:=Lib.hid hin;clear hin;have HM:=Lib.hid hmem;clear hmem;clear hown;go_wp2_with (go_at_call 138;refine HS.out.mono ?_;rintro e z2 ⟨rfl,T2,hl,hp,hpw,hAt,hBn,hU⟩;refine Hid.out ?_);refine Lib.hid ?_;have HL:=Lib.hid hl;clear hl;have HP:=Lib.hid hp;clear hp;have HPW:=Lib.hid hpw;clear hpw;have HAT:=Lib.hid hAt;clear hAt;have HBN:=Lib.hid hBn;clear hBn;have HU:=Lib.hid hU;clear hU;go_wp2;go_ret;refine⟨T2,A,c,by rw[HL.out];rfl,HAT.out,HBN.out,HB.out.trans (HU.out.below HB.out.size (λk hk=>hk)),HPW.out,λx hx=>HI.out x (HP.out.mem_iff.1 hx),λx hx=>?_⟩;rw[HP.out.mem_iff,HM.out x hx,H4.out x hx]
end
section
open Go.RowKit Go.Shelf Tryz
theorem Vt{L:List ay}{x:ay}(h:look L x.ref=none):Ad (L++[x])↔Ad L:=by
 have hn:∀y∈L,y.ref≠x.ref:=by
  rcases BH L x.ref with⟨_,h2⟩|⟨z,h2,_⟩
  .exact h2
  .rw[h]at h2;cases h2
 constructor
 .exactλhs a ha b hb e=>hs a (List.mem_append_left _ ha) b (List.mem_append_left _ hb) e
 .intro hs a ha b hb e
  rcases List.mem_append.1 ha with h1|h1<;>rcases List.mem_append.1 hb with h2|h2
  .exact hs a h1 b h2 e
  .rw[List.mem_singleton.1 h2]at e;exact absurd e (hn a h1)
  .rw[List.mem_singleton.1 h1]at e;exact absurd e.symm (hn b h2)
  .rw[List.mem_singleton.1 h1,List.mem_singleton.1 h2]
theorem Vu{L:List ay}{x y:ay}(h:look L x.ref=some y):Ad (L++[x])↔(Ad L/\y.act=x.act):=by
 have hl:vL L x.ref y:=by
  rcases BH L x.ref with⟨h1,_⟩|⟨z,h2,h3⟩
  .rw[h]at h1;cases h1
  .rw[h]at h2;cases h2;exact h3
 obtain⟨u,hu,e1,e2⟩:=hl.act;constructor
 .exactλhs=>⟨λa ha b hb e=>hs a (List.mem_append_left _ ha) b (List.mem_append_left _ hb) e,by rw[<-e2];exact hs u (List.mem_append_left _ hu) x (by simp) e1⟩
 .rintro⟨hs,ha⟩ a h1 b h2 e
  have key:∀z∈L,z.ref=x.ref->z.act=x.act:=λz hz hr=>by rw[<-ha,<-e2];exact hs z hz u hu (hr.trans e1.symm)
  rcases List.mem_append.1 h1 with h1|h1<;>rcases List.mem_append.1 h2 with h2|h2
  .exact hs a h1 b h2 e
  .rw[List.mem_singleton.1 h2]at e⊢;exact key a h1 e
  .rw[List.mem_singleton.1 h1]at e⊢;exact(key b h2 e.symm).symm
  .rw[List.mem_singleton.1 h1,List.mem_singleton.1 h2]
theorem EG{L:List ay}{r:Int}:(look L r).isSome=true↔∃x∈L,x.ref=r:=by
 rcases BH L r with⟨h1,h2⟩|⟨z,h1,h2⟩
 .rw[h1]
  simp only[Option.isSome_none,Bool.false_eq_true,false_iff];rintro⟨x,hx,e⟩;exact h2 x hx e
 .rw[h1]
  obtain⟨x,hx,e,_⟩:=h2.act;simp only[Option.isSome_some,true_iff];exact⟨x,hx,e⟩
theorem OY(r:Int):∀l:List Int,(zO r l).length<=l.length+1
 |[]=>by simp[zO]
 |k::l=>by
  unfold zO;split
  .simp
  .split
   .simp
   .have:=OY r l
    simp only[List.length_cons];omega
theorem AV(L:List ay):(keysOf L).length<=L.length:=by
 induction L using qQ with
 |h0=>simp[keysOf]
 |h1 L x ih=>rw[xI,List.length_append,List.length_singleton];have:=OY x.ref (keysOf L);omega
theorem yQ(L:List ay):(dI L).length=(keysOf L).length:=by rw[<-vM,List.length_map]
theorem wN{α:Type}[DecidableEq α]:∀{l1 l2:List α},l1.Nodup->(∀x∈l1,x∈l2)->l1.length<=l2.length
 |[],_,_,_=>Nat.zero_le _
 |a::l1,l2,h,hs=>by
  rw[List.nodup_cons]at h;have ha:a∈l2:=hs a (by simp);have h1:=wN (l1:=l1) (l2:=l2.erase a) h.2 (λx hx=>(List.mem_erase_of_ne (λe=>h.1 (by rw[<-e];exact hx))).2 (hs x (List.mem_cons_of_mem _ hx)));rw[List.length_erase_of_mem ha]at h1;have:=List.length_pos_of_mem ha;rw[List.length_cons];omega
instance:DecidableEq aX:=λa b=>by
 obtain⟨a1,a2⟩:=a;obtain⟨b1,b2⟩:=b;exact decidable_of_iff (a1=b1/\a2=b2) (by simp)
theorem Iy{O OO:List aX}(h:pI O OO):OO.length<=O.length:=
 wN (List.Pairwise.imp (S:=λa b=>a≠b) (λ{a b} hl e=>FH a (by rw[<-e]at hl;exact hl)) h.1) (λx hx=>(h.2 x).1 hx)
def Iz(x:ay):Value:=.agg x.cells.toArray
def qK(L:List ay)(r:Int):Option Value:=(look L r).map Iz
def Ry(O:List aX)(b:aX):Option Value:=if b∈O then some (.bool true)else none
theorem Rz{L:List ay}{x:ay}(h:look L x.ref=none)(r:Int):(if r=x.ref then some (Iz x)else qK L r)=qK (L++[x]) r:=by
 unfold qK;rw[C9];unfold xG;by_cases e:r=x.ref
 .rw[if_pos e,if_pos e.symm,e,h];rfl
 .rw[if_neg e,if_neg (λh=>e h.symm)]
theorem vW{L:List ay}{x y:ay}(h:look L x.ref=some y)(r:Int):(if r=x.ref then some (Iz (Qw y x))else qK L r)=qK (L++[x]) r:=by
 unfold qK;rw[C9];unfold xG;by_cases e:r=x.ref
 .rw[if_pos e,if_pos e.symm,e,h];rfl
 .rw[if_neg e,if_neg (λh=>e h.symm)]
theorem YI(O:List aX)(x b:aX):(if b=x then some (Value.bool true)else Ry O b)=Ry (O++[x]) b:=by
 unfold Ry;by_cases e:b=x
 .rw[if_pos e,if_pos (by simp[e])]
 .rw[if_neg e]
  by_cases h:b∈O
  .rw[if_pos h,if_pos (List.mem_append_left _ h)]
  .rw[if_neg h,if_neg (λk=>by rcases List.mem_append.1 k with k|k;exact h k;exact e (List.mem_singleton.1 k))]
theorem eD.congr{α:Type}{P:α->Prop}{K:TypeId}{enc:α->Lit}{w:World}{b n:Nat}{g g':α->Option Value}(h:eD P K enc w b n g)(e:∀a,g a=g' a):eD P K enc w b n g':=by rw[<-show g=g' from funext e];exact h
theorem eD.empty{α:Type}{P:α->Prop}{K:TypeId}{enc:α->Lit}{w:World}{b:Nat}(h:w.heap[b]?=some (.map #[] 0)):eD P K enc w b 0 (λ_=>none):=by
 obtain⟨D,⟨es,c,h1,h2⟩,h3⟩:=eD.made (P:=P) (K:=K) (enc:=enc) w;rw[heap_alloc_new w (.map #[] 0)]at h1;cases h1
 exact⟨D,⟨#[],0,h,h2⟩,h3⟩
theorem h_{w w':World}{b:Nat}(h:w.mapTurned w' b):aG (λk=>k=b) w w':=by
 have hg:=h.grown;exact⟨hg.os,hg.tape,hg.output,hg.size,λk hk hn=>hg.block k hk (λe=>by injection e with e;first|exact hn e|exact hn e.symm)⟩
theorem su{w:World}{B:Nat}{e:TypeId}{size n c:Nat}{A:Option Addr}{xs:List Value}(h:w.ownsRow B e size (.slice A n c) n xs):(n=0/\A=none/\c=0)\/∃g,A=some ⟨g,0,none⟩/\B<=g/\Own w e g xs:=by
 rcases h.2 with⟨h1,h2⟩|⟨g,cap,cur,h1,h2,h3,h4,h5,h6,h7⟩
 .simp only[Value.slice.injEq]at h1
  exact .inl ⟨h2,h1.1,h1.2.2⟩
 .simp only[Value.slice.injEq]at h1
  refine .inr ⟨g,h1.1,h2,cur.toList.drop (n*size),?_⟩;rw[<-h7,List.take_append_drop];exact h3
theorem iV{P:Program}{W:World}{ops:Array Oper}{rest:List Oper}{o:Oper}{a:Act}{Q:Exit->Act->World->Prop}
 (hg:o.guard=none)(s x:Operand)(T:TypeId)(hop:o.op=Op.call {callee:=Callee.builtin Builtin.append,args:=#[s,x],argTypes:=#[T,T]})
 (e:TypeId)(i:TypeInfo)(z:Value)(size bytes:Nat)(ht:P.underlying T=some (.slice e))(hi:P.info? e=some i)(hz:i.zero=some z)(hsize:i.size=size)(hby:i.bytes=bytes)(hzs:z.cells.size=size)(h0:0<size)
 (B:Nat)(v:Value)(n:Nat)(xs:List Value)(hs:a.eval s=v)(hown:W.ownsRow B e size v n xs)(cs:List Value)(arr:Array Value)(harr:arr=cs.toArray)(hcs:cs.length=size)(h1:∀u∈cs,u.oneCell'=true)
 (hx:a.eval x= .slice (some ⟨W.heap.size,0,none⟩) 1 1)(hlen:n+1<=maxLen)(hb:(n+1)*bytes<=140737488355328)(hBW:B<=W.heap.size)
 (hK:∀g' c' w',w'.ownsRow B e size (.slice (some ⟨g',0,none⟩) (n+1) c') (n+1) (xs++cs)->(W.alloc (.cells arr e)).grownBy w' v.ownBlock->wpList P ops Q rest (a.put o.dst (.slice (some ⟨g',0,none⟩) (n+1) c')) w'):
 wpList P ops Q (o::rest) a (W.alloc (.cells arr e)):=by
 subst harr;refine wpList_append_own _ hg s x T hop B e i z size bytes ht hi hz hsize hby hzs h0 v n xs hs (World.ownsRow.alloc hown _) ⟨W.heap.size,0,none⟩ 1 1 cs hx (by omega)
  (λj u hj=>by
   rw[Addr.add_lit,cell_of_row _ _ (0+j) _ _ _ (heap_alloc_new W _)];simpa using hj) h1 hlen hb (by simp;omega) ?_
 intro v' w' hown' hgrow hnil;rcases hown'.2 with⟨e,_⟩|⟨g,cap,cur,rfl,_⟩
 .have:=(hnil.1 e).2;omega
 .exact hK g cap w' hown' hgrow
theorem RB{L:List bR}{k:Nat}{f:bR}(h:L[k]?=some f):(L.take (k+1)).flatMap bR.facts=(L.take k).flatMap bR.facts++f.facts:=by
 rw[List.take_add_one,h,List.flatMap_append];simp
theorem OZ{L:List bR}{k:Nat}{f:bR}(h:L[k]?=some f):(L.take (k+1)).flatMap bR.orders=(L.take k).flatMap bR.orders++f.orders:=by
 rw[List.take_add_one,h,List.flatMap_append];simp
theorem bT{α:Type}{l:List α}{k:Nat}{x:α}(h:l[k]?=some x):l.take (k+1)=l.take k++[x]:=by rw[List.take_add_one,h];rfl
end
section
open Go.RowKit Go.Shelf Tryz
attribute [local go_sem] GY XU stillUpon jh
def aM(fs:List bR):List ay:=fs.flatMap bR.facts
def bE(fs:List bR):List aX:=fs.flatMap bR.orders
def YJ(ho:Int)(L:List ay)(O:List aX)(ho':Int)(F':List ay)(O':List aX)(er:Int):Prop:=(er=0/\ho'=ho/\tY L O F' O')\/(er=23/\ho'=0/\F'=[]/\O'=[]/\Xu L O)
def O5(ho:Int)(L:List ay)(O:List aX)(w:World)(e:Ending)(w':World):Prop:=
 ∃(ho':Int)(F':List ay)(O':List aX)(er:Int)(A:Option Addr)(c:Nat)(A':Option Addr)(c':Nat),e= .returned (.tuple #[.agg #[.int .i64 ho',.slice A F'.length c,.slice A' O'.length c'],.int .i64 er])/\gJ w' ⟨⟨A,c⟩,⟨A',c'⟩⟩ ⟨ho',F',O'⟩/\((∀b off,A=some ⟨b,off,none⟩->w.heap.size<=b)/\∀b off,A'=some ⟨b,off,none⟩->w.heap.size<=b)/\Below w.heap.size w w'/\YJ ho L O ho' F' O' er
structure EH(W3:World)(mf mo:Nat)(L:List ay)(O:List aX)(sm:Bool)(wr:World):Prop where
 f:∃nF,nF<=L.length/\eD iK 3 encI wr mf nF (qK L)
 o:∃nO,nO<=O.length/\eD GK 78 pK wr mo nO (Ry O)
 upd:aG (λk=>k=mf\/k=mo) W3 wr
 same:sm=true↔Ad L
theorem EH.on{W3:World}{mf mo:Nat}{L:List ay}{O:List aX}{sm:Bool}{wr z:World}(h:EH W3 mf mo L O sm wr)(hb:Below wr.heap.size wr z):EH W3 mf mo L O sm z:=by
 obtain⟨⟨nF,h1,h2⟩,⟨nO,h3,h4⟩,h5,h6⟩:=h;exact⟨⟨nF,h1,h2.below h2.lt hb⟩,⟨nO,h3,h4.below h4.lt hb⟩,l8 h5 hb,h6⟩
theorem EH.turn{W3:World}{mf mo:Nat}{L:List ay}{O:List aX}{sm:Bool}{wr z:World}{S:Nat->Prop}(h:EH W3 mf mo L O sm wr)(hu:aG S wr z)(h1:¬S mf)(h2:¬S mo)(h3:∀k,k<W3.heap.size->¬S k):EH W3 mf mo L O sm z:=by
 obtain⟨⟨nF,a1,a2⟩,⟨nO,a3,a4⟩,a5,a6⟩:=h;exact⟨⟨nF,a1,a2.upd hu h1⟩,⟨nO,a3,a4.upd hu h2⟩,a5.trans hu (λi hi hs=>absurd hs (h3 i hi)),a6⟩
theorem gD(w:World)(size:Nat):At w size none 0 0 []:=⟨⟨by simp,by simp,λh=>absurd h (Nat.lt_irrefl _)⟩,λ_=>⟨rfl,rfl⟩,Nat.le_refl _,Nat.zero_le _⟩
theorem DK{F T:List ay}{O:List aX}(h:jD F T O):T.length=F.length:=by have:=congrArg List.length h.rest;simpa using this
theorem IB(fs:List bR)(sv:SV)(f0:bR)(w:World)(hF:mF w sv fs)(h0:fs[0]?=some f0)(hn:fs.length<=100)(hR:∀x∈aM fs,iK x.ref)(hL:(aM fs).length<=4000)(hO:(bE fs).length<=4000)(hK:xK (aM fs) (bE fs)):
 Calls prog 62 #[.slice sv.A fs.length sv.c] w (O5 f0.house (aM fs) (bE fs) w):=by
 obtain⟨sA,sc⟩:=sv;have hn0:0<fs.length:=(List.getElem?_eq_some_iff.1 h0).1;obtain⟨fb,fo,lG,hfb,O6⟩:=hF.form hn0;simp only at lG;subst lG;have TY:=Lib.hid O6;clear O6;have HR:=Lib.hid hR;clear hR;have HK:=Lib.hid hK;clear hK;have H0:=Lib.hid h0;clear h0;have HLL:=Lib.hid hL;clear hL;have HOL:=Lib.hid hO;clear hO;clear hF;have hmm:=@run_makeMap prog;go_enter func62,ntmps62;go_upto_region 4 with(fail)
 obtain⟨mf,wV⟩:∃mf,mf=w.heap.size+1:=⟨_,rfl⟩;obtain⟨mo,hmo⟩:∃mo,mo=w.heap.size+1+1:=⟨_,rfl⟩;rw[<-hmo,<-wV];generalize hW3:World.alloc _ _=W3;obtain⟨HB,hh0,gG,qd⟩:=bx3 hW3;rw[<-wV]at gG;rw[<-hmo]at qd;have YB:=Lib.hid hh0;have O7:Hid (eD iK 3 encI W3 mf 0 (qK [])):=(eD.empty gG).congr (λ_=>rfl);have HMO:Hid (eD GK 78 pK W3 mo 0 (Ry [])):=(eD.empty qd).congr (λ_=>rfl);have hrl:=aB hh0;have hfl:=aB gG;have hol:=aB qd;clear hW3 hh0 gG qd hmm;go_wp2;have Vv:mf≠mo:=by omega
 have hmw:w.heap.size<mf:=by omega
 have apJ:w.heap.size<mo:=by omega
 have HBU:Hid (∀wr,aG (λk=>k=mf\/k=mo) W3 wr->Below w.heap.size w wr):=λwr hu=>HB.out.trans (hu.below HB.out.size (λk hk=>by omega));have Qg:Hid (EH W3 mf mo (aM (fs.take 0)) (bE (fs.take 0)) true W3):=⟨⟨0,Nat.zero_le _,O7.out⟩,⟨0,Nat.zero_le _,HMO.out⟩,aG.refl _ _,⟨λ_ x hx=>(by cases hx),λ_=>rfl⟩⟩;clear O7 HMO;have HME:=Lib.hid wV;clear wV;have HMG:=Lib.hid hmo;clear hmo
 go_loopg [22,6] fs.length (λgk v22 v6 wr=>∃(k:Nat)(sm:Bool),gk=fs.length - k/\k<=fs.length/\v22= .int .i64 k/\v6= .bool sm/\Hid (EH W3 mf mo (aM (fs.take k)) (bE (fs.take k)) sm wr))
 case atStart=>exact⟨0,true,rfl,Nat.zero_le _,rfl,rfl,Qg⟩
 case round=>
  clear Qg;obtain⟨k,sm,eO,hk,rfl,rfl,HJ⟩:=hrel;have iw:=Lib.hid eO;clear eO;by_cases hlt:k<fs.length
  .obtain⟨⟨ho,F,O⟩,hx⟩:∃x,fs[k]?=some x:=⟨fs[k],List.getElem?_eq_getElem hlt⟩
   obtain⟨⟨⟨gA,gc⟩,⟨qA,qc⟩⟩,hfa,hcell⟩:=TY.out k _ hx;have hbw:=HBU.out wr HJ.out.upd;have c0:wr.cell? ⟨fb,fo+k*3,none⟩=some (.int .i64 ho):=hcell wr hbw 0 (by omega);have c1:wr.cell? ⟨fb,fo+k*3+1,none⟩=some (.slice gA F.length gc):=hcell wr hbw 1 (by omega);have c2:wr.cell? ⟨fb,fo+k*3+2,none⟩=some (.slice qA O.length qc):=hcell wr hbw 2 (by omega);have HFF:Hid (At w 6 gA F.length gc (bH F)):=hfa.facts;have HQQ:Hid (At w 2 qA O.length qc (eT O)):=hfa.orders;have Yt:F.length<=9223372036854775807:=by have:=hfa.acR;simp only at this;omega
   have hOl:O.length<=9223372036854775807:=by have:=hfa.acS;simp only at this;omega
   have hLk:Hid (aM (fs.take (k+1))=aM (fs.take k)++F):=RB hx;have hOk:Hid (bE (fs.take (k+1))=bE (fs.take k)++O):=OZ hx;have HRF:Hid (∀x∈F,iK x.ref):=λx hxF=>HR.out x (List.mem_flatMap.2 ⟨_,List.mem_of_getElem? hx,hxF⟩);have HLF:Hid ((aM (fs.take k)).length+F.length<=4000):=by
    show _<=_;have h1:(aM (fs.take (k+1))).length<=(aM fs).length:=by
     have h2:aM fs=aM (fs.take (k+1))++aM (fs.drop (k+1)):=by unfold aM;rw[<-List.flatMap_append,List.take_append_drop]
     rw[h2,List.length_append];omega
    rw[hLk.out,List.length_append]at h1;have:=HLL.out;omega
   have HLO:Hid ((bE (fs.take k)).length+O.length<=4000):=by
    show _<=_;have h1:(bE (fs.take (k+1))).length<=(bE fs).length:=by
     have h2:bE fs=bE (fs.take (k+1))++bE (fs.drop (k+1)):=by unfold bE;rw[<-List.flatMap_append,List.take_append_drop]
     rw[h2,List.length_append];omega
    rw[hOk.out,List.length_append]at h1;have:=HOL.out;omega
   have HXB:Hid (∀x∈O,GK x):=λb hb=>by
    obtain⟨⟨x,hx1,e1⟩,y,hy1,e2⟩:=HK.out b (List.mem_flatMap.2 ⟨_,List.mem_of_getElem? hx,hb⟩);exact⟨e1▸HR.out x hx1,e2▸HR.out y hy1⟩
   generalize aM (fs.take k)=LK at HJ hLk HLF;generalize bE (fs.take k)=OK at HJ hOk HLO;clear hx hcell hfa hbw;go_upto_region 7 with(fail)
   generalize hWa:World.alloc _ _=Wa;obtain⟨hba,hxa⟩:=bx1' hWa;obtain⟨bf,hbf⟩:∃bf,bf=wr.heap.size:=⟨_,rfl⟩;rw[<-hbf]at hxa;rw[<-hbf];have d1:Wa.cell? ⟨bf,1,none⟩=some (.slice gA F.length gc):=(cell_of_row Wa _ 1 _ _ _ hxa).trans rfl;have d2:Wa.cell? ⟨bf,2,none⟩=some (.slice qA O.length qc):=(cell_of_row Wa _ 2 _ _ _ hxa).trans rfl;have hbl:=aB hxa;have HJa:=Lib.hid (HJ.out.on hba);have apM:W3.heap.size<=bf:=by have:=HJ.out.upd.size;omega
   have Rj:=Lib.hid hbf;clear hbf;clear hWa hba hxa c0 c1 c2 HJ;go_wp2
   go_loopg [29,6] F.length (λg2 v29 v6 wq=>∃(j:Nat)(sm:Bool),g2=F.length - j/\j<=F.length/\v29= .int .i64 j/\v6= .bool sm/\Hid (EH W3 mf mo (LK++F.take j) OK sm wq)/\Hid (aG (λk=>k=mf\/k=mo) Wa wq))
   case atStart=>exact⟨0,sm,rfl,Nat.zero_le _,rfl,rfl,by rw[List.take_zero,List.append_nil];exact HJa,aG.refl _ _⟩
   case round=>
    clear HJa sm;obtain⟨j,sm,hg2,hj,rfl,rfl,HJ,HU⟩:=hrel;have HG2:=Lib.hid hg2;clear hg2;by_cases hjl:j<F.length
    .obtain⟨ab,ao,hA,hab,hcell⟩:=HFF.out.fact (by omega)
     subst hA;obtain⟨⟨re,ac,lo,hi,fi,se⟩,hx⟩:∃x,F[j]?=some x:=⟨F[j],List.getElem?_eq_getElem hjl⟩;have hbw:=HBU.out wr HJ.out.upd;have hre:iK re:=HRF.out _ (List.mem_of_getElem? hx);have e0:wr.cell? ⟨ab,ao+j*6,none⟩=some (.int .i64 re):=hcell j _ hx wr hbw 0 (by omega);have e1:wr.cell? ⟨ab,ao+j*6+1,none⟩=some (.int .i64 ac):=hcell j _ hx wr hbw 1 (by omega);have e2:wr.cell? ⟨ab,ao+j*6+2,none⟩=some (.int .i64 lo):=hcell j _ hx wr hbw 2 (by omega);have e3:wr.cell? ⟨ab,ao+j*6+3,none⟩=some (.int .i64 hi):=hcell j _ hx wr hbw 3 (by omega);have e4:wr.cell? ⟨ab,ao+j*6+4,none⟩=some (.int .i64 fi):=hcell j _ hx wr hbw 4 (by omega);have e5:wr.cell? ⟨ab,ao+j*6+5,none⟩=some (.bool se):=hcell j _ hx wr hbw 5 (by omega);have qD:Hid (LK++F.take (j+1)=(LK++F.take j)++[⟨re,ac,lo,hi,fi,se⟩]):=by show _=_;rw[bT hx,List.append_assoc]
     have Oa:Hid ((LK++F.take j).length<4000):=by show _<_;have:=HLF.out;rw[List.length_append,List.length_take];omega
     generalize LK++F.take j=L at HJ qD Oa;clear hx hcell hbw;have jF:(j:Int)<(F.length:Int):=by omega
     go_upto_region 10 with(fail)
     generalize Dx:World.alloc _ _=Wb;obtain⟨hbb,hxb⟩:=bx1' Dx;have hwb:=hbb.size;have q0:Wb.cell? ⟨wr.heap.size,0,none⟩=some (.int .i64 re):=(cell_of_row Wb _ 0 _ _ _ hxb).trans rfl;have q1:Wb.cell? ⟨wr.heap.size,1,none⟩=some (.int .i64 ac):=(cell_of_row Wb _ 1 _ _ _ hxb).trans rfl;have q2:Wb.cell? ⟨wr.heap.size,2,none⟩=some (.int .i64 lo):=(cell_of_row Wb _ 2 _ _ _ hxb).trans rfl;have q3:Wb.cell? ⟨wr.heap.size,3,none⟩=some (.int .i64 hi):=(cell_of_row Wb _ 3 _ _ _ hxb).trans rfl;have q4:Wb.cell? ⟨wr.heap.size,4,none⟩=some (.int .i64 fi):=(cell_of_row Wb _ 4 _ _ _ hxb).trans rfl;have q5:Wb.cell? ⟨wr.heap.size,5,none⟩=some (.bool se):=(cell_of_row Wb _ 5 _ _ _ hxb).trans rfl;have hxl:=aB hxb;have YK:=Lib.hid (HJ.out.on hbb);have HUb:Hid (aG (λk=>k=mf\/k=mo) Wa Wb):=l8 HU.out hbb;have apN:=HU.out.size;clear Dx hbb hxb e0 e1 e2 e3 e4 e5 HJ HU;obtain⟨nF,hnF,wV⟩:=YK.out.f;have hlk:=eD.GJ BP underlying160 wV (abM Wb) hre (Dc hre);cases hl:look L re with
     |none=>
      have hv:qK L re=none:=by unfold qK;rw[hl];rfl
      rw[hv]at hlk;simp only[Option.getD_none,Option.isSome_none]at hlk;have ZN:Hid (look L re=none):=hl;clear hl hv;go_upto_region 12 with(fail)
      generalize hWc:World.alloc _ _=Wc;obtain⟨hbc,hxc⟩:=bx1' hWc;have p0:=((aL hbc).1 _ _ hxl).trans q0;have p1:=((aL hbc).1 _ _ hxl).trans q1;have p2:=((aL hbc).1 _ _ hxl).trans q2;have p3:=((aL hbc).1 _ _ hxl).trans q3;have p4:=((aL hbc).1 _ _ hxl).trans q4;have p5:=((aL hbc).1 _ _ hxl).trans q5;have RD:=Lib.hid (YK.out.on hbc);have vR:Hid (aG (λk=>k=mf\/k=mo) Wa Wc):=l8 HUb.out hbc;obtain⟨nF,hnF,wV⟩:=RD.out.f;obtain⟨w2,hrun,hm2,htr⟩:=eD.put rW BP underlying160 wV (by have:=Oa.out;unfold maxLen;omega) hre (Dc hre) (.agg #[.int .i64 re,.int .i64 ac,.int .i64 lo,.int .i64 hi,.int .i64 fi,.bool se]);have hut:=h_ htr;have HJ2:Hid (EH W3 mf mo (LK++F.take (j+1)) OK sm w2):=by
       show EH _ _ _ _ _ _ _;rw[qD.out];obtain⟨nO,T9,hmo⟩:=RD.out.o;exact⟨⟨_,by rw[List.length_append,List.length_singleton];split<;>omega,hm2.congr (λr=>Rz (x:=⟨re,ac,lo,hi,fi,se⟩) ZN.out r)⟩,⟨nO,T9,hmo.upd hut (λe=>Vv e.symm)⟩,RD.out.upd.trans hut (λ_ _ h=>.inl h),RD.out.same.trans (Vt (x:=⟨re,ac,lo,hi,fi,se⟩) ZN.out).symm⟩
      have vD:Hid (aG (λk=>k=mf\/k=mo) Wa w2):=vR.out.trans hut (λ_ _ h=>.inl h);clear hWc hbc hxc wV hm2 htr hut hlk q0 q1 q2 q3 q4 q5 YK HUb RD vR;go_wp2
      go_roundg (F.length - (j+1))
      case measure=>rw[HG2.out];omega
      case rel=>exact⟨j+1,sm,rfl,by omega,by go_num,rfl,HJ2,vD⟩
     |some y=>
      have hv:qK L re=some (Iz y):=by unfold qK;rw[hl];rfl
      rw[hv]at hlk;obtain⟨yr,ya,yl,yh,yf,ys⟩:=y;simp only[Option.getD_some,Option.isSome_some,Iz,ay.cells]at hlk;have YL:Hid (look L re=some ⟨yr,ya,yl,yh,yf,ys⟩):=hl;clear hl hv;go_upto_region 13 with(fail)
      generalize hWc:World.alloc _ _=Wc;obtain⟨hbc,hxc⟩:=bx1' hWc;have ZO:Hid (Own Wc 56 Wb.heap.size [.int .i64 yr,.int .i64 ya,.int .i64 yl,.int .i64 yh,.int .i64 yf,.bool ys]):=⟨[],by rw[List.append_nil];exact hxc⟩;have p0:=((aL hbc).1 _ _ hxl).trans q0;have p1:=((aL hbc).1 _ _ hxl).trans q1;have p2:=((aL hbc).1 _ _ hxl).trans q2;have p3:=((aL hbc).1 _ _ hxl).trans q3;have p4:=((aL hbc).1 _ _ hxl).trans q4;have p5:=((aL hbc).1 _ _ hxl).trans q5;have o0:Wc.cell? ⟨Wb.heap.size,0,none⟩=some (.int .i64 yr):=ZO.out.cell rfl;have o1:Wc.cell? ⟨Wb.heap.size,1,none⟩=some (.int .i64 ya):=ZO.out.cell rfl;have o2:Wc.cell? ⟨Wb.heap.size,2,none⟩=some (.int .i64 yl):=ZO.out.cell rfl;have o3:Wc.cell? ⟨Wb.heap.size,3,none⟩=some (.int .i64 yh):=ZO.out.cell rfl;have z2:=ZO.out.frozen 2;have z3:=ZO.out.frozen 3;have RD:=Lib.hid (YK.out.on hbc);have vR:Hid (aG (λk=>k=mf\/k=mo) Wa Wc):=l8 HUb.out hbc;have hwc:=hbc.size;have hne:¬(wr.heap.size=Wb.heap.size):=by omega
      have hne':¬(Wb.heap.size=wr.heap.size):=by omega
      have uY:Hid ((sm&&(ya==ac))=true↔Ad (LK++F.take (j+1))):=by
       show _↔_;rw[qD.out,Vu (x:=⟨re,ac,lo,hi,fi,se⟩) YL.out,Bool.and_eq_true,RD.out.same,beq_iff_eq]
      clear hWc hbc hxc wV hlk q0 q1 q2 q3 q4 q5 YK HUb hnF;cases sm with
      |false=>
       cases ys with
       |false=>
        as_aux_lemma=>
         go_upto_region 14 with(fail)
         refine nL (w1:=Wc.drew.setCell ⟨Wb.heap.size,2,none⟩ (.int .i64 (max yl lo))) 13 11 (by omega) (by simp) (by kernel_rfl) (by kernel_rfl) ?_;simp only[List.take_succ_cons,List.take_zero,List.drop_succ_cons,List.drop_zero];refine ji rfl (λK hK=>?_);go_simp;refine hK _ ?_;clear hK K;refine zx rfl (by kernel_rfl) (λK hK=>?_);go_simp;refine hK _ ?_;clear hK K;repeat(refine ji rfl (λK hK=>?_);go_simp;refine hK _ ?_;clear hK K)
         refine BS rfl rfl ?_ ?_
         .go_simp
         go_simp;repeat(refine ji rfl (λK hK=>?_);go_simp;refine hK _ ?_;clear hK K)
         refine FK ?_;gi_wp2;go_upto_region 15 with(fail)
         obtain⟨W5,og⟩:∃W5,Hid (W5=((Wc.setCell ⟨Wb.heap.size,2,none⟩ (.int .i64 (max yl lo))).setCell ⟨Wb.heap.size,3,none⟩ (.int .i64 (min yh hi))).drew):=⟨_,rfl⟩;rw[<-og.out];have zG:Hid (aG (λk=>k=Wb.heap.size) Wc W5):=by show aG _ _ _;rw[og.out];exact(((aG.refl (λk=>k=Wb.heap.size) Wc).setCell (.inl rfl) _).setCell (.inl rfl) _).drew
         have Ib:Hid (Own W5 56 Wb.heap.size [.int .i64 yr,.int .i64 ya,.int .i64 (max yl lo),.int .i64 (min yh hi),.int .i64 yf,.bool false]):=by
          show Own _ _ _ _;rw[og.out];exact((ZO.out.set (i:=2) (by simp) _).set (i:=3) (by simp) _).keep ((aG.refl (λ_=>False) _).drew) (λh=>h)
         have r0:=(bQ zG.out (by omega) hne).trans p0;have r4:=(bQ zG.out (by omega) hne).trans p4;have r5:=(bQ zG.out (by omega) hne).trans p5;have s4:W5.cell? ⟨Wb.heap.size,4,none⟩=some (.int .i64 yf):=Ib.out.cell rfl;have g4:=Ib.out.frozen 4;clear p0 p1 p2 p3 p4 p5 o0 o1 o2 o3 z2 z3 og;go_upto_region 16 with(fail)
         obtain⟨W6,zC⟩:∃W6,Hid (W6=W5.setCell ⟨Wb.heap.size,4,none⟩ (.int .i64 (min yf fi))):=⟨_,rfl⟩;rw[<-zC.out];have Fp:aG (λk=>k=Wb.heap.size) W5 W6:=by rw[zC.out];exact(aG.refl (λk=>k=Wb.heap.size) W5).setCell (.inl rfl) _
         have EB:Hid (Own W6 56 Wb.heap.size [.int .i64 yr,.int .i64 ya,.int .i64 (max yl lo),.int .i64 (min yh hi),.int .i64 (min yf fi),.bool false]):=by
          show Own _ _ _ _;rw[zC.out];exact Ib.out.set (i:=4) (by simp) _
         have hs5:=zG.out.size;have m0:=(bQ Fp (by omega) hne).trans r0;have m5:=(bQ Fp (by omega) hne).trans r5;have s5:W6.cell? ⟨Wb.heap.size,5,none⟩=some (.bool false):=EB.out.cell rfl;have g5:=EB.out.frozen 5;have vS:Hid (aG (λk=>k=Wb.heap.size) Wc W6):=zG.out.trans Fp (λ_ _ h=>h);clear r0 r4 r5 s4 g4 zC Fp Ib zG;go_upto_region 17 with(fail)
         obtain⟨W7,Bp⟩:∃W7,Hid (W7=W6.setCell ⟨Wb.heap.size,5,none⟩ (.bool false)):=⟨_,rfl⟩;rw[<-Bp.out];have RF:aG (λk=>k=Wb.heap.size) W6 W7:=by rw[Bp.out];exact(aG.refl (λk=>k=Wb.heap.size) W6).setCell (.inl rfl) _
         have yw:Hid (Own W7 56 Wb.heap.size [.int .i64 yr,.int .i64 ya,.int .i64 (max yl lo),.int .i64 (min yh hi),.int .i64 (min yf fi),.bool false]):=by
          show Own _ _ _ _;rw[Bp.out];exact EB.out.set (i:=5) (by simp) _
         have hs6:=vS.out.size;have n0:=(bQ RF (by omega) hne).trans m0;have EZ:Hid (aG (λk=>k=Wb.heap.size) Wc W7):=vS.out.trans RF (λ_ _ h=>h);have t0:W7.cell? ⟨Wb.heap.size,0,none⟩=some (.int .i64 yr):=yw.out.cell rfl;have t1:W7.cell? ⟨Wb.heap.size,1,none⟩=some (.int .i64 ya):=yw.out.cell rfl;have t2:W7.cell? ⟨Wb.heap.size,2,none⟩=some (.int .i64 (max yl lo)):=yw.out.cell rfl;have t3:W7.cell? ⟨Wb.heap.size,3,none⟩=some (.int .i64 (min yh hi)):=yw.out.cell rfl;have t4:W7.cell? ⟨Wb.heap.size,4,none⟩=some (.int .i64 (min yf fi)):=yw.out.cell rfl;have t5:W7.cell? ⟨Wb.heap.size,5,none⟩=some (.bool false):=yw.out.cell rfl;clear m0 m5 s5 g5 Bp RF EB vS;have Mx:=Lib.hid (RD.out.turn EZ.out (by omega) (by omega) (λk hk e=>by omega));have IC:Hid (aG (λk=>k=mf\/k=mo) Wa W7):=vR.out.trans EZ.out (λi hi e=>by omega);obtain⟨nF,hnF,wV⟩:=Mx.out.f;obtain⟨w2,hrun,hm2,htr⟩:=eD.put rW BP underlying160 wV (by have:=Oa.out;unfold maxLen;omega) hre (Dc hre) (.agg #[.int .i64 yr,.int .i64 ya,.int .i64 (max yl lo),.int .i64 (min yh hi),.int .i64 (min yf fi),.bool false]);have hut:=h_ htr;have HJ2:Hid (EH W3 mf mo (LK++F.take (j+1)) OK false w2):=by
          show EH _ _ _ _ _ _ _;have hsm:=uY.out;rw[qD.out]at hsm⊢;obtain⟨nO,T9,hmo⟩:=Mx.out.o;refine⟨⟨_,by rw[List.length_append,List.length_singleton];split<;>omega,hm2.congr (λr=>?_)⟩,⟨nO,T9,hmo.upd hut (λe=>Vv e.symm)⟩,Mx.out.upd.trans hut (λ_ _ h=>.inl h),hsm⟩;exact vW (x:=⟨re,ac,lo,hi,fi,se⟩) YL.out r
         have vD:Hid (aG (λk=>k=mf\/k=mo) Wa w2):=IC.out.trans hut (λ_ _ h=>.inl h);clear wV hm2 htr hut Mx IC EZ yw RD vR uY YL;go_wp2
         go_roundg (F.length - (j+1))
         case measure=>rw[HG2.out];omega
         case rel=>exact⟨j+1,_,rfl,by omega,by go_num,rfl,HJ2,vD⟩
       |true=>
        as_aux_lemma=>
         go_upto_region 14 with(fail)
         refine nL (w1:=Wc.drew.setCell ⟨Wb.heap.size,2,none⟩ (.int .i64 (max yl lo))) 13 11 (by omega) (by simp) (by kernel_rfl) (by kernel_rfl) ?_;simp only[List.take_succ_cons,List.take_zero,List.drop_succ_cons,List.drop_zero];refine ji rfl (λK hK=>?_);go_simp;refine hK _ ?_;clear hK K;refine zx rfl (by kernel_rfl) (λK hK=>?_);go_simp;refine hK _ ?_;clear hK K;repeat(refine ji rfl (λK hK=>?_);go_simp;refine hK _ ?_;clear hK K)
         refine BS rfl rfl ?_ ?_
         .go_simp
         go_simp;repeat(refine ji rfl (λK hK=>?_);go_simp;refine hK _ ?_;clear hK K)
         refine FK ?_;gi_wp2;go_upto_region 15 with(fail)
         obtain⟨W5,og⟩:∃W5,Hid (W5=((Wc.setCell ⟨Wb.heap.size,2,none⟩ (.int .i64 (max yl lo))).setCell ⟨Wb.heap.size,3,none⟩ (.int .i64 (min yh hi))).drew):=⟨_,rfl⟩;rw[<-og.out];have zG:Hid (aG (λk=>k=Wb.heap.size) Wc W5):=by show aG _ _ _;rw[og.out];exact(((aG.refl (λk=>k=Wb.heap.size) Wc).setCell (.inl rfl) _).setCell (.inl rfl) _).drew
         have Ib:Hid (Own W5 56 Wb.heap.size [.int .i64 yr,.int .i64 ya,.int .i64 (max yl lo),.int .i64 (min yh hi),.int .i64 yf,.bool true]):=by
          show Own _ _ _ _;rw[og.out];exact((ZO.out.set (i:=2) (by simp) _).set (i:=3) (by simp) _).keep ((aG.refl (λ_=>False) _).drew) (λh=>h)
         have r0:=(bQ zG.out (by omega) hne).trans p0;have r4:=(bQ zG.out (by omega) hne).trans p4;have r5:=(bQ zG.out (by omega) hne).trans p5;have s4:W5.cell? ⟨Wb.heap.size,4,none⟩=some (.int .i64 yf):=Ib.out.cell rfl;have g4:=Ib.out.frozen 4;clear p0 p1 p2 p3 p4 p5 o0 o1 o2 o3 z2 z3 og;go_upto_region 16 with(fail)
         obtain⟨W6,zC⟩:∃W6,Hid (W6=W5.setCell ⟨Wb.heap.size,4,none⟩ (.int .i64 (min yf fi))):=⟨_,rfl⟩;rw[<-zC.out];have Fp:aG (λk=>k=Wb.heap.size) W5 W6:=by rw[zC.out];exact(aG.refl (λk=>k=Wb.heap.size) W5).setCell (.inl rfl) _
         have EB:Hid (Own W6 56 Wb.heap.size [.int .i64 yr,.int .i64 ya,.int .i64 (max yl lo),.int .i64 (min yh hi),.int .i64 (min yf fi),.bool true]):=by
          show Own _ _ _ _;rw[zC.out];exact Ib.out.set (i:=4) (by simp) _
         have hs5:=zG.out.size;have m0:=(bQ Fp (by omega) hne).trans r0;have m5:=(bQ Fp (by omega) hne).trans r5;have s5:W6.cell? ⟨Wb.heap.size,5,none⟩=some (.bool true):=EB.out.cell rfl;have g5:=EB.out.frozen 5;have vS:Hid (aG (λk=>k=Wb.heap.size) Wc W6):=zG.out.trans Fp (λ_ _ h=>h);clear r0 r4 r5 s4 g4 zC Fp Ib zG;go_upto_region 17 with(fail)
         obtain⟨W7,Bp⟩:∃W7,Hid (W7=W6.setCell ⟨Wb.heap.size,5,none⟩ (.bool se)):=⟨_,rfl⟩;rw[<-Bp.out];have RF:aG (λk=>k=Wb.heap.size) W6 W7:=by rw[Bp.out];exact(aG.refl (λk=>k=Wb.heap.size) W6).setCell (.inl rfl) _
         have yw:Hid (Own W7 56 Wb.heap.size [.int .i64 yr,.int .i64 ya,.int .i64 (max yl lo),.int .i64 (min yh hi),.int .i64 (min yf fi),.bool se]):=by
          show Own _ _ _ _;rw[Bp.out];exact EB.out.set (i:=5) (by simp) _
         have hs6:=vS.out.size;have n0:=(bQ RF (by omega) hne).trans m0;have EZ:Hid (aG (λk=>k=Wb.heap.size) Wc W7):=vS.out.trans RF (λ_ _ h=>h);have t0:W7.cell? ⟨Wb.heap.size,0,none⟩=some (.int .i64 yr):=yw.out.cell rfl;have t1:W7.cell? ⟨Wb.heap.size,1,none⟩=some (.int .i64 ya):=yw.out.cell rfl;have t2:W7.cell? ⟨Wb.heap.size,2,none⟩=some (.int .i64 (max yl lo)):=yw.out.cell rfl;have t3:W7.cell? ⟨Wb.heap.size,3,none⟩=some (.int .i64 (min yh hi)):=yw.out.cell rfl;have t4:W7.cell? ⟨Wb.heap.size,4,none⟩=some (.int .i64 (min yf fi)):=yw.out.cell rfl;have t5:W7.cell? ⟨Wb.heap.size,5,none⟩=some (.bool se):=yw.out.cell rfl;clear m0 m5 s5 g5 Bp RF EB vS;have Mx:=Lib.hid (RD.out.turn EZ.out (by omega) (by omega) (λk hk e=>by omega));have IC:Hid (aG (λk=>k=mf\/k=mo) Wa W7):=vR.out.trans EZ.out (λi hi e=>by omega);obtain⟨nF,hnF,wV⟩:=Mx.out.f;obtain⟨w2,hrun,hm2,htr⟩:=eD.put rW BP underlying160 wV (by have:=Oa.out;unfold maxLen;omega) hre (Dc hre) (.agg #[.int .i64 yr,.int .i64 ya,.int .i64 (max yl lo),.int .i64 (min yh hi),.int .i64 (min yf fi),.bool se]);have hut:=h_ htr;have HJ2:Hid (EH W3 mf mo (LK++F.take (j+1)) OK false w2):=by
          show EH _ _ _ _ _ _ _;have hsm:=uY.out;rw[qD.out]at hsm⊢;obtain⟨nO,T9,hmo⟩:=Mx.out.o;refine⟨⟨_,by rw[List.length_append,List.length_singleton];split<;>omega,hm2.congr (λr=>?_)⟩,⟨nO,T9,hmo.upd hut (λe=>Vv e.symm)⟩,Mx.out.upd.trans hut (λ_ _ h=>.inl h),hsm⟩;exact vW (x:=⟨re,ac,lo,hi,fi,se⟩) YL.out r
         have vD:Hid (aG (λk=>k=mf\/k=mo) Wa w2):=IC.out.trans hut (λ_ _ h=>.inl h);clear wV hm2 htr hut Mx IC EZ yw RD vR uY YL;go_wp2
         go_roundg (F.length - (j+1))
         case measure=>rw[HG2.out];omega
         case rel=>exact⟨j+1,_,rfl,by omega,by go_num,rfl,HJ2,vD⟩
      |true=>
       cases ys with
       |false=>
        as_aux_lemma=>
         go_upto_region 14 with(fail)
         refine nL (w1:=Wc.drew.setCell ⟨Wb.heap.size,2,none⟩ (.int .i64 (max yl lo))) 13 11 (by omega) (by simp) (by kernel_rfl) (by kernel_rfl) ?_;simp only[List.take_succ_cons,List.take_zero,List.drop_succ_cons,List.drop_zero];refine ji rfl (λK hK=>?_);go_simp;refine hK _ ?_;clear hK K;refine zx rfl (by kernel_rfl) (λK hK=>?_);go_simp;refine hK _ ?_;clear hK K;repeat(refine ji rfl (λK hK=>?_);go_simp;refine hK _ ?_;clear hK K)
         refine BS rfl rfl ?_ ?_
         .go_simp
         go_simp;repeat(refine ji rfl (λK hK=>?_);go_simp;refine hK _ ?_;clear hK K)
         refine FK ?_;gi_wp2;go_upto_region 15 with(fail)
         obtain⟨W5,og⟩:∃W5,Hid (W5=((Wc.setCell ⟨Wb.heap.size,2,none⟩ (.int .i64 (max yl lo))).setCell ⟨Wb.heap.size,3,none⟩ (.int .i64 (min yh hi))).drew):=⟨_,rfl⟩;rw[<-og.out];have zG:Hid (aG (λk=>k=Wb.heap.size) Wc W5):=by show aG _ _ _;rw[og.out];exact(((aG.refl (λk=>k=Wb.heap.size) Wc).setCell (.inl rfl) _).setCell (.inl rfl) _).drew
         have Ib:Hid (Own W5 56 Wb.heap.size [.int .i64 yr,.int .i64 ya,.int .i64 (max yl lo),.int .i64 (min yh hi),.int .i64 yf,.bool false]):=by
          show Own _ _ _ _;rw[og.out];exact((ZO.out.set (i:=2) (by simp) _).set (i:=3) (by simp) _).keep ((aG.refl (λ_=>False) _).drew) (λh=>h)
         have r0:=(bQ zG.out (by omega) hne).trans p0;have r4:=(bQ zG.out (by omega) hne).trans p4;have r5:=(bQ zG.out (by omega) hne).trans p5;have s4:W5.cell? ⟨Wb.heap.size,4,none⟩=some (.int .i64 yf):=Ib.out.cell rfl;have g4:=Ib.out.frozen 4;clear p0 p1 p2 p3 p4 p5 o0 o1 o2 o3 z2 z3 og;go_upto_region 16 with(fail)
         obtain⟨W6,zC⟩:∃W6,Hid (W6=W5.setCell ⟨Wb.heap.size,4,none⟩ (.int .i64 (min yf fi))):=⟨_,rfl⟩;rw[<-zC.out];have Fp:aG (λk=>k=Wb.heap.size) W5 W6:=by rw[zC.out];exact(aG.refl (λk=>k=Wb.heap.size) W5).setCell (.inl rfl) _
         have EB:Hid (Own W6 56 Wb.heap.size [.int .i64 yr,.int .i64 ya,.int .i64 (max yl lo),.int .i64 (min yh hi),.int .i64 (min yf fi),.bool false]):=by
          show Own _ _ _ _;rw[zC.out];exact Ib.out.set (i:=4) (by simp) _
         have hs5:=zG.out.size;have m0:=(bQ Fp (by omega) hne).trans r0;have m5:=(bQ Fp (by omega) hne).trans r5;have s5:W6.cell? ⟨Wb.heap.size,5,none⟩=some (.bool false):=EB.out.cell rfl;have g5:=EB.out.frozen 5;have vS:Hid (aG (λk=>k=Wb.heap.size) Wc W6):=zG.out.trans Fp (λ_ _ h=>h);clear r0 r4 r5 s4 g4 zC Fp Ib zG;go_upto_region 17 with(fail)
         obtain⟨W7,Bp⟩:∃W7,Hid (W7=W6.setCell ⟨Wb.heap.size,5,none⟩ (.bool false)):=⟨_,rfl⟩;rw[<-Bp.out];have RF:aG (λk=>k=Wb.heap.size) W6 W7:=by rw[Bp.out];exact(aG.refl (λk=>k=Wb.heap.size) W6).setCell (.inl rfl) _
         have yw:Hid (Own W7 56 Wb.heap.size [.int .i64 yr,.int .i64 ya,.int .i64 (max yl lo),.int .i64 (min yh hi),.int .i64 (min yf fi),.bool false]):=by
          show Own _ _ _ _;rw[Bp.out];exact EB.out.set (i:=5) (by simp) _
         have hs6:=vS.out.size;have n0:=(bQ RF (by omega) hne).trans m0;have EZ:Hid (aG (λk=>k=Wb.heap.size) Wc W7):=vS.out.trans RF (λ_ _ h=>h);have t0:W7.cell? ⟨Wb.heap.size,0,none⟩=some (.int .i64 yr):=yw.out.cell rfl;have t1:W7.cell? ⟨Wb.heap.size,1,none⟩=some (.int .i64 ya):=yw.out.cell rfl;have t2:W7.cell? ⟨Wb.heap.size,2,none⟩=some (.int .i64 (max yl lo)):=yw.out.cell rfl;have t3:W7.cell? ⟨Wb.heap.size,3,none⟩=some (.int .i64 (min yh hi)):=yw.out.cell rfl;have t4:W7.cell? ⟨Wb.heap.size,4,none⟩=some (.int .i64 (min yf fi)):=yw.out.cell rfl;have t5:W7.cell? ⟨Wb.heap.size,5,none⟩=some (.bool false):=yw.out.cell rfl;clear m0 m5 s5 g5 Bp RF EB vS;have Mx:=Lib.hid (RD.out.turn EZ.out (by omega) (by omega) (λk hk e=>by omega));have IC:Hid (aG (λk=>k=mf\/k=mo) Wa W7):=vR.out.trans EZ.out (λi hi e=>by omega);obtain⟨nF,hnF,wV⟩:=Mx.out.f;obtain⟨w2,hrun,hm2,htr⟩:=eD.put rW BP underlying160 wV (by have:=Oa.out;unfold maxLen;omega) hre (Dc hre) (.agg #[.int .i64 yr,.int .i64 ya,.int .i64 (max yl lo),.int .i64 (min yh hi),.int .i64 (min yf fi),.bool false]);have hut:=h_ htr;have HJ2:Hid (EH W3 mf mo (LK++F.take (j+1)) OK (ya==ac) w2):=by
          show EH _ _ _ _ _ _ _;have hsm:=uY.out;rw[qD.out]at hsm⊢;obtain⟨nO,T9,hmo⟩:=Mx.out.o;refine⟨⟨_,by rw[List.length_append,List.length_singleton];split<;>omega,hm2.congr (λr=>?_)⟩,⟨nO,T9,hmo.upd hut (λe=>Vv e.symm)⟩,Mx.out.upd.trans hut (λ_ _ h=>.inl h),hsm⟩;exact vW (x:=⟨re,ac,lo,hi,fi,se⟩) YL.out r
         have vD:Hid (aG (λk=>k=mf\/k=mo) Wa w2):=IC.out.trans hut (λ_ _ h=>.inl h);clear wV hm2 htr hut Mx IC EZ yw RD vR uY YL;go_wp2
         go_roundg (F.length - (j+1))
         case measure=>rw[HG2.out];omega
         case rel=>exact⟨j+1,_,rfl,by omega,by go_num,rfl,HJ2,vD⟩
       |true=>
        as_aux_lemma=>
         go_upto_region 14 with(fail)
         refine nL (w1:=Wc.drew.setCell ⟨Wb.heap.size,2,none⟩ (.int .i64 (max yl lo))) 13 11 (by omega) (by simp) (by kernel_rfl) (by kernel_rfl) ?_;simp only[List.take_succ_cons,List.take_zero,List.drop_succ_cons,List.drop_zero];refine ji rfl (λK hK=>?_);go_simp;refine hK _ ?_;clear hK K;refine zx rfl (by kernel_rfl) (λK hK=>?_);go_simp;refine hK _ ?_;clear hK K;repeat(refine ji rfl (λK hK=>?_);go_simp;refine hK _ ?_;clear hK K)
         refine BS rfl rfl ?_ ?_
         .go_simp
         go_simp;repeat(refine ji rfl (λK hK=>?_);go_simp;refine hK _ ?_;clear hK K)
         refine FK ?_;gi_wp2;go_upto_region 15 with(fail)
         obtain⟨W5,og⟩:∃W5,Hid (W5=((Wc.setCell ⟨Wb.heap.size,2,none⟩ (.int .i64 (max yl lo))).setCell ⟨Wb.heap.size,3,none⟩ (.int .i64 (min yh hi))).drew):=⟨_,rfl⟩;rw[<-og.out];have zG:Hid (aG (λk=>k=Wb.heap.size) Wc W5):=by show aG _ _ _;rw[og.out];exact(((aG.refl (λk=>k=Wb.heap.size) Wc).setCell (.inl rfl) _).setCell (.inl rfl) _).drew
         have Ib:Hid (Own W5 56 Wb.heap.size [.int .i64 yr,.int .i64 ya,.int .i64 (max yl lo),.int .i64 (min yh hi),.int .i64 yf,.bool true]):=by
          show Own _ _ _ _;rw[og.out];exact((ZO.out.set (i:=2) (by simp) _).set (i:=3) (by simp) _).keep ((aG.refl (λ_=>False) _).drew) (λh=>h)
         have r0:=(bQ zG.out (by omega) hne).trans p0;have r4:=(bQ zG.out (by omega) hne).trans p4;have r5:=(bQ zG.out (by omega) hne).trans p5;have s4:W5.cell? ⟨Wb.heap.size,4,none⟩=some (.int .i64 yf):=Ib.out.cell rfl;have g4:=Ib.out.frozen 4;clear p0 p1 p2 p3 p4 p5 o0 o1 o2 o3 z2 z3 og;go_upto_region 16 with(fail)
         obtain⟨W6,zC⟩:∃W6,Hid (W6=W5.setCell ⟨Wb.heap.size,4,none⟩ (.int .i64 (min yf fi))):=⟨_,rfl⟩;rw[<-zC.out];have Fp:aG (λk=>k=Wb.heap.size) W5 W6:=by rw[zC.out];exact(aG.refl (λk=>k=Wb.heap.size) W5).setCell (.inl rfl) _
         have EB:Hid (Own W6 56 Wb.heap.size [.int .i64 yr,.int .i64 ya,.int .i64 (max yl lo),.int .i64 (min yh hi),.int .i64 (min yf fi),.bool true]):=by
          show Own _ _ _ _;rw[zC.out];exact Ib.out.set (i:=4) (by simp) _
         have hs5:=zG.out.size;have m0:=(bQ Fp (by omega) hne).trans r0;have m5:=(bQ Fp (by omega) hne).trans r5;have s5:W6.cell? ⟨Wb.heap.size,5,none⟩=some (.bool true):=EB.out.cell rfl;have g5:=EB.out.frozen 5;have vS:Hid (aG (λk=>k=Wb.heap.size) Wc W6):=zG.out.trans Fp (λ_ _ h=>h);clear r0 r4 r5 s4 g4 zC Fp Ib zG;go_upto_region 17 with(fail)
         obtain⟨W7,Bp⟩:∃W7,Hid (W7=W6.setCell ⟨Wb.heap.size,5,none⟩ (.bool se)):=⟨_,rfl⟩;rw[<-Bp.out];have RF:aG (λk=>k=Wb.heap.size) W6 W7:=by rw[Bp.out];exact(aG.refl (λk=>k=Wb.heap.size) W6).setCell (.inl rfl) _
         have yw:Hid (Own W7 56 Wb.heap.size [.int .i64 yr,.int .i64 ya,.int .i64 (max yl lo),.int .i64 (min yh hi),.int .i64 (min yf fi),.bool se]):=by
          show Own _ _ _ _;rw[Bp.out];exact EB.out.set (i:=5) (by simp) _
         have hs6:=vS.out.size;have n0:=(bQ RF (by omega) hne).trans m0;have EZ:Hid (aG (λk=>k=Wb.heap.size) Wc W7):=vS.out.trans RF (λ_ _ h=>h);have t0:W7.cell? ⟨Wb.heap.size,0,none⟩=some (.int .i64 yr):=yw.out.cell rfl;have t1:W7.cell? ⟨Wb.heap.size,1,none⟩=some (.int .i64 ya):=yw.out.cell rfl;have t2:W7.cell? ⟨Wb.heap.size,2,none⟩=some (.int .i64 (max yl lo)):=yw.out.cell rfl;have t3:W7.cell? ⟨Wb.heap.size,3,none⟩=some (.int .i64 (min yh hi)):=yw.out.cell rfl;have t4:W7.cell? ⟨Wb.heap.size,4,none⟩=some (.int .i64 (min yf fi)):=yw.out.cell rfl;have t5:W7.cell? ⟨Wb.heap.size,5,none⟩=some (.bool se):=yw.out.cell rfl;clear m0 m5 s5 g5 Bp RF EB vS;have Mx:=Lib.hid (RD.out.turn EZ.out (by omega) (by omega) (λk hk e=>by omega));have IC:Hid (aG (λk=>k=mf\/k=mo) Wa W7):=vR.out.trans EZ.out (λi hi e=>by omega);obtain⟨nF,hnF,wV⟩:=Mx.out.f;obtain⟨w2,hrun,hm2,htr⟩:=eD.put rW BP underlying160 wV (by have:=Oa.out;unfold maxLen;omega) hre (Dc hre) (.agg #[.int .i64 yr,.int .i64 ya,.int .i64 (max yl lo),.int .i64 (min yh hi),.int .i64 (min yf fi),.bool se]);have hut:=h_ htr;have HJ2:Hid (EH W3 mf mo (LK++F.take (j+1)) OK (ya==ac) w2):=by
          show EH _ _ _ _ _ _ _;have hsm:=uY.out;rw[qD.out]at hsm⊢;obtain⟨nO,T9,hmo⟩:=Mx.out.o;refine⟨⟨_,by rw[List.length_append,List.length_singleton];split<;>omega,hm2.congr (λr=>?_)⟩,⟨nO,T9,hmo.upd hut (λe=>Vv e.symm)⟩,Mx.out.upd.trans hut (λ_ _ h=>.inl h),hsm⟩;exact vW (x:=⟨re,ac,lo,hi,fi,se⟩) YL.out r
         have vD:Hid (aG (λk=>k=mf\/k=mo) Wa w2):=IC.out.trans hut (λ_ _ h=>.inl h);clear wV hm2 htr hut Mx IC EZ yw RD vR uY YL;go_wp2
         go_roundg (F.length - (j+1))
         case measure=>rw[HG2.out];omega
         case rel=>exact⟨j+1,_,rfl,by omega,by go_num,rfl,HJ2,vD⟩
    .obtain rfl:j=F.length:=by omega
     have TL:Hid (LK++F.take F.length=LK++F):=by show _=_;rw[List.take_length]
     rw[TL.out]at HJ;have d2':=(bQ (o:=2) HU.out hbl (by omega)).trans d2;clear TL hjl HU;go_wp2
     go_loopg [87] O.length (λg2 v87 wq=>∃j:Nat,g2=O.length - j/\j<=O.length/\v87= .int .i64 j/\Hid (EH W3 mf mo (LK++F) (OK++O.take j) sm wq))
     case atStart=>exact⟨0,rfl,Nat.zero_le _,rfl,by rw[List.take_zero,List.append_nil];exact HJ⟩
     case round=>
      clear HJ d2';obtain⟨j,hg2,hj,rfl,HJ⟩:=hrel;have Q_:=Lib.hid hg2;clear hg2;by_cases hjl:j<O.length
      .obtain⟨ab,ao,hA,hab,hcell⟩:=HQQ.out.vB (by omega)
       subst hA;obtain⟨⟨br,bn⟩,hx⟩:∃x,O[j]?=some x:=⟨O[j],List.getElem?_eq_getElem hjl⟩;have hbw:=HBU.out wr HJ.out.upd;have hin:GK ⟨br,bn⟩:=HXB.out _ (List.mem_of_getElem? hx);have e0:wr.cell? ⟨ab,ao+j*2,none⟩=some (.int .i64 br):=hcell j _ hx wr hbw 0 (by omega);have e1:wr.cell? ⟨ab,ao+j*2+1,none⟩=some (.int .i64 bn):=hcell j _ hx wr hbw 1 (by omega);have qD:Hid (OK++O.take (j+1)=(OK++O.take j)++[⟨br,bn⟩]):=by show _=_;rw[bT hx,List.append_assoc]
       have Oa:Hid ((OK++O.take j).length<4000):=by show _<_;have:=HLO.out;rw[List.length_append,List.length_take];omega
       generalize OK++O.take j=QQ at HJ qD Oa;clear hx hcell hbw;have jO:(j:Int)<(O.length:Int):=by omega
       go_upto_region 22 with(fail)
       generalize Dx:World.alloc _ _=Wb;obtain⟨hbb,hxb⟩:=bx1' Dx;have q0:Wb.cell? ⟨wr.heap.size,0,none⟩=some (.int .i64 br):=(cell_of_row Wb _ 0 _ _ _ hxb).trans rfl;have q1:Wb.cell? ⟨wr.heap.size,1,none⟩=some (.int .i64 bn):=(cell_of_row Wb _ 1 _ _ _ hxb).trans rfl;have YK:=Lib.hid (HJ.out.on hbb);obtain⟨nO,T9,hmo⟩:=YK.out.o;obtain⟨w2,hrun,hm2,htr⟩:=eD.put NZ aak underlying161 hmo (by have:=Oa.out;unfold maxLen;omega) hin (aal hin) (.bool true);have hut:=h_ htr;have HJ2:Hid (EH W3 mf mo (LK++F) (OK++O.take (j+1)) sm w2):=by
        show EH _ _ _ _ _ _ _;rw[qD.out];obtain⟨nF,hnF,wV⟩:=YK.out.f;exact⟨⟨nF,hnF,wV.upd hut Vv⟩,⟨_,by rw[List.length_append,List.length_singleton];split<;>omega,hm2.congr (λb=>YI QQ ⟨br,bn⟩ b)⟩,YK.out.upd.trans hut (λ_ _ h=>.inr h),YK.out.same⟩
       clear Dx hbb hxb hmo hm2 htr hut e0 e1 YK HJ;go_wp2
       go_roundg (O.length - (j+1))
       case measure=>rw[Q_.out];omega
       case rel=>exact⟨j+1,rfl,by omega,by go_num,HJ2⟩
      .obtain rfl:j=O.length:=by omega
       have HJ2:Hid (EH W3 mf mo (aM (fs.take (k+1))) (bE (fs.take (k+1))) sm wr):=by
        show EH _ _ _ _ _ _ _;have h:=HJ.out;rw[List.take_length]at h;rw[hLk.out,hOk.out];exact h
       go_wp2
       go_roundg (fs.length - (k+1))
       case measure=>rw[iw.out];omega
       case rel=>exact⟨k+1,sm,rfl,by omega,by go_num,rfl,HJ2⟩
  .obtain rfl:k=fs.length:=by omega
   have TL:Hid (fs.take fs.length=fs):=List.take_length;rw[TL.out]at HJ;have hbw:=HBU.out wr HJ.out.upd;obtain⟨_,_,hcell0⟩:=TY.out 0 f0 H0.out;have c0:wr.cell? ⟨fb,fo,none⟩=some (.int .i64 f0.house):=by have h:=hcell0 wr hbw 0 (by omega);rw[Nat.zero_mul]at h;exact h
   obtain⟨nF,hnF,wV⟩:=HJ.out.f;obtain⟨nO,T9,hmo⟩:=HJ.out.o;have hlf:=λty=>eD.len underlying160 wV ty;have hlo:=λty=>eD.len underlying161 hmo ty;have n1:¬((4000:Int)<(nF:Int)):=by have:=HLL.out;omega
   have n2:¬((4000:Int)<(nO:Int)):=by have:=HOL.out;omega
   have HRW:Hid (Own wr 31 w.heap.size [.int .i64 0,.slice none 0 0,.slice none 0 0]):=⟨[],by rw[List.append_nil];exact HJ.out.upd.keep YB.out (λh=>by omega)⟩;have apP:=Lib.hid hlt;clear hcell0 wV hmo TL hlt;go_upto_region 28 with(fail)
   generalize hWa:World.alloc _ _=Wa;obtain⟨hba,hxa⟩:=bx1' hWa;obtain⟨rb,hrb⟩:∃rb,rb=wr.heap.size:=⟨_,rfl⟩;rw[<-hrb]at hxa;rw[<-hrb];have apQ:=aB hxa;have hsw:=HJ.out.upd.size;have hrm:mf<rb/\mo<rb/\w.heap.size<rb/\W3.heap.size<=rb:=by omega
   have HXA:Hid (Own Wa 31 rb [.int .i64 f0.house,.slice none 0 0,.slice none 0 0]):=⟨[],by rw[List.append_nil];exact hxa⟩;have HJa:=Lib.hid (HJ.out.on hba);have HRa:=Lib.hid (HRW.out.below hba);obtain⟨nF',akX,agZ⟩:=HJa.out.f;have Yy:=Lib.hid (Vq mf Wa);have uZ:=Lib.hid (OP agZ (by have:=HLL.out;omega));have Ni:=Lib.hid hrb;clear hrb;clear hWa hba hxa hlf hlo n1 n2 hnF T9 akX agZ HJ HRW c0 hbw;go_wp2_with (first|(go_at_call 94;refine Yy.out.mono ?_;rintro e z0 ⟨rfl,rfl⟩)|(go_at_call 93;refine uZ.out.mono ?_;rintro e Z3 ⟨T,TA,tc,rfl,hAt,hTB,hb,hTP,hTI,hTM⟩;refine Hid.out ?_));refine Lib.hid ?_;have hb3:Below Wa.heap.size Wa Z3:=Below.step (Below.jX (Below.refl _ _) _) hb;have HT:Hid (T=keysOf (aM fs)):=Ej hTP (λr=>by
    constructor
    .intro hr
     exact EG.1 (by have h:=(hTM r (hTI r hr)).1 hr;unfold qK at h;simpa using h)
    .rintro⟨x,hx,rfl⟩
     exact(hTM x.ref (HR.out x hx)).2 (by unfold qK;simpa using EG.2 ⟨x,hx,rfl⟩))
   have ag0:Hid (∀r∈T,iK r/\∃x,look (aM fs) r=some x):=λr hr=>⟨hTI r hr,by
    rw[HT.out]at hr;obtain⟨z,h1,_⟩:=C_ hr;exact⟨z,h1⟩⟩
   have htl:T.length<=4000:=by rw[HT.out];exact Nat.le_trans (AV _) HLL.out
   have HAT:=Lib.hid hAt;clear hAt;have HTB:Hid (∀b off,TA=some ⟨b,off,none⟩->rb<b):=λb off e=>by have h:=hTB b off e;rw[World.size_alloc]at h;omega
   have yR:=Lib.hid (HXA.out.below hb3);have HJ3:=Lib.hid (HJa.out.on hb3);have HR3:=Lib.hid (HRa.out.below hb3);have hs3:=hb3.size;clear hb hTP hTI hTM hTB hb3 HXA HJa HRa Yy uZ;obtain⟨is,hsi,hsz,hss,hsb⟩:=info_parts' (P:=prog) (t:=56) (z:=some (.agg #[.int .i64 0,.int .i64 0,.int .i64 0,.int .i64 0,.int .i64 0,.bool false])) (s:=6) (b:=48) (by kernel_rfl);go_wp2
   go_loopg [113] T.length (λg2 ak0 wq=>∃(i:Nat)(A:Option Addr)(c:Nat),g2=T.length - i/\i<=T.length/\ak0= .int .i64 i/\Hid (Own wq 31 rb [.int .i64 f0.house,.slice A i c,.slice none 0 0])/\Hid (wq.ownsRow Z3.heap.size 56 6 (.slice A i c) i (bH ((T.take i).filterMap (look (aM fs)))))/\Hid (aG (λk=>k=rb) Z3 wq))
   case atStart=>exact⟨0,none,0,rfl,Nat.zero_le _,rfl,yR,World.ownsRow_nil _ _ _ _,aG.refl _ _⟩
   case round=>
    clear yR;obtain⟨i,A,c,hg2,hi,rfl,HX,RG,HU⟩:=hrel;have HG2:=Lib.hid hg2;clear hg2;by_cases hil:i<T.length
    .obtain⟨tb,Mg,hTA,htb,htc⟩:=HAT.out.1.form (by omega) (by omega)
     subst hTA;obtain⟨r,hr⟩:∃r,T[i]?=some r:=⟨T[i],List.getElem?_eq_getElem hil⟩;obtain⟨hri,⟨re,ac,lo,hi2,fi,se⟩,hlx⟩:=ag0.out r (List.mem_of_getElem? hr);have htn:=HTB.out tb Mg rfl;have ct:wr.cell? ⟨tb,Mg+i,none⟩=some (.int .i64 r):=by
      rw[bQ HU.out htb (by omega),htc i (by omega),List.getElem?_map,hr];rfl
     obtain⟨nF,hnF,wV⟩:=HJ3.out.f;have hlk:=eD.look BP underlying160 (wV.upd HU.out (by omega)) (abM wr) hri (Dc hri);have hv:qK (aM fs) r=some (Iz ⟨re,ac,lo,hi2,fi,se⟩):=by unfold qK;rw[hlx];rfl
     rw[hv]at hlk;simp only[Option.getD_some,Iz,ay.cells]at hlk;have b0:wr.cell? ⟨rb,0,none⟩=some (.int .i64 f0.house):=HX.out.cell rfl;have b1:wr.cell? ⟨rb,1,none⟩=some (.slice A i c):=HX.out.cell rfl;have qD:Hid ((T.take (i+1)).filterMap (look (aM fs))=(T.take i).filterMap (look (aM fs))++[⟨re,ac,lo,hi2,fi,se⟩]):=by
      show _=_;rw[bT hr,List.filterMap_append];simp[hlx]
     have iT:(i:Int)<(T.length:Int):=by omega
     have Vb:=HU.out.size;clear hr hlx hv wV hnF htc;go_wp2_with (at_builtin;refine iV rfl _ _ 28 rfl 56 is (.agg #[.int .i64 0,.int .i64 0,.int .i64 0,.int .i64 0,.int .i64 0,.bool false]) 6 48 underlying28 hsi hsz hss hsb rfl (by decide) Z3.heap.size _ _ _ rfl RG.out [.int .i64 re,.int .i64 ac,.int .i64 lo,.int .i64 hi2,.int .i64 fi,.bool se] _ rfl rfl (by intro u hu;simp only[List.mem_cons,List.not_mem_nil,or_false]at hu;rcases hu with rfl|rfl|rfl|rfl|rfl|rfl<;>rfl) rfl (by unfold maxLen;omega) (by omega) (by omega) ?_;intro g6 c6 w6 h1 h2;refine Hid.out ?_);refine Lib.hid ?_;have hnb:∀k,(Value.slice A i c).ownBlock=some k->Z3.heap.size<=k:=λk e=>(RG.out.lt k e).1;have ZP:Z3.heap.size<=g6:=(h1.lt g6 rfl).1;have vS:Hid (aG (λk=>Z3.heap.size<=k) wr w6):=((aG.refl _ wr).alloc _).trans (aG.jK h2) (λk _ h=>hnb k h);have Vw:Hid (Own w6 31 rb [.int .i64 f0.house,.slice A i c,.slice none 0 0]):=HX.out.keep vS.out (by omega);have FN:Hid (w6.ownsRow Z3.heap.size 56 6 (.slice (some ⟨g6,0,none⟩) (i+1) c6) (i+1) (bH ((T.take (i+1)).filterMap (look (aM fs))))):=by
      show World.ownsRow _ _ _ _ _ _ _;rw[qD.out];have e:∀(l:List ay)(x:ay),bH (l++[x])=bH l++x.cells:=λl x=>by unfold bH;rw[List.flatMap_append];simp
      rw[e];exact h1
     have t1:w6.cell? ⟨rb,1,none⟩=some (.slice A i c):=Vw.out.cell rfl;have z1:=Vw.out.frozen 1;clear h1 h2 hlk b0 b1 ct;go_wp2
     go_roundg (T.length - (i+1))
     case measure=>rw[HG2.out];omega
     case rel=>
      refine⟨i+1,_,_,rfl,by omega,by go_num,Vw.out.set (i:=1) (by simp) _,yP FN.out (λe=>by simp only[Value.ownBlock,Option.some.injEq]at e;omega) _,?_⟩;exact(HU.out.trans vS.out (λk hk h=>by omega)).setCell (.inl rfl) _
    .obtain rfl:i=T.length:=by omega
     have HFT:Hid ((T.take T.length).filterMap (look (aM fs))=dI (aM fs)):=by show _=_;rw[List.take_length,HT.out];rfl
     rw[HFT.out]at RG;have TL:Hid (T.length=(dI (aM fs)).length):=by show _=_;rw[yQ,HT.out]
     rw[TL.out]at RG HX;have HJw:Hid (EH W3 mf mo (aM fs) (bE fs) sm wr):=HJ3.out.turn HU.out (by omega) (by omega) (λk hk e=>by omega);have HRw:Hid (Own wr 31 w.heap.size [.int .i64 0,.slice none 0 0,.slice none 0 0]):=HR3.out.keep HU.out (by omega);have Vb:=HU.out.size;obtain⟨nO,T9,hmo⟩:=HJw.out.o;have Yy:=Lib.hid (Vr mo wr);have uZ:=Lib.hid (Fj hmo (by have:=HOL.out;omega));clear hmo T9 HFT HT ag0 HAT HTB hil htl;go_wp2_with (first|(go_at_call 96;refine Yy.out.mono ?_;rintro e z0 ⟨rfl,rfl⟩)|(go_at_call 95;refine uZ.out.mono ?_;rintro e Z5 ⟨OO,OA,oc,rfl,hAt,hOB,hb,hOP,hOI,hOM⟩;refine Hid.out ?_));refine Lib.hid ?_;have hb5:Below wr.heap.size wr Z5:=Below.step (Below.jX (Below.refl _ _) _) hb;have HOO:Hid (pI (bE fs) OO):=⟨hOP,λx=>by
      have hin:x∈bE fs->GK x:=λh=>by
       obtain⟨⟨y,hy,e1⟩,u,hu,e2⟩:=HK.out x h;exact⟨e1▸HR.out y hy,e2▸HR.out u hu⟩
      have hh:(Ry (bE fs) x).isSome=true↔x∈bE fs:=by unfold Ry;split<;>simp[*]
      constructor
      .exactλh=>hh.1 ((hOM x (hOI x h)).1 h)
      .exactλh=>(hOM x (hin h)).2 (hh.2 h)⟩
     have HAT:=Lib.hid hAt;clear hAt;have HOB:Hid (∀b off,OA=some ⟨b,off,none⟩->wr.heap.size<b):=λb off e=>by have h:=hOB b off e;rw[World.size_alloc]at h;omega
     have ZL:Hid (∀k,(Value.slice A (dI (aM fs)).length c).ownBlock=some k->k<wr.heap.size):=λk e=>(RG.out.lt k e).2;have HX5:=Lib.hid (HX.out.below hb5);have HJ5:=Lib.hid (HJw.out.on hb5);have KO:=Lib.hid (HRw.out.below hb5);have YM:=Lib.hid (dF RG.out hb5);have hs5:=hb5.size;have t2:Z5.cell? ⟨rb,2,none⟩=some (.slice none 0 0):=HX5.out.cell rfl;have z2:=HX5.out.frozen 2;clear hb hOP hOI hOM hOB hb5 HX HJw HRw Yy uZ RG;go_upto_region 34 with(fail)
     obtain⟨Z6,HZ6⟩:∃Z6,Hid (Z6=Z5.setCell ⟨rb,2,none⟩ (.slice OA OO.length oc)):=⟨_,rfl⟩;rw[<-HZ6.out];have Fp:aG (λk=>k=rb) Z5 Z6:=by rw[HZ6.out];exact(aG.refl (λk=>k=rb) Z5).setCell (.inl rfl) _
     have Vw:Hid (Own Z6 31 rb [.int .i64 f0.house,.slice A (dI (aM fs)).length c,.slice OA OO.length oc]):=by
      show Own _ _ _ _;rw[HZ6.out];exact HX5.out.set (i:=2) (by simp) _
     have HJ6:Hid (EH W3 mf mo (aM fs) (bE fs) sm Z6):=HJ5.out.turn Fp (by omega) (by omega) (λk hk e=>by omega);have FN:Hid (Own Z6 31 w.heap.size [.int .i64 0,.slice none 0 0,.slice none 0 0]):=KO.out.keep Fp (by omega);have EB:Hid (At Z6 2 OA OO.length oc (eT OO)):=uS HAT.out (by omega) Fp (λb off e h=>by have:=HOB.out b off e;omega);have T_:Hid (Z6.ownsRow Z3.heap.size 56 6 (.slice A (dI (aM fs)).length c) (dI (aM fs)).length (bH (dI (aM fs)))):=by
      show World.ownsRow _ _ _ _ _ _ _;rw[HZ6.out];exact yP YM.out (λe=>by have:=(YM.out.lt _ e).1;simp only at this;omega) _
     have hs6:=Fp.size;have aaZ:Hid (Below w.heap.size w Z6):=HBU.out Z6 HJ6.out.upd;clear HZ6 Fp HX5 HJ5 KO HAT YM t2 z2;have r0:Z6.cell? ⟨w.heap.size,0,none⟩=some (.int .i64 0):=FN.out.cell rfl;have r1:Z6.cell? ⟨w.heap.size,1,none⟩=some (.slice none 0 0):=FN.out.cell rfl;have r2:Z6.cell? ⟨w.heap.size,2,none⟩=some (.slice none 0 0):=FN.out.cell rfl;have y0:=FN.out.frozen 0;have y1:=FN.out.frozen 1;have y2:=FN.out.frozen 2;cases sm with
     |false=>
      have HEV:Hid (Xu (aM fs) (bE fs)):=.inl (λh=>by have:=HJ6.out.same.2 h;cases this);go_wp2;obtain⟨Wf,iq⟩:∃Wf,Hid (Wf=((Z6.setCell ⟨w.heap.size,0,none⟩ (.int .i64 0)).setCell ⟨w.heap.size,1,none⟩ (.slice none 0 0)).setCell ⟨w.heap.size,2,none⟩ (.slice none 0 0)):=⟨_,rfl⟩;rw[<-iq.out];have YN:Own Wf 31 w.heap.size [.int .i64 0,.slice none 0 0,.slice none 0 0]:=by
       rw[iq.out];exact((FN.out.set (i:=0) (by simp) _).set (i:=1) (by simp) _).set (i:=2) (by simp) _
      have lF:aG (λk=>k=w.heap.size) Z6 Wf:=by rw[iq.out];exact(((aG.refl (λk=>k=w.heap.size) _).setCell (.inl rfl) _).setCell (.inl rfl) _).setCell (.inl rfl) _
      have d0:Wf.cell? ⟨w.heap.size,0,none⟩=some (.int .i64 0):=YN.cell rfl;have d1:Wf.cell? ⟨w.heap.size,1,none⟩=some (.slice none 0 0):=YN.cell rfl;have d2:Wf.cell? ⟨w.heap.size,2,none⟩=some (.slice none 0 0):=YN.cell rfl;refine bodyPost_ret (v:=.tuple #[.agg #[.int .i64 0,.slice none 0 0,.slice none 0 0],.int .i64 23]) (by simp[results,results62,go_sem,d0,d1,d2]) rfl ⟨0,[],[],23,none,0,none,0,rfl,⟨gD _ _,gD _ _⟩,⟨λb off e=>(by cases e),λb off e=>(by cases e)⟩,aaZ.out.trans (lF.below aaZ.out.size (λk hk=>by omega)),.inr ⟨rfl,rfl,rfl,rfl,HEV.out⟩⟩
     |true=>
      obtain⟨fk,hOF,ak3,hfw,hfr,hfo⟩:∃fk,H6 Z6 A fk (dI (aM fs))/\fk<Z6.heap.size/\w.heap.size<fk/\fk≠rb/\∀b off,OA=some ⟨b,off,none⟩->b≠fk:=by
       rcases su T_.out with⟨h1,h2,h3⟩|⟨g,h1,h2,h3⟩
       .exact⟨mf,.inl (List.eq_nil_of_length_eq_zero h1),by omega,hmw,by omega,λb off e=>by have:=HOB.out b off e;omega⟩
       .refine⟨g,.inr ⟨h1,h3⟩,h3.lt,by omega,by omega,λb off e=>?_⟩
        have h4:=HOB.out b off e;have h5:=ZL.out g (by rw[h1];rfl);omega
      have hFA:gJ Z6 ⟨⟨A,c⟩,⟨OA,oc⟩⟩ ⟨f0.house,dI (aM fs),OO⟩:=⟨by
       obtain⟨A',c',e,h,_⟩:=yO T_.out (o8 _);simp only[Value.slice.injEq]at e;rw[e.1,e.2.2];exact h,EB.out⟩
      have hjl:(dI (aM fs)).length<=4000:=by rw[yQ];exact Nat.le_trans (AV _) HLL.out
      have ac6:OO.length<=4000:=Nat.le_trans (Iy HOO.out) HOL.out;have HKN:Hid (Known (dI (aM fs)) OO):=HK.out.known HOO.out;have HTI:=Lib.hid (Oj A c fk OA oc f0.house (dI (aM fs)) OO Z6 hFA hOF ak3 (λx hx=>by
       obtain⟨y,hy,e,_⟩:=(El hx).act;rw[<-e];exact HR.out y hy) (lJ _) hjl ac6 HKN.out)
      have uY:Hid (Ad (aM fs)):=HJ6.out.same.1 rfl;have v0:Z6.cell? ⟨rb,0,none⟩=some (.int .i64 f0.house):=Vw.out.cell rfl;have v1:Z6.cell? ⟨rb,1,none⟩=some (.slice A (dI (aM fs)).length c):=Vw.out.cell rfl;have v2:Z6.cell? ⟨rb,2,none⟩=some (.slice OA OO.length oc):=Vw.out.cell rfl;have Qf:Hid ((A=none->(dI (aM fs)).length=0/\c=0)/\(dI (aM fs)).length<=c/\c<=maxLen):=hFA.facts.2;have ZQ:Hid (∀b off,A=some ⟨b,off,none⟩->w.heap.size<=b):=λb off e=>by
       have h:=(T_.out.lt b (by rw[e];rfl)).1;omega
      clear hFA hOF HJ6 T_;go_wp2_with (go_at_call 98;refine HTI.out.mono ?_;rintro e z ⟨T',rfl,hti,hof,huz⟩;refine Hid.out ?_);refine Lib.hid ?_;have HRz:=Lib.hid (FN.out.keep huz (by omega));have HXz:=Lib.hid (Vw.out.keep huz (λe=>hfr e.symm));have HOz:Hid (At z 2 OA OO.length oc (eT OO)):=uS EB.out (by omega) huz hfo;have aa1:Hid (Below w.heap.size w z):=aaZ.out.trans (huz.below aaZ.out.size (λk hk=>by omega));have HTG:=Lib.hid hti;have HOF:=Lib.hid hof;have adl:=DK hti;have r0:z.cell? ⟨w.heap.size,0,none⟩=some (.int .i64 0):=HRz.out.cell rfl;have r1:z.cell? ⟨w.heap.size,1,none⟩=some (.slice none 0 0):=HRz.out.cell rfl;have r2:z.cell? ⟨w.heap.size,2,none⟩=some (.slice none 0 0):=HRz.out.cell rfl;have y0:=HRz.out.frozen 0;have y1:=HRz.out.frozen 1;have y2:=HRz.out.frozen 2;have v0':z.cell? ⟨rb,0,none⟩=some (.int .i64 f0.house):=HXz.out.cell rfl;have v1':z.cell? ⟨rb,1,none⟩=some (.slice A (dI (aM fs)).length c):=HXz.out.cell rfl;have v2':z.cell? ⟨rb,2,none⟩=some (.slice OA OO.length oc):=HXz.out.cell rfl;clear hti hof huz v0 v1 v2 HTI;cases hb:sZ T' with
      |false=>
       have HEV:Hid (Xu (aM fs) (bE fs)):=.inr ⟨T',OO,HOO.out,HTG.out,by
        unfold sZ at hb;rw[List.all_eq_false]at hb;obtain⟨t,ht,hlt⟩:=hb;exact⟨t,ht,by simpa using hlt⟩⟩
       clear hb;go_wp2;obtain⟨Wf,iq⟩:∃Wf,Hid (Wf=((z.setCell ⟨w.heap.size,0,none⟩ (.int .i64 0)).setCell ⟨w.heap.size,1,none⟩ (.slice none 0 0)).setCell ⟨w.heap.size,2,none⟩ (.slice none 0 0)):=⟨_,rfl⟩;rw[<-iq.out];have YN:Own Wf 31 w.heap.size [.int .i64 0,.slice none 0 0,.slice none 0 0]:=by
        rw[iq.out];exact((HRz.out.set (i:=0) (by simp) _).set (i:=1) (by simp) _).set (i:=2) (by simp) _
       have lF:aG (λk=>k=w.heap.size) z Wf:=by rw[iq.out];exact(((aG.refl (λk=>k=w.heap.size) _).setCell (.inl rfl) _).setCell (.inl rfl) _).setCell (.inl rfl) _
       have d0:Wf.cell? ⟨w.heap.size,0,none⟩=some (.int .i64 0):=YN.cell rfl;have d1:Wf.cell? ⟨w.heap.size,1,none⟩=some (.slice none 0 0):=YN.cell rfl;have d2:Wf.cell? ⟨w.heap.size,2,none⟩=some (.slice none 0 0):=YN.cell rfl;refine bodyPost_ret (v:=.tuple #[.agg #[.int .i64 0,.slice none 0 0,.slice none 0 0],.int .i64 23]) (by simp[results,results62,go_sem,d0,d1,d2]) rfl ⟨0,[],[],23,none,0,none,0,rfl,⟨gD _ _,gD _ _⟩,⟨λb off e=>(by cases e),λb off e=>(by cases e)⟩,aa1.out.trans (lF.below aa1.out.size (λk hk=>by omega)),.inr ⟨rfl,rfl,rfl,rfl,HEV.out⟩⟩
      |true=>
       have HFI:Hid (tY (aM fs) (bE fs) T' OO):=⟨uY.out,HOO.out,HTG.out,yu.1 hb⟩;clear hb;go_wp2;obtain⟨Wf,iq⟩:∃Wf,Hid (Wf=((z.setCell ⟨w.heap.size,0,none⟩ (.int .i64 f0.house)).setCell ⟨w.heap.size,1,none⟩ (.slice A (dI (aM fs)).length c)).setCell ⟨w.heap.size,2,none⟩ (.slice OA OO.length oc)):=⟨_,rfl⟩;rw[<-iq.out];have YN:Own Wf 31 w.heap.size [.int .i64 f0.house,.slice A (dI (aM fs)).length c,.slice OA OO.length oc]:=by
        rw[iq.out];exact((HRz.out.set (i:=0) (by simp) _).set (i:=1) (by simp) _).set (i:=2) (by simp) _
       have lF:aG (λk=>k=w.heap.size) z Wf:=by rw[iq.out];exact(((aG.refl (λk=>k=w.heap.size) _).setCell (.inl rfl) _).setCell (.inl rfl) _).setCell (.inl rfl) _
       have d0:Wf.cell? ⟨w.heap.size,0,none⟩=some (.int .i64 f0.house):=YN.cell rfl;have d1:Wf.cell? ⟨w.heap.size,1,none⟩=some (.slice A (dI (aM fs)).length c):=YN.cell rfl;have d2:Wf.cell? ⟨w.heap.size,2,none⟩=some (.slice OA OO.length oc):=YN.cell rfl;refine bodyPost_ret (v:=.tuple #[.agg #[.int .i64 f0.house,.slice A (dI (aM fs)).length c,.slice OA OO.length oc],.int .i64 0]) (by simp[results,results62,go_sem,d0,d1,d2]) rfl ⟨f0.house,T',OO,0,A,c,OA,oc,by rw[adl],⟨?_,uS HOz.out (by omega) lF (λb off e h=>?_)⟩,⟨ZQ.out,λb off e=>by have:=HOB.out b off e;omega⟩,aa1.out.trans (lF.below aa1.out.size (λk hk=>by omega)),.inl ⟨rfl,rfl,HFI.out⟩⟩
       .obtain⟨hc1,hc2,hc3⟩:=Qf.out
        rcases HOF.out with rfl|⟨h1,h2⟩
        .exact⟨⟨rfl,λu hu=>(by cases hu),λh=>absurd h (Nat.lt_irrefl _)⟩,λe=>⟨rfl,(hc1 e).2⟩,Nat.zero_le _,hc3⟩
        .subst h1
         exact(h2.keep lF (λe=>by omega)).C8 (um _) (o8 _) (Nat.le_trans (Nat.le_of_eq adl) hc2) hc3
       .have:=HOB.out b off e;omega
end
section
open Go.RowKit Go.Shelf Tryz
theorem IE{F:List ay}:∀{O:List aX}{p:Option aX},oK F p O=true->∀b∈O,kE F b.ref=true/\kE F b.next=true/\b.ref≠b.next
 |[],_,_,b,hb=>by cases hb
 |a::O,p,h,b,hb=>by
  simp only[oK,Bool.and_eq_true,Bool.not_eq_true',beq_eq_false_iff_ne]at h;rcases List.mem_cons.1 hb with e|e
  .subst e;exact⟨h.1,h.2.1,h.2.2.1⟩
  .exact IE h.2.2.2.2 b e
theorem IG{F:List ay}{r:Int}:kE F r=true↔∃x∈F,x.ref=r:=by simp[kE]
theorem O8{C:au}{f:bR}(h:gN C f=true):oK f.facts none f.orders=true:=by
 simp only[gN,Bool.and_eq_true]at h;exact h.2.2.2.2
theorem nS{C:au}{f:bR}(h:gN C f=true):iL C 0 f.facts=true:=by
 simp only[gN,Bool.and_eq_true]at h;exact h.2.2.2.1
theorem Cq{C:au}{fs:List bR}(h:∀f∈fs,gN C f=true):xK (aM fs) (bE fs):=λb hb=>by
 obtain⟨f,hf,hbf⟩:=List.mem_flatMap.1 hb;obtain⟨h1,h2,_⟩:=IE (O8 (h f hf)) b hbf;obtain⟨x,hx,e1⟩:=IG.1 h1;obtain⟨y,hy,e2⟩:=IG.1 h2;exact⟨⟨x,List.mem_flatMap.2 ⟨f,hf,hx⟩,e1⟩,y,List.mem_flatMap.2 ⟨f,hf,hy⟩,e2⟩
theorem II{z Wf:World}{t:TypeId}{rs:Nat}{x0 x1 x2 a b c:Value}(h:Own z t rs [x0,x1,x2])(hW:Wf=((z.setCell ⟨rs,0,none⟩ a).setCell ⟨rs,1,none⟩ b).setCell ⟨rs,2,none⟩ c):
 Wf.cell? ⟨rs,0,none⟩=some a/\Wf.cell? ⟨rs,1,none⟩=some b/\Wf.cell? ⟨rs,2,none⟩=some c/\aG (λk=>k=rs) z Wf:=by
 have hr:Own Wf t rs [a,b,c]:=by
  rw[hW];exact((h.set (i:=0) (by simp) _).set (i:=1) (by simp) _).set (i:=2) (by simp) _
 refine⟨hr.cell rfl,hr.cell rfl,hr.cell rfl,?_⟩;rw[hW];exact(((aG.refl (λk=>k=rs) _).setCell (.inl rfl) _).setCell (.inl rfl) _).setCell (.inl rfl) _
def O9(C:au)(fs:List bR):Prop:=fs≠[]/\∀f∈fs,gN C f=true
def FP(C:au)(fs:List bR)(ho':Int)(F':List ay)(O':List aX)(er:Int):Prop:=
 (er=1/\ho'=0/\F'=[]/\O'=[]/\¬O9 C fs)\/(O9 C fs/\∃f0,fs[0]?=some f0/\YJ f0.house (aM fs) (bE fs) ho' F' O' er)
def RH(C:au)(fs:List bR)(w:World)(e:Ending)(w':World):Prop:=
 ∃(ho':Int)(F':List ay)(O':List aX)(er:Int)(A:Option Addr)(c:Nat)(A':Option Addr)(c':Nat),e= .returned (.tuple #[.agg #[.int .i64 ho',.slice A F'.length c,.slice A' O'.length c'],.int .i64 er])/\gJ w' ⟨⟨A,c⟩,⟨A',c'⟩⟩ ⟨ho',F',O'⟩/\((∀b off,A=some ⟨b,off,none⟩->w.heap.size<=b)/\∀b off,A'=some ⟨b,off,none⟩->w.heap.size<=b)/\Below w.heap.size w w'/\FP C fs ho' F' O' er
theorem YO(v:CV)(C:au)(sv:SV)(fs:List bR)(w:World)(hC:bO w v C)(hF:mF w sv fs)(hn:fs.length<=100)(hR:∀x∈aM fs,iK x.ref)(hL:(aM fs).length<=4000)(hO:(bE fs).length<=4000):
 Calls prog 35 #[v.val C,.slice sv.A fs.length sv.c] w (RH C fs w):=by
 obtain⟨⟨dV,dW⟩,⟨dX,dY⟩,⟨fB,dH⟩,⟨eZ,dM⟩,⟨dQ,dR⟩⟩:=v;obtain⟨sA,sc⟩:=sv;have HC:=Lib.hid hC;clear hC;have HF:=Lib.hid hF;clear hF;have HR:=Lib.hid hR;clear hR;have HL:=Lib.hid hL;clear hL;have HO:=Lib.hid hO;clear hO;simp only[CV.val,CV.cells];go_enter func35,ntmps35;go_upto_region 1 with(fail)
 generalize hW0:World.alloc _ _=W0;obtain⟨HB,hh0,gG⟩:=F5 hW0;clear hW0;obtain⟨iC,iD,iI,iy,iP,jc,jA⟩:=CS hh0;have Ng:Hid (W0.heap[w.heap.size+1]?=some (.cells #[.int .i64 0,.slice none 0 0,.slice none 0 0] 31 (0,0))):=gG;have hs0:=aB gG;clear hh0 gG;have HOW:Hid (∀z:Bl W0,Own z.val 31 (w.heap.size+1) [.int .i64 0,.slice none 0 0,.slice none 0 0]):=λz=>⟨[],by rw[List.append_nil];exact(z.prop.block _ hs0).trans Ng.out⟩;have r0:∀z:Bl W0,z.val.cell? ⟨w.heap.size+1,0,none⟩=some (.int .i64 0):=λz=>(HOW.out z).cell rfl;have r1:∀z:Bl W0,z.val.cell? ⟨w.heap.size+1,1,none⟩=some (.slice none 0 0):=λz=>(HOW.out z).cell rfl;have r2:∀z:Bl W0,z.val.cell? ⟨w.heap.size+1,2,none⟩=some (.slice none 0 0):=λz=>(HOW.out z).cell rfl;have y0:∀z:Bl W0,z.val.frozen? ⟨w.heap.size+1,0,none⟩=false:=λz=>(HOW.out z).frozen 0;have y1:∀z:Bl W0,z.val.frozen? ⟨w.heap.size+1,1,none⟩=false:=λz=>(HOW.out z).frozen 1;have y2:∀z:Bl W0,z.val.frozen? ⟨w.heap.size+1,2,none⟩=false:=λz=>(HOW.out z).frozen 2;change Code.wp _ _ _ _ (Bl.val (⟨W0,Below.refl _ _⟩:Bl W0));generalize(⟨W0,Below.refl _ _⟩:Bl W0)=s0;have J7:Hid (∀z:Bl W0,Below w.heap.size w z.val):=λz=>Below.step HB.out z.prop;by_cases hn0:fs.length=0
 .have hfs:fs=[]:=List.eq_nil_of_length_eq_zero hn0
  subst hfs;have n0:((0:Nat):Int)=0:=rfl;go_wp2;obtain⟨Wf,iq⟩:∃Wf,Hid (Wf=((s0.val.setCell ⟨w.heap.size+1,0,none⟩ (.int .i64 0)).setCell ⟨w.heap.size+1,1,none⟩ (.slice none 0 0)).setCell ⟨w.heap.size+1,2,none⟩ (.slice none 0 0)):=⟨_,rfl⟩;rw[<-iq.out];obtain⟨d0,d1,d2,lF⟩:=II (HOW.out s0) iq.out;refine bodyPost_ret (v:=.tuple #[.agg #[.int .i64 0,.slice none 0 0,.slice none 0 0],.int .i64 1]) (by simp[results,results35,go_sem,d0,d1,d2]) rfl ⟨0,[],[],1,none,0,none,0,rfl,⟨gD _ _,gD _ _⟩,⟨λb off e=>(by cases e),λb off e=>(by cases e)⟩,(J7.out s0).trans (lF.below (J7.out s0).size (λk hk=>by omega)),.inl ⟨rfl,rfl,rfl,rfl,λh=>h.1 rfl⟩⟩
 .have n0:((fs.length:Int)==0)=false:=by simp;intro h;subst h;simp at hn0
  have n1:¬((fs.length:Int)=0):=by omega
  obtain⟨f0,h0⟩:∃f0,fs[0]?=some f0:=⟨_,List.getElem?_eq_getElem (by omega)⟩;obtain⟨fb,fo,lG,hfb,O6⟩:=HF.out.form (by omega);simp only at lG;subst lG;have TY:=Lib.hid O6;clear O6;have H0:=Lib.hid h0;clear h0;go_wp2
  go_loopg [14] fs.length (λgk v14 wr=>∃(k:Nat)(z:Bl W0),gk=fs.length - k/\k<=fs.length/\v14= .int .i64 k/\wr=z.val/\Hid (∀(i:Nat)(f:bR),i<k->fs[i]?=some f->gN C f=true))
  case atStart=>exact⟨0,s0,rfl,Nat.zero_le _,rfl,rfl,λi f h=>absurd h (Nat.not_lt_zero _)⟩
  case round=>
   obtain⟨k,z,eO,hk,rfl,rfl,HP⟩:=hrel;have iw:=Lib.hid eO;clear eO;by_cases hlt:k<fs.length
   .obtain⟨⟨ho,F,O⟩,hx⟩:∃x,fs[k]?=some x:=⟨fs[k],List.getElem?_eq_getElem hlt⟩
    obtain⟨⟨⟨gA,gc⟩,⟨qA,qc⟩⟩,hfa,hcell⟩:=TY.out k _ hx;have e0:z.val.cell? ⟨fb,fo+k*3,none⟩=some (.int .i64 ho):=hcell z.val (J7.out z) 0 (by omega);have e1:z.val.cell? ⟨fb,fo+k*3+1,none⟩=some (.slice gA F.length gc):=hcell z.val (J7.out z) 1 (by omega);have e2:z.val.cell? ⟨fb,fo+k*3+2,none⟩=some (.slice qA O.length qc):=hcell z.val (J7.out z) 2 (by omega);have ZR:=Lib.hid hfa;clear hfa;have HX:=Lib.hid hx;clear hx hcell;have kF:(k:Int)<(fs.length:Int):=by omega
    go_upto_region 6 with(fail)
    generalize hWa:World.alloc _ _=Wa;obtain⟨hba,hxa⟩:=bx1' hWa;clear hWa;have oU:Hid (Below W0.heap.size W0 Wa):=Below.step z.prop hba;obtain⟨d0,d1,d2⟩:=kc3 hxa;have c0:=wP oU.out iC;have c1:=wP oU.out iD;have c2:=wP oU.out iI;have c3:=wP oU.out iy;have c4:=wP oU.out iP;have c5:=wP oU.out jc;have c6:=wP oU.out jA;have u0:=wP oU.out r0;have u1:=wP oU.out r1;have u2:=wP oU.out r2;have WO:Hid (∀s:Bl Wa,Below W0.heap.size W0 s.val):=λs=>Below.step oU.out s.prop;have v0:∀s:Bl Wa,s.val.frozen? ⟨w.heap.size+1,0,none⟩=false:=λs=>y0 ⟨s.val,WO.out s⟩;have v1:∀s:Bl Wa,s.val.frozen? ⟨w.heap.size+1,1,none⟩=false:=λs=>y1 ⟨s.val,WO.out s⟩;have v2:∀s:Bl Wa,s.val.frozen? ⟨w.heap.size+1,2,none⟩=false:=λs=>y2 ⟨s.val,WO.out s⟩;have LJ:=Lib.hid (λs:Bl Wa=>Ai (⟨⟨dV,dW⟩,⟨dX,dY⟩,⟨fB,dH⟩,⟨eZ,dM⟩,⟨dQ,dR⟩⟩:CV) C ⟨⟨gA,gc⟩,⟨qA,qc⟩⟩ ⟨ho,F,O⟩ s.val (HC.out.below (Below.step HB.out (WO.out s))) (ZR.out.below (Below.step HB.out (WO.out s))));simp only[CV.val,CV.cells,FV.val,FV.cells]at LJ;clear e0 e1 e2 hxa hba iC iD iI iy iP jc jA r0 r1 r2 y0 y1 y2;change Code.wp _ _ _ _ (Bl.val (⟨Wa,Below.refl _ _⟩:Bl Wa));generalize(⟨Wa,Below.refl _ _⟩:Bl Wa)=sa;generalize hE:gN C ⟨ho,F,O⟩=E at LJ;have HE:=Lib.hid hE;clear hE;go_wp2_with (go_at_call 12;refine(LJ.out _).mono ?_;rintro e z2 ⟨rfl,hz⟩;obtain⟨z2,rfl⟩:=Bl.on hz;clear hz;refine Hid.out ?_);refine Lib.hid ?_;cases E with
    |false=>
     have FL:Hid (¬O9 C fs):=λh=>by have h2:=h.2 _ (List.mem_of_getElem? HX.out);rw[HE.out]at h2;cases h2
     obtain⟨s2,hs2⟩:∃s2:Bl W0,z2.val=s2.val:=⟨⟨z2.val,WO.out z2⟩,rfl⟩;have HS2:=Lib.hid hs2;clear hs2;go_wp2;rw[HS2.out];obtain⟨Wf,iq⟩:∃Wf,Hid (Wf=((s2.val.setCell ⟨w.heap.size+1,0,none⟩ (.int .i64 0)).setCell ⟨w.heap.size+1,1,none⟩ (.slice none 0 0)).setCell ⟨w.heap.size+1,2,none⟩ (.slice none 0 0)):=⟨_,rfl⟩;rw[<-iq.out];obtain⟨d0,d1,d2,lF⟩:=II (HOW.out s2) iq.out;refine bodyPost_ret (v:=.tuple #[.agg #[.int .i64 0,.slice none 0 0,.slice none 0 0],.int .i64 1]) (by simp[results,results35,go_sem,d0,d1,d2]) rfl ⟨0,[],[],1,none,0,none,0,rfl,⟨gD _ _,gD _ _⟩,⟨λb off e=>(by cases e),λb off e=>(by cases e)⟩,(J7.out s2).trans (lF.below (J7.out s2).size (λk hk=>by omega)),.inl ⟨rfl,rfl,rfl,rfl,FL.out⟩⟩
    |true=>
     have Nb:Hid (∀(i:Nat)(f:bR),i<k+1->fs[i]?=some f->gN C f=true):=λi f hi hf=>by
      by_cases e:i=k
      .subst e
       rw[HX.out]at hf;cases hf
       exact HE.out
      .exact HP.out i f (by omega) hf
     obtain⟨s2,hs2⟩:∃s2:Bl W0,z2.val=s2.val:=⟨⟨z2.val,WO.out z2⟩,rfl⟩;have HS2:=Lib.hid hs2;clear hs2;go_wp2
     go_roundg (fs.length - (k+1))
     case measure=>rw[iw.out];omega
     case rel=>exact⟨k+1,s2,rfl,by omega,by go_num,HS2.out,Nb⟩
   .obtain rfl:k=fs.length:=by omega
    have ag3:Hid (O9 C fs):=⟨λe=>by rw[e]at hn0;exact hn0 rfl,λf hf=>by
     obtain⟨i,hi⟩:=List.mem_iff_getElem?.1 hf;exact HP.out i f (List.getElem?_eq_some_iff.1 hi).1 hi⟩
    have HJN:=Lib.hid (IB fs ⟨some ⟨fb,fo,none⟩,sc⟩ f0 z.val (HF.out.below (J7.out z)) H0.out hn HR.out HL.out HO.out (Cq ag3.out.2));simp only at HJN;clear HP hlt iw;go_wp2_with (go_at_call 62;refine HJN.out.mono ?_;rintro e z2 ⟨ho',F',O',er,A,c,A',c',rfl,hfa,hnw,hb,hj⟩;obtain⟨z2,rfl⟩:=Bl.on hb;refine Hid.out ?_);refine Lib.hid ?_;have ZR:=Lib.hid hfa;clear hfa;have HJ:=Lib.hid hj;clear hj hb;have Qm:=Lib.hid hnw;clear hnw;have hsz:=z.prop.size;go_wp2;obtain⟨Wf,iq⟩:∃Wf,Hid (Wf=((z2.val.setCell ⟨w.heap.size+1,0,none⟩ (.int .i64 ho')).setCell ⟨w.heap.size+1,1,none⟩ (.slice A F'.length c)).setCell ⟨w.heap.size+1,2,none⟩ (.slice A' O'.length c')):=⟨_,rfl⟩;rw[<-iq.out];obtain⟨d0,d1,d2,lF⟩:=II (HOW.out z2) iq.out;refine bodyPost_ret (v:=.tuple #[.agg #[.int .i64 ho',.slice A F'.length c,.slice A' O'.length c'],.int .i64 er]) (by simp[results,results35,go_sem,d0,d1,d2]) rfl ⟨ho',F',O',er,A,c,A',c',rfl,⟨uS ZR.out.facts (by omega) lF (λb off e h=>?_),uS ZR.out.orders (by omega) lF (λb off e h=>?_)⟩,⟨λb off e=>?_,λb off e=>?_⟩,(J7.out z2).trans (lF.below (J7.out z2).size (λk hk=>by omega)),.inr ⟨ag3.out,f0,H0.out,HJ.out⟩⟩
    .have:=Qm.out.1 b off e;omega
    .have:=Qm.out.2 b off e;omega
    .have:=Qm.out.1 b off e;omega
    .have:=Qm.out.2 b off e;omega
end
open Go.RowKit Go.Shelf Tryz
def FQ(l:List (bR×FV)):List Value:=l.flatMap (λp=>FV.cells p.2 p.1)
theorem mF.row{w:World}{t:TypeId}{b c:Nat}{l:List (bR×FV)}(h:Own w t b (FQ l))(hc:l.length<=c)(hm:c<=maxLen)(hf:∀p∈l,gJ w p.2 p.1):mF w ⟨some ⟨b,0,none⟩,c⟩ (l.map Prod.fst):=by
 have hz:(l.map Prod.fst).zip (l.map Prod.snd)=l:=by rw[<-List.unzip_fst,<-List.unzip_snd];exact List.zip_unzip l
 refine⟨l.map Prod.snd,by simp,?_,λi f t hi ht=>?_⟩
 .rw[hz,List.length_map]
  refine h.C8 (gW (λp:bR×FV=>FV.cells p.2 p.1) 3 (λ_=>rfl) l) (λu hu=>?_) hc hm;obtain⟨p,_,hp⟩:=List.mem_flatMap.1 hu;simp only[FV.cells,List.mem_cons,List.not_mem_nil,or_false]at hp;rcases hp with rfl|rfl|rfl<;>rfl
 .have h1:(l.map Prod.fst).zip (l.map Prod.snd)=l:=hz
  have h2:((l.map Prod.fst).zip (l.map Prod.snd))[i]?=some (f,t):=by rw[List.getElem?_zip_eq_some];exact⟨hi,ht⟩
  rw[h1]at h2;exact hf _ (List.mem_of_getElem? h2)
attribute [local go_sem] kD stillUpon bM
end Go.Proofs.YtpmdedcnbockhaaGreatDoor
