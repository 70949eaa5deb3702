/- part -/
import Derived.Lib.ItoaLen
import Derived.Test.YtpmdedcnbockhaaGreatDoorS11
import Derived.Test.YtpmdedcnbockhaaGreatDoorS13
set_option maxRecDepth 100000
set_option maxHeartbeats 8000000
namespace Go.Proofs
open Go.Shelf Go.RowKit Tryz
end Go.Proofs
namespace Go.Proofs.YtpmdedcnbockhaaGreatDoor
section
open Go.RowKit Go.Shelf Tryz
def Bytes(B:Nat)(w:World)(v:Value)(l:List UInt8):Prop:=w.ownsRow B 5 1 v l.length (Lib.byteCells l)
structure Wrote(B:Nat)(w w':World):Prop where
 below:Below B w w'
 kept:Lib.OthersKept 5 none w w'
theorem Wrote.refl(B:Nat)(w:World):Wrote B w w:=⟨Below.refl _ _,Lib.OthersKept.refl _ _ _⟩
theorem Wrote.trans{B:Nat}{a b c:World}(h:Wrote B a b)(k:Wrote B b c):Wrote B a c:=⟨h.below.trans k.below,h.kept.trans k.kept⟩
theorem Wrote.alloc{B:Nat}{a b:World}(h:Wrote B a b)(hB:B<=b.heap.size)(o:Obj):Wrote B a (b.alloc o):=⟨h.below.alloc hB _,h.kept.alloc _⟩
theorem Bytes.nil(B:Nat)(w:World):Bytes B w (.slice none 0 0) []:=World.ownsRow_nil _ _ _ _
theorem Bytes.kept{B:Nat}{w:World}{v:Value}{l:List UInt8}(h:Bytes B w v l)(o:Obj):Bytes B (w.alloc o) v l:=World.ownsRow.alloc h o
def Tab(w:World):Prop:=Lib.TabIs prog w "internal/strconv.uint64pow10" .u64 Lib.pow10Tab
def Oq(B:Nat)(w:World):Prop:=Lib.TabBelow prog B w "internal/strconv.uint64pow10" .u64 Lib.pow10Tab
theorem Tab.below{w w':World}(h:Tab w)(hb:Below w.heap.size w w'):Tab w':=Lib.tabBelow_of_tabIs h w' hb
theorem Oq.on{B:Nat}{w w':World}(h:Oq B w)(hb:Below B w w'):Oq B w':=Lib.TabBelow.on h hb
theorem Tab.agt{w:World}(h:Tab w):Oq w.heap.size w:=Lib.tabBelow_of_tabIs h
theorem KJ:(prog.info? 5).map (λi=>(i.zero,i.size,i.bytes))=some (some (.int .u8 0),1,1):=by kernel_rfl
theorem wpList_append_byte{W:World}{ops:Array Oper}{rest:List Oper}{o:Oper}{a:Act}{Q:Exit->Act->World->Prop}
 (hg:o.guard=none)(s x:Operand)(hop:o.op=Op.call {callee:=Callee.builtin Builtin.append,args:=#[s,x],argTypes:=#[101,101]})
 (B:Nat)(v:Value)(l:List UInt8)(hs:a.eval s=v)(hB:Bytes B W v l)(c:UInt8)(ci:Int)(hc:ci=(c.toNat:Int))(hx:a.eval x= .slice (some ⟨W.heap.size,0,none⟩) 1 1)(hlen:l.length+1<=140737488355328)(hBW:B<=W.heap.size)
 (hK:∀v' w',Bytes B w' v' (l++[c])->Wrote B W w'->wpList prog ops Q rest (a.put o.dst v') w'):
 wpList prog ops Q (o::rest) a (W.alloc (.cells #[.int .u8 ci] 5)):=by
 subst hc;obtain⟨i0,hi,hz0,hz1,hz2⟩:=info_parts' KJ;refine wpList_append_own _ hg s x 101 hop B 5 i0 (.int .u8 0) 1 1 underlying101 hi hz0 hz1 hz2 rfl (by decide) v l.length (Lib.byteCells l) hs (World.ownsRow.alloc hB _) ⟨W.heap.size,0,none⟩ 1 1 [Value.int .u8 c.toNat] hx rfl
  (by intro j u' hj;match j,hj with|0,hj=>simp at hj;subst hj;simp[Addr.add]) (by intro u' hu';simp at hu';subst hu';rfl) (by unfold maxLen;omega) (by omega) (by simp;omega) ?_
 intro v' w' hown hgrow _;refine hK v' w' ?_ ⟨?_,?_⟩
 .unfold Bytes
  rw[List.length_append,List.length_singleton,Lib.byteCells_append];exact hown
 .exact((Below.refl _ W).alloc hBW _).grown hgrow (by simp;omega) (λk hk=>(hB.lt k hk).1)
 .intro k o' ho hb hne
  have hlt:=aB ho;have hrow:some k≠v.ownBlock:=by
   intro e;rcases hB.2 with⟨rfl,_⟩|⟨g,cap,cur,rfl,_,h3,_⟩
   .cases e
   .simp only[Value.ownBlock,Option.some.injEq]at e
    subst e;rw[ho]at h3;injection h3 with h3
    exact hne _ _ h3
  rw[hgrow.block k (by simp;omega) hrow];exact(Below.heap_alloc _ _ _ hlt).trans ho
theorem uq{B:Nat}{w:World}{v:Value}{l:List UInt8}(hB:Bytes B w v l)(i:Int)(h0: -9223372036854775808<=i)(h1:i<=9223372036854775807)(hBw:B<=w.heap.size)(hlen:l.length+21<=140737488355328)(ht:Oq B w):
 Calls prog 80 #[v,.int .i64 i,.int .i64 10] w (λe w'=>∃v',e= .returned v'/\Bytes B w' v' (l++Lib.itoa i)/\Wrote B w w'):=by
 refine(Any.strconv_AppendInt_10 Tryz.laysAppendInt B l.length i h0 h1 v _ w hB hBw hlen ht).mono ?_;rintro e w' ⟨v',rfl,hown,hb,hk⟩;refine⟨v',rfl,?_,hb,hk⟩;unfold Bytes;rw[List.length_append,Lib.byteCells_append];exact hown
def kJ(l:List Int):Nat->List UInt8
 |0=>[]
 |k+1=>kJ l k++(cond (decide (0<k)) [46] [])++Lib.itoa (l.getD k 0)
theorem EA(l:List Int)(hl:∀x∈l, -9223372036854775808<=x/\x<=9223372036854775807):∀k,k<=l.length->(kJ l k).length<=22*k
 |0,_=>by simp[kJ]
 |k+1,hk=>by
  have ih:=EA l hl k (by omega);have hx:=hl (l.getD k 0) (by rw[List.getD_eq_getElem?_getD,List.getElem?_eq_getElem (by omega)];exact List.getElem_mem _);have h2:=Lib.itoa_length_le _ hx.1 hx.2;simp only[kJ,List.length_append];generalize(Lib.itoa (l.getD k 0)).length=n at h2⊢;cases decide (0<k)
  .simp only[cond_false,List.length_nil];omega
  .simp only[cond_true,List.length_singleton];omega
theorem KL{B:Nat}{w:World}{v:Value}{l:List UInt8}(hB:Bytes B w v l)(hBw:B<=w.heap.size)(nums:List Int)(b c:Nat)(hb:w.heap[b]?=some (.cells (aZ nums).toArray 3 (0,0)))(hr:∀x∈nums, -9223372036854775808<=x/\x<=9223372036854775807)
 (hlen:l.length+22*nums.length<=140737488355328)(ht:Oq B w):
 Calls prog 51 #[v,.slice (some ⟨b,0,none⟩) nums.length c] w (λe w'=>∃v',e= .returned v'/\Bytes B w' v' (l++kJ nums nums.length)/\Wrote B w w'):=by
 have HB:=Lib.hid hB;clear hB;have HBB:=Lib.hid hb;clear hb;have HR:=Lib.hid hr;clear hr;have HT:=Lib.hid ht;clear ht;go_enter func51,ntmps51;go_wp2
 go_loopw [0,9] (λv0 i wr=>∃k:Nat,k<=nums.length/\i= .int .i64 k/\Hid (Bytes B wr v0 (l++kJ nums k))/\Hid (Wrote B w wr)) (λ_ i _=>nums.length - (intOf i).toNat)
 case atStart=>exact⟨0,Nat.zero_le _,rfl,by show Bytes _ _ _ _;simpa [kJ]using HB.out,Wrote.refl _ _⟩
 case round=>
  obtain⟨k,hk,rfl,HO,HW⟩:=hrel;by_cases hlt:k<nums.length
  .have hbk:=HW.out.kept b _ HBB.out (by simp) (by intro c fz h;simp at h)
   have hbc:wr.cell? ⟨b,k,none⟩=some (.int .i64 (nums.getD k 0)):=by
    rw[cell_of_row _ _ k _ _ _ hbk];simp[aZ,hlt]
   have hmem:nums.getD k 0∈nums:=by rw[List.getD_eq_getElem?_getD,List.getElem?_eq_getElem hlt];exact List.getElem_mem _
   obtain⟨hx0,hx1⟩:=HR.out _ hmem;have hwl:=EA nums HR.out k hk;have U7:Hid (kJ nums (k+1)=kJ nums k++(cond (decide (0<k)) [46] [])++Lib.itoa (nums.getD k 0)):=rfl;generalize nums.getD k 0=x at hbc hx0 hx1 U7;have k0:(0:Int)<=(k:Int):=by omega
   have k1:(k:Int)<(nums.length:Int):=by omega
   have k2:nums.length<=9223372036854775807:=by omega
   have hsz:=HW.out.below.size;clear hmem hbk;by_cases hz:k=0
   .subst hz
    go_wp2_with (go_at_call 80;refine(uq HO.out x hx0 hx1 (by omega) (by rw[List.length_append];omega) (HT.out.on HW.out.below)).mono ?_;rintro e w1 ⟨v1,rfl,h1,h2⟩;refine Hid.out ?_);refine Lib.hid ?_;have U8:=Lib.hid h1;clear h1;have HW1:=Lib.hid (HW.out.trans h2);clear h2;go_wp2
    go_roundw
    case rel=>exact⟨1,by omega,by go_num,by show Bytes _ _ _ _;rw[U7.out];simpa [kJ]using U8.out,HW1⟩
    case measure=>simp[intOf];omega
   .have hz1:0<k:=by omega
    go_wp2_with (at_builtin;refine wpList_append_byte rfl _ _ rfl B _ _ rfl HO.out 46 46 rfl rfl (by rw[List.length_append];omega) (by omega) ?_;intro v1 w1 h1 h2;refine Hid.out ?_);refine Lib.hid ?_;have U8:=Lib.hid h1;clear h1;have HW1:=Lib.hid (HW.out.trans h2);clear h2;have hsz1:=HW1.out.below.size;go_wp2_with (go_at_call 80;refine(uq U8.out x hx0 hx1 (by omega) (by simp only[List.length_append,List.length_singleton];omega) (HT.out.on HW1.out.below)).mono ?_;rintro e w2 ⟨v2,rfl,h1,h2⟩;refine Hid.out ?_);refine Lib.hid ?_;have EY:=Lib.hid h1;clear h1;have HW2:=Lib.hid (HW1.out.trans h2);clear h2;go_wp2
    go_roundw
    case rel=>exact⟨k+1,by omega,by go_num,by show Bytes _ _ _ _;rw[U7.out,decide_eq_true hz1,cond_true];simpa [List.append_assoc]using EY.out,HW2⟩
    case measure=>simp[intOf];omega
  .obtain rfl:k=nums.length:=by omega
   go_wp2;go_ret;exact⟨_,rfl,HO.out,HW.out⟩
end
section
open Go.RowKit Go.Shelf Tryz
def wR(l:List Int):List UInt8:=l.flatMap (λh=>Lib.itoa h++[44])
def uw(l:List Bool):List UInt8:=l.map (λb=>cond b 49 48)
def aD.text(m:aD):List UInt8:=Lib.itoa m.status++[46]++Lib.itoa m.left++[46]++Lib.itoa m.got++[46]++Lib.itoa m.dK++(cond m.paused [112] [])++[44]
def zS(l:List aD):List UInt8:=l.flatMap aD.text
def ak.text(s:ak):List UInt8:=Lib.itoa s.day++[59]++wR s.aj++[59]++uw s.used++[59]++zS s.marks
def i64(x:Int):Prop:= -9223372036854775808<=x/\x<=9223372036854775807
structure DF(s:ak):Prop where
 day:i64 s.day
 aj:∀x∈s.aj,i64 x
 marks:∀m∈s.marks,i64 m.status/\i64 m.left/\i64 m.got/\i64 m.dK
 lh:s.aj.length<=1000
 lu:s.used.length<=1000
 lm:s.marks.length<=1000
theorem aV.ranged{C:au}{s:ak}(h:aV C s):DF s:=by
 have hC:=au.ok h.con;have hn:=h.needs;have h1:=hC.Hg;refine⟨⟨by have:=h.UZ;omega,by have:=hn.hd1;omega⟩,?_,?_,by have:=hn.lh;omega,by have:=hn.lu;omega,by have:=hn.lm;omega⟩
 .intro x hx
  have:=h.held x hx;exact⟨by omega,by omega⟩
 .intro m hm
  obtain⟨i,hi⟩:=List.mem_iff_getElem?.1 hm;have hil:i<C.clauses.length:=by rw[<-h.lm];exact(List.getElem?_eq_some_iff.1 hi).1
  have hk:=hC.clause (List.getElem?_eq_getElem hil);have hmo:=h.marks i m _ hi (List.getElem?_eq_getElem hil);have hg:=hmo.got hk;have a1:=hk.XY;have a2:=hk.XZ;have hb: -1<=m.dK/\m.dK<C.aF:=by
   have hp:=hC.aF;rcases hmo with⟨_,_,_,_,h5,_⟩|⟨_,_,_,_,_,h5,h6⟩|⟨_,_,_,_,h5,h6,_⟩
   .omega
   .by_cases h4:(C.clauses[i]).kind=4
    .have:=h5 h4;omega
    .have:=h6 h4;omega
   .omega
  have hl:0<=m.left/\m.left<=400/\0<=m.status/\m.status<=5:=by
   rcases hmo with⟨_,_,_,_⟩|⟨_,_,_,_⟩|⟨_,_,_⟩<;>omega
  exact⟨⟨by omega,by omega⟩,⟨by omega,by omega⟩,⟨by omega,by omega⟩,⟨by omega,by omega⟩⟩
theorem mH{x:Int}(h:i64 x):(Lib.itoa x).length<=21:=Lib.itoa_length_le x h.1 h.2
theorem H9{l:List Int}(h:∀x∈l,i64 x):(wR l).length<=22*l.length:=by
 induction l with
 |nil=>simp[wR]
 |cons a l ih=>
  have h1:=ih (λx hx=>h x (List.mem_cons_of_mem _ hx));have h2:=mH (h a (List.mem_cons_self ..));simp only[wR,List.flatMap_cons,List.length_append,List.length_cons,List.length_nil]at h1⊢;omega
theorem Ot{m:aD}(h:i64 m.status/\i64 m.left/\i64 m.got/\i64 m.dK):(m.text).length<=89:=by
 have h1:=mH h.1;have h2:=mH h.2.1;have h3:=mH h.2.2.1;have h4:=mH h.2.2.2;simp only[aD.text,List.length_append,List.length_singleton];cases m.paused
 .simp only[cond_false,List.length_nil];omega
 .simp only[cond_true,List.length_singleton];omega
theorem Ou{l:List aD}(h:∀m∈l,i64 m.status/\i64 m.left/\i64 m.got/\i64 m.dK):(zS l).length<=89*l.length:=by
 induction l with
 |nil=>simp[zS]
 |cons a l ih=>
  have h1:=ih (λx hx=>h x (List.mem_cons_of_mem _ hx));have h2:=Ot (h a (List.mem_cons_self ..));simp only[zS,List.flatMap_cons,List.length_append,List.length_cons]at h1⊢;omega
theorem take_snoc'{α:Type}{l:List α}{k:Nat}{x:α}(h:l[k]?=some x):l.take (k+1)=l.take k++[x]:=by
 have hk:=(List.getElem?_eq_some_iff.1 h).1;rw[List.take_succ_eq_append_getElem hk];have:=(List.getElem?_eq_some_iff.1 h).2;rw[this]
theorem U9{l:List Int}{k:Nat}{x:Int}(h:l[k]?=some x):wR (l.take (k+1))=wR (l.take k)++Lib.itoa x++[44]:=by
 rw[take_snoc' h];simp[wR]
theorem U_{l:List Bool}{k:Nat}{x:Bool}(h:l[k]?=some x):uw (l.take (k+1))=uw (l.take k)++[cond x 49 48]:=by
 rw[take_snoc' h];simp[uw]
theorem Va{l:List aD}{k:Nat}{x:aD}(h:l[k]?=some x):zS (l.take (k+1))=zS (l.take k)++x.text:=by
 rw[take_snoc' h];simp[zS]
theorem ade(x:Int):kJ [x] 1=Lib.itoa x:=by simp[kJ]
theorem adf(a b c d:Int):kJ [a,b,c,d] 4=Lib.itoa a++[46]++Lib.itoa b++[46]++Lib.itoa c++[46]++Lib.itoa d:=by simp[kJ,List.append_assoc]
def KM(B:Nat)(w:World)(l:List UInt8)(e:Ending)(w':World):Prop:=∃v',e= .returned v'/\Bytes B w' v' l/\Wrote B w w'
theorem H_{B:Nat}{w:World}{v:Value}{l:List UInt8}(hB:Bytes B w v l)(hBw:B<=w.heap.size)(x:Int)(hx:i64 x)(hlen:l.length+22<=140737488355328)(ht:Oq B w):
 Calls prog 51 #[v,.slice (some ⟨w.heap.size,0,none⟩) 1 1] (w.alloc (.cells #[.int .i64 x] 3)) (KM B w (l++Lib.itoa x)):=by
 refine(KL (hB.kept (.cells #[.int .i64 x] 3)) (by simp;omega) [x] w.heap.size 1 (heap_alloc_new w _) (λy hy=>by rw[List.mem_singleton]at hy;subst hy;exact hx) (by simpa using hlen) (ht.on ((Below.refl _ _).alloc hBw _))).mono ?_;rintro e w' ⟨v',rfl,h1,h2⟩;rw[List.length_singleton,ade]at h1;exact⟨v',rfl,h1,((Wrote.refl B w).alloc hBw _).trans h2⟩
theorem ajX{a b c d x:Int}(h:i64 a/\i64 b/\i64 c/\i64 d)(hx:x=a\/x=b\/x=c\/x=d):i64 x:=by
 rcases hx with rfl|rfl|rfl|rfl
 .exact h.1
 .exact h.2.1
 .exact h.2.2.1
 .exact h.2.2.2
theorem Ri{B:Nat}{w:World}{v:Value}{l:List UInt8}(hB:Bytes B w v l)(hBw:B<=w.heap.size)(a b c d:Int)(hx:i64 a/\i64 b/\i64 c/\i64 d)(hlen:l.length+88<=140737488355328)(ht:Oq B w):
 Calls prog 51 #[v,.slice (some ⟨w.heap.size,0,none⟩) 4 4] (w.alloc (.cells #[.int .i64 a,.int .i64 b,.int .i64 c,.int .i64 d] 3)) (KM B w (l++(Lib.itoa a++[46]++Lib.itoa b++[46]++Lib.itoa c++[46]++Lib.itoa d))):=by
 refine(KL (hB.kept (.cells #[.int .i64 a,.int .i64 b,.int .i64 c,.int .i64 d] 3)) (by simp;omega) [a,b,c,d] w.heap.size 4 (heap_alloc_new w _) (λy hy=>by simp only[List.mem_cons,List.not_mem_nil,or_false]at hy;exact ajX hx hy) (by simpa using hlen) (ht.on ((Below.refl _ _).alloc hBw _))).mono ?_;rintro e w' ⟨v',rfl,h1,h2⟩;rw[show[a,b,c,d].length=4 from rfl,adf]at h1;exact⟨v',rfl,h1,((Wrote.refl B w).alloc hBw _).trans h2⟩
theorem Ia(tv:TV)(s:ak)(w:World)(hS:aQ w tv s)(hR:DF s)(hT:Tab w):
 Calls prog 25 #[tv.val s] w (dZ (.string ⟨s.text.toArray⟩) w):=by
 obtain⟨⟨eu,dN⟩,⟨eH,dL⟩,⟨fF,bY⟩⟩:=tv;have HS:=Lib.hid hS;clear hS;have HR:=Lib.hid hR;clear hR;have HT:=Lib.hid hT.agt;clear hT;have hlh:=HR.out.lh;have hlu:=HR.out.lu;have hlm:=HR.out.lm;simp only[TV.val,TV.cells,ak.cells];go_enter func25,ntmps25;go_upto_region 1 with(fail)
 obtain⟨W0,HW0⟩:∃W0,Hid (W0=w.alloc (.cells #[.int .i64 s.day,.slice eu s.aj.length dN,.slice eH s.used.length dL,.slice fF s.marks.length bY] 48)):=⟨_,rfl⟩;rw[<-HW0.out];have zD:Hid (W0.heap[w.heap.size]?=some (.cells #[.int .i64 s.day,.slice eu s.aj.length dN,.slice eH s.used.length dL,.slice fF s.marks.length bY] 48 (0,0))):=by
  show _=_;rw[HW0.out];exact heap_alloc_new w _
 have hs0:w.heap.size<W0.heap.size:=by rw[HW0.out];simp
 have HB0:Hid (Below w.heap.size w W0):=by show Below _ _ _;rw[HW0.out];exact Below.jX (Below.refl _ _) _
 have HT0:=Lib.hid (HT.out.on HB0.out)
 -- what the walk may ask of a world behind writes
 have adg:Hid (∀wr,Wrote w.heap.size W0 wr->wr.heap[w.heap.size]?=some (.cells #[.int .i64 s.day,.slice eu s.aj.length dN,.slice eH s.used.length dL,.slice fF s.marks.length bY] 48 (0,0))):=λwr h=>
  h.kept _ _ zD.out (by simp) (by intro c fz h;simp at h)
 have HST:Hid (∀wr,Wrote w.heap.size W0 wr->aQ wr ⟨⟨eu,dN⟩,⟨eH,dL⟩,⟨fF,bY⟩⟩ s):=λwr h=>HS.out.below (HB0.out.trans h.below);have hd:W0.cell? ⟨w.heap.size,0,none⟩=some (.int .i64 s.day):=(cell_of_row W0 _ 0 _ _ _ zD.out).trans rfl;have hx0:=HR.out.day;go_wp2_with (go_at_call 51;refine(H_ (B:=w.heap.size) (Bytes.nil _ W0) (by omega) s.day HR.out.day (by simp) HT0.out).mono ?_;rintro e w1 ⟨v1,rfl,h1,h2⟩;refine Hid.out ?_);refine Lib.hid ?_;rw[List.nil_append]at h1;have U8:=Lib.hid h1;clear h1;have HW1:=Lib.hid h2;clear h2;have hsz1:=HW1.out.below.size;have hl1:=mH HR.out.day;clear hd hx0;go_wp2_with (at_builtin;refine wpList_append_byte rfl _ _ rfl w.heap.size _ _ rfl U8.out 59 59 rfl rfl (by omega) (by omega) ?_;intro v2 w2 h1 h2;refine Hid.out ?_);refine Lib.hid ?_;have EY:=Lib.hid h1;clear h1;have HW2:=Lib.hid (HW1.out.trans h2);clear h2;have b1:w2.cell? ⟨w.heap.size,1,none⟩=some (.slice eu s.aj.length dN):=(cell_of_row w2 _ 1 _ _ _ (adg.out _ HW2.out)).trans rfl;have hp2:(Lib.itoa s.day++[59]).length<=22:=by simp only[List.length_append,List.length_singleton];omega
 obtain⟨p2,adh⟩:∃p2,p2=Lib.itoa s.day++[59]:=⟨_,rfl⟩;rw[<-adh]at EY hp2;have Nb:=Lib.hid adh;clear adh U8 HW1 hsz1 hl1;go_wp2
 go_loopw [3,19] (λv3 i wr=>∃k:Nat,k<=s.aj.length/\i= .int .i64 k/\Hid (Bytes w.heap.size wr v3 (p2++wR (s.aj.take k)))/\Hid (Wrote w.heap.size W0 wr)) (λ_ i _=>s.aj.length - (intOf i).toNat)
 case atStart=>exact⟨0,Nat.zero_le _,rfl,by show Bytes _ _ _ _;simpa [wR]using EY.out,HW2⟩
 case round=>
  obtain⟨k,hk,rfl,HO,HW⟩:=hrel;clear b1 EY HW2;by_cases hlt:k<s.aj.length
  .obtain⟨x,hx⟩:∃x,s.aj[k]?=some x:=⟨_,List.getElem?_eq_getElem hlt⟩
   obtain⟨hb,hoff,hA,hbl,hcell⟩:=(HST.out wr HW.out).aj.1.form (by omega) (by omega);simp only at hA;subst hA;have c0:wr.cell? ⟨hb,hoff+k,none⟩=some (.int .i64 x):=by rw[hcell k (by omega)];simp[aZ,hx]
   have TD:=HR.out.aj x (List.mem_of_getElem? hx);have hlen:=H9 (l:=s.aj.take k) (λy hy=>HR.out.aj y (List.mem_of_mem_take hy));have hlt2:(s.aj.take k).length<=1000:=by rw[List.length_take];omega
   have HE:=Lib.hid (U9 hx);have k0:(0:Int)<=(k:Int):=by omega
   have k1:(k:Int)<(s.aj.length:Int):=by omega
   have hsz:=HW.out.below.size;clear hcell hx;go_wp2_with (go_at_call 51;refine(H_ (B:=w.heap.size) HO.out (by omega) x TD (by simp only[List.length_append];omega) (HT0.out.on HW.out.below)).mono ?_;rintro e w3 ⟨v3,rfl,h1,h2⟩;refine Hid.out ?_);refine Lib.hid ?_;have HO3:=Lib.hid h1;clear h1;have HW3:=Lib.hid (HW.out.trans h2);clear h2;have Vb:=HW3.out.below.size;have hl3:=mH TD;go_wp2_with (at_builtin;refine wpList_append_byte rfl _ _ rfl w.heap.size _ _ rfl HO3.out 44 44 rfl rfl (by simp only[List.length_append];omega) (by omega) ?_;intro v4 w4 h1 h2;refine Hid.out ?_);refine Lib.hid ?_;have HO4:=Lib.hid h1;clear h1;have Oo:=Lib.hid (HW3.out.trans h2);clear h2;go_wp2
   go_roundw
   case rel=>exact⟨k+1,by omega,by go_num,by show Bytes _ _ _ _;rw[HE.out];simpa [List.append_assoc]using HO4.out,Oo⟩
   case measure=>simp[intOf];omega
  .obtain rfl:k=s.aj.length:=by omega
   rw[List.take_length]at HO;have hlen:=H9 HR.out.aj;have hsz:=HW.out.below.size;go_wp2_with (at_builtin;refine wpList_append_byte rfl _ _ rfl w.heap.size _ _ rfl HO.out 59 59 rfl rfl (by simp only[List.length_append];omega) (by omega) ?_;intro v5 w5 h1 h2;refine Hid.out ?_);refine Lib.hid ?_;have Ib:=Lib.hid h1;clear h1;have og:=Lib.hid (HW.out.trans h2);clear h2;have b2:w5.cell? ⟨w.heap.size,2,none⟩=some (.slice eH s.used.length dL):=(cell_of_row w5 _ 2 _ _ _ (adg.out _ og.out)).trans rfl;have hp5:(p2++wR s.aj++[59]).length<=30000:=by simp only[List.length_append,List.length_singleton];omega
   obtain⟨p5,adj⟩:∃p5,p5=p2++wR s.aj++[59]:=⟨_,rfl⟩;rw[<-adj]at Ib hp5;have HP5:=Lib.hid adj;clear adj HO HW hlen hsz hp2;go_wp2
   go_loopw [3,36] (λv3 i wr=>∃k:Nat,k<=s.used.length/\i= .int .i64 k/\Hid (Bytes w.heap.size wr v3 (p5++uw (s.used.take k)))/\Hid (Wrote w.heap.size W0 wr)) (λ_ i _=>s.used.length - (intOf i).toNat)
   case atStart=>exact⟨0,Nat.zero_le _,rfl,by show Bytes _ _ _ _;simpa [uw]using Ib.out,og⟩
   case round=>
    obtain⟨k,hk,rfl,HO,HW⟩:=hrel;clear b2 Ib og;by_cases hlt:k<s.used.length
    .obtain⟨x,hx⟩:∃x,s.used[k]?=some x:=⟨_,List.getElem?_eq_getElem hlt⟩
     obtain⟨hb,hoff,hA,hbl,hcell⟩:=(HST.out wr HW.out).used.1.form (by omega) (by omega);simp only at hA;subst hA;have c0:wr.cell? ⟨hb,hoff+k,none⟩=some (.bool x):=by rw[hcell k (by omega)];simp[fM,hx]
     have hlen:(uw (s.used.take k)).length<=1000:=by simp only[uw,List.length_map,List.length_take];omega
     have HE:=Lib.hid (U_ hx);have k0:(0:Int)<=(k:Int):=by omega
     have k1:(k:Int)<(s.used.length:Int):=by omega
     have hsz:=HW.out.below.size;clear hcell hx;cases x with
     |true=>
      go_wp2_with (at_builtin;refine wpList_append_byte rfl _ _ rfl w.heap.size _ _ rfl HO.out 49 49 rfl rfl (by simp only[List.length_append];omega) (by omega) ?_;intro v4 w4 h1 h2;refine Hid.out ?_);refine Lib.hid ?_;have HO4:=Lib.hid h1;clear h1;have Oo:=Lib.hid (HW.out.trans h2);clear h2;go_wp2
      go_roundw
      case rel=>exact⟨k+1,by omega,by go_num,by show Bytes _ _ _ _;rw[HE.out];simpa [List.append_assoc]using HO4.out,Oo⟩
      case measure=>simp[intOf];omega
     |false=>
      go_wp2_with (at_builtin;refine wpList_append_byte rfl _ _ rfl w.heap.size _ _ rfl HO.out 48 48 rfl rfl (by simp only[List.length_append];omega) (by omega) ?_;intro v4 w4 h1 h2;refine Hid.out ?_);refine Lib.hid ?_;have HO4:=Lib.hid h1;clear h1;have Oo:=Lib.hid (HW.out.trans h2);clear h2;go_wp2
      go_roundw
      case rel=>exact⟨k+1,by omega,by go_num,by show Bytes _ _ _ _;rw[HE.out];simpa [List.append_assoc]using HO4.out,Oo⟩
      case measure=>simp[intOf];omega
    .obtain rfl:k=s.used.length:=by omega
     rw[List.take_length]at HO;have hlen:(uw s.used).length<=1000:=by simp only[uw,List.length_map];omega
     have hsz:=HW.out.below.size;go_wp2_with (at_builtin;refine wpList_append_byte rfl _ _ rfl w.heap.size _ _ rfl HO.out 59 59 rfl rfl (by simp only[List.length_append];omega) (by omega) ?_;intro v6 w6 h1 h2;refine Hid.out ?_);refine Lib.hid ?_;have EB:=Lib.hid h1;clear h1;have zC:=Lib.hid (HW.out.trans h2);clear h2;have b3:w6.cell? ⟨w.heap.size,3,none⟩=some (.slice fF s.marks.length bY):=(cell_of_row w6 _ 3 _ _ _ (adg.out _ zC.out)).trans rfl;have hp6:(p5++uw s.used++[59]).length<=40000:=by simp only[List.length_append,List.length_singleton];omega
     obtain⟨p6,adk⟩:∃p6,p6=p5++uw s.used++[59]:=⟨_,rfl⟩;rw[<-adk]at EB hp6;have HP6:=Lib.hid adk;clear adk HO HW hlen hsz hp5;go_wp2
     go_loopw [3,54] (λv3 i wr=>∃k:Nat,k<=s.marks.length/\i= .int .i64 k/\Hid (Bytes w.heap.size wr v3 (p6++zS (s.marks.take k)))/\Hid (Wrote w.heap.size W0 wr)) (λ_ i _=>s.marks.length - (intOf i).toNat)
     case atStart=>exact⟨0,Nat.zero_le _,rfl,by show Bytes _ _ _ _;simpa [zS]using EB.out,zC⟩
     case round=>
      obtain⟨k,hk,rfl,HO,HW⟩:=hrel;clear b3 EB zC;by_cases hlt:k<s.marks.length
      .obtain⟨m,hm⟩:∃m,s.marks[k]?=some m:=⟨_,List.getElem?_eq_getElem hlt⟩
       obtain⟨hb,hoff,hA,hbl,hcell⟩:=(HST.out wr HW.out).marks.1.form (by omega) (by omega);simp only at hA;subst hA;have hmc:∀j,j<5->wr.cell? ⟨hb,hoff+k*5+j,none⟩=m.cells[j]?:=λj hj=>by
        rw[Nat.add_assoc,hcell _ (by omega)];exact bG aD.cells 5 (λ_=>rfl) s.marks k j m hm hj
       have TD:=HR.out.marks m (List.mem_of_getElem? hm);have hlen:=Ou (l:=s.marks.take k) (λy hy=>HR.out.marks y (List.mem_of_mem_take hy));have hlt2:(s.marks.take k).length<=1000:=by rw[List.length_take];omega
       have HE:=Lib.hid (Va hm);have htl:=Ot TD;clear hm hcell;obtain⟨m0,m1,m2,m3,m4⟩:=m;simp only at TD;obtain⟨c0,c1,c2,c3,c4⟩:=rw5 hmc rfl;clear hmc;have k0:(0:Int)<=(k:Int):=by omega
       have k1:(k:Int)<(s.marks.length:Int):=by omega
       have hsz:=HW.out.below.size;go_upto_region 19 with(fail)
       obtain⟨Wa,ow⟩:∃Wa,Hid (Wa=wr.alloc (.cells #[.int .i64 m0,.int .i64 m1,.int .i64 m2,.int .i64 m3,.bool m4] 51)):=⟨_,rfl⟩;rw[<-ow.out];have hoa:=HO.out.kept (.cells #[.int .i64 m0,.int .i64 m1,.int .i64 m2,.int .i64 m3,.bool m4] 51);rw[<-ow.out]at hoa;have LZ:=Lib.hid hoa;clear hoa;have HWW:Hid (Wrote w.heap.size W0 Wa):=by
        show Wrote _ _ _;rw[ow.out];exact HW.out.alloc (by omega) _
       have HBM:Hid (Wa.heap[wr.heap.size]?=some (.cells #[.int .i64 m0,.int .i64 m1,.int .i64 m2,.int .i64 m3,.bool m4] 51 (0,0))):=by
        show _=_;rw[ow.out];exact heap_alloc_new wr _
       have ao7:=HWW.out.below.size;have d0:Wa.cell? ⟨wr.heap.size,0,none⟩=some (.int .i64 m0):=(cell_of_row Wa _ 0 _ _ _ HBM.out).trans rfl;have d1:Wa.cell? ⟨wr.heap.size,1,none⟩=some (.int .i64 m1):=(cell_of_row Wa _ 1 _ _ _ HBM.out).trans rfl;have d2:Wa.cell? ⟨wr.heap.size,2,none⟩=some (.int .i64 m2):=(cell_of_row Wa _ 2 _ _ _ HBM.out).trans rfl;have d3:Wa.cell? ⟨wr.heap.size,3,none⟩=some (.int .i64 m3):=(cell_of_row Wa _ 3 _ _ _ HBM.out).trans rfl;have WG:=Lib.hid TD;clear TD;clear c0 c1 c2 c3 c4 HO HW;go_wp2_with (go_at_call 51;refine(Ri (B:=w.heap.size) LZ.out (by omega) m0 m1 m2 m3 WG.out (by simp only[List.length_append];omega) (HT0.out.on HWW.out.below)).mono ?_;rintro e w7 ⟨v7,rfl,h1,h2⟩;refine Hid.out ?_);refine Lib.hid ?_;have yw:=Lib.hid h1;clear h1;have Bp:=Lib.hid (HWW.out.trans h2);have agu:w7.heap[wr.heap.size]?=_:=h2.kept _ _ HBM.out (by simp) (by intro c fz h;simp at h);have e4:w7.cell? ⟨wr.heap.size,4,none⟩=some (.bool m4):=(cell_of_row w7 _ 4 _ _ _ agu).trans rfl;clear h2 agu d0 d1 d2 d3 HBM LZ;have ao8:=Bp.out.below.size;obtain⟨tx,htx⟩:∃tx,tx=p6++zS (s.marks.take k)++(Lib.itoa m0++[46]++Lib.itoa m1++[46]++Lib.itoa m2++[46]++Lib.itoa m3):=⟨_,rfl⟩;have adl:tx.length<=200000:=by
        have g0:=mH WG.out.1;have g1:=mH WG.out.2.1;have g2:=mH WG.out.2.2.1;have g3:=mH WG.out.2.2.2;rw[htx];simp only[List.length_append,List.length_singleton];omega
       rw[<-htx]at yw;have J2:=Lib.hid htx;clear htx;cases m4 with
       |true=>
        go_wp2_with (at_builtin;refine wpList_append_byte rfl _ _ rfl w.heap.size _ _ rfl yw.out 112 112 rfl rfl (by omega) (by omega) ?_;intro v8 w8 h1 h2;refine Hid.out ?_);refine Lib.hid ?_;have HO8:=Lib.hid h1;clear h1;have HW8:=Lib.hid (Bp.out.trans h2);clear h2;have ao_:=HW8.out.below.size;go_wp2_with (at_builtin;refine wpList_append_byte rfl _ _ rfl w.heap.size _ _ rfl HO8.out 44 44 rfl rfl (by simp only[List.length_append,List.length_singleton];omega) (by omega) ?_;intro v9 w9 h1 h2;refine Hid.out ?_);refine Lib.hid ?_;have HO9:=Lib.hid h1;clear h1;have HW9:=Lib.hid (HW8.out.trans h2);clear h2;go_wp2
        go_roundw
        case rel=>exact⟨k+1,by omega,by go_num,by
         show Bytes _ _ _ _;rw[HE.out];have h9:=HO9.out;rw[J2.out]at h9;simpa [aD.text,List.append_assoc]using h9,HW9⟩
        case measure=>simp[intOf];omega
       |false=>
        go_wp2_with (at_builtin;refine wpList_append_byte rfl _ _ rfl w.heap.size _ _ rfl yw.out 44 44 rfl rfl (by omega) (by omega) ?_;intro v9 w9 h1 h2;refine Hid.out ?_);refine Lib.hid ?_;have HO9:=Lib.hid h1;clear h1;have HW9:=Lib.hid (Bp.out.trans h2);clear h2;go_wp2
        go_roundw
        case rel=>exact⟨k+1,by omega,by go_num,by
         show Bytes _ _ _ _;rw[HE.out];have h9:=HO9.out;rw[J2.out]at h9;simpa [aD.text,List.append_assoc]using h9,HW9⟩
        case measure=>simp[intOf];omega
      .obtain rfl:k=s.marks.length:=by omega
       rw[List.take_length]at HO;have htext:p6++zS s.marks=s.text:=by rw[HP6.out,HP5.out,Nb.out];simp[ak.text,List.append_assoc]
       rw[htext]at HO;have hpos:0<s.text.length:=by rw[<-htext,HP6.out];simp only[List.length_append,List.length_singleton];omega
       obtain⟨tx,htx⟩:∃tx,tx=s.text:=⟨_,rfl⟩;rw[<-htx]at HO hpos;have J2:=Lib.hid htx;clear htx htext;have hO:=HO.out;rcases hO.2 with⟨_,h0⟩|⟨g,cap,cur,rfl,_,_,_,_,_,_⟩
       .omega
       .have hcv:=run_convert_bytes_back (P:=prog) wr 101 9 5 ⟨g,0,none⟩ cap tx underlying101 underlying5 underlying9 (λj hj=>World.ownsRow.cells hO (g:=g) rfl j _ (by simp[Lib.byteCells,hj]))
        have Rj:=Lib.hid (HB0.out.trans HW.out.below);go_wp2;go_ret;have htx:=J2.out;subst htx;exact⟨rfl,Rj.out⟩
end
def numOf(l:List UInt8):Nat:=l.foldl (λn c=>n*10+(c.toNat - 48)) 0
theorem qU(u:Nat):numOf (Lib.decDigits u)=u:=by
 induction u using Nat.strongRecOn with
 |_ u ih=>
  rw[Lib.decDigits];by_cases h:u<10
  .rw[dif_pos h]
   simp only[numOf,List.foldl_cons,List.foldl_nil,UInt8.toNat_ofNat'];omega
  .rw[dif_neg h]
   have h1:=ih (u/10) (by omega);simp only[numOf,List.foldl_append,List.foldl_cons,List.foldl_nil,UInt8.toNat_ofNat']at h1⊢;rw[h1];omega
theorem vV(u:Nat):∀c∈Lib.decDigits u,48<=c.toNat/\c.toNat<=57:=by
 induction u using Nat.strongRecOn with
 |_ u ih=>
  intro c hc;rw[Lib.decDigits]at hc;by_cases h:u<10
  .rw[dif_pos h,List.mem_singleton]at hc
   subst hc;rw[UInt8.toNat_ofNat'];omega
  .rw[dif_neg h,List.mem_append,List.mem_singleton]at hc
   rcases hc with hc|rfl
   .exact ih _ (by omega) c hc
   .rw[UInt8.toNat_ofNat']
    omega
theorem Rk(x:Int):∀c∈Lib.itoa x,c.toNat=45\/(48<=c.toNat/\c.toNat<=57):=by
 intro c hc;unfold Lib.itoa at hc;split at hc
 .rcases List.mem_cons.1 hc with rfl|hc
  .exact .inl rfl
  .exact .inr (vV _ c hc)
 .exact .inr (vV _ c hc)
theorem pW{x y:Int}(h:Lib.itoa x=Lib.itoa y):x=y:=by
 have hh:∀u:Nat,∀l,Lib.decDigits u≠45::l:=λu l e=>by
  have:=vV u 45 (by rw[e];simp);exact absurd this.1 (by decide)
 unfold Lib.itoa at h;by_cases hx:x<0
 .rw[if_pos hx]at h
  by_cases hy:y<0
  .rw[if_pos hy]at h
   have h1:=congrArg numOf (List.cons.inj h).2;rw[qU,qU]at h1;omega
  .rw[if_neg hy]at h
   exact absurd h.symm (hh _ _)
 .rw[if_neg hx]at h
  by_cases hy:y<0
  .rw[if_pos hy]at h
   exact absurd h (hh _ _)
  .rw[if_neg hy]at h
   have h1:=congrArg numOf h;rw[qU,qU]at h1;omega
theorem lQ{α:Type}{x:α}:∀{a b r r':List α},x∉a->x∉b->a++x::r=b++x::r'->a=b/\r=r'
 |[],[],r,r',_,_,h=>⟨rfl,(List.cons.inj h).2⟩
 |[],c::b,_,_,_,hb,h=>absurd (List.cons.inj h).1 (λe=>hb (by rw[e];simp))
 |c::a,[],_,_,ha,_,h=>absurd (List.cons.inj h).1 (λe=>ha (by rw[<-e];simp))
 |c::a,d::b,r,r',ha,hb,h=>by
  obtain⟨h1,h2⟩:=List.cons.inj h;have h3:=lQ (λhm=>ha (List.mem_cons_of_mem _ hm)) (λhm=>hb (List.mem_cons_of_mem _ hm)) h2;exact⟨by rw[h1,h3.1],h3.2⟩
theorem qV{x:Int}{c:UInt8}(h1:c.toNat≠45)(h2:c.toNat<48\/57<c.toNat):c∉Lib.itoa x:=λhc=>by
 have:=Rk x c hc;omega
theorem TF{l:List Int}{c:UInt8}(h1:c.toNat≠45)(h2:c.toNat<48\/57<c.toNat)(h3:c≠44):c∉wR l:=by
 intro hc;unfold wR at hc;obtain⟨x,_,hx⟩:=List.mem_flatMap.1 hc;rcases List.mem_append.1 hx with hx|hx
 .exact qV h1 h2 hx
 .rw[List.mem_singleton]at hx;exact h3 hx
theorem TG{l:List Bool}:(59:UInt8)∉uw l:=by
 intro hc;unfold uw at hc;obtain⟨b,_,hb⟩:=List.mem_map.1 hc;cases b<;>cases hb
theorem Ov:∀{l l':List Int},wR l=wR l'->l=l'
 |[],[],_=>rfl
 |[],y::l',h=>by simp[wR]at h
 |x::l,[],h=>by simp[wR]at h
 |x::l,y::l',h=>by
  simp only[wR,List.flatMap_cons,List.append_assoc,List.singleton_append]at h;obtain⟨h1,h2⟩:=lQ (qV (by decide) (by decide)) (qV (by decide) (by decide)) h;rw[pW h1,Ov (l:=l) (l':=l') h2]
theorem Ow:∀{l l':List Bool},uw l=uw l'->l=l'
 |[],[],_=>rfl
 |[],y::l',h=>by simp[uw]at h
 |x::l,[],h=>by simp[uw]at h
 |x::l,y::l',h=>by
  simp only[uw,List.map_cons,List.cons.injEq]at h;rw[Ow (l:=l) (l':=l') h.2];cases x<;>cases y<;>first|rfl|(exact absurd h.1 (by decide))
theorem Yg{m m':aD}{r r':List UInt8}(h:m.text++r=m'.text++r'):m=m'/\r=r':=by
 obtain⟨a,b,c,d,e⟩:=m;obtain⟨a',b',c',d',e'⟩:=m';simp only[aD.text,List.append_assoc,List.singleton_append]at h;have n46:∀x:Int,(46:UInt8)∉Lib.itoa x:=λx=>qV (by decide) (by decide);have n44:∀x:Int,(44:UInt8)∉Lib.itoa x:=λx=>qV (by decide) (by decide);have n112:∀x:Int,(112:UInt8)∉Lib.itoa x:=λx=>qV (by decide) (by decide);obtain⟨h1,g1⟩:=lQ (n46 _) (n46 _) h;obtain⟨h2,g2⟩:=lQ (n46 _) (n46 _) g1;obtain⟨h3,g3⟩:=lQ (n46 _) (n46 _) g2;clear h g1 g2;have e1:=pW h1;have e2:=pW h2;have e3:=pW h3;subst e1 e2 e3;cases e<;>cases e'
 .simp only[cond_false,List.nil_append]at g3
  obtain⟨h4,h5⟩:=lQ (n44 _) (n44 _) g3;exact⟨by rw[pW h4],h5⟩
 .simp only[cond_false,cond_true,List.nil_append,List.singleton_append]at g3
  exfalso;have h6:Lib.itoa d++44::r=(Lib.itoa d'++[112])++44::r':=by simpa using g3
  obtain⟨h4,_⟩:=lQ (n44 _) (by simp[n44]) h6;exact n112 d (by rw[h4];simp)
 .simp only[cond_false,cond_true,List.nil_append,List.singleton_append]at g3
  exfalso;have h6:(Lib.itoa d++[112])++44::r=Lib.itoa d'++44::r':=by simpa using g3
  obtain⟨h4,_⟩:=lQ (by simp[n44]) (n44 _) h6;exact n112 d' (by rw[<-h4];simp)
 .simp only[cond_true,List.singleton_append]at g3
  obtain⟨h4,h5⟩:=lQ (n112 _) (n112 _) g3;exact⟨by rw[pW h4],(List.cons.inj h5).2⟩
theorem TH(m:aD):m.text≠[]:=by simp[aD.text]
theorem Ox:∀{l l':List aD},zS l=zS l'->l=l'
 |[],[],_=>rfl
 |[],y::l',h=>by
  simp only[zS,List.flatMap_cons,List.flatMap_nil]at h;exact absurd (List.append_eq_nil_iff.1 h.symm).1 (TH y)
 |x::l,[],h=>by
  simp only[zS,List.flatMap_cons,List.flatMap_nil]at h;exact absurd (List.append_eq_nil_iff.1 h).1 (TH x)
 |x::l,y::l',h=>by
  simp only[zS,List.flatMap_cons]at h;obtain⟨h1,h2⟩:=Yg h;rw[h1,Ox (l:=l) (l':=l') h2]
theorem Oy{s s':ak}(h:s.text=s'.text):s=s':=by
 obtain⟨a,b,c,d⟩:=s;obtain⟨a',b',c',d'⟩:=s';simp only[ak.text,List.append_assoc,List.singleton_append]at h;obtain⟨h1,h⟩:=lQ (qV (by decide) (by decide)) (qV (by decide) (by decide)) h;obtain⟨h2,h⟩:=lQ (TF (by decide) (by decide) (by decide)) (TF (by decide) (by decide) (by decide)) h;obtain⟨h3,h4⟩:=lQ TG TG h;rw[pW h1,Ov h2,Ow h3,Ox h4]
theorem mE{s:ak}{F:List ak}:s.text∈F.map ak.text↔s∈F:=by
 constructor
 .intro h
  obtain⟨s',hs',e⟩:=List.mem_map.1 h;rw[<-Oy e];exact hs'
 .intro h
  exact List.mem_map.2 ⟨s,h,rfl⟩
end Go.Proofs.YtpmdedcnbockhaaGreatDoor
