/- part -/
import Derived.Maps.OwnIn
import Derived.Test.YtpmdedcnbockhaaGreatDoorS18
import Derived.Test.YtpmdedcnbockhaaGreatDoorS20
import Derived.Test.YtpmdedcnbockhaaGreatDoorS14
set_option maxRecDepth 100000
set_option maxHeartbeats 8000000
namespace Go.Proofs.YtpmdedcnbockhaaGreatDoor
section
open Go.RowKit Go.Shelf Go.Sort Tryz
def R1(v:Value):Option (DataW Value×List MemPlace):=some (.held v,[])
theorem uW:Maps.Keyed prog 9:=Maps.string_keyed underlying9
theorem Yr(w:World):(zeroValue 48).run prog w= .ok eF w:=by kernel_rfl
theorem Ic{l:List UInt8}(hl:l.length<=maxLen):keyOf prog 9 (.string ⟨l.toArray⟩)=some (.string l):=by
 have h:=WideMaps.keyOf_string_mk (P:=prog) underlying9 (s:=⟨l.toArray⟩) (by simpa [ByteArray.size]using hl);simpa using h
def eY(w:World)(k:Nat):Prop:=∃es c,w.heap[k]?=some (.map es c)
theorem Src.upd{S:Nat->Prop}{w w':World}{size m:Nat}{A:Option Addr}{news:List Value}(h:Src w size A m news)(hs:0<size)(hu:aG S w w')(hS:∀k,S k->eY w k):Src w' size A m news:=by
 refine⟨h.1,h.2.1,λhm=>?_⟩;obtain⟨b,off,rfl,hlt,hc⟩:=h.form hm hs;have hl:0<news.length:=by rw[h.1];exact Nat.mul_pos hm hs
 have hn:¬S b:=λhb=>by
  obtain⟨es,c,hb⟩:=hS b hb;have h0:=hc 0 (Nat.mul_pos hm hs);rw[aS hl]at h0;simp[World.cell?,hb]at h0
 refine⟨_,rfl,λj u hj=>?_⟩;have hjl:j<m*size:=by rw[<-h.1];exact(bB.1 hj).1
 rw[Addr.add_lit,hu.cell hlt hn,hc j hjl,hj]
theorem At.upd{S:Nat->Prop}{w w':World}{size n c:Nat}{A:Option Addr}{xs:List Value}(h:At w size A n c xs)(hs:0<size)(hu:aG S w w')(hS:∀k,S k->eY w k):At w' size A n c xs:=⟨h.1.upd hs hu hS,h.2⟩
theorem aQ.upd{S:Nat->Prop}{w w':World}{v:TV}{s:ak}(h:aQ w v s)(hu:aG S w w')(hS:∀k,S k->eY w k):aQ w' v s:=
 ⟨h.aj.upd (by omega) hu hS,h.used.upd (by omega) hu hS,h.marks.upd (by omega) hu hS⟩
def dJ(B:Nat)(w:World)(b:Nat)(F:List ak):Prop:=
 ∃D:DataW Value,w.ownsMap prog 9 R1 b (Maps.size D) D/\Maps.size D=F.length/\(F.map ak.text).Nodup/\
  (∀s∈F,∃t:TV,(∀z,D.atKey (.string s.text) z= .held (t.val s))/\aQ w t s/\lN B t)/\(∀k,Maps.has D k=true->∃s∈F,k= .string s.text)
theorem qX{w:World}{b n:Nat}{D:DataW Value}(h:w.ownsMap prog 9 R1 b n D):w.ownsMap prog 9 R1 b (Maps.size D) D:=by
 obtain⟨es,clock,hb,F,hs,rfl⟩:=h;exact⟨es,clock,hb,F,by simp[Maps.size,length_sorted],rfl⟩
theorem dJ.blk{B:Nat}{w:World}{b:Nat}{F:List ak}(h:dJ B w b F):eY w b:=by
 obtain⟨D,⟨es,c,hb,_⟩,_⟩:=h;exact⟨es,c,hb⟩
theorem dJ.made(B:Nat)(w:World):dJ B (w.alloc (.map #[] 0)) w.heap.size []:=
 ⟨.map [],World.ownsMap_made _ _ _ _,rfl,List.nodup_nil,by simp,λk hk=>by cases hk⟩
theorem dJ.upd{B:Nat}{S:Nat->Prop}{w w':World}{b:Nat}{F:List ak}(h:dJ B w b F)(hu:aG S w w')(hb:¬S b)(hS:∀k,S k->eY w k):dJ B w' b F:=by
 obtain⟨D,⟨es,clock,h1,h2,h3,h4⟩,h5,h6,h7,h8⟩:=h;refine⟨D,⟨es,clock,hu.keep h1 hb,h2,h3,h4⟩,h5,h6,λs hs=>?_,h8⟩;obtain⟨t,ht,hst,hnt⟩:=h7 s hs;exact⟨t,ht,hst.upd hu hS,hnt⟩
theorem dJ.below{B:Nat}{w w':World}{b:Nat}{F:List ak}(h:dJ B w b F)(hb:Below w.heap.size w w'):dJ B w' b F:=by
 obtain⟨es,c,hm⟩:=h.blk;refine dJ.upd (B:=B) (S:=λ_=>False) h ?_ (λh=>h) (λ_ h=>h.elim);exact(aG.of_below hb).mono (λi hi hle=>by omega)
theorem o_{w w':World}{b:Nat}(h:w.mapTurned w' b):aG (λk=>k=b) w w'/\eY w' b:=by
 obtain⟨es,c,es',c',h1,rfl⟩:=h;refine⟨?_,es',c',?_⟩
 .have hg:=World.mapTurned.grown (w:=w) (b:=b) ⟨es,c,es',c',h1,rfl⟩
  exact⟨hg.os,hg.tape,hg.output,hg.size,λk hk hn=>hg.block k hk (by simpa using hn)⟩
 .simp[ChangeMaps.setBlock,aB h1]
theorem dJ.put{B:Nat}{w:World}{b:Nat}{F:List ak}(h:dJ B w b F){s:ak}(hn:s.text∉F.map ak.text){t:TV}(hst:aQ w t s)(hnt:lN B t)(hl:s.text.length<=maxLen)(hF:F.length<1000000):
 ∃w',(Instr.mapUpdate 142 (.map (some b)) (.string ⟨s.text.toArray⟩) (t.val s)).run prog w= .ok () w'/\dJ B w' b (F++[s])/\aG (λk=>k=b) w w':=by
 have hblk:=h.blk;obtain⟨D,h1,h2,h3,h4,h5⟩:=h;obtain⟨w',hrun,hown,htr⟩:=h1.store (t:=142) (e:=48) uW underlying142 (by rw[h2];unfold maxLen;omega) (Ic hl) (val:=t.val s) (d:=.held (t.val s)) (ps:=[]) rfl;obtain⟨hu,_⟩:=o_ htr;have hmb:∀k,k=b->eY w k:=λk hk=>by rw[hk];exact hblk
 have hnot:Maps.has D (.string s.text)=false:=by
  cases hh:Maps.has D (.string s.text)with
  |false=>rfl
  |true=>
   obtain⟨s',hs',e⟩:=h5 _ hh;exact absurd (cZ.2 ⟨s',hs',(Lit.string.inj e).symm⟩) hn
 refine⟨w',hrun,⟨D.put (.string s.text) (.held (t.val s)),qX hown,?_,?_,?_,?_⟩,hu⟩
 .rw[Maps.size_put (h1.tidy uW),hnot]
  simp[h2]
 .rw[pG,List.nodup_append]
  exact⟨h3,by simp,λa ha b hb e=>by simp at hb;rw[e,hb]at ha;exact hn ha⟩
 .intro x hx
  rcases jU.1 hx with hx|hx
  .obtain⟨t',ht',hst',adA⟩:=h4 x hx
   refine⟨t',λz=>?_,hst'.upd hu hmb,adA⟩;rw[Maps.atKey_put_other (λe=>by injection e with e;exact hn (by rw[<-e];exact cZ.2 ⟨x,hx,rfl⟩))];exact ht' z
  .rw[eB]at hx
   subst hx;exact⟨t,λz=>Maps.atKey_put_same h1.isMap (uW.key (Ic hl)) _ _,hst.upd hu hmb,hnt⟩
 .intro k hk
  by_cases e:k= .string s.text
  .exact⟨s,by simp,e⟩
  .rw[Maps.has_put_other e]at hk
   obtain⟨s',hs',e'⟩:=h5 k hk;exact⟨s',List.mem_append_left _ hs',e'⟩
theorem dJ.del{B:Nat}{w:World}{b:Nat}{F:List ak}(h:dJ B w b F){s:ak}(hs:s∈F)(hl:s.text.length<=maxLen)(ty:TypeId):
 ∃w',(Builtin.delete_ #[142,9] ty #[.map (some b),.string ⟨s.text.toArray⟩]).run prog w= .ok (.tuple #[]) w'/\dJ B w' b (F.filter (λx=>x.text !=s.text))/\aG (λk=>k=b) w w':=by
 have hblk:=h.blk;obtain⟨D,h1,h2,h3,h4,h5⟩:=h;obtain⟨w',hrun,hown,htr⟩:=h1.drop (t:=142) (e:=48) uW underlying142 (Ic hl) ty;obtain⟨hu,_⟩:=o_ htr;have hmb:∀k,k=b->eY w k:=λk hk=>by rw[hk];exact hblk
 have hyes:Maps.has D (.string s.text)=true:=by
  obtain⟨t,ht,_⟩:=h4 s hs;exact Maps.has_true_of_atKey ht
 have agC:∀(F:List ak),(F.map ak.text).Nodup->s∈F->(F.filter (λx=>x.text !=s.text)).length+1=F.length:=by
  intro F;induction F with
  |nil=>intro _ h;cases h
  |cons a F ih=>
   intro hnd hm;rw[kN,List.nodup_cons]at hnd;by_cases e:a.text=s.text
   .have hrest:F.filter (λx=>x.text !=s.text)=F:=by
     apply List.filter_eq_self.2;intro x hx;have:x.text≠s.text:=λe'=>hnd.1 (by rw[e,<-e'];exact cZ.2 ⟨x,hx,rfl⟩);simpa using this
    rw[List.filter_cons_of_neg (by simp[e]),hrest,gV]
   .have hm':s∈F:=by
     rcases dx.1 hm with rfl|hm
     .exact absurd rfl e
     .exact hm
    rw[List.filter_cons_of_pos (by simpa using e),gV,gV,ih hnd.2 hm']
 refine⟨w',hrun,⟨D.del (.string s.text),qX hown,?_,?_,?_,?_⟩,hu⟩
 .have:=Maps.size_del (k:=.string s.text) (h1.tidy uW)
  rw[hyes]at this;have h7:=agC F h3 hs;simp at this;omega
 .exact List.Pairwise.sublist (List.Sublist.map _ List.filter_sublist) h3
 .intro x hx
  obtain⟨hxF,hne⟩:=List.mem_filter.1 hx;have hne':x.text≠s.text:=by simpa using hne
  obtain⟨t',ht',hst',adA⟩:=h4 x hxF;refine⟨t',λz=>?_,hst'.upd hu hmb,adA⟩;rw[Maps.atKey_del_other (λe=>by injection e with e;exact hne' e)];exact ht' z
 .intro k hk
  by_cases e:k= .string s.text
  .rw[e,Maps.has_del_same]at hk;cases hk
  .rw[Maps.has_del_other e]at hk
   obtain⟨s',hs',e'⟩:=h5 k hk;refine⟨s',List.mem_filter.2 ⟨hs',?_⟩,e'⟩;have:s'.text≠s.text:=λe2=>e (by rw[e',e2]);simpa using this
theorem dJ.len{B:Nat}{w:World}{b:Nat}{F:List ak}(h:dJ B w b F)(ty:TypeId):(Builtin.len_ #[142] ty #[.map (some b)]).run prog w= .ok (.int .i64 (F.length:Nat)) w:=by
 obtain⟨D,h1,h2,_⟩:=h;rw[<-h2];exact h1.len (e:=48) underlying142 ty
theorem Md{v:Value}{d:DataW Value}{ps:List MemPlace}(h:R1 v=some (d,ps)):d= .held v:=by
 simp only[R1,Option.some.injEq,Prod.mk.injEq]at h;exact h.1.symm
theorem dJ.look{B:Nat}{w:World}{b:Nat}{F:List ak}(h:dJ B w b F){s:ak}(hs:s∈F)(hl:s.text.length<=maxLen):
 ∃t:TV,(Instr.lookup 142 (.map (some b)) (.string ⟨s.text.toArray⟩) false).run prog w= .ok (t.val s) w/\aQ w t s/\lN B t:=by
 obtain⟨D,h1,h2,h3,h4,h5⟩:=h;obtain⟨t,ht,hst⟩:=h4 s hs;obtain⟨v,ps,hrun,hv⟩:=h1.lookup (t:=142) (e:=48) uW underlying142 (Yr w) (zd:=.held eF) (zp:=[]) rfl (Ic hl);have h6:=Md hv;rw[ht]at h6;injection h6 with h6
 subst h6;exact⟨t,hrun,hst⟩
def stV(d:Int)(a1:Option Addr)(n1 c1:Nat)(a2:Option Addr)(n2 c2:Nat)(a3:Option Addr)(n3 c3:Nat):Value:=.agg #[.int .i64 d,.slice a1 n1 c1,.slice a2 n2 c2,.slice a3 n3 c3]
theorem dJ.GJ{B:Nat}{w:World}{b:Nat}{F:List ak}(h:dJ B w b F){tx:List UInt8}(hl:tx.length<=maxLen):
 ∃d a1 n1 c1 a2 n2 c2 a3 n3 c3,(Instr.lookup 142 (.map (some b)) (.string ⟨tx.toArray⟩) true).run prog w= .ok (.tuple #[stV d a1 n1 c1 a2 n2 c2 a3 n3 c3,.bool (decide (tx∈F.map ak.text))]) w:=by
 obtain⟨D,h1,h2,h3,h4,h5⟩:=h;obtain⟨v,ps,hrun,hv⟩:=h1.look_ok (t:=142) (e:=48) uW underlying142 (Yr w) (zd:=.held eF) (zp:=[]) rfl (Ic hl);have h6:=Md hv;by_cases hm:tx∈F.map ak.text
 .obtain⟨s,hs,rfl⟩:=cZ.1 hm
  obtain⟨t,ht,hst⟩:=h4 s hs;rw[ht]at h6;injection h6 with h6
  subst h6;rw[Maps.has_true_of_atKey ht]at hrun;refine⟨s.day,t.h.A,s.aj.length,t.h.c,t.u.A,s.used.length,t.u.c,t.m.A,s.marks.length,t.m.c,?_⟩;rw[decide_eq_true hm];exact hrun
 .have hnot:Maps.has D (.string tx)=false:=by
   cases hh:Maps.has D (.string tx)with
   |false=>rfl
   |true=>
    obtain⟨s',hs',e⟩:=h5 _ hh;exact absurd (cZ.2 ⟨s',hs',(Lit.string.inj e).symm⟩) hm
  rw[Maps.atKey_of_not_has hnot]at h6;injection h6 with h6
  subst h6;rw[hnot]at hrun;refine⟨0,none,0,0,none,0,0,none,0,0,?_⟩;rw[decide_eq_false hm];exact hrun
theorem Ie{α:Type}[BEq α][LawfulBEq α]:∀{l1 l2:List α},l1.Nodup->l2.Nodup->(∀x,x∈l1↔x∈l2)->l1.Perm l2
 |[],l2,_,_,h=>by
  cases l2 with
  |nil=>exact List.Perm.nil
  |cons a l=>exact absurd ((h a).2 (by simp)) (by simp)
 |a::l1,l2,h1,h2,h=>by
  rw[List.nodup_cons]at h1;have ha:a∈l2:=(h a).1 (by simp);refine List.Perm.trans (List.Perm.cons a (Ie h1.2 (h2.erase a) (λx=>?_))) (List.perm_cons_erase ha).symm;rw[List.Nodup.mem_erase_iff h2];constructor
  .intro hx
   exact⟨λe=>h1.1 (e▸hx),(h x).1 (kG _ hx)⟩
  .rintro⟨hne,hx⟩
   rcases dx.1 ((h x).2 hx)with e|e
   .exact absurd e hne
   .exact e
theorem dJ.keys{B:Nat}{w:World}{b:Nat}{F:List ak}(h:dJ B w b F):∃D:DataW Value,w.ownsMap prog 9 R1 b (Maps.size D) D/\Maps.size D=F.length/\(strKeys D).Perm (F.map ak.text):=by
 obtain⟨D,h1,h2,h3,h4,h5⟩:=h;refine⟨D,h1,h2,?_⟩;obtain⟨es,rfl,hap⟩:=h1.tidy uW;have hkeys:∀p∈es,∃s∈F,p.1= .string s.text:=λp hp=>by
  have hlit:WideAt.IsKeyLit p.1:=by
   obtain⟨es',c,_,Ft,_,he⟩:=h1;injection he with he
   rw[he]at hp;obtain⟨v,hv⟩:=Maps.fit_keys Ft p ((WideShapes.sorted_perm _).mem_iff.1 hp);exact uW.key hv
  have hh:Maps.has (DataW.map es) p.1=true:=by
   rw[Maps.has_eq,List.any_eq_true];exact⟨p,hp,WideAt.sameKey_self hlit⟩
  obtain⟨s,hs,e⟩:=h5 _ hh;exact⟨s,hs,e⟩
 refine Ie ?_ h3 (λx=>?_)
 .show(es.map λp=>strOf p.1).Nodup
  rw[List.Nodup,List.pairwise_map];refine List.Pairwise.imp_of_mem ?_ hap;intro p q hp hq hne e;obtain⟨s,_,hs⟩:=hkeys p hp;obtain⟨s',_,hs'⟩:=hkeys q hq;rw[hs,hs']at e hne;simp only[strOf]at e;exact hne (by rw[e])
 .show x∈es.map (λp=>strOf p.1)↔_
  constructor
  .intro hx
   obtain⟨p,hp,rfl⟩:=cZ.1 hx;obtain⟨s,hs,e⟩:=hkeys p hp;rw[e];exact cZ.2 ⟨s,hs,rfl⟩
  .intro hx
   obtain⟨s,hs,rfl⟩:=cZ.1 hx;obtain⟨t,ht,_⟩:=h4 s hs;have hh:=Maps.has_true_of_atKey ht;rw[Maps.has_eq,List.any_eq_true]at hh;obtain⟨p,hp,hsame⟩:=hh;exact cZ.2 ⟨p,hp,by rw[WideAt.sameKey_eq hsame];rfl⟩
end
section
open Go.RowKit Go.Shelf Tryz
attribute [local go_sem] GY stillUpon jh
theorem Tab.upd{S:Nat->Prop}{w w':World}(h:Tab w)(hu:aG S w w')(hS:∀k,S k->eY w k):Tab w':=by
 unfold Tab Lib.TabIs World.var? at*;cases hg:prog.globalNamed "internal/strconv.uint64pow10" with
 |none=>simp[hg]at h
 |some g=>
  simp only[hg,Option.bind_some]at h⊢;have hlt:g<w.heap.size:=by
   rcases iH g w.heap.size with h'|h'
   .exact h'
   .rw[Array.getElem?_eq_none h']at h;simp at h
  have hn:¬S g:=λhs=>by
   obtain⟨es,c,hb⟩:=hS g hs;rw[hb]at h;simp at h
  rw[hu.block g hlt hn];exact h
theorem Rn{s:ak}(h:DF s):s.text.length<=200000:=by
 have h1:=mH h.day;have h2:=H9 h.aj;have h3:=Ou h.marks;have h4:=h.lh;have h5:=h.lu;have h6:=h.lm;simp only[ak.text,mU,rP];have h7:(uw s.used).length=s.used.length:=by simp[uw]
 omega
theorem yD{s:ak}(h:DF s):s.text.length<=maxLen:=bI (Rn h) (by unfold maxLen;omega)
def jv(F:List ak)(s:ak):List ak:=cond (decide (s.text∈F.map ak.text)) F (F++[s])
def zU(F G:List ak)(s:ak):List ak:=cond (decide (s.text∈F.map ak.text)) G (G++[s])
def Ig(B bf bg:Nat)(F G:List ak)(s:ak)(w:World)(e:Ending)(w':World):Prop:=
 e= .returned (.tuple #[])/\aG (λk=>k=bf\/k=bg) w w'/\dJ B w' bf (jv F s)/\dJ B w' bg (zU F G s)
theorem OH{B:Nat}(t:TV)(s:ak)(cf cg bf bg:Nat)(F G:List ak)(w:World)(hst:aQ w t s)(hnt:lN B t)(hR:DF s)(hT:Tab w)(hf:dJ B w bf F)(hg:dJ B w bg G)(hcf:w.cell? ⟨cf,0,none⟩=some (.map (some bf)))(hcg:w.cell? ⟨cg,0,none⟩=some (.map (some bg)))(hbg:bf≠bg)
 (Yt:F.length<1000000)(hGl:G.length<1000000)(hGF:s.text∈G.map ak.text->s.text∈F.map ak.text):
 Calls prog 129 #[t.val s,.pointer (some ⟨cf,0,none⟩),.pointer (some ⟨cg,0,none⟩)] w (Ig B bf bg F G s w):=by
 obtain⟨⟨eu,dN⟩,⟨eH,dL⟩,⟨fF,bY⟩⟩:=t;have HST:=ah hst;clear hst;have Ih:=ah hnt;clear hnt;have HF:=ah hf;clear hf;have HG:=ah hg;clear hg;have HGF:=ah hGF;clear hGF;have J2:=yD hR;have TJ:=ah J2;clear J2;have HR:=ah hR;clear hR;have HT:=ah hT;clear hT;simp only[TV.val,TV.cells,ak.cells];have lf:=World.block_lt_of_cell? w _ hcf;have lg:=World.block_lt_of_cell? w _ hcg;simp only at lf lg;go_enter func129,ntmps129;go_upto_region 1 with(fail)
 obtain⟨W0,HW0⟩:∃W0,Hid (W0=w.alloc (.cells #[.int .i64 s.day,.slice eu s.aj.length dN,.slice eH s.used.length dL,.slice fF s.marks.length bY] 48)):=⟨_,rfl⟩;rw[<-HW0.out];have HB:Hid (Below w.heap.size w W0):=by show Below _ _ _;rw[HW0.out];exact aJ (aC _ _) _
 have hbx:W0.heap[w.heap.size]?=some (.cells #[.int .i64 s.day,.slice eu s.aj.length dN,.slice eH s.used.length dL,.slice fF s.marks.length bY] 48 (0,0)):=by rw[HW0.out];exact bK w _
 obtain⟨x0,x1,x2,x3⟩:=Wx hbx;have yf:∀z:Bl W0,z.val.cell? ⟨cf,0,none⟩=some (.map (some bf)):=λz=>z.cell (((aL HB.out).1 _ _ lf).trans hcf);have yg:∀z:Bl W0,z.val.cell? ⟨cg,0,none⟩=some (.map (some bg)):=λz=>z.cell (((aL HB.out).1 _ _ lg).trans hcg);have KP:Hid (∀z:Bl W0,Calls prog 25 #[.agg #[.int .i64 s.day,.slice eu s.aj.length dN,.slice eH s.used.length dL,.slice fF s.marks.length bY]] z.val (dZ (.string ⟨s.text.toArray⟩) z.val)):=λz=>
  Ia ⟨⟨eu,dN⟩,⟨eH,dL⟩,⟨fF,bY⟩⟩ s z.val (HST.out.below (av HB.out z.prop)) HR.out (HT.out.below (av HB.out z.prop))
 change Code.wp _ _ _ _ (Bl.val (⟨W0,aC _ _⟩:Bl W0));generalize(⟨W0,aC _ _⟩:Bl W0)=s0;clear hcf hcg hbx;obtain⟨tx,htx⟩:∃tx,tx=s.text:=⟨_,rfl⟩;rw[<-htx]at KP TJ HGF;have HE:=ah htx;clear htx;go_wp2_with (go_at_call 25;refine(KP.out _).mono ?_;rintro e z ⟨rfl,hz⟩;obtain⟨z,rfl⟩:=Bl.on hz;clear hz;refine Hid.out ?_);refine ah ?_;have hFz:dJ B z.val bf F:=HF.out.below (av HB.out z.prop);have hGz:dJ B z.val bg G:=HG.out.below (av HB.out z.prop);obtain⟨d,a1,n1,c1,a2,n2,c2,a3,n3,c3,hrun⟩:=hFz.GJ TJ.out;unfold stV at hrun;have yfz:=yf z;have ygz:=yg z;have x0z:=x0 z;have x1z:=x1 z;have x2z:=x2 z;have x3z:=x3 z;have Me:Hid (Below w.heap.size w z.val):=av HB.out z.prop;have HFz:=ah hFz;clear hFz;have HGz:=ah hGz;clear hGz;have HSz:=ah (HST.out.below Me.out);have lz:w.heap.size<z.val.heap.size:=by
  have h1:=World.block_lt_of_cell? _ _ x0z;exact h1
 have lfz:cf<z.val.heap.size:=by omega
 have lgz:cg<z.val.heap.size:=by omega
 generalize z.val=Z at hrun yfz ygz x0z x1z x2z x3z Me HFz HGz HSz lz lfz lgz⊢;clear x0 x1 x2 x3 yf yg KP;cases q:decide (tx∈F.map ak.text)with
 |true=>
  rw[q]at hrun;go_wp2
  go_end0
  have hU:aG (λk=>k=bf\/k=bg) w (Z.alloc (.cells #[.int .i64 d,.slice a1 n1 c1,.slice a2 n2 c2,.slice a3 n3 c3] 48)):=((aG.of_below Me.out).mono (λi hi hle=>by omega)).alloc _;have hx:=HE.out;subst hx;refine⟨rfl,hU,?_,?_⟩
  .rw[jv,q];exact HFz.out.below (aJ (aC _ _) _)
  .rw[zU,q];exact HGz.out.below (aJ (aC _ _) _)
 |false=>
  rw[q]at hrun;go_wp2;obtain⟨Y,HY⟩:∃Y,Hid (Y=Z.alloc (.cells #[.int .i64 d,.slice a1 n1 c1,.slice a2 n2 c2,.slice a3 n3 c3] 48)):=⟨_,rfl⟩;rw[<-HY.out];have hby:Below Z.heap.size Z Y:=by rw[HY.out];exact aJ (aC _ _) _
  have yf':=((aL hby).1 _ _ lfz).trans yfz;have yg':=((aL hby).1 _ _ lgz).trans ygz;have x0':=((aL hby).1 _ _ lz).trans x0z;have x1':=((aL hby).1 _ _ lz).trans x1z;have x2':=((aL hby).1 _ _ lz).trans x2z;have x3':=((aL hby).1 _ _ lz).trans x3z;have HFy:=ah (HFz.out.below hby);have HGy:=ah (HGz.out.below hby);have HSy:=ah (HSz.out.below hby);have HUy:Hid (Below w.heap.size w Y):=av Me.out hby;clear hrun yfz ygz x0z x1z x2z x3z hby;have hx:=HE.out;obtain⟨W6,hr6,hS6,Dz⟩:=(HFy.out.upd (S:=λ_=>False) (w':=Y.drew) ((aG.refl _ _).drew) (λh=>h) (λ_ h=>h.elim)).put (s:=s) (by rw[<-hx];simpa using q) (t:=⟨⟨eu,dN⟩,⟨eH,dL⟩,⟨fF,bY⟩⟩) (HSy.out.upd (S:=λ_=>False) ((aG.refl _ _).drew) (λ_ h=>h.elim)) Ih.out (by rw[<-hx];exact TJ.out) Yt;have hmb:∀k,k=bf->eY Y.drew k:=λk hk=>by rw[hk];exact HFy.out.blk
  have hG6:dJ B W6 bg G:=(HGy.out.upd (S:=λ_=>False) (w':=Y.drew) ((aG.refl _ _).drew) (λh=>h) (λ_ h=>h.elim)).upd Dz (λe=>hbg e.symm) hmb;have agG:aQ W6 ⟨⟨eu,dN⟩,⟨eH,dL⟩,⟨fF,bY⟩⟩ s:=(HSy.out.upd (S:=λ_=>False) (w':=Y.drew) ((aG.refl _ _).drew) (λ_ h=>h.elim)).upd Dz hmb;obtain⟨W7,hr7,hS7,hU7⟩:=hG6.put (s:=s) (by
   intro hm;have:=HGF.out (by rw[hx];exact hm);rw[decide_eq_false_iff_not]at q;exact q this) agG Ih.out (by rw[<-hx];exact TJ.out) hGl
  rw[<-hx]at hr6 hr7;simp only[TV.val,TV.cells,ak.cells]at hr6 hr7;have hkc:∀(p o:Nat)(u:Value),Y.cell? ⟨p,o,none⟩=some u->W6.cell? ⟨p,o,none⟩=some u:=λp o u h=>by
   have hl:=World.block_lt_of_cell? Y _ h;have hn:p≠bf:=by
    rintro rfl;obtain⟨es,c,hb⟩:=HFy.out.blk;simp[World.cell?,hb]at h
   exact(Dz.cell (w:=Y.drew) (b:=p) (o:=o) hl hn).trans h
  have yf6:=hkc _ _ _ yf';have yg6:=hkc _ _ _ yg';have x06:=hkc _ _ _ x0';have x16:=hkc _ _ _ x1';have x26:=hkc _ _ _ x2';have x36:=hkc _ _ _ x3';have HU:Hid (aG (λk=>k=bf\/k=bg) w W7):=by
   have h1:aG (λk=>k=bf\/k=bg) w Y.drew:=((aG.of_below HUy.out).mono (λi hi hle=>by omega)).drew;exact(h1.trans Dz (λi hi e=>.inl e)).trans hU7 (λi hi e=>.inr e)
  have HS6:Hid (dJ B W7 bf (F++[s])):=hS6.upd hU7 hbg (λk hk=>by rw[hk];exact hG6.blk);have HS7:=ah hS7;have HHX:=ah hx;clear hkc hx hS6 hS7 Dz hU7 hG6 agG hmb;refine GZ (w1:=W6) 7 6 (by omega) (by simp) (by kernel_rfl) (by kernel_rfl) ?_;simp only[gF,bW,gI,b_];repeat(refine UM rfl (λK hK=>?_);go_simp;refine hK _ ?_;clear hK K)
  refine XM rfl rfl ?_ ?_
  .go_simp
  go_simp;refine aaq ?_;gi_wp2;go_wp2
  go_end0
  refine⟨rfl,HU.out,?_,?_⟩
  .rw[jv,<-HHX.out,q];exact HS6.out
  .rw[zU,<-HHX.out,q];exact HS7.out
end
section
open Go.RowKit Tryz
inductive Reach (C:au) (p:Int) (l:List ak):ak->Prop
 |base {s:ak}:s∈l->Reach C p l s
 |step {s:ak} {x:Int}:Reach C p l s->s.day<C.days->x∈C.hid s p->Reach C p l (C.next s x)
theorem Mf{C:au}{s:ak}{p x:Int}(h:x∈C.hid s p):∃(i:Nat)(a:jy),x=i/\C.acts[i]?=some a/\zT C s p i=true:=by
 unfold au.hid wM at h;obtain⟨i,hi,rfl⟩:=cZ.1 h;obtain⟨h1,h2⟩:=List.mem_filter.1 hi;have hl:i<C.acts.length:=List.mem_range.1 h1;exact⟨i,_,rfl,aS hl,h2⟩
theorem aaL{C:au}{s:ak}{p:Int}{i:Nat}(hl:i<C.acts.length)(h:zT C s p i=true):(i:Int)∈C.hid s p:=
 cZ.2 ⟨i,List.mem_filter.2 ⟨List.mem_range.2 hl,h⟩,rfl⟩
theorem Ii{C:au}{s:ak}{i:Nat}{a:jy}(ha:C.acts[i]?=some a):C.next s i=C.act i a s:=by
 have h:((i:Int)== -1)=false:=by simp
 simp only[au.next,h,cond_false,sM,ha]
theorem yE{C:au}{s:ak}(hO:aV C s)(hd:s.day<C.days){i:Nat}(hi:i<C.acts.length):C.dP s i=0:=by
 have h1:C.f_ s=true:=(jr C s).2 hO;have h2:decide ((i:Int)< -1)=false:=by simp
 have h3:decide ((C.acts.length:Int)<=(i:Int))=false:=by simp;omega
 have h4:(s.day==C.days)=false:=by simp;omega
 simp only[au.dP,h1,h2,h3,h4,Bool.not_true,cond_false]
theorem OI{C:au}{s:ak}{p x:Int}(hO:aV C s)(hd:s.day<C.days)(h:x∈C.hid s p):aV C (C.next s x)/\C.dP s x=0:=by
 obtain⟨i,a,rfl,ha,_⟩:=Mf h;rw[Ii ha];exact⟨LV hO ha,yE hO hd (bB.1 ha).1⟩
structure Inv(C:au)(p:Int)(l F G X:List ak):Prop where
 ok:∀s∈F,aV C s
 reach:∀s∈F,Reach C p l s
 sub:∀s∈G,s∈F
 closed:∀s∈F,s∉G->s∉X->s.day<C.days->∀x∈C.hid s p,C.next s x∈F
theorem g_{F:List ak}{s x:ak}:x∈jv F s↔x∈F\/x=s:=by
 unfold jv;by_cases h:s∈F
 .rw[decide_eq_true (mE.2 h),cond_true]
  constructor
  .exact .inl
  .rintro(hx|rfl)
   .exact hx
   .exact h
 .rw[decide_eq_false (λhm=>h (mE.1 hm)),cond_false,jU,eB]
theorem Yu{F G:List ak}{s x:ak}:x∈zU F G s->x∈G\/x=s:=by
 unfold zU;by_cases h:s∈F
 .rw[decide_eq_true (mE.2 h),cond_true]
  exact .inl
 .rw[decide_eq_false (λhm=>h (mE.1 hm)),cond_false,jU,eB]
  exact id
theorem OJ{F G:List ak}{s x:ak}(hx:x∈G):x∈zU F G s:=by
 unfold zU;cases decide (s.text∈F.map ak.text)with
 |true=>exact hx
 |false=>exact List.mem_append_left _ hx
theorem Yv{F G:List ak}{s x:ak}(hx:x∈jv F s)(hn:x∉F):x∈zU F G s:=by
 unfold zU;unfold jv at hx;cases h:decide (s.text∈F.map ak.text)with
 |true=>rw[h]at hx;exact absurd hx hn
 |false=>
  rw[h,cond_false]at hx;rcases jU.1 hx with hx|hx
  .exact absurd hx hn
  .exact List.mem_append_right _ hx
theorem TK(F G:List ak)(s:ak)(d:Nat)(h:F.length=G.length+d):(jv F s).length=(zU F G s).length+d/\(jv F s).length<=F.length+1/\F.length<=(jv F s).length:=by
 unfold jv zU;cases decide (s.text∈F.map ak.text)with
 |true=>exact⟨h,by simp,by simp⟩
 |false=>simp only[cond_false,mU,rP];omega
theorem Inv.meet{C:au}{p:Int}{l F G X:List ak}(h:Inv C p l F G X){s:ak}(hs:aV C s)(hr:Reach C p l s):Inv C p l (jv F s) (zU F G s) X:=by
 refine⟨λx hx=>?_,λx hx=>?_,λx hx=>?_,λx hx hg hX hd y hy=>?_⟩
 .rcases g_.1 hx with hx|rfl
  .exact h.ok x hx
  .exact hs
 .rcases g_.1 hx with hx|rfl
  .exact h.reach x hx
  .exact hr
 .rcases Yu hx with hx|rfl
  .exact g_.2 (.inl (h.sub x hx))
  .exact g_.2 (.inr rfl)
 .have hxF:x∈F:=Classical.byContradiction λhn=>hg (Yv hx hn)
  exact g_.2 (.inl (h.closed x hxF (λhm=>hg (OJ hm)) hX hd y hy))
theorem yF{G:List ak}{s x:ak}:x∈G.filter (λy=>y.text !=s.text)↔x∈G/\x≠s:=by
 rw[List.mem_filter];constructor
 .rintro⟨h1,h2⟩
  exact⟨h1,λe=>by subst e;simp at h2⟩
 .rintro⟨h1,h2⟩
  exact⟨h1,by simpa usingλe=>h2 (Oy e)⟩
theorem Inv.take{C:au}{p:Int}{l F G:List ak}(h:Inv C p l F G [])(s:ak):Inv C p l F (G.filter (λy=>y.text !=s.text)) [s]:=by
 refine⟨h.ok,h.reach,λx hx=>h.sub x (yF.1 hx).1,λx hx hg hX hd y hy=>?_⟩;refine h.closed x hx (λhm=>hg (yF.2 ⟨hm,λe=>hX (by rw[e];simp)⟩)) (by simp) hd y hy
theorem Inv.done{C:au}{p:Int}{l F G:List ak}{s:ak}(h:Inv C p l F G [s])(hc:s.day<C.days->∀x∈C.hid s p,C.next s x∈F):Inv C p l F G []:=by
 refine⟨h.ok,h.reach,h.sub,λx hx hg _ hd y hy=>?_⟩;by_cases e:x=s
 .subst e;exact hc hd y hy
 .exact h.closed x hx hg (by simpa using e) hd y hy
theorem Inv.start(C:au)(p:Int)(l:List ak):Inv C p l [] [] []:=⟨by simp,by simp,by simp,by simp⟩
structure r_(C:au)(p:Int)(l r:List ak):Prop where
 sorted:(r.map ak.text).Pairwise (· < ·)
 few:r.length<=300
 ok:∀s∈r,aV C s
 reach:∀s∈r,Reach C p l s
 has:∀s∈l,s∈r
 closed:∀s∈r,s.day<C.days->∀x∈C.hid s p,C.next s x∈r
def zF(C:au)(p:Int)(l:List ak):Prop:=∃F:List ak,F.Nodup/\300<F.length/\∀s∈F,Reach C p l s
theorem bO.upd{S:Nat->Prop}{w w':World}{v:CV}{C:au}(h:bO w v C)(hu:aG S w w')(hS:∀k,S k->eY w k):bO w' v C:=by
 refine⟨h.aj.upd (by omega) hu hS,h.units.upd (by omega) hu hS,h.acts.upd (by omega) hu hS,?_,h.off.upd (by omega) hu hS⟩;obtain⟨ss,h1,h2,h3⟩:=h.clauses;exact⟨ss,h1,h2.upd (by omega) hu hS,λi k t hk ht=>(h3 i k t hk ht).upd (by omega) hu hS⟩
theorem iJ.upd{S:Nat->Prop}{w w':World}{v:SV}{l:List ak}(h:iJ w v l)(hu:aG S w w')(hS:∀k,S k->eY w k):iJ w' v l:=by
 obtain⟨ts,h1,h2,h3⟩:=h;exact⟨ts,h1,h2.upd (by omega) hu hS,λi s t hs ht=>(h3 i s t hs ht).upd hu hS⟩
theorem aG.fQ{S:Nat->Prop}{w w':World}(hu:aG S w w')(hS:∀k,S k->eY w k){p o:Nat}{u:Value}(h:w.cell? ⟨p,o,none⟩=some u):w'.cell? ⟨p,o,none⟩=some u:=by
 have hl:=World.block_lt_of_cell? w _ h;have hn:¬S p:=λhs=>by
  obtain⟨es,c,hb⟩:=hS p hs;simp[World.cell?,hb]at h
 exact(hu.cell hl hn).trans h
end
section
open Go.RowKit Go.Shelf Go.Sort Tryz
def aW(B:Nat)(w:World)(v:SV)(l:List ak):Prop:=
 Al B v/\∃ts:List TV,ts.length=l.length/\At w 4 v.A l.length v.c ((l.zip ts).flatMap (λp=>TV.cells p.2 p.1))/\∀(i:Nat)(s:ak)(t:TV),l[i]?=some s->ts[i]?=some t->aQ w t s/\lN B t
theorem aW.at{B:Nat}{w:World}{v:SV}{l:List ak}(h:aW B w v l):iJ w v l:=by
 obtain⟨_,ts,h1,h2,h3⟩:=h;exact⟨ts,h1,h2,λi s t hs ht=>(h3 i s t hs ht).1⟩
theorem aW.below{B:Nat}{w w':World}{v:SV}{l:List ak}(h:aW B w v l)(hb:Below w.heap.size w w'):aW B w' v l:=by
 obtain⟨h0,ts,h1,h2,h3⟩:=h;exact⟨h0,ts,h1,h2.below (by omega) hb,λi s t hs ht=>⟨(h3 i s t hs ht).1.below hb,(h3 i s t hs ht).2⟩⟩
theorem aW.mono{B B':Nat}{w:World}{v:SV}{l:List ak}(h:aW B w v l)(hB:B'<=B):aW B' w v l:=by
 obtain⟨h0,ts,h1,h2,h3⟩:=h;exact⟨h0.mono hB,ts,h1,h2,λi s t hs ht=>⟨(h3 i s t hs ht).1,(h3 i s t hs ht).2.mono hB⟩⟩
theorem aW.upd{S:Nat->Prop}{B:Nat}{w w':World}{v:SV}{l:List ak}(h:aW B w v l)(hu:aG S w w')(hS:∀k,S k->eY w k):aW B w' v l:=by
 obtain⟨h0,ts,h1,h2,h3⟩:=h;exact⟨h0,ts,h1,h2.upd (by omega) hu hS,λi s t hs ht=>⟨(h3 i s t hs ht).1.upd hu hS,(h3 i s t hs ht).2⟩⟩
theorem aW.kX{S:Nat->Prop}{B:Nat}{w w':World}{v:SV}{l:List ak}(h:aW B w v l)(hu:aG S w w')(hS:∀k,S k->k<B):aW B w' v l:=by
 obtain⟨h0,ts,h1,h2,h3⟩:=h;exact⟨h0,ts,h1,h2.kX (by omega) h0 hu hS,λi s t hs ht=>⟨(h3 i s t hs ht).1.kX (h3 i s t hs ht).2 hu hS,(h3 i s t hs ht).2⟩⟩
theorem aW.form{B:Nat}{w:World}{v:SV}{l:List ak}(h:aW B w v l)(hl:0<l.length):
 ∃b off,v.A=some ⟨b,off,none⟩/\b<w.heap.size/\∀(i:Nat)(s:ak),l[i]?=some s->∃t:TV,(aQ w t s/\lN B t)/\∀W,Below w.heap.size w W->∀j,j<4->W.cell? ⟨b,off+i*4+j,none⟩=(t.cells s)[j]?:=by
 obtain⟨_,ts,h1,h2,h3⟩:=h;obtain⟨b,off,hA,hb,hc⟩:=h2.1.form hl (by omega);refine⟨b,off,hA,hb,λi s hs=>?_⟩;have hi:i<l.length:=(bB.1 hs).1;have ht:ts[i]?=some (ts[i]'(by omega)):=aS _;refine⟨ts[i]'(by omega),h3 i s _ hs ht,λW hW j hj=>?_⟩;rw[hW.cell (p:=⟨b,off+i*4+j,none⟩) hb,iR,hc _ (by omega)];have hz:(l.zip ts)[i]?=some (s,ts[i]'(by omega)):=by rw[Kk];exact⟨hs,ht⟩
 exact bG (λp:ak×TV=>TV.cells p.2 p.1) 4 (λ_=>rfl) (l.zip ts) i j _ hz hj
def Yw(F:List ak)(w:World)(e:Ending)(w':World):Prop:=
 ∃(T:List (List UInt8))(A:Option Addr)(c:Nat),e= .returned (.slice A T.length c)/\At w' 1 A T.length c (T.map encStr)/\Below w.heap.size w w'/\T.Perm (F.map ak.text)/\T.Pairwise (·<=·)
theorem OL(b:Nat)(w:World):Calls prog 131 #[.map (some b)] w (λe w'=>e= .returned (.func (.func 156) #[] #[.pointer (some ⟨w.heap.size,0,none⟩)])/\w'=w.alloc (.cells #[.map (some b)] 142)):=
 fq.1 (Tryz.maps_Keys_it _ _)
theorem Ij{B:Nat}{w:World}{b:Nat}{F:List ak}(h:dJ B w b F)(hF:F.length<=1000000):
 Calls prog 130 #[.func (.func 156) #[] #[.pointer (some ⟨w.heap.size,0,none⟩)]] (w.alloc (.cells #[.map (some b)] 142)) (Yw F (w.alloc (.cells #[.map (some b)] 142))):=by
 obtain⟨D,hown,hsz,hperm⟩:=h.keys;refine(fq.1 (Tryz.slices_Sorted_keys_it b _ D R1 w hown (by rw[hsz];unfold maxLen;omega) (by rw[hsz];omega))).mono ?_;rintro e w' ⟨v,ss,rfl,hS,hrow,_,hb⟩;have hp:=List.mergeSort_perm ss (λx y=>decide (x<=y));rw[<-hp.length_eq]at hrow;obtain⟨A,c,rfl,hAt⟩:=kY hrow (by
  intro u hu;obtain⟨t,_,rfl⟩:=cZ.1 hu;rfl)
 refine⟨_,A,c,rfl,hAt,hb,hp.trans (hS.trans hperm),?_⟩;have h1:=List.pairwise_mergeSort (le:=λx y:List UInt8=>decide (x<=y)) (λa b c h h'=>by simpa using List.le_trans (by simpa using h) (by simpa using h')) (λa b=>by simpa using List.le_total a b) ss;exact h1.imp (λh=>by simpa using h)
theorem qY{F:List ak}(h:(F.map ak.text).Nodup):F.Nodup:=by
 unfold List.Nodup at h⊢;rw[List.pairwise_map]at h;exact h.imp (λhne e=>hne (by rw[e]))
theorem dJ.nodup{B:Nat}{w:World}{b:Nat}{F:List ak}(h:dJ B w b F):(F.map ak.text).Nodup:=by
 obtain⟨D,_,_,h3,_⟩:=h;exact h3
theorem strict{T:List (List UInt8)}(h:T.Pairwise (·<=·))(hn:T.Nodup):T.Pairwise (· < ·):=by
 unfold List.Nodup at hn;refine List.Pairwise.imp₂ ?_ h hn;intro a b h1 h2;rcases Decidable.em (a<b)with h3|h3
 .exact h3
 .exact absurd (List.le_antisymm h1 (List.not_lt.1 h3)) h2
def uX(s:ak)(w:World)(e:Ending)(w':World):Prop:=
 ∃(A1:Option Addr)(c1:Nat)(A2:Option Addr)(c2:Nat)(A3:Option Addr)(c3:Nat),e= .returned (.tuple #[.agg #[.int .i64 s.day,.slice A1 s.aj.length c1,.slice A2 s.used.length c2,.slice A3 s.marks.length c3],.int .i64 0])/\aQ w' ⟨⟨A1,c1⟩,⟨A2,c2⟩,⟨A3,c3⟩⟩ s/\lN w.heap.size ⟨⟨A1,c1⟩,⟨A2,c2⟩,⟨A3,c3⟩⟩/\Below w.heap.size w w'
theorem rH.ret{s:ak}{w:World}{e:Ending}{w':World}(h:rH 0 s w e w'):uX s w e w':=by
 obtain⟨hb,⟨_,t,rfl,hst,hnt⟩|⟨h0,_⟩⟩:=h
 .exact⟨t.h.A,t.h.c,t.u.A,t.u.c,t.m.A,t.m.c,rfl,hst,hnt,hb⟩
 .exact absurd rfl h0
theorem dJ.Yx{B:Nat}{w w':World}{b:Nat}{F:List ak}(h:dJ B w b F)(hb:Below w.heap.size w w'){s:ak}(hs:s∈F)(hl:s.text.length<=maxLen):
 ∃t:TV,(Instr.lookup 142 (.map (some b)) (.string ⟨s.text.toArray⟩) false).run prog w'= .ok (t.val s) w'/\aQ w t s/\lN B t:=by
 obtain⟨D,⟨es,clock,h1,r⟩,h2,h3,h4,h5⟩:=h;have hown:w'.ownsMap prog 9 R1 b (Maps.size D) D:=⟨es,clock,(hb.block b (aB h1)).trans h1,r⟩;obtain⟨t,ht,hst⟩:=h4 s hs;obtain⟨v,ps,hrun,hv⟩:=hown.lookup (t:=142) (e:=48) uW underlying142 (Yr w') (zd:=.held eF) (zp:=[]) rfl (Ic hl);have h6:=Md hv;rw[ht]at h6;injection h6 with h6
 subst h6;exact⟨t,hrun,hst⟩
theorem cells_one(l:List (ak×TV)):∀u∈l.flatMap (λp=>TV.cells p.2 p.1),u.oneCell'=true:=by
 intro u hu;obtain⟨p,_,hp⟩:=Br.1 hu;simp only[TV.cells,ak.cells,dx,iQ,or_false]at hp;rcases hp with rfl|rfl|rfl|rfl<;>rfl
theorem Vl{α:Type}{T:List α}(h:T.Nodup){i j:Nat}{t:α}(hi:T[i]?=some t)(hj:T[j]?=some t):i=j:=by
 rw[List.Nodup,Ea]at h;obtain⟨hi1,hi2⟩:=bB.1 hi;obtain⟨hj1,hj2⟩:=bB.1 hj;rcases Nat.lt_trichotomy i j with hlt|e|hlt
 .exact absurd (hi2.trans hj2.symm) (h i j hi1 hj1 hlt)
 .exact e
 .exact absurd (hj2.trans hi2.symm) (h j i hj1 hi1 hlt)
theorem Ro{G:List ak}{s:ak}(hn:(G.map ak.text).Nodup)(hs:s∈G):(G.filter (λx=>x.text !=s.text)).length+1=G.length:=by
 induction G with
 |nil=>cases hs
 |cons a G ih=>
  rw[kN,List.nodup_cons]at hn;by_cases e:a.text=s.text
  .have hrest:G.filter (λx=>x.text !=s.text)=G:=by
    apply List.filter_eq_self.2;intro x hx;have:x.text≠s.text:=λe'=>hn.1 (by rw[e,<-e'];exact cZ.2 ⟨x,hx,rfl⟩);simpa using this
   rw[List.filter_cons_of_neg (by simp[e]),hrest,gV]
  .have hm':s∈G:=by
    rcases dx.1 hs with rfl|hm
    .exact absurd rfl e
    .exact hm
   rw[List.filter_cons_of_pos (by simpa using e),gV,gV,ih hn.2 hm']
end
section
open Go.RowKit Go.Shelf Go.Sort Tryz
def Ck(B:Nat)(C:au)(p:Int)(l:List ak)(w:World)(e:Ending)(w':World):Prop:=
 Below w.heap.size w w'/\((∃(r:List ak)(A:Option Addr)(c:Nat),e= .returned (.tuple #[.slice A r.length c,.int .i64 0])/\aW B w' ⟨A,c⟩ r/\r_ C p l r)\/(e= .returned (.tuple #[.slice none 0 0,.int .i64 3])/\zF C p l))
theorem yG{B:Nat}(v:CV)(C:au)(p:Int)(sl:SV)(l:List ak)(w:World)(hC:bO w v C)(hL:aW B w sl l)(hBw:B<=w.heap.size)(hO:∀s∈l,aV C s)(hT:Tab w)(hl:l.length<=1000):
 Calls prog 81 #[v.val C,.int .i64 p,.slice sl.A l.length sl.c] w (Ck B C p l w):=by
 obtain⟨⟨dV,dW⟩,⟨dX,dY⟩,⟨fB,dH⟩,⟨eZ,dM⟩,⟨dQ,dR⟩⟩:=v;obtain⟨slA,slc⟩:=sl;have HC:=ah hC;clear hC;have HL:=ah hL;clear hL;have HO:=ah hO;clear hO;have HT:=ah hT;clear hT;simp only[CV.val,CV.cells];have hmm:=@run_makeMap prog;go_enter func81,ntmps81;go_wp2;go_step3;go_upto_region 2 with(fail)
 obtain⟨Wm,HWm⟩:∃Wm,Hid (Wm=((((w.alloc (.cells #[.int .i64 C.aF,.slice dV C.aj.length dW,.slice dX C.units.length dY,.slice fB C.acts.length dH,.slice eZ C.clauses.length dM,.int .i64 C.days,.slice dQ C.off.length dR] 27)).alloc (.map #[] 0)).alloc (.map #[] 0)).alloc (.cells #[.map (some (w.heap.size+1))] 142)).alloc (.cells #[.map (some (w.heap.size+1+1))] 142)):=⟨_,rfl⟩;rw[<-HWm.out];obtain⟨cg,hcg⟩:∃cg,cg=w.heap.size+1+1+1+1:=⟨_,rfl⟩;obtain⟨cf,hcf⟩:∃cf,cf=w.heap.size+1+1+1:=⟨_,rfl⟩;obtain⟨bg,hbg⟩:∃bg,bg=w.heap.size+1+1:=⟨_,rfl⟩;obtain⟨bf,hbf⟩:∃bf,bf=w.heap.size+1:=⟨_,rfl⟩;rw[<-hcg,<-hcf,<-hbg,<-hbf];rw[<-hbg,<-hbf]at HWm;have HBm:Hid (Below w.heap.size w Wm):=by
  show Below _ _ _;rw[HWm.out];exact aJ (aJ (aJ (aJ (aJ (aC _ _) _) _) _) _) _
 have hfm:dJ B Wm bf []:=by
  have h:=dJ.made B (w.alloc (.cells #[.int .i64 C.aF,.slice dV C.aj.length dW,.slice dX C.units.length dY,.slice fB C.acts.length dH,.slice eZ C.clauses.length dM,.int .i64 C.days,.slice dQ C.off.length dR] 27));rw[aT,<-hbf]at h;rw[HWm.out];exact h.below (aJ (aJ (aJ (aC _ _) _) _) _)
 have hgm:dJ B Wm bg []:=by
  have h:=dJ.made B ((w.alloc (.cells #[.int .i64 C.aF,.slice dV C.aj.length dW,.slice dX C.units.length dY,.slice fB C.acts.length dH,.slice eZ C.clauses.length dM,.int .i64 C.days,.slice dQ C.off.length dR] 27)).alloc (.map #[] 0));rw[aT,aT,<-hbg]at h;rw[HWm.out];exact h.below (aJ (aJ (aC _ _) _) _)
 have hfc:Wm.cell? ⟨cf,0,none⟩=some (.map (some bf)):=by
  have h:Wm.heap[cf]?=some (.cells #[.map (some bf)] 142 (0,0)):=by
   rw[HWm.out];refine(Below.heap_alloc _ _ _ (by simp;omega)).trans ?_;have h:=bK (((w.alloc (.cells #[.int .i64 C.aF,.slice dV C.aj.length dW,.slice dX C.units.length dY,.slice fB C.acts.length dH,.slice eZ C.clauses.length dM,.int .i64 C.days,.slice dQ C.off.length dR] 27)).alloc (.map #[] 0)).alloc (.map #[] 0)) (.cells #[.map (some bf)] 142);rw[aT,aT,aT,<-hcf]at h;exact h
  exact(aK Wm _ 0 _ _ _ h).trans rfl
 have hgc:Wm.cell? ⟨cg,0,none⟩=some (.map (some bg)):=by
  have h:Wm.heap[cg]?=some (.cells #[.map (some bg)] 142 (0,0)):=by
   rw[HWm.out];have h:=bK ((((w.alloc (.cells #[.int .i64 C.aF,.slice dV C.aj.length dW,.slice dX C.units.length dY,.slice fB C.acts.length dH,.slice eZ C.clauses.length dM,.int .i64 C.days,.slice dQ C.off.length dR] 27)).alloc (.map #[] 0)).alloc (.map #[] 0)).alloc (.cells #[.map (some bf)] 142)) (.cells #[.map (some bg)] 142);rw[aT,aT,aT,aT,<-hcg]at h;exact h
  exact(aK Wm _ 0 _ _ _ h).trans rfl
 have hcb:Wm.heap[w.heap.size]?=some (.cells #[.int .i64 C.aF,.slice dV C.aj.length dW,.slice dX C.units.length dY,.slice fB C.acts.length dH,.slice eZ C.clauses.length dM,.int .i64 C.days,.slice dQ C.off.length dR] 27 (0,0)):=by
  rw[HWm.out];refine(Below.heap_alloc _ _ _ (by simp;omega)).trans ((Below.heap_alloc _ _ _ (by simp;omega)).trans ((Below.heap_alloc _ _ _ (by simp;omega)).trans ((Below.heap_alloc _ _ _ (by simp)).trans ?_)));exact bK w _
 have hc0:Wm.cell? ⟨w.heap.size,0,none⟩=some (.int .i64 C.aF):=(aK Wm _ 0 _ _ _ hcb).trans rfl;have hc1:Wm.cell? ⟨w.heap.size,1,none⟩=some (.slice dV C.aj.length dW):=(aK Wm _ 1 _ _ _ hcb).trans rfl;have hc2:Wm.cell? ⟨w.heap.size,2,none⟩=some (.slice dX C.units.length dY):=(aK Wm _ 2 _ _ _ hcb).trans rfl;have hc3:Wm.cell? ⟨w.heap.size,3,none⟩=some (.slice fB C.acts.length dH):=(aK Wm _ 3 _ _ _ hcb).trans rfl;have hc4:Wm.cell? ⟨w.heap.size,4,none⟩=some (.slice eZ C.clauses.length dM):=(aK Wm _ 4 _ _ _ hcb).trans rfl;have hc5:Wm.cell? ⟨w.heap.size,5,none⟩=some (.int .i64 C.days):=(aK Wm _ 5 _ _ _ hcb).trans rfl;have hc6:Wm.cell? ⟨w.heap.size,6,none⟩=some (.slice dQ C.off.length dR):=(aK Wm _ 6 _ _ _ hcb).trans rfl;have hne:bf≠bg:=by omega
 have apm:w.heap.size<=bf:=by omega
 have apn:w.heap.size<=bg:=by omega
 have uY:Hid (∀k,(k=bf\/k=bg)->eY Wm k):=λk hk=>by
  rcases hk with rfl|rfl
  .exact hfm.blk
  .exact hgm.blk
 have HFC:=ah hfc;clear hfc;have HGC:=ah hgc;clear hgc;have WA:=ah hc0;clear hc0;have zm:=ah hc1;clear hc1;have Jo:=ah hc2;clear hc2;have HC3:=ah hc3;clear hc3;have HC4:=ah hc4;clear hc4;have HC5:=ah hc5;clear hc5;have HC6:=ah hc6;clear hc6;have HFM:=ah hfm;clear hfm;have HGM:=ah hgm;clear hgm;have HCM:Hid (bO Wm (⟨⟨dV,dW⟩,⟨dX,dY⟩,⟨fB,dH⟩,⟨eZ,dM⟩,⟨dQ,dR⟩⟩:CV) C):=HC.out.below HBm.out;have HLM:Hid (aW B Wm ⟨slA,slc⟩ l):=HL.out.below HBm.out;have TJ:Hid (Tab Wm):=HT.out.below HBm.out;have vE:Hid (∀x,aG (λk=>k=bf\/k=bg) Wm x->Below w.heap.size w x):=λx hx=>HBm.out.trans (hx.below HBm.out.size (λk hk=>by omega));clear hcb hbf hbg hcf hcg HWm hmm;go_wp2
 go_loopw [29] (λi wr=>∃(k:Nat)(F:List ak),k<=l.length/\i= .int .i64 k/\Hid (aG (λk=>k=bf\/k=bg) Wm wr)/\Hid (dJ B wr bf F)/\Hid (dJ B wr bg F)/\Hid (Inv C p l F F []/\F.length<=k/\∀s∈l.take k,s∈F)) (λi _=>l.length - (intOf i).toNat)
 case atStart=>exact⟨0,[],aU _,rfl,aG.refl _ _,HFM,HGM,Inv.start C p l,bJ _,by simp⟩
 case round=>
  obtain⟨k,F,hk,rfl,HU,HF,HG,HI⟩:=hrel;by_cases hlt:k<l.length
  .obtain⟨s,hs⟩:∃s,l[k]?=some s:=⟨_,aS hlt⟩
   have hsl:=cK hs;have hsO:=HO.out s hsl;obtain⟨lb,agH,hA,hlb,hst⟩:=(HLM.out.upd HU.out uY.out).form (by omega);simp only at hA;subst hA;obtain⟨⟨⟨eu,dN⟩,⟨eH,dL⟩,⟨fF,bY⟩⟩,⟨yH,hnt⟩,hcell⟩:=hst k s hs;have Ih:=ah hnt;clear hnt;have hcl:=hcell wr (aC _ _);obtain⟨c0,c1,c2,c3⟩:=rw4 hcl rfl;have uZ:=ah hsO;clear hsO;have HST:=ah yH;clear yH hst hcell hcl;have HTK:Hid (l.take (k+1)=l.take k++[s]):=take_snoc' hs;have HSL:=ah hsl;clear hsl hs;have k0:(0:Int)<=(k:Int):=by omega
   have k1:(k:Int)<(l.length:Int):=by omega
   go_upto_region 6 with(fail)
   obtain⟨Wa,ow⟩:∃Wa,Hid (Wa=wr.alloc (.cells #[.int .i64 s.day,.slice eu s.aj.length dN,.slice eH s.used.length dL,.slice fF s.marks.length bY] 48)):=⟨_,rfl⟩;rw[<-ow.out];have hba:Below wr.heap.size wr Wa:=by rw[ow.out];exact aJ (aC _ _) _
   have hax:Wa.heap[wr.heap.size]?=some (.cells #[.int .i64 s.day,.slice eu s.aj.length dN,.slice eH s.used.length dL,.slice fF s.marks.length bY] 48 (0,0)):=by rw[ow.out];exact bK wr _
   have d0:Wa.cell? ⟨wr.heap.size,0,none⟩=some (.int .i64 s.day):=(aK Wa _ 0 _ _ _ hax).trans rfl;have d1:Wa.cell? ⟨wr.heap.size,1,none⟩=some (.slice eu s.aj.length dN):=(aK Wa _ 1 _ _ _ hax).trans rfl;have d2:Wa.cell? ⟨wr.heap.size,2,none⟩=some (.slice eH s.used.length dL):=(aK Wa _ 2 _ _ _ hax).trans rfl;have d3:Wa.cell? ⟨wr.heap.size,3,none⟩=some (.slice fF s.marks.length bY):=(aK Wa _ 3 _ _ _ hax).trans rfl;have Ht:Hid (aG (λk=>k=bf\/k=bg) Wm Wa):=HU.out.on hba;have HFl:=HI.out.2.1;have HM:Hid (Calls prog 129 #[.agg #[.int .i64 s.day,.slice eu s.aj.length dN,.slice eH s.used.length dL,.slice fF s.marks.length bY],.pointer (some ⟨cf,0,none⟩),.pointer (some ⟨cg,0,none⟩)] Wa (Ig B bf bg F F s Wa)):=
    OH ⟨⟨eu,dN⟩,⟨eH,dL⟩,⟨fF,bY⟩⟩ s cf cg bf bg F F Wa (HST.out.below hba) Ih.out uZ.out.ranged (TJ.out.upd Ht.out uY.out) (HF.out.below hba) (HG.out.below hba) (Ht.out.fQ uY.out HFC.out) (Ht.out.fQ uY.out HGC.out) hne (by omega) (by omega) (λh=>h)
   clear c0 c1 c2 c3 hax hba;go_wp2_with (go_at_call 129;refine HM.out.mono ?_;rintro e z ⟨rfl,h1,h2,h3⟩;refine Hid.out ?_);refine ah ?_;have Me:Hid (aG (λk=>k=bf\/k=bg) Wm z):=Ht.out.trans h1 (λ_ _ h=>h);have HFz:=ah h2;have HGz:Hid (dJ B z bg (jv F s)):=h3;have HIz:Hid (Inv C p l (jv F s) (jv F s) []/\(jv F s).length<=k+1/\∀x∈l.take (k+1),x∈jv F s):=by
    refine⟨HI.out.1.meet uZ.out (.base HSL.out),?_,λx hx=>?_⟩
    .have:=(TK F F s 0 (by omega)).2.1;omega
    .rw[HTK.out]at hx
     rcases jU.1 hx with hx|hx
     .exact g_.2 (.inl (HI.out.2.2 x hx))
     .rw[eB]at hx;exact g_.2 (.inr hx)
   clear h1 h2 h3;go_wp2
   go_roundw
   case rel=>exact⟨k+1,jv F s,by omega,by go_num,Me,HFz,HGz,HIz⟩
   case measure=>simp[intOf];omega
  .obtain rfl:k=l.length:=by omega
   go_wp2;go_step3;go_wp2;have HI0:Hid (Inv C p l F F []/\∀s∈l,s∈F):=⟨HI.out.1,λs hs=>HI.out.2.2 s (by rw[iG];exact hs)⟩;have hF0:=HI.out.2.1
   go_loopg [13] (l.length+401) (λgk v13 w2=>∃(F G:List ak)(d:Nat),gk=l.length+401 - d/\v13= .int .i64 0/\Hid (F.length=G.length+d)/\F.length<=l.length+400/\Hid (aG (λk=>k=bf\/k=bg) Wm w2)/\Hid (dJ B w2 bf F)/\Hid (dJ B w2 bg G)/\Hid (Inv C p l F G []/\∀s∈l,s∈F))
   case atStart=>exact⟨F,F,0,rfl,rfl,rfl,by omega,HU,HF,HG,HI0⟩
   case round=>
    clear HU HF HG HI HI0 hF0 F;obtain⟨F,G,d,eO,rfl,WI,Yt,HU,HF,HG,HI⟩:=hrel;have iw:=ah eO;clear eO;have yf:=HU.out.fQ uY.out HFC.out;have yg:=HU.out.fQ uY.out HGC.out;have hlg:∀ty,(Builtin.len_ #[142] ty #[.map (some bg)]).run prog wr= .ok (.int .i64 (G.length:Nat)) wr:=λty=>HG.out.len ty;by_cases hg0:0<G.length
    .have hGl:G.length<=2000:=by have:=WI.out;omega
     have Yy:=ah (OL bg wr);have uZ:=ah (Ij HG.out (by omega));go_wp2_with (first|(go_at_call 131;refine Yy.out.mono ?_;rintro e z0 ⟨rfl,rfl⟩)|(go_at_call 130;refine uZ.out.mono ?_;rintro e Z3 ⟨T,TA,tc,rfl,hAt,hb,hperm,hsort⟩;refine Hid.out ?_));refine ah ?_;have hb0:Below wr.heap.size wr Z3:=av (aJ (aC _ _) _) hb;have yI:Hid (aG (λk=>k=bf\/k=bg) Wm Z3):=HU.out.on hb0;have HF3:=ah (HF.out.below hb0);have Q_:=ah (HG.out.below hb0);have TL:Hid (T.length=G.length):=by show _=_;rw[hperm.length_eq,dU]
     have HND:Hid T.Nodup:=hperm.nodup_iff.2 HG.out.nodup;have HRM:Hid (∀(i:Nat)(t:List UInt8),0<=i->T[i]?=some t->∃s∈G,s.text=t):=λi t _ ht=>by
      have:=hperm.mem_iff.1 (cK ht);exact cZ.1 this
     have ht0:0<T.length:=by rw[TL.out];exact hg0
     have htl:T.length<=2000:=by rw[TL.out];exact hGl
     obtain⟨tb,Mg,hTA,htb,htc⟩:=hAt.1.form ht0 (by omega);subst hTA;have HAT:=ah hAt;have akw:Hid (∀k,(k=bf\/k=bg)->eY Z3 k):=λk hk=>by
      rcases hk with rfl|rfl
      .exact HF3.out.blk
      .exact Q_.out.blk
     clear hAt hb hperm hsort hb0 htb htc Yy uZ yf yg hlg HU HF HG;go_wp2
     go_loopg [44,13] T.length (λg3 v44 v13 w3=>∃(j:Nat)(F G:List ak),g3=T.length - j/\j<=T.length/\v44= .int .i64 j/\v13= .int .i64 0/\Hid (F.length=G.length+(d+j))/\F.length<=l.length+400/\Hid (aG (λk=>k=bf\/k=bg) Wm w3)/\Hid (dJ B w3 bf F)/\Hid (dJ B w3 bg G)/\Hid (Inv C p l F G []/\∀s∈l,s∈F)/\Hid (∀(i:Nat)(t:List UInt8),j<=i->T[i]?=some t->∃s∈G,s.text=t)/\Hid (aG (λk=>k=bf\/k=bg) Z3 w3))
     case atStart=>exact⟨0,F,G,rfl,aU _,rfl,rfl,WI,Yt,yI,HF3,Q_,HI,HRM,aG.refl _ _⟩
     case round=>
      clear HI HRM WI Yt yI HF3 Q_ hg0 hGl F TL;obtain⟨j,F,G,hg3,hj,rfl,rfl,WI,Yt,HU,HF,HG,HI,HRM,Qk⟩:=hrel;have Q_:=ah hg3;clear hg3;by_cases hlt:j<T.length
      .obtain⟨tx,htx⟩:∃tx,T[j]?=some tx:=⟨_,aS hlt⟩
       obtain⟨s,hsG,hst⟩:=HRM.out j tx (bJ _) htx;subst hst;have hcT:=(HAT.out.upd (by omega) Qk.out akw.out).1;obtain⟨tb',am2,agK,_,agL⟩:=hcT.form ht0 (by omega);simp only[Option.some.injEq,Addr.mk.injEq,and_true]at agK;obtain⟨rfl,rfl⟩:=agK;have ct:wr.cell? ⟨tb,Mg+j,none⟩=some (.string ⟨s.text.toArray⟩):=by
        rw[agL j (by omega),gK,htx];rfl
       have hsO:aV C s:=HI.out.1.ok s (HI.out.1.sub s hsG);have htm:=yD hsO.ranged;have WJ:=HI.out.1.sub s hsG;have Mh:=ah hsG;clear hsG;have TM:=ah WJ;clear WJ;have uZ:=ah hsO;clear hsO;have J2:=ah htx;clear htx;have agM:=ah htm;clear htm;have yf:=HU.out.fQ uY.out HFC.out;have yg:=HU.out.fQ uY.out HGC.out;have hlf:∀ty,(Builtin.len_ #[142] ty #[.map (some bf)]).run prog wr= .ok (.int .i64 (F.length:Nat)) wr:=λty=>HF.out.len ty;have j0:(0:Int)<=(j:Int):=by omega
       have j1:(j:Int)<(T.length:Int):=by omega
       clear hcT agL;by_cases aaQ:300<F.length
       .go_wp2
        rw[Exit.noGoto_ret]
        go_ret2
        exact⟨vE.out _ HU.out,.inr ⟨rfl,F,qY HF.out.nodup,aaQ,HI.out.1.reach⟩⟩
       .obtain⟨⟨⟨eu,dN⟩,⟨eH,dL⟩,⟨fF,bY⟩⟩,hrun,OM,_⟩:=HG.out.look Mh.out agM.out
        simp only[TV.val,TV.cells,ak.cells]at hrun;have HST:=ah OM;clear OM;go_upto_region 16 with(fail)
        obtain⟨Wa,ow⟩:∃Wa,Hid (Wa=wr.alloc (.cells #[.int .i64 s.day,.slice eu s.aj.length dN,.slice eH s.used.length dL,.slice fF s.marks.length bY] 48)):=⟨_,rfl⟩;rw[<-ow.out];have hba:Below wr.heap.size wr Wa:=by rw[ow.out];exact aJ (aC _ _) _
        have hax:Wa.heap[wr.heap.size]?=some (.cells #[.int .i64 s.day,.slice eu s.aj.length dN,.slice eH s.used.length dL,.slice fF s.marks.length bY] 48 (0,0)):=by rw[ow.out];exact bK wr _
        have d0:Wa.cell? ⟨wr.heap.size,0,none⟩=some (.int .i64 s.day):=(aK Wa _ 0 _ _ _ hax).trans rfl;have d1:Wa.cell? ⟨wr.heap.size,1,none⟩=some (.slice eu s.aj.length dN):=(aK Wa _ 1 _ _ _ hax).trans rfl;have d2:Wa.cell? ⟨wr.heap.size,2,none⟩=some (.slice eH s.used.length dL):=(aK Wa _ 2 _ _ _ hax).trans rfl;have d3:Wa.cell? ⟨wr.heap.size,3,none⟩=some (.slice fF s.marks.length bY):=(aK Wa _ 3 _ _ _ hax).trans rfl;have yga:=(((HU.out.on hba).fQ uY.out HGC.out):Wa.cell? ⟨cg,0,none⟩=_);obtain⟨Wd,hdel,hSd,hUd⟩:=(HG.out.below hba).del Mh.out agM.out 0;have WK:Hid (aG (λk=>k=bf\/k=bg) Wm Wd):=(HU.out.on hba).trans hUd (λ_ _ h=>.inr h);have adE:Hid (aG (λk=>k=bf\/k=bg) Z3 Wd):=(Qk.out.on hba).trans hUd (λ_ _ h=>.inr h);have Rp:∀k,k=bg->eY Wa k:=λk hk=>by rw[hk];exact(HG.out.below hba).blk
        have HFd:Hid (dJ B Wd bf F):=(HF.out.below hba).upd hUd (λe=>hne e) Rp;have HGd:=ah hSd;clear hSd;have adF:Hid (aQ Wd ⟨⟨eu,dN⟩,⟨eH,dL⟩,⟨fF,bY⟩⟩ s):=(HST.out.below hba).upd hUd Rp;have e0:=hUd.fQ Rp d0;have e1:=hUd.fQ Rp d1;have e2:=hUd.fQ Rp d2;have e3:=hUd.fQ Rp d3;obtain⟨sb,hsb⟩:∃sb,sb=wr.heap.size:=⟨_,rfl⟩;rw[<-hsb]at e0 e1 e2 e3⊢;have f5:=WK.out.fQ uY.out HC5.out;have HRd:Hid (∀(i:Nat)(t:List UInt8),j+1<=i->T[i]?=some t->∃x∈G.filter (λx=>x.text !=s.text),x.text=t):=λi t hi ht=>by
         obtain⟨x,hx,hxt⟩:=HRM.out i t (by omega) ht;refine⟨x,yF.2 ⟨hx,λe=>?_⟩,hxt⟩;subst e;have h1:=J2.out;rw[hxt]at h1;have:=Vl HND.out h1 ht;omega
        have HId:Hid (Inv C p l F (G.filter (λx=>x.text !=s.text)) [s]/\∀x∈l,x∈F):=⟨HI.out.1.take s,HI.out.2⟩;have aaS:Hid (F.length=(G.filter (λx=>x.text !=s.text)).length+(d+(j+1))):=by
         have h1:=Ro HG.out.nodup Mh.out;have h2:=WI.out;show _=_;omega
        generalize G.filter (λx=>x.text !=s.text)=G1 at HGd HRd HId aaS;clear hax d0 d1 d2 d3 hrun hba yf yg hlf ct HU HF HG HI HRM Qk WI HST hsb ow hUd Rp;by_cases hd:C.days<=s.day
        .go_wp2
         go_roundg (T.length - (j+1))
         case measure=>rw[Q_.out];omega
         case rel=>exact⟨j+1,F,G1,rfl,by omega,by go_num,rfl,aaS,Yt,WK,HFd,HGd,⟨HId.out.1.done (λh=>by omega),HId.out.2⟩,HRd,adE⟩
        .have hd2:s.day<C.days:=by omega
         clear f5;have f0:=WK.out.fQ uY.out WA.out;have f1:=WK.out.fQ uY.out zm.out;have f2:=WK.out.fQ uY.out Jo.out;have f3:=WK.out.fQ uY.out HC3.out;have f4:=WK.out.fQ uY.out HC4.out;have f5:=WK.out.fQ uY.out HC5.out;have f6:=WK.out.fQ uY.out HC6.out;have HHD:Hid (Calls prog 132 #[.agg #[.int .i64 C.aF,.slice dV C.aj.length dW,.slice dX C.units.length dY,.slice fB C.acts.length dH,.slice eZ C.clauses.length dM,.int .i64 C.days,.slice dQ C.off.length dR],.agg #[.int .i64 s.day,.slice eu s.aj.length dN,.slice eH s.used.length dL,.slice fF s.marks.length bY],.int .i64 p] Wd (OG (C.hid s p) Wd)):=Rm (⟨⟨dV,dW⟩,⟨dX,dY⟩,⟨fB,dH⟩,⟨eZ,dM⟩,⟨dQ,dR⟩⟩:CV) C ⟨⟨eu,dN⟩,⟨eH,dL⟩,⟨fF,bY⟩⟩ s p Wd (HCM.out.upd WK.out uY.out) adF.out uZ.out;have HHM:Hid (∀x∈C.hid s p,aV C (C.next s x)/\C.dP s x=0/\Reach C p l (C.next s x)):=λx hx=>⟨(OI uZ.out hd2 hx).1,(OI uZ.out hd2 hx).2,.step (HId.out.1.reach s TM.out) hd2 hx⟩;have hHl:(C.hid s p).length<=60:=bI (KN C s p _) (au.ok uZ.out.con).Ey;generalize hH:C.hid s p=H at HHD HHM hHl;have HHE:=ah hH;clear hH;go_wp2_with (go_at_call 132;refine HHD.out.mono ?_;rintro e Z1 ⟨HA,hc,rfl,hAt,hb⟩;refine Hid.out ?_);refine ah ?_;have zQ:Hid (aG (λk=>k=bf\/k=bg) Wm Z1):=WK.out.on hb;have akz:Hid (aG (λk=>k=bf\/k=bg) Z3 Z1):=adE.out.on hb;have Jr:=ah (HFd.out.below hb);have HG1:=ah (HGd.out.below hb);have aaT:=ah (adF.out.below hb);have lsb:=World.block_lt_of_cell? Wd _ e0;simp only at lsb;have E0:=ah (((aL hb).1 _ _ lsb).trans e0);have E1:=ah (((aL hb).1 _ _ lsb).trans e1);have E2:=ah (((aL hb).1 _ _ lsb).trans e2);have E3:=ah (((aL hb).1 _ _ lsb).trans e3);have akB:=ah hAt;clear hAt;have Vm:Hid (∀k,(k=bf\/k=bg)->eY Z1 k):=λk hk=>by
          rcases hk with rfl|rfl
          .exact Jr.out.blk
          .exact HG1.out.blk
         clear hb lsb e0 e1 e2 e3 f0 f1 f2 f3 f4 f5 f6 WK adE HFd HGd adF HHD yga hdel;go_wp2
         go_loopg [66] H.length (λg4 v66 w4=>∃(i:Nat)(F G:List ak),g4=H.length - i/\i<=H.length/\v66= .int .i64 i/\Hid (F.length=G.length+(d+(j+1)))/\F.length<=300+i/\Hid (aG (λk=>k=bf\/k=bg) Wm w4)/\Hid (dJ B w4 bf F)/\Hid (dJ B w4 bg G)/\Hid (Inv C p l F G [s]/\∀x∈l,x∈F)/\Hid (∀(i:Nat)(t:List UInt8),j+1<=i->T[i]?=some t->∃x∈G,x.text=t)/\Hid (aG (λk=>k=bf\/k=bg) Z1 w4)/\Hid (∀(q:Nat)(x:Int),q<i->H[q]?=some x->C.next s x∈F))
         case atStart=>exact⟨0,F,G1,rfl,aU _,rfl,aaS,by omega,zQ,Jr,HG1,HId,HRd,aG.refl _ _,λq x hq=>by omega⟩
         case round=>
          clear aaS zQ Jr HG1 HId HRd aaQ Yt Mh TM G1;obtain⟨i,F,G,hg4,hi,rfl,WI,Yt,HU,HF,HG,HI,HRM,Qk,vC⟩:=hrel;have HG4:=ah hg4;clear hg4;by_cases akC:i<H.length
          .obtain⟨x,hx⟩:∃x,H[i]?=some x:=⟨_,aS akC⟩
           obtain⟨hxo,hxe,TD⟩:=HHM.out x (cK hx);obtain⟨hb4,agN,hA4,_,hc4⟩:=(akB.out.upd (by omega) Qk.out Vm.out).1.form (by omega) (by omega);subst hA4;have cx:wr.cell? ⟨hb4,agN+i,none⟩=some (.int .i64 x):=by rw[hc4 i (by omega)];simp[aZ,hx]
           have HX:=ah hx;clear hx hc4;have ZM:=ah hxo;clear hxo;have HXE:=ah hxe;clear hxe;have WG:=ah TD;clear TD;have f0:=HU.out.fQ uY.out WA.out;have f1:=HU.out.fQ uY.out zm.out;have f2:=HU.out.fQ uY.out Jo.out;have f3:=HU.out.fQ uY.out HC3.out;have f4:=HU.out.fQ uY.out HC4.out;have f5:=HU.out.fQ uY.out HC5.out;have f6:=HU.out.fQ uY.out HC6.out;have e0:=Qk.out.fQ Vm.out E0.out;have e1:=Qk.out.fQ Vm.out E1.out;have e2:=Qk.out.fQ Vm.out E2.out;have e3:=Qk.out.fQ Vm.out E3.out;have agO:Hid (aQ wr ⟨⟨eu,dN⟩,⟨eH,dL⟩,⟨fF,bY⟩⟩ s):=aaT.out.upd Qk.out Vm.out;have KQ:Hid (Calls prog 39 #[.agg #[.int .i64 C.aF,.slice dV C.aj.length dW,.slice dX C.units.length dY,.slice fB C.acts.length dH,.slice eZ C.clauses.length dM,.int .i64 C.days,.slice dQ C.off.length dR],.agg #[.int .i64 s.day,.slice eu s.aj.length dN,.slice eH s.used.length dL,.slice fF s.marks.length bY],.int .i64 x] wr (rH (C.dP s x) (C.next s x) wr)):=uV (⟨⟨dV,dW⟩,⟨dX,dY⟩,⟨fB,dH⟩,⟨eZ,dM⟩,⟨dQ,dR⟩⟩:CV) C ⟨⟨eu,dN⟩,⟨eH,dL⟩,⟨fF,bY⟩⟩ s x wr (HCM.out.upd HU.out uY.out) agO.out;rw[HXE.out]at KQ;have JZ:Hid (∀F':List ak,(∀y∈F,y∈F')->C.next s x∈F'->∀(q:Nat)(y:Int),q<i+1->H[q]?=some y->C.next s y∈F'):=λF' hsub hin q y hq hy=>by
            by_cases e:q=i
            .subst e
             rw[HX.out]at hy;injection hy with hy
             rw[<-hy];exact hin
            .exact hsub _ (vC.out q y (by omega) hy)
           generalize C.next s x=s2 at KQ ZM WG JZ;have Vn:Hid (Calls prog 39 #[.agg #[.int .i64 C.aF,.slice dV C.aj.length dW,.slice dX C.units.length dY,.slice fB C.acts.length dH,.slice eZ C.clauses.length dM,.int .i64 C.days,.slice dQ C.off.length dR],.agg #[.int .i64 s.day,.slice eu s.aj.length dN,.slice eH s.used.length dL,.slice fF s.marks.length bY],.int .i64 x] wr (uX s2 wr)):=KQ.out.mono (λ_ _ h=>h.ret);have i0:(0:Int)<=(i:Int):=by omega
           have i1:(i:Int)<(H.length:Int):=by omega
           go_upto_region 21 with(fail)
           go_wp2_with (go_at_call 39;refine Vn.out.mono ?_;rintro e zs ⟨Mi,Mj,Mk,Ml,Mq,Mr,rfl,yJ,yK,hbs⟩;refine Hid.out ?_);refine ah ?_;have HUs:Hid (aG (λk=>k=bf\/k=bg) Wm zs):=HU.out.on hbs;have akD:Hid (aG (λk=>k=bf\/k=bg) Z1 zs):=Qk.out.on hbs;have HFs:=ah (HF.out.below hbs);have HGs:=ah (HG.out.below hbs);have HS2:=ah yJ;clear yJ;have akE:=ah (yK.mono (bI hBw (vE.out _ HU.out).size));clear yK;clear hbs f0 f1 f2 f3 f4 f5 f6 e0 e1 e2 e3 cx KQ Vn agO;go_upto_region 22 with(fail)
           obtain⟨Wb,yC⟩:∃Wb,Hid (Wb=zs.alloc (.cells #[.int .i64 s2.day,.slice Mi s2.aj.length Mj,.slice Mk s2.used.length Ml,.slice Mq s2.marks.length Mr] 48)):=⟨_,rfl⟩;rw[<-yC.out];have hbb:Below zs.heap.size zs Wb:=by rw[yC.out];exact aJ (aC _ _) _
           have hbx:Wb.heap[zs.heap.size]?=some (.cells #[.int .i64 s2.day,.slice Mi s2.aj.length Mj,.slice Mk s2.used.length Ml,.slice Mq s2.marks.length Mr] 48 (0,0)):=by rw[yC.out];exact bK zs _
           have d0:Wb.cell? ⟨zs.heap.size,0,none⟩=some (.int .i64 s2.day):=(aK Wb _ 0 _ _ _ hbx).trans rfl;have d1:Wb.cell? ⟨zs.heap.size,1,none⟩=some (.slice Mi s2.aj.length Mj):=(aK Wb _ 1 _ _ _ hbx).trans rfl;have d2:Wb.cell? ⟨zs.heap.size,2,none⟩=some (.slice Mk s2.used.length Ml):=(aK Wb _ 2 _ _ _ hbx).trans rfl;have d3:Wb.cell? ⟨zs.heap.size,3,none⟩=some (.slice Mq s2.marks.length Mr):=(aK Wb _ 3 _ _ _ hbx).trans rfl;have HUb:Hid (aG (λk=>k=bf\/k=bg) Wm Wb):=HUs.out.on hbb;have akF:F.length<1000000:=by omega
           have akG:G.length<1000000:=by have:=WI.out;omega
           have HM:Hid (Calls prog 129 #[.agg #[.int .i64 s2.day,.slice Mi s2.aj.length Mj,.slice Mk s2.used.length Ml,.slice Mq s2.marks.length Mr],.pointer (some ⟨cf,0,none⟩),.pointer (some ⟨cg,0,none⟩)] Wb (Ig B bf bg F G s2 Wb)):=
            OH ⟨⟨Mi,Mj⟩,⟨Mk,Ml⟩,⟨Mq,Mr⟩⟩ s2 cf cg bf bg F G Wb (HS2.out.below hbb) akE.out ZM.out.ranged (TJ.out.upd HUb.out uY.out) (HFs.out.below hbb) (HGs.out.below hbb) (HUb.out.fQ uY.out HFC.out) (HUb.out.fQ uY.out HGC.out) hne akF akG (λh=>mE.2 (HI.out.1.sub s2 (mE.1 h)))
           have akH:Hid (aG (λk=>k=bf\/k=bg) Z1 Wb):=akD.out.on hbb;clear hbx hbb yC;go_wp2_with (go_at_call 129;refine HM.out.mono ?_;rintro e z9 ⟨rfl,h1,h2,h3⟩;refine Hid.out ?_);refine ah ?_;have HU9:Hid (aG (λk=>k=bf\/k=bg) Wm z9):=HUb.out.trans h1 (λ_ _ h=>h);have akJ:Hid (aG (λk=>k=bf\/k=bg) Z1 z9):=akH.out.trans h1 (λ_ _ h=>h);have HF9:=ah h2;have HG9:=ah h3;have hml:=TK F G s2 _ WI.out;have akK:Hid ((jv F s2).length=(zU F G s2).length+(d+(j+1))):=hml.1;have akL:(jv F s2).length<=300+(i+1):=by omega
           have HI9:Hid (Inv C p l (jv F s2) (zU F G s2) [s]/\∀x∈l,x∈jv F s2):=⟨HI.out.1.meet ZM.out WG.out,λy hy=>g_.2 (.inl (HI.out.2 y hy))⟩;have akM:Hid (∀(i:Nat)(t:List UInt8),j+1<=i->T[i]?=some t->∃x∈zU F G s2,x.text=t):=λq t hq ht=>by
            obtain⟨y,hy,hyt⟩:=HRM.out q t hq ht;exact⟨y,OJ hy,hyt⟩
           have akN:=ah (JZ.out (jv F s2) (λy hy=>g_.2 (.inl hy)) (g_.2 (.inr rfl)));clear h1 h2 h3 hml HM d0 d1 d2 d3;go_wp2
           go_roundg (H.length - (i+1))
           case measure=>rw[HG4.out];omega
           case rel=>exact⟨i+1,jv F s2,zU F G s2,rfl,by omega,by go_num,akK,akL,HU9,HF9,HG9,HI9,akM,akJ,akN⟩
          .obtain rfl:i=H.length:=by omega
           have HID:Hid (Inv C p l F G []/\∀x∈l,x∈F):=⟨HI.out.1.done (λ_ x hx=>by
            rw[HHE.out]at hx;obtain⟨q,hq⟩:=jW.1 hx;exact vC.out q x (bB.1 hq).1 hq),HI.out.2⟩
           go_wp2
           go_roundg (T.length - (j+1))
           case measure=>rw[Q_.out];omega
           case rel=>exact⟨j+1,F,G,rfl,by omega,by go_num,rfl,WI,by omega,HU,HF,HG,HID,HRM,akz.out.trans Qk.out (λ_ _ h=>h)⟩
      .obtain rfl:j=T.length:=by omega
       go_wp2
       go_roundg (l.length+401 - (d+T.length))
       case measure=>rw[iw.out];have:=WI.out;omega
       case rel=>exact⟨F,G,d+T.length,rfl,rfl,WI,Yt,HU,HF,HG,HI⟩
    .have hG0:G=[]:=wZ (by omega)
     subst hG0;have hlf:∀ty,(Builtin.len_ #[142] ty #[.map (some bf)]).run prog wr= .ok (.int .i64 (F.length:Nat)) wr:=λty=>HF.out.len ty;by_cases aaQ:300<F.length
     .go_wp2
      rw[Exit.noGoto_ret]
      go_ret2
      exact⟨vE.out _ HU.out,.inr ⟨rfl,F,qY HF.out.nodup,aaQ,HI.out.1.reach⟩⟩
     .have Yy:=ah (OL bf wr)
      have uZ:=ah (Ij HF.out (by omega));go_wp2_with (first|(go_at_call 131;refine Yy.out.mono ?_;rintro e z0 ⟨rfl,rfl⟩)|(go_at_call 130;refine uZ.out.mono ?_;rintro e Z5 ⟨T,TA,tc,rfl,hAt,hb,hperm,hsort⟩;refine Hid.out ?_));refine ah ?_;have hb0:Below wr.heap.size wr Z5:=av (aJ (aC _ _) _) hb;have zG:Hid (aG (λk=>k=bf\/k=bg) Wm Z5):=HU.out.on hb0;have HF5:=ah (HF.out.below hb0);have HTP:=ah hperm;have HST:=ah (strict hsort (hperm.nodup_iff.2 HF.out.nodup));have htl:T.length=F.length:=by rw[hperm.length_eq,dU]
      have apC:T.length<=300:=by omega
      have TL:=ah htl;clear htl;have HAT:=ah hAt;have yf5:=zG.out.fQ uY.out HFC.out;have HYF:=ah yf5;clear yf5;clear hAt hb hperm hsort hb0 Yy uZ yf yg hlg hlf HU HF HG;obtain⟨is,hsi,hsz,hss,hsb⟩:=info_parts' (P:=prog) (t:=48) (z:=some eF) (s:=4) (b:=80) (by kernel_rfl);go_wp2
      go_loopg [95,21] T.length (λg5 v95 v21 w5=>∃(j:Nat)(R:List ak)(ts:List TV),g5=T.length - j/\j<=T.length/\v95= .int .i64 j/\Hid (R.map ak.text=T.take j)/\Hid (∀s∈R,s∈F)/\Hid (ts.length=R.length)/\R.length<=j/\Hid (w5.ownsRow Z5.heap.size 48 4 v21 R.length ((R.zip ts).flatMap (λp=>TV.cells p.2 p.1)))/\Hid (∀(i:Nat)(s:ak)(t:TV),R[i]?=some s->ts[i]?=some t->aQ Z5 t s/\lN B t)/\Hid (Below Z5.heap.size Z5 w5))
      case atStart=>exact⟨0,[],[],rfl,aU _,rfl,rfl,(λs hs=>by cases hs),rfl,bJ _,World.ownsRow_nil _ _ _ _,(λi s t hs=>by simp at hs),aC _ _⟩
      case round=>
       obtain⟨j,R,ts,hg5,hj,rfl,HRT,HRF,FM,hRl,HR,Ng,Cj⟩:=hrel;have HG5:=ah hg5;clear hg5;by_cases hlt:j<T.length
       .obtain⟨tx,htx⟩:∃tx,T[j]?=some tx:=⟨_,aS hlt⟩
        obtain⟨s,WJ,hst⟩:=cZ.1 (HTP.out.mem_iff.1 (cK htx));subst hst;have htm:=yD (HI.out.1.ok s WJ).ranged;obtain⟨⟨⟨eu,dN⟩,⟨eH,dL⟩,⟨fF,bY⟩⟩,hrun,OM,Yz⟩:=HF5.out.Yx Cj.out WJ htm;have adG:=ah Yz;clear Yz;simp only[TV.val,TV.cells,ak.cells]at hrun;obtain⟨tb,Mg,hTA,_,htc⟩:=(HAT.out.below (by omega) Cj.out).1.form (by omega) (by omega);subst hTA;have ct:wr.cell? ⟨tb,Mg+j,none⟩=some (.string ⟨s.text.toArray⟩):=by
         rw[htc j (by omega),gK,htx];rfl
        have yf:=((aL Cj.out).1 _ _ (World.block_lt_of_cell? Z5 _ HYF.out)).trans HYF.out;have TM:=ah WJ;clear WJ;have J2:=ah (take_snoc' htx);clear htx;have adH:=ah OM;clear OM htc htm;have j0:(0:Int)<=(j:Int):=by omega
        have j1:(j:Int)<(T.length:Int):=by omega
        have hsz5:=Cj.out.size;go_wp2_with (at_builtin;refine nQ rfl _ _ 41 rfl 48 is eF 4 80 underlying41 hsi hsz hss hsb rfl (by decide) Z5.heap.size _ _ _ rfl HR.out [.int .i64 s.day,.slice eu s.aj.length dN,.slice eH s.used.length dL,.slice fF s.marks.length bY] _ rfl rfl (by intro u hu;simp only[dx,iQ,or_false]at hu;rcases hu with rfl|rfl|rfl|rfl<;>rfl) rfl (by unfold maxLen;omega) (by omega) hsz5 ?_;intro v6 w6 h1 h2 h3;refine Hid.out ?_);refine ah ?_;have FN:Hid (w6.ownsRow Z5.heap.size 48 4 v6 (R++[s]).length (((R++[s]).zip (ts++[⟨⟨eu,dN⟩,⟨eH,dL⟩,⟨fF,bY⟩⟩])).flatMap (λp=>TV.cells p.2 p.1))):=by
         show World.ownsRow _ _ _ _ _ _ _;rw[List.zip_append FM.out.symm,Bt,mU,rP];simpa [TV.cells,ak.cells]using h1
        have WL:Hid (Below Z5.heap.size Z5 w6):=Cj.out.trans h2;have YA:Hid (∀(i:Nat)(x:ak)(t:TV),(R++[s])[i]?=some x->(ts++[⟨⟨eu,dN⟩,⟨eH,dL⟩,⟨fF,bY⟩⟩])[i]?=some t->aQ Z5 t x/\lN B t):=λi x t hx ht=>by
         by_cases hi:i<R.length
         .rw[kH hi]at hx
          rw[kH (by rw[FM.out];exact hi)]at ht;exact Ng.out i x t hx ht
         .rw[lW (by omega)]at hx
          rw[lW (by rw[FM.out];omega),FM.out]at ht;cases hk:i - R.length with
          |zero=>
           rw[hk]at hx ht;simp at hx ht;rw[<-hx,<-ht];exact⟨adH.out,adG.out⟩
          |succ q=>rw[hk]at hx;simp at hx
        have adI:Hid (∀x∈R++[s],x∈F):=λx hx=>by
         rcases jU.1 hx with hx|hx
         .exact HRF.out x hx
         .rw[eB]at hx
          rw[hx];exact TM.out
        clear h1 h2 h3 hrun ct yf;go_wp2
        go_roundg (T.length - (j+1))
        case measure=>rw[HG5.out];omega
        case rel=>exact⟨j+1,R++[s],ts++[⟨⟨eu,dN⟩,⟨eH,dL⟩,⟨fF,bY⟩⟩],rfl,by omega,by go_num,by show _=_;rw[pG,HRT.out,J2.out];rfl,adI,by show _=_;simp[FM.out],by simp;omega,FN,YA,WL⟩
       .obtain rfl:j=T.length:=by omega
        have hrt:=HRT.out;rw[iG]at hrt;obtain⟨A,c,rfl,hAt⟩:=kY HR.out (cells_one _);have YB:Hid (aW B wr ⟨A,c⟩ R):=⟨λb off e=>bI (bI hBw (vE.out _ zG.out).size) (HR.out.lt b (by simp only at e;rw[e];rfl)).1,ts,FM.out,hAt,λi s t hs ht=>⟨(Ng.out i s t hs ht).1.below Cj.out,(Ng.out i s t hs ht).2⟩⟩;have hmem:∀s,s∈F->s∈R:=λs hs=>by
         rw[<-mE,hrt];exact HTP.out.mem_iff.2 (mE.2 hs)
        have Rq:Hid (r_ C p l R):=by
         refine⟨by rw[hrt];exact HST.out,by omega,λs hs=>HI.out.1.ok s (HRF.out s hs),λs hs=>HI.out.1.reach s (HRF.out s hs),λs hs=>hmem s (HI.out.2 s hs),λs hs hd x hx=>?_⟩;exact hmem _ (HI.out.1.closed s (HRF.out s hs) (by simp) (by simp) hd x hx)
        clear hrt hAt hmem;go_wp2;rw[Exit.noGoto_ret]
        go_ret2
        exact⟨(vE.out _ zG.out).trans (Cj.out.mono (vE.out _ zG.out).size),.inl ⟨R,A,c,rfl,YB.out,Rq.out⟩⟩
end
section
open Go.RowKit Go.Shelf Tryz
theorem jw{z:World}{b:Nat}{x0 x1 y0 y1:Value}(h0:z.cell? ⟨b,0,none⟩=some y0)(h1:z.cell? ⟨b,1,none⟩=some y1){W:World}(hW:W=(z.setCell ⟨b,0,none⟩ x0).setCell ⟨b,1,none⟩ x1):
 W.cell? ⟨b,0,none⟩=some x0/\W.cell? ⟨b,1,none⟩=some x1/\aG (λk=>k=b) z W:=by
 subst hW;have ne:∀i j:Nat,i≠j->(⟨b,i,none⟩:Addr)≠⟨b,j,none⟩:=λi j h e=>h (by injection e);have a1:(z.setCell ⟨b,0,none⟩ x0).cell? ⟨b,1,none⟩=some y1:=by rw[World.cell?_setCell_other _ _ _ _ (by first|exact ne 0 1 (by decide)|exact ne 1 0 (by decide))];exact h1
 refine⟨?_,?_,((aG.refl (λk=>k=b) z).setCell (.inl rfl) _).setCell (.inl rfl) _⟩
 .rw[World.cell?_setCell_other _ _ _ _ (by first|exact ne 0 1 (by decide)|exact ne 1 0 (by decide))]
  exact World.cell?_setCell_same' _ _ _ (by rw[h0];rfl)
 .exact World.cell?_setCell_same' _ _ _ (by rw[a1];rfl)
theorem Ck.ret{B:Nat}{C:au}{p:Int}{l:List ak}{w:World}{e:Ending}{w':World}(h:Ck B C p l w e w'):∃(r:List ak)(A:Option Addr)(c:Nat)(er:Int),e= .returned (.tuple #[.slice A r.length c,.int .i64 er])/\Below w.heap.size w w'/\
 ((er=0/\aW B w' ⟨A,c⟩ r/\r_ C p l r)\/(er=3/\A=none/\c=0/\r=[]/\zF C p l)):=by
 obtain⟨hb,⟨r,A,c,rfl,hs,hc⟩|⟨rfl,hm⟩⟩:=h
 .exact⟨r,A,c,0,rfl,hb,.inl ⟨rfl,hs,hc⟩⟩
 .exact⟨[],none,0,3,rfl,hb,.inr ⟨rfl,rfl,rfl,rfl,hm⟩⟩
def tC(p:Int)(Ok:List ak->Prop)(Er:Int->Prop)(w:World)(e:Ending)(w':World):Prop:=
 ∃(q:Int)(A:Option Addr)(c:Nat)(r:List ak)(er:Int),e= .returned (.tuple #[.agg #[.int .i64 q,.slice A r.length c],.int .i64 er])/\Below w.heap.size w w'/\
  ((er=0/\q=p/\aW w.heap.size w' ⟨A,c⟩ r/\Ok r)\/(er≠0/\q=0/\A=none/\c=0/\r=[]/\Er er))
theorem aW.one{B:Nat}{w:World}{b:Nat}{s:ak}{t:TV}(hb:w.heap[b]?=some (.cells (t.cells s).toArray 48 (0,0)))(hs:aQ w t s)(hn:lN B t)(hB:B<=b):aW B w ⟨some ⟨b,0,none⟩,1⟩ [s]:=by
 refine⟨mD hB,[t],rfl,⟨⟨by simp[TV.cells,ak.cells],?_,λ_=>⟨_,rfl,λj u hj=>?_⟩⟩,(λh=>by cases h),bJ _,by unfold maxLen;simp⟩,λi x y hx hy=>?_⟩
 .intro u hu
  simp only[List.zip_cons_cons,List.zip_nil_right,rQ,List.flatMap_nil,bU,TV.cells,ak.cells,dx,iQ,or_false]at hu;rcases hu with rfl|rfl|rfl|rfl<;>rfl
 .rw[Addr.add_lit,aK _ _ (0+j) _ _ _ hb]
  simpa using hj
 .cases i with
  |zero=>
   simp at hx hy;rw[<-hx,<-hy];exact⟨hs,hn⟩
  |succ i=>simp at hx
def au.mI(C:au)(p:Int):Prop:=C.valid=true/\0<=p/\p<C.aF
def Cm(C:au)(p er:Int):Prop:=(er=1/\¬C.mI p)\/(er=3/\C.mI p/\zF C p [C.first])
theorem Rs(v:CV)(C:au)(p:Int)(w:World)(hC:bO w v C)(hT:Tab w):Calls prog 53 #[v.val C,.int .i64 p] w (tC p (λr=>C.mI p/\r_ C p [C.first] r) (Cm C p) w):=by
 obtain⟨⟨dV,dW⟩,⟨dX,dY⟩,⟨fB,dH⟩,⟨eZ,dM⟩,⟨dQ,dR⟩⟩:=v;have HC:=ah hC;clear hC;have HT:=ah hT;clear hT;simp only[CV.val,CV.cells];go_enter func53,ntmps53;go_upto_region 1 with(fail)
 generalize hW0:World.alloc _ _=W0;obtain⟨HB,hh0,gG⟩:=F5 hW0;clear hW0;obtain⟨iC,iD,iI,iy,iP,jc,jA⟩:=CS hh0;clear hh0;obtain⟨jM,jY⟩:=Ww gG;have J3:=ou (i:=0) gG;have J4:=ou (i:=1) gG;have hl1:=aB gG;clear gG;change Code.wp _ _ _ _ (Bl.val (⟨W0,aC _ _⟩:Bl W0));generalize(⟨W0,aC _ _⟩:Bl W0)=s0;have hbe:∀z:Bl W0,Calls prog 38 #[.agg #[.int .i64 C.aF,.slice dV C.aj.length dW,.slice dX C.units.length dY,.slice fB C.acts.length dH,.slice eZ C.clauses.length dM,.int .i64 C.days,.slice dQ C.off.length dR]] z.val (rH (cond C.valid 0 1) C.first z.val):=λz=>DI (⟨⟨dV,dW⟩,⟨dX,dY⟩,⟨fB,dH⟩,⟨eZ,dM⟩,⟨dQ,dR⟩⟩:CV) C z.val (HC.out.below (av HB.out z.prop));have hrb:=HB.out.size;cases q1:C.valid with
 |false=>
  have yL:Hid (∀z:Bl W0,Calls prog 38 #[.agg #[.int .i64 C.aF,.slice dV C.aj.length dW,.slice dX C.units.length dY,.slice fB C.acts.length dH,.slice eZ C.clauses.length dM,.int .i64 C.days,.slice dQ C.off.length dR]] z.val (dZ (.tuple #[.agg #[.int .i64 0,.slice none 0 0,.slice none 0 0,.slice none 0 0],.int .i64 1]) z.val)):=λz=>by
   have h:=hbe z;rw[q1]at h;refine h.mono ?_;rintro e w' ⟨hb,⟨h0,_⟩|⟨_,rfl⟩⟩
   .cases h0
   .exact⟨rfl,hb⟩
  clear hbe;go_wp2_with (go_at_call 38;refine(yL.out _).mono ?_;rintro e z ⟨rfl,hz⟩;obtain⟨z,rfl⟩:=Bl.on hz;clear hz;refine Hid.out ?_);refine ah ?_;have c0:=jM z;have c1:=jY z;have u0:=J3 z;have u1:=J4 z;have hp1:=z.prop;generalize z.val=Z at hp1 c0 c1 u0 u1⊢;go_upto_region 2 with(fail)
  obtain⟨Wa,ow⟩:∃Wa,Hid (Wa=Z.alloc (.cells #[.int .i64 0,.slice none 0 0,.slice none 0 0,.slice none 0 0] 48)):=⟨_,rfl⟩;rw[<-ow.out];have hba:Below Z.heap.size Z Wa:=by rw[ow.out];exact aJ (aC _ _) _
  have hpa:Below W0.heap.size W0 Wa:=av hp1 hba;have lz:w.heap.size+1<Z.heap.size:=by have:=hp1.size;omega
  have a0:=((aL hba).1 _ _ lz).trans c0;have a1:=((aL hba).1 _ _ lz).trans c1;have b0:=((aL hba).2 _ _ lz).trans u0;have b1:=((aL hba).2 _ _ lz).trans u1;clear c0 c1 u0 u1;go_wp2;obtain⟨Wf,iq⟩:∃Wf,Hid (Wf=(Wa.setCell ⟨w.heap.size+1,0,none⟩ (.int .i64 0)).setCell ⟨w.heap.size+1,1,none⟩ (.slice none 0 0)):=⟨_,rfl⟩;rw[<-iq.out];obtain⟨g0,g1,lF⟩:=jw a0 a1 iq.out;refine bodyPost_ret (v:=.tuple #[.agg #[.int .i64 0,.slice none 0 0],.int .i64 1]) (by simp[results,results53,go_sem,g0,g1]) rfl ⟨0,none,0,[],1,rfl,?_,.inr ⟨by decide,rfl,rfl,rfl,rfl,.inl ⟨rfl,λh=>by have h1:=h.1;rw[q1]at h1;cases h1⟩⟩⟩;exact(HB.out.trans (hpa.mono HB.out.size)).trans (lF.below (by have:=hpa.size;omega) (λk hk=>by omega))
 |true=>
  have yL:Hid (∀z:Bl W0,Calls prog 38 #[.agg #[.int .i64 C.aF,.slice dV C.aj.length dW,.slice dX C.units.length dY,.slice fB C.acts.length dH,.slice eZ C.clauses.length dM,.int .i64 C.days,.slice dQ C.off.length dR]] z.val (uX C.first z.val)):=λz=>by
   have h:=hbe z;rw[q1]at h;exact h.mono (λ_ _ h=>h.ret)
  clear hbe;have Q0:=ah (yj q1);generalize hs1:C.first=s1 at yL Q0;have vG:=ah hs1;clear hs1;go_wp2_with (go_at_call 38;refine(yL.out _).mono ?_;rintro e z ⟨eu,dN,eH,dL,fF,bY,rfl,hst,hnt,hz⟩;obtain⟨z,rfl⟩:=Bl.on hz;refine Hid.out ?_);refine ah ?_;have c0:=jM z;have c1:=jY z;have u0:=J3 z;have u1:=J4 z;have hp1:=z.prop;have HST:=ah hst;clear hst;have Ih:=ah (hnt.mono s0.prop.size);clear hnt hz;have x0:=iC z;have x1:=iD z;have x2:=iI z;have x3:=iy z;have x4:=iP z;have x5:=jc z;have x6:=jA z;generalize z.val=Z at hp1 c0 c1 u0 u1 HST x0 x1 x2 x3 x4 x5 x6⊢;go_upto_region 2 with(fail)
  obtain⟨Wa,ow⟩:∃Wa,Hid (Wa=Z.alloc (.cells #[.int .i64 s1.day,.slice eu s1.aj.length dN,.slice eH s1.used.length dL,.slice fF s1.marks.length bY] 48)):=⟨_,rfl⟩;rw[<-ow.out];have hba:Below Z.heap.size Z Wa:=by rw[ow.out];exact aJ (aC _ _) _
  have hpa:Below W0.heap.size W0 Wa:=av hp1 hba;have hax:Wa.heap[Z.heap.size]?=some (.cells #[.int .i64 s1.day,.slice eu s1.aj.length dN,.slice eH s1.used.length dL,.slice fF s1.marks.length bY] 48 (0,0)):=by rw[ow.out];exact bK Z _
  have lz:w.heap.size+1<Z.heap.size:=by have:=hp1.size;omega
  have lw:w.heap.size<Z.heap.size:=by omega
  have a0:=((aL hba).1 _ _ lz).trans c0;have a1:=((aL hba).1 _ _ lz).trans c1;have b0:=((aL hba).2 _ _ lz).trans u0;have b1:=((aL hba).2 _ _ lz).trans u1;have y0:=((aL hba).1 _ _ lw).trans x0;have y1:=((aL hba).1 _ _ lw).trans x1;have y2:=((aL hba).1 _ _ lw).trans x2;have y3:=((aL hba).1 _ _ lw).trans x3;have y4:=((aL hba).1 _ _ lw).trans x4;have y5:=((aL hba).1 _ _ lw).trans x5;have y6:=((aL hba).1 _ _ lw).trans x6;have d0:Wa.cell? ⟨Z.heap.size,0,none⟩=some (.int .i64 s1.day):=(aK Wa _ 0 _ _ _ hax).trans rfl;have d1:Wa.cell? ⟨Z.heap.size,1,none⟩=some (.slice eu s1.aj.length dN):=(aK Wa _ 1 _ _ _ hax).trans rfl;have d2:Wa.cell? ⟨Z.heap.size,2,none⟩=some (.slice eH s1.used.length dL):=(aK Wa _ 2 _ _ _ hax).trans rfl;have d3:Wa.cell? ⟨Z.heap.size,3,none⟩=some (.slice fF s1.marks.length bY):=(aK Wa _ 3 _ _ _ hax).trans rfl;have Nh:=ah (HST.out.below hba);clear c0 c1 u0 u1 x0 x1 x2 x3 x4 x5 x6 hax hba;cases q2:decide (p<0)with
  |true=>
   go_wp2;obtain⟨Wf,iq⟩:∃Wf,Hid (Wf=(Wa.setCell ⟨w.heap.size+1,0,none⟩ (.int .i64 0)).setCell ⟨w.heap.size+1,1,none⟩ (.slice none 0 0)):=⟨_,rfl⟩;rw[<-iq.out];obtain⟨g0,g1,lF⟩:=jw a0 a1 iq.out;refine bodyPost_ret (v:=.tuple #[.agg #[.int .i64 0,.slice none 0 0],.int .i64 1]) (by simp[results,results53,go_sem,g0,g1]) rfl ⟨0,none,0,[],1,rfl,?_,.inr ⟨by decide,rfl,rfl,rfl,rfl,.inl ⟨rfl,λh=>by have h1:=h.2.1;rw[decide_eq_true_eq]at q2;omega⟩⟩⟩;exact(HB.out.trans (hpa.mono HB.out.size)).trans (lF.below (by have:=hpa.size;omega) (λk hk=>by omega))
  |false=>
   cases q3:decide (C.aF<=p)with
   |true=>
    go_wp2;obtain⟨Wf,iq⟩:∃Wf,Hid (Wf=(Wa.setCell ⟨w.heap.size+1,0,none⟩ (.int .i64 0)).setCell ⟨w.heap.size+1,1,none⟩ (.slice none 0 0)):=⟨_,rfl⟩;rw[<-iq.out];obtain⟨g0,g1,lF⟩:=jw a0 a1 iq.out;refine bodyPost_ret (v:=.tuple #[.agg #[.int .i64 0,.slice none 0 0],.int .i64 1]) (by simp[results,results53,go_sem,g0,g1]) rfl ⟨0,none,0,[],1,rfl,?_,.inr ⟨by decide,rfl,rfl,rfl,rfl,.inl ⟨rfl,λh=>by have h1:=h.2.2;rw[decide_eq_true_eq]at q3;omega⟩⟩⟩;exact(HB.out.trans (hpa.mono HB.out.size)).trans (lF.below (by have:=hpa.size;omega) (λk hk=>by omega))
   |false=>
    have HPO:Hid (C.mI p):=⟨q1,by rw[decide_eq_false_iff_not]at q2;omega,by rw[decide_eq_false_iff_not]at q3;omega⟩;have hsl:=bK Wa (.cells #[.int .i64 s1.day,.slice eu s1.aj.length dN,.slice eH s1.used.length dL,.slice fF s1.marks.length bY] 48);have Nc:Hid (Calls prog 81 #[.agg #[.int .i64 C.aF,.slice dV C.aj.length dW,.slice dX C.units.length dY,.slice fB C.acts.length dH,.slice eZ C.clauses.length dM,.int .i64 C.days,.slice dQ C.off.length dR],.int .i64 p,.slice (some ⟨Wa.heap.size,0,none⟩) 1 1] (Wa.alloc (.cells #[.int .i64 s1.day,.slice eu s1.aj.length dN,.slice eH s1.used.length dL,.slice fF s1.marks.length bY] 48)) _):=
     yG (⟨⟨dV,dW⟩,⟨dX,dY⟩,⟨fB,dH⟩,⟨eZ,dM⟩,⟨dQ,dR⟩⟩:CV) C p ⟨some ⟨Wa.heap.size,0,none⟩,1⟩ [s1] (Wa.alloc (.cells #[.int .i64 s1.day,.slice eu s1.aj.length dN,.slice eH s1.used.length dL,.slice fF s1.marks.length bY] 48)) (HC.out.below (av HB.out (aJ hpa _))) (aW.one (B:=W0.heap.size) (t:=⟨⟨eu,dN⟩,⟨eH,dL⟩,⟨fF,bY⟩⟩) hsl (Nh.out.below (aJ (aC _ _) _)) Ih.out hpa.size) (by have:=hpa.size;simp;omega) (λs hs=>by rw[eB]at hs;rw[hs];exact Q0.out) (HT.out.below (av HB.out (aJ hpa _))) (by simp)
    clear hsl;go_wp2_with (go_at_call 81;refine(Nc.out.mono (λ_ _ h=>h.ret)).mono ?_;rintro e z1 ⟨r,A,c,er,rfl,hb1,hcase⟩;refine Hid.out ?_);refine ah ?_;have hpz:Below W0.heap.size W0 z1:=av (aJ hpa _) hb1;have lz2:w.heap.size+1<(Wa.alloc (.cells #[.int .i64 s1.day,.slice eu s1.aj.length dN,.slice eH s1.used.length dL,.slice fF s1.marks.length bY] 48)).heap.size:=by have:=hpa.size;simp;omega
    have e0:=((aL hb1).1 _ 0 lz2).trans (((aL (aJ (aC Wa.heap.size Wa) (.cells #[.int .i64 s1.day,.slice eu s1.aj.length dN,.slice eH s1.used.length dL,.slice fF s1.marks.length bY] 48))).1 _ _ (by have:=hpa.size;omega)).trans a0);have e1:=((aL hb1).1 _ 1 lz2).trans (((aL (aJ (aC Wa.heap.size Wa) (.cells #[.int .i64 s1.day,.slice eu s1.aj.length dN,.slice eH s1.used.length dL,.slice fF s1.marks.length bY] 48))).1 _ _ (by have:=hpa.size;omega)).trans a1);have h0:=((aL hb1).2 _ 0 lz2).trans (((aL (aJ (aC Wa.heap.size Wa) (.cells #[.int .i64 s1.day,.slice eu s1.aj.length dN,.slice eH s1.used.length dL,.slice fF s1.marks.length bY] 48))).2 _ _ (by have:=hpa.size;omega)).trans b0);have h1:=((aL hb1).2 _ 1 lz2).trans (((aL (aJ (aC Wa.heap.size Wa) (.cells #[.int .i64 s1.day,.slice eu s1.aj.length dN,.slice eH s1.used.length dL,.slice fF s1.marks.length bY] 48))).2 _ _ (by have:=hpa.size;omega)).trans b1);clear hb1 lz2 a0 a1 b0 b1 y0 y1 y2 y3 y4 y5 y6 d0 d1 d2 d3;rcases hcase with⟨rfl,hsn,Ik⟩|⟨rfl,rfl,rfl,rfl,yM⟩
    .have qD:=ah hsn;clear hsn
     have Rq:=ah Ik;clear Ik;go_wp2;obtain⟨Wf,iq⟩:∃Wf,Hid (Wf=(z1.setCell ⟨w.heap.size+1,0,none⟩ (.int .i64 p)).setCell ⟨w.heap.size+1,1,none⟩ (.slice A r.length c)):=⟨_,rfl⟩;rw[<-iq.out];obtain⟨g0,g1,lF⟩:=jw e0 e1 iq.out;refine bodyPost_ret (v:=.tuple #[.agg #[.int .i64 p,.slice A r.length c],.int .i64 0]) (by simp[results,results53,go_sem,g0,g1]) rfl ⟨p,A,c,r,0,rfl,?_,.inl ⟨rfl,rfl,?_,HPO.out,?_⟩⟩
     .exact(HB.out.trans (hpz.mono HB.out.size)).trans (lF.below (by have:=hpz.size;omega) (λk hk=>by omega))
     .exact(qD.out.kX lF (λk hk=>by omega)).mono hrb
     .rw[vG.out];exact Rq.out
    .have Ql:=ah yM;clear yM
     go_wp2;obtain⟨Wf,iq⟩:∃Wf,Hid (Wf=(z1.setCell ⟨w.heap.size+1,0,none⟩ (.int .i64 0)).setCell ⟨w.heap.size+1,1,none⟩ (.slice none 0 0)):=⟨_,rfl⟩;rw[<-iq.out];obtain⟨g0,g1,lF⟩:=jw e0 e1 iq.out;refine bodyPost_ret (v:=.tuple #[.agg #[.int .i64 0,.slice none 0 0],.int .i64 3]) (by simp[results,results53,go_sem,g0,g1]) rfl ⟨0,none,0,[],3,rfl,?_,.inr ⟨by decide,rfl,rfl,rfl,rfl,.inr ⟨rfl,HPO.out,?_⟩⟩⟩
     .exact(HB.out.trans (hpz.mono HB.out.size)).trans (lF.below (by have:=hpz.size;omega) (λk hk=>by omega))
     .rw[vG.out];exact Ql.out
end
section
open Go.RowKit Go.Shelf Tryz
def Sep(o:Option Nat)(w:World)(t:TV)(s:ak):Prop:=∀w',aG (λk=>some k=o) w w'->aQ w' t s
theorem Sep.at{o:Option Nat}{w:World}{t:TV}{s:ak}(h:Sep o w t s):aQ w t s:=h w (aG.refl _ _)
theorem Sep.below{o:Option Nat}{w w':World}{t:TV}{s:ak}(h:Sep o w t s)(hb:Below w.heap.size w w'):Sep o w' t s:=
 λ_ hu=>h _ (((aG.refl _ w).on hb).trans hu (λ_ _ h=>h))
def eG(B:Nat)(w:World)(v:Value)(R:List ak):Prop:=
 ∃ts:List TV,ts.length=R.length/\w.ownsRow B 48 4 v R.length ((R.zip ts).flatMap (λp=>TV.cells p.2 p.1))/\∀(i:Nat)(s:ak)(t:TV),R[i]?=some s->ts[i]?=some t->Sep v.ownBlock w t s/\lN B t
theorem eG.nil(B:Nat)(w:World):eG B w (.slice none 0 0) []:=⟨[],rfl,World.ownsRow_nil _ _ _ _,λi s t hs=>by simp at hs⟩
theorem eG.below{B:Nat}{w w':World}{v:Value}{R:List ak}(h:eG B w v R)(hb:Below w.heap.size w w'):eG B w' v R:=by
 obtain⟨ts,h1,h2,h3⟩:=h;exact⟨ts,h1,ownsRow_below h2 hb,λi s t hs ht=>⟨(h3 i s t hs ht).1.below hb,(h3 i s t hs ht).2⟩⟩
theorem eG.ret{B:Nat}{w:World}{v:Value}{R:List ak}(h:eG B w v R):∃A c,v= .slice A R.length c/\aW B w ⟨A,c⟩ R:=by
 obtain⟨ts,h1,h2,h3⟩:=h;obtain⟨A,c,rfl,hAt⟩:=kY h2 (cells_one _);exact⟨A,c,rfl,λb off e=>(h2.lt b (by simp only at e;rw[e];rfl)).1,ts,h1,hAt,λi s t hs ht=>⟨(h3 i s t hs ht).1.at,(h3 i s t hs ht).2⟩⟩
theorem eG.sep{B:Nat}{w z z':World}{v:Value}{R:List ak}(h:eG B w v R)(hz:w.heap.size<=z.heap.size){t:TV}{s:ak}(hs:aQ z' t s)(hn:lN z.heap.size t):Sep v.ownBlock z' t s:=by
 obtain⟨ts,h1,h2,h3⟩:=h;exactλw' hu=>hs.kX hn hu (λk hk=>by have:=(h2.lt k hk.symm).2;omega)
theorem qI{W:World}{ops:Array Oper}{rest:List Oper}{o:Oper}{a:Act}{Q:Exit->Act->World->Prop}
 (hg:o.guard=none)(so x:Operand)(hop:o.op=Op.call {callee:=Callee.builtin Builtin.append,args:=#[so,x],argTypes:=#[41,41]})
 (B:Nat)(v:Value)(R:List ak)(hs:a.eval so=v)(hown:eG B W v R)(t:TV)(s:ak)(hst:Sep v.ownBlock W t s)(hnt:lN B t)(arr:Array Value)(harr:arr=(t.cells s).toArray)
 (hx:a.eval x= .slice (some ⟨W.heap.size,0,none⟩) 1 1)(hlen:R.length<=1000000)(hBW:B<=W.heap.size)
 (hK:∀A' c' w',eG B w' (.slice A' (R++[s]).length c') (R++[s])->Below B W w'->wpList prog ops Q rest (a.put o.dst (.slice A' (R++[s]).length c')) w'):
 wpList prog ops Q (o::rest) a (W.alloc (.cells arr 48)):=by
 subst harr;obtain⟨ts,h1,h2,h3⟩:=hown;obtain⟨is,hsi,hsz,hss,hsb⟩:=info_parts' (P:=prog) (t:=48) (z:=some eF) (s:=4) (b:=80) (by kernel_rfl);have hba:Below W.heap.size W (W.alloc (.cells (t.cells s).toArray 48)):=aJ (aC _ _) _;refine wpList_append_own_at _ hg so x 41 hop B 48 is eF 4 80 underlying41 hsi hsz hss hsb rfl (by decide) v R.length _ hs (World.ownsRow.alloc h2 _) ⟨W.heap.size,0,none⟩ 1 1 (t.cells s) hx rfl
  (λj u hj=>by
   rw[Addr.add_lit,aK _ _ (0+j) _ _ _ (bK W _)];simpa using hj) (by
   intro u hu;simp only[TV.cells,ak.cells,dx,iQ,or_false]at hu;rcases hu with rfl|rfl|rfl|rfl<;>rfl) (by unfold maxLen;omega) (by omega) (by simp;omega) ?_
 intro v' w' hown' hgrow _ hblk;have YC:aG (λk=>some k=v.ownBlock) (W.alloc (.cells (t.cells s).toArray 48)) w':=⟨hgrow.os,hgrow.tape,hgrow.output,hgrow.size,λk hk hn=>hgrow.block k hk hn⟩;have hsep:∀(t':TV)(s':ak),Sep v.ownBlock W t' s'->Sep v'.ownBlock w' t' s':=λt' s' h w'' hu=>
  (h.below hba) w'' (YC.trans hu (λi hi e=>by
   rcases hblk with hblk|hblk
   .rw[<-hblk];exact e
   .rw[hblk]at e;injection e with e;omega))
 suffices hso:eG B w' v' (R++[s])/\Below B W w' by
  obtain⟨A',c',e,_⟩:=hso.1.ret;subst e;exact hK A' c' w' hso.1 hso.2
 refine⟨⟨ts++[t],by simp[h1],?_,λi x' t' hx' ht'=>?_⟩,?_⟩
 .rw[List.zip_append h1.symm,Bt,mU,rP]
  simpa using hown'
 .by_cases hi:i<R.length
  .rw[kH hi]at hx'
   rw[kH (by rw[h1];exact hi)]at ht';exact⟨hsep _ _ (h3 i x' t' hx' ht').1,(h3 i x' t' hx' ht').2⟩
  .rw[lW (by omega)]at hx'
   rw[lW (by rw[h1];omega),h1]at ht';cases hk:i - R.length with
   |zero=>
    rw[hk]at hx' ht';simp at hx' ht';rw[<-hx',<-ht'];exact⟨hsep _ _ hst,hnt⟩
   |succ q=>rw[hk]at hx';simp at hx'
 .exact((aC _ W).alloc hBW _).grown hgrow (by simp;omega) (λk hk=>(h2.lt k hk).1)
def au.jS(C:au)(x:Int):Prop:=x= -1\/(0<=x/\x<C.acts.length)
def fits(C:au)(p x:Int)(s:ak):Bool:=(!decide (C.days<=s.day))&&((x== -1)||C.sees s p x)
def iX(C:au)(p x:Int)(b:List ak)(k:Nat):List ak:=((b.take k).filter (fits C p x)).map (λs=>C.next s x)
def au.nexts(C:au)(p x:Int)(b:List ak):List ak:=(b.filter (fits C p x)).map (λs=>C.next s x)
theorem Cn{C:au}{p x:Int}{b:List ak}{k:Nat}{s:ak}(h:b[k]?=some s):iX C p x b (k+1)=iX C p x b k++cond (fits C p x s) [C.next s x] []:=by
 unfold iX;rw[take_snoc' h,List.filter_append,pG];cases hf:fits C p x s<;>simp[hf]
theorem ED(C:au)(p x:Int)(b:List ak):iX C p x b b.length=C.nexts p x b:=by
 unfold iX au.nexts;rw[iG]
theorem tF(C:au)(p x:Int)(b:List ak)(k:Nat):(iX C p x b k).length<=b.length:=by
 unfold iX;rw[dU];exact bI (List.length_filter_le _ _) (by rw[pz];omega)
theorem rO{C:au}{s:ak}{x:Int}(hx:C.jS x)(hO:aV C s)(hd:s.day<C.days):C.dP s x=0/\aV C (C.next s x):=by
 rcases hx with rfl|⟨h0,h1⟩
 .refine⟨?_,?_⟩
  .have h1:C.f_ s=true:=(jr C s).2 hO
   have h4:(s.day==C.days)=false:=by simp;omega
   have h3:decide ((C.acts.length:Int)<= -1)=false:=by simp;omega
   simp only[au.dP,h1,h3,h4,Bool.not_true,cond_false];rfl
  .exact Tx hO hd
 .obtain⟨i,rfl⟩:∃i:Nat,x=i:=⟨x.toNat,by omega⟩
  have hi:i<C.acts.length:=by omega
  have ha:=aS hi;refine⟨yE hO hd hi,?_⟩;rw[Ii ha];exact LV hO ha
theorem Il{C:au}{p x:Int}{b:List ak}{k:Nat}(hx:C.jS x)(hb:∀s∈b,aV C s):∀s∈iX C p x b k,aV C s:=by
 intro s hs;unfold iX at hs;obtain⟨s0,h0,rfl⟩:=cZ.1 hs;obtain⟨h1,h2⟩:=List.mem_filter.1 h0;unfold fits at h2;simp only[bS,jk,decide_eq_false_iff_not]at h2;exact(rO hx (hb s0 (List.mem_of_mem_take h1)) (by omega)).2
def nR(C:au)(p x:Int)(b r:List ak):Prop:=C.jS x/\C.nexts p x b≠[]/\r_ C p (C.nexts p x b) r
def j5(C:au)(p x:Int)(b:List ak)(er:Int):Prop:=(er=1/\¬C.jS x)\/(C.jS x/\((er=13/\C.nexts p x b=[])\/(er=3/\zF C p (C.nexts p x b))))
end
section
open Go.RowKit Go.Shelf Tryz
def au.J5(C:au)(l:List Int):ak:=l.foldl (λs x=>C.next s x) C.first
structure Good(C:au)(l:List Int):Prop where
 valid:C.valid=true
 len:l.length<=4000
 legal:∀(k:Nat)(x:Int),l[k]?=some x->C.dP (C.J5 (l.take k)) x=0
def au.trail(C:au)(l:List Int)(k:Nat):List ak:=(List.range (k+1)).map (λi=>C.J5 (l.take i))
theorem YD(C:au)(l:List Int)(x:Int):C.J5 (l++[x])=C.next (C.J5 l) x:=by unfold au.J5;rw[uG];rfl
theorem Im{C:au}{l:List Int}{k:Nat}{x:Int}(h:l[k]?=some x):C.J5 (l.take (k+1))=C.next (C.J5 (l.take k)) x:=by
 rw[take_snoc' h,YD]
theorem KR(C:au)(l:List Int)(k:Nat):(C.trail l k).length=k+1:=by simp[au.trail]
theorem Rt(C:au)(l:List Int)(k:Nat):C.trail l (k+1)=C.trail l k++[C.J5 (l.take (k+1))]:=by
 unfold au.trail;rw[List.range_succ (n:=k+1),pG];rfl
theorem Vo{C:au}{l:List Int}{n k:Nat}(h:k<=n):(C.trail l n)[k]?=some (C.J5 (l.take k)):=by
 unfold au.trail;rw[gK,Bz (by omega)];rfl
theorem Ms{C:au}{s:ak}{x:Int}(h:C.dP s x=0):aV C s/\s.day<C.days/\C.jS x/\aV C (C.next s x):=by
 unfold au.dP at h;cases h1:C.f_ s with
 |false=>rw[h1]at h;cases h
 |true=>
  have hO:=(jr C s).1 h1;cases h2:decide (x< -1)with
  |true=>rw[h1,h2]at h;cases h
  |false=>
   cases h3:decide ((C.acts.length:Int)<=x)with
   |true=>rw[h1,h2,h3]at h;cases h
   |false=>
    cases h4:(s.day==C.days)with
    |true=>rw[h1,h2,h3,h4]at h;cases h
    |false=>
     rw[decide_eq_false_iff_not]at h2 h3;rw[beq_eq_false_iff_ne]at h4;have hd:=hO.X0;have hs:C.jS x:=by
      by_cases e:x= -1
      .exact .inl e
      .exact .inr ⟨by omega,by omega⟩
     exact⟨hO,by omega,hs,(rO hs hO (by omega)).2⟩
theorem Good.ok{C:au}{l:List Int}(h:Good C l):∀k,k<=l.length->aV C (C.J5 (l.take k))
 |0,_=>by rw[bW];exact yj h.valid
 |k+1,hk=>by
  have hx:=aS (l:=l) (i:=k) (by omega);rw[Im hx];exact(Ms (h.legal k _ hx)).2.2.2
def wS(o:Option Nat)(g:Nat)(w:World)(t:TV)(s:ak):Prop:=∀w',aG (λk=>some k=o\/k=g) w w'->aQ w' t s
theorem wS.at{o:Option Nat}{g:Nat}{w:World}{t:TV}{s:ak}(h:wS o g w t s):aQ w t s:=h w (aG.refl _ _)
theorem wS.below{o:Option Nat}{g:Nat}{w w':World}{t:TV}{s:ak}(h:wS o g w t s)(hb:Below w.heap.size w w'):wS o g w' t s:=
 λ_ hu=>h _ (((aG.refl _ w).on hb).trans hu (λ_ _ h=>h))
theorem wS.upd{o:Option Nat}{g:Nat}{w w':World}{t:TV}{s:ak}(h:wS o g w t s)(hu:aG (λk=>k=g) w w'):wS o g w' t s:=
 λ_ hv=>h _ ((hu.mono (λ_ _ e=>.inr e)).trans hv (λ_ _ h=>h))
def jJ(g B:Nat)(w:World)(v:Value)(R:List ak):Prop:=
 (∀k,v.ownBlock=some k->k≠g)/\∃ts:List TV,ts.length=R.length/\w.ownsRow B 48 4 v R.length ((R.zip ts).flatMap (λp=>TV.cells p.2 p.1))/\∀(i:Nat)(s:ak)(t:TV),R[i]?=some s->ts[i]?=some t->wS v.ownBlock g w t s/\lN B t
theorem jJ.below{g B:Nat}{w w':World}{v:Value}{R:List ak}(h:jJ g B w v R)(hb:Below w.heap.size w w'):jJ g B w' v R:=by
 obtain⟨h0,ts,h1,h2,h3⟩:=h;exact⟨h0,ts,h1,ownsRow_below h2 hb,λi s t hs ht=>⟨(h3 i s t hs ht).1.below hb,(h3 i s t hs ht).2⟩⟩
theorem jJ.upd{g B:Nat}{w w':World}{v:Value}{R:List ak}(h:jJ g B w v R)(hu:aG (λk=>k=g) w w'):jJ g B w' v R:=by
 obtain⟨h0,ts,h1,h2,h3⟩:=h;refine⟨h0,ts,h1,⟨h2.1,?_⟩,λi s t hs ht=>⟨(h3 i s t hs ht).1.upd hu,(h3 i s t hs ht).2⟩⟩;rcases h2.2 with e|⟨b,cap,cur,hv,hB,hg,r⟩
 .exact .inl e
 .exact .inr ⟨b,cap,cur,hv,hB,hu.keep hg (h0 b (by rw[hv];rfl)),r⟩
theorem jJ.ret{g B:Nat}{w:World}{v:Value}{R:List ak}(h:jJ g B w v R):∃A c,v= .slice A R.length c/\aW B w ⟨A,c⟩ R:=by
 obtain⟨_,ts,h1,h2,h3⟩:=h;obtain⟨A,c,rfl,hAt⟩:=kY h2 (cells_one _);exact⟨A,c,rfl,λb off e=>(h2.lt b (by simp only at e;rw[e];rfl)).1,ts,h1,hAt,λi s t hs ht=>⟨(h3 i s t hs ht).1.at,(h3 i s t hs ht).2⟩⟩
theorem jJ.sep{g B:Nat}{w z z':World}{v:Value}{R:List ak}(h:jJ g B w v R)(hg:g<z.heap.size)(hz:w.heap.size<=z.heap.size){t:TV}{s:ak}(hs:aQ z' t s)(hn:lN z.heap.size t):wS v.ownBlock g z' t s:=by
 obtain⟨_,ts,h1,h2,h3⟩:=h;exactλw' hu=>hs.kX hn hu (λk hk=>by
  rcases hk with hk|hk
  .have:=(h2.lt k hk.symm).2;omega
  .omega)
theorem yN{W:World}{ops:Array Oper}{rest:List Oper}{o:Oper}{a:Act}{Q:Exit->Act->World->Prop}
 (hg:o.guard=none)(so x:Operand)(hop:o.op=Op.call {callee:=Callee.builtin Builtin.append,args:=#[so,x],argTypes:=#[41,41]})
 (g B:Nat)(v:Value)(R:List ak)(hs:a.eval so=v)(hown:jJ g B W v R)(t:TV)(s:ak)(hst:wS v.ownBlock g W t s)(hnt:lN B t)(arr:Array Value)(harr:arr=(t.cells s).toArray)
 (hx:a.eval x= .slice (some ⟨W.heap.size,0,none⟩) 1 1)(hlen:R.length<=1000000)(hBW:B<=W.heap.size)(hgW:g<W.heap.size)
 (hK:∀A' c' w',jJ g B w' (.slice A' (R++[s]).length c') (R++[s])->wS (Value.slice A' (R++[s]).length c').ownBlock g w' t s->Below B W w'->w'.heap[g]?=W.heap[g]?->wpList prog ops Q rest (a.put o.dst (.slice A' (R++[s]).length c')) w'):
 wpList prog ops Q (o::rest) a (W.alloc (.cells arr 48)):=by
 subst harr;obtain⟨h0,ts,h1,h2,h3⟩:=hown;obtain⟨is,hsi,hsz,hss,hsb⟩:=info_parts' (P:=prog) (t:=48) (z:=some eF) (s:=4) (b:=80) (by kernel_rfl);have hba:Below W.heap.size W (W.alloc (.cells (t.cells s).toArray 48)):=aJ (aC _ _) _;refine wpList_append_own_at _ hg so x 41 hop B 48 is eF 4 80 underlying41 hsi hsz hss hsb rfl (by decide) v R.length _ hs (World.ownsRow.alloc h2 _) ⟨W.heap.size,0,none⟩ 1 1 (t.cells s) hx rfl
  (λj u hj=>by
   rw[Addr.add_lit,aK _ _ (0+j) _ _ _ (bK W _)];simpa using hj) (by
   intro u hu;simp only[TV.cells,ak.cells,dx,iQ,or_false]at hu;rcases hu with rfl|rfl|rfl|rfl<;>rfl) (by unfold maxLen;omega) (by omega) (by simp;omega) ?_
 intro v' w' hown' hgrow _ hblk;have YC:aG (λk=>some k=v.ownBlock\/k=g) (W.alloc (.cells (t.cells s).toArray 48)) w':=⟨hgrow.os,hgrow.tape,hgrow.output,hgrow.size,λk hk hn=>hgrow.block k hk (λe=>hn (.inl e))⟩;have hsep:∀(t':TV)(s':ak),wS v.ownBlock g W t' s'->wS v'.ownBlock g w' t' s':=λt' s' h w'' hu=>
  (h.below hba) w'' (YC.trans hu (λi hi e=>by
   rcases e with e|e
   .rcases hblk with hblk|hblk
    .rw[<-hblk];exact .inl e
    .rw[hblk]at e;injection e with e;omega
   .exact .inr e))
 suffices hso:jJ g B w' v' (R++[s])/\Below B W w'/\w'.heap[g]?=W.heap[g]? by
  obtain⟨A',c',e,_⟩:=hso.1.ret;subst e;exact hK A' c' w' hso.1 (hsep _ _ hst) hso.2.1 hso.2.2
 refine⟨⟨?_,ts++[t],by simp[h1],?_,λi x' t' hx' ht'=>?_⟩,?_,?_⟩
 .intro k hk
  rcases hblk with hblk|hblk
  .rw[hblk]at hk;exact h0 k hk
  .rw[hblk]at hk;injection hk with hk;simp at hk;omega
 .rw[List.zip_append h1.symm,Bt,mU,rP]
  simpa using hown'
 .by_cases hi:i<R.length
  .rw[kH hi]at hx'
   rw[kH (by rw[h1];exact hi)]at ht';exact⟨hsep _ _ (h3 i x' t' hx' ht').1,(h3 i x' t' hx' ht').2⟩
  .rw[lW (by omega)]at hx'
   rw[lW (by rw[h1];omega),h1]at ht';cases hk:i - R.length with
   |zero=>
    rw[hk]at hx' ht';simp at hx' ht';rw[<-hx',<-ht'];exact⟨hsep _ _ hst,hnt⟩
   |succ q=>rw[hk]at hx';simp at hx'
 .exact((aC _ W).alloc hBW _).grown hgrow (by simp;omega) (λk hk=>(h2.lt k hk).1)
 .rw[hgrow.block g (by simp;omega) (λe=>h0 g e.symm rfl)]
  exact hba.block g hgW
def aaW(C:au)(l:List Int)(w:World)(e:Ending)(w':World):Prop:=
 ∃(A:Option Addr)(c:Nat)(R:List ak)(er:Int),e= .returned (.tuple #[.slice A R.length c,.int .i64 er])/\Below w.heap.size w w'/\
  ((er=0/\Good C l/\R=C.trail l l.length/\aW w.heap.size w' ⟨A,c⟩ R)\/(er≠0/\¬Good C l/\A=none/\c=0/\R=[]))
end
open Go.RowKit Go.Shelf Tryz
theorem frozen_of_row{w:World}{g:Nat}{cs:Array Value}{t:TypeId}(h:w.heap[g]?=some (.cells cs t (0,0)))(i:Nat):w.frozen? ⟨g,i,none⟩=false:=by simp[World.frozen?,h]
theorem YE{w W:World}{g:Nat}{y0 y1 y2 y3 x0 x1 x2 x3:Value}{t:TypeId}(h:w.heap[g]?=some (.cells #[y0,y1,y2,y3] t (0,0)))
 (hW:W=(((w.setCell ⟨g,0,none⟩ x0).setCell ⟨g,1,none⟩ x1).setCell ⟨g,2,none⟩ x2).setCell ⟨g,3,none⟩ x3):W.heap[g]?=some (.cells #[x0,x1,x2,x3] t (0,0)):=by
 subst hW;have one:∀{w:World}{cs:Array Value}(i:Nat)(x:Value),w.heap[g]?=some (.cells cs t (0,0))->(w.setCell ⟨g,i,none⟩ x).heap[g]?=some (.cells (cs.setIfInBounds i x) t (0,0)):=λ{w cs} i x h=>by
  simp[World.setCell,Array.getElem?_modify,h]
 exact one 3 x3 (one 2 x2 (one 1 x1 (one 0 x0 h)))
theorem aaX(v:CV)(C:au)(lv:SV)(l:List Int)(w:World)(hC:bO w v C)(hV:At w 1 lv.A l.length lv.c (aZ l)):Calls prog 15 #[v.val C,.slice lv.A l.length lv.c] w (aaW C l w):=by
 obtain⟨⟨dV,dW⟩,⟨dX,dY⟩,⟨fB,dH⟩,⟨eZ,dM⟩,⟨dQ,dR⟩⟩:=v;obtain⟨lA,lc⟩:=lv;have hlx:l.length<=9223372036854775807:=nZ hV;have HC:=ah hC;clear hC;have HL:=ah hV;clear hV;simp only[CV.val,CV.cells];go_enter func15,ntmps15;go_upto_region 1 with(fail)
 generalize hW0:World.alloc _ _=W0;obtain⟨HB,hh0⟩:=bx1 hW0;clear hW0;obtain⟨iC,iD,iI,iy,iP,jc,jA⟩:=CS hh0;clear hh0;change Code.wp _ _ _ _ (Bl.val (⟨W0,aC _ _⟩:Bl W0));generalize(⟨W0,aC _ _⟩:Bl W0)=s0;have HBG:=ah (λz:Bl W0=>DI (⟨⟨dV,dW⟩,⟨dX,dY⟩,⟨fB,dH⟩,⟨eZ,dM⟩,⟨dQ,dR⟩⟩:CV) C z.val (HC.out.below (av HB.out z.prop)));simp only[CV.val,CV.cells]at HBG;cases qv:C.valid with
 |false=>
  rw[qv]at HBG;have HNG:Hid (¬Good C l):=λh=>by rw[h.valid]at qv;cases qv
  have yL:Hid (∀z:Bl W0,Calls prog 38 #[.agg #[.int .i64 C.aF,.slice dV C.aj.length dW,.slice dX C.units.length dY,.slice fB C.acts.length dH,.slice eZ C.clauses.length dM,.int .i64 C.days,.slice dQ C.off.length dR]] z.val (λe w'=>e= .returned (.tuple #[.agg #[.int .i64 0,.slice none 0 0,.slice none 0 0,.slice none 0 0],.int .i64 1])/\Below z.val.heap.size z.val w')):=λz=>(HBG.out z).mono (by
   rintro e w' ⟨hb,⟨h0,_⟩|⟨_,he⟩⟩
   .cases h0
   .exact⟨he,hb⟩)
  go_wp2_with (go_at_call 38;refine(yL.out _).mono ?_;rintro e z1 ⟨rfl,hz⟩;obtain⟨z1,rfl⟩:=Bl.on hz;clear hz)
  go_ret2
  exact⟨none,0,[],1,rfl,av HB.out (aJ (Bl.prop _) _),.inr ⟨by decide,HNG.out,rfl,rfl,rfl⟩⟩
 |true=>
  rw[qv]at HBG;have yL:=ah (λz:Bl W0=>(HBG.out z).mono (λ_ _ h=>h.ret));generalize hfs:C.first=s1 at yL;have ZH:=ah hfs;clear hfs;go_wp2_with (go_at_call 38;refine(yL.out _).mono ?_;rintro e z1 ⟨TN,TP,TQ,TR,TS,TT,rfl,hst,hnt,hz⟩;refine Hid.out ?_);refine ah ?_;obtain⟨zb,Io⟩:∃zb:Bl W0,Hid (Below zb.val.heap.size zb.val z1/\lN zb.val.heap.size (⟨⟨TN,TP⟩,⟨TQ,TR⟩,⟨TS,TT⟩⟩:TV)):=⟨_,hz,hnt⟩;have HST:=ah hst;clear hz hnt hst;go_upto_region 2 with(fail)
  obtain⟨Wg,WM⟩:∃Wg,Hid (Wg=z1.alloc (.cells #[.int .i64 s1.day,.slice TN s1.aj.length TP,.slice TQ s1.used.length TR,.slice TS s1.marks.length TT] 48)):=⟨_,rfl⟩;rw[<-WM.out];have hbg:Below z1.heap.size z1 Wg:=by rw[WM.out];exact aJ (aC _ _) _
  have hxg:Wg.heap[z1.heap.size]?=some (.cells #[.int .i64 s1.day,.slice TN s1.aj.length TP,.slice TQ s1.used.length TR,.slice TS s1.marks.length TT] 48 (0,0)):=by rw[WM.out];exact bK z1 _
  obtain⟨g,HG⟩:∃g,Hid (g=z1.heap.size):=⟨_,rfl⟩;have mV:Hid (Below W0.heap.size W0 Wg):=av (av zb.prop Io.out.1) hbg;have Ih:Hid (lN W0.heap.size (⟨⟨TN,TP⟩,⟨TQ,TR⟩,⟨TS,TT⟩⟩:TV)):=Io.out.2.mono zb.prop.size;have g0:Wg.cell? ⟨z1.heap.size,0,none⟩=some (.int .i64 s1.day):=(aK Wg _ 0 _ _ _ hxg).trans rfl;have g1:Wg.cell? ⟨z1.heap.size,1,none⟩=some (.slice TN s1.aj.length TP):=(aK Wg _ 1 _ _ _ hxg).trans rfl;have g2:Wg.cell? ⟨z1.heap.size,2,none⟩=some (.slice TQ s1.used.length TR):=(aK Wg _ 2 _ _ _ hxg).trans rfl;have g3:Wg.cell? ⟨z1.heap.size,3,none⟩=some (.slice TS s1.marks.length TT):=(aK Wg _ 3 _ _ _ hxg).trans rfl;cases q4:decide ((4000:Int)<(l.length:Int))with
  |true=>
   have HNG:Hid (¬Good C l):=λh=>by have:=h.len;rw[decide_eq_true_eq]at q4;omega
   go_wp2
   go_ret2
   exact⟨none,0,[],3,rfl,av HB.out mV.out,.inr ⟨by decide,HNG.out,rfl,rfl,rfl⟩⟩
  |false=>
   have HL4:Hid (l.length<=4000):=by show l.length<=4000;rw[decide_eq_false_iff_not]at q4;omega
   go_upto_region 7 with(fail)
   have HRW:Hid (jJ g W0.heap.size (Wg.alloc (.cells #[.int .i64 s1.day,.slice TN s1.aj.length TP,.slice TQ s1.used.length TR,.slice TS s1.marks.length TT] 48)) (.slice (some ⟨Wg.heap.size,0,none⟩) [s1].length 1) [s1]/\wS (Value.slice (some ⟨Wg.heap.size,0,none⟩) [s1].length 1).ownBlock g (Wg.alloc (.cells #[.int .i64 s1.day,.slice TN s1.aj.length TP,.slice TQ s1.used.length TR,.slice TS s1.marks.length TT] 48)) (⟨⟨TN,TP⟩,⟨TQ,TR⟩,⟨TS,TT⟩⟩:TV) s1):=by
    have hgl:=aB hxg;have hsep:wS (some Wg.heap.size) g (Wg.alloc (.cells #[.int .i64 s1.day,.slice TN s1.aj.length TP,.slice TQ s1.used.length TR,.slice TS s1.marks.length TT] 48)) (⟨⟨TN,TP⟩,⟨TQ,TR⟩,⟨TS,TT⟩⟩:TV) s1:=λw' hu=>
     HST.out.below ((hbg.trans ((aJ (aC _ Wg) _).mono hbg.size)).trans (hu.below (by simp;omega) (λk hk=>by
      have h1:=HG.out;have h2:=hbg.size;rcases hk with hk|hk
      .injection hk with hk;omega
      .omega)))
    refine⟨⟨λk hk=>?_,[(⟨⟨TN,TP⟩,⟨TQ,TR⟩,⟨TS,TT⟩⟩:TV)],rfl,⟨rfl,.inr ⟨Wg.heap.size,1,_,rfl,mV.out.size,bK Wg _,bJ _,by decide,rfl,rfl⟩⟩,λi s t hs ht=>?_⟩,hsep⟩
    .have h1:=HG.out
     injection hk with hk
     simp only at hk;omega
    .cases i with
     |zero=>simp at hs ht;subst hs ht;exact⟨hsep,Ih.out⟩
     |succ i=>simp at hs
   obtain⟨Wr,HWr⟩:∃Wr,Hid (Wr=Wg.alloc (.cells #[.int .i64 s1.day,.slice TN s1.aj.length TP,.slice TQ s1.used.length TR,.slice TS s1.marks.length TT] 48)):=⟨_,rfl⟩;rw[<-HWr.out]at HRW⊢;have hbr:Below Wg.heap.size Wg Wr:=by rw[HWr.out];exact aJ (aC _ _) _
   have HXG:Hid (Wr.heap[g]?=some (.cells #[.int .i64 s1.day,.slice TN s1.aj.length TP,.slice TQ s1.used.length TR,.slice TS s1.marks.length TT] 48 (0,0))):=by show _=_;rw[HG.out,hbr.block _ (aB hxg)];exact hxg
   have Nf:Hid (Below W0.heap.size W0 Wr):=av mV.out hbr;have ZL:Hid (W0.heap.size<=g):=by show _<=_;rw[HG.out];exact(av zb.prop Io.out.1).size
   rw[<-HG.out];clear hbr g0 g1 g2 g3 hxg hbg;go_wp2
   go_loopg [26,8] l.length (λgk v26 v8 wr=>∃(k:Nat)(R:List ak)(A8:Option Addr)(c8:Nat)(s:ak)(eu:Option Addr)(dN:Nat)(eH:Option Addr)(dL:Nat)(fF:Option Addr)(bY:Nat),gk=l.length - k/\k<=l.length/\v26= .int .i64 k/\v8= .slice A8 R.length c8/\Hid (R=C.trail l k/\s=C.J5 (l.take k))/\Hid (∀(i:Nat)(x:Int),i<k->l[i]?=some x->C.dP (C.J5 (l.take i)) x=0)/\Hid (jJ g W0.heap.size wr (.slice A8 R.length c8) R)/\Hid (wS (Value.slice A8 R.length c8).ownBlock g wr (⟨⟨eu,dN⟩,⟨eH,dL⟩,⟨fF,bY⟩⟩:TV) s)/\Hid (wr.heap[g]?=some (.cells #[.int .i64 s.day,.slice eu s.aj.length dN,.slice eH s.used.length dL,.slice fF s.marks.length bY] 48 (0,0)))/\Hid (Below W0.heap.size W0 wr))
   case atStart=>exact⟨0,[s1],_,_,s1,TN,TP,TQ,TR,TS,TT,rfl,aU _,rfl,rfl,⟨by rw[<-ZH.out];rfl,ZH.out.symm⟩,(λi x h=>by omega),HRW.out.1,HRW.out.2,HXG.out,Nf.out⟩
   case round=>
    obtain⟨k,R,A8,c8,s,eu,dN,eH,dL,fF,bY,eO,hk,rfl,rfl,HR,WE,HN,KQ,HX,HW⟩:=hrel;have iw:=ah eO;clear eO;by_cases hlt:k<l.length
    .obtain⟨x,hx⟩:∃x,l[k]?=some x:=⟨_,aS hlt⟩
     obtain⟨lb,lo,hA,hlb,hlc⟩:=(HL.out.below (by omega) (av HB.out HW.out)).1.form (by omega) (by omega);try simp only at hA
     subst hA;have cl:wr.cell? ⟨lb,lo+k,none⟩=some (.int .i64 x):=by rw[hlc k (by omega)];simp only[aZ,gK,hx,mZ]
     have HXK:=ah hx;clear hx hlc;have k1:(k:Int)<(l.length:Int):=by omega
     have y0:=wP HW.out iC;have y1:=wP HW.out iD;have y2:=wP HW.out iI;have y3:=wP HW.out iy;have y4:=wP HW.out iP;have y5:=wP HW.out jc;have y6:=wP HW.out jA;have d0:∀z:Bl wr,z.val.cell? ⟨g,0,none⟩=some (.int .i64 s.day):=λz=>z.cell ((aK wr _ 0 _ _ _ HX.out).trans rfl);have d1:∀z:Bl wr,z.val.cell? ⟨g,1,none⟩=some (.slice eu s.aj.length dN):=λz=>z.cell ((aK wr _ 1 _ _ _ HX.out).trans rfl);have d2:∀z:Bl wr,z.val.cell? ⟨g,2,none⟩=some (.slice eH s.used.length dL):=λz=>z.cell ((aK wr _ 2 _ _ _ HX.out).trans rfl);have d3:∀z:Bl wr,z.val.cell? ⟨g,3,none⟩=some (.slice fF s.marks.length bY):=λz=>z.cell ((aK wr _ 3 _ _ _ HX.out).trans rfl);have E9:=ah (λz:Bl wr=>uV (⟨⟨dV,dW⟩,⟨dX,dY⟩,⟨fB,dH⟩,⟨eZ,dM⟩,⟨dQ,dR⟩⟩:CV) C (⟨⟨eu,dN⟩,⟨eH,dL⟩,⟨fF,bY⟩⟩:TV) s x z.val (HC.out.below (av HB.out (av HW.out z.prop))) (KQ.out.at.below z.prop));simp only[CV.val,CV.cells,TV.val,TV.cells,ak.cells]at E9;have Vp:=ah (aB HX.out);obtain⟨za,hza⟩:∃za:Bl wr,za.val=wr:=⟨⟨wr,aC _ _⟩,rfl⟩;rw[<-hza]at cl⊢;clear hza;by_cases he:C.dP s x=0
     .have HE:=ah he;clear he
      have aaY:=ah (λz:Bl wr=>by have h:=E9.out z;rw[HE.out]at h;exact h.mono (λ_ _ h=>h.ret));clear E9;generalize hs':C.next s x=s' at aaY;have qD:=ah hs';clear hs';go_wp2_with (go_at_call 39;refine(aaY.out _).mono ?_;rintro e z2 ⟨E_,Fa,Fb,Fe,Fg,Fh,rfl,yJ,yK,hz2⟩;refine Hid.out ?_);refine ah ?_;obtain⟨zc,HZC⟩:∃zc:Bl wr,Hid (Below zc.val.heap.size zc.val z2/\lN zc.val.heap.size (⟨⟨E_,Fa⟩,⟨Fb,Fe⟩,⟨Fg,Fh⟩⟩:TV)/\aQ z2 (⟨⟨E_,Fa⟩,⟨Fb,Fe⟩,⟨Fg,Fh⟩⟩:TV) s'):=⟨_,hz2,yK,yJ⟩;have hpz:Below wr.heap.size wr z2:=av zc.prop HZC.out.1;clear hz2 yK yJ cl;have e0:=d0 ⟨z2,hpz⟩;have f0:z2.frozen? ⟨g,0,none⟩=false:=frozen_of_row ((hpz.block g Vp.out).trans HX.out) 0;have e1:=d1 ⟨z2,hpz⟩;have f1:z2.frozen? ⟨g,1,none⟩=false:=frozen_of_row ((hpz.block g Vp.out).trans HX.out) 1;have e2:=d2 ⟨z2,hpz⟩;have f2:z2.frozen? ⟨g,2,none⟩=false:=frozen_of_row ((hpz.block g Vp.out).trans HX.out) 2;have e3:=d3 ⟨z2,hpz⟩;have f3:z2.frozen? ⟨g,3,none⟩=false:=frozen_of_row ((hpz.block g Vp.out).trans HX.out) 3;simp only at e0 e1 e2 e3;go_upto_region 11 with(fail)
      obtain⟨Wb,yC⟩:∃Wb,Hid (Wb=(((z2.setCell ⟨g,0,none⟩ (.int .i64 s'.day)).setCell ⟨g,1,none⟩ (.slice E_ s'.aj.length Fa)).setCell ⟨g,2,none⟩ (.slice Fb s'.used.length Fe)).setCell ⟨g,3,none⟩ (.slice Fg s'.marks.length Fh)):=⟨_,rfl⟩;rw[<-yC.out];obtain⟨b0,b1,b2,b3,hub⟩:=o9 e0 e1 e2 e3 yC.out;have HXB:Hid (Wb.heap[g]?=some (.cells #[.int .i64 s'.day,.slice E_ s'.aj.length Fa,.slice Fb s'.used.length Fe,.slice Fg s'.marks.length Fh] 48 (0,0))):=YE ((hpz.block g Vp.out).trans HX.out) yC.out;have Mc:Hid (jJ g W0.heap.size Wb (.slice A8 R.length c8) R):=(HN.out.below hpz).upd hub;have vF:Hid (wS (Value.slice A8 R.length c8).ownBlock g Wb (⟨⟨E_,Fa⟩,⟨Fb,Fe⟩,⟨Fg,Fh⟩⟩:TV) s'):=(HN.out.sep (z:=zc.val) (by have:=zc.prop.size;have:=Vp.out;omega) zc.prop.size HZC.out.2.2 HZC.out.2.1).upd hub;have YG:Hid (lN W0.heap.size (⟨⟨E_,Fa⟩,⟨Fb,Fe⟩,⟨Fg,Fh⟩⟩:TV)):=HZC.out.2.1.mono (by have:=zc.prop.size;have:=HW.out.size;omega);have Qj:Hid (Below W0.heap.size W0 Wb):=(av HW.out hpz).trans (hub.below (by have:=hpz.size;have:=HW.out.size;omega) (λk hk=>by have:=ZL.out;omega));have hbw:=Qj.out.size;have hgw:g<Wb.heap.size:=aB HXB.out;have hrl2:R.length<=1000000:=by have h1:=HL4.out;rw[HR.out.1,KR];omega
      clear e0 e1 e2 e3 f0 f1 f2 f3 hpz hub d0 d1 d2 d3;go_wp2_with (at_builtin;refine yN rfl _ _ rfl g W0.heap.size (.slice A8 R.length c8) R rfl Mc.out (⟨⟨E_,Fa⟩,⟨Fb,Fe⟩,⟨Fg,Fh⟩⟩:TV) s' vF.out YG.out _ rfl rfl hrl2 hbw hgw ?_;intro A9 c9 w9 h1 h2 h3 h4;refine Hid.out ?_);refine ah ?_;have HN9:=ah h1;have HS9:=ah h2;have HW9:Hid (Below W0.heap.size W0 w9):=Qj.out.trans h3;have HX9:Hid (w9.heap[g]?=some (.cells #[.int .i64 s'.day,.slice E_ s'.aj.length Fa,.slice Fb s'.used.length Fe,.slice Fg s'.marks.length Fh] 48 (0,0))):=h4.trans HXB.out;have HR9:Hid (R++[s']=C.trail l (k+1)/\s'=C.J5 (l.take (k+1))):=by
       have h5:s'=C.J5 (l.take (k+1)):=by rw[Im HXK.out,<-HR.out.2];exact qD.out.symm
       exact⟨by rw[Rt,<-HR.out.1,<-h5],h5⟩
      have HL9:Hid (∀(i:Nat)(x:Int),i<k+1->l[i]?=some x->C.dP (C.J5 (l.take i)) x=0):=λi x' hi hx'=>by
       by_cases e:i=k
       .subst e
        rw[HXK.out]at hx';cases hx'
        rw[<-HR.out.2];exact HE.out
       .exact WE.out i x' (by omega) hx'
      clear h1 h2 h3 h4 b0 b1 b2 b3;go_wp2
      go_roundg (l.length - (k+1))
      case measure=>rw[iw.out];omega
      case rel=>exact⟨k+1,R++[s'],A9,c9,s',E_,Fa,Fb,Fe,Fg,Fh,rfl,by omega,by go_num,by simp,HR9,HL9,HN9,HS9,HX9,HW9⟩
     .have HNG:Hid (¬Good C l):=λh=>he (by rw[HR.out.2];exact h.legal k x HXK.out)
      generalize hee:C.dP s x=er at E9 he;have aaY:Hid (∀z:Bl wr,Calls prog 39 #[.agg #[.int .i64 C.aF,.slice dV C.aj.length dW,.slice dX C.units.length dY,.slice fB C.acts.length dH,.slice eZ C.clauses.length dM,.int .i64 C.days,.slice dQ C.off.length dR],.agg #[.int .i64 s.day,.slice eu s.aj.length dN,.slice eH s.used.length dL,.slice fF s.marks.length bY],.int .i64 x] z.val (λe w'=>e= .returned (.tuple #[.agg #[.int .i64 0,.slice none 0 0,.slice none 0 0,.slice none 0 0],.int .i64 er])/\Below z.val.heap.size z.val w')):=λz=>(E9.out z).mono (by
       rintro e w' ⟨hb,⟨h0,_⟩|⟨_,he⟩⟩
       .exact absurd h0 he
       .exact⟨he,hb⟩)
      have hen:(er !=0)=true:=by simpa using he
      have KP:=ah he;clear E9 hee;go_wp2_with (go_at_call 39;refine(aaY.out _).mono ?_;rintro e z2 ⟨rfl,hz2⟩;refine Hid.out ?_);refine ah ?_;obtain⟨zc,HZC⟩:∃zc:Bl wr,Hid (Below zc.val.heap.size zc.val z2):=⟨_,hz2⟩;have hpz:Below wr.heap.size wr z2:=av zc.prop HZC.out;clear hz2 cl;have e0:=d0 ⟨z2,hpz⟩;have f0:z2.frozen? ⟨g,0,none⟩=false:=frozen_of_row ((hpz.block g Vp.out).trans HX.out) 0;have e1:=d1 ⟨z2,hpz⟩;have f1:z2.frozen? ⟨g,1,none⟩=false:=frozen_of_row ((hpz.block g Vp.out).trans HX.out) 1;have e2:=d2 ⟨z2,hpz⟩;have f2:z2.frozen? ⟨g,2,none⟩=false:=frozen_of_row ((hpz.block g Vp.out).trans HX.out) 2;have e3:=d3 ⟨z2,hpz⟩;have f3:z2.frozen? ⟨g,3,none⟩=false:=frozen_of_row ((hpz.block g Vp.out).trans HX.out) 3;simp only at e0 e1 e2 e3;go_upto_region 11 with(fail)
      obtain⟨Wb,yC⟩:∃Wb,Hid (Wb=(((z2.setCell ⟨g,0,none⟩ (.int .i64 0)).setCell ⟨g,1,none⟩ (.slice none 0 0)).setCell ⟨g,2,none⟩ (.slice none 0 0)).setCell ⟨g,3,none⟩ (.slice none 0 0)):=⟨_,rfl⟩;rw[<-yC.out];obtain⟨b0,b1,b2,b3,hub⟩:=o9 e0 e1 e2 e3 yC.out;have Qj:Hid (Below W0.heap.size W0 Wb):=(av HW.out hpz).trans (hub.below (by have:=hpz.size;have:=HW.out.size;omega) (λk hk=>by have:=ZL.out;omega));clear e0 e1 e2 e3 f0 f1 f2 f3 hpz hub;go_wp2
      go_ret2
      exact⟨none,0,[],er,rfl,av HB.out Qj.out,.inr ⟨KP.out,HNG.out,rfl,rfl,rfl⟩⟩
    .obtain rfl:k=l.length:=by omega
     obtain⟨nA,nc,hv8,hN⟩:=HN.out.ret;have Jy:Hid (aW W0.heap.size wr ⟨A8,c8⟩ R):=by
      injection hv8 with e1 _ e2
      rw[e1,e2];exact hN
     clear hv8 hN;go_wp2
     go_ret2
     exact⟨A8,c8,R,0,rfl,av HB.out HW.out,.inl ⟨rfl,⟨qv,HL4.out,λi x hx=>WE.out i x (bB.1 hx).1 hx⟩,HR.out.1,Jy.out.mono HB.out.size⟩⟩
end Go.Proofs.YtpmdedcnbockhaaGreatDoor
