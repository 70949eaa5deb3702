/- part -/
import Derived.Maps.OwnIn
import Derived.Test.YtpmdedcnbockhaaGreatDoorS06
import Derived.DeepKeys4
namespace Go.Proofs.YtpmdedcnbockhaaGreatDoor
section
open Go.RowKit Tryz
def RM(v:Value):Option (DataW Value×List MemPlace):=some (.held v,[])
theorem Xy{v:Value}{d:DataW Value}{ps:List MemPlace}(h:RM v=some (d,ps)):d= .held v:=by
 simp only[RM,Option.some.injEq,Prod.mk.injEq]at h;exact h.1.symm
theorem JO{K:TypeId}{w:World}{b n:Nat}{D:DataW Value}(h:w.ownsMap prog K RM b n D):w.ownsMap prog K RM b (Maps.size D) D:=by
 obtain⟨es,clock,hb,F,hs,rfl⟩:=h;exact⟨es,clock,hb,F,by simp[Maps.size,length_sorted],rfl⟩
def eD{α:Type}(P:α->Prop)(K:TypeId)(enc:α->Lit)(w:World)(b n:Nat)(g:α->Option Value):Prop:=
 ∃D:DataW Value,w.ownsMap prog K RM b (Maps.size D) D/\Maps.size D=n/\(∀a,P a->∀z,D.atKey (enc a) (.held z)= .held ((g a).getD z))/\(∀a,P a->Maps.has D (enc a)=(g a).isSome)/\∀k,Maps.has D k=true->∃a,P a/\k=enc a
variable {α:Type} {P:α->Prop} {K t e:TypeId} {enc:α->Lit} {w:World} {b n:Nat} {g:α->Option Value}
theorem eD.made(w:World):eD P K enc (w.alloc (.map #[] 0)) w.heap.size 0 (λ_=>none):=
 ⟨.map [],World.ownsMap_made _ _ _ _,rfl,λ_ _ _=>rfl,λ_ _=>rfl,λk hk=>by cases hk⟩
theorem eD.lt(h:eD P K enc w b n g):b<w.heap.size:=by
 obtain⟨D,⟨es,c,hb,_⟩,_⟩:=h;exact(lS.1 hb).1
theorem eD.below{w':World}{m:Nat}(h:eD P K enc w b n g)(hm:b<m)(hb:Below m w w'):eD P K enc w' b n g:=by
 obtain⟨D,⟨es,c,h1,h2,h3,h4⟩,h5⟩:=h;exact⟨D,⟨es,c,by rw[hb.block b hm];exact h1,h2,h3,h4⟩,h5⟩
theorem wH{w':World}{b m:Nat}(h:w.mapTurned w' b)(hm:m<=b):Below m w w':=by
 have hb:b<w.heap.size:=by
  obtain⟨es,c,es',c',h1,_⟩:=h;exact(lS.1 h1).1
 have hg:=h.grown;exact⟨hg.os,hg.tape,hg.output,hg.size,λk hk=>hg.block k (by omega) (λe=>by injection e with e;omega)⟩
theorem eD.put[DecidableEq α](inj:∀x y,P x->P y->enc x=enc y->x=y)(law:Maps.Keyed prog K)(ht:prog.underlying t=some (.map K e))(h:eD P K enc w b n g)(hn:n<maxLen){a:α}(ha:P a){key:Value}(hkey:keyOf prog K key=some (enc a))(val:Value):
 ∃w',(Instr.mapUpdate t (.map (some b)) key val).run prog w= .ok () w'/\eD P K enc w' b (if(g a).isSome then n else n+1) (λx=>if x=a then some val else g x)/\w.mapTurned w' b:=by
 obtain⟨D,h1,h2,h3,h4,h5⟩:=h;obtain⟨w',hrun,hown,htr⟩:=h1.store (t:=t) (e:=e) law ht (by rw[h2];exact hn) hkey (val:=val) (d:=.held val) (ps:=[]) rfl;have hsame:∀z,(D.put (enc a) (.held val)).atKey (enc a) z= .held val:=λz=>Maps.atKey_put_same h1.isMap (law.key hkey) _ _;refine⟨w',hrun,⟨D.put (enc a) (.held val),JO hown,?_,λx px z=>?_,λx px=>?_,λk hk=>?_⟩,htr⟩
 .rw[Maps.size_put (h1.tidy law),h4 a ha]
  cases (g a).isSome<;>simp[h2]
 .show _=DataW.held ((if x=a then some val else g x).getD z)
  by_cases hx:x=a
  .rw[if_pos hx,hx,hsame];rfl
  .rw[if_neg hx,Maps.atKey_put_other (λhe=>hx (inj _ _ px ha he)),h3 _ px]
 .show _=(if x=a then some val else g x).isSome
  by_cases hx:x=a
  .rw[if_pos hx,hx,Maps.has_true_of_atKey hsame];rfl
  .rw[if_neg hx,Maps.has_put_other (λhe=>hx (inj _ _ px ha he)),h4 _ px]
 .by_cases hx:k=enc a
  .exact⟨a,ha,hx⟩
  .rw[Maps.has_put_other hx]at hk
   exact h5 k hk
theorem eD.len(ht:prog.underlying t=some (.map K e))(h:eD P K enc w b n g)(ty:TypeId):(Builtin.len_ #[t] ty #[.map (some b)]).run prog w= .ok (.int .i64 (n:Nat)) w:=by
 obtain⟨D,h1,h2,_⟩:=h;rw[<-h2];exact h1.len (e:=e) ht ty
theorem eD.look(law:Maps.Keyed prog K)(ht:prog.underlying t=some (.map K e))(h:eD P K enc w b n g){z:Value}(hz:(zeroValue e).run prog w= .ok z w){a:α}(ha:P a){key:Value}(hkey:keyOf prog K key=some (enc a)):
 (Instr.lookup t (.map (some b)) key false).run prog w= .ok ((g a).getD z) w:=by
 obtain⟨D,h1,h2,h3,h4,h5⟩:=h;obtain⟨v,ps,hrun,hv⟩:=h1.lookup (t:=t) (e:=e) law ht hz (zd:=.held z) (zp:=[]) rfl hkey;have h6:=Xy hv;rw[h3 _ ha]at h6;have h6:=DataW.held.inj h6;exact h6▸hrun
theorem eD.GJ(law:Maps.Keyed prog K)(ht:prog.underlying t=some (.map K e))(h:eD P K enc w b n g){z:Value}(hz:(zeroValue e).run prog w= .ok z w){a:α}(ha:P a){key:Value}(hkey:keyOf prog K key=some (enc a)):
 (Instr.lookup t (.map (some b)) key true).run prog w= .ok (.tuple #[(g a).getD z,.bool (g a).isSome]) w:=by
 obtain⟨D,h1,h2,h3,h4,h5⟩:=h;obtain⟨v,ps,hrun,hv⟩:=h1.look_ok (t:=t) (e:=e) law ht hz (zd:=.held z) (zp:=[]) rfl hkey;have h6:=Xy hv;rw[h3 _ ha]at h6;have h6:=DataW.held.inj h6;rw[h4 _ ha]at hrun;exact h6▸hrun
end
open Go.RowKit Tryz
def iK(i:Int):Prop:=(Lit.int .i64 i).wf=true
def encI(i:Int):Lit:=.int .i64 i
theorem rW(x y:Int)(_:iK x)(_:iK y)(h:encI x=encI y):x=y:=by
 unfold encI at h;injection h
theorem BP:Maps.Keyed prog 3:=Maps.int_keyed underlying3
theorem Dc{i:Int}(h:iK i):keyOf prog 3 (.int .i64 i)=some (encI i):=Maps.keyOf_int_mk underlying3 h
theorem Tf(w:World):(zeroValue 3).run prog w= .ok (.int .i64 0) w:=by kernel_rfl
theorem abM(w:World):(zeroValue 56).run prog w= .ok (.agg #[.int .i64 0,.int .i64 0,.int .i64 0,.int .i64 0,.int .i64 0,.bool false]) w:=by kernel_rfl
def GK(b:aX):Prop:=iK b.ref/\iK b.next
def pK(b:aX):Lit:=.string (keyBytes [.int .i64 b.ref,.int .i64 b.next])
theorem laidB:laidOutB prog=true:=by kernel_rfl
theorem ajF:(78:TypeId)<prog.types.size:=of_decide_eq_true (by kernel_rfl)
theorem acT:prog.keyTypeAt 2 78=true:=by kernel_rfl
theorem afW:WideMaps.KeyLaw prog 78:=by
 refine deep_law_laid laidB (m:=2) (by omega) ajF acT ?_;rw[underlying78]
theorem aak:Maps.Keyed prog 78:=Maps.Keyed.of_law afW
theorem NY:prog.keyType 78=true:=by kernel_rfl
theorem LB:prog.cellsOf 78=2:=by kernel_rfl
theorem GL:prog.cellsOf 3=1:=by kernel_rfl
theorem afX(m:Nat){x y:Int}(hx:(Lit.int .i64 x).wf=true)(hy:(Lit.int .i64 y).wf=true):prog.keyLits (m+2) 78 [.int .i64 x,.int .i64 y]=some [.int .i64 x,.int .i64 y]:=by
 have hi:∀z:Int,(Lit.int .i64 z).wf=true->prog.keyLits (m+1) 3 [.int .i64 z]=some [.int .i64 z]:=by
  intro z hz;unfold Program.keyLits;rw[underlying3];simp[hz]
 unfold Program.keyLits;rw[underlying78];simp[LB,GL,hi x hx,hi y hy]
theorem aal{b:aX}(h:GK b):keyOf prog 78 (.agg #[.int .i64 b.ref,.int .i64 b.next])=some (pK b):=by
 obtain⟨h1,h2⟩:=h;unfold iK at h1 h2;have hf:(Value.agg #[.int .i64 b.ref,.int .i64 b.next]).formed prog 78=true:=by
  simp[Value.formed,underlying78,LB]
 unfold keyOf;rw[underlying78];simp only[NY,hf,Bool.and_self,if_true];obtain⟨m,hm⟩:∃m,prog.types.size+1=m+2:=⟨prog.types.size - 1,by have h:0<prog.types.size:=of_decide_eq_true (by kernel_rfl);omega⟩;rw[hm];show Option.map _ (prog.keyLits (m+2) 78 [.int .i64 b.ref,.int .i64 b.next])=_;rw[afX m h1 h2];rfl
theorem NZ(x y:aX)(hx:GK x)(hy:GK y)(h:pK x=pK y):x=y:=by
 have h1:=aal hx;have h2:=aal hy;rw[h]at h1;have h3:=aak.inj h1 h2;obtain⟨a,b⟩:=x;obtain⟨c,d⟩:=y;simp only[Value.agg.injEq,Array.mk.injEq,List.cons.injEq,Value.int.injEq,true_and,and_true]at h3;rw[h3.1,h3.2]
theorem afY(w:World):(zeroValue 4).run prog w= .ok (.bool false) w:=by kernel_rfl
end Go.Proofs.YtpmdedcnbockhaaGreatDoor
