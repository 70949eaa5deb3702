/-
  CsM; CsN
-/
import Derived.Maps.OwnIn
import Derived.Test.YtpmdedcnbockhaaGreatDoorP06
import Derived.DeepKeys4
namespace Go.Proofs.YtpmdedcnbockhaaGreatDoor
section
open Go.RowKit
def RM(v:Value):Option (DataW Value×List MemPlace):=some (.held v,[])
theorem Ws{v:Value}{d:DataW Value}{ps:List MemPlace}(h:RM v=some (d,ps)):d= .held v:=by
 simp only[RM,Option.some.injEq,Prod.mk.injEq]at h;exact h.1.symm
theorem Jc{K:TypeId}{w:World}{b n:Nat}{D:DataW Value}(h:w.ownsMap Tryz.prog K RM b n D):w.ownsMap Tryz.prog K RM b (Maps.size D) D:=by
 obtain⟨es,clock,hb,F,hs,rfl⟩:=h;exact⟨es,clock,hb,F,by simp[Maps.size,length_sorted],rfl⟩
def d9{α:Type}(P:α->Prop)(K:TypeId)(enc:α->Lit)(w:World)(b n:Nat)(g:α->Option Value):Prop:=
 ∃D:DataW Value,w.ownsMap Tryz.prog K RM b (Maps.size D) D/\Maps.size D=n/\(∀a,P a->∀z,D.atKey (enc a) (.held z)= .held ((g a).getD z))/\(∀a,P a->Maps.has D (enc a)=(g a).isSome)/\∀k,Maps.has D k=true->∃a,P a/\k=enc a
variable {α:Type} {P:α->Prop} {K t e:TypeId} {enc:α->Lit} {w:World} {b n:Nat} {g:α->Option Value}
theorem d9.made(w:World):d9 P K enc (w.alloc (.map #[] 0)) w.heap.size 0 (λ_=>none):=
 ⟨.map [],World.ownsMap_made _ _ _ _,rfl,λ_ _ _=>rfl,λ_ _=>rfl,λk hk=>by cases hk⟩
theorem d9.lt(h:d9 P K enc w b n g):b<w.heap.size:=by
 obtain⟨D,⟨es,c,hb,_⟩,_⟩:=h;exact(kW.1 hb).1
theorem d9.below{w':World}{m:Nat}(h:d9 P K enc w b n g)(hm:b<m)(hb:Below m w w'):d9 P K enc w' b n g:=by
 obtain⟨D,⟨es,c,h1,h2,h3,h4⟩,h5⟩:=h;exact⟨D,⟨es,c,by rw[hb.block b hm];exact h1,h2,h3,h4⟩,h5⟩
theorem vP{w':World}{b m:Nat}(h:w.mapTurned w' b)(hm:m<=b):Below m w w':=by
 have hb:b<w.heap.size:=by
  obtain⟨es,c,es',c',h1,_⟩:=h;exact(kW.1 h1).1
 have hg:=h.grown;exact⟨hg.os,hg.tape,hg.output,hg.size,λk hk=>hg.block k (by omega) (λe=>by injection e with e;omega)⟩
theorem d9.put[DecidableEq α](inj:∀x y,P x->P y->enc x=enc y->x=y)(law:Maps.Keyed Tryz.prog K)(ht:Tryz.prog.underlying t=some (.map K e))(h:d9 P K enc w b n g)(hn:n<maxLen){a:α}(ha:P a){key:Value}(hkey:keyOf Tryz.prog K key=some (enc a))(val:Value):
 ∃w',(Instr.mapUpdate t (.map (some b)) key val).run Tryz.prog w= .ok () w'/\d9 P K enc w' b (if(g a).isSome then n else n+1) (λx=>if x=a then some val else g x)/\w.mapTurned w' b:=by
 obtain⟨D,h1,h2,h3,h4,h5⟩:=h;obtain⟨w',hrun,hown,htr⟩:=h1.store (t:=t) (e:=e) law ht (by rw[h2];exact hn) hkey (val:=val) (d:=.held val) (ps:=[]) rfl;have hsame:∀z,(D.put (enc a) (.held val)).atKey (enc a) z= .held val:=λz=>Maps.atKey_put_same h1.isMap (law.key hkey) _ _;refine⟨w',hrun,⟨D.put (enc a) (.held val),Jc hown,?_,λx px z=>?_,λx px=>?_,λk hk=>?_⟩,htr⟩
 .rw[Maps.size_put (h1.tidy law),h4 a ha]
  cases (g a).isSome<;>simp[h2]
 .show _=DataW.held ((if x=a then some val else g x).getD z)
  by_cases hx:x=a
  .rw[if_pos hx,hx,hsame];rfl
  .rw[if_neg hx,Maps.atKey_put_other (λhe=>hx (inj _ _ px ha he)),h3 _ px]
 .show _=(if x=a then some val else g x).isSome
  by_cases hx:x=a
  .rw[if_pos hx,hx,Maps.has_true_of_atKey hsame];rfl
  .rw[if_neg hx,Maps.has_put_other (λhe=>hx (inj _ _ px ha he)),h4 _ px]
 .by_cases hx:k=enc a
  .exact⟨a,ha,hx⟩
  .rw[Maps.has_put_other hx]at hk
   exact h5 k hk
theorem d9.len(ht:Tryz.prog.underlying t=some (.map K e))(h:d9 P K enc w b n g)(ty:TypeId):(Builtin.len_ #[t] ty #[.map (some b)]).run Tryz.prog w= .ok (.int .i64 (n:Nat)) w:=by
 obtain⟨D,h1,h2,_⟩:=h;rw[<-h2];exact h1.len (e:=e) ht ty
theorem d9.look(law:Maps.Keyed Tryz.prog K)(ht:Tryz.prog.underlying t=some (.map K e))(h:d9 P K enc w b n g){z:Value}(hz:(zeroValue e).run Tryz.prog w= .ok z w){a:α}(ha:P a){key:Value}(hkey:keyOf Tryz.prog K key=some (enc a)):
 (Instr.lookup t (.map (some b)) key false).run Tryz.prog w= .ok ((g a).getD z) w:=by
 obtain⟨D,h1,h2,h3,h4,h5⟩:=h;obtain⟨v,ps,hrun,hv⟩:=h1.lookup (t:=t) (e:=e) law ht hz (zd:=.held z) (zp:=[]) rfl hkey;have h6:=Ws hv;rw[h3 _ ha]at h6;have h6:=DataW.held.inj h6;exact h6▸hrun
theorem d9.KO(law:Maps.Keyed Tryz.prog K)(ht:Tryz.prog.underlying t=some (.map K e))(h:d9 P K enc w b n g){z:Value}(hz:(zeroValue e).run Tryz.prog w= .ok z w){a:α}(ha:P a){key:Value}(hkey:keyOf Tryz.prog K key=some (enc a)):
 (Instr.lookup t (.map (some b)) key true).run Tryz.prog w= .ok (.tuple #[(g a).getD z,.bool (g a).isSome]) w:=by
 obtain⟨D,h1,h2,h3,h4,h5⟩:=h;obtain⟨v,ps,hrun,hv⟩:=h1.look_ok (t:=t) (e:=e) law ht hz (zd:=.held z) (zp:=[]) rfl hkey;have h6:=Ws hv;rw[h3 _ ha]at h6;have h6:=DataW.held.inj h6;rw[h4 _ ha]at hrun;exact h6▸hrun
end
open Go.RowKit
def gW(i:Int):Prop:=(Lit.int .i64 i).wf=true
def encI(i:Int):Lit:=.int .i64 i
theorem qZ(x y:Int)(_:gW x)(_:gW y)(h:encI x=encI y):x=y:=by
 unfold encI at h;injection h
theorem AP:Maps.Keyed Tryz.prog 3:=Maps.int_keyed Tryz.underlying3
theorem Ci{i:Int}(h:gW i):keyOf Tryz.prog 3 (.int .i64 i)=some (encI i):=Maps.keyOf_int_mk Tryz.underlying3 h
theorem RX(w:World):(zeroValue 3).run Tryz.prog w= .ok (.int .i64 0) w:=by kernel_rfl
theorem aaD(w:World):(zeroValue 56).run Tryz.prog w= .ok (.agg #[.int .i64 0,.int .i64 0,.int .i64 0,.int .i64 0,.int .i64 0,.bool false]) w:=by kernel_rfl
def F7(b:aX):Prop:=gW b.ref/\gW b.next
def oK(b:aX):Lit:=.string (keyBytes [.int .i64 b.ref,.int .i64 b.next])
theorem laidB:laidOutB Tryz.prog=true:=by kernel_rfl
theorem ais:(78:TypeId)<Tryz.prog.types.size:=of_decide_eq_true (by kernel_rfl)
theorem abB:Tryz.prog.keyTypeAt 2 78=true:=by kernel_rfl
theorem aeJ:WideMaps.KeyLaw Tryz.prog 78:=by
 refine deep_law_laid laidB (m:=2) (by omega) ais abB ?_;rw[Tryz.underlying78]
theorem Zf:Maps.Keyed Tryz.prog 78:=Maps.Keyed.of_law aeJ
theorem M7:Tryz.prog.keyType 78=true:=by kernel_rfl
theorem KP:Tryz.prog.cellsOf 78=2:=by kernel_rfl
theorem F8:Tryz.prog.cellsOf 3=1:=by kernel_rfl
theorem aeK(m:Nat){x y:Int}(hx:(Lit.int .i64 x).wf=true)(hy:(Lit.int .i64 y).wf=true):Tryz.prog.keyLits (m+2) 78 [.int .i64 x,.int .i64 y]=some [.int .i64 x,.int .i64 y]:=by
 have hi:∀z:Int,(Lit.int .i64 z).wf=true->Tryz.prog.keyLits (m+1) 3 [.int .i64 z]=some [.int .i64 z]:=by
  intro z hz;unfold Program.keyLits;rw[Tryz.underlying3];simp[hz]
 unfold Program.keyLits;rw[Tryz.underlying78];simp[KP,F8,hi x hx,hi y hy]
theorem Zg{b:aX}(h:F7 b):keyOf Tryz.prog 78 (.agg #[.int .i64 b.ref,.int .i64 b.next])=some (oK b):=by
 obtain⟨h1,h2⟩:=h;unfold gW at h1 h2;have hf:(Value.agg #[.int .i64 b.ref,.int .i64 b.next]).formed Tryz.prog 78=true:=by
  simp[Value.formed,Tryz.underlying78,KP]
 unfold keyOf;rw[Tryz.underlying78];simp only[M7,hf,Bool.and_self,if_true];obtain⟨m,hm⟩:∃m,Tryz.prog.types.size+1=m+2:=⟨Tryz.prog.types.size - 1,by have h:0<Tryz.prog.types.size:=of_decide_eq_true (by kernel_rfl);omega⟩;rw[hm];show Option.map _ (Tryz.prog.keyLits (m+2) 78 [.int .i64 b.ref,.int .i64 b.next])=_;rw[aeK m h1 h2];rfl
theorem M8(x y:aX)(hx:F7 x)(hy:F7 y)(h:oK x=oK y):x=y:=by
 have h1:=Zg hx;have h2:=Zg hy;rw[h]at h1;have h3:=Zf.inj h1 h2;obtain⟨a,b⟩:=x;obtain⟨c,d⟩:=y;simp only[Value.agg.injEq,Array.mk.injEq,List.cons.injEq,Value.int.injEq,true_and,and_true]at h3;rw[h3.1,h3.2]
theorem aeL(w:World):(zeroValue 4).run Tryz.prog w= .ok (.bool false) w:=by kernel_rfl
end Go.Proofs.YtpmdedcnbockhaaGreatDoor
