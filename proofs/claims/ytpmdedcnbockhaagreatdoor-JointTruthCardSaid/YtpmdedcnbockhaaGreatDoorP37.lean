/-
  Seen0; Seen1; Seen; View
-/
import Derived.Test.YtpmdedcnbockhaaGreatDoorP42
import Derived.Test.YtpmdedcnbockhaaGreatDoorP32
set_option maxRecDepth 100000
set_option maxHeartbeats 8000000
namespace Go.Proofs.YtpmdedcnbockhaaGreatDoor
section
open Go.RowKit Go.Shelf
attribute [local go_sem] Oper.semAt_some
def rP(C:au)(s:ak)(ps:List Int)(x:Int):Bool:=(x== -1)||ps.any (λp=>C.sees s p x)
def aN(C:au)(l:List Int)(ps:List Int):Nat->List Int
 |0=>[]
 |k+1=>match l[k]? with|some x=>cond (rP C (C.sP (l.take k)) ps x) (aN C l ps k++[x]) (aN C l ps k)|none=>aN C l ps k
theorem Iu(C:au)(l ps:List Int):∀k,(aN C l ps k).length<=k
 |0=>bH _
 |k+1=>by
  have:=Iu C l ps k;rw[aN];cases l[k]? with
  |none=>show(aN C l ps k).length<=_;omega
  |some x=>
   show(cond _ _ _:List Int).length<=_;cases rP C (C.sP (l.take k)) ps x
   .show(aN C l ps k).length<=_;omega
   .show(aN C l ps k++[x]).length<=_;rw[lS,vN];omega
theorem xZ{C:au}{l ps:List Int}{k:Nat}{x:Int}(h:l[k]?=some x):aN C l ps (k+1)=cond (rP C (C.sP (l.take k)) ps x) (aN C l ps k++[x]) (aN C l ps k):=by rw[aN,h]
theorem Rz(v:CV)(C:au)(lA:Option Addr)(n lc:Nat)(w:World):Calls Tryz.prog 74 #[v.val C,.slice lA n lc] w (λe w'=>e= .returned (.func (.func 126) #[] #[.pointer (some ⟨w.heap.size,0,none⟩),.pointer (some ⟨w.heap.size+1,0,none⟩)])/\w'=(w.alloc (.cells (v.cells C).toArray 27)).alloc (.cells #[.slice lA n lc] 22)):=by
 obtain⟨⟨dF,dG⟩,⟨dH,dK⟩,⟨dV,dn⟩,⟨dQ,dh⟩,⟨dz,dB⟩⟩:=v;simp only[CV.val,CV.cells];go_enter Tryz.func74,Tryz.ntmps74;go_wp2;go_ret;exact⟨rfl,rfl⟩
theorem qx{F:Fence}{n:Nat}{W:World}{ops:Array Oper}{rest:List Oper}{o:Oper}{a:Act}{Q:Exit->Act->World->Prop}
 (hg:o.guard=none)(so x:Operand)(hop:o.op=Op.call {callee:=Callee.builtin Builtin.append,args:=#[so,x],argTypes:=#[22,22]})
 (B:Nat)(v:Value)(r:List Int)(hs:a.eval so=v)(hown:W.ownsRow B 3 1 v r.length (aR r))(y:Int)
 (hx:a.eval x= .slice (some ⟨W.heap.size,0,none⟩) 1 1)(hlen:r.length<=1000000)(hBW:B<=W.heap.size)
 (hK:∀A' c' w',w'.ownsRow B 3 1 (.slice A' (r++[y]).length c') (r++[y]).length (aR (r++[y]))->(W.alloc (.cells #[.int .i64 y] 3)).grownBy w' v.ownBlock->((Value.slice A' (r++[y]).length c').ownBlock=v.ownBlock\/(Value.slice A' (r++[y]).length c').ownBlock=some (W.heap.size+1))->wpListIn F n Tryz.prog ops Q rest (a.put o.dst (.slice A' (r++[y]).length c')) w'):
 wpListIn F n Tryz.prog ops Q (o::rest) a (W.alloc (.cells #[.int .i64 y] 3)):=by
 obtain⟨is,hsi,hsz,hss,hsb⟩:=info_parts' (P:=Tryz.prog) (t:=3) (z:=some (.int .i64 0)) (s:=1) (b:=8) (by kernel_rfl);refine wpListIn_plain hg λK hK'=>?_;obtain⟨v',w',hrun,r1,r2,_,r4⟩:=run_append_own_at (P:=Tryz.prog) (W.alloc (.cells #[.int .i64 y] 3)) B 22 o.type 3 is (.int .i64 0) 1 8 Tryz.underlying22 hsi hsz hss hsb rfl (by decide) v r.length (aR r) (World.ownsRow.alloc hown _) ⟨W.heap.size,0,none⟩ 1 1 [.int .i64 y] rfl (cell_one_new W _ _) (by intro u hu;simp only[dZ]at hu;subst hu;rfl) (by unfold maxLen;omega) (by omega) (by simp;omega);have hi:aR r++[.int .i64 y]=aR (r++[y]):=by simp[aR]
 have hl:r.length+1=(r++[y]).length:=by simp
 rw[hi,hl]at r1;obtain⟨A',c',rfl,_⟩:=nX r1 (by intro u hu;simp only[aR,dU]at hu;obtain⟨_,_,rfl⟩:=hu;rfl);simp only[aM]at r4;unfold Oper.wpIn;refine⟨?_,?_⟩
 .simp[Oper.about,hop,resolve,Target.leads,Sem.run_pure]
 .rw[Oper.semAt_plain F _ _ (by rw[hop];intro c hc';cases hc')]
  simp[execOp,hop,resolve,invoke,builtin,hs,hx,hrun,Result.andThen];exact hK' _ _ (by have h:=hK A' c' w' r1 r2 r4;rw[<-hl]at h;exact h)
def Vi(C:au)(l ps:List Int)(w:World)(e:Ending)(w':World):Prop:=
 ∃(A:Option Addr)(c:Nat)(r:List Int)(er:Int),e= .returned (.tuple #[.slice A r.length c,.int .i64 er])/\Below w.heap.size w w'/\
  ((er=0/\(∀(k:Nat)(x:Int),l[k]?=some x->C.bT (C.sP (l.take k)) x=0)/\r=aN C l ps l.length/\At w' 1 A r.length c (aR r))\/(er≠0/\A=none/\c=0/\r=[]/\∃(k:Nat)(x:Int),l[k]?=some x/\C.bT (C.sP (l.take k)) x≠0))
structure kS(bp bj:Nat)(v:CV)(C:au)(lA:Option Addr)(lc:Nat)(l ps:List Int)(w:World)(k:Nat)(V:World):Prop where
 below:Below w.heap.size w V
 b0:V.heap[w.heap.size]?=some (.cells (v.cells C).toArray 27 (0,0))
 b1:V.heap[w.heap.size+1]?=some (.cells #[.func (.func 44) #[] #[.pointer (some ⟨bp,0,none⟩),.pointer (some ⟨bj,0,none⟩)]] 96 (0,0))
 b2:V.heap[w.heap.size+1+1]?=some (.cells #[.slice none 0 0] 22 (0,0))
 b3:V.heap[w.heap.size+1+1+1]?=some (.cells #[.int .i64 0] 37 (0,0))
 b5:V.heap[w.heap.size+1+1+1+1+1]?=some (.cells (v.cells C).toArray 27 (0,0))
 b6:V.heap[w.heap.size+1+1+1+1+1+1]?=some (.cells #[.slice lA l.length lc] 22 (0,0))
 row:∃(A:Option Addr)(c:Nat),V.heap[w.heap.size+1+1+1+1]?=some (.cells #[.slice A (aN C l ps k).length c] 22 (0,0))/\V.ownsRow (w.heap.size+1+1+1+1+1+1+1) 3 1 (.slice A (aN C l ps k).length c) (aN C l ps k).length (aR (aN C l ps k))
def tZ(w:World)(k:Nat):Prop:=k=w.heap.size+1+1\/k=w.heap.size+1+1+1\/k=w.heap.size+1+1+1+1
theorem yO{b8:Nat}{V:World}{u:Value}{t:TypeId}(h:V.heap[b8]?=some (.cells #[u] t (0,0))):rowOf b8 V=u.ownBlock:=by
 unfold rowOf;rw[show V.cell? ⟨b8,0,none⟩=some u from(aG _ _ 0 _ _ _ h).trans rfl];rfl
section
variable {bp bj:Nat} {v:CV} {C:au} {lA:Option Addr} {lc:Nat} {l ps:List Int} {w:World} {k:Nat} {V:World}
theorem kS.turns{B:Nat}(h:kS bp bj v C lA lc l ps w k V){V':World}(hB:B=w.heap.size+1+1+1+1+1+1+1)(ht:kH 48 B V V'):kS bp bj v C lA lc l ps w k V':=by
 have kp:∀{b:Nat}{o:Obj},V.heap[b]?=some o->b<B->V'.heap[b]?=some o:=λ{b o} hb hl=>by
  rw[ht.block b (av hb) (λhn=>by have:=hn.1;omega)];exact hb
 obtain⟨A,c,h4,hr⟩:=h.row;refine⟨h.below.trans (ht.below h.below.size (λk hk=>by have:=hk.1;omega)),kp h.b0 (by omega),kp h.b1 (by omega),kp h.b2 (by omega),kp h.b3 (by omega),kp h.b5 (by omega),kp h.b6 (by omega),A,c,kp h4 (by omega),hr.1,?_⟩;rcases hr.2 with e|⟨g,cap,cur,hv,hg,hh,rest⟩
 .exact .inl e
 .refine .inr ⟨g,cap,cur,hv,hg,?_,rest⟩
  rw[ht.block g (av hh) (λhn=>?_)]
  .exact hh
  .obtain⟨_,o,ho,hc⟩:=hn
   rw[hh]at ho;cases ho
   rcases hc with hc|⟨cs,fz,hc⟩
   .cases hc
   .injection hc with _ hc _
    exact absurd hc (by decide)
theorem kS.iter(h:kS bp bj v C lA lc l ps w k V)(hC:bU w v C)(hL:At w 1 lA l.length lc (aR l)):RB v C lA lc l (w.heap.size+1+1+1+1+1) (w.heap.size+1+1+1+1+1+1) (w.heap.size+1+1+1+1) (tZ w) V:=by
 obtain⟨A,c,h4,hr⟩:=h.row;refine⟨hC.below h.below,h.b5,h.b6,hL.below (by omega) h.below,λk hk=>?_,λk hk=>?_,.inr (.inr rfl)⟩
 .rw[yO h4]at hk
  exact(hr.lt k hk).2
 .rcases hk with rfl|rfl|rfl
  .exact av h.b2
  .exact av h.b3
  .exact av h4
theorem Iw.left{B:Nat}(hB:B=w.heap.size+1+1+1+1+1+1+1){V Y:World}{l:Nat}{o o':Obj}(ho:V.heap[l]?=some o)(hc:o.isCells=false)(hl:B<=l)(h:Jw (tZ w) (w.heap.size+1+1+1+1) (V.putObj l o') Y):Jw (tZ w) (w.heap.size+1+1+1+1) V Y:=by
 have er:rowOf (w.heap.size+1+1+1+1) (V.putObj l o')=rowOf (w.heap.size+1+1+1+1) V:=nH (World.putObj_heap_other (by omega));have hsz:(V.putObj l o').heap.size=V.heap.size:=by simp[World.putObj]
 refine⟨⟨h.upd.os,h.upd.tape,h.upd.output,by rw[<-hsz];exact h.upd.size,λk hk hn=>?_⟩,by have h2:=h.row;rw[er,hsz]at h2;exact h2⟩;have hkl:k≠l:=λe=>hn (.inr (.inr (by subst e;exact⟨o,ho,hc⟩)));rw[h.upd.block k (by rw[hsz];exact hk) (λh'=>hn ?_)]
 .exact World.putObj_heap_other hkl
 .rw[er]at h'
  rcases h' with h'|h'|⟨o2,ho2,hc2⟩
  .exact .inl h'
  .exact .inr (.inl h')
  .rw[World.putObj_heap_other hkl]at ho2;exact .inr (.inr ⟨o2,ho2,hc2⟩)
theorem Iw.right{B:Nat}(hB:B=w.heap.size+1+1+1+1+1+1+1){V Y:World}{l:Nat}{o o':Obj}(ho:V.heap[l]?=some o)(hc:o.isCells=false)(hl:B<=l)(h:Jw (tZ w) (w.heap.size+1+1+1+1) V Y):Jw (tZ w) (w.heap.size+1+1+1+1) V (Y.putObj l o'):=by
 have er:rowOf (w.heap.size+1+1+1+1) (Y.putObj l o')=rowOf (w.heap.size+1+1+1+1) Y:=nH (World.putObj_heap_other (by omega));refine⟨⟨h.upd.os,h.upd.tape,h.upd.output,by simpa [World.putObj]using h.upd.size,λk hk hn=>?_⟩,by rw[er];exact h.row⟩;have hkl:k≠l:=λe=>hn (.inr (.inr (by subst e;exact⟨o,ho,hc⟩)));rw[World.putObj_heap_other hkl];exact h.upd.block k hk hn
theorem Iw.below{V V' Y:World}(hb:w.heap.size+1+1+1+1<V.heap.size)(hw:Below V.heap.size V V')(h:Jw (tZ w) (w.heap.size+1+1+1+1) V' Y):Jw (tZ w) (w.heap.size+1+1+1+1) V Y:=by
 have er:rowOf (w.heap.size+1+1+1+1) V'=rowOf (w.heap.size+1+1+1+1) V:=nH (hw.block _ hb);refine⟨⟨h.upd.os.trans hw.os,h.upd.tape.trans hw.tape,h.upd.output.trans hw.output,bF hw.size h.upd.size,λk hk hn=>?_⟩,?_⟩
 .rw[h.upd.block k (jX hk hw.size) (λh'=>hn ?_),hw.block k hk]
  rw[er]at h';rcases h' with h'|h'|⟨o2,ho2,hc2⟩
  .exact .inl h'
  .exact .inr (.inl h')
  .rw[hw.block k hk]at ho2;exact .inr (.inr ⟨o2,ho2,hc2⟩)
 .have:=h.row
  rw[er]at this;rcases this with h1|h1
  .exact .inl h1
  .exact .inr (λk hk=>bF hw.size (h1 k hk))
end
end
section
open Go.RowKit Go.Shelf
attribute [local go_sem] Oper.semAt_some
theorem KeepsFrom.xU{Z:Nat->Prop}{B:Nat}{W W':World}(h:aH Z W W')(hz:∀(k:Nat)(o:Obj),Z k->B<=k->W.heap[k]?=some o->o.isCells=true):KeepsFrom B W W':=
 ⟨h.size,λk o hk ho hc=>by
  rw[h.block k (av ho) (λhzk=>by rw[hz k o hzk hk ho]at hc;cases hc)];exact ho⟩
theorem yg{w:World}{g:Nat}{y x:Value}{t:TypeId}(h:w.heap[g]?=some (.cells #[y] t (0,0))):(w.setCell ⟨g,0,none⟩ x).heap[g]?=some (.cells #[x] t (0,0)):=by
 simp[World.setCell,Array.getElem?_modify,h]
theorem At.akn{Z:Nat->Prop}{w w':World}{size n c:Nat}{A:Option Addr}{xs:List Value}(h:At w size A n c xs)(hu:aH Z w w')(hZ:∀k,Z k->sW w k):At w' size A n c xs:=
 ⟨⟨h.1.1,h.1.2.1,λhm=>by
  obtain⟨ad,rfl,hc⟩:=h.1.2.2 hm;refine⟨ad,rfl,λj u hj=>?_⟩;have h1:=hc j u hj;obtain⟨o,ho,hoc⟩:=cells_of_cell h1;have hb:w'.heap[(ad.add j).block]?=w.heap[(ad.add j).block]?:=hu.block _ (av ho) (λhz=>by
   obtain⟨o2,ho2,hc2⟩:=hZ _ hz;rw[ho]at ho2;cases ho2
   rw[hoc]at hc2;cases hc2)
  rw[<-h1];simp[World.cell?,hb]⟩,h.2⟩
theorem kS.skip{bp bj:Nat}{v:CV}{C:au}{lA:Option Addr}{lc:Nat}{l ps:List Int}{w:World}{k:Nat}{V z:World}(h:kS bp bj v C lA lc l ps w k V)(hb:Below V.heap.size V z)(he:aN C l ps (k+1)=aN C l ps k):KeepsFrom (w.heap.size+1+1+1+1+1+1+1) V z/\Jw (tZ w) (w.heap.size+1+1+1+1) V z/\kS bp bj v C lA lc l ps w (k+1) z:=by
 have hu:aH (λ_=>False) V z:=⟨hb.os,hb.tape,hb.output,hb.size,λk hk _=>hb.block k hk⟩;obtain⟨A,c,h4,hr⟩:=h.row;refine⟨KeepsFrom.xU hu (λ_ _ hf=>hf.elim),⟨hu.mono (λ_ _ hf=>hf.elim),.inl (nH (hb.block _ (av h4)))⟩,?_⟩;refine⟨ay h.below hb,hu.keep h.b0 id,hu.keep h.b1 id,hu.keep h.b2 id,hu.keep h.b3 id,hu.keep h.b5 id,hu.keep h.b6 id,A,c,?_⟩;rw[he];exact⟨hu.keep h4 id,ownsRow_below hr hb⟩
theorem kS.app{bp bj:Nat}{v:CV}{C:au}{lA:Option Addr}{lc:Nat}{l ps:List Int}{w:World}{k:Nat}{V z:World}(h:kS bp bj v C lA lc l ps w k V)(hb:Below V.heap.size V z){y:Int}(he:aN C l ps (k+1)=aN C l ps k++[y])
 {A:Option Addr}{c:Nat}(h4:V.heap[w.heap.size+1+1+1+1]?=some (.cells #[.slice A (aN C l ps k).length c] 22 (0,0)))(hr:V.ownsRow (w.heap.size+1+1+1+1+1+1+1) 3 1 (.slice A (aN C l ps k).length c) (aN C l ps k).length (aR (aN C l ps k)))
 {A':Option Addr}{c':Nat}{w9:World}(h9:w9.ownsRow (w.heap.size+1+1+1+1+1+1+1) 3 1 (.slice A' (aN C l ps k++[y]).length c') (aN C l ps k++[y]).length (aR (aN C l ps k++[y])))
 (hg:(z.alloc (.cells #[.int .i64 y] 3)).grownBy w9 (Value.slice A (aN C l ps k).length c).ownBlock)
 (hblk:(Value.slice A' (aN C l ps k++[y]).length c').ownBlock=(Value.slice A (aN C l ps k).length c).ownBlock\/(Value.slice A' (aN C l ps k++[y]).length c').ownBlock=some (z.heap.size+1)):
 KeepsFrom (w.heap.size+1+1+1+1+1+1+1) V (w9.setCell ⟨w.heap.size+1+1+1+1,0,none⟩ (.slice A' (aN C l ps k++[y]).length c'))/\Jw (tZ w) (w.heap.size+1+1+1+1) V (w9.setCell ⟨w.heap.size+1+1+1+1,0,none⟩ (.slice A' (aN C l ps k++[y]).length c'))/\kS bp bj v C lA lc l ps w (k+1) (w9.setCell ⟨w.heap.size+1+1+1+1,0,none⟩ (.slice A' (aN C l ps k++[y]).length c')):=by
 have hbz:Below V.heap.size V (z.alloc (.cells #[.int .i64 y] 3)):=aK hb _;have hu:aH (λk'=>(Value.slice A (aN C l ps k).length c).ownBlock=some k') V w9:=by
  refine⟨hg.os.trans hbz.os,hg.tape.trans hbz.tape,hg.output.trans hbz.output,bF hbz.size hg.size,λk' hk hn=>?_⟩;rw[hg.block k' (jX hk hbz.size) (λe=>hn e.symm),hbz.block k' hk]
 have hrow:∀k',(Value.slice A (aN C l ps k).length c).ownBlock=some k'->w.heap.size+1+1+1+1+1+1+1<=k'/\∃cs,V.heap[k']?=some (.cells cs 3 (0,0)):=λk' hk=>by
  rcases hr.2 with⟨e,_⟩|⟨g,cap,cur,hv,hgB,hh,_⟩
  .rw[e]at hk;cases hk
  .rw[hv]at hk
   injection hk with hk
   simp only at hk;subst hk;exact⟨hgB,cur,hh⟩
 have h49:w9.heap[w.heap.size+1+1+1+1]?=some (.cells #[.slice A (aN C l ps k).length c] 22 (0,0)):=hu.keep h4 (λe=>by have:=(hrow _ e).1;omega);have huf:aH (λk'=>k'=w.heap.size+1+1+1+1\/(Value.slice A (aN C l ps k).length c).ownBlock=some k') V (w9.setCell ⟨w.heap.size+1+1+1+1,0,none⟩ (.slice A' (aN C l ps k++[y]).length c')):=(hu.mono (λ_ _ e=>.inr e)).setCell (.inl (.inl rfl)) _;have h4f:=yg (x:=.slice A' (aN C l ps k++[y]).length c') h49;have kp:∀{b:Nat}{o:Obj},V.heap[b]?=some o->b<w.heap.size+1+1+1+1+1+1+1->b≠w.heap.size+1+1+1+1->(w9.setCell ⟨w.heap.size+1+1+1+1,0,none⟩ (.slice A' (aN C l ps k++[y]).length c')).heap[b]?=some o:=λ{b o} hbo hl hne=>huf.keep hbo (λe=>by
  rcases e with e|e
  .exact hne e
  .have:=(hrow _ e).1;omega)
 refine⟨KeepsFrom.xU huf (λk' o hz hB ho=>?_),⟨huf.mono (λk' _ e=>?_),?_⟩,?_⟩
 .rcases hz with e|e
  .omega
  .obtain⟨_,cs,hcs⟩:=hrow _ e
   rw[hcs]at ho;cases ho
   rfl
 .rcases e with e|e
  .exact .inl (.inr (.inr e))
  .exact .inr (.inl (by rw[yO h4];exact e))
 .rw[yO h4f,yO h4]
  rcases hblk with e|e
  .exact .inl e
  .refine .inr (λk' hk=>?_)
   rw[e]at hk;injection hk with hk
   have:=hb.size;omega
 .refine⟨h.below.trans (huf.below h.below.size (λk' e=>?_)),kp h.b0 (by omega) (by omega),kp h.b1 (by omega) (by omega),kp h.b2 (by omega) (by omega),kp h.b3 (by omega) (by omega),kp h.b5 (by omega) (by omega),kp h.b6 (by omega) (by omega),A',c',?_⟩
  .rcases e with e|e
   .omega
   .have:=(hrow _ e).1;omega
  .rw[he]
   refine⟨h4f,h9.1,?_⟩;rcases h9.2 with e|⟨g,cap,cur,hv,hgB,hh,rest⟩
   .exact .inl e
   .refine .inr ⟨g,cap,cur,hv,hgB,?_,rest⟩
    have:=Below.heap_setCell w9 ⟨w.heap.size+1+1+1+1,0,none⟩ (.slice A' (aN C l ps k++[y]).length c') g (by simp only;omega);rw[this];exact hh
end
section
open Go.RowKit Go.Shelf
attribute [local go_sem] Oper.semAt_some
theorem Yp(bp bj:Nat)(v:CV)(C:au)(lv:SV)(l:List Int)(pv:SV)(ps:List Int)(w:World)(hC:bU w v C)(hv:C.valid=true)(hL:At w 1 lv.A l.length lv.c (aR l))(hln:l.length<=4000)(hP:At w 1 pv.A ps.length pv.c (aR ps))(hps:∀x∈ps,0<=x/\x<C.aF)
 (hc:w.heap[bj]?=some (.cells (v.cells C).toArray 27 (0,0)))(hb:w.heap[bp]?=some (.cells #[.slice pv.A ps.length pv.c] 22 (0,0))):
 Calls Tryz.prog 43 #[v.val C,.slice lv.A l.length lv.c,.func (.func 44) #[] #[.pointer (some ⟨bp,0,none⟩),.pointer (some ⟨bj,0,none⟩)]] w (Vi C l ps w):=by
 obtain⟨⟨dF,dG⟩,⟨dH,dK⟩,⟨dV,dn⟩,⟨dQ,dh⟩,⟨dz,dB⟩⟩:=v;obtain⟨lA,lc⟩:=lv;have HC:=ah hC;clear hC;have HL:=ah hL;clear hL;have HP:=ah hP;clear hP;have HPS:=ah hps;clear hps;have HCJ:=ah hc;clear hc;have HBP:=ah hb;clear hb;have HV:=ah hv;clear hv;have ZI:=ah hln;clear hln;have Mk:=ah (λw:World=>Rz (⟨⟨dF,dG⟩,⟨dH,dK⟩,⟨dV,dn⟩,⟨dQ,dh⟩,⟨dz,dB⟩⟩:CV) C lA l.length lc w);simp only[CV.val,CV.cells]at Mk⊢;refine(bQ (n:=3)).1 ?_;refine callsIn_of_wp_marks Tryz.func43 rfl trivial ?_ rfl;simp only[Tryz.ntmps43,qU,iy,jJ,Nat.reduceAdd,Nat.reduceSub,rX,rY,r_,rZ,mI,r9];gi_wp2_with (refine⟨trivial,?_⟩;gi_at_call 74;refine(bQ.2 (Mk.out _)).mono ?_;rintro e z ⟨rfl,rfl⟩);obtain⟨W2,HW2⟩:∃W2,Hid (W2=((((((w.alloc (.cells #[.int .i64 C.aF,.slice dF C.aj.length dG,.slice dH C.units.length dK,.slice dV C.acts.length dn,.slice dQ C.clauses.length dh,.int .i64 C.days,.slice dz C.off.length dB] 27)).alloc (.cells #[.func (.func 44) #[] #[.pointer (some ⟨bp,0,none⟩),.pointer (some ⟨bj,0,none⟩)]] 96)).alloc (.cells #[.slice none 0 0] 22)).alloc (.cells #[.int .i64 0] 37)).alloc (.cells #[.slice none 0 0] 22)).alloc (.cells #[.int .i64 C.aF,.slice dF C.aj.length dG,.slice dH C.units.length dK,.slice dV C.acts.length dn,.slice dQ C.clauses.length dh,.int .i64 C.days,.slice dz C.off.length dB] 27)).alloc (.cells #[.slice lA l.length lc] 22)):=⟨_,rfl⟩;rw[<-HW2.out];have hh0:W2.heap[w.heap.size]?=some (.cells #[.int .i64 C.aF,.slice dF C.aj.length dG,.slice dH C.units.length dK,.slice dV C.acts.length dn,.slice dQ C.clauses.length dh,.int .i64 C.days,.slice dz C.off.length dB] 27 (0,0)):=by rw[HW2.out];exact(Below.heap_alloc ((((((w.alloc (.cells #[.int .i64 C.aF,.slice dF C.aj.length dG,.slice dH C.units.length dK,.slice dV C.acts.length dn,.slice dQ C.clauses.length dh,.int .i64 C.days,.slice dz C.off.length dB] 27)).alloc (.cells #[.func (.func 44) #[] #[.pointer (some ⟨bp,0,none⟩),.pointer (some ⟨bj,0,none⟩)]] 96)).alloc (.cells #[.slice none 0 0] 22)).alloc (.cells #[.int .i64 0] 37)).alloc (.cells #[.slice none 0 0] 22)).alloc (.cells #[.int .i64 C.aF,.slice dF C.aj.length dG,.slice dH C.units.length dK,.slice dV C.acts.length dn,.slice dQ C.clauses.length dh,.int .i64 C.days,.slice dz C.off.length dB] 27)) _ (w.heap.size) (by simp only[aM];omega)).trans ((Below.heap_alloc (((((w.alloc (.cells #[.int .i64 C.aF,.slice dF C.aj.length dG,.slice dH C.units.length dK,.slice dV C.acts.length dn,.slice dQ C.clauses.length dh,.int .i64 C.days,.slice dz C.off.length dB] 27)).alloc (.cells #[.func (.func 44) #[] #[.pointer (some ⟨bp,0,none⟩),.pointer (some ⟨bj,0,none⟩)]] 96)).alloc (.cells #[.slice none 0 0] 22)).alloc (.cells #[.int .i64 0] 37)).alloc (.cells #[.slice none 0 0] 22)) _ (w.heap.size) (by simp only[aM];omega)).trans ((Below.heap_alloc ((((w.alloc (.cells #[.int .i64 C.aF,.slice dF C.aj.length dG,.slice dH C.units.length dK,.slice dV C.acts.length dn,.slice dQ C.clauses.length dh,.int .i64 C.days,.slice dz C.off.length dB] 27)).alloc (.cells #[.func (.func 44) #[] #[.pointer (some ⟨bp,0,none⟩),.pointer (some ⟨bj,0,none⟩)]] 96)).alloc (.cells #[.slice none 0 0] 22)).alloc (.cells #[.int .i64 0] 37)) _ (w.heap.size) (by simp only[aM];omega)).trans ((Below.heap_alloc (((w.alloc (.cells #[.int .i64 C.aF,.slice dF C.aj.length dG,.slice dH C.units.length dK,.slice dV C.acts.length dn,.slice dQ C.clauses.length dh,.int .i64 C.days,.slice dz C.off.length dB] 27)).alloc (.cells #[.func (.func 44) #[] #[.pointer (some ⟨bp,0,none⟩),.pointer (some ⟨bj,0,none⟩)]] 96)).alloc (.cells #[.slice none 0 0] 22)) _ (w.heap.size) (by simp only[aM];omega)).trans ((Below.heap_alloc ((w.alloc (.cells #[.int .i64 C.aF,.slice dF C.aj.length dG,.slice dH C.units.length dK,.slice dV C.acts.length dn,.slice dQ C.clauses.length dh,.int .i64 C.days,.slice dz C.off.length dB] 27)).alloc (.cells #[.func (.func 44) #[] #[.pointer (some ⟨bp,0,none⟩),.pointer (some ⟨bj,0,none⟩)]] 96)) _ (w.heap.size) (by simp only[aM];omega)).trans ((Below.heap_alloc (w.alloc (.cells #[.int .i64 C.aF,.slice dF C.aj.length dG,.slice dH C.units.length dK,.slice dV C.acts.length dn,.slice dQ C.clauses.length dh,.int .i64 C.days,.slice dz C.off.length dB] 27)) _ (w.heap.size) (by simp only[aM];omega)).trans (bC w (.cells #[.int .i64 C.aF,.slice dF C.aj.length dG,.slice dH C.units.length dK,.slice dV C.acts.length dn,.slice dQ C.clauses.length dh,.int .i64 C.days,.slice dz C.off.length dB] 27)))))))
 have g_:W2.heap[w.heap.size+1]?=some (.cells #[.func (.func 44) #[] #[.pointer (some ⟨bp,0,none⟩),.pointer (some ⟨bj,0,none⟩)]] 96 (0,0)):=by rw[HW2.out];exact(Below.heap_alloc ((((((w.alloc (.cells #[.int .i64 C.aF,.slice dF C.aj.length dG,.slice dH C.units.length dK,.slice dV C.acts.length dn,.slice dQ C.clauses.length dh,.int .i64 C.days,.slice dz C.off.length dB] 27)).alloc (.cells #[.func (.func 44) #[] #[.pointer (some ⟨bp,0,none⟩),.pointer (some ⟨bj,0,none⟩)]] 96)).alloc (.cells #[.slice none 0 0] 22)).alloc (.cells #[.int .i64 0] 37)).alloc (.cells #[.slice none 0 0] 22)).alloc (.cells #[.int .i64 C.aF,.slice dF C.aj.length dG,.slice dH C.units.length dK,.slice dV C.acts.length dn,.slice dQ C.clauses.length dh,.int .i64 C.days,.slice dz C.off.length dB] 27)) _ (w.heap.size+1) (by simp only[aM];omega)).trans ((Below.heap_alloc (((((w.alloc (.cells #[.int .i64 C.aF,.slice dF C.aj.length dG,.slice dH C.units.length dK,.slice dV C.acts.length dn,.slice dQ C.clauses.length dh,.int .i64 C.days,.slice dz C.off.length dB] 27)).alloc (.cells #[.func (.func 44) #[] #[.pointer (some ⟨bp,0,none⟩),.pointer (some ⟨bj,0,none⟩)]] 96)).alloc (.cells #[.slice none 0 0] 22)).alloc (.cells #[.int .i64 0] 37)).alloc (.cells #[.slice none 0 0] 22)) _ (w.heap.size+1) (by simp only[aM];omega)).trans ((Below.heap_alloc ((((w.alloc (.cells #[.int .i64 C.aF,.slice dF C.aj.length dG,.slice dH C.units.length dK,.slice dV C.acts.length dn,.slice dQ C.clauses.length dh,.int .i64 C.days,.slice dz C.off.length dB] 27)).alloc (.cells #[.func (.func 44) #[] #[.pointer (some ⟨bp,0,none⟩),.pointer (some ⟨bj,0,none⟩)]] 96)).alloc (.cells #[.slice none 0 0] 22)).alloc (.cells #[.int .i64 0] 37)) _ (w.heap.size+1) (by simp only[aM];omega)).trans ((Below.heap_alloc (((w.alloc (.cells #[.int .i64 C.aF,.slice dF C.aj.length dG,.slice dH C.units.length dK,.slice dV C.acts.length dn,.slice dQ C.clauses.length dh,.int .i64 C.days,.slice dz C.off.length dB] 27)).alloc (.cells #[.func (.func 44) #[] #[.pointer (some ⟨bp,0,none⟩),.pointer (some ⟨bj,0,none⟩)]] 96)).alloc (.cells #[.slice none 0 0] 22)) _ (w.heap.size+1) (by simp only[aM];omega)).trans ((Below.heap_alloc ((w.alloc (.cells #[.int .i64 C.aF,.slice dF C.aj.length dG,.slice dH C.units.length dK,.slice dV C.acts.length dn,.slice dQ C.clauses.length dh,.int .i64 C.days,.slice dz C.off.length dB] 27)).alloc (.cells #[.func (.func 44) #[] #[.pointer (some ⟨bp,0,none⟩),.pointer (some ⟨bj,0,none⟩)]] 96)) _ (w.heap.size+1) (by simp only[aM];omega)).trans ((by have h:=bC (w.alloc (.cells #[.int .i64 C.aF,.slice dF C.aj.length dG,.slice dH C.units.length dK,.slice dV C.acts.length dn,.slice dQ C.clauses.length dh,.int .i64 C.days,.slice dz C.off.length dB] 27)) (.cells #[.func (.func 44) #[] #[.pointer (some ⟨bp,0,none⟩),.pointer (some ⟨bj,0,none⟩)]] 96);simp only[aM]at h;exact h))))))
 have wu:W2.heap[w.heap.size+1+1]?=some (.cells #[.slice none 0 0] 22 (0,0)):=by rw[HW2.out];exact(Below.heap_alloc ((((((w.alloc (.cells #[.int .i64 C.aF,.slice dF C.aj.length dG,.slice dH C.units.length dK,.slice dV C.acts.length dn,.slice dQ C.clauses.length dh,.int .i64 C.days,.slice dz C.off.length dB] 27)).alloc (.cells #[.func (.func 44) #[] #[.pointer (some ⟨bp,0,none⟩),.pointer (some ⟨bj,0,none⟩)]] 96)).alloc (.cells #[.slice none 0 0] 22)).alloc (.cells #[.int .i64 0] 37)).alloc (.cells #[.slice none 0 0] 22)).alloc (.cells #[.int .i64 C.aF,.slice dF C.aj.length dG,.slice dH C.units.length dK,.slice dV C.acts.length dn,.slice dQ C.clauses.length dh,.int .i64 C.days,.slice dz C.off.length dB] 27)) _ (w.heap.size+1+1) (by simp only[aM];omega)).trans ((Below.heap_alloc (((((w.alloc (.cells #[.int .i64 C.aF,.slice dF C.aj.length dG,.slice dH C.units.length dK,.slice dV C.acts.length dn,.slice dQ C.clauses.length dh,.int .i64 C.days,.slice dz C.off.length dB] 27)).alloc (.cells #[.func (.func 44) #[] #[.pointer (some ⟨bp,0,none⟩),.pointer (some ⟨bj,0,none⟩)]] 96)).alloc (.cells #[.slice none 0 0] 22)).alloc (.cells #[.int .i64 0] 37)).alloc (.cells #[.slice none 0 0] 22)) _ (w.heap.size+1+1) (by simp only[aM];omega)).trans ((Below.heap_alloc ((((w.alloc (.cells #[.int .i64 C.aF,.slice dF C.aj.length dG,.slice dH C.units.length dK,.slice dV C.acts.length dn,.slice dQ C.clauses.length dh,.int .i64 C.days,.slice dz C.off.length dB] 27)).alloc (.cells #[.func (.func 44) #[] #[.pointer (some ⟨bp,0,none⟩),.pointer (some ⟨bj,0,none⟩)]] 96)).alloc (.cells #[.slice none 0 0] 22)).alloc (.cells #[.int .i64 0] 37)) _ (w.heap.size+1+1) (by simp only[aM];omega)).trans ((Below.heap_alloc (((w.alloc (.cells #[.int .i64 C.aF,.slice dF C.aj.length dG,.slice dH C.units.length dK,.slice dV C.acts.length dn,.slice dQ C.clauses.length dh,.int .i64 C.days,.slice dz C.off.length dB] 27)).alloc (.cells #[.func (.func 44) #[] #[.pointer (some ⟨bp,0,none⟩),.pointer (some ⟨bj,0,none⟩)]] 96)).alloc (.cells #[.slice none 0 0] 22)) _ (w.heap.size+1+1) (by simp only[aM];omega)).trans ((by have h:=bC ((w.alloc (.cells #[.int .i64 C.aF,.slice dF C.aj.length dG,.slice dH C.units.length dK,.slice dV C.acts.length dn,.slice dQ C.clauses.length dh,.int .i64 C.days,.slice dz C.off.length dB] 27)).alloc (.cells #[.func (.func 44) #[] #[.pointer (some ⟨bp,0,none⟩),.pointer (some ⟨bj,0,none⟩)]] 96)) (.cells #[.slice none 0 0] 22);simp only[aM]at h;exact h)))))
 have hh3:W2.heap[w.heap.size+1+1+1]?=some (.cells #[.int .i64 0] 37 (0,0)):=by rw[HW2.out];exact(Below.heap_alloc ((((((w.alloc (.cells #[.int .i64 C.aF,.slice dF C.aj.length dG,.slice dH C.units.length dK,.slice dV C.acts.length dn,.slice dQ C.clauses.length dh,.int .i64 C.days,.slice dz C.off.length dB] 27)).alloc (.cells #[.func (.func 44) #[] #[.pointer (some ⟨bp,0,none⟩),.pointer (some ⟨bj,0,none⟩)]] 96)).alloc (.cells #[.slice none 0 0] 22)).alloc (.cells #[.int .i64 0] 37)).alloc (.cells #[.slice none 0 0] 22)).alloc (.cells #[.int .i64 C.aF,.slice dF C.aj.length dG,.slice dH C.units.length dK,.slice dV C.acts.length dn,.slice dQ C.clauses.length dh,.int .i64 C.days,.slice dz C.off.length dB] 27)) _ (w.heap.size+1+1+1) (by simp only[aM];omega)).trans ((Below.heap_alloc (((((w.alloc (.cells #[.int .i64 C.aF,.slice dF C.aj.length dG,.slice dH C.units.length dK,.slice dV C.acts.length dn,.slice dQ C.clauses.length dh,.int .i64 C.days,.slice dz C.off.length dB] 27)).alloc (.cells #[.func (.func 44) #[] #[.pointer (some ⟨bp,0,none⟩),.pointer (some ⟨bj,0,none⟩)]] 96)).alloc (.cells #[.slice none 0 0] 22)).alloc (.cells #[.int .i64 0] 37)).alloc (.cells #[.slice none 0 0] 22)) _ (w.heap.size+1+1+1) (by simp only[aM];omega)).trans ((Below.heap_alloc ((((w.alloc (.cells #[.int .i64 C.aF,.slice dF C.aj.length dG,.slice dH C.units.length dK,.slice dV C.acts.length dn,.slice dQ C.clauses.length dh,.int .i64 C.days,.slice dz C.off.length dB] 27)).alloc (.cells #[.func (.func 44) #[] #[.pointer (some ⟨bp,0,none⟩),.pointer (some ⟨bj,0,none⟩)]] 96)).alloc (.cells #[.slice none 0 0] 22)).alloc (.cells #[.int .i64 0] 37)) _ (w.heap.size+1+1+1) (by simp only[aM];omega)).trans ((by have h:=bC (((w.alloc (.cells #[.int .i64 C.aF,.slice dF C.aj.length dG,.slice dH C.units.length dK,.slice dV C.acts.length dn,.slice dQ C.clauses.length dh,.int .i64 C.days,.slice dz C.off.length dB] 27)).alloc (.cells #[.func (.func 44) #[] #[.pointer (some ⟨bp,0,none⟩),.pointer (some ⟨bj,0,none⟩)]] 96)).alloc (.cells #[.slice none 0 0] 22)) (.cells #[.int .i64 0] 37);simp only[aM]at h;exact h))))
 have K9:W2.heap[w.heap.size+1+1+1+1]?=some (.cells #[.slice none 0 0] 22 (0,0)):=by rw[HW2.out];exact(Below.heap_alloc ((((((w.alloc (.cells #[.int .i64 C.aF,.slice dF C.aj.length dG,.slice dH C.units.length dK,.slice dV C.acts.length dn,.slice dQ C.clauses.length dh,.int .i64 C.days,.slice dz C.off.length dB] 27)).alloc (.cells #[.func (.func 44) #[] #[.pointer (some ⟨bp,0,none⟩),.pointer (some ⟨bj,0,none⟩)]] 96)).alloc (.cells #[.slice none 0 0] 22)).alloc (.cells #[.int .i64 0] 37)).alloc (.cells #[.slice none 0 0] 22)).alloc (.cells #[.int .i64 C.aF,.slice dF C.aj.length dG,.slice dH C.units.length dK,.slice dV C.acts.length dn,.slice dQ C.clauses.length dh,.int .i64 C.days,.slice dz C.off.length dB] 27)) _ (w.heap.size+1+1+1+1) (by simp only[aM];omega)).trans ((Below.heap_alloc (((((w.alloc (.cells #[.int .i64 C.aF,.slice dF C.aj.length dG,.slice dH C.units.length dK,.slice dV C.acts.length dn,.slice dQ C.clauses.length dh,.int .i64 C.days,.slice dz C.off.length dB] 27)).alloc (.cells #[.func (.func 44) #[] #[.pointer (some ⟨bp,0,none⟩),.pointer (some ⟨bj,0,none⟩)]] 96)).alloc (.cells #[.slice none 0 0] 22)).alloc (.cells #[.int .i64 0] 37)).alloc (.cells #[.slice none 0 0] 22)) _ (w.heap.size+1+1+1+1) (by simp only[aM];omega)).trans ((by have h:=bC ((((w.alloc (.cells #[.int .i64 C.aF,.slice dF C.aj.length dG,.slice dH C.units.length dK,.slice dV C.acts.length dn,.slice dQ C.clauses.length dh,.int .i64 C.days,.slice dz C.off.length dB] 27)).alloc (.cells #[.func (.func 44) #[] #[.pointer (some ⟨bp,0,none⟩),.pointer (some ⟨bj,0,none⟩)]] 96)).alloc (.cells #[.slice none 0 0] 22)).alloc (.cells #[.int .i64 0] 37)) (.cells #[.slice none 0 0] 22);simp only[aM]at h;exact h)))
 have hh5:W2.heap[w.heap.size+1+1+1+1+1]?=some (.cells #[.int .i64 C.aF,.slice dF C.aj.length dG,.slice dH C.units.length dK,.slice dV C.acts.length dn,.slice dQ C.clauses.length dh,.int .i64 C.days,.slice dz C.off.length dB] 27 (0,0)):=by rw[HW2.out];exact(Below.heap_alloc ((((((w.alloc (.cells #[.int .i64 C.aF,.slice dF C.aj.length dG,.slice dH C.units.length dK,.slice dV C.acts.length dn,.slice dQ C.clauses.length dh,.int .i64 C.days,.slice dz C.off.length dB] 27)).alloc (.cells #[.func (.func 44) #[] #[.pointer (some ⟨bp,0,none⟩),.pointer (some ⟨bj,0,none⟩)]] 96)).alloc (.cells #[.slice none 0 0] 22)).alloc (.cells #[.int .i64 0] 37)).alloc (.cells #[.slice none 0 0] 22)).alloc (.cells #[.int .i64 C.aF,.slice dF C.aj.length dG,.slice dH C.units.length dK,.slice dV C.acts.length dn,.slice dQ C.clauses.length dh,.int .i64 C.days,.slice dz C.off.length dB] 27)) _ (w.heap.size+1+1+1+1+1) (by simp only[aM];omega)).trans ((by have h:=bC (((((w.alloc (.cells #[.int .i64 C.aF,.slice dF C.aj.length dG,.slice dH C.units.length dK,.slice dV C.acts.length dn,.slice dQ C.clauses.length dh,.int .i64 C.days,.slice dz C.off.length dB] 27)).alloc (.cells #[.func (.func 44) #[] #[.pointer (some ⟨bp,0,none⟩),.pointer (some ⟨bj,0,none⟩)]] 96)).alloc (.cells #[.slice none 0 0] 22)).alloc (.cells #[.int .i64 0] 37)).alloc (.cells #[.slice none 0 0] 22)) (.cells #[.int .i64 C.aF,.slice dF C.aj.length dG,.slice dH C.units.length dK,.slice dV C.acts.length dn,.slice dQ C.clauses.length dh,.int .i64 C.days,.slice dz C.off.length dB] 27);simp only[aM]at h;exact h))
 have hh6:W2.heap[w.heap.size+1+1+1+1+1+1]?=some (.cells #[.slice lA l.length lc] 22 (0,0)):=by rw[HW2.out];exact(by have h:=bC ((((((w.alloc (.cells #[.int .i64 C.aF,.slice dF C.aj.length dG,.slice dH C.units.length dK,.slice dV C.acts.length dn,.slice dQ C.clauses.length dh,.int .i64 C.days,.slice dz C.off.length dB] 27)).alloc (.cells #[.func (.func 44) #[] #[.pointer (some ⟨bp,0,none⟩),.pointer (some ⟨bj,0,none⟩)]] 96)).alloc (.cells #[.slice none 0 0] 22)).alloc (.cells #[.int .i64 0] 37)).alloc (.cells #[.slice none 0 0] 22)).alloc (.cells #[.int .i64 C.aF,.slice dF C.aj.length dG,.slice dH C.units.length dK,.slice dV C.acts.length dn,.slice dQ C.clauses.length dh,.int .i64 C.days,.slice dz C.off.length dB] 27)) (.cells #[.slice lA l.length lc] 22);simp only[aM]at h;exact h)
 have rT:Hid (W2.heap.size=w.heap.size+1+1+1+1+1+1+1):=by show _=_;rw[HW2.out];simp
 have xE:Hid (Below w.heap.size w W2):=by show Below _ _ _;rw[HW2.out];exact aK (aK (aK (aK (aK (aK (aK (aD _ _) _) _) _) _) _) _) _
 have ako:Hid (kS bp bj (⟨⟨dF,dG⟩,⟨dH,dK⟩,⟨dV,dn⟩,⟨dQ,dh⟩,⟨dz,dB⟩⟩:CV) C lA lc l ps w 0 W2):=⟨xE.out,hh0,g_,wu,hh3,hh5,hh6,none,0,K9,World.ownsRow_nil _ _ _ _⟩;clear hh0 g_ wu hh3 K9 hh5 hh6 Mk;refine Dp (α:=Mo) rfl (by omega) (gf:=126) rfl trivial (enters_of Tryz.func126 (by kernel_rfl) rfl)
  (Yq (v:=(⟨⟨dF,dG⟩,⟨dH,dK⟩,⟨dV,dn⟩,⟨dQ,dh⟩,⟨dz,dB⟩⟩:CV)) (bc:=w.heap.size+1+1+1+1+1) (bl:=w.heap.size+1+1+1+1+1+1) (b8:=w.heap.size+1+1+1+1) (fx:=tZ w) HV.out _ (by omega) (λpre V=>kS bp bj (⟨⟨dF,dG⟩,⟨dH,dK⟩,⟨dV,dn⟩,⟨dQ,dh⟩,⟨dz,dB⟩⟩:CV) C lA lc l ps w pre.length V) (λpre V h=>h.iter HC.out HL.out)) (λ_=>rfl)
  (λ_ V=>Below w.heap.size w V/\V.heap[w.heap.size+1+1]?=some (.cells #[.slice none 0 0] 22 (0,0))/\∃er:Int,er≠0/\V.heap[w.heap.size+1+1+1]?=some (.cells #[.int .i64 er] 37 (0,0)))
  ?hI ?hIx (λ_ _ _ _ _ _ h h1 h2=>⟨h.1.putObj h1 h2,h.2⟩) (λ_ _ _ _ _ _ h h1 h2=>⟨h.1.putObj h1 h2,h.2⟩)
  (λ_ _ _ _ _ h1 h2 h3 h4=>Iw.left rT.out h1 h2 h3 h4) (λ_ _ _ _ _ _ h1 h2 h3 h4=>Iw.right rT.out h1 h2 h3 h4)
  (λx=>.cells #[.int .i64 x.step,.int .i64 x.s.day,.slice x.t.h.A x.s.aj.length x.t.h.c,.slice x.t.u.A x.s.used.length x.t.u.c,.slice x.t.m.A x.s.marks.length x.t.m.c] 140) (λ_ _ _ _ h hb=>⟨⟨h.1.1,h.1.2.1,h.1.2.2.1,h.1.2.2.2.1.below hb,h.1.2.2.2.2⟩,h.2⟩) (λ_ _ _ _ h hb=>⟨⟨h.1.1,h.1.2.1,h.1.2.2.1,h.1.2.2.2.1.below hb,h.1.2.2.2.2⟩,h.2⟩)
  (λ_ _ _ _ h hb hk=>by obtain⟨_,_,h4,_⟩:=h.row;exact Iw.below (av h4) hb hk) ako.out ?a1 ?assign ?body ?leave ?done ?stop
 case assign=>
  intro l x W K hK;simp only[Mo.encs];gi_wp2;obtain⟨b,hb⟩:∃b,b=W.heap.size:=⟨_,rfl⟩;rw[<-hb]at hK⊢;exact hK
 case hI=>exactλpre V V' h ht=>h.turns rT.out ht
 case hIx=>
  rintro pre V V' ⟨h1,h2,er,h3,h4⟩ ht;have hsz:=rT.out;have kp:∀{b:Nat}{o:Obj},V.heap[b]?=some o->b<w.heap.size+1+1+1+1+1+1+1->V'.heap[b]?=some o:=λ{b o} hb hl=>by
   rw[ht.block b (av hb) (λhn=>by have:=hn.1;omega)];exact hb
  exact⟨h1.trans (ht.below h1.size (λk hk=>by have:=hk.1;omega)),kp h2 (by omega),er,h3,kp h4 (by omega)⟩
 case body=>
  rintro ll pre x W b hIv ⟨hok,her⟩ hb hbx;obtain⟨OV,xs,⟨⟨D_,Ea⟩,⟨Eb,Ec⟩,⟨Ed,Ee⟩⟩,xer⟩:=x;simp only at her hbx;have c0:W.cell? ⟨b,0,none⟩=some (.int .i64 OV):=(aG _ _ 0 _ _ _ hbx).trans rfl;have c1:W.cell? ⟨b,1,none⟩=some (.int .i64 xs.day):=(aG _ _ 1 _ _ _ hbx).trans rfl;have c2:W.cell? ⟨b,2,none⟩=some (.slice D_ xs.aj.length Ea):=(aG _ _ 2 _ _ _ hbx).trans rfl;have c3:W.cell? ⟨b,3,none⟩=some (.slice Eb xs.used.length Ec):=(aG _ _ 3 _ _ _ hbx).trans rfl;have c4:W.cell? ⟨b,4,none⟩=some (.slice Ed xs.marks.length Ee):=(aG _ _ 4 _ _ _ hbx).trans rfl;have HI:=ah hIv;obtain⟨hok1,hok2,RD,RF,adD⟩:=hok;simp only at hok1 hok2 RD RF;have Nv:=ah hok1;have Ah:=ah hok2;have Xk:=ah RD;have YH:=ah RF;clear hIv hok1 hok2 RD RF adD hbx;subst her;obtain⟨A,c8,h4V,hrV⟩:=HI.out.row;have H4V:=ah h4V;have HRV:=ah hrV;clear h4V hrV;have Pm:Hid ((aN C l ps pre.length).length<=1000000):=by
   show _<=_;have h1:=Iu C l ps pre.length;have h2:=(aZ.1 Nv.out).1;have h3:=ZI.out;omega
  obtain⟨C9,RG,hso,_⟩:=qH (by rw[<-Ah.out,<-Xk.out]:C.bT (C.sP (l.take pre.length)) OV=0);have HSS:Hid (∀y:Bool,rP C xs ps OV=y->aN C l ps (pre.length+1)=cond y (aN C l ps pre.length++[OV]) (aN C l ps pre.length)):=λy hy=>by rw[xZ Nv.out,<-Ah.out,hy]
  have Vs:Hid (b<W.heap.size/\w.heap.size+1+1+1+1+1+1+1<=b):=⟨World.block_lt_of_cell? W ⟨b,0,none⟩ c0,by rw[<-rT.out];exact hb⟩;have h5:W.cell? ⟨w.heap.size+1,0,none⟩=some (.func (.func 44) #[] #[.pointer (some ⟨bp,0,none⟩),.pointer (some ⟨bj,0,none⟩)]):=(aG _ _ 0 _ _ _ HI.out.b1).trans rfl;clear hb;by_cases hst:OV= -1
  .subst hst
   have YW:Hid (aN C l ps (pre.length+1)=aN C l ps pre.length++[-1]):=HSS.out true rfl;have Sm:Hid (Below W.heap.size W W):=aD _ _;have H4:Hid (W.heap[w.heap.size+1+1+1+1]?=some (.cells #[.slice A (aN C l ps pre.length).length c8] 22 (0,0))):=H4V.out;have HRZ:=HRV;have TT:=ah c0;have EF:Hid (b<W.heap.size):=Vs.out.1;have HB7:Hid (w.heap.size+1+1+1+1+1+1+1<=W.heap.size):=by show _<=_;have:=Vs.out;omega
   gi_wp2;refine⟨λ_ h=>(by cases h),?_⟩;have h8:W.cell? ⟨w.heap.size+1+1+1+1,0,none⟩=some (.slice A (aN C l ps pre.length).length c8):=(aG _ _ 0 _ _ _ H4.out).trans rfl;have f8:W.frozen? ⟨w.heap.size+1+1+1+1,0,none⟩=false:=frozen_of_row H4.out 0;have c0:W.cell? ⟨b,0,none⟩=some (.int .i64 (-1)):=TT.out;have hbz:b<W.heap.size:=EF.out;have h8z:w.heap.size+1+1+1+1<W.heap.size:=av H4.out;have hrl:(aN C l ps pre.length).length<=1000000:=Pm.out;have hB7:w.heap.size+1+1+1+1+1+1+1<=W.heap.size:=HB7.out;gi_wp2_with (gi_at_builtin;refine qx rfl _ _ rfl (w.heap.size+1+1+1+1+1+1+1) (.slice A (aN C l ps pre.length).length c8) (aN C l ps pre.length) rfl HRZ.out (-1) rfl hrl hB7 ?_;intro A' c' w9 q1 q2 q3;refine Hid.out ?_);refine ah ?_;have H49:Hid (w9.heap[w.heap.size+1+1+1+1]?=some (.cells #[.slice A (aN C l ps pre.length).length c8] 22 (0,0))):=by
    show _=_;rw[q2.block _ (by simp;omega) (λe=>by have:=(HRZ.out.lt _ e.symm).1;omega),Below.heap_alloc _ _ _ h8z];exact H4.out
   have h8':w9.cell? ⟨w.heap.size+1+1+1+1,0,none⟩=some (.slice A (aN C l ps pre.length).length c8):=(aG _ _ 0 _ _ _ H49.out).trans rfl;have f8':w9.frozen? ⟨w.heap.size+1+1+1+1,0,none⟩=false:=frozen_of_row H49.out 0;have uT:=ah q1;have EK:=ah q2;have Ev:=ah q3;clear q1 q2 q3;gi_wp2;have hh:=HI.out.app Sm.out YW.out H4V.out HRV.out uT.out EK.out Ev.out;simp only[lS,iy,jJ,nJ]at hh;rw[rT.out];exact hh
  .have hst':(OV== -1)=false:=by simpa using hst
   obtain⟨i,hi,hil⟩:∃i:Nat,(i:Int)=OV/\i<C.acts.length:=by
    rcases hso with e|⟨e1,e2⟩
    .exact absurd e hst
    .exact⟨OV.toNat,by omega,by omega⟩
   have sO:=ah (L6 bp bj (⟨⟨dF,dG⟩,⟨dH,dK⟩,⟨dV,dn⟩,⟨dQ,dh⟩,⟨dz,dB⟩⟩:CV) C pv ps (⟨⟨D_,Ea⟩,⟨Eb,Ec⟩,⟨Ed,Ee⟩⟩:TV) xs i W (HC.out.below HI.out.below) YH.out (by rw[Ah.out];exact C9) hil (HP.out.below (by omega) HI.out.below) HPS.out (by rw[HI.out.below.block bj (av HCJ.out)];exact HCJ.out) (by rw[HI.out.below.block bp (av HBP.out)];exact HBP.out));rw[hi]at sO;simp only[TV.val,TV.cells,ak.cells]at sO;have Av:Hid (rP C xs ps OV=ps.any (λx=>C.sees xs x OV)):=by show _=_;unfold rP;rw[hst',Bool.false_or]
   cases hy:ps.any (λx=>C.sees xs x OV)with
   |false=>
    rw[hy]at sO Av;have YW:Hid (aN C l ps (pre.length+1)=aN C l ps pre.length):=HSS.out false Av.out;clear hy hi hil C9 RG hso;gi_wp2_with (refine⟨trivial,?_⟩;gi_at_call 44;refine(CallsIn.inRound ll (bQ.2 sO.out)).mono ?_;rintro e z ⟨rfl,hz⟩);gi_wp2;rw[rT.out];exact HI.out.skip hz YW.out
   |true=>
    rw[hy]at sO Av;have YW:Hid (aN C l ps (pre.length+1)=aN C l ps pre.length++[OV]):=HSS.out true Av.out;clear hy hi hil C9 RG hso;gi_wp2_with (refine⟨trivial,?_⟩;gi_at_call 44;refine(CallsIn.inRound ll (bQ.2 sO.out)).mono ?_;rintro e z ⟨rfl,hz⟩;refine Hid.out ?_);refine ah ?_;have Sm:=ah hz;have H4:Hid (z.heap[w.heap.size+1+1+1+1]?=some (.cells #[.slice A (aN C l ps pre.length).length c8] 22 (0,0))):=by show _=_;rw[hz.block _ (av H4V.out)];exact H4V.out
    have HRZ:=ah (ownsRow_below HRV.out hz);have TT:Hid (z.cell? ⟨b,0,none⟩=some (.int .i64 OV)):=by show _=_;rw[hz.cell (p:=⟨b,0,none⟩) Vs.out.1];exact c0
    have EF:Hid (b<z.heap.size):=jX Vs.out.1 hz.size;have HB7:Hid (w.heap.size+1+1+1+1+1+1+1<=z.heap.size):=by show _<=_;have:=Vs.out;have:=hz.size;omega
    clear hz c0 c1 c2 c3 c4 h5;have h8:z.cell? ⟨w.heap.size+1+1+1+1,0,none⟩=some (.slice A (aN C l ps pre.length).length c8):=(aG _ _ 0 _ _ _ H4.out).trans rfl;have f8:z.frozen? ⟨w.heap.size+1+1+1+1,0,none⟩=false:=frozen_of_row H4.out 0;have c0:z.cell? ⟨b,0,none⟩=some (.int .i64 OV):=TT.out;have hbz:b<z.heap.size:=EF.out;have h8z:w.heap.size+1+1+1+1<z.heap.size:=av H4.out;have hrl:(aN C l ps pre.length).length<=1000000:=Pm.out;have hB7:w.heap.size+1+1+1+1+1+1+1<=z.heap.size:=HB7.out;gi_wp2_with (gi_at_builtin;refine qx rfl _ _ rfl (w.heap.size+1+1+1+1+1+1+1) (.slice A (aN C l ps pre.length).length c8) (aN C l ps pre.length) rfl HRZ.out OV rfl hrl hB7 ?_;intro A' c' w9 q1 q2 q3;refine Hid.out ?_);refine ah ?_;have H49:Hid (w9.heap[w.heap.size+1+1+1+1]?=some (.cells #[.slice A (aN C l ps pre.length).length c8] 22 (0,0))):=by
     show _=_;rw[q2.block _ (by simp;omega) (λe=>by have:=(HRZ.out.lt _ e.symm).1;omega),Below.heap_alloc _ _ _ h8z];exact H4.out
    have h8':w9.cell? ⟨w.heap.size+1+1+1+1,0,none⟩=some (.slice A (aN C l ps pre.length).length c8):=(aG _ _ 0 _ _ _ H49.out).trans rfl;have f8':w9.frozen? ⟨w.heap.size+1+1+1+1,0,none⟩=false:=frozen_of_row H49.out 0;have uT:=ah q1;have EK:=ah q2;have Ev:=ah q3;clear q1 q2 q3;gi_wp2;have hh:=HI.out.app Sm.out YW.out H4V.out HRV.out uT.out EK.out Ev.out;simp only[lS,iy,jJ,nJ]at hh;rw[rT.out];exact hh
 case leave=>
  rintro ll pre x W b hIv ⟨hok,her⟩ hb hbx;obtain⟨OV,xs,⟨⟨D_,Ea⟩,⟨Eb,Ec⟩,⟨Ed,Ee⟩⟩,xer⟩:=x;simp only at her hbx;have c0:W.cell? ⟨b,0,none⟩=some (.int .i64 OV):=(aG _ _ 0 _ _ _ hbx).trans rfl;have c1:W.cell? ⟨b,1,none⟩=some (.int .i64 xs.day):=(aG _ _ 1 _ _ _ hbx).trans rfl;have c2:W.cell? ⟨b,2,none⟩=some (.slice D_ xs.aj.length Ea):=(aG _ _ 2 _ _ _ hbx).trans rfl;have c3:W.cell? ⟨b,3,none⟩=some (.slice Eb xs.used.length Ec):=(aG _ _ 3 _ _ _ hbx).trans rfl;have c4:W.cell? ⟨b,4,none⟩=some (.slice Ed xs.marks.length Ee):=(aG _ _ 4 _ _ _ hbx).trans rfl;have HI:=ah hIv;obtain⟨hok1,hok2,RD,RF,adD⟩:=hok;simp only at hok1 hok2 RD RF;have Nv:=ah hok1;have Ah:=ah hok2;have Xk:=ah RD;have YH:=ah RF;clear hIv hok1 hok2 RD RF adD hbx;have h2:W.cell? ⟨w.heap.size+1+1,0,none⟩=some (.slice none 0 0):=(aG _ _ 0 _ _ _ HI.out.b2).trans rfl;have h3:W.cell? ⟨w.heap.size+1+1+1,0,none⟩=some (.int .i64 0):=(aG _ _ 0 _ _ _ HI.out.b3).trans rfl;have f2:W.frozen? ⟨w.heap.size+1+1,0,none⟩=false:=frozen_of_row HI.out.b2 0;have f3:W.frozen? ⟨w.heap.size+1+1+1,0,none⟩=false:=frozen_of_row HI.out.b3 0;have HER:=ah her;gi_wp2;refine⟨?_,?_⟩
  .refine KeepsFrom.xU (Z:=λk=>k=w.heap.size+1+1\/k=w.heap.size+1+1+1) (((aH.refl _ W).setCell (.inl (.inl rfl)) _).setCell (.inl (.inr rfl)) _) (λk o hz hB ho=>?_)
   have:=rT.out;rcases hz with e|e<;>omega
  .have hx2:=yg (x:=.slice none 0 0) HI.out.b2
   have hx3:(W.setCell ⟨w.heap.size+1+1,0,none⟩ (.slice none 0 0)).heap[w.heap.size+1+1+1]?=some (.cells #[.int .i64 0] 37 (0,0)):=by rw[Below.heap_setCell _ _ _ _ (by simp only;omega)];exact HI.out.b3
   refine⟨?_,?_,xer,HER.out,yg hx3⟩
   .exact HI.out.below.trans ((((aH.refl (λk=>k=w.heap.size+1+1\/k=w.heap.size+1+1+1) W).setCell (.inl (.inl rfl)) _).setCell (.inl (.inr rfl)) _).below HI.out.below.size (λk e=>by rcases e with e|e<;>omega))
   .rw[Below.heap_setCell _ _ _ _ (by simp only;omega)];exact hx2
 case done=>
  rintro D xs W hD ⟨hlen,ag_⟩ hIv hK;have HI:=ah hIv;have akr:=ah ag_;clear hIv ag_;obtain⟨A,c8,h4V,hrV⟩:=HI.out.row;rw[hlen]at h4V hrV;obtain⟨A9,c9,hv9,hAt⟩:=nX hrV (by intro u hu;simp only[aR,dU]at hu;obtain⟨_,_,rfl⟩:=hu;rfl);have HAT:Hid (At W 1 A (aN C l ps l.length).length c8 (aR (aN C l ps l.length))):=by injection hv9 with e1 _ e2;rw[e1,e2];exact hAt
  have YS:Hid (vT (w.heap.size+1+1+1+1+1+1+1) ⟨A,c8⟩):=λb off e=>(hrV.lt b (by simp only at e;rw[e];rfl)).1;clear hv9 hAt;have h2:W.cell? ⟨w.heap.size+1+1,0,none⟩=some (.slice none 0 0):=(aG _ _ 0 _ _ _ HI.out.b2).trans rfl;have h3:W.cell? ⟨w.heap.size+1+1+1,0,none⟩=some (.int .i64 0):=(aG _ _ 0 _ _ _ HI.out.b3).trans rfl;have h4:W.cell? ⟨w.heap.size+1+1+1+1,0,none⟩=some (.slice A (aN C l ps l.length).length c8):=(aG _ _ 0 _ _ _ h4V).trans rfl;have f2:W.frozen? ⟨w.heap.size+1+1,0,none⟩=false:=frozen_of_row HI.out.b2 0;have f3:W.frozen? ⟨w.heap.size+1+1+1,0,none⟩=false:=frozen_of_row HI.out.b3 0;have HD:Hid (w.heap.size+1+1+1+1+1+1+1<=D):=by show _<=_;rw[<-rT.out];exact hD
  have HK:=ah hK;generalize hvv:aN C l ps l.length=r at h4 HAT;have HVV:=ah hvv;clear hK hD h4V hrV hlen hvv;gi_wp2;obtain⟨Wf,lW⟩:∃Wf,Hid (Wf=(W.setCell ⟨w.heap.size+1+1,0,none⟩ (.slice A r.length c8)).setCell ⟨w.heap.size+1+1+1,0,none⟩ (.int .i64 0)):=⟨_,rfl⟩;rw[<-lW.out];have hu:aH (λk=>k=w.heap.size+1+1\/k=w.heap.size+1+1+1) W Wf:=by rw[lW.out];exact((aH.refl _ W).setCell (.inl (.inl rfl)) _).setCell (.inl (.inr rfl)) _
  have hx2:Wf.heap[w.heap.size+1+1]?=some (.cells #[.slice A r.length c8] 22 (0,0)):=by rw[lW.out,Below.heap_setCell _ _ _ _ (by simp only;omega)];exact yg HI.out.b2
  have hx3:Wf.heap[w.heap.size+1+1+1]?=some (.cells #[.int .i64 0] 37 (0,0)):=by rw[lW.out];exact yg (by rw[Below.heap_setCell _ _ _ _ (by simp only;omega)];exact HI.out.b3)
  have hKf:Wf.heap[D]?=some (.deferred (some [])):=hu.keep HK.out (λe=>by have:=HD.out;rcases e with e|e<;>omega);refine⟨by simp,.inl ⟨_,_,rfl,run_takeDeferred hKf,?_⟩⟩;have hut:aH (λk=>k=D) Wf (Wf.putObj D (.deferred none)):=⟨rfl,rfl,rfl,by simp[World.putObj],λk _ hn=>World.putObj_heap_other hn⟩;have y2:(Wf.putObj D (.deferred none)).cell? ⟨w.heap.size+1+1,0,none⟩=some (.slice A r.length c8):=(aG _ _ 0 _ _ _ (hut.keep hx2 (by have:=HD.out;omega))).trans rfl;have y3:(Wf.putObj D (.deferred none)).cell? ⟨w.heap.size+1+1+1,0,none⟩=some (.int .i64 0):=(aG _ _ 0 _ _ _ (hut.keep hx3 (by have:=HD.out;omega))).trans rfl;refine⟨.tuple #[.slice A r.length c8,.int .i64 0],by simp[results,Tryz.results43,go_sem,y2,y3],A,c8,r,0,rfl,?_,.inl ⟨rfl,akr.out,HVV.out.symm,?_⟩⟩
  .exact(HI.out.below.trans (hu.below HI.out.below.size (λk e=>by rcases e with e|e<;>omega))).trans (hut.below (by have:=hu.size;have:=HI.out.below.size;omega) (λk e=>by have:=HD.out;omega))
  .exact(HAT.out.vE (by omega) YS.out hu (λk e=>by rcases e with e|e<;>omega)).akn hut (λk e=>by subst e;exact⟨_,hKf,rfl⟩)
 case stop=>
  rintro D xs W hD hSL ⟨h1,h2,er,h3,h4⟩ hK;have HD:Hid (w.heap.size+1+1+1+1+1+1+1<=D):=by show _<=_;rw[<-rT.out];exact hD
  have HK:=ah hK;have H1:=ah h1;have H3:=ah h3;have H4:=ah h4;have H2:=ah h2;have HSL:=ah hSL;clear hD hK h1 h2 h3 h4 hSL;gi_wp2;refine⟨by simp,.inl ⟨_,_,rfl,run_takeDeferred HK.out,?_⟩⟩;have hut:aH (λk=>k=D) W (W.putObj D (.deferred none)):=⟨rfl,rfl,rfl,by simp[World.putObj],λk _ hn=>World.putObj_heap_other hn⟩;have y2:(W.putObj D (.deferred none)).cell? ⟨w.heap.size+1+1,0,none⟩=some (.slice none 0 0):=(aG _ _ 0 _ _ _ (hut.keep H2.out (by have:=HD.out;omega))).trans rfl;have y3:(W.putObj D (.deferred none)).cell? ⟨w.heap.size+1+1+1,0,none⟩=some (.int .i64 er):=(aG _ _ 0 _ _ _ (hut.keep H4.out (by have:=HD.out;omega))).trans rfl;refine⟨.tuple #[.slice none 0 0,.int .i64 er],by simp[results,Tryz.results43,go_sem,y2,y3],none,0,[],er,rfl,?_,.inr ⟨H3.out,rfl,rfl,rfl,HSL.out⟩⟩;exact H1.out.trans (hut.below H1.out.size (λk e=>by have:=HD.out;have:=H1.out.size;omega))
end
open Go.RowKit Go.Shelf
def jy(C:au)(ps:List Int):Bool:=(!decide (ps.length=0))&&((!decide (12<ps.length))&&(!(ps.any (λx=>decide (x<0)||decide (C.aF<=x)))))
theorem zF{C:au}{ps:List Int}(h:jy C ps=true):∀x∈ps,0<=x/\x<C.aF:=by
 unfold jy at h;simp only[bM,iE,List.any_eq_false,qd,decide_eq_true_eq,not_or]at h;intro x hx;have:=h.2.2 x hx;omega
def Vj(C:au)(l ps:List Int)(w:World)(e:Ending)(w':World):Prop:=
 ∃(A:Option Addr)(c:Nat)(r:List Int)(er:Int),e= .returned (.tuple #[.slice A r.length c,.int .i64 er])/\Below w.heap.size w w'/\
  ((er=0/\Good C l/\jy C ps=true/\r=aN C l ps l.length/\At w' 1 A r.length c (aR r))\/(er≠0/\A=none/\c=0/\r=[]/\(¬Good C l\/jy C ps=false)))
theorem Vk(v:CV)(C:au)(lv:SV)(l:List Int)(pv:SV)(ps:List Int)(w:World)(hC:bU w v C)(hL:At w 1 lv.A l.length lv.c (aR l))(hP:At w 1 pv.A ps.length pv.c (aR ps)):Calls Tryz.prog 22 #[v.val C,.slice lv.A l.length lv.c,.slice pv.A ps.length pv.c] w (Vj C l ps w):=by
 obtain⟨⟨dF,dG⟩,⟨dH,dK⟩,⟨dV,dn⟩,⟨dQ,dh⟩,⟨dz,dB⟩⟩:=v;obtain⟨lA,lc⟩:=lv;obtain⟨pA,pc⟩:=pv;have hlx:l.length<=9223372036854775807:=by have h1:=hL.2.2.1;have h2:=hL.2.2.2;unfold maxLen at h2;omega
 have hpx:ps.length<=9223372036854775807:=by have h1:=hP.2.2.1;have h2:=hP.2.2.2;unfold maxLen at h2;omega
 have HC:=ah hC;clear hC;have HL:=ah hL;clear hL;have HP:=ah hP;clear hP;simp only[CV.val,CV.cells];go_enter Tryz.func22,Tryz.ntmps22;go_upto_region 1 with(fail)
 generalize hW0:World.alloc _ _=W0;obtain⟨HB,hh0,g_⟩:=IQ hW0;clear hW0;obtain⟨jA,jB,jK,j4,j5,kV,lT⟩:=Fg hh0;have o_:=bW (i:=0) g_ rfl;change Code.wp _ _ _ _ (Bl.val (⟨W0,aD _ _⟩:Bl W0));generalize(⟨W0,aD _ _⟩:Bl W0)=s0;have Ph:=ah (λz:Bl W0=>yJ (⟨⟨dF,dG⟩,⟨dH,dK⟩,⟨dV,dn⟩,⟨dQ,dh⟩,⟨dz,dB⟩⟩:CV) C z.val (HC.out.below (ay HB.out z.prop)));simp only[CV.val,CV.cells]at Ph;have HH0:=ah hh0;have Pn:=ah g_;clear hh0 g_;cases qv:C.valid with
 |false=>
  rw[qv]at Ph;have ZG:Hid (¬Good C l):=λh=>by rw[h.valid]at qv;cases qv
  have yT:Hid (∀z:Bl W0,Calls Tryz.prog 38 #[.agg #[.int .i64 C.aF,.slice dF C.aj.length dG,.slice dH C.units.length dK,.slice dV C.acts.length dn,.slice dQ C.clauses.length dh,.int .i64 C.days,.slice dz C.off.length dB]] z.val (λe w'=>e= .returned (.tuple #[.agg #[.int .i64 0,.slice none 0 0,.slice none 0 0,.slice none 0 0],.int .i64 1])/\Below z.val.heap.size z.val w')):=λz=>(Ph.out z).mono (by
   rintro e w' ⟨hb,⟨h0,_⟩|⟨_,he⟩⟩
   .cases h0
   .exact⟨he,hb⟩)
  go_wp2_with (go_at_call 38;refine(yT.out _).mono ?_;rintro e z1 ⟨rfl,hz⟩;obtain⟨z1,rfl⟩:=Bl.on hz;clear hz)
  go_ret2
  exact⟨none,0,[],1,rfl,ay HB.out (aK (Bl.prop _) _),.inr ⟨by decide,rfl,rfl,rfl,.inl ZG.out⟩⟩
 |true=>
  rw[qv]at Ph;have yT:=ah (λz:Bl W0=>(Ph.out z).mono (λ_ _ h=>h.ret));generalize C.first=s1 at yT;go_wp2_with (go_at_call 38;refine(yT.out _).mono ?_;rintro e z1 ⟨CQ,CS,CU,CW,CX,CY,rfl,_,_,hz⟩;obtain⟨z1,rfl⟩:=Bl.on hz;clear hz;refine Hid.out ?_);refine ah ?_;go_upto_region 2 with(fail)
  have hpa:Below W0.heap.size W0 (z1.val.alloc (.cells #[.int .i64 s1.day,.slice CQ s1.aj.length CS,.slice CU s1.used.length CW,.slice CX s1.marks.length CY] 48)):=aK z1.prop _;obtain⟨z2,hz2⟩:∃z2:Bl W0,z1.val.alloc (.cells #[.int .i64 s1.day,.slice CQ s1.aj.length CS,.slice CU s1.used.length CW,.slice CX s1.marks.length CY] 48)=z2.val:=⟨⟨_,hpa⟩,rfl⟩;rw[hz2];generalize(Value.pointer (some ⟨z1.val.heap.size,0,none⟩))=vp;clear hz2 hpa;have Ii:=ah (λz:Bl W0=>OX w.heap.size (λx=>decide (x<0)||decide (C.aF<=x)) ⟨pA,pc⟩ ps z.val (HP.out.below (by omega) (ay HB.out z.prop)) (λz' x _=>OY w.heap.size (⟨⟨dF,dG⟩,⟨dH,dK⟩,⟨dV,dn⟩,⟨dQ,dh⟩,⟨dz,dB⟩⟩:CV) C x z'.val (by rw[(ay z.prop z'.prop).block _ (av HH0.out)];exact HH0.out)));simp only at Ii;have ho:jy C ps=((!decide (ps.length=0))&&((!decide (12<ps.length))&&(!(ps.any (λx=>decide (x<0)||decide (C.aF<=x)))))):=rfl;generalize hs:ps.any (λx=>decide (x<0)||decide (C.aF<=x))=st at Ii ho;clear hs;have HOP:=ah ho;clear ho;cases q1:decide (ps.length=0)with
  |true=>
   have q1':((ps.length:Int)==0)=true:=by rw[decide_eq_true_eq]at q1;rw[beq_iff_eq];omega
   have HF:Hid (jy C ps=false):=by show _=_;rw[HOP.out,q1];rfl
   go_wp2
   go_ret2
   exact⟨none,0,[],1,rfl,ay HB.out (Bl.prop _),.inr ⟨by decide,rfl,rfl,rfl,.inr HF.out⟩⟩
  |false=>
   have q1':((ps.length:Int)==0)=false:=by rw[decide_eq_false_iff_not]at q1;rw[beq_eq_false_iff_ne];omega
   cases q2:decide (12<ps.length)with
   |true=>
    have q2':(12:Int)<(ps.length:Int):=by rw[decide_eq_true_eq]at q2;omega
    have HF:Hid (jy C ps=false):=by show _=_;rw[HOP.out,q1,q2];rfl
    go_wp2
    go_ret2
    exact⟨none,0,[],1,rfl,ay HB.out (Bl.prop _),.inr ⟨by decide,rfl,rfl,rfl,.inr HF.out⟩⟩
   |false=>
    have q2':¬((12:Int)<(ps.length:Int)):=by rw[decide_eq_false_iff_not]at q2;omega
    cases st with
    |true=>
     have HF:Hid (jy C ps=false):=by show _=_;rw[HOP.out,q1,q2];rfl
     go_wp2_with (go_at_call 42;refine(Ii.out _).mono ?_;rintro e z ⟨rfl,hz⟩;obtain⟨z,rfl⟩:=Bl.on hz;clear hz)
     go_ret2
     exact⟨none,0,[],1,rfl,ay HB.out (Bl.prop _),.inr ⟨by decide,rfl,rfl,rfl,.inr HF.out⟩⟩
    |false=>
     have HF:Hid (jy C ps=true):=by show _=_;rw[HOP.out,q1,q2];rfl
     cases q4:decide ((4000:Int)<(l.length:Int))with
     |true=>
      have ZG:Hid (¬Good C l):=λh=>by have:=h.len;rw[decide_eq_true_eq]at q4;omega
      go_wp2_with (go_at_call 42;refine(Ii.out _).mono ?_;rintro e z ⟨rfl,hz⟩;obtain⟨z,rfl⟩:=Bl.on hz;clear hz)
      go_ret2
      exact⟨none,0,[],3,rfl,ay HB.out (Bl.prop _),.inr ⟨by decide,rfl,rfl,rfl,.inl ZG.out⟩⟩
     |false=>
      have HL4:Hid (l.length<=4000):=by show l.length<=4000;rw[decide_eq_false_iff_not]at q4;omega
      have Pz:=ah (λz:Bl W0=>Yp (w.heap.size+1) w.heap.size (⟨⟨dF,dG⟩,⟨dH,dK⟩,⟨dV,dn⟩,⟨dQ,dh⟩,⟨dz,dB⟩⟩:CV) C ⟨lA,lc⟩ l ⟨pA,pc⟩ ps z.val (HC.out.below (ay HB.out z.prop)) qv (HL.out.below (by omega) (ay HB.out z.prop)) HL4.out (HP.out.below (by omega) (ay HB.out z.prop)) (zF HF.out) (by rw[z.prop.block _ (av HH0.out)];exact HH0.out) (by rw[z.prop.block _ (av Pn.out)];exact Pn.out));simp only[CV.val,CV.cells]at Pz;go_wp2_with (first|(go_at_call 42;refine(Ii.out _).mono ?_;rintro e z ⟨rfl,hz⟩;obtain⟨z,rfl⟩:=Bl.on hz;clear hz)|(go_at_call 43;refine(Pz.out _).mono ?_;rintro e z3 ⟨A,c,r,er,rfl,hb3,hcase⟩;refine Hid.out ?_));refine ah ?_;obtain⟨zc,HZC⟩:∃zc:Bl W0,Hid (Below zc.val.heap.size zc.val z3):=⟨_,hb3⟩;have rR:=ah hcase;clear hb3 hcase;go_wp2
      go_ret2
      refine⟨A,c,r,er,rfl,ay HB.out (ay zc.prop HZC.out),?_⟩;rcases rR.out with⟨e1,e2,e3,e4⟩|⟨e1,e2,e3,e4,k,x,hk,hx⟩
      .exact .inl ⟨e1,⟨qv,HL4.out,e2⟩,HF.out,e3,e4⟩
      .exact .inr ⟨e1,e2,e3,e4,.inl (λh=>hx (h.legal k x hk))⟩
end Go.Proofs.YtpmdedcnbockhaaGreatDoor
