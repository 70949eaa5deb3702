/- part -/
import Derived.Test.YtfnnplicbjeifaaGreatDoorP16
import Derived.Test.YtfnnplicbjeifaaGreatDoorP17
import Derived.Test.YtfnnplicbjeifaaGreatDoorTie
set_option linter.all false
namespace Go.Proofs.YtfnnplicbjeifaaGreatDoor.arbiterAdvice
open Go.ChangeShapes Go.WideShapes Go.ChangeAt Go.RowKit
theorem own:ownKnob Tryz.prog.godebug=none:=by kernel_rfl
theorem laidOut:laidOutB Tryz.prog=true:=by kernel_rfl
theorem alj:Tryz.prog.globalNamed "internal/strconv.uint64pow10"=some 0:=by kernel_rfl
theorem Rz:(Tryz.prog.globals[0]?).map (·.type)=some 432:=by kernel_rfl
theorem ZM:Tryz.prog.cellsOf 432=20:=by kernel_rfl
theorem cellsE:Tryz.prog.cellsOf 359=1:=by kernel_rfl
theorem table{W:World}(h:laidMetH Tryz.prog Rows.arbiterAdviceRow.laid W):Lib.TabIs Tryz.prog W "internal/strconv.uint64pow10" .u64 Lib.pow10Tab:=by
 have h':laidMet Tryz.prog Rows.arbiterAdviceRow.laid W:=h;exact Lib.tabIs_of_head (rest:=[]) alj Rz Tryz.underlying432 Tryz.underlying359 cellsE ZM (laidMet.tail (laidMet.tail h'))
def EG:DataW Unit->Array Value
 | .agg l=>(l.map λ| .lit (.int k z)=>Value.int k z|_=>Value.int .u8 0).toArray
 |_=>#[]
def RA(h:Array Obj)(g:Nat)(d:DataW Unit):Array Obj:=h.modify g λ
 | .cells _ t frozen=>.cells (EG d) t frozen
 |o=>o
noncomputable def xU (os:Os):World:=
 {World.holding Tryz.prog os ⟨#[],#[],[]⟩with heap:=RA (RA (RA (World.holding Tryz.prog os ⟨#[],#[],[]⟩).heap 1 Rows.laid_math_bits_deBruijn32tab) 2 Rows.laid_math_bits_deBruijn64tab) 0 Rows.laid_internal_strconv_uint64pow10}
theorem RB(os:Os):laidMet Tryz.prog Rows.arbiterAdviceRow.laid ((xU os).forCall (λ_ _=>0) ⟨#[],#[.agg #[.int .i64 0,.slice none 0 0,.slice none 0 0,.slice none 0 0,.slice none 0 0,.int .i64 0,.slice none 0 0],.int .i64 0,.slice none 0 0,.agg #[.slice none 0 0,.int .i64 0,.slice none 0 0,.int .i64 0,.slice none 0 0]],[]⟩).memory:=
 laidMet_of_run' 8 (by kernel_rfl) (by kernel_rfl)
theorem reads(os:Os){H:Type}(enc:TypeId×Value->H):∃places,DataW.whole enc Tryz.prog ((xU os).forCall (λ_ _=>0) ⟨#[],#[.agg #[.int .i64 0,.slice none 0 0,.slice none 0 0,.slice none 0 0,.slice none 0 0,.int .i64 0,.slice none 0 0],.int .i64 0,.slice none 0 0,.agg #[.slice none 0 0,.int .i64 0,.slice none 0 0,.int .i64 0,.slice none 0 0]],[]⟩).memory Tryz.f9.params.toList Rows.arbiterAdviceSpec.vars false (#[.agg #[.int .i64 0,.slice none 0 0,.slice none 0 0,.slice none 0 0,.slice none 0 0,.int .i64 0,.slice none 0 0],.int .i64 0,.slice none 0 0,.agg #[.slice none 0 0,.int .i64 0,.slice none 0 0,.int .i64 0,.slice none 0 0]]:Array Value).toList 8=some ([.agg [.lit (.int .i64 0),.nil,.nil,.nil,.nil,.lit (.int .i64 0),.nil],.lit (.int .i64 0),.nil,.agg [.nil,.lit (.int .i64 0),.nil,.agg [.lit (.int .i64 0),.nil]]],[],places):=
 ⟨[],by kernel_rfl⟩
set_option maxRecDepth 100000 in
theorem contract(H:Type)(enc:TypeId×Value->H)(W:World)(base:Nat)(args:Array Value)(ds gs:List (DataW H))(before:List MemPlace)
 (hval:∀(j:Nat) t v,Tryz.f9.params[j]?=some t->args[j]?=some v->Value.okWide Tryz.prog W .any base t v)
 (hW:DataW.Whole enc Tryz.prog Tryz.f9.params.toList Rows.arbiterAdviceSpec.vars false W args.toList ds gs before)(hL:laidMetH Tryz.prog Rows.arbiterAdviceRow.laid W):
 Calls Tryz.prog 9 args W λe W'=>∃v,e= .returned v/\Rows.arbiterAdviceSpec.post enc Tryz.prog Tryz.f9 false true false false W args v W':=by
 have hW':=hW;obtain⟨p,q,hA0,hV,rfl,hfz,hnd⟩:=hW;have hA:DataW.TrodAll enc Tryz.prog W 0 (λ_=>true) true Tryz.f9.params.toList args.toList ds p:=hA0;rw[Tryz.params9]at hA hval;obtain⟨v0,vs0,d0,ds0,p0,q0,hargs,rfl,rfl,h0,r0⟩:=trodAll_cons hA;obtain⟨v1,vs1,d1,ds1,p1,q1,rfl,rfl,rfl,h1,r1⟩:=trodAll_cons r0;obtain⟨v2,vs2,d2,ds2,p2,q2,rfl,rfl,rfl,h2,r2⟩:=trodAll_cons r1;obtain⟨v3,vs3,d3,ds3,p3,q3,rfl,rfl,rfl,h3,r3⟩:=trodAll_cons r2;obtain⟨rfl,rfl,rfl⟩:=trodAll_nil r3;obtain rfl:args=#[v0,v1,v2,v3]:=by cases args;simp_all
 obtain⟨rfl,rfl⟩:=trodVars_none hV;have k0:=h0;have lt0:∀x∈p0,x.block<W.heap.size:=by obtain⟨m,hm⟩:=k0;exact DataW.trod_lt m _ _ _ hm
 obtain⟨cv0,C0,hv0,hC0⟩:=Rq (hval 0 27 v0 rfl rfl) h0;obtain⟨a1,rfl,rfl,rfl,w1⟩:=open_int Tryz.underlying3 (hval 1 3 v1 rfl rfl) h1;have k2:=h2;have lt2:∀x∈p2,x.block<W.heap.size:=by obtain⟨m,hm⟩:=k2;exact DataW.trod_lt m _ _ _ hm
 obtain⟨sv2,l2,hv2,hS2⟩:=open_ints (hval 2 22 v2 rfl rfl) h2;have k3:=h3;have lt3:∀x∈p3,x.block<W.heap.size:=by obtain⟨m,hm⟩:=k3;exact DataW.trod_lt m _ _ _ hm
 obtain⟨tv3,at3,sh3,dp3,dr3,lw3,ss3,atr,hv3,hO3⟩:=Ni (hval 3 51 v3 rfl rfl) h3;clear hA0;refine(Bp (party:=a1) (table hL) hv0 hv2 hv3 hC0 hS2 hO3).mono λe W' ⟨he,bel⟩=>?_;subst he;exact⟨_,rfl,_,_,_,[],_,[],hW',trodAll_mk1 (shut_bool Tryz.underlying4 _),(trodAll_cons_mk (Below.trod laidOut (by kernel_rfl) (of_decide_eq_true (by kernel_rfl)) k0 bel lt0) (trodAll_cons_mk (shut_int Tryz.underlying3 w1) (trodAll_cons_mk (Below.trod laidOut (by kernel_rfl) (of_decide_eq_true (by kernel_rfl)) k2 bel lt2) (trodAll_cons_mk (Below.trod laidOut (by kernel_rfl) (of_decide_eq_true (by kernel_rfl)) k3 bel lt3) trodAll_mk0)))),rfl,bel.frame _,λh=>by cases h⟩
set_option maxRecDepth 100000 in
theorem lifted(os:Os)(started:os.Started)(H:Type)(enc:TypeId×Value->H)(F:Stop.Interp):
 ReturnsInHanded {} Tryz.checked os 9 .any ((OpenSpec.ofChange Rows.arbiterAdviceSpec).preRow enc Tryz.prog Tryz.f9 Rows.arbiterAdviceRow.domain false Rows.arbiterAdviceRow.laid) (((OpenSpec.ofChange Rows.arbiterAdviceSpec).at F).post enc Tryz.prog Tryz.f9 false true false false):=by
 obtain⟨places,hx⟩:=reads os enc;refine returnsInHanded_of_row (C:=Tryz.checked) (s:=OpenSpec.ofChange Rows.arbiterAdviceSpec) own started (by kernel_rfl) Tryz.func9
  (witness_row_at (enc:=enc) (C:=Tryz.checked) false (xU os) #[.agg #[.int .i64 0,.slice none 0 0,.slice none 0 0,.slice none 0 0,.slice none 0 0,.int .i64 0,.slice none 0 0],.int .i64 0,.slice none 0 0,.agg #[.slice none 0 0,.int .i64 0,.slice none 0 0,.int .i64 0,.slice none 0 0]] rfl (by kernel_rfl) (by kernel_rfl) (by kernel_rfl)
   (OpenSpec.preRow_of_cond 8 hx (by kernel_rfl) (λk hk=>by cases hk) (by kernel_rfl) (RB os))) ?_
 intro W base args ds gs before hval hW _ _ _ hL _ _;exact contract H enc W base args ds gs before hval hW hL
theorem said:Rows.ArbiterAdviceSaid:=
 OpenClaim.holds_of_cond 9 Tryz.f9 rfl rfl rfl rfl rfl rfl rfl ⟨rfl,rfl,rfl,rfl,rfl⟩ rfl rfl rfl rfl rfl (by as_aux_lemma=>kernel_rfl) Tryz.func9 closed
  (of_decide_eq_true (by as_aux_lemma=>kernel_rfl)) (by unfold Func.isWrapper;first|(rw[if_pos (by decide+kernel)];as_aux_lemma=>kernel_rfl)|(rw[if_neg (by decide+kernel)];exact⟨rfl,rfl⟩))
  (λos started H enc _ F=>by rw[OpenClaim.pre_eq_preRow];exact lifted os started H enc F)
set_option maxRecDepth 100000 in
theorem plain(f:FuncId)(fn:Func)(hf:Tryz.pinned.checked.prog.funcNamed "estoppel/estoppellaw40.ArbiterAdvice"=some f)(hfn:Tryz.pinned.checked.prog.funcs[f]?=some fn):
 true=Tryz.pinned.checked.prog.looks []/\∀(j:Nat) t,fn.params[j]?=some t->Tryz.pinned.checked.prog.wantsStandIn t=false:=by
 obtain rfl:f=9:=Option.some.inj ((show Tryz.prog.funcNamed "estoppel/estoppellaw40.ArbiterAdvice"=some 9 by kernel_rfl).symm.trans hf) |>.symm;obtain rfl:fn=Tryz.f9:=(Option.some.inj (Tryz.func9.symm.trans hfn)).symm;refine⟨by as_aux_lemma=>kernel_rfl,λj t ht=>?_⟩;rw[Tryz.params9]at ht;have h1:=Array.mem_of_getElem? ht;simp only[List.mem_toArray,List.mem_cons,List.not_mem_nil,or_false]at h1;rcases h1 with rfl|rfl|rfl|rfl
 .exact(show Tryz.prog.wantsStandIn 27=false by as_aux_lemma=>kernel_rfl)
 .exact(show Tryz.prog.wantsStandIn 3=false by as_aux_lemma=>kernel_rfl)
 .exact(show Tryz.prog.wantsStandIn 22=false by as_aux_lemma=>kernel_rfl)
 .exact(show Tryz.prog.wantsStandIn 51=false by as_aux_lemma=>kernel_rfl)
set_option maxRecDepth 100000 in
theorem card:Rows.ArbiterAdviceCardSaid:=
 Claim7.holds_tied_plain_at .later [] _ _ _ _ said (λ_ h=>by cases h) (by as_aux_lemma=>kernel_rfl) (λ_ h=>by cases h) arbiterAdvice_row_tie rfl ⟨rfl,rfl⟩ (by as_aux_lemma=>kernel_rfl) rfl plain (by as_aux_lemma=>kernel_rfl)
end Go.Proofs.YtfnnplicbjeifaaGreatDoor.arbiterAdvice
namespace Go.Proofs.YtfnnplicbjeifaaGreatDoor
theorem arbiterAdvice_card:Rows.ArbiterAdviceCardSaid:=arbiterAdvice.card
end Go.Proofs.YtfnnplicbjeifaaGreatDoor
