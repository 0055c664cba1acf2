/- PersistOwn returns true for every input, and what came in reads as it did. Conditions: what the call reads is of bulk at most 1048576 (the second form); the library's tables utf8.first and utf8.acceptRanges are as the program lays them (the tied card). -/
import Derived.Test.YtckaneapjpiocaaGreatDoorQ52
import Derived.Test.YtckaneapjpiocaaGreatDoorQ48
set_option linter.unusedVariables false
set_option linter.unusedSimpArgs false
set_option maxHeartbeats 16000000
set_option maxRecDepth 100000
namespace Go.Proofs.YtckaneapjpiocaaGreatDoor.pown
open Go.RowKit Go.ChangeShapes Go.WideShapes Go.ChangeAt
theorem acb(H:Type)(enc:TypeId×Value→H)(W:World)(base:Nat)(args:Array Value)(ds gs:List (DataW H))(before:List MemPlace)
 (hval0: ∀(j:Nat) t v,Tryz.f10.params[j]?=some t→args[j]?=some v→Value.okWide Tryz.prog W .any base t v)
 (hW:DataW.Whole enc Tryz.prog Tryz.f10.params.toList Rows.persistOwnSpec.vars false W args.toList ds gs before) (hk0:Rows.uptoSmall H (ds++gs)=true) (hM:xf W):
 Calls Tryz.prog 10 args W fun e W'=> ∃v,e= .returned v∧Rows.persistOwnSpec.post enc Tryz.prog Tryz.f10 false true false false W args v W':=by
 have hval: ∀(j:Nat) t v,Tryz.f10.params[j]?=some t→args[j]?=some v→Value.okWide Tryz.prog W .any base t v:=hval0
 have hW':=hW
 obtain⟨p,q,hA0,hV,rfl,_,_⟩:=hW
 have hA:DataW.TrodAll enc Tryz.prog W 0 (fun _=>true) true Tryz.f10.params.toList args.toList ds p:=hA0
 rw [Tryz.params10]at hA hval
 obtain⟨v0,d0,rfl,rfl,h0⟩:=trodAll_one hA
 obtain⟨rfl,rfl⟩:=trodVars_none hV
 have hk:=bulks.bound hk0
 simp only [List.append_nil]at hk
 obtain⟨t,rfl,ht⟩:=opb.opens_pol.param_struct Tryz.underlying61 (hval 0 61 v0 rfl rfl) h0 (opb.arg_le hk (by simp))
 refine(ahy W t hM ht).mono fun e W' ⟨he,hx⟩=>?_
 subst he
 exact⟨_,rfl,ae6 (tb:=4) rfl hW' afF (by kernel_rfl) rfl rfl rfl rfl Tryz.underlying4 hx⟩
theorem afa(os:Os){H:Type}(enc:TypeId×Value→H): ∃places,DataW.whole enc Tryz.prog ((witW os).forCall (fun _ _=>0) ⟨#[],#[.agg #[.int .i64 0,.slice none 0 0,.slice none 0 0,.slice none 0 0]], []⟩).memory Tryz.f10.params.toList Rows.persistOwnSpec.vars false (#[.agg #[.int .i64 0,.slice none 0 0,.slice none 0 0,.slice none 0 0]]:Array Value).toList 8=some ([.agg [.lit (.int .i64 0),.nil,.nil,.nil]], [],places):=
 ⟨[],by kernel_rfl⟩
theorem adE(os:Os)(started:os.Started)(H:Type)(enc:TypeId×Value→H)(F:Stop.Interp):
 ReturnsInHanded {} Tryz.checked os 10 .any ((Rows.OpenSpec.upto Rows.persistOwnSpec).preRow enc Tryz.prog Tryz.f10 Rows.persistOwnUptoRow.domain false Rows.persistOwnUptoRow.laid) (((Rows.OpenSpec.upto Rows.persistOwnSpec).at F).post enc Tryz.prog Tryz.f10 false true false false):=by
 obtain⟨places,hx⟩:=afa os enc
 refine returnsInHanded_of_row (C:=Tryz.checked) (s:=Rows.OpenSpec.upto Rows.persistOwnSpec) ae1 started (by kernel_rfl) Tryz.func10
  (witness_row_at (enc:=enc) (C:=Tryz.checked) false (witW os) #[.agg #[.int .i64 0,.slice none 0 0,.slice none 0 0,.slice none 0 0]] rfl (by kernel_rfl) (by kernel_rfl) (by kernel_rfl)
    (OpenSpec.preRow_of_cond 8 hx (by kernel_rfl) (fun k hk=>by cases hk;kernel_rfl) (by kernel_rfl) (ae3 os _))) ?_
 intro W base args ds gs before hval hW _ hcond _ _ hsh _
 exact acb H enc W base args ds gs before hval hW (hcond _ rfl) (acN hsh)
theorem jfA{a b:Bool}(h:a=true)(k:b=true):(a && b)=true:=by rw [h,k];rfl
theorem afv:joinedFacts Tryz.prog 10 Tryz.f10 (Rows.OpenSpec.upto Rows.persistOwnSpec).bare Rows.persistOwnUptoRow=true:=by
 unfold joinedFacts
 (repeat' (with_reducible refine jfA ?_ ?_)) <;> as_aux_lemma=>kernel_rfl
theorem said:Rows.PersistOwnUptoSaid:=
 OpenClaim.holds_of_cond 10 Tryz.f10 rfl rfl rfl rfl rfl rfl rfl ⟨rfl,rfl,rfl,rfl,rfl⟩ rfl rfl rfl rfl rfl (by kernel_rfl) Tryz.func10 afv
  (of_decide_eq_true (by kernel_rfl)) (by unfold Func.isWrapper;first | (rw [if_pos (by decide+kernel)];kernel_rfl) | (rw [if_neg (by decide+kernel)];exact⟨rfl,rfl⟩))
  (fun os started H enc _ F=>by rw [OpenClaim.pre_eq_preRow];exact adE os started H enc F)
theorem proved:Rows.PersistOwnUptoCardSaid:=
 Claim7.holds_tied_plain_at .later [] _ _ _ _ said (fun _ h=>(by cases h)) (by kernel_rfl) (fun _ h=>(by cases h)) persistOwnUpto_row_tie rfl ⟨rfl,rfl⟩ (by kernel_rfl) rfl
  (fun f fn hf hfn=>by
    obtain rfl:f=10:=Option.some.inj ((show Tryz.prog.funcNamed "godown/godownlaw32.PersistOwn" =some 10 by kernel_rfl).symm.trans hf) |>.symm
    obtain rfl:fn=Tryz.f10:=(Option.some.inj (Tryz.func10.symm.trans hfn)).symm
    refine⟨by kernel_rfl,fun j t ht=>?_⟩
    rw [Tryz.params10]at ht
    exact match j,ht with
    | 0,ht=>by
      obtain rfl:61=t:=by simpa using ht
      exact(show Tryz.prog.wantsStandIn 61=false by kernel_rfl)
    | j+1,ht=>by simp at ht)
  (by kernel_rfl)
end Go.Proofs.YtckaneapjpiocaaGreatDoor.pown
