/- PersistReads returns true for every input, and what came in reads as it did. Conditions: what the call reads is of bulk at most 1048576 (the second form); the library's tables utf8.first and utf8.acceptRanges are as the program lays them (the tied card). -/
import Derived.Test.YtckaneapjpiocaaGreatDoorQ53
set_option linter.unusedVariables false
set_option linter.unusedSimpArgs false
set_option maxHeartbeats 16000000
set_option maxRecDepth 100000
namespace Go.Proofs.YtckaneapjpiocaaGreatDoor.preads
open Go.RowKit Go.ChangeShapes Go.WideShapes Go.ChangeAt
theorem acb(H:Type)(enc:TypeId×Value→H)(W:World)(base:Nat)(args:Array Value)(ds gs:List (DataW H))(before:List MemPlace)
 (hval0: ∀(j:Nat) t v,Tryz.f9.params[j]?=some t→args[j]?=some v→Value.okWide Tryz.prog W .any base t v)
 (hW:DataW.Whole enc Tryz.prog Tryz.f9.params.toList Rows.persistReadsSpec.vars false W args.toList ds gs before) (hk0:Rows.uptoSmall H (ds++gs)=true) (hM:xf W):
 Calls Tryz.prog 9 args W fun e W'=> ∃v,e= .returned v∧Rows.persistReadsSpec.post enc Tryz.prog Tryz.f9 false true false false W args v W':=by
 have hval: ∀(j:Nat) t v,Tryz.f9.params[j]?=some t→args[j]?=some v→Value.okWide Tryz.prog W .any base t v:=hval0
 have hW':=hW
 obtain⟨p,q,hA0,hV,rfl,_,_⟩:=hW
 have hA:DataW.TrodAll enc Tryz.prog W 0 (fun _=>true) true Tryz.f9.params.toList args.toList ds p:=hA0
 rw [Tryz.params9]at hA hval
 obtain⟨v0,d0,rfl,rfl,h0⟩:=trodAll_one hA
 obtain⟨rfl,rfl⟩:=trodVars_none hV
 have hk:=bulks.bound hk0
 simp only [List.append_nil]at hk
 obtain⟨s,rfl,hs⟩:=opb.opens_objs.param_slice Tryz.underlying33 (hval 0 33 v0 rfl rfl) h0 (opb.arg_le hk (by simp))
 refine(agq W s hM ⟨hs.len,hs.le,hs.cap,hs.rd,fun x hx=>(hs.all x hx).1⟩ hs.small (fun x hx=>⟨Nat.le_trans (hs.all x hx).2.1 (by decide),(hs.all x hx).2.2⟩)).mono fun e W' ⟨he,hx⟩=>?_
 subst he
 exact⟨_,rfl,ae6 (tb:=4) rfl hW' afF (by kernel_rfl) rfl rfl rfl rfl Tryz.underlying4 hx⟩
theorem afa(os:Os){H:Type}(enc:TypeId×Value→H): ∃places,DataW.whole enc Tryz.prog ((witW os).forCall (fun _ _=>0) ⟨#[],#[.slice none 0 0], []⟩).memory Tryz.f9.params.toList Rows.persistReadsSpec.vars false (#[.slice none 0 0]:Array Value).toList 8=some ([.nil], [],places):=
 ⟨[],by kernel_rfl⟩
theorem adE(os:Os)(started:os.Started)(H:Type)(enc:TypeId×Value→H)(F:Stop.Interp):
 ReturnsInHanded {} Tryz.checked os 9 .any ((Rows.OpenSpec.upto Rows.persistReadsSpec).preRow enc Tryz.prog Tryz.f9 Rows.persistReadsUptoRow.domain false Rows.persistReadsUptoRow.laid) (((Rows.OpenSpec.upto Rows.persistReadsSpec).at F).post enc Tryz.prog Tryz.f9 false true false false):=by
 obtain⟨places,hx⟩:=afa os enc
 refine returnsInHanded_of_row (C:=Tryz.checked) (s:=Rows.OpenSpec.upto Rows.persistReadsSpec) ae1 started (by kernel_rfl) Tryz.func9
  (witness_row_at (enc:=enc) (C:=Tryz.checked) false (witW os) #[.slice none 0 0] rfl (by kernel_rfl) (by kernel_rfl) (by kernel_rfl)
    (OpenSpec.preRow_of_cond 8 hx (by kernel_rfl) (fun k hk=>by cases hk;kernel_rfl) (by kernel_rfl) (ae3 os _))) ?_
 intro W base args ds gs before hval hW _ hcond _ _ hsh _
 exact acb H enc W base args ds gs before hval hW (hcond _ rfl) (acN hsh)
theorem jfA{a b:Bool}(h:a=true)(k:b=true):(a && b)=true:=by rw [h,k];rfl
theorem afv:joinedFacts Tryz.prog 9 Tryz.f9 (Rows.OpenSpec.upto Rows.persistReadsSpec).bare Rows.persistReadsUptoRow=true:=by
 unfold joinedFacts
 (repeat' (with_reducible refine jfA ?_ ?_)) <;> as_aux_lemma=>kernel_rfl
theorem said:Rows.PersistReadsUptoSaid:=
 OpenClaim.holds_of_cond 9 Tryz.f9 rfl rfl rfl rfl rfl rfl rfl ⟨rfl,rfl,rfl,rfl,rfl⟩ rfl rfl rfl rfl rfl (by kernel_rfl) Tryz.func9 afv
  (of_decide_eq_true (by kernel_rfl)) (by unfold Func.isWrapper;first | (rw [if_pos (by decide+kernel)];kernel_rfl) | (rw [if_neg (by decide+kernel)];exact⟨rfl,rfl⟩))
  (fun os started H enc _ F=>by rw [OpenClaim.pre_eq_preRow];exact adE os started H enc F)
theorem proved:Rows.PersistReadsUptoCardSaid:=
 Claim7.holds_tied_plain_at .later [] _ _ _ _ said (fun _ h=>(by cases h)) (by kernel_rfl) (fun _ h=>(by cases h)) persistReadsUpto_row_tie rfl ⟨rfl,rfl⟩ (by kernel_rfl) rfl
  (fun f fn hf hfn=>by
    obtain rfl:f=9:=Option.some.inj ((show Tryz.prog.funcNamed "godown/godownlaw32.PersistReads" =some 9 by kernel_rfl).symm.trans hf) |>.symm
    obtain rfl:fn=Tryz.f9:=(Option.some.inj (Tryz.func9.symm.trans hfn)).symm
    refine⟨by kernel_rfl,fun j t ht=>?_⟩
    rw [Tryz.params9]at ht
    exact match j,ht with
    | 0,ht=>by
      obtain rfl:33=t:=by simpa using ht
      exact(show Tryz.prog.wantsStandIn 33=false by kernel_rfl)
    | j+1,ht=>by simp at ht)
  (by kernel_rfl)
end Go.Proofs.YtckaneapjpiocaaGreatDoor.preads
