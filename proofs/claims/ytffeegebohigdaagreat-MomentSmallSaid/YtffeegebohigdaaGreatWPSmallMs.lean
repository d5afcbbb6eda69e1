/-
  PROVED: MomentSmall returns true for every input, and its arguments read behind the call as they read before: the cargo of the examples in sixteen ways, and light ships, weights and places at their limits and one beyond, are as specified. No condition is added.
-/
import Derived.Test.YtffeegebohigdaaGreatMs27

set_option linter.unusedVariables false
set_option linter.unusedSimpArgs false
set_option maxRecDepth 100000
set_option maxHeartbeats 4000000
namespace Go.Proofs.YtffeegebohigdaaGreat
open Go.RowKit Go.ChangeShapes Go.WideShapes Go.Deep Go.ChangeAt
set_option maxHeartbeats 1000000 in
theorem Qfj (os:Os) (started:os.Started) (H:Type) (enc:TypeId×Value->H) :
 ReturnsInHanded {} Tryz.checked os 3 .any (Rows.momentSmallSpec.pre6 enc Tryz.prog Tryz.f3 Rows.momentSmallRow.domain false) (Rows.momentSmallSpec.post enc Tryz.prog Tryz.f3 false true false false):=by
 refine returnsInHanded_of_change_sized (C:=Tryz.checked) Tryz.own started (by kernel_rfl) Tryz.func3
  (ChangeSpec.witness6 (enc:=enc) (C:=Tryz.checked) false ⟨#[],#[],[]⟩ 8 (by kernel_rfl) (by kernel_rfl) (by kernel_rfl) (by kernel_rfl)) ?_
 intro W base args ds gs before hval0 hW _ hsz0 _;have hval:∀ (j:Nat) t v,Tryz.f3.params[j]? = some t->args[j]? = some v->Value.okWide Tryz.prog W .any base t v:=hval0;have hsz:(DataW.weightsEach Tryz.prog (Tryz.f3.params.toList++Rows.momentSmallSpec.plain.varTypes Tryz.prog) (ds++gs)).all (· <= reachBytes)=true:=hsz0;have hW':=hW;obtain⟨p,q,hA0,hV,rfl,_,_⟩:=hW;have hA:DataW.TrodAll enc Tryz.prog W 0 (fun _=>true) true Tryz.f3.params.toList args.toList ds p:=hA0;rw [Tryz.params3] at hA hval hsz;have hAk:=hA;obtain⟨ean,edn,epn⟩:=trodAll_nil hA;obtain rfl:args = #[]:=by apply Array.ext'; exact ean
 subst edn;obtain⟨rfl,rfl⟩:=trodVars_none hV;clear hA0 hval0 hsz0;simp only [List.append_nil] at hW' hsz;have hlt:∀ x∈p,x.block<W.heap.size:=fun x hx=>by simpa using hW'.lt x hx
 have hE:Qj W (fun _=>none) 0 (Qxf W) [] [] := .nil;refine (Z7d Qff rfl rfl hE (by
  trivial)).mono fun e W' ⟨he,hb⟩ => ?_
 subst he;exact⟨_,rfl,⟨_,_,_,[],_,[],hW',trodAll_mk1 (shut_bool Tryz.underlying4 true),Qp4 Tryz.laidOut hb (by kernel_rfl) hAk hlt,rfl,hb.frame _,fun h=>by cases h⟩⟩
theorem momentSmall_holds:Rows.MomentSmallSaid :=
 OpenClaim.holds_of_wide 3 Tryz.f3 rfl rfl rfl rfl rfl rfl rfl ⟨rfl,rfl,rfl,rfl,rfl⟩ rfl rfl rfl rfl rfl (by kernel_rfl) Tryz.func3 (by kernel_rfl)
  (of_decide_eq_true (by kernel_rfl)) (by unfold Func.isWrapper; first|(rw [if_pos (by decide +kernel)]; kernel_rfl)|(rw [if_neg (by decide +kernel)]; exact⟨rfl,rfl⟩))
  (fun os started H enc _=>Qfj os started H enc)
#print axioms momentSmall_holds
end Go.Proofs.YtffeegebohigdaaGreat
