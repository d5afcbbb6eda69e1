/-
  PROVED: MomentTells returns true for every input, and its arguments read behind the call as they read before: what the ship and its cargo weigh, and where boxes have their middles, are as specified. No condition is added.
-/
import Derived.Test.YthfpdbjemfhieaaGreatMt25

set_option linter.unusedVariables false
set_option linter.unusedSimpArgs false
namespace Go.Proofs.YthfpdbjemfhieaaGreat
open Go.RowKit Go.ChangeShapes Go.WideShapes Go.Deep Go.ChangeAt
set_option maxRecDepth 100000 in
set_option maxHeartbeats 1000000 in
theorem liftedMomentTells (os:Os) (started:os.Started) (H:Type) (enc:TypeId×Value->H) :
 ReturnsInHanded {} Tryz.checked os 3 .any (Rows.momentTellsSpec.pre6 enc Tryz.prog Tryz.f3 Rows.momentTellsRow.domain false) (Rows.momentTellsSpec.post enc Tryz.prog Tryz.f3 false true false false):=by
 refine returnsInHanded_of_change_sized (C:=Tryz.checked) Tryz.own started (by kernel_rfl) Tryz.func3
  (ChangeSpec.witness6 (enc:=enc) (C:=Tryz.checked) false ⟨#[],#[.agg #[.slice none 0 0,.slice none 0 0,.int .i64 0,.int .i64 0,.int .i64 0,.int .i64 0,.slice none 0 0,.slice none 0 0,.slice none 0 0,.int .i64 0,.int .i64 0,.int .i64 0,.int .i64 0],.slice none 0 0,.slice none 0 0,.int .i64 0],[]⟩ 8 (by kernel_rfl) (by kernel_rfl) (by kernel_rfl) (by kernel_rfl)) ?_
 intro W base args ds gs before hval0 hW _ hsz0 _;have hval:∀ (j:Nat) t v,Tryz.f3.params[j]? = some t->args[j]? = some v->Value.okWide Tryz.prog W .any base t v:=hval0;have hsz:(DataW.weightsEach Tryz.prog (Tryz.f3.params.toList++Rows.momentTellsSpec.plain.varTypes Tryz.prog) (ds++gs)).all (· <= reachBytes)=true:=hsz0;have hW':=hW;obtain⟨p,q,hA0,hV,rfl,_,_⟩:=hW;have hA:DataW.TrodAll enc Tryz.prog W 0 (fun _=>true) true Tryz.f3.params.toList args.toList ds p:=hA0;rw [Tryz.params3] at hA hval hsz;have hAk:=hA;obtain⟨v0,vs0,d0,ds0,p0,q0,ea0,ed0,ep0,h0,r0⟩:=trodAll_cons hA;obtain⟨v1,vs1,d1,ds1,p1,q1,ea1,ed1,ep1,h1,r1⟩:=trodAll_cons r0;obtain⟨v2,vs2,d2,ds2,p2,q2,ea2,ed2,ep2,h2,r2⟩:=trodAll_cons r1;obtain⟨v3,vs3,d3,ds3,p3,q3,ea3,ed3,ep3,h3,r3⟩:=trodAll_cons r2;obtain⟨ean,edn,epn⟩:=trodAll_nil r3;subst ean edn;subst ea3 ed3;subst ea2 ed2;subst ea1 ed1;obtain rfl:args = #[v0,v1,v2,v3]:=by apply Array.ext'; exact ea0
 subst ed0;obtain⟨rfl,rfl⟩:=trodVars_none hV;clear hA0 hval0 hsz0;simp only [List.append_nil] at hW' hsz;have hlt:∀ x∈p,x.block<W.heap.size:=fun x hx=>by simpa using hW'.lt x hx
 obtain⟨f0,t0⟩:=h0;obtain⟨av0,x0,s0,w0⟩:=open_agg (tc:=tcTab) (n:=6) (ss:=shipSg) Tryz.underlying32 (by kernel_rfl) (hval 0 32 v0 rfl rfl) t0 (fits_of hsz (j:=0) rfl rfl);obtain⟨_,_,rfl,⟨c0x0,rfl⟩,s0⟩:=s0;obtain⟨_,_,rfl,⟨c0x1,rfl⟩,s0⟩:=s0;obtain⟨_,_,rfl,⟨c0x2,rfl⟩,s0⟩:=s0;obtain⟨_,_,rfl,⟨c0x3,rfl⟩,s0⟩:=s0;obtain⟨_,_,rfl,⟨c0x4,rfl⟩,s0⟩:=s0;obtain⟨_,_,rfl,⟨c0x5,rfl⟩,s0⟩:=s0;obtain⟨_,_,rfl,⟨c0x6,rfl⟩,s0⟩:=s0;obtain⟨_,_,rfl,⟨c0x7,rfl⟩,s0⟩:=s0;obtain⟨_,_,rfl,⟨c0x8,rfl⟩,s0⟩:=s0;obtain⟨_,_,rfl,⟨c0x9,rfl⟩,s0⟩:=s0;obtain⟨_,_,rfl,⟨c0x10,rfl⟩,s0⟩:=s0;obtain⟨_,_,rfl,⟨c0x11,rfl⟩,s0⟩:=s0;obtain⟨_,_,rfl,⟨c0x12,rfl⟩,s0⟩:=s0;obtain rfl:=s0;obtain⟨f1,t1⟩:=h1;obtain⟨n1,x1,w1⟩:=open_sl (tc:=tcTab) (n:=6) (t := .box) Tryz.underlying33 (by kernel_rfl) (hval 1 33 v1 rfl rfl) t1 (fits_of hsz (j:=1) rfl rfl);obtain⟨f2,t2⟩:=h2;obtain⟨n2,x2,w2⟩:=open_sl (tc:=tcTab) (n:=6) (t := .stowed) Tryz.underlying34 (by kernel_rfl) (hval 2 34 v2 rfl rfl) t2 (fits_of hsz (j:=2) rfl rfl);obtain⟨f3,t3⟩:=h3;obtain⟨n3,x3,w3⟩:=open_int Tryz.underlying3 (hval 3 3 v3 rfl rfl) t3;have hE:Each W (fun _=>none) 0 (allRo W) [.agg (shipL fun _=>⟨c0x0,c0x1,c0x2,c0x3,c0x4,c0x5,c0x6,c0x7,c0x8,c0x9,c0x10,c0x11,c0x12⟩),.sl false .box fun _=>n1,.sl false .stowed fun _=>n2,.int .i64 fun _=>n3] [v0,v1,v2,v3] := .cons x0 (.cons x1 (.cons x2 (.cons x3 (.nil))));refine (law_of conMomentTells_ok rfl rfl hE (by
  exact tells_wf (s:=⟨c0x0,c0x1,c0x2,c0x3,c0x4,c0x5,c0x6,c0x7,c0x8,c0x9,c0x10,c0x11,c0x12⟩) w0 w1)).mono fun e W' ⟨he,hb⟩ => ?_
 subst he;exact⟨_,rfl,⟨_,_,_,[],_,[],hW',trodAll_mk1 (shut_bool Tryz.underlying4 true),below_all Tryz.laidOut hb (by kernel_rfl) hAk hlt,rfl,hb.frame _,fun h=>by cases h⟩⟩
theorem momentTells_holds:Rows.MomentTellsSaid :=
 OpenClaim.holds_of_wide 3 Tryz.f3 rfl rfl rfl rfl rfl rfl rfl ⟨rfl,rfl,rfl,rfl,rfl⟩ rfl rfl rfl rfl rfl (by kernel_rfl) Tryz.func3 (by kernel_rfl)
  (of_decide_eq_true (by kernel_rfl)) (by unfold Func.isWrapper; first|(rw [if_pos (by decide +kernel)]; kernel_rfl)|(rw [if_neg (by decide +kernel)]; exact⟨rfl,rfl⟩))
  (fun os started H enc _=>liftedMomentTells os started H enc)
#print axioms momentTells_holds
end Go.Proofs.YthfpdbjemfhieaaGreat
