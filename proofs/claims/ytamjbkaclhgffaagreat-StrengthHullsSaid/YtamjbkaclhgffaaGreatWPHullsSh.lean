/-
  PROVED: StrengthHulls returns true for every input, and its arguments read behind the call as they read before: what weighs on a ship with its cargo and its water, and the curve of its stress, are as specified. No condition is added.
-/
import Derived.Test.YtamjbkaclhgffaaGreatSh36

set_option linter.all false
set_option maxRecDepth 100000
set_option maxHeartbeats 4000000
namespace Go.Proofs.YtamjbkaclhgffaaGreat
open Go.RowKit Go.ChangeShapes Go.WideShapes Go.Deep Go.ChangeAt
set_option maxHeartbeats 1000000 in
theorem aDF(os:Os)(started:os.Started)(H:Type)(enc:TypeId×Value->H) :
 ReturnsInHanded {} Tryz.checked os 3 .any (Rows.strengthHullsSpec.pre6 enc Tryz.prog Tryz.f3 Rows.strengthHullsRow.domain false) (Rows.strengthHullsSpec.post enc Tryz.prog Tryz.f3 false true false false):=by
 refine returnsInHanded_of_change_sized (C:=Tryz.checked) Tryz.own started (by kernel_rfl) Tryz.func3
  (ChangeSpec.witness6 (enc:=enc) (C:=Tryz.checked) false ⟨#[],#[.agg #[.slice none 0 0,.slice none 0 0,.int .i64 0,.int .i64 0,.int .i64 0,.int .i64 0,.slice none 0 0,.slice none 0 0,.slice none 0 0,.int .i64 0,.int .i64 0,.int .i64 0,.int .i64 0],.slice none 0 0,.slice none 0 0,.slice none 0 0],[]⟩ 8 (by kernel_rfl) (by kernel_rfl) (by kernel_rfl) (by kernel_rfl)) ?_
 intro W base args ds gs before amr hW _ ams _;have tu:∀ (j:Nat) t v,Tryz.f3.params[j]? = some t->args[j]? = some v->Value.okWide Tryz.prog W .any base t v:=amr;have bc:(DataW.weightsEach Tryz.prog (Tryz.f3.params.toList++Rows.strengthHullsSpec.plain.varTypes Tryz.prog) (ds++gs)).all (· <= reachBytes)=true:=ams;have Yw:=hW;obtain⟨p,q,hA0,hV,rfl,_,_⟩:=hW;have hA:DataW.TrodAll enc Tryz.prog W 0 (fun _=>true) true Tryz.f3.params.toList args.toList ds p:=hA0;rw [Tryz.params3] at hA tu bc;have hAk:=hA;obtain⟨v0,vs0,d0,ds0,p0,q0,ea0,ed0,ep0,h0,r0⟩:=trodAll_cons hA;obtain⟨v1,vs1,d1,LJ,p1,q1,ea1,ed1,ep1,h1,r1⟩:=trodAll_cons r0;obtain⟨v2,vs2,d2,ds2,p2,q2,ea2,ed2,ep2,h2,r2⟩:=trodAll_cons r1;obtain⟨v3,vs3,d3,ds3,p3,q3,ea3,ed3,ep3,h3,r3⟩:=trodAll_cons r2;obtain⟨ean,edn,epn⟩:=trodAll_nil r3;subst ean edn;subst ea3 ed3;subst ea2 ed2;subst ea1 ed1;obtain rfl:args = #[v0,v1,v2,v3]:=by apply yP; exact ea0
 subst ed0;obtain⟨rfl,rfl⟩:=trodVars_none hV;clear hA0 amr ams;simp only [th] at Yw bc;have af:∀ x∈p,x.block<W.heap.size:=fun x hx=>by simpa using Yw.lt x hx
 obtain⟨f0,t0⟩:=h0;obtain⟨av0,x0,s0,w0⟩:=aDC (tc:=Cf) (n:=6) (ss:=aek) Tryz.underlying32 (by kernel_rfl) (tu 0 32 v0 rfl rfl) t0 (PQ bc (j:=0) rfl rfl);obtain⟨_,_,rfl,⟨amu,rfl⟩,s0⟩:=s0;obtain⟨_,_,rfl,⟨amv,rfl⟩,s0⟩:=s0;obtain⟨_,_,rfl,⟨amw,rfl⟩,s0⟩:=s0;obtain⟨_,_,rfl,⟨amx,rfl⟩,s0⟩:=s0;obtain⟨_,_,rfl,⟨amy,rfl⟩,s0⟩:=s0;obtain⟨_,_,rfl,⟨amz,rfl⟩,s0⟩:=s0;obtain⟨_,_,rfl,⟨amA,rfl⟩,s0⟩:=s0;obtain⟨_,_,rfl,⟨amB,rfl⟩,s0⟩:=s0;obtain⟨_,_,rfl,⟨amC,rfl⟩,s0⟩:=s0;obtain⟨_,_,rfl,⟨amD,rfl⟩,s0⟩:=s0;obtain⟨_,_,rfl,⟨amE,rfl⟩,s0⟩:=s0;obtain⟨_,_,rfl,⟨amF,rfl⟩,s0⟩:=s0;obtain⟨_,_,rfl,⟨amG,rfl⟩,s0⟩:=s0;obtain rfl:=s0;obtain⟨f1,t1⟩:=h1;obtain⟨n1,x1,w1⟩:=Yv (tc:=Cf) (n:=6) (t := .box) Tryz.underlying33 (by kernel_rfl) (tu 1 33 v1 rfl rfl) t1 (PQ bc (j:=1) rfl rfl);obtain⟨f2,t2⟩:=h2;obtain⟨n2,x2,w2⟩:=Yv (tc:=Cf) (n:=6) (t := .ai) Tryz.underlying34 (by kernel_rfl) (tu 2 34 v2 rfl rfl) t2 (PQ bc (j:=2) rfl rfl);obtain⟨f3,t3⟩:=h3;obtain⟨n3,x3,w3⟩:=Yv (tc:=Cf) (n:=6) (t := .int) Tryz.underlying35 (by kernel_rfl) (tu 3 35 v3 rfl rfl) t3 (PQ bc (j:=3) rfl rfl);have hE:bn W (fun _=>none) 0 (vD W) [.agg (zR fun _=>⟨amu,amv,amw,amx,amy,amz,amA,amB,amC,amD,amE,amF,amG⟩),.sl false .box fun _=>n1,.sl false .ai fun _=>n2,.sl false .int fun _=>n3] [v0,v1,v2,v3] := .cons x0 (.cons x1 (.cons x2 (.cons x3 (.nil))));refine (aDD aDr rfl rfl hE (by
  exact aDE (s:=⟨amu,amv,amw,amx,amy,amz,amA,amB,amC,amD,amE,amF,amG⟩) w0 w1)).mono fun e W' ⟨he,hb⟩ => ?_
 subst he;exact⟨_,rfl,⟨_,_,_,[],_,[],Yw,trodAll_mk1 (shut_bool Tryz.underlying4 true),amj Tryz.laidOut hb (by kernel_rfl) hAk af,rfl,hb.frame _,fun h=>by cases h⟩⟩
theorem strengthHulls_holds:Rows.StrengthHullsSaid :=
 OpenClaim.holds_of_wide 3 Tryz.f3 rfl rfl rfl rfl rfl rfl rfl ⟨rfl,rfl,rfl,rfl,rfl⟩ rfl rfl rfl rfl rfl (by kernel_rfl) Tryz.func3 (by kernel_rfl)
  (r8 (by kernel_rfl)) (by unfold Func.isWrapper; first|(rw [aG (by decide +kernel)]; kernel_rfl)|(rw [ax (by decide +kernel)]; exact⟨rfl,rfl⟩))
  (fun os started H enc _=>aDF os started H enc)
#print axioms strengthHulls_holds
end Go.Proofs.YtamjbkaclhgffaaGreat
