/-
  PROVED: StrengthHull returns true for every input, and its arguments read behind the call as they read before: the weights of a ship's cargo and water weigh as much as these, with the same moment, and the stresses are the curve of them. No condition is added.
-/
import Derived.Test.YtamjbkaclhgffaaGreatSi34

set_option linter.all false
set_option maxRecDepth 100000
set_option maxHeartbeats 4000000
namespace Go.Proofs.YtamjbkaclhgffaaGreat
open Go.RowKit Go.ChangeShapes Go.WideShapes Go.Deep Go.ChangeAt
set_option maxHeartbeats 1000000 in
theorem ayO(os:Os)(started:os.Started)(H:Type)(enc:TypeId×Value->H) :
 ReturnsInHanded {} Tryz.checked os 5 .any (Rows.strengthHullSpec.pre6 enc Tryz.prog Tryz.f5 Rows.strengthHullRow.domain false) (Rows.strengthHullSpec.post enc Tryz.prog Tryz.f5 false true false false):=by
 refine returnsInHanded_of_change_sized (C:=Tryz.checked) Tryz.own started (by kernel_rfl) Tryz.func5
  (ChangeSpec.witness6 (enc:=enc) (C:=Tryz.checked) false ⟨#[],#[.slice none 0 0,.int .u32 0,.slice none 0 0,.slice none 0 0,.slice none 0 0,.slice none 0 0],[]⟩ 8 (by kernel_rfl) (by kernel_rfl) (by kernel_rfl) (by kernel_rfl)) ?_
 intro W base args ds gs before aiX hW _ Vv _;have pI:∀ (j:Nat) t v,Tryz.f5.params[j]? = some t->args[j]? = some v->Value.okWide Tryz.prog W .any base t v:=aiX;have aO:(DataW.weightsEach Tryz.prog (Tryz.f5.params.toList++Rows.strengthHullSpec.plain.varTypes Tryz.prog) (ds++gs)).all (· <= reachBytes)=true:=Vv;have Wr:=hW;obtain⟨p,q,hA0,hV,rfl,_,_⟩:=hW;have hA:DataW.TrodAll enc Tryz.prog W 0 (fun _=>true) true Tryz.f5.params.toList args.toList ds p:=hA0;rw [Tryz.params5] at hA pI aO;have Wa:=hA;obtain⟨v0,vs0,d0,ds0,p0,q0,ea0,ed0,ep0,h0,r0⟩:=trodAll_cons hA;obtain⟨v1,vs1,d1,JU,p1,q1,ea1,ed1,ep1,h1,r1⟩:=trodAll_cons r0;obtain⟨v2,vs2,d2,ds2,p2,q2,ea2,ed2,ep2,h2,r2⟩:=trodAll_cons r1;obtain⟨v3,vs3,d3,ds3,p3,q3,ea3,ed3,ep3,h3,r3⟩:=trodAll_cons r2;obtain⟨v4,vs4,d4,ds4,p4,q4,ea4,ed4,ep4,h4,r4⟩:=trodAll_cons r3;obtain⟨v5,vs5,d5,ds5,p5,q5,ea5,ed5,ep5,h5,r5⟩:=trodAll_cons r4;obtain⟨ean,edn,epn⟩:=trodAll_nil r5;subst ean edn;subst ea5 ed5;subst ea4 ed4;subst ea3 ed3;subst ea2 ed2;subst ea1 ed1;obtain rfl:args = #[v0,v1,v2,v3,v4,v5]:=by apply xF; exact ea0
 subst ed0;obtain⟨rfl,rfl⟩:=trodVars_none hV;clear hA0 aiX Vv;simp only [oz] at Wr aO;have ah:∀ x∈p,x.block<W.heap.size:=fun x hx=>by simpa using Wr.lt x hx
 obtain⟨f0,t0⟩:=h0;obtain⟨n0,x0,w0⟩:=Iy (tc:=yX) (n:=6) (t := .fp) Tryz.underlying59 (by kernel_rfl) (pI 0 59 v0 rfl rfl) t0 (Iu aO (j:=0) rfl rfl);obtain⟨f1,t1⟩:=h1;obtain⟨n1,x1,w1⟩:=open_int Tryz.underlying49 (pI 1 49 v1 rfl rfl) t1;obtain⟨f2,t2⟩:=h2;obtain⟨n2,x2,w2⟩:=Iy (tc:=yX) (n:=6) (t := .gq) Tryz.underlying60 (by kernel_rfl) (pI 2 60 v2 rfl rfl) t2 (Iu aO (j:=2) rfl rfl);obtain⟨f3,t3⟩:=h3;obtain⟨n3,x3,w3⟩:=Iy (tc:=yX) (n:=6) (t := .iF) Tryz.underlying61 (by kernel_rfl) (pI 3 61 v3 rfl rfl) t3 (Iu aO (j:=3) rfl rfl);obtain⟨f4,t4⟩:=h4;obtain⟨n4,x4,w4⟩:=Iy (tc:=yX) (n:=6) (t := .u8) Tryz.underlying62 (by kernel_rfl) (pI 4 62 v4 rfl rfl) t4 (Iu aO (j:=4) rfl rfl);obtain⟨f5,t5⟩:=h5;obtain⟨n5,x5,w5⟩:=Iy (tc:=yX) (n:=6) (t := .j5) Tryz.underlying63 (by kernel_rfl) (pI 5 63 v5 rfl rfl) t5 (Iu aO (j:=5) rfl rfl);have hE:aV W (fun _=>none) 0 (uh W) [.sl false .fp fun _=>n0,.int .u32 fun _=>n1,.sl false .gq fun _=>n2,.sl false .iF fun _=>n3,.sl false .u8 fun _=>n4,.sl false .j5 fun _=>n5] [v0,v1,v2,v3,v4,v5] := .cons x0 (.cons x1 (.cons x2 (.cons x3 (.cons x4 (.cons x5 (.nil))))));refine (ayH ayq rfl rfl hE (by
  exact⟨ayK w0 w1 w2,⟨⟨fun x hx=>ayL (w3.2 x hx),w3.1⟩,fun x hx=>ayN (w4.2 x hx),w4.1⟩,fun x hx=>ayM (w5.2 x hx),w5.1⟩)).mono fun e W' ⟨he,hb⟩ => ?_
 subst he;exact⟨_,rfl,⟨_,_,_,[],_,[],Wr,trodAll_mk1 (shut_bool Tryz.underlying4 true),aiR Tryz.laidOut hb (by kernel_rfl) Wa ah,rfl,hb.frame _,fun h=>by cases h⟩⟩
theorem strengthHull_holds:Rows.StrengthHullSaid :=
 OpenClaim.holds_of_wide 5 Tryz.f5 rfl rfl rfl rfl rfl rfl rfl ⟨rfl,rfl,rfl,rfl,rfl⟩ rfl rfl rfl rfl rfl (by kernel_rfl) Tryz.func5 (by kernel_rfl)
  (rv (by kernel_rfl)) (by unfold Func.isWrapper; first|(rw [aC (by decide +kernel)]; kernel_rfl)|(rw [aw (by decide +kernel)]; exact⟨rfl,rfl⟩))
  (fun os started H enc _=>ayO os started H enc)
#print axioms strengthHull_holds
end Go.Proofs.YtamjbkaclhgffaaGreat
