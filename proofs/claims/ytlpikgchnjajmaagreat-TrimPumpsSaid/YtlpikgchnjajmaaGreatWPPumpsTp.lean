/-
  PROVED: TrimPumps returns true for every input, and its arguments read behind the call as they read before: water that is pumped towards greater X makes the trim greater, and leaves weight and draught as they are; from port to starboard Y. No condition is added.
-/
import Derived.Test.YtlpikgchnjajmaaGreatTp41
import Derived.Test.YtlpikgchnjajmaaGreatTp42

set_option linter.all false
set_option maxRecDepth 100000
set_option maxHeartbeats 4000000
namespace Go.Proofs.YtlpikgchnjajmaaGreat
open Go.RowKit Go.ChangeShapes Go.WideShapes Go.Deep Go.ChangeAt
set_option maxHeartbeats 1000000 in
theorem awz(os:Os)(started:os.Started)(H:Type)(enc:TypeId×Value->H) :
 ReturnsInHanded {} Tryz.checked os 7 .any (Rows.trimPumpsSpec.pre6 enc Tryz.prog Tryz.f7 Rows.trimPumpsRow.domain false) (Rows.trimPumpsSpec.post enc Tryz.prog Tryz.f7 false true false false):=by
 refine returnsInHanded_of_change_sized (C:=Tryz.checked) Tryz.own started (by kernel_rfl) Tryz.func7
  (ChangeSpec.witness6 (enc:=enc) (C:=Tryz.checked) false ⟨#[],#[.agg #[.slice none 0 0,.int .u32 0,.slice none 0 0,.slice none 0 0,.slice none 0 0,.int .u16 0,.int .u16 0,.int .u16 0,.int .i16 0],.int .u8 0,.int .u8 0,.int .u32 0],[]⟩ 8 (by kernel_rfl) (by kernel_rfl) (by kernel_rfl) (by kernel_rfl)) ?_
 intro W base args ds gs before ag6 hW _ TE _;have rP:∀ (j:Nat) t v,Tryz.f7.params[j]? = some t->args[j]? = some v->Value.okWide Tryz.prog W .any base t v:=ag6;have aN:(DataW.weightsEach Tryz.prog (Tryz.f7.params.toList++Rows.trimPumpsSpec.plain.varTypes Tryz.prog) (ds++gs)).all (· <= reachBytes)=true:=TE;have Vg:=hW;obtain⟨p,q,hA0,hV,rfl,_,_⟩:=hW;have hA:DataW.TrodAll enc Tryz.prog W 0 (fun _=>true) true Tryz.f7.params.toList args.toList ds p:=hA0;rw [Tryz.params7] at hA rP aN;have hAk:=hA;obtain⟨v0,vs0,d0,ds0,p0,q0,ea0,ed0,ep0,h0,r0⟩:=trodAll_cons hA;obtain⟨v1,vs1,d1,Je,p1,q1,ea1,ed1,ep1,h1,r1⟩:=trodAll_cons r0;obtain⟨v2,vs2,d2,ds2,p2,q2,ea2,ed2,ep2,h2,r2⟩:=trodAll_cons r1;obtain⟨v3,vs3,d3,ds3,p3,q3,ea3,ed3,ep3,h3,r3⟩:=trodAll_cons r2;obtain⟨ean,edn,epn⟩:=trodAll_nil r3;subst ean edn;subst ea3 ed3;subst ea2 ed2;subst ea1 ed1;obtain rfl:args = #[v0,v1,v2,v3]:=by apply xx; exact ea0
 subst ed0;obtain⟨rfl,rfl⟩:=trodVars_none hV;clear hA0 ag6 TE;simp only [qk] at Vg aN;have aj:∀ x∈p,x.block<W.heap.size:=fun x hx=>by simpa using Vg.lt x hx
 obtain⟨f0,t0⟩:=h0;obtain⟨av0,x0,s0,w0⟩:=awr (tc:=KW) (n:=6) (ss:=abg) Tryz.underlying59 (by kernel_rfl) (rP 0 59 v0 rfl rfl) t0 (awh aN (j:=0) rfl rfl);obtain⟨_,_,rfl,⟨awL,rfl⟩,s0⟩:=s0;obtain⟨_,_,rfl,⟨awM,rfl⟩,s0⟩:=s0;obtain⟨_,_,rfl,⟨awN,rfl⟩,s0⟩:=s0;obtain⟨_,_,rfl,⟨awO,rfl⟩,s0⟩:=s0;obtain⟨_,_,rfl,⟨awP,rfl⟩,s0⟩:=s0;obtain⟨_,_,rfl,⟨awQ,rfl⟩,s0⟩:=s0;obtain⟨_,_,rfl,⟨awR,rfl⟩,s0⟩:=s0;obtain⟨_,_,rfl,⟨awS,rfl⟩,s0⟩:=s0;obtain⟨_,_,rfl,⟨awT,rfl⟩,s0⟩:=s0;obtain rfl:=s0;obtain⟨f1,t1⟩:=h1;obtain⟨n1,x1,w1⟩:=open_int Tryz.underlying5 (rP 1 5 v1 rfl rfl) t1;obtain⟨f2,t2⟩:=h2;obtain⟨n2,x2,w2⟩:=open_int Tryz.underlying5 (rP 2 5 v2 rfl rfl) t2;obtain⟨f3,t3⟩:=h3;obtain⟨n3,x3,w3⟩:=open_int Tryz.underlying52 (rP 3 52 v3 rfl rfl) t3;have hE:aQ W (fun _=>none) 0 (tQ W) [.agg (qR fun _=>⟨awL,awM,awN,awO,awP,awQ,awR,awS,awT⟩),.int .u8 fun _=>n1,.int .u8 fun _=>n2,.int .u32 fun _=>n3] [v0,v1,v2,v3] := .cons x0 (.cons x1 (.cons x2 (.cons x3 (.nil))));refine (aws awe rfl rfl hE (by
  exact⟨awy w0,lJ w1,lJ w2,lJ w3⟩)).mono fun e W' ⟨he,hb⟩ => ?_
 subst he;exact⟨_,rfl,⟨_,_,_,[],_,[],Vg,trodAll_mk1 (shut_bool Tryz.underlying4 true),agZ Tryz.laidOut hb (by kernel_rfl) hAk aj,rfl,hb.frame _,fun h=>by cases h⟩⟩
theorem awU:joinedFacts Tryz.checked.prog 7 Tryz.f7 Rows.trimPumpsSpec Rows.trimPumpsRow=true:=by
 unfold joinedFacts
 repeat' (with_reducible refine Bool.and_eq_true_iff.2 ⟨?_,?_⟩)
 all_goals (as_aux_lemma=>kernel_rfl)
theorem trimPumps_holds:Rows.TrimPumpsSaid :=
 OpenClaim.holds_of_wide 7 Tryz.f7 rfl rfl rfl rfl rfl rfl rfl ⟨rfl,rfl,rfl,rfl,rfl⟩ rfl rfl rfl rfl rfl (by kernel_rfl) Tryz.func7 awU
  (tW (by kernel_rfl)) (by unfold Func.isWrapper; first|(rw [aw (by decide +kernel)]; kernel_rfl)|(rw [ar (by decide +kernel)]; exact⟨rfl,rfl⟩))
  (fun os started H enc _=>awz os started H enc)
#print axioms trimPumps_holds
end Go.Proofs.YtlpikgchnjajmaaGreat
