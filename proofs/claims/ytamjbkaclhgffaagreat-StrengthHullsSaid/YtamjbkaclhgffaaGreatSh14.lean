/-
  Operations that leave the world as it is; of them one that is ready may be done first.
-/
import Derived.Test.YtamjbkaclhgffaaGreatSh13
import Derived.Sort.LoopGhostIn
set_option linter.all false
namespace Go.Proofs.YtamjbkaclhgffaaGreat
open Go.RowKit
variable{a a':Act}{K:Act->World->Prop}{listed:Array Bool}{dn ks σ:List Nat}{ops:List Oper}{b fuel i j n n0 nb q:Nat}{o oi oj:Oper}{S':Sx}{v:Value}{w w':World}
section
variable{α β:Type}
def cX(s:Sem α):Prop:=∀ P w u w',s.run P w = .ok u w'->w'=w
def mL(s:Sem α):Prop:=∀ P w u w',s.run P w ≠ .ok u w'
theorem cX.pure(a : α):cX (Pure.pure a:Sem α):=fun P w u w' h=>by
 rw [cq] at h;injection h with h1 h2;exact h2.symm
theorem cX.bind{s:Sem α}{f : α->Sem β}(hs:cX s)(hf:∀ a,cX (f a)):cX (s >>= f):=fun P w u w' h=>by
 rw [bQ] at h
 cases hr:s.run P w with
 | ok a w1 =>
  rw [hr] at h;have:=hs P w a w1 hr;subst this;exact hf a P _ u w' h
 | halt x w1=>rw [hr] at h; cases h
theorem mL.qp{s:Sem α}(h:mL s):cX s:=fun P w u w' hr=>absurd hr (h P w u w')
theorem mL.bind{s:Sem α}{f : α->Sem β}(hf:∀ a,mL (f a)):mL (s >>= f):=fun P w u w' h=>by
 rw [bQ] at h
 cases hr:s.run P w with
 | ok a w1=>rw [hr] at h; exact hf a P _ u w' h
 | halt x w1=>rw [hr] at h; cases h
theorem mL.halt(x:Halt):mL (.halt x:Sem α):=fun P w u w' h=>by cases h
theorem Ty(v:Value):mL (goPanic v:Sem α):=mL.halt _
theorem x7(s:String):mL (stuck s:Sem α):=mL.halt _
theorem H5(u:Unsupported):mL (unsupported u:Sem α):=mL.halt _
theorem cX.program:cX program:=fun P w u w' h=>by
 have h2:Result.ok P w=Result.ok u w':=h;injection h2 with _ h3;exact h3.symm
theorem ac9(e:RuntimeError):mL (runtimePanic e:Sem α):=by
 unfold runtimePanic;refine mL.bind fun p => ?_;dsimp only;cases e<;>first
  | exact Ty _
  | (refine mL.bind fun r => ?_; first|exact Ty _|(refine mL.bind fun r => ?_; exact Ty _))
theorem arI(k:IntKind)(x y:Int)(c:BoundsCode):mL (boundsPanic k x y c:Sem α):=by
 unfold boundsPanic;dsimp only;split
 . exact mL.bind fun _=>ac9 _
 . exact mL.bind fun _=>ac9 _
theorem arJ(t:TypeId):cX (typeInfo t):=by
 unfold typeInfo;exact ada
theorem Ez(t:TypeId):cX (underlying t):=by
 unfold underlying;exact ada
theorem Tz(t:TypeId):cX (sizeOf t):=by
 unfold sizeOf;exact (arJ t).bind fun _=>cX.pure _
theorem arK(t:TypeId):cX (isAgg t):=by
 unfold isAgg;refine (Ez t).bind fun d => ?_;split<;>exact cX.pure _
theorem adb(a:Addr):cX (load a):=fun P w u w' h=>by
 unfold load at h;simp only [Sem.run] at h;split at h
 . injection h with _ h2; exact h2.symm
 . split at h
   . injection h with _ h2; exact h2.symm
   . cases h
theorem ade(a:Addr):∀ (n i:Nat) (acc:Array Value),cX (loadCellsFrom a i n acc)
 | 0,_,_=>cX.pure _
 | n+1,i,acc=>(adb _).bind fun v=>ade a n (i+1) _
theorem arL(t:TypeId)(a:Addr):cX (loadVar t a):=by
 unfold loadVar;refine (arK t).bind fun b => ?_;split
 . refine (Tz t).bind fun n => ?_;exact (ade a n 0 _).bind fun _=>cX.pure _
 . exact adb a
theorem TA(v:Value):cX (Instr.sureAddr v):=by
 unfold Instr.sureAddr;exact TB
theorem arM(t:TypeId)(v:Value):cX (Instr.loadAt t v):=(TA v).bind fun a=>arL t a
theorem adf(r:Nat):cX (shape r):=fun P w u w' h=>by
 have h2:Result.ok (w.shape? r) w=Result.ok u w':=h;injection h2 with _ h3;exact h3.symm
theorem arN(v:Value):cX (asIntOf v):=by
 unfold asIntOf;split
 . exact cX.pure _
 . exact (H5 _).qp
 . exact (x7 _).qp
theorem arO(t:TypeId)(x i:Value):cX (Instr.indexAt t x i):=by
 unfold Instr.indexAt;refine (arN i).bind fun p => ?_;obtain ⟨k, n⟩ := p;dsimp only;refine (Ez t).bind fun d => ?_;have hb : ∀ (len : Nat) (y : Int), cX (boundsPanic k y len .index : Sem Value) := fun _ _ => (arI _ _ _ _).qp;have hc : ∀ (a : Addr) (len elem : Nat) (q : Bool), cX (if 0 <= n /\ n < len then do pure (Value.pointer (some (a.add (n.toNat * (<- sizeOf elem))))) else if q = true then unsupported (.noEntry "op/indexAddr.an index out of range at an array of length 0 or 1 (ledger 616)") else boundsPanic k n len .index : Sem Value) := by
  intro a len elem q;split
  . exact (Tz _).bind fun _=>cX.pure _
  . split
    . exact (H5 _).qp
    . exact hb _ _
 split
 . refine (TA _).bind fun _=>(cX.pure _).bind fun q=>(Ez _).bind fun d => ?_;obtain⟨base,len,elem⟩:=q
   exact TC
 . refine (cX.pure _).bind fun q=>(Ez _).bind fun d => ?_;obtain⟨base,len,elem⟩:=q
   exact TC
 . refine ((x7 _).qp).bind fun q=>(Ez _).bind fun d => ?_;obtain⟨base,len,elem⟩:=q
   exact TC
theorem arP(op:UnOp)(x:Value):cX (Op.unary op x):=by
 unfold Op.unary;split
 . exact cX.pure _
 . unfold Op.intBits;exact cX.pure _
 . exact cX.pure _
 . exact cX.pure _
 . exact cX.pure _
 . exact (H5 _).qp
 . exact (H5 _).qp
 . exact (x7 _).qp
theorem arQ(v:Value)(i:Nat):cX (Instr.extract v i):=by
 unfold Instr.extract;split
 . exact TB
 . exact (x7 _).qp
theorem arR(r:Nat):cX (getObj r):=fun P w u w' h=>by
 unfold getObj at h;simp only [Sem.run] at h;split at h
 . cases h
 . injection h with _ h2; exact h2.symm
 . cases h
theorem arS(a:Addr):cX (noView a):=by
 unfold noView;refine cX.bind ?_ fun v => ?_
 . unfold viewAt;refine (adf _).bind fun q => ?_;split
   . exact cX.pure _
   . refine (arR _).bind fun o => ?_;split<;>exact cX.pure _
 . split
   . exact (H5 _).qp
   . exact cX.pure _
theorem adg(a:Addr):cX (byteOf a):=by
 unfold byteOf;have ht:∀ (p:Program),cX (do
  noView a
  let some (e, _) <- shape a.block | stuck "byteOf: no such block"
  let s:=p.cellsOf e
  if s=0 then return 0
  let some b := byteOfCell p p.depth e (a.off % s) | stuck "byteOf: no such cell"
  pure (a.off / s*p.bytesOf e+b)):=fun p=>by
  refine (arS a).bind fun _=>(adf _).bind fun q => ?_;split
  . dsimp only;split
    . exact cX.pure _
    . exact TB
  . exact (x7 _).qp
 split
 . exact cX.pure _
 . exact cX.program.bind ht
theorem arT(a:Addr)(f:Field):cX (fieldPlace a f):=by
 unfold fieldPlace partAt;refine (Tz _).bind fun n => ?_;split
 . exact (adg _).bind fun _=>(adg _).bind fun _=>cX.pure _
 . exact cX.pure _
theorem arU(t:TypeId)(x:Value)(i:Nat):cX (Instr.fieldAt t x i):=by
 unfold Instr.fieldAt;refine (Ez t).bind fun d => ?_;split
 . split
   . exact (TA _).bind fun a=>(arT _ _).bind fun _=>cX.pure _
   . exact (x7 _).qp
 . exact (x7 _).qp
theorem adh(h:BI o.op=true)(r:Operand->Value){P:Program}{n:Next}(hr:(execOp r o).run P w = .ok n w'):w'=w/\∃ v,n = .value v:=by
 have hv:∀ {s:Sem Value},cX s->(Sem.run P (do pure (Next.value (<- s))) w = .ok n w')->w'=w/\∃ v,n = .value v:=by
  intro s hs h;rw [bQ] at h
  cases hr:s.run P w with
  | ok a w1 =>
   rw [hr] at h;have h1:=hs P w a w1 hr;subst h1;have h2:Result.ok (Next.value a) w1=Result.ok n w':=h;injection h2 with h3 h4;exact⟨h4.symm,a,h3.symm⟩
  | halt x w1=>rw [hr] at h; cases h
 unfold execOp at hr;cases za:o.op<;>rw [za] at h hr<;>simp only [BI,fk] at h
 . exact adi
 . exact adi
 . exact hv (arM _ _) hr
 . exact hv (arP _ _) hr
 . exact hv (arU _ _ _) hr
 . exact hv (arO _ _ _) hr
 . exact hv (arQ _ _) hr
end
section
variable{P:Program}{ops:Array Oper}{Q:Exit->Act->World->Prop}{md:Region.Mode}
def YieldsAt(P:Program)(ops:Array Oper)(o:Oper)(v:Value)(a:Act)(w:World):Prop :=
 (Region.wanted o (yielded ops a.tmps)=true/\(execOp a.eval o).run P w = .ok (.value v) w)\/(Region.wanted o (yielded ops a.tmps)=false/\v=undef)
theorem YieldsAt.wpOp(hi:ops[i]? = some o)(hy:YieldsAt P ops o v a w)(h:K (a.put o.dst v) w):wpOpIn Fence.wide 0 P ops Q i K a w:=by
 rcases hy with ⟨hw,hv⟩|⟨hw,rfl⟩
 . exact Sc hi hw (Mn (by rw [hv]; exact h))
 . exact abl hi hw h
theorem YieldsAt.of_same(hy:YieldsAt P ops o v a w)(he:execOp a'.eval o=execOp a.eval o)(hw:Region.wanted o (yielded ops a'.tmps)=Region.wanted o (yielded ops a.tmps)):YieldsAt P ops o v a' w:=by
 unfold YieldsAt at *
 rw [he,hw];exact hy
theorem arV(hj:ops[j]? = some oj)(hst:BI oj.op=true)(kj:oi.apart ops oj=true)(hsi:∀ cs b,oi.op ≠ .select cs b)(hsj:∀ cs b,oj.op ≠ .select cs b)(hQ:∀ c a w,¬ Q (.panic c) a w)(hy:YieldsAt P ops oi v a w)(h:wpOpIn Fence.wide 0 P ops Q j K (a.put oi.dst v) w) :
 wpOpIn Fence.wide 0 P ops Q j (fun a' w'=>YieldsAt P ops oi v a' w'/\K (a'.put oi.dst v) w') a w:=by
 obtain⟨h1,h2,h3⟩:=Oper.apart_spec kj;have lu:∀ (a:Act),YieldsAt P ops oi v a w->∀ u,YieldsAt P ops oi v (a.put oj.dst u) w:=fun a hy u =>
  hy.of_same (execOp_put oi hsi a oj.dst u h3) (wanted_put oi a oj.dst u h3)
 unfold wpOpIn at *
 simp only [hj] at *
 rw [wanted_put oj a oi.dst v h1] at h;split
 . rename_i hw;simp only [hw,fH] at h;refine Mn ?_;have h:=Sa h;rw [execOp_put oj hsj a oi.dst v h1] at h
   cases hr:(execOp a.eval oj).run P w with
   | ok n w' =>
    obtain⟨rfl,u,rfl⟩:=adh hst _ hr;rw [hr] at h;simp only [Oper.uponIn] at h ⊢;exact⟨lu a hy u,by rw [<- Act.put_comm a v u h2]; exact h⟩
   | halt x w' =>
    rw [hr] at h;cases x<;>simp only [Oper.uponIn] at h ⊢
    case panic u=>exact (hQ _ _ _ h).elim
 . rename_i hw;simp only [hw] at h;exact⟨fun _ _=>trivial,lu a hy _,by rw [<- Act.put_comm a v undef h2]; exact h.2⟩
theorem arY(hi:ops[i]? = some oi)(hst:BI oi.op=true)(hQ:∀ c a w,¬ Q (.panic c) a w)(h:wpOpIn Fence.wide 0 P ops Q i K a w):∃ v,YieldsAt P ops oi v a w/\K (a.put oi.dst v) w:=by
 unfold wpOpIn at h;simp only [hi] at h;split at h
 . rename_i hw;have h:=Sa h
   cases hr:(execOp a.eval oi).run P w with
   | ok n w' =>
    obtain⟨rfl,u,rfl⟩:=adh hst _ hr;rw [hr] at h;exact⟨u,.inl ⟨hw,hr⟩,h⟩
   | halt x w' =>
    rw [hr] at h;cases x<;>simp only [Oper.uponIn] at h
    case panic u=>exact (hQ _ _ _ h).elim
 . rename_i hw;exact⟨undef,.inr ⟨by simpa using hw,rfl⟩,h.2⟩
theorem arZ(hi:ops[i]? = some oi)(gY:∀ (j:Nat) (o:Oper) cs b,ops[j]? = some o->o.op ≠ .select cs b)(hQ:∀ c a w,¬ Q (.panic c) a w) :
 ∀ (fuel:Nat) (listed:Array Bool) (a:Act) (w:World),so md ops listed ->
  (∀ (j:Nat) oj,ops[j]? = some oj->j≠i->listed.getD j true=false->waits md ops ops.size j i=false->oi.apart ops oj=true/\BI oj.op=true) ->
  i∈Region.ready md ops listed->YieldsAt P ops oi v a w ->
  wpAnyIn Fence.wide 0 P md ops Q fuel (listed.setIfInBounds i true) (a.put oi.dst v) w->wpAnyIn Fence.wide 0 P md ops Q (fuel+1) listed a w:=by
 intro fuel
 induction fuel with
 | zero =>
  intro listed a w _ _ hr hy H;refine⟨fun h=>(by rw [h] at hr; cases hr),fun j hj => ?_⟩;by_cases sP:j=i
  . subst sP; exact hy.wpOp hi H
  . have:=ready_mono hj sP;rw [H.1] at this;cases this
 | succ fuel ih =>
  intro listed a w c7 BT hr hy H;refine⟨fun h=>(by rw [h] at hr; cases hr),fun j hj => ?_⟩;by_cases sP:j=i
  . subst sP; exact hy.wpOp hi H
  . have h1:=H.2 j (ready_mono hj sP);obtain⟨adj,oj,eQ,ch⟩:=mem_ready.1 hj;have TD:waits md ops ops.size j i=false:=by
     cases hww:waits md ops ops.size j i with
     | false=>rfl
     | true =>
      have h1:=Qm c7 _ j i oj eQ ch hww;have h0:=(mem_ready.1 hr).1;rcases cv i listed.size with h'|h'
      . simp [h'] at h0 h1; rw [h0] at h1; cases h1
      . simp [FR h'] at h1
    obtain⟨kj,hst⟩:=BT j oj eQ sP adj TD;have h2:=arV eQ hst kj (fun cs b=>gY i oi cs b hi) (fun cs b=>gY j oj cs b eQ) hQ hy h1;refine wpOpIn_mono (fun a' w' h3 => ?_) h2;refine ih (listed.setIfInBounds j true) a' w' (c7.Dx hj) (fun k ok hk TE sO ke => ?_) (ready_mono hr (Ne.symm sP)) h3.1 ?_
    . refine BT k ok hk TE ?_ ke;by_cases mq:j=k
      . subst mq; exact adj
      . rw [getD_set_ne true mq] at sO; exact sO
    . rw [Array.setIfInBounds_comm _ _ sP];exact h3.2
end
section
variable{P:Program}{w w' w0:World}{ρ ρ':Nat->Option Rl}{base:Nat}{ro ro':Nat->Prop}{S0:Pm}{Φ : Pm->Prop}{N:Nat}{B:Bs}{S:Sx}{a a0:Act}{C:Cx}{Q:Exit->Act->World->Prop}
theorem TF(g:Nat->Nat):∀ (l:List (Nat×AV)) (d:Nat),al (zs g l) d=(al l d).map (AV.gQ g)
 | [],d=>rfl
 | (k,x)::l,d=>by
  unfold zs;rw [cO,cO,TF g l d];split<;>rfl
theorem TG{g g':Nat->Nat}(h1:∀ l,g' (g l)=l)(h2:∀ l,g (g' l)=l):∀ (l:List (Nat×En)) (d:Nat),al (l0 g l) d=(al l (g' d)).map (En.gQ g)
 | [],d=>rfl
 | (k,x)::l,d=>by
  unfold l0;rw [cO,cO,TG h1 h2 l d];by_cases e:k=g' d
  . rw [aG e,aG (by rw [e,h2])]; rfl
  . rw [ax e,ax (fun q=>e (by rw [<- q,h1]))]
theorem bK.gQ{p:Nat->Bool}{g g':Nat->Nat}(h1:∀ l,g' (g l)=l)(h2:∀ l,g (g' l)=l)(hp:∀ l,p l=true->g l=l)(cR:∀ l,S.n<=l->g l=l)(hB:nh p B.t=true)(wE:ki p B.e=true)(dh:∀ l r,S0.pl l=some r->p l=true)(H:bK w0 S0 N B S a w ρ ro):bK w0 S0 N B ⟨zs g S.t,l0 g S.e,S.n⟩ a w (fun l => ρ (g' l)) ro:=by
 have fN:∀ l,g l=l->g' l=l:=fun l h=>by have:=h1 l; rwa [h] at this
 have hρ:∀ l r,ρ l=some r -> ρ (g' (g l))=some r:=fun l r h=>by rw [h1]; exact h
 have hρf:∀ l r,ρ l=some r->p l=true -> ρ (g' l)=some r:=fun l r h hl=>by rw [fN l (hp l hl)]; exact h
 refine⟨H.from_,H.size,H.defers,H.gX,fun d x h => ?_,fun l e h => ?_,fun l l' r r' b bg q1 q2 q3=>H.apart (g' l) (g' l') r r' b (fun e=>bg (by rw [<- h2 l,<- h2 l',e])) q1 q2 q3,fun l hl=>by rw [fN l (cR l hl)]; exact H.fresh l hl,fun l r b q1 q2 => ?_,H.fp,fun l r q1 q2=>by rw [fN l (hp l (dh l r q1))]; exact H.dH l r q1 q2,fun d x h=>by show al (zs g S.t) d=none; rw [TF,H.kQ d x h]; rfl,fun l e h => ?_,H.fm⟩
 . unfold dR at h;dsimp only at h;rw [TF] at h
   cases hS:al S.t d with
   | some y =>
    rw [hS] at h;simp only [dG,bU] at h;subst h;obtain⟨u,q1,q2⟩:=H.tm d y (by unfold dR; rw [hS]);exact⟨u,q1,q2.gQ hρ⟩
   | none =>
    rw [hS] at h;simp only [Dl] at h;obtain⟨u,q1,q2⟩:=H.tm d x (by unfold dR; rw [hS]; exact h);exact⟨u,q1,q2.zz (MH hB h) hρf⟩
 . unfold bF at h;dsimp only at h;rw [TG h1 h2] at h
   cases hS:al S.e (g' l) with
   | some y =>
    rw [hS] at h;simp only [dG,bU] at h;subst h;have q:=H.en (g' l) y (by unfold bF; rw [hS]);have q2:=q.gQ (ρ':=fun l => ρ (g' l)) (g:=g) hρ;rwa [h2] at q2
   | none =>
    rw [hS] at h;simp only [Dl] at h;have hl:=SH wE h;have cQ:=fN l (hp l hl.1);rw [cQ] at hS;exact (H.en l e (by unfold bF; rw [hS]; exact h)).fixed hl.1 hl.2 hρf
 . obtain⟨k1,k2,k3⟩:=H.own (g' l) r b q1 q2;refine⟨k1,k2,k3.1.imp id ?_,k3.2⟩
   rintro⟨r0,k4,k5⟩
   have:g (g' l)=g' l:=hp _ (dh _ _ k4);rw [h2] at this;rw [<- this] at k4;exact⟨r0,k4,k5⟩
 . show al (l0 g S.e) l=none
   have hl:=SH wE h;rw [TG h1 h2,fN l (hp l hl.1),H.kT l e h];rfl
theorem ar1(p q l:Nat):zt p q l=if l=p then q else if l=q then p else l:=by
 unfold zt;by_cases h1:l=p
 . simp [h1]
 . by_cases h2:l=q
   . simp [h2]
   . rw [ax h1,ax h2,show (l==p)=false by simpa using h1,show (l==q)=false by simpa using h2]; rfl
theorem adl(p q l:Nat):zt p q (zt p q l)=l:=by
 simp only [ar1];by_cases h1:l=p
 . rw [aG h1];by_cases h2:q=p
   . rw [aG h2,h1,h2]
   . rw [ax h2,aG rfl,h1]
 . rw [ax h1];by_cases h2:l=q
   . rw [aG h2,aG rfl,h2]
   . rw [ax h2,ax h1,ax h2]
theorem adm{p l:Nat}(h:xR p q l=true):zt p q l=l:=by
 unfold xR at h;unfold zt;simp only [fG,lU] at h;rw [h.1,h.2];rfl
theorem ar2{p:Nat}(dh:∀ S0,Φ S0->∀ l r,S0.pl l=some r->l<nb)(H:bj w0 Φ N B S a w):bj w0 Φ N B (R6 nb B p q S) a w:=by
 unfold R6
 cases hc:decide (nb<=p)&&(decide (nb<=q)&&(decide (p<S.n)&&(decide (q<S.n)&&(nh (xR p q) B.t&&ki (xR p q) B.e)))) with
 | false=>exact H
 | true =>
  simp only [aD,aU] at hc;obtain⟨h1,h2,h3,h4,h5,h6⟩:=hc;have ke:∀ {l},l≠p->l≠q->xR p q l=true:=fun h h'=>by unfold xR; simp [h,h']
  obtain⟨S0,hS,ρ,ro,HR⟩:=H;exact⟨S0,hS,_,ro,HR.gQ (p:=xR p q) (adl p q) (adl p q) (fun l hl=>adm hl) (fun l hl=>adm (ke oo oo)) h5 h6 fun l r hr=>by
   have:=dh S0 hS l r hr;exact ke oo oo⟩
theorem M9{nb:Nat}{prs:Sx->List (Nat×Nat)}(dh:∀ S0,Φ S0->∀ l r,S0.pl l=some r->l<nb):∀ (n:Nat) {S:Sx},bj w0 Φ N B S a w->bj w0 Φ N B (Hb nb B prs n S) a w
 | 0,_,H=>H
 | n+1,S,H=>by
  unfold Hb;split
  . exact H
  . exact M9 dh n (ar2 dh H)
theorem TH{l:Nat}(h:l<n0):gO n0 σ l=l:=by
 unfold gO;simp [h]
theorem TJ{l:Nat}(h:n0 + σ.length<=l):gO n0 σ l=l:=by
 unfold gO;have:¬ l<n0:=oo
 simp only [this,xy];rw [vF oo]
def gB(n0:Nat)(σ:List Nat)(l:Nat):Nat:=if l<n0\/n0 + σ.length<=l then l else n0+iI σ (l - n0)
theorem ar3(h:fQ σ n=true)(hj:j<n):iI σ j<n /\ σ[iI σ j]? = some j:=by
 have h1:=ac1 h hj;have h2 : σ.length=n:=by
  unfold fQ at h;simp only [aD,cC] at h;exact h.1.1
 exact⟨by rw [<- h2]; exact (c8.1 h1).1,h1⟩
theorem ar4{k:Nat}(h:fQ σ n=true)(hk:k<n):∃ i,σ[k]? = some i/\i<n/\iI σ i=k:=by
 unfold fQ at h;simp only [aD,fc,iV] at h;have h1:=h.2 k hk
 cases hs : σ[k]? with
 | none=>rw [hs] at h1; cases h1
 | some i =>
  rw [hs] at h1;simp only [aD,aU,cC] at h1;exact⟨i,rfl,h1.1,h1.2⟩
theorem ar5(h:fQ σ σ.length=true)(l:Nat):gB n0 σ (gO n0 σ l)=l:=by
 rcases cv l n0 with h1|h1
 . rw [TH h1]; unfold gB; rw [aG (.inl h1)]
 . rcases cv l (n0 + σ.length) with h2|h2
   . obtain⟨i,h3,h4,h5⟩:=ar4 h (k:=l - n0) oo;have:gO n0 σ l=n0+i:=by
      unfold gO;have:¬ l<n0:=oo
      simp only [this,xy];rw [h3]
     rw [this];unfold gB;rw [ax oo,Yy,h5];omega
   . rw [TJ h2]; unfold gB; rw [aG (.inr h2)]
theorem ar6(h:fQ σ σ.length=true)(l:Nat):gO n0 σ (gB n0 σ l)=l:=by
 unfold gB;split
 . rename_i h1;rcases h1 with h1|h1
   . exact TH h1
   . exact TJ h1
 . rename_i h1;obtain⟨h2,h3⟩:=ar3 h (j:=l - n0) oo;unfold gO;have:¬ n0+iI σ (l - n0)<n0:=oo
   simp only [this,decide_false];rw [Nat.add_sub_cancel_left,h3];dsimp only;omega
theorem Na{k:Nat}{e:En}:∀ {l:List (Nat×En)} {ks:List Nat},al (pD ks l) k=some e->bV k ks=false/\al l k=some e
 | [],_,h=>by cases h
 | (j,y)::l,ks,h=>by
  unfold pD at h;rw [cO];have ar7:∀ {ks:List Nat},bV k (j::ks)=false->bV k ks=false/\j≠k:=fun h=>by
   rw [Ev,lU] at h;exact⟨h.2,by simpa using h.1⟩
  have TK:al (pD (j::ks) l) k=some e->bV k ks=false/\(if j=k then some y else al l k)=some e:=fun h=>by
   obtain⟨h1,h2⟩:=Na h;obtain⟨h3,h4⟩:=ar7 h1;rw [ax h4];exact⟨h3,h2⟩
  have fR:al ((j,y)::pD (j::ks) l) k=some e->bV j ks=false->bV k ks=false/\(if j=k then some y else al l k)=some e:=fun h9 hj=>by
   rw [cO] at h9;by_cases e1:j=k
   . rw [aG e1] at h9 ⊢;exact⟨by rw [<- e1]; exact hj,h9⟩
   . rw [ax e1] at h9;exact TK h9
  cases hj:bV j ks with
  | true =>
   rw [hj] at h;obtain⟨h1,h2⟩:=Na h;rw [ax (fun e=>by subst e; rw [h1] at hj; cases hj)];exact⟨h1,h2⟩
  | false =>
   rw [hj] at h
   cases y with
   | bL _ _ _=>exact TK h
   | dead=>exact TK h
   | fY _=>exact fR h hj
   | box _ _=>exact fR h hj
   | row _ _ _ _=>exact fR h hj
   | map _ _ _ _ _ _=>exact fR h hj
   | iter _ _ _ _=>exact fR h hj
theorem adn(H:bj w0 Φ N B S a w):bj w0 Φ N B (xQ ks S) a w:=by
 obtain⟨S0,hS,ρ,ro,H⟩:=H;refine⟨S0,hS,ρ,ro,H.from_,H.size,H.defers,H.gX,fun d x h=>H.tm d x ?_,fun l e h=>H.en l e ?_,H.apart,H.fresh,H.own,H.fp,H.dH,fun d x h => ?_,fun l e h => ?_,H.fm⟩
 . unfold dR xQ at h;dsimp only at h;unfold dR
   cases hp:al (rj ks S.t) d with
   | some y=>rw [hp] at h; rw [GZ hp]; exact h
   | none=>rw [hp] at h; rw [H.kQ d x h]; exact h
 . unfold bF xQ at h;dsimp only at h;unfold bF
   cases hp:al (pD [] S.e) l with
   | some y=>rw [hp] at h; rw [(Na hp).2]; exact h
   | none=>rw [hp] at h; rw [H.kT l e h]; exact h
 . exact aa6
 . show al (pD [] S.e) l=none
   cases hp:al (pD [] S.e) l with
   | none=>rfl
   | some y=>have:=(Na hp).2; rw [H.kT l e h] at this; cases this
theorem ar8{own:List Nat}{T:Sx×List Nat}(dh:∀ S0,Φ S0->∀ l r,S0.pl l=some r->l<n0)(hB:nh (de n0) B.t=true)(wE:ki (de n0) B.e=true)(hT:G9 B T.1=true)(h:(G7 B n0 own T S').P)(H:bj w0 Φ N B S' a w):bj w0 Φ N B T.1 a w:=by
 unfold G9 at hT;simp only [aD] at hT;have kd:∀ {S':Sx},S'.n=T.1.n->bj w0 Φ N B S' a w->(oG B S' T.1.t T.1.e).P->bj w0 Φ N B T.1 a w:=by
  intro S' hn H hP;obtain⟨S0,hS,ρ,ro,HR⟩:=H;obtain⟨ta,tb,e1,e2,e3⟩:=M8 hP;have HB:=HR.bare;obtain⟨uZ,Cc,Cd,_,_⟩:=M6 HB (md := []) (aT := []) (aN _) B rfl;rw [<- hn] at hT;have:=HR.Tu hS (fun l r q1 q2 => ?_) e1 e2 e3 hT.1 hT.2.1 hT.2.2.1 hT.2.2.2 (fun d y hy => ?_) (fun l e he => ?_) fun _ h=>h
  . have he:(⟨T.1.t,T.1.e,S'.n⟩:Sx)=T.1:=by rw [hn]
    rwa [he] at this
  . have q3:=HR.dH l r q1 q2;exact ado
  . obtain⟨u,q1,q2⟩:=Cc d y hy;exact⟨u,q1,q2,uZ.t d y hy⟩
  . exact⟨Cd l e he,uZ.e l e he⟩
 unfold G7 at h;split at h
 . rename_i hn;have M3:S'.n=T.1.n:=eq_of_beq hn;split at h
   . exact kd M3 H h
   . split at h
     . rename_i hc;simp only [aD,aU] at hc;have hl:(uN T.2 [] own).length=own.length:=by
        have:=B6 (σ:=uN T.2 [] own) (l:=own.map fun _=>abg) (by simpa using hc.1);simpa using this
       have jY:fQ (uN T.2 [] own) (uN T.2 [] own).length=true:=by rw [hl]; exact hc.1
       obtain⟨S0,hS,ρ,ro,HR⟩:=H;refine kd (S':=⟨zs (gO n0 (uN T.2 [] own)) S'.t,l0 (gO n0 (uN T.2 [] own)) S'.e,S'.n⟩) M3 ⟨S0,hS,_,ro,HR.gQ (p:=de n0) (ar5 jY) (ar6 jY) (fun l hl=>TH (by simpa [de] using hl)) (fun l cQ=>TJ (by rw [hl]; omega)) hB wE fun l r q=>by simpa [de] using dh S0 hS l r q⟩ h
     . exact h.elim
 . exact h.elim
theorem ar9{l:List Oper}{k1 k2:Sx->Fm}(hd:Md C N B l o S=some S')(h:(cF C N B l [o] S k1).P)(hk:(k2 S').P):(cF C N B l [o] S k2).P:=by
 unfold Md at hd;unfold cF at h ⊢;dsimp only at h ⊢
 cases hw:pB B S l o with
 | yes =>
  rw [hw] at h hd;dsimp only at h hd ⊢
  cases hs:nT C N B S o with
  | some f=>rw [hs] at hd; cases hd
  | none =>
   rw [hs] at h hd;dsimp only at h hd ⊢
   cases ht:pC C N B S o with
   | none=>rw [ht] at hd; cases hd
   | some r =>
    obtain⟨S2,vcs⟩:=r;rw [ht] at h hd;dsimp only at hd;cases hd
    cases vcs with
    | nil=>unfold cF; exact hk
    | cons c vcs=>exact⟨h.1,by unfold cF; exact hk⟩
 | no =>
  rw [hw] at h hd;dsimp only at h hd ⊢;rw [hd];unfold cF;exact hk
 | ask d c b=>rw [hw] at hd; cases hd
 | stuck=>rw [hw] at hd; cases hd
theorem H6:∀ {l m:List Nat},sG l m=true->l=m
 | [],[],_=>rfl
 | x::l,y::m,h=>by
  simp only [sG,aD,cC] at h;rw [h.1,H6 h.2]
 | [],_::_,h=>by cases h
 | _::_,[],h=>by cases h
theorem adp{i x:Nat}:∀ {l:List Nat},bV x (x6 i l)=(i==x||bV x l)
 | []=>rfl
 | k::l=>by
  unfold x6;split
  . rfl
  . rw [Ev,Ev,adp,Bool.or_left_comm]
theorem H7{i:Nat}:∀ {l:List Nat},(x6 i l).length=l.length+1
 | []=>rfl
 | k::l=>by
  unfold x6;split
  . rfl
  . simp [H7]
theorem adq{ops:List Oper}:∀ {fq:List Nd} {acc cE:List (Sx×List Nat)},G6 C N B ops fq acc=some cE->cE.length=acc.length+fq.length/\(∀ t,t<acc.length->cE[t]? = acc[t]?)/\∀ (t:Nat) nd,fq[t]? = some nd->∃ p o S',cE[nd.up.1]? = some p/\ops[nd.up.2]? = some o/\Md C N B ops o p.1=some S'/\∃ q,cE[acc.length+t]? = some (xQ nd.ks S',q)
 | [],acc,cE,h=>by
  unfold G6 at h;cases h;exact⟨by simp,fun _ _=>rfl,fun t nd h=>by simp at h⟩
 | nd::fq,acc,cE,h=>by
  unfold G6 at h;split at h
  . rename_i p o hp ho;split at h
    . rename_i S' hS;obtain⟨h1,h2,h3⟩:=adq h;have af:nd.up.1<acc.length:=(c8.1 hp).1;refine⟨by rw [h1]; simp; omega,fun t ht => ?_,fun t Nb jI => ?_⟩
      . rw [h2 t (by simp; omega),r7 ht]
      . cases t with
        | zero =>
         simp only [pW,bU] at jI;subst jI;refine⟨p,o,S',?_,ho,hS,p.2++List.replicate (S'.n - p.1.n) nd.up.2,?_⟩
         . rw [h2 _ (by simp; omega),r7 af]; exact hp
         . rw [h2 _ (by simp)]; simp
        | succ t =>
         obtain⟨p',o',S2,k1,k2,k3,q,k4⟩:=h3 t Nb (by simpa using jI);refine⟨p',o',S2,k1,k2,k3,q,?_⟩;rw [<- k4];congr 1;simp;omega
    . cases h
  . cases h
theorem adr{ops:List Oper}{n0 j:Nat}{fq:List Nd}{cE:List (Sx×List Nat)}{Sj:Sx×List Nat}{A:Fm}:∀ {es:List (Nat×Nat×Nat)},(Me C N B ops n0 fq cE j Sj es A).P->A.P/\∀ e∈es,∃ o T,ops[e.2.1]? = some o/\cE[e.2.2]? = some T/\(match G8 fq e.2.2 j e.2.1 with
 | true=>cF C N B ops [o] Sj.1 fun _ => .fin []
 | false=>cF C N B ops [o] Sj.1 fun S'=>G7 B n0 (Sj.2++List.replicate (S'.n - Sj.1.n) e.2.1) T S':Fm).P
 | [],h=>⟨h,fun e he=>by cases he⟩
 | (i,oi,t)::es,h=>by
  unfold Me at h;split at h
  . rename_i o T ho hT;obtain⟨h1,h2⟩:=adr h.2;refine⟨h1,fun e he => ?_⟩;rcases gD.1 he with rfl|he
    . exact⟨o,T,ho,hT,h.1⟩
    . exact h2 e he
  . exact h.elim
theorem ads{ops:List Oper}{n0:Nat}{fq:List Nd}{cE:List (Sx×List Nat)}{k:Sx->Fm}:∀ {r:List Nd} {j:Nat},(Ha C N B ops n0 fq cE k j r).P->∃ m,m<r.length/\(∃ nd,r[m]? = some nd/\nd.ed = [])/\∀ (i:Nat) nd,i<=m->r[i]? = some nd->∃ Sj,cE[j+i]? = some Sj/\G9 B Sj.1=true/\(nd.ed = []->(k Sj.1).P)/\∀ e∈nd.ed,∃ o T,ops[e.2.1]? = some o/\cE[e.2.2]? = some T/\(match G8 fq e.2.2 (j+i) e.2.1 with
 | true=>cF C N B ops [o] Sj.1 fun _ => .fin []
 | false=>cF C N B ops [o] Sj.1 fun S'=>G7 B n0 (Sj.2++List.replicate (S'.n - Sj.1.n) e.2.1) T S':Fm).P
 | [],j,h=>by unfold Ha at h; exact h.elim
 | nd::r,j,h=>by
  unfold Ha at h;split at h
  . rename_i Sj hj;split at h
    . rename_i aR;split at h
      . rename_i he;refine⟨0,by simp,⟨nd,rfl,he⟩,fun i Nb hi jI => ?_⟩;obtain rfl:i=0:=oo
        simp only [pW,bU] at jI;subst jI;exact⟨Sj,hj,aR,fun _=>h,fun e nX=>by rw [he] at nX; cases nX⟩
      . rename_i bg;obtain⟨h1,h2⟩:=adr h;obtain⟨m,h3,⟨nd2,h4,zK⟩,h5⟩:=ads h1;refine⟨m+1,by simp; omega,⟨nd2,by simpa using h4,zK⟩,fun i Nb hi jI => ?_⟩
        cases i with
        | zero =>
         simp only [pW,bU] at jI;subst jI;exact⟨Sj,hj,aR,fun e=>absurd e bg,h2⟩
        | succ i =>
         obtain⟨S2,k1,k2,k3,k4⟩:=h5 i Nb oo (by simpa using jI);refine⟨S2,by rw [<- k1]; congr 1; omega,k2,k3,fun e he => ?_⟩;have:=k4 e he;rwa [show j+1+i=j+(i+1) from oo] at this
    . exact h.elim
  . exact h.elim
theorem TL{l:List Oper}{done:List Nat}:∀ {is:List Nat} {i:Nat},G5 l done is=some i->i∈is/\R0 l done i=true
 | [],i,h=>by cases h
 | j::is,i,h=>by
  unfold G5 at h;split at h
  . rename_i hc;injection h with h;subst h;exact⟨.head _,hc⟩
  . obtain⟨h1,h2⟩:=TL h;exact⟨.tail _ h1,h2⟩
theorem adt(aQ:dp P C.ty)(aS:oM P C w0 Φ){l:List Oper}(gY:∀ (j:Nat) (o:Oper) cs b,l.toArray[j]? = some o->o.op ≠ .select cs b)(hQ:∀ c a w,¬ Q (.panic c) a w)(H:bj w0 Φ N B S a w)(bc:listed.size=l.length)(hL:∀ i,LL listed i=bV i dn)(c7:so .any l.toArray listed)(nk:∀ i,i∈Ca l dn->i∈nU l dn->∃ (o':Oper) (K:Sx->Fm),l[i]? = some o'/\(cF C N B l [o'] S K).P/\∀ S' a' w',bj w0 Φ N B S' a' w'->(K S').P->wpAnyIn Fence.wide 0 P .any l.toArray Q fuel (listed.setIfInBounds i true) a' w')(ga:Ca l dn = []->Q .normal a w):wpAnyIn Fence.wide 0 P .any l.toArray Q (fuel+1) listed a w:=by
 have hr:=Ew (l:=l) bc hL;have u2:∀ i,i∈Ca l dn->i∈nU l dn->wpOpIn Fence.wide 0 P l.toArray Q i (wpAnyIn Fence.wide 0 P .any l.toArray Q fuel (listed.setIfInBounds i true)) a w:=by
  intro i hi kU;obtain⟨o',K,h1,h2,h3⟩:=nk i hi kU;exact acK aQ aS h1 h3 h2 H
 unfold Ca at nk u2 ga
 cases kU:nU l dn with
 | nil =>
  have Tm:Region.ready .any l.toArray listed = []:=Dd.2 fun i hi=>by have:=(hr i).2 hi; rw [kU] at this; cases this
  rw [kU] at ga;exact⟨fun _=>ga rfl,fun i hi=>by rw [Tm] at hi; cases hi⟩
 | cons i is =>
  have iM:i∈nU l dn:=by rw [kU]; exact .head _
  rw [kU] at nk u2
  cases is with
  | nil =>
   refine⟨fun hn => ?_,fun j hj => ?_⟩
   . have:=(hr i).1 iM;rw [hn] at this;cases this
   . have:=(hr j).2 hj;rw [kU,oq] at this;subst this;exact u2 _ (.head _) (.head _)
  | cons i2 is =>
   dsimp only at nk u2
   cases hf:zr l (i::i2::is) with
   | some q =>
    rw [hf] at nk u2;obtain⟨H8,o2,d,rB,rz,hd,kj⟩:=Hu hf;obtain⟨o',K,h1,h2,h3⟩:=nk q (.head _) H8;rw [rB] at h1;cases h1;obtain⟨v,S',hy,H',h'⟩:=acL aQ rz hd h2 H;have hq:=(hr q).1 (by rw [kU]; exact H8);obtain⟨_,o3,H9,nY⟩:=mem_ready.1 hq;have heq:o3=o2:=by
     have h1:l[q]? = some o3:=by simpa using H9
     rw [rB] at h1;injection h1 with h1;exact h1.symm
    subst heq;refine wpAnyIn_first rfl H9 gY (fun c a w hq=>(hQ c _ w hq).elim) fuel listed a w (fun j oj eQ bg gL ke => ?_) hq ⟨hy,fun w=>Se rz _ w⟩ ?_
    . rcases Tb kj rB Hs bg with ⟨e,he,hb,wB⟩|⟨e,he,hb,wB⟩|h3
      . have h4:=nY e he hb;exact Tf
      . exact absurd wB (ke e he hb)
      . exact h3
    . exact h3 _ _ _ H' h'
   | none =>
    rw [hf] at nk u2;dsimp only at nk u2
    cases rD:G5 l dn (i::i2::is) with
    | some q =>
     rw [rD] at nk u2;obtain⟨H8,nn⟩:=TL rD;have hw:=u2 q (.head _) H8;have hq:=(hr q).1 (by rw [kU]; exact H8);unfold R0 at nn
     cases rB:l[q]? with
     | none=>rw [rB] at nn; cases nn
     | some o2 =>
      rw [rB] at nn;simp only [aD,fc,iV,fM,cC] at nn;obtain⟨hst,_,asb⟩:=nn;have H9:l.toArray[q]? = some o2:=by simpa using rB
      obtain⟨v,hy,hn⟩:=arY H9 hst hQ hw;refine arZ H9 gY hQ fuel listed a w c7 (fun j oj eQ bg gL TD => ?_) hq hy hn;have Nc:l[j]? = some oj:=by simpa using eQ
      have af:=(c8.1 Nc).1;have h5:=asb j af;rw [Nc] at h5;rcases h5 with h5|h5|h5|h5
      . exact absurd h5 bg
      . have h6:=hL j;rw [h5] at h6;unfold LL at h6;rw [qI,qJ oo] at h6 gL;simp only [iD] at h6 gL;rw [h6] at gL;cases gL
      . rw [TD] at h5; cases h5
      . exact (aD _ _▸h5:_/\_)
    | none =>
     rw [rD] at nk u2;refine⟨fun hn => ?_,fun j hj => ?_⟩
     . have:=(hr i).1 iM;rw [hn] at this;cases this
     . have gE:=(hr j).2 hj;rw [kU] at gE;exact u2 j gE gE
theorem adu(hi:i<n)(bc:listed.size=n)(hL:∀ x,LL listed x=bV x dn)(x:Nat):LL (listed.setIfInBounds i true) x=bV x (x6 i dn):=by
 rw [Dy oo,hL,adp];by_cases e1:x=i
 . subst e1; simp
 . rw [ax e1];have:(i==x)=false:=by simpa using fun h=>e1 h.symm
   rw [this,uo]
theorem asc(aQ:dp P C.ty)(aS:oM P C w0 Φ){l:List Oper}{fq:List Nd}{cE:List (Sx×List Nat)}{k:Sx->Fm}(jY:fQ σ ops.length=true)(hl:l=cG σ ops)(gY:∀ (j:Nat) (o:Oper) cs b,l.toArray[j]? = some o->o.op ≠ .select cs b)(hQ:∀ c a w,¬ Q (.panic c) a w)(hk:∀ fuel (nd:Nd) S' a' w' listed,nd∈fq->nd.ed = []->(k S').P->bj w0 Φ N B S' a' w'->nd.dn.length+fuel=l.length->listed.size=l.length->(∀ i,LL listed i=bV i nd.dn)->so .any l.toArray listed->wpAnyIn Fence.wide 0 P .any l.toArray Q fuel listed a' w')(jI:∀ nd∈fq,MR σ l fq nd=true)(tE:∀ (j:Nat) nd,fq[j]? = some nd->∃ Sj,cE[j]? = some Sj/\(nd.ed = []->(k Sj.1).P)/\∀ e∈nd.ed,∃ o T,ops[e.2.1]? = some o/\cE[e.2.2]? = some T/\∃ K:Sx->Fm,(cF C N B ops [o] Sj.1 K).P/\∀ S' a' w',bj w0 Φ N B S' a' w'->(K S').P->bj w0 Φ N B T.1 a' w') :
 ∀ (fuel j:Nat) (nd:Nd) (Sj:Sx×List Nat) (a:Act) (w:World) (listed:Array Bool),fq[j]? = some nd->cE[j]? = some Sj->nd.dn.length+fuel=l.length->bj w0 Φ N B Sj.1 a w->listed.size=l.length->(∀ i,LL listed i=bV i nd.dn)->so .any l.toArray listed->wpAnyIn Fence.wide 0 P .any l.toArray Q fuel listed a w:=by
 intro fuel
 induction fuel with
 | zero =>
  intro j nd Sj a w listed hj hS hlen H bc hL c7;have iM:=gK hj;have hc:=jI nd iM;unfold MR at hc;simp only [aD,fM,aU,FZ] at hc;have x8:nd.ed = []:=hc.resolve_right fun h=>oo
  obtain⟨Sj',q1,q2,_⟩:=tE j nd hj;rw [hS] at q1;cases q1;exact hk 0 nd _ _ _ _ iM x8 (q2 x8) H hlen bc hL c7
 | succ fuel ih =>
  intro j nd Sj a w listed hj hS hlen H bc hL c7;have hr:=Ew (l:=l) bc hL;have iM:=gK hj;have hc:=jI nd iM;unfold MR at hc;simp only [aD,fM,aU,FZ,fc,cC] at hc;obtain⟨Sj',q1,q2,q3⟩:=tE j nd hj;rw [hS] at q1;cases q1;by_cases x8:nd.ed = []
  . exact hk (fuel+1) nd _ _ _ _ iM x8 (q2 x8) H hlen bc hL c7
  obtain⟨v8,_,ch⟩:=hc.resolve_left x8;have v8:=H6 v8;refine adt aQ aS gY hQ H bc hL c7 (fun i hi kU => ?_) fun hn=>absurd (by rw [hn] at v8; simpa using v8) x8;rw [<- v8] at hi;obtain⟨e,he,rfl⟩:=lW.1 hi;obtain⟨o,T,k1,k2,K,k3,k4⟩:=q3 e he;obtain⟨h1,h2⟩:=ch e he;have qS:l[e.1]? = some (qj σ o):=by rw [hl]; exact HU h1 k1
  have af:=(c8.1 qS).1;refine⟨qj σ o,K,qS,?_,fun S' a' w' HS hP => ?_⟩
  . rw [hl];exact MT (l:=ops) (o:=o) (K:=K) rfl rfl (MY jY Sj.1 o) (fun S hS=>by unfold cF; exact hS) k3
  . cases zL:fq[e.2.2]? with
    | none=>rw [zL] at h2; cases h2
    | some nt =>
     rw [zL] at h2;have h3:=H6 h2;exact ih e.2.2 nt T a' w' _ zL k2 (by rw [h3,H7]; omega) (k4 _ _ _ HS hP) (by simp [bc]) (fun x=>by rw [h3]; exact adu af bc hL x) (c7.Dx ((hr e.1).1 kU))
theorem adv{l:List Oper}{σ:List Nat}:∀ {pre dn wG:List Nat},uY σ l dn pre=some wG->wG.length=dn.length+pre.length
 | [],dn,wG,h=>by unfold uY at h; cases h; rfl
 | oi::pre,dn,wG,h=>by
  unfold uY at h;split at h
  . split at h
    . rw [adv h,H7]; simp; omega
    . cases h
  . cases h
theorem TM(aQ:dp P C.ty)(aS:oM P C w0 Φ){ops l:List Oper}{σ:List Nat}{k:Sx->Fm}{wG:List Nat}(hle:wG.length<=l.length)(jY:fQ σ ops.length=true)(hl:l=cG σ ops)(gY:∀ (j:Nat) (o:Oper) cs b,l.toArray[j]? = some o->o.op ≠ .select cs b)(hQ:∀ c a w,¬ Q (.panic c) a w)(hk:∀ fuel S' a' w' listed,(k S').P->bj w0 Φ N B S' a' w'->wG.length+fuel=l.length->listed.size=l.length->(∀ i,LL listed i=bV i wG)->so .any l.toArray listed->wpAnyIn Fence.wide 0 P .any l.toArray Q fuel listed a' w') :
 ∀ (pre:List Nat) (fuel:Nat) (dn:List Nat) (S:Sx) (a:Act) (w:World) (listed:Array Bool),uY σ l dn pre=some wG->(fu C N B ops (eH pre .nil) S k).P->bj w0 Φ N B S a w->dn.length+fuel=l.length->listed.size=l.length->(∀ i,LL listed i=bV i dn)->so .any l.toArray listed->wpAnyIn Fence.wide 0 P .any l.toArray Q fuel listed a w
 | [],fuel,dn,S,a,w,listed,l6,hP,H,hlen,bc,hL,c7=>by
  unfold uY at l6;cases l6;unfold eH fu at hP;exact hk fuel S a w listed hP H hlen bc hL c7
 | oi::pre,fuel,dn,S,a,w,listed,l6,hP,H,hlen,bc,hL,c7=>by
  have hr:=Ew (l:=l) bc hL;unfold uY at l6;split at l6
  . rename_i i oP;split at l6
    . rename_i hs;have hs:=eq_of_beq hs;unfold eH fu at hP
      cases ho:ops[oi]? with
      | none=>rw [ho] at hP; exact hP.elim
      | some o =>
       rw [ho] at hP;have qS:l[i]? = some (qj σ o):=by rw [hl]; exact HU hs ho
       have af:=(c8.1 qS).1;have ase:i∈nU l dn:=by
        unfold Ca at oP;split at oP
        . cases oP
        . rename_i q hq; cases oP; rw [hq]; exact .head _
        . rename_i is h1 h2;split at oP
          . rename_i q hq; cases oP; exact (Hu hq).1
          . split at oP
            . rename_i q hq; cases oP; exact (TL hq).1
            . rw [oP]; exact .head _
       have sO:=(mem_ready.1 ((hr i).1 ase)).1
       cases fuel with
       | zero =>
        have h1:=adv l6;rw [H7] at h1;omega
       | succ fuel =>
        refine adt aQ aS gY hQ H bc hL c7 (fun i2 mw kU => ?_) fun hn=>by rw [hn] at oP; cases oP
        rw [oP,oq] at mw;subst mw;refine⟨qj σ o,fun S'=>fu C N B ops (eH pre .nil) S' k,qS,?_,fun S' a' w' HS Nf => ?_⟩
        . rw [hl];exact MT (l:=ops) (o:=o) (K:=fun S'=>fu C N B ops (eH pre .nil) S' k) rfl rfl (MY jY S o) (fun S hS=>by unfold cF; exact hS) hP
        . exact TM aQ aS hle jY hl gY hQ hk pre fuel (x6 i2 dn) S' a' w' _ l6 Nf HS (by rw [H7]; omega) (by simp [bc]) (adu af bc hL) (c7.Dx ((hr i2).1 kU))
    . cases l6
  . cases l6
theorem asf{r:Option Nat}{id:Nat}(rA:∀ o∈ops,∀ c,o.op ≠ .defer c)(aQ:dp P C.ty)(aS:oM P C w0 Φ)(lK:P.follows .mixedOrders=true){t:zm}{k:Sx->Fm}(hQ:∀ c a w,¬ Q (.panic c) a w)(nZ:Tw (cB C) ops N t=true)(hk:∀ S' a' w',bj w0 Φ N B S' a' w'->(k S').P->Q .normal a' w')(h:(fu C N B ops (eH t.row .nil) S fun S'=>fu C N B ops (eH t.pre .nil) S' fun S'=>Mf C N B ops t.fq S' fun S'=>fu C N B ops (eH t.post .nil) S' k).P)(H:bj w0 Φ N B S a w):(Code.region id ops.toArray true).wpIn (wd r) 0 P Q a w:=by
 unfold Tw at nZ;simp only [aD] at nZ;obtain⟨aR,dO,nZ⟩:=nZ
 cases l6:uY t.sg (cG t.sg ops) (List.range t.row.length) t.pre with
 | none=>rw [l6] at nZ; cases nZ
 | some wG =>
 rw [l6] at nZ;unfold acZ at nZ;simp only [aD,aU] at nZ;obtain⟨hle,nZ⟩:=nZ;have hp:=aR;unfold Ec at hp;simp only [aD,aU] at hp;have jY:=hp.2.2.1;have Hv:=hp.1;have dO:=H6 dO;have dh:(cG t.sg ops).length=t.sg.length:=by unfold cG; simp
 have wD:∀ {dn:List Nat},dn.length<=(cG t.sg ops).length->MS t.sg (cG t.sg ops) dn t.post=true->(∀ (j:Nat) (o:Oper) cs b,(cG t.sg ops).toArray[j]? = some o->o.op ≠ .select cs b)->∀ fuel S' a' w' listed,(fu C N B ops (eH t.post .nil) S' k).P->bj w0 Φ N B S' a' w'->dn.length+fuel=(cG t.sg ops).length->listed.size=(cG t.sg ops).length->(∀ i,LL listed i=bV i dn)->so .any (cG t.sg ops).toArray listed->wpAnyIn Fence.wide 0 P .any (cG t.sg ops).toArray Q fuel listed a' w':=by
  intro dn rE oO gY fuel S' a' w' listed hP HS hlen bc hL c7;unfold MS at oO
  cases TN:uY t.sg (cG t.sg ops) dn t.post with
  | none=>rw [TN] at oO; cases oO
  | some dn3 =>
   rw [TN] at oO;dsimp only at oO;simp only [Bool.and_eq_true,beq_iff_eq,List.isEmpty_iff] at oO;refine TM aQ aS oo jY rfl gY hQ (fun fuel S' a' w' listed hP HS hlen bc rC c7 => ?_) t.post _ _ S' a' w' listed TN hP HS hlen bc hL c7;obtain rfl:fuel=0:=oo
   have hr:=Ew (l:=cG t.sg ops) bc rC;exact⟨Dd.2 fun i hi=>(by have:=(hr i).2 hi; rw [oO.2] at this; cases this),hk _ _ _ HS hP⟩
 refine acT rA (late:=fun S'=>fu C N B ops (eH t.pre .nil) S' fun S'=>Mf C N B ops t.fq S' fun S'=>fu C N B ops (eH t.post .nil) S' k) aQ aS lK hQ aR (fun S' a' w' listed hP HS bc rC fN gY => ?_) ?_ H
 . refine TM aQ aS hle jY rfl gY hQ (fun fuel S' a' w' listed hP HS adw bc rC c7 => ?_) t.pre _ _ S' a' w' listed l6 hP HS (by rw [vK]; exact Nat.add_sub_cancel' Hv) bc (fun i=>by rw [rC,acP]) ?_
   rotate_left
   . intro j oj eQ vW e he hb;have Nc:(cG t.sg ops)[j]? = some oj:=by simpa using eQ
     have h6:=rC j;have h7:=fN j oj Nc e he hb;have h8:=rC e.on;unfold LL at h6 h8;rw [h6] at vW;simp only [aU] at vW;rw [h8];simp only [aU];omega
   unfold Mf at hP
   cases hn:t.fq with
   | nil =>
    rw [hn] at hP nZ;dsimp only at hP nZ;exact wD hle nZ gY fuel S' a' w' listed hP HS adw bc rC c7
   | cons nd r =>
    rw [hn] at hP nZ;dsimp only at hP nZ;simp only [Bool.and_eq_true] at nZ;obtain⟨Ng,tH,ash,gH⟩:=nZ;split at hP
    . rename_i hc;simp only [aD,aU] at hc;obtain⟨km,hB,wE⟩:=hc;split at hP
      . rename_i cE asi;obtain⟨hlen,hold,rk⟩:=adq asi;obtain⟨m,hm,⟨ndm,asj,asl⟩,ch⟩:=ads hP;have lH:m+1=(nd::r).length:=by
         rcases cv m r.length with h1|h1
         . have h2:ndm∈(nd::r).dropLast:=by
            refine gK (i:=m) ?_;rw [List.getElem?_dropLast,aG (by simpa using h1)];exact asj
           have h3:=fc.1 tH ndm h2;rw [asl] at h3;cases h3
         . simp only [dE] at hm ⊢; omega
        have asm:∀ S0,Φ S0->∀ l r,S0.pl l=some r->l<S'.n:=fun S0 hS l r h=>iT (aS.pl S0 hS l r h) km;have Ng:=H6 Ng;have h0:cE[0]? = some (xQ nd.ks S',[]):=by rw [hold 0 (by simp)]; rfl
        refine asc (k:=fun S'=>fu C N B ops (eH t.post .nil) S' k) aQ aS jY rfl gY hQ (fun fuel ndl S' a' w' listed iM x8 hP HS hlen bc hL c7 => ?_) (fun nd jI=>fc.1 ash nd jI) (cE:=cE) (fun j ndj hj => ?_) _ 0 nd (xQ nd.ks S',[]) a' w' listed rfl h0 (by rw [Ng]; exact adw) (adn HS) bc (fun i=>by rw [rC,Ng]) c7
        . have ze:(nd::r).getLast? = some ndl:=by
           rcases nJ.1 (by rw [aDX (List.cons_ne_nil nd r)]; exact iM) with h1|h1
           . have h3:=fc.1 tH ndl h1;rw [x8] at h3;cases h3
           . rw [oq] at h1;rw [h1];exact aDW _
          rw [ze] at gH;exact wD oo gH gY fuel S' a' w' listed hP HS hlen bc hL c7
        have Qy:j<=m:=by have:=(c8.1 hj).1; omega
        obtain⟨Sj,k1,k2,k3,k4⟩:=ch j ndj Qy hj;rw [ia] at k1 k4;refine⟨Sj,k1,k3,fun e he => ?_⟩;obtain⟨o,T,q1,q2,q3⟩:=k4 e he;refine⟨o,T,q1,q2,?_⟩;have aso:G9 B T.1=true:=by
         have af:e.2.2<(nd::r).length:=by
          have:=(c8.1 q2).1;rw [hlen] at this;simpa [Gb] using this
         obtain⟨T',p1,p2,_⟩:=ch e.2.2 _ oo (bq af);rw [ia,q2] at p1;cases p1;exact p2
        cases hu:G8 (nd::r) e.2.2 j e.2.1 with
        | false =>
         rw [hu] at q3;exact⟨_,q3,fun S2 a2 w2 H2 Nf=>ar8 asm hB wE aso Nf H2⟩
        | true =>
         rw [hu] at q3;dsimp only at q3;unfold G8 at hu
         cases zL:(nd::r)[e.2.2]? with
         | none=>rw [zL] at hu; cases hu
         | some nt =>
          rw [zL] at hu;simp only [aD,cC,fG,Kk] at hu
          cases hz:e.2.2 with
          | zero=>exact absurd hz hu.2.2
          | succ z =>
           rw [hz] at zL q2;obtain⟨p,o2,S2,p1,p2,p3,q,p4⟩:=rk z nt (by simpa using zL);rw [hu.1,k1] at p1;cases p1;rw [hu.2.1,q1] at p2;cases p2;have hT:T=(xQ nt.ks S2,q):=by
            have:(1+z)=z+1:=oo
            simp only [dE,hZ,ia,this] at p4;rw [q2] at p4;exact Option.some.inj p4
           refine⟨fun S3 => .all Unit (fun _=>S3≠S2) fun _ => .ff 0,ar9 p3 q3 (fun _ bg=>bg rfl),fun S3 a3 w3 H3 hP3 => ?_⟩;have:S3=S2:=aD5 fun bg=>hP3 () bg;subst this;rw [hT];exact adn H3
      . exact hP.elim
    . exact hP.elim
 . rw [dO] at h;refine MZ jY (t.sg.take t.row.length) _ _ _ S (by rw [cy,cy,dh]) (fun q o hq=>⟨q,?_,?_⟩) (fun S' sL => ?_) h
   . exact ac4
   . rw [e9] at hq;split at hq
     . exact hq
     . cases hq
   . unfold fu at sL;exact sL
end
def Pm.add(S:Pm)(o f:Nat->Prop)(i:World->Prop)(ds:List Deferred)(fm:Nat->Option Value)(h1:∀ b,o b->f b)(h2:∀ w b,i w->f b->b<w.heap.size)(h3:∀ w w':World,i w->w'.os=w.os->w'.tape=w.tape->w'.output=w.output->w.heap.size<=w'.heap.size->(∀ b,f b->w'.heap[b]? = w.heap[b]?)->i w'):Pm where
 rd:=S.rd
 pl:=S.pl
 fx:=S.fx
 ex:=S.ex
 kP b:=S.kP b\/f b
 own b:=S.own b\/o b
 inv w:=S.inv w/\i w
 ds:=ds
 fm:=fm
 zj b h:=h.imp (S.zj b) (h1 b)
 py w b h k:=k.elim (S.py w b h.1) (h2 w b h.2)
 zk w w' h e1 e2 e3 e4 k:=⟨S.zk w w' h.1 e1 e2 e3 e4 fun b hb=>k b (.inl hb),h3 w w' h.2 e1 e2 e3 e4 fun b hb=>k b (.inr hb)⟩
theorem EA{o:Obj}(h:w.heap[b]? = some o):b<w.heap.size:=(pV.1 h).1
def Pm.mark(S:Pm)(D:Nat):Pm:=S.add (· = D) (· = D) (fun w=>w.heap[D]? = some (.deferred (some []))) (⟨.collected D,#[]⟩::S.ds) S.fm (fun _ h=>h) (fun _ _ h e=>by subst e; exact EA h) fun _ _ h _ _ _ _ k=>(k D rfl).trans h
def Pm.eG(S:Pm)(D l:Nat)(rec:Loop)(fm:Nat->Option Value):Pm:=S.add (fun b=>b=D\/b=l) (fun b=>b=D\/b=l) (fun w=>w.heap[D]? = some (.deferred (some []))/\w.heap[l]? = some (.loop rec)) [] fm (fun _ h=>h) (fun _ _ h e=>(by rcases e with rfl|rfl<;>first|exact EA h.1|exact EA h.2)) fun _ _ h _ _ _ _ k=>⟨(k D (.inl rfl)).trans h.1,(k l (.inr rfl)).trans h.2⟩
def Pm.Ia(S:Pm)(O R:Nat->Prop)(W:World)(zM:∀ b,O b->R b):Pm:=S.add (fun b=>b<W.heap.size/\¬ R b) (fun b=>b<W.heap.size/\¬ O b) (fun w=>(w.os=W.os/\w.tape=W.tape/\w.output=W.output)/\W.heap.size<=w.heap.size/\∀ b,b<W.heap.size->¬ O b->w.heap[b]? = W.heap[b]?) S.ds S.fm (fun b h=>⟨h.1,fun k=>h.2 (zM b k)⟩) (fun _ _ h e=>iT e.1 h.2.1) fun _ _ h e1 e2 e3 e k=>⟨⟨e1.trans h.1.1,e2.trans h.1.2.1,e3.trans h.1.2.2⟩,cd h.2.1 e,fun b hb hO=>(k b ⟨hb,hO⟩).trans (h.2.2 b hb hO)⟩
section
variable{P:Program}{w w' w0:World}{ρ ρ':Nat->Option Rl}{base lD n:Nat}{ro ro':Nat->Prop}{S0 S1:Pm}{Φ : Pm->Prop}{N:Nat}{B:Bs}{S:Sx}{a a':Act}{F:Fx}
theorem bK.v5(H:bK w0 S0 N B S a w ρ ro)(kU:S1.rd=S0.rd)(dh:S1.pl=S0.pl)(jG:S1.fx=S0.fx)(hex:S1.ex=S0.ex)(hi:S1.inv w)(hd:a'.defers=S1.ds)(ht:a'.tmps=a.tmps)(hf:∀ l r b,ρ l=some r->r.cH=some b->¬ S1.kP b)(ho:∀ b,ro b->¬ S1.own b)(hm:∀ d v,S1.fm d=some v->a.tmps[d]? = some v/\(al B.t d).isSome=true):bK w0 S1 N B S a' w ρ ro :=
 ⟨⟨H.from_.os,H.from_.tape,H.from_.output,H.from_.size,fun k hk hn hx=>H.from_.block k hk (by rw [<- dh]; exact hn) (by rw [<- hex]; exact hx),hi⟩,by rw [ht]; exact H.size,hd,H.gX,fun d x h=>by rw [ht]; exact H.tm d x h,H.en,H.apart,H.fresh,fun l r b h1 h2=>⟨(H.own l r b h1 h2).1,(H.own l r b h1 h2).2.1,by rw [dh]; exact (H.own l r b h1 h2).2.2.1,hf l r b h1 h2⟩,fun b hb=>⟨by rw [kU]; exact (H.fp b hb).1,ho b hb⟩,by rw [dh,jG]; exact H.dH,H.kQ,H.kT,fun d v h=>by rw [ht]; exact hm d v h⟩
theorem bK.Ei(H:bK w0 S0 N B S a w ρ ro)(h1:w'.os=w.os)(h2:w'.tape=w.tape)(h3:w'.output=w.output)(h4:w.heap.size<=w'.heap.size)(hk:∀ b,b<w.heap.size->(b<w0.heap.size\/ro b\/(∃ l r,ρ l=some r/\r.cH=some b)\/S0.kP b)->w'.heap[b]? = w.heap[b]?):bK w0 S0 N B S a w' ρ ro:=by
 have hw:∀ b,ro b->b<w.heap.size->w'.heap[b]? = w.heap[b]? := fun b hb af=>hk b af (.inr (.inl hb));have bS:∀ l r b,ρ l=some r->r.cH=some b->w'.heap[b]? = w.heap[b]? := fun l r b q1 q2=>hk b (H.own l r b q1 q2).1 (.inr (.inr (.inl ⟨l,r,q1,q2⟩)));refine⟨⟨h1.trans H.from_.os,h2.trans H.from_.tape,h3.trans H.from_.output,cd H.from_.size h4,fun k q1 q2 q3=>(hk k (iT q1 H.from_.size) (.inl q1)).trans (H.from_.block k q1 q2 q3),S0.zk _ _ H.from_.inv h1 h2 h3 h4 fun b hb=>hk b (S0.py _ _ H.from_.inv hb) (.inr (.inr (.inr hb)))⟩,H.size,H.defers,fun b hb=>iT (H.gX b hb) h4,fun d x h => ?_,fun l e h=>(H.en l e h).mono hw bS (Ext.refl _) fun _ h=>h,H.apart,H.fresh,fun l r b q1 q2=>⟨iT (H.own l r b q1 q2).1 h4,(H.own l r b q1 q2).2⟩,H.fp,H.dH,H.kQ,H.kT,H.fm⟩;obtain⟨u,q1,q2⟩:=H.tm d x h;exact⟨u,q1,q2.mono hw (Ext.refl _) (aN _) fun _ h=>h⟩
theorem bK.more(H:bK w0 S0 N B S a w ρ ro){rr:Nat->Prop}(h:∀ b,rr b->b<w.heap.size/\(∀ l r,ρ l=some r->r.cH≠some b)/\(b<w0.heap.size->S0.rd b)/\¬ S0.own b):bK w0 S0 N B S a w ρ (fun b=>ro b\/rr b):=by
 refine⟨H.from_,H.size,H.defers,fun b hb=>hb.elim (H.gX b) fun hb=>(h b hb).1,fun d x hx => ?_,fun l e he=>(H.en l e he).mono (fun _ _ _=>rfl) (fun _ _ _ _ _=>rfl) (Ext.refl _) fun _ h => .inl h,H.apart,H.fresh,fun l r b q1 q2=>⟨(H.own l r b q1 q2).1,fun hb=>hb.elim (H.own l r b q1 q2).2.1 fun hb=>(h b hb).2.1 l r q1 q2,(H.own l r b q1 q2).2.2⟩,fun b hb=>hb.elim (H.fp b) fun hb=>(h b hb).2.2,H.dH,H.kQ,H.kT,H.fm⟩;obtain⟨u,q1,q2⟩:=H.tm d x hx;exact⟨u,q1,q2.mono (fun _ _ _=>rfl) (Ext.refl _) (aN _) fun _ h => .inl h⟩
theorem bK.frame(H:bK w0 S0 N B S a w ρ ro)(hd:a'.defers=S0.ds)(bc:a'.tmps.size=N)(sQ:∀ d,(al B.t d).isSome=true->S0.fm d=a'.tmps[d]?):bK w0 S0 N B ⟨[],S.e,S.n⟩ a' w ρ ro:=by
 refine⟨H.from_,bc,hd,H.gX,fun d x h => ?_,H.en,H.apart,H.fresh,H.own,H.fp,H.dH,fun _ _ _=>rfl,H.kT,fun d v h=>⟨by rw [<- sQ d (H.fm d v h).2]; exact h,(H.fm d v h).2⟩⟩;have h':al B.t d=some x:=h;obtain⟨u,q1,q2⟩:=H.tm d x (by unfold dR; rw [H.kQ d x h']; exact h');refine⟨u,?_,q2⟩;have af:d<a'.tmps.size:=by
  have:=(pV.1 q1).1;rw [bc,<- H.size];exact this
 have h1:=sQ d (by rw [h']; rfl);rw [qJ af] at h1 ⊢;have:=(H.fm d _ h1).1;rw [q1] at this;exact this.symm
theorem wH:∀ {l:List AV} {j:Nat} {x:AV},AV.pE l=true->l[j]? = some x->AV.sI x=true
 | y::l,0,x,h,hx=>by
  simp only [pW,bU] at hx;subst hx;simp only [AV.pE,aD] at h;exact h.1
 | y::l,j+1,x,h,hx=>by
  simp only [AV.pE,aD] at h;exact wH h.2 (by simpa using hx)
 | [],j,x,_,hx=>by simp at hx
theorem TO(t:Tc)(x:Unit->t.el):AV.pE (bf false t x)=true:=by cases t<;>rfl
theorem aj.xL{x:AV}(h:aj w ρ base ro x v)(hx:AV.sI x=true):aj w ρ lD ro x v:=by
 induction h with
 | un=>exact .un _
 | gv=>exact .gv _
 | int=>exact .int _ _
 | lit=>exact .lit _ _
 | bool=>exact .bool _
 | aV=>exact .aV _
 | str=>exact .str _
 | nil=>exact .nil
 | sl fr t l A c css hl hc hr mC df h ih =>
  have asq:fr=false:=by simpa [AV.sI] using hx
  subst asq;exact .sl false t l A c css hl hc hr mC (fun h=>by cases h) fun k cs j y v h1 h2 h3=>ih k cs j y v h1 h2 h3 (wH (TO _ _) h2)
 | wide fr t l n A c hn h ih=>exact .wide fr t l n A c hn (ih Ib)
 | bP cells off b o cs hr af hl hc h ih=>exact .bP cells off b o cs hr af hl hc fun j y v h1 h2=>ih j y v h1 h2 (wH Ib h1)
 | ptr l off b h=>exact .ptr _ _ _ h
 | fX l off n b h=>exact .fX _ _ _ _ h
 | own l A n c h=>exact .own _ _ _ _ h
 | dv t l k off A n c b h hA h0 hn=>exact .dv _ _ _ _ _ _ _ _ h hA h0 hn
 | cW t l a b A n c h bJ=>exact .cW _ _ _ _ _ _ _ h bJ
 | mp l b h=>exact .mp _ _ h
 | bL l b h=>exact .bL _ _ h
 | it l l2 b h=>exact .it _ _ _ h
 | agg l vs hl h ih=>exact .agg _ _ hl fun j y v h1 h2=>ih j y v h1 h2 (wH Ib h1)
 | bp l vs hl h ih=>exact .bp _ _ hl fun j y v h1 h2=>ih j y v h1 h2 (wH Ib h1)
 | fn f dV vs hl h ih=>exact .fn _ _ _ hl fun j y v h1 h2=>ih j y v h1 h2 (wH Ib h1)
theorem adA{l:List AV}{vs:List Value}(h:bn w (fun _=>none) 0 ro l vs)(hx:AV.pE l=true)(hr:∀ b,ro b->ro' b):bn w ρ lD ro' l vs :=
 ⟨h.1,fun j x v h1 h2=>((h.2 j x v h1 h2).xL (wH hx h1)).mono (fun _ _ _=>rfl) (fun _ _ h=>by cases h) (aN _) hr⟩
theorem adB:∀ {ps:List Nat} {xs:List AV} {vs:List Value} {S S':Sx} {a:Act},Hc B N ps xs S=some S'->bn w ρ w0.heap.size ro xs vs->bK w0 S0 N B S a w ρ ro->ps.length=vs.length/\bK w0 S0 N B S' { a with tmps:=(ps.zip vs).foldl (fun t p=>t.setIfInBounds p.1 p.2) a.tmps } w ρ ro
 | [],[],vs,S,S',a,h,hE,H=>by
  cases h;rw [hE.none];exact⟨rfl,H⟩
 | p::ps,x::xs,vs,S,S',a,h,hE,H=>by
  unfold Hc at h;split at h
  . rename_i S2 h2;obtain⟨v,us,rfl,hx,oC⟩:=hE.head;obtain⟨q1,q2⟩:=adB h oC (H.put h2 hx);exact⟨by simp [q1],q2⟩
  . cases h
 | [],_::_,_,_,_,_,h,_,_=>by cases h
 | _::_,[],_,_,_,_,h,_,_=>by cases h
end
end Go.Proofs.YtamjbkaclhgffaaGreat
