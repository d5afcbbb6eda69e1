/-
  The abstract run: what is as is wanted, in memory; the states of a loop.
-/
import Derived.Test.YtlpikgchnjajmaaGreatTp12
set_option linter.all false
namespace Go.Proofs.YtlpikgchnjajmaaGreat
open Go.RowKit
variable{a a':Act}{B2:Bs}{ov:List (Nat×AV)}{oe:List (Nat×En)}{aD md σ:List Nat}{Au l' ops:List Oper}{ta tb:List VC}{d i j m:Nat}{o o' oi oj:Oper}{S:Sx}{k:Sx->Fm}{v:Value}{w w':World}
section
variable{w w' w0:World}{ρ ρ' ρ2:Nat->Option Rl}{base:Nat}{p:Nat->Bool}{fz:Option (List Nat)}{ro ro' ro2:Nat->Prop}{S0:Pm}{Φ : Pm->Prop}{N:Nat}{B:Bs}{S:Sx}{a:Act}
theorem ZK(H:bh w0 S0 N B S a w ρ ro)(M:Fa w0 ρ ρ2 ro ro2 p fz):∀ {oe:List (Nat×En)} {tb:List VC},mD fz B S oe=some tb->(∀ c∈tb,c ())->jr p oe=true->∀ l e,ak oe l=some e->c7 w ρ2 w0.heap.size ro2 l e:=by
 intro oe
 induction oe with
 | nil=>intro tb _ _ _ l e h; cases h
 | cons p oe ih =>
  intro tb hE hv hb l e he;obtain⟨k,z⟩:=p
  cases z with
  | box T cs =>
   unfold mD at hE;simp only [jr,au] at hb;split at hE
   . rename_i T' cs' hl;split at hE
     . rename_i Qj;subst Qj;split at hE
       . rename_i p q h4 h5;cases hE;have rM:=E9 hv;rw [cu] at he;split at he
         . rename_i e0;subst e0;cases he;obtain⟨b,us,k1,k4,k5⟩:=H.en _ _ hl;exact⟨b,us,M.pl _ _ k1 hb.1.1,k4,yv H M _ _ p us h4 rM.1 k5 (by simpa [En.under] using hb.1.2)⟩
         . exact ih h5 rM.2 hb.2 l e he
       . cases hE
     . cases hE
   . cases hE
  | row fr t T m =>
   unfold mD at hE;simp only [jr,au] at hb;split at hE
   . rename_i q h5;split at hE
     . rename_i fr' t' T' m' hl;split at hE
       . rename_i ht;subst ht;split at hE
         . rename_i hc;obtain⟨rfl,hf⟩:=hc;cases hE;rw [cu] at he;split at he
           . rename_i e0;subst e0;cases he;obtain⟨A,c,css,k1,k2,k3,k5⟩:=H.en _ _ hl;have hm:m'=m:=funext fun u=>by cases u; exact hv _ (.head _)
             subst hm;refine⟨A,c,css,M.pl _ _ k1 hb.1.1,k2.Bv (ai4 _ (Ai hf)),k3,fun kk cs j x v q1 q2 q3 => ?_⟩;have aN:=k2.2 cs (gX q1);have h6:=(Ad (g:=fr) (ux aN fun j y v r1 r2=>k5 kk cs j y v q1 r1 r2) (Ai hf)).2 j x v q2 q3;exact (h6.yw (wL (Kb _ _ _ _) q2) M.pl).mono (fun _ _ _=>rfl) (Ext.refl _) (az _) M.ro
           . exact Kn
         . cases hE
       . cases hE
     . cases hE
     . rename_i hl;split at hE
       rotate_left
       . cases hE
       split at hE
       . rename_i hk;cases hE;rw [cu] at he;split at he
         . rename_i e0;subst e0;cases he;have hm:=hv _ (.head _);refine⟨none,0,[],by rw [hm]; exact M.nil rfl _ (H.fresh _ hk) hb.1.1,cy.nil _ _ _ _,by rw [hm]; rfl,fun kk cs j x v q1=>by simp at q1⟩
         . exact Kn
       . cases hE
   . cases hE
  | map fr ag c t T m =>
   unfold mD at hE;simp only [jr,au] at hb;split at hE
   . rename_i q h5;split at hE
     . rename_i fr' jI c' t' T' m' hl;split at hE
       . rename_i ht;subst ht;split at hE
         . rename_i hc;obtain⟨rfl,rfl,rfl,hf⟩:=hc;cases hE;rw [cu] at he;split at he
           . rename_i e0;subst e0;cases he;obtain⟨b,es,clock,k1,k2,k3,k4⟩:=H.en _ _ hl;have hm:m'=m:=funext fun u=>by cases u; exact hv _ (.head _)
             subst hm;exact⟨b,es,clock,M.pl _ _ k1 hb.1.1,k2,k3,(k4.less (Ai hf)).rQ fun x v hx=>(hx.yw (YQ _ _ _ _ _) M.pl).mono (fun _ _ _=>rfl) (Ext.refl _) (az _) M.ro⟩
           . exact Kn
         . cases hE
       . cases hE
     . cases hE
   . cases hE
  | iter ml c seen left =>
   unfold mD at hE;simp only [jr,En.under,au] at hb;split at hE
   . rename_i q h5;split at hE
     . rename_i Et c' Pt Pu hl;split at hE
       . rename_i hc;obtain⟨rfl,rfl⟩:=hc;cases hE;rw [cu] at he;split at he
         . rename_i e0;subst e0;cases he;obtain⟨b,b2,es,clock,since,stamps,c0,k1,k2,k3,k4,k5,k6,k7,k8,k9⟩:=H.en _ _ hl;have e1:Pt ()=seen ():=hv _ (.head _);have e2:Pu ()=left ():=hv _ (.tail _ (.head _));rw [e1] at k8 k9;rw [e2] at k7;exact⟨b,b2,es,clock,since,stamps,c0,M.pl _ _ k1 hb.1.1,M.pl _ _ k2 hb.1.2,k3,k4,k5,k6,k7,k8,k9⟩
         . exact ih h5 (fun c hc=>hv c (.tail _ (.tail _ hc))) hb.2 l e he
       . cases hE
     . cases hE
   . cases hE
  | bq ml c key=>unfold mD at hE; cases hE
  | fh kk =>
   unfold mD at hE;simp only [jr,au] at hb;split at hE
   . rename_i q h5;split at hE
     . rename_i k' hl;cases hE;rw [cu] at he;split at he
       . rename_i e0;subst e0;cases he;have e1:k' ()=kk ():=hv _ (.head _);have h6:=M.pl _ _ (H.en _ _ hl) hb.1.1;rw [e1] at h6;exact h6
       . exact Kn
     . cases hE
   . cases hE
  | dead=>unfold mD at hE; cases hE
theorem bh.ZL(H:bh w0 S0 N B S a w ρ ro){n:Nat}(sY:∀ l r,S0.pl l=some r->(r.dC||S0.fx)=true->l<n)(hT:z0 B S ov=some ta)(hE:mD none B S oe=some tb)(hv:∀ c∈ta++tb,c ())(QO:lZ (cP n) ov=true)(QP:jr (cP n) oe=true)(QQ:l0 B2.t ov=true)(QR:l0 B2.e oe=true)(QS:∀ d x,ak B2.t d=some x->∃ u,a.tmps[d]? = some u/\ah w ρ w0.heap.size ro x u/\AV.under (cP n) x=true)(uS:∀ l e,ak B2.e l=some e->c7 w ρ w0.heap.size ro l e/\l<n/\En.under (cP n) e=true)(qM:∀ d,(ak B.t d).isSome=true->(ak B2.t d).isSome=true) :
 ∃ ρ2,bh w0 S0 N B2 ⟨ov,oe,n⟩ a w ρ2 ro/\∀ l r b,ρ2 l=some r->r.ca=some b -> ρ l=some r:=by
 obtain⟨ρ2,Ko⟩:∃ ρ2:Nat->Option Rl,ρ2=fun l=>if l<n then (match ρ l with|some r=>some r|none=>some (.row none 0 0)) else none:=⟨_,rfl⟩
 have h2:∀ l r,ρ l=some r->l<n -> ρ2 l=some r:=fun l r h hl=>by rw [Ko]; simp only [aw hl,h]
 have h3:∀ l,ρ l=none->l<n -> ρ2 l=some (.row none 0 0):=fun l h hl=>by rw [Ko]; simp only [aw hl,h]
 have fi:∀ l r b,ρ2 l=some r->r.ca=some b -> ρ l=some r:=by
  intro l r b h hb;rw [Ko] at h;simp only at h;split at h
  . cases hl : ρ l with
    | none=>rw [hl] at h; injection h with h; subst h; cases hb
    | some r'=>rw [hl] at h; exact h
  . cases h
 have ZM:∀ {l},cP n l=true->l<n:=fun h=>by simpa [cP] using h
 have M:Fa w0 ρ ρ2 ro ro (cP n) none:=⟨fun l r h hl=>h2 l r h (ZM hl),fun _ h=>h,fun _ l h hl=>h3 l h (ZM hl),fun _ h=>by cases h⟩
 have Fw:=E9 hv;have hTs:∀ {ov:List (Nat×AV)} {ta:List VC},z0 B S ov=some ta->(∀ c∈ta,c ())->lZ (cP n) ov=true->∀ d y,ak ov d=some y->∃ u,a.tmps[d]? = some u/\ah w ρ2 w0.heap.size ro y u:=by
  intro ov
  induction ov with
  | nil=>intro ta _ _ _ d y h; cases h
  | cons p ov ih =>
   intro ta hT hv hb d y hy;obtain⟨k,z⟩:=p;unfold z0 at hT;split at hT
   . rename_i x b hx aW
     cases he:Ch none B S x z with
     | none=>rw [he] at hT; cases hT
     | some q =>
      rw [he] at hT;simp only [dv,bI] at hT;subst hT;have rM:=E9 hv;simp only [lZ,au] at hb;rw [cu] at hy;split at hy
      . rename_i e;subst e;cases hy;obtain⟨u,h4,h5⟩:=H.tm _ _ hx;exact⟨u,h4,P8 H M _ _ q u he rM.1 h5 hb.1⟩
      . exact ih aW rM.2 hb.2 d y hy
   . cases hT
 refine⟨ρ2,⟨H.from_,H.size,H.defers,H.gn,fun d x hx => ?_,fun l e he => ?_,fun l l' r r' b aT k1 k2 k3 k4 => ?_,fun l hl => ?_,fun l r b k1 k2=>H.own l r b (fi l r b k1 k2) k2,H.eN,fun l r k1 k2=>h2 l r (H.dC l r k1 k2) (sY l r k1 k2),fun d x hx => ?_,fun l e he => ?_,fun d v h=>⟨(H.fm d v h).1,qM d (H.fm d v h).2⟩⟩,fi⟩
 . unfold dH at hx;dsimp only at hx;split at hx
   . rename_i y hy;cases hx;exact hTs hT Fw.1 QO d _ hy
   . obtain⟨u,q1,q2,q3⟩:=QS d x hx;exact⟨u,q1,q2.yw q3 M.pl⟩
 . unfold bc at he;dsimp only at he;split at he
   . rename_i y hy;cases he;exact ZK H M hE Fw.2 QP l _ hy
   . obtain⟨q1,q2,q3⟩:=uS l e he;exact q1.fixed (p:=cP n) (by unfold cP; exact c8 q2) q3 M.pl
 . exact H.apart l l' r r' b aT (fi l r b k1 k3) (fi l' r' b k2 k4) k3 k4
 . rw [Ko];exact ar (by simp only at hl; omega)
 . cases ho:ak ov d with
   | none=>rfl
   | some y=>rw [P9 QQ ho] at hx; cases hx
 . cases ho:ak oe l with
   | none=>rfl
   | some y=>rw [P9 QR ho] at he; cases he
theorem bh.QT(H:bh w0 S0 N B S a w ρ ro)(hS : Φ S0){n:Nat}(sY:∀ l r,S0.pl l=some r->(r.dC||S0.fx)=true->l<n)(hT:z0 B S ov=some ta)(hE:mD none B S oe=some tb)(hv:∀ c∈ta++tb,c ())(QO:lZ (cP n) ov=true)(QP:jr (cP n) oe=true)(QQ:l0 B2.t ov=true)(QR:l0 B2.e oe=true)(QS:∀ d x,ak B2.t d=some x->∃ u,a.tmps[d]? = some u/\ah w ρ w0.heap.size ro x u/\AV.under (cP n) x=true)(uS:∀ l e,ak B2.e l=some e->c7 w ρ w0.heap.size ro l e/\l<n/\En.under (cP n) e=true)(qM:∀ d,(ak B.t d).isSome=true->(ak B2.t d).isSome=true) :
 aP w0 Φ N B2 ⟨ov,oe,n⟩ a w:=by
 obtain⟨ρ2,h,_⟩:=H.ZL sY hT hE hv QO QP QQ QR QS uS qM;exact⟨S0,hS,ρ2,ro,h⟩
end
def Fy:List Nat->(Nat->mB)->mB
 | [],_ => .bad
 | [i],f=>f i
 | i::l,f => .alt (f i) (Fy l f)
def As(l:List Oper)(σ:List Nat):Nat->List Nat->mB
 | 0,done=>match mF l done with
  | [] => .nil
  | _ => .bad
 | fuel+1,done =>
  let one (i:Nat):mB:=match l[i]? with
   | some _=>match σ[i]? with
    | some j => .op j (As l σ fuel (i::done))
    | none => .bad
   | none => .bad
  match mF l done with
  | [] => .nil
  | [i]=>one i
  | is=>match ym l is with
   | some i=>one i
   | none=>Fy is one
def QU(ef:List Nat)(ops:List Oper):mB :=
 let σ:=yk ef ops
 let l:=laid ef ops
 let np:=rW ef l
 bo (σ.take np) (match Ck l np with
  | true=>bo (σ.drop np) .nil
  | false=>As l σ (l.length - np) (List.range np))
def wN(i:Nat):List Nat->List Nat
 | [] => [i]
 | k::l=>if i<k then i::k::l else k::wN i l
def At(l:List Oper)(done:List Nat):List Nat:=match mF l done with
 | [] => []
 | [i] => [i]
 | is=>match ym l is with
  | some i => [i]
  | none=>match ES l done is with
   | some i => [i]
   | none=>is
def Kq(σ:List Nat)(l:List Oper)(eO:List Nd)(nd:Nd):Bool :=
 nd.ed.isEmpty||qA (nd.ed.map fun e=>e.1) (At l nd.dn)&&(decide (nd.dn.length<l.length)&&nd.ed.all fun e => σ[e.1]? == some e.2.1&&match eO[e.2.2]? with
  | some nt=>qA nt.dn (wN e.1 nd.dn)
  | none=>false)
def te(σ:List Nat)(l:List Oper):List Nat->List Nat->Option (List Nat)
 | dn,[]=>some dn
 | dn,oi::r=>match At l dn with
  | [i]=>if σ[i]? == some oi then te σ l (wN i dn) r else none
  | _=>none
def Kr(σ:List Nat)(l:List Oper)(dn post:List Nat):Bool:=match te σ l dn post with
 | some dn=>dn.length==l.length&&(mF l dn).isEmpty
 | none=>false
def ZN(σ:List Nat)(l:List Oper)(eO:List Nd)(post:List Nat):Option (List Nat)->Bool
 | none=>false
 | some dn=>decide (dn.length<=l.length)&&(match eO with
  | nd::r=>qA nd.dn dn&&((nd::r).dropLast.all (fun nd => !nd.ed.isEmpty)&&((nd::r).all (Kq σ l (nd::r))&&match (nd::r).getLast? with
   | some nl=>Kr σ l nl.dn post
   | none=>false))
  | []=>Kr σ l dn post)
def QV(ef:List Nat)(ops:List Oper)(N:Nat)(t:yf):Bool :=
 Cj ef t.sg t.row.length ops N&&(qA t.row (t.sg.take t.row.length)&&ZN t.sg (ck t.sg ops) t.eO t.post (te t.sg (ck t.sg ops) (List.range t.row.length) t.pre))
def alU:Op->Bool
 | .defer _=>true
 | _=>false
def codeOk(ef:List Nat)(sc:List (Nat×mB))(lt:List (Nat×yf))(N:Nat):Code->Bool
 | .region id ops d=>(ops.toList.all fun o => !alU o.op)&&(!d||(match JE lt id with
  | some t=>QV ef ops.toList N t
  | none=>ER ef ops.toList N&&(match JD sc id with
   | some s=>decide (s=QU ef ops.toList)
   | none=>true)))
 | .seq a b=>codeOk ef sc lt N a&&codeOk ef sc lt N b
 | .cond _ a b=>codeOk ef sc lt N a&&codeOk ef sc lt N b
 | .block _ b=>codeOk ef sc lt N b
 | .loop b=>codeOk ef sc lt N b
 | .scope b=>codeOk ef sc lt N b
 | .rangeFunc _ _ a b=>codeOk ef sc lt N a&&codeOk ef sc lt N b
 | _=>true
section
variable{C:Cx}{N:Nat}{B:Bs}
theorem Ks{l:List Oper}{K:Sx->Fm}(xX:o'.op=o.op)(ZO:o'.dst=o.dst)(hw:od B S l' o'=od B S l o\/od B S l o = .stuck)(hK:∀ S,(K S).P->(ch C N B l' Au S k).P)(h:(ch C N B l [o] S K).P):(ch C N B l' (o'::Au) S k).P:=by
 obtain⟨dst,op,ty,pos,aft,gd⟩:=o;obtain⟨yF,yG,Ku,pos',Kv,Kw⟩:=o';dsimp only at xX ZO;subst xX;subst ZO;have uk:∀ S,mE C N B S ⟨yF,yG,Ku,pos',Kv,Kw⟩=mE C N B S ⟨yF,yG,ty,pos,aft,gd⟩:=fun _=>rfl;have hst:∀ S,og C N B S ⟨yF,yG,Ku,pos',Kv,Kw⟩=og C N B S ⟨yF,yG,ty,pos,aft,gd⟩:=fun _=>rfl;have hsk:∀ S,pQ N B S ⟨yF,yG,Ku,pos',Kv,Kw⟩=pQ N B S ⟨yF,yG,ty,pos,aft,gd⟩:=fun _=>rfl;generalize QJ:(⟨yF,yG,ty,pos,aft,gd⟩:Oper)=o at *
 generalize axC:(⟨yF,yG,Ku,pos',Kv,Kw⟩:Oper)=o' at *
 have alW:∀ S f,mE C N B S o=some f->(f fun S'=>ch C N B l [] S' K).P->(f fun S'=>ch C N B l' Au S' k).P:=by
  intro S f hf hP;rw [<- QJ] at hf;unfold mE at hf;dsimp only at hf;split at hf
  . split at hf
    . split at hf
      . split at hf
        . cases hf;intro x hx;exact hK _ (hP x hx)
        . cases hf
      . cases hf
    . cases hf
  . split at hf
    . split at hf
      . split at hf
        . split at hf
          . cases hf;exact⟨fun c=>fun x hx=>hK _ (hP.1 c x hx),fun c=>fun x hx=>hK _ (hP.2 c x hx)⟩
          . cases hf
        . cases hf
      . cases hf
    . cases hf
  . split at hf
    . split at hf
      . split at hf
        . cases hf;exact⟨hP.1,hK _ hP.2.1,hK _ hP.2.2⟩
        . cases hf
      . cases hf
    . cases hf
  . cases hf
 have jk:∀ S n,(match mE C N B S o with
  | some f=>f fun S'=>ch C N B l [] S' K
  | none=>match og C N B S o with
   | some (S',[])=>ch C N B l [] S' K
   | some (S',vcs) => .vc vcs (ch C N B l [] S' K)
   | none => .ff (1000+([]:List Oper).length):Fm).P->(match mE C N B S o' with
  | some f=>f fun S'=>ch C N B l' Au S' k
  | none=>match og C N B S o' with
   | some (S',[])=>ch C N B l' Au S' k
   | some (S',vcs) => .vc vcs (ch C N B l' Au S' k)
   | none => .ff n:Fm).P:=by
  intro S n hP;rw [uk,hst]
  cases hs:mE C N B S o with
  | some f=>rw [hs] at hP; exact alW S f hs hP
  | none =>
   rw [hs] at hP;dsimp only at hP ⊢
   cases ht:og C N B S o with
   | none=>rw [ht] at hP; exact hP.elim
   | some r =>
    obtain⟨S',vcs⟩:=r;rw [ht] at hP
    cases vcs with
    | nil=>exact hK _ hP
    | cons c vcs=>exact⟨hP.1,hK _ hP.2⟩
 have jl:∀ S,(match pQ N B S o with
  | some S'=>ch C N B l [] S' K
  | none => .ff 3:Fm).P->(match pQ N B S o' with
  | some S'=>ch C N B l' Au S' k
  | none => .ff 3:Fm).P:=by
  intro S hP;rw [hsk]
  cases ht:pQ N B S o with
  | none=>rw [ht] at hP; exact hP.elim
  | some r=>rw [ht] at hP; exact hK _ hP
 unfold ch at h ⊢;dsimp only at h ⊢;rcases hw with hw|hw
 . rw [hw]
   cases Ky:od B S l o with
   | yes=>rw [Ky] at h; exact jk S _ h
   | no=>rw [Ky] at h; exact jl S h
   | stuck=>rw [Ky] at h; exact h.elim
   | ask d c b =>
    rw [Ky] at h;dsimp only at h ⊢
    cases h1:bP B S N d (.aG true) with
    | none=>rw [h1] at h; exact h.elim
    | some S1 =>
     rw [h1] at h
     cases h2:bP B S N d (.aG false) with
     | none=>rw [h2] at h; exact h.elim
     | some S2 =>
      rw [h2] at h
      cases b with
      | true=>exact⟨fun q=>jk S1 _ (h.1 q),fun q=>jl S2 (h.2 q)⟩
      | false=>exact⟨fun q=>jl S1 (h.1 q),fun q=>jk S2 _ (h.2 q)⟩
 . rw [hw] at h;exact h.elim
theorem axD{n:Nat}(h:fp σ n=true)(hi:i<n):∃ j,σ[i]? = some j/\j<n:=by
 unfold fp at h;simp only [au,dK,gP] at h;have h1:=h.2 i hi
 cases hs : σ[i]? with
 | none=>rw [hs] at h1; cases h1
 | some j =>
  rw [hs] at h1;simp only [au,aI] at h1;exact⟨j,rfl,h1.1⟩
theorem ZP{n:Nat}(h:fp σ n=true)(hj:j<n) : σ[gT σ j]? = some j:=by
 unfold fp at h;simp only [au,dK,gP] at h;have h1:=h.1.2 j hj;exact eq_of_beq h1
theorem Fz{l:List Oper}(h : σ[i]? = some j)(ho:l[j]? = some o):(ck σ l)[i]? = some (o5 σ o):=by
 unfold ck;rw [gY,h];simp only [dv];rw [ho]
theorem Kz{l:List Oper}(h:fp σ l.length=true)(S)(o):od B S (ck σ l) (o5 σ o)=od B S l o\/od B S l o = .stuck:=by
 obtain⟨dst,op,ty,pos,aft,gd⟩:=o
 cases gd with
 | none=>exact .inl rfl
 | some g =>
  obtain⟨j,b⟩:=g
  cases ho:l[j]? with
  | none =>
   right;unfold od;dsimp only;rw [ho];rfl
  | some oj =>
   left;have hj:=(List.getElem?_eq_some_iff.1 ho).1;have h2:=Fz (ZP h hj) ho;unfold od;dsimp only [o5];rw [h2,ho];rfl
theorem KA{σ:List Nat}{l:List Oper}{k:Sx->Fm}(h:fp σ l.length=true):∀ (is) (os) (r) (k') (S),is.length=os.length->(∀ (q:Nat) o,os[q]? = some o->∃ i:Nat,σ[i]? = is[q]? /\ (ck σ l)[i]? = some o)->(∀ S,(eP C N B l r S k).P->(k' S).P)->(eP C N B l (bo is r) S k).P->(ch C N B (ck σ l) os S k').P
 | [],[],r,k',S,_,_,hr,hP=>by
  unfold ch;exact hr S hP
 | i::is,o::os,r,k',S,hl,hq,hr,hP=>by
  obtain⟨q,h1,h2⟩:=hq 0 o rfl;have pS : σ[q]? = some i:=by simpa using h1
  unfold bo at hP;unfold eP at hP
  cases ho:l[i]? with
  | none=>rw [ho] at hP; exact hP.elim
  | some o2 =>
   rw [ho] at hP;have h3:=Fz pS ho;rw [h2] at h3;cases h3;have hP':(ch C N B l [o2] S fun S'=>eP C N B l (bo is r) S' k).P:=hP;exact Ks (l:=l) (o:=o2) rfl rfl (Kz h S o2) (fun S hS=>KA h is os r k' S (by simpa using hl) (fun q o uT=>by simpa using hq (q+1) o (by simpa using uT)) hr hS) hP'
 | [],_::_,_,_,_,hl,_,_,_=>by simp at hl
 | _::_,[],_,_,_,hl,_,_,_=>by simp at hl
theorem ZQ{l:List Oper}{k:Sx->Fm}{S:Sx}{f:Nat->mB}{g:Nat->Fm}:∀ {is:List Nat},(∀ i∈is,(eP C N B l (f i) S k).P->(g i).P)->(eP C N B l (Fy is f) S k).P->(JB is g).P
 | [],_,h=>by
  unfold Fy eP at h;exact h.elim
 | [i],hi,h=>hi i (.head _) h
 | i::j::is,hi,h=>by
  unfold Fy eP at h;exact⟨hi i (.head _) h.1,ZQ (is:=j::is) (fun q hq=>hi q (.tail _ hq)) h.2⟩
theorem ZR{σ:List Nat}{l:List Oper}{k:Sx->Fm}(h:fp σ l.length=true):∀ (fuel) (done) (S),(eP C N B l (As (ck σ l) σ fuel done) S k).P->(sU C N B (ck σ l) fuel done S k).P
 | 0,done,S,hP=>by
  unfold As at hP;unfold sU;split at hP
  . unfold eP at hP;rename_i hr;rw [hr];exact hP
  . unfold eP at hP;exact hP.elim
 | fuel+1,done,S,hP=>by
  unfold As at hP;unfold sU;dsimp only at hP ⊢;have jb:∀ i,(eP C N B l (match (ck σ l)[i]? with
   | some _=>match σ[i]? with
    | some j => .op j (As (ck σ l) σ fuel (i::done))
    | none => .bad
   | none => .bad) S k).P->(match (ck σ l)[i]? with
   | some o=>ch C N B (ck σ l) [o] S fun S'=>sU C N B (ck σ l) fuel (i::done) S' k
   | none => .ff 19:Fm).P:=by
   intro i hi
   cases ho:(ck σ l)[i]? with
   | none=>rw [ho] at hi; unfold eP at hi; exact hi.elim
   | some o =>
    rw [ho] at hi;dsimp only at hi ⊢
    cases hs : σ[i]? with
    | none=>rw [hs] at hi; unfold eP at hi; exact hi.elim
    | some j =>
     rw [hs] at hi;dsimp only at hi;unfold eP at hi
     cases pX:l[j]? with
     | none=>rw [pX] at hi; exact hi.elim
     | some o2 =>
      rw [pX] at hi;have h3:=Fz hs pX;rw [ho] at h3;cases h3;have mn:(ch C N B l [o2] S fun S'=>eP C N B l (As (ck σ l) σ fuel (i::done)) S' k).P:=hi;refine Ks (l:=l) (o:=o2) rfl rfl (Kz h S o2) (fun S hS => ?_) mn;unfold ch;exact ZR h fuel (i::done) S hS
  split at hP
  . rename_i hr;rw [hr];unfold eP at hP;exact hP
  . rename_i i hr;rw [hr];exact jb i hP
  . rename_i is h1 h2;generalize mF (ck σ l) done=is at *
    cases is with
    | nil=>exact absurd rfl h1
    | cons i is =>
     cases is with
     | nil=>exact absurd rfl (h2 i)
     | cons j is =>
      dsimp only at hP ⊢
      cases hf:ym (ck σ l) (i::j::is) with
      | some q=>rw [hf] at hP; exact jb q hP
      | none=>rw [hf] at hP; exact ZQ (fun q _ hq=>jb q hq) hP
theorem alY(h:fp (yk (cb C) ops) ops.length=true)(hP:(eP C N B ops (QU (cb C) ops) S k).P):(JC C N B (laid (cb C) ops) S k).P:=by
 unfold QU at hP;dsimp only at hP;unfold JC X8;unfold laid at hP ⊢;generalize J6:rW (cb C) (ck (yk (cb C) ops) ops)=np at *
 generalize yk (cb C) ops = σ at *
 have hlen : σ.length=ops.length:=by
  unfold fp at h;simp only [au] at h;exact eq_of_beq h.1.1
 have cO:(ck σ ops).length = σ.length:=by unfold ck; simp
 refine KA h (σ.take np) _ _ _ S (by rw [c6,c6,cO]) (fun q o hq=>⟨q,?_,?_⟩) (fun S' qG => ?_) hP
 . exact ZS
 . rw [eC] at hq;split at hq
   . exact hq
   . cases hq
 . cases hc:Ck (ck σ ops) np with
   | true =>
    rw [hc] at qG;dsimp only at qG ⊢;refine KA h (σ.drop np) _ _ _ S' (by rw [List.length_drop,List.length_drop,cO]) (fun q o hq=>⟨np+q,?_,?_⟩) (fun S2 J0 => ?_) qG
    . rw [lM]
    . rw [lM] at hq;exact hq
    . unfold eP at J0;exact J0
   | false =>
    rw [hc] at qG;dsimp only at qG ⊢;exact ZR h _ _ _ qG
end
inductive Wf (fd:Nat->Prop) (ef:List Nat) (sc:List (Nat×mB)) (lt:List (Nat×yf)) (N:Nat):Bs->List Kt->Prop
 | nil (B):Wf fd ef sc lt N B []
 | code (B c K) (hc:codeOk ef sc lt N c=true) (h:Wf fd ef sc lt N B K):Wf fd ef sc lt N B (.code c::K)
 | block (B id K) (h:Wf fd ef sc lt N B K):Wf fd ef sc lt N B (.block id::K)
 | back (Bo K' f K) (hF:∀ d,fd d->(ak Bo.t d).isSome=true) (hT:∀ d x,ak Bo.t d=some x->ak K'.t d=none) (hE:∀ l e,ak Bo.e l=some e->ak K'.e l=none) (h:Wf fd ef sc lt N Bo K):Wf fd ef sc lt N (join K' Bo) (.back Bo K' f::K)
 | again (B b K) (hc:codeOk ef sc lt N b=true) (h:Wf fd ef sc lt N B K):Wf fd ef sc lt N B (.again b::K)
 | wA (B f K):Wf fd ef sc lt N B (.wA f::K)
 | dW (B f x l K):Wf fd ef sc lt N B (.dW f x l::K)
section
variable{w w' w0:World}{ρ ρ' ρ2:Nat->Option Rl}{base n:Nat}{ro ro':Nat->Prop}{S0:Pm}{Φ : Pm->Prop}{N:Nat}{B:Bs}{S:Sx}{a:Act}{F:Fx}{P:Program}
theorem KB{p:Nat->Bool}:∀ {l:List AV},(∀ (j:Nat) x,l[j]? = some x->AV.under p x=true)->AV.mC p l=true
 | [],_=>rfl
 | x::l,h=>by
  unfold AV.mC;rw [h 0 x rfl,KB fun j y hy=>h (j+1) y zF];rfl
theorem ah.ZT{x:AV}(h:ah w ρ base ro x v)(hn:∀ l,n<=l -> ρ l=none):AV.under (cP n) x=true:=by
 have aj:∀ l r,ρ l=some r->l<n:=fun l r h=>by
  rcases cw l n with h1|h1
  . exact h1
  . rw [hn l h1] at h; cases h
 have hl:∀ {l:List AV} {vs:List Value},l.length=vs.length->(∀ (j:Nat) x v,l[j]? = some x->vs[j]? = some v->AV.under (cP n) x=true)->AV.mC (cP n) l=true:=by
  intro l vs hlen h;refine KB fun j x hx => ?_;have hj:=(cM.1 hx).1;exact h j x _ hx (bp (by rw [<- hlen]; exact hj))
 induction h with
 | un=>rfl
 | fJ=>rfl
 | int=>rfl
 | lit=>rfl
 | bool=>rfl
 | aG=>rfl
 | str=>rfl
 | nil=>rfl
 | sl=>rfl
 | wide=>rfl
 | bg cells off b o cs hr EC hlen hc h ih=>exact hl hlen ih
 | ptr l off b h=>simpa [AV.under,cP] using aj _ _ h
 | fw l off n b h=>simpa [AV.under,cP] using aj _ _ h
 | mp l b h=>simpa [AV.under,cP] using aj _ _ h
 | bq l b h=>simpa [AV.under,cP] using aj _ _ h
 | it l l2 b h=>simpa [AV.under,cP] using aj _ _ h
 | own l A n' c h=>simpa [AV.under,cP] using aj _ _ h
 | cY t l k off A n' c b h hA h0 KC=>simpa [AV.under,cP] using aj _ _ h
 | cE t l a b A n' c h bm=>simpa [AV.under,cP] using aj _ _ h
 | agg l vs hlen h ih=>exact hl hlen ih
 | aU l vs hlen h ih=>exact hl hlen ih
 | fn f dw vs hlen h ih=>exact hl hlen ih
theorem KD:∀ (l) (n),n<=ni n l
 | [],n=>az _
 | k::l,n=>by
  unfold ni;split
  . exact KD l n
  . have:=KD l (k+1); omega
theorem KE{md aD:List Nat}{n d:Nat}{x:AV}:∀ {l:List (Nat×AV)},ak (oc md aD n l) d=some x->(∃ y,ak l d=some y/\(x=y\/x = .un))/\AV.under (cP n) x=true
 | (k,y)::l,h=>by
  unfold oc at h;split at h
  . rename_i hm;obtain⟨⟨z,h1,h2⟩,h3⟩:=KE h;refine⟨?_,h3⟩;rw [cu];split
    . exact absurd h (by
       rename_i e;subst e;have:∀ l:List (Nat×AV),ak (oc md aD n l) k=none:=by
        intro l
        induction l with
        | nil=>rfl
        | cons p l ih =>
         obtain⟨k',y'⟩:=p;unfold oc;split
         . exact ih
         . rename_i pJ;rw [cu,ar (by rintro rfl; exact pJ hm)];exact ih
       rw [this l]
       simp)
    . exact⟨z,h1,h2⟩
  . rw [cu] at h;rw [cu];split at h
    . rename_i e;rw [aw e];injection h with h;subst h;split
      . exact⟨⟨y,rfl,.inr rfl⟩,rfl⟩
      . rename_i hc;simp only [gz,zv,vI,jY] at hc;exact⟨⟨y,rfl,.inl rfl⟩,by simpa using hc.2⟩
    . rename_i e;rw [ar e];exact KE h
 | [],h=>by cases h
theorem alZ{l:List (Nat×AV)}(h:ak l d=none):ak (oc md aD n l) d=none:=by
 cases hk:ak (oc md aD n l) d with
 | none=>rfl
 | some x =>
  obtain⟨⟨y,h1,_⟩,_⟩:=KE hk;rw [h] at h1;cases h1
theorem QW{aD:List Nat}{n:Nat}:∀ {l:List AV} {j:Nat} {x:AV},(yi aD n l)[j]? = some x->∃ y,l[j]? = some y/\(x=y\/x = .un)/\AV.under (cP n) x=true
 | [],j,x,h=>by simp [yi] at h
 | y::l,0,x,h=>by
  simp only [yi,oH,bI] at h;subst h;refine⟨y,rfl,?_⟩;split
  . exact⟨.inr rfl,rfl⟩
  . rename_i hc;simp only [gz,zv,vI,jY] at hc;exact⟨.inl rfl,by simpa using hc.2⟩
 | y::l,j+1,x,h=>by
  obtain⟨z,h1,h2⟩:=QW (l:=l) (j:=j) (x:=x) (by simpa [yi] using h);exact⟨z,by simpa using h1,h2⟩
theorem ZU{aD:List Nat}{n:Nat}:∀ (l),(yi aD n l).length=l.length
 | []=>rfl
 | x::l=>by simp [yi,ZU l]
theorem FA{aD:List Nat}{n k:Nat}:∀ (l),ak (qz aD n l) k=if bF k aD||decide (n<=k) then none else (ak l k).map (Ps aD n)
 | []=>by simp [qz,ak]
 | (k',e')::l=>by
  unfold qz;by_cases e:k'=k
  . subst e;split
    . rename_i hc;rw [FA l,aw hc]
    . rw [cu,aw rfl,cu,aw rfl];rfl
  . rw [cu,ar e];split
    . exact FA l
    . rw [cu,ar e]; exact FA l
structure Kept (n:Nat) (B2:Bs):Prop where
 t:∀ d x,ak B2.t d=some x->AV.under (cP n) x=true
 e:∀ l e,ak B2.e l=some e->l<n/\En.under (cP n) e=true
theorem KF(H:bh w0 S0 N B S a w ρ ro)(hn:S.n<=n)(B2)(CB:B2=join ⟨oc md aD n S.t,qz aD n S.e⟩ B) :
 Kept n B2/\(∀ d x,ak B2.t d=some x->∃ u,a.tmps[d]? = some u/\ah w ρ w0.heap.size ro x u)/\(∀ l e,ak B2.e l=some e->c7 w ρ w0.heap.size ro l e)/\(∀ d x,ak B.t d=some x->ak (oc md aD n S.t) d=none)/\∀ l e,ak B.e l=some e->ak (qz aD n S.e) l=none:=by
 subst CB;have cK:∀ l,n<=l -> ρ l=none:=fun l hl=>H.fresh l (e8 hn hl);have hT:∀ d x,ak (join ⟨oc md aD n S.t,qz aD n S.e⟩ B).t d=some x->(∃ u,a.tmps[d]? = some u/\ah w ρ w0.heap.size ro x u)/\AV.under (cP n) x=true:=by
  intro d x hx;unfold join at hx;dsimp only at hx;rw [qI] at hx;split at hx
  . rename_i y hy;cases hx;obtain⟨⟨z,h1,h2⟩,h3⟩:=KE hy;obtain⟨u,h4,h5⟩:=H.tm d z (by unfold dH; rw [h1]);refine⟨⟨u,h4,?_⟩,h3⟩;rcases h2 with rfl|rfl
    . exact h5
    . exact .un _
  . obtain⟨u,h4,h5⟩:=H.tm d x (by unfold dH; rw [H.jL d x hx]; exact hx);exact⟨⟨u,h4,h5⟩,h5.ZT cK⟩
 have hE:∀ l e,ak (join ⟨oc md aD n S.t,qz aD n S.e⟩ B).e l=some e->c7 w ρ w0.heap.size ro l e/\l<n/\En.under (cP n) e=true:=by
  have lX:∀ ml r,ρ ml=some r->ml<n:=fun ml r hr=>by
   rcases cw ml n with h|h
   . exact h
   . rw [cK ml h] at hr; cases hr
  intro l e he;have aj:∀ e,c7 w ρ w0.heap.size ro l e->l<n:=fun e he=>by
   obtain⟨r,hr⟩:=he.none;rcases cw l n with h|h
   . exact h
   . rw [cK l h] at hr; cases hr
  unfold join at he;dsimp only at he;rw [qI] at he;split at he
  . rename_i y hy;cases he;rw [FA] at hy;split at hy
    . cases hy
    . cases hl:ak S.e l with
      | none=>rw [hl] at hy; cases hy
      | some z =>
       rw [hl] at hy;simp only [dv,bI] at hy;subst hy;have h1:=H.en l z (by unfold bc; rw [hl])
       cases z with
       | row fr t T m=>exact⟨h1,aj _ h1,rfl⟩
       | map fr ag c t T m=>exact⟨h1,aj _ h1,rfl⟩
       | fh k=>exact⟨h1,aj _ h1,rfl⟩
       | dead=>exact⟨h1,aj _ h1,rfl⟩
       | bq ml c key=>exact⟨h1.none,aj _ h1,rfl⟩
       | iter ml c seen left =>
        unfold Ps;dsimp only;split
        . exact⟨h1.none,aj _ h1,rfl⟩
        . rename_i hc;simp only [gz,zv,aI] at hc;exact⟨h1,aj _ h1,by simp only [En.under,cP,aI]; omega⟩
       | box T cs =>
        obtain⟨b,us,k1,k4,k5⟩:=h1;refine⟨⟨b,us,k1,k4,by rw [ZU]; exact k5.1,fun j x v hx hv => ?_⟩,lX _ _ k1,KB fun j x hx=>(QW hx).elim fun y q=>q.2.2⟩;obtain⟨y,q1,q2,_⟩:=QW hx;rcases q2 with rfl|rfl
        . exact k5.2 j _ v q1 hv
        . exact .un _
  . have h1:=H.en l e (by unfold bc; rw [H.jM l e he]; exact he);refine⟨h1,aj e h1,?_⟩
    cases e with
    | box T cs =>
     obtain⟨b,us,k1,k4,k5⟩:=h1;refine KB fun j x hx => ?_;obtain⟨v,hv,hr⟩:=k5.get hx;exact hr.ZT cK
    | row fr t T m=>rfl
    | map fr ag c t T m=>rfl
    | fh k=>rfl
    | dead=>rfl
    | iter ml c seen left =>
     obtain⟨b,b2,es,clock,since,stamps,c0,k1,k2,k3⟩:=h1;simpa [En.under,cP] using lX _ _ k2
    | bq ml c key =>
     obtain⟨b,es,clock,s,e,k1,k2,k3⟩:=h1;simpa [En.under,cP] using lX _ _ k2
 refine⟨⟨fun d x hx=>(hT d x hx).2,fun l e he=>(hE l e he).2⟩,fun d x hx=>(hT d x hx).1,fun l e he=>(hE l e he).1,fun d x hx=>alZ (H.jL d x hx),fun l e he => ?_⟩;rw [FA,H.jM l e he];split<;>rfl
theorem bh.ZV{K':Bs}(qM:∀ d v,S0.fm d=some v->(ak B.t d).isSome=true)(hT:∀ d x,ak B.t d=some x->ak K'.t d=none)(hE:∀ l e,ak B.e l=some e->ak K'.e l=none)(H:bh w0 S0 N (join K' B) S a w ρ ro):bh w0 S0 N B (leave K' S) a w ρ ro:=by
 have hlT:∀ d,dH B (leave K' S) d=dH (join K' B) S d:=by
  intro d;unfold dH leave join;dsimp only;rw [qI,qI];cases ak S.t d<;>cases ak K'.t d<;>rfl
 have hlE:∀ d,bc B (leave K' S) d=bc (join K' B) S d:=by
  intro d;unfold bc leave join;dsimp only;rw [qI,qI];cases ak S.e d<;>cases ak K'.e d<;>rfl
 refine⟨H.from_,H.size,H.defers,H.gn,fun d x hx=>H.tm d x (by rw [<- hlT]; exact hx),fun l e he=>H.en l e (by rw [<- hlE]; exact he),H.apart,H.fresh,H.own,H.eN,H.dC,fun d x hx => ?_,fun l e he => ?_,fun d v h=>⟨(H.fm d v h).1,qM d v h⟩⟩
 . unfold leave;dsimp only;have h1:ak S.t d=none:=H.jL d x (by unfold join; dsimp only; rw [qI,hT d x hx]; exact hx);rw [qI,h1];exact hT d x hx
 . unfold leave;dsimp only;have h1:ak S.e l=none:=H.jM l e (by unfold join; dsimp only; rw [qI,hE l e he]; exact he);rw [qI,h1];exact hE l e he
theorem ZW{K':Bs}(qM:∀ S0,Φ S0->∀ d v,S0.fm d=some v->(ak B.t d).isSome=true)(hT:∀ d x,ak B.t d=some x->ak K'.t d=none)(hE:∀ l e,ak B.e l=some e->ak K'.e l=none)(H:aP w0 Φ N (join K' B) S a w):aP w0 Φ N B (leave K' S) a w:=by
 obtain⟨S0,hS,ρ,ro,H⟩:=H;exact⟨S0,hS,ρ,ro,H.ZV (qM S0 hS) hT hE⟩
def KQ(F:Fx)(w0:World)(Φ : Pm->Prop)(n:Nat)(B:Bs)(K:List Kt):Exit->Act->World->Prop
 | .normal,a,w=>∃ f S,f<=n/\aP w0 Φ F.N B S a w/\(cont F f B S K).P
 | .exit id,a,w=>∃ f S,f<=n/\aP w0 Φ F.N B S a w/\(exitTo F f id B S K).P
 | .ret,a,w=>∃ f S,f<=n/\aP w0 Φ F.N B S a w/\(lB F f B S K).P
 | _,_,_=>False
theorem KQ.more{K:List Kt}{e:Exit}(h:KQ F w0 Φ n B K e a w)(hm:n<=m):KQ F w0 Φ m B K e a w:=by
 cases e with
 | normal=>obtain⟨f,S,h1,h2⟩:=h; exact⟨f,S,e8 h1 hm,h2⟩
 | exit id=>obtain⟨f,S,h1,h2⟩:=h; exact⟨f,S,e8 h1 hm,h2⟩
 | ret=>obtain⟨f,S,h1,h2⟩:=h; exact⟨f,S,e8 h1 hm,h2⟩
 | goto l=>exact h.elim
 | panic c=>exact h.elim
 | outgrown=>exact h.elim
theorem KG(h:(nj B S ov oe).P):∃ ta tb,z0 B S ov=some ta/\mD none B S oe=some tb/\∀ c∈ta++tb,c ():=by
 unfold nj at h;split at h
 . rename_i ta tb h1 h2;exact⟨ta,tb,h1,h2,Fg h⟩
 . exact h.elim
theorem bh.bare(H:bh w0 S0 N B S a w ρ ro):bh w0 S0 N B ⟨[],[],S.n⟩ a w ρ ro:=by
 refine⟨H.from_,H.size,H.defers,H.gn,fun d x h=>H.tm d x ?_,fun l e h=>H.en l e ?_,H.apart,H.fresh,H.own,H.eN,H.dC,fun _ _ _=>rfl,fun _ _ _=>rfl,H.fm⟩
 . have h':ak B.t d=some x:=h;unfold dH;rw [H.jL d x h'];exact h'
 . have h':ak B.e l=some e:=h;unfold bc;rw [H.jM l e h'];exact h'
end
section
variable{α β:Type}
def cI(s:Sem α):Prop:=∀ P w u w',s.run P w = .ok u w'->w'=w
def lC(s:Sem α):Prop:=∀ P w u w',s.run P w ≠ .ok u w'
theorem cI.pure(a):cI (Pure.pure a:Sem α):=fun P w u w' h=>by
 rw [bU] at h;injection h with h1 h2;exact h2.symm
theorem cI.bind{s:Sem α}{f : α->Sem β}(hs:cI s)(hf:∀ a,cI (f a)):cI (s >>= f):=fun P w u w' h=>by
 rw [bt] at h
 cases hr:s.run P w with
 | ok a w1 =>
  rw [hr] at h;have:=hs P w a w1 hr;subst this;exact hf a P _ u w' h
 | halt x w1=>rw [hr] at h; cases h
theorem lC.o9{s:Sem α}(h:lC s):cI s:=fun P w u w' hr=>absurd hr (h P w u w')
theorem lC.bind{s:Sem α}{f : α->Sem β}(hf:∀ a,lC (f a)):lC (s >>= f):=fun P w u w' h=>by
 rw [bt] at h
 cases hr:s.run P w with
 | ok a w1=>rw [hr] at h; exact hf a P _ u w' h
 | halt x w1=>rw [hr] at h; cases h
theorem lC.halt(x):lC (.halt x:Sem α):=fun P w u w' h=>by cases h
theorem QX(v):lC (goPanic v:Sem α):=lC.halt _
theorem wO(s):lC (stuck s:Sem α):=lC.halt _
theorem FB(u):lC (unsupported u:Sem α):=lC.halt _
theorem cI.program:cI program:=fun P w u w' h=>by
 have h2:Result.ok P w=Result.ok u w':=h;injection h2 with _ h3;exact h3.symm
theorem ZX(e):lC (runtimePanic e:Sem α):=by
 unfold runtimePanic;refine lC.bind fun p => ?_;dsimp only;cases e<;>first
  | exact QX _
  | (refine lC.bind fun r => ?_; first|exact QX _|(refine lC.bind fun r => ?_; exact QX _))
theorem al2(k)(x y)(c):lC (boundsPanic k x y c:Sem α):=by
 unfold boundsPanic;dsimp only;split
 . exact lC.bind fun _=>ZX _
 . exact lC.bind fun _=>ZX _
theorem al3(t):cI (typeInfo t):=by
 unfold typeInfo;exact ZY
theorem CC(t):cI (underlying t):=by
 unfold underlying;exact ZY
theorem QY(t):cI (sizeOf t):=by
 unfold sizeOf;exact (al3 t).bind fun _=>cI.pure _
theorem al4(t):cI (isAgg t):=by
 unfold isAgg;refine (CC t).bind fun d => ?_;split<;>exact cI.pure _
theorem ZZ(a):cI (load a):=fun P w u w' h=>by
 unfold load at h;simp only [Sem.run] at h;split at h
 . injection h with _ h2; exact h2.symm
 . split at h
   . injection h with _ h2; exact h2.symm
   . cases h
theorem Z0(a):∀ (n i) (acc),cI (loadCellsFrom a i n acc)
 | 0,_,_=>cI.pure _
 | n+1,i,acc=>(ZZ _).bind fun v=>Z0 a n (i+1) _
theorem al5(t)(a):cI (loadVar t a):=by
 unfold loadVar;refine (al4 t).bind fun b => ?_;split
 . refine (QY t).bind fun n => ?_;exact (Z0 a n 0 _).bind fun _=>cI.pure _
 . exact ZZ a
theorem QZ(v):cI (Instr.sureAddr v):=by
 unfold Instr.sureAddr;exact Q0
theorem al6(t)(v):cI (Instr.loadAt t v):=(QZ v).bind fun a=>al5 t a
theorem Z1(r):cI (shape r):=fun P w u w' h=>by
 have h2:Result.ok (w.shape? r) w=Result.ok u w':=h;injection h2 with _ h3;exact h3.symm
theorem al7(v):cI (asIntOf v):=by
 unfold asIntOf;split
 . exact cI.pure _
 . exact (FB _).o9
 . exact (wO _).o9
theorem al8(t)(x i):cI (Instr.indexAt t x i):=by
 unfold Instr.indexAt;refine (al7 i).bind fun p => ?_;obtain ⟨k, n⟩ := p;dsimp only;refine (CC t).bind fun d => ?_;have hb : ∀ (len : Nat) (y : Int), cI (boundsPanic k y len .index : Sem Value) := fun _ _ => (al2 _ _ _ _).o9;have hc : ∀ (a : Addr) (len elem : Nat) (q : Bool), cI (if 0 <= n /\ n < len then do pure (Value.pointer (some (a.add (n.toNat * (<- sizeOf elem))))) else if q = true then unsupported (.noEntry "op/indexAddr.an index out of range at an array of length 0 or 1 (ledger 616)") else boundsPanic k n len .index : Sem Value) := by
  intro a len elem q;split
  . exact (QY _).bind fun _=>cI.pure _
  . split
    . exact (FB _).o9
    . exact hb _ _
 split
 . refine (QZ _).bind fun _=>(cI.pure _).bind fun q=>(CC _).bind fun d => ?_;obtain⟨base,len,elem⟩:=q
   exact Q1
 . refine (cI.pure _).bind fun q=>(CC _).bind fun d => ?_;obtain⟨base,len,elem⟩:=q
   exact Q1
 . refine ((wO _).o9).bind fun q=>(CC _).bind fun d => ?_;obtain⟨base,len,elem⟩:=q
   exact Q1
theorem al9(op)(x):cI (Op.unary op x):=by
 unfold Op.unary;split
 . exact cI.pure _
 . unfold Op.intBits;exact cI.pure _
 . exact cI.pure _
 . exact cI.pure _
 . exact cI.pure _
 . exact (FB _).o9
 . exact (FB _).o9
 . exact (wO _).o9
theorem ama(v)(i):cI (Instr.extract v i):=by
 unfold Instr.extract;split
 . exact Q0
 . exact (wO _).o9
theorem amb(r):cI (getObj r):=fun P w u w' h=>by
 unfold getObj at h;simp only [Sem.run] at h;split at h
 . cases h
 . injection h with _ h2; exact h2.symm
 . cases h
theorem amc(a):cI (noView a):=by
 unfold noView;refine cI.bind ?_ fun v => ?_
 . unfold viewAt;refine (Z1 _).bind fun q => ?_;split
   . exact cI.pure _
   . refine (amb _).bind fun o => ?_;split<;>exact cI.pure _
 . split
   . exact (FB _).o9
   . exact cI.pure _
theorem Z2(a):cI (byteOf a):=by
 unfold byteOf;have ht:∀ (p:Program),cI (do
  noView a
  let some (e, _) <- shape a.block | stuck "byteOf: no such block"
  let s:=p.cellsOf e
  if s=0 then return 0
  let some b := byteOfCell p p.depth e (a.off % s) | stuck "byteOf: no such cell"
  pure (a.off / s*p.bytesOf e+b)):=fun p=>by
  refine (amc a).bind fun _=>(Z1 _).bind fun q => ?_;split
  . dsimp only;split
    . exact cI.pure _
    . exact Q0
  . exact (wO _).o9
 split
 . exact cI.pure _
 . exact cI.program.bind ht
theorem amd(a)(f):cI (fieldPlace a f):=by
 unfold fieldPlace partAt;refine (QY _).bind fun n => ?_;split
 . exact (Z2 _).bind fun _=>(Z2 _).bind fun _=>cI.pure _
 . exact cI.pure _
theorem ame(t)(x)(i):cI (Instr.fieldAt t x i):=by
 unfold Instr.fieldAt;refine (CC t).bind fun d => ?_;split
 . split
   . exact (QZ _).bind fun a=>(amd _ _).bind fun _=>cI.pure _
   . exact (wO _).o9
 . exact (wO _).o9
theorem Z3(h:z9 o.op=true)(r){P:Program}{n:Next}(hr:(execOp r o).run P w = .ok n w'):w'=w/\∃ v,n = .value v:=by
 have hv:∀ {s:Sem Value},cI s->(Sem.run P (do pure (Next.value (<- s))) w = .ok n w')->w'=w/\∃ v,n = .value v:=by
  intro s hs h;rw [bt] at h
  cases hr:s.run P w with
  | ok a w1 =>
   rw [hr] at h;have h1:=hs P w a w1 hr;subst h1;have h2:Result.ok (Next.value a) w1=Result.ok n w':=h;injection h2 with h3 h4;exact⟨h4.symm,a,h3.symm⟩
  | halt x w1=>rw [hr] at h; cases h
 unfold execOp at hr;cases xX:o.op<;>rw [xX] at h hr<;>simp only [z9,dS] at h
 . exact Z4
 . exact Z4
 . exact hv (al6 _ _) hr
 . exact hv (al9 _ _) hr
 . exact hv (ame _ _ _) hr
 . exact hv (al8 _ _ _) hr
 . exact hv (ama _ _) hr
end
section
variable{P:Program}{ops:Array Oper}{Q:Exit->Act->World->Prop}{md:Region.Mode}
def YieldsAt(P:Program)(ops:Array Oper)(o:Oper)(v:Value)(a:Act)(w:World):Prop :=
 Region.wanted o (yielded ops a.tmps)=true/\(execOp a.eval o).run P w = .ok (.value v) w\/Region.wanted o (yielded ops a.tmps)=false/\v=undef
theorem YieldsAt.wpOp(hi:ops[i]? = some o)(hy:YieldsAt P ops o v a w){K:Act->World->Prop}(h:K (a.put o.dst v) w):wpOpIn Fence.wide 0 P ops Q i K a w:=by
 rcases hy with ⟨hw,hv⟩|⟨hw,rfl⟩
 . exact PI hi hw (JP (by rw [hv]; exact h))
 . exact Yc hi hw h
theorem YieldsAt.of_same(hy:YieldsAt P ops o v a w)(he:execOp a'.eval o=execOp a.eval o)(hw:Region.wanted o (yielded ops a'.tmps)=Region.wanted o (yielded ops a.tmps)):YieldsAt P ops o v a' w:=by
 unfold YieldsAt at *
 rw [he,hw];exact hy
theorem amf(hj:ops[j]? = some oj)(hst:z9 oj.op=true)(ja:oi.apart ops oj=true)(hsi:∀ cs b,oi.op ≠ .select cs b)(hsj:∀ cs b,oj.op ≠ .select cs b)(hQ:∀ c a w,¬ Q (.panic c) a w){K:Act->World->Prop}(hy:YieldsAt P ops oi v a w)(h:wpOpIn Fence.wide 0 P ops Q j K (a.put oi.dst v) w) :
 wpOpIn Fence.wide 0 P ops Q j (fun a' w'=>YieldsAt P ops oi v a' w'/\K (a'.put oi.dst v) w') a w:=by
 obtain⟨h1,h2,h3⟩:=Oper.apart_spec ja;have jA:∀ (a:Act),YieldsAt P ops oi v a w->∀ u,YieldsAt P ops oi v (a.put oj.dst u) w:=fun a hy u =>
  hy.of_same (execOp_put oi hsi a oj.dst u h3) (wanted_put oi a oj.dst u h3)
 unfold wpOpIn at *
 simp only [hj] at *
 rw [wanted_put oj a oi.dst v h1] at h;split
 . rename_i hw;simp only [hw,eH] at h;refine JP ?_;have h:=PH h;rw [execOp_put oj hsj a oi.dst v h1] at h
   cases hr:(execOp a.eval oj).run P w with
   | ok n w' =>
    obtain⟨rfl,u,rfl⟩:=Z3 hst _ hr;rw [hr] at h;simp only [Oper.uponIn] at h ⊢;exact⟨jA a hy u,by rw [<- Act.put_comm a v u h2]; exact h⟩
   | halt x w' =>
    rw [hr] at h;cases x<;>simp only [Oper.uponIn] at h ⊢
    case panic u=>exact (hQ _ _ _ h).elim
 . rename_i hw;simp only [hw] at h;exact⟨fun _ _=>trivial,jA a hy _,by rw [<- Act.put_comm a v undef h2]; exact h.2⟩
theorem ami{K:Act->World->Prop}(hi:ops[i]? = some oi)(hst:z9 oi.op=true)(hQ:∀ c a w,¬ Q (.panic c) a w)(h:wpOpIn Fence.wide 0 P ops Q i K a w):∃ v,YieldsAt P ops oi v a w/\K (a.put oi.dst v) w:=by
 unfold wpOpIn at h;simp only [hi] at h;split at h
 . rename_i hw;have h:=PH h
   cases hr:(execOp a.eval oi).run P w with
   | ok n w' =>
    obtain⟨rfl,u,rfl⟩:=Z3 hst _ hr;rw [hr] at h;exact⟨u,.inl ⟨hw,hr⟩,h⟩
   | halt x w' =>
    rw [hr] at h;cases x<;>simp only [Oper.uponIn] at h
    case panic u=>exact (hQ _ _ _ h).elim
 . rename_i hw;exact⟨undef,.inr ⟨by simpa using hw,rfl⟩,h.2⟩
theorem amj(hi:ops[i]? = some oi)(gr:∀ (j:Nat) (o) cs b,ops[j]? = some o->o.op ≠ .select cs b)(hQ:∀ c a w,¬ Q (.panic c) a w) :
 ∀ (fuel) (listed) (a) (w),qo md ops listed ->
  (∀ (j) oj,ops[j]? = some oj->j≠i->listed.getD j true=false->waits md ops ops.size j i=false->oi.apart ops oj=true/\z9 oj.op=true) ->
  i∈Region.ready md ops listed->YieldsAt P ops oi v a w ->
  wpAnyIn Fence.wide 0 P md ops Q fuel (listed.setIfInBounds i true) (a.put oi.dst v) w->wpAnyIn Fence.wide 0 P md ops Q (fuel+1) listed a w:=by
 intro fuel
 induction fuel with
 | zero =>
  intro listed a w _ _ hr hy H;refine⟨fun h=>(by rw [h] at hr; cases hr),fun j hj => ?_⟩;by_cases qL:j=i
  . subst qL; exact hy.wpOp hi H
  . have:=ready_mono hj qL;rw [H.1] at this;cases this
 | succ fuel ih =>
  intro listed a w cH Ah hr hy H;refine⟨fun h=>(by rw [h] at hr; cases hr),fun j hj => ?_⟩;by_cases qL:j=i
  . subst qL; exact hy.wpOp hi H
  . have h1:=H.2 j (ready_mono hj qL);obtain⟨Z5,oj,eo,cr⟩:=mem_ready.1 hj;have FC:waits md ops ops.size j i=false:=by
     cases hww:waits md ops ops.size j i with
     | false=>rfl
     | true =>
      have h1:=NM cH _ j i oj eo cr hww;have h0:=(mem_ready.1 hr).1;rcases cw i listed.size with h'|h'
      . simp [h'] at h0 h1; rw [h0] at h1; cases h1
      . simp [DC h'] at h1
    obtain⟨ja,hst⟩:=Ah j oj eo qL Z5 FC;have h2:=amf eo hst ja (fun cs b=>gr i oi cs b hi) (fun cs b=>gr j oj cs b eo) hQ hy h1;refine wpOpIn_mono (fun a' w' h3 => ?_) h2;refine ih (listed.setIfInBounds j true) a' w' (cH.BA hj) (fun k ok hk CD qK jl => ?_) (ready_mono hr (Ne.symm qL)) h3.1 ?_
    . refine Ah k ok hk CD ?_ jl;by_cases qn:j=k
      . subst qn; exact Z5
      . rw [getD_set_ne true qn] at qK; exact qK
    . rw [Array.setIfInBounds_comm _ _ qL];exact h3.2
end
end Go.Proofs.YtlpikgchnjajmaaGreat
