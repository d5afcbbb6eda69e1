/-
  The abstract run: what is as is wanted, in memory; the states of a loop.
-/
import Derived.Test.YtamjbkaclhgffaaGreatSi12
set_option linter.all false
namespace Go.Proofs.YtamjbkaclhgffaaGreat
open Go.RowKit
variable{a a':Act}{B2:Bs}{ov:List (Nat×AV)}{oe:List (Nat×En)}{aG md σ:List Nat}{AJ l' ops:List Oper}{ta tb:List VC}{d i j m:Nat}{o o' oi oj:Oper}{S:Sx}{v:Value}{w w':World}
section
variable{w w' w0:World}{ρ ρ' ρ2:Nat->Option Rl}{base:Nat}{p:Nat->Bool}{fz:Option (List Nat)}{ro ro' ro2:Nat->Prop}{S0:Pm}{Φ : Pm->Prop}{N:Nat}{B:Bs}{S:Sx}{a:Act}
theorem aaR(H:bm w0 S0 N B S a w ρ ro)(M:FO w0 ρ ρ2 ro ro2 p fz):∀ {oe:List (Nat×En)} {tb:List VC},mo fz B S oe=some tb->(∀ c∈tb,c ())->jv p oe=true->∀ l e,aj oe l=some e->c9 w ρ2 w0.heap.size ro2 l e:=by
 intro oe
 induction oe with
 | nil=>intro tb _ _ _ l e h; cases h
 | cons p oe ih =>
  intro tb hE hv hb l e he;obtain⟨k,z⟩:=p
  cases z with
  | box T cs =>
   unfold mo at hE;simp only [jv,ax] at hb;split at hE
   . rename_i T' cs' hl;split at hE
     . rename_i QU;subst QU;split at hE
       . rename_i p q h4 h5;cases hE;have rN:=FN hv;rw [cm] at he;split at he
         . rename_i e0;subst e0;cases he;obtain⟨b,us,k1,k4,k5⟩:=H.en _ _ hl;exact⟨b,us,M.pl _ _ k1 hb.1.1,k4,yF H M _ _ p us h4 rN.1 k5 (by simpa [En.under] using hb.1.2)⟩
         . exact ih h5 rN.2 hb.2 l e he
       . cases hE
     . cases hE
   . cases hE
  | row fr t T m =>
   unfold mo at hE;simp only [jv,ax] at hb;split at hE
   . rename_i q h5;split at hE
     . rename_i fr' t' T' m' hl;split at hE
       . rename_i ht;subst ht;split at hE
         . rename_i hc;obtain⟨rfl,hf⟩:=hc;cases hE;rw [cm] at he;split at he
           . rename_i e0;subst e0;cases he;obtain⟨A,c,css,k1,k2,k3,k5⟩:=H.en _ _ hl;have hm:m'=m:=funext fun u=>by cases u; exact hv _ (.head _)
             subst hm;refine⟨A,c,css,M.pl _ _ k1 hb.1.1,k2.Cf (akQ _ (Aw hf)),k3,fun kk cs j x v q1 q2 q3 => ?_⟩;have aO:=k2.2 cs (eY q1);have h6:=(Ao (g:=fr) (uH aO fun j y v r1 r2=>k5 kk cs j y v q1 r1 r2) (Aw hf)).2 j x v q2 q3;exact (h6.yG (wM (KS _ _ _ _) q2) M.pl).mono (fun _ _ _=>rfl) (Ext.refl _) (aA _) M.ro
           . exact K3
         . cases hE
       . cases hE
     . cases hE
     . rename_i hl;split at hE
       rotate_left
       . cases hE
       split at hE
       . rename_i hk;cases hE;rw [cm] at he;split at he
         . rename_i e0;subst e0;cases he;have hm:=hv _ (.head _);refine⟨none,0,[],by rw [hm]; exact M.nil rfl _ (H.fresh _ hk) hb.1.1,cw.nil _ _ _ _,by rw [hm]; rfl,fun kk cs j x v q1=>by simp at q1⟩
         . exact K3
       . cases hE
   . cases hE
  | map fr ag c t T m =>
   unfold mo at hE;simp only [jv,ax] at hb;split at hE
   . rename_i q h5;split at hE
     . rename_i fr' jI c' t' T' m' hl;split at hE
       . rename_i ht;subst ht;split at hE
         . rename_i hc;obtain⟨rfl,rfl,rfl,hf⟩:=hc;cases hE;rw [cm] at he;split at he
           . rename_i e0;subst e0;cases he;obtain⟨b,es,clock,k1,k2,k3,k4⟩:=H.en _ _ hl;have hm:m'=m:=funext fun u=>by cases u; exact hv _ (.head _)
             subst hm;exact⟨b,es,clock,M.pl _ _ k1 hb.1.1,k2,k3,(k4.less (Aw hf)).rQ fun x v hx=>(hx.yG (ZX _ _ _ _ _) M.pl).mono (fun _ _ _=>rfl) (Ext.refl _) (aA _) M.ro⟩
           . exact K3
         . cases hE
       . cases hE
     . cases hE
   . cases hE
  | iter ml c seen left =>
   unfold mo at hE;simp only [jv,En.under,ax] at hb;split at hE
   . rename_i q h5;split at hE
     . rename_i E8 c' P5 P6 hl;split at hE
       . rename_i hc;obtain⟨rfl,rfl⟩:=hc;cases hE;rw [cm] at he;split at he
         . rename_i e0;subst e0;cases he;obtain⟨b,b2,es,clock,since,stamps,c0,k1,k2,k3,k4,k5,k6,k7,k8,k9⟩:=H.en _ _ hl;have e1:P5 ()=seen ():=hv _ (.head _);have e2:P6 ()=left ():=hv _ (.tail _ (.head _));rw [e1] at k8 k9;rw [e2] at k7;exact⟨b,b2,es,clock,since,stamps,c0,M.pl _ _ k1 hb.1.1,M.pl _ _ k2 hb.1.2,k3,k4,k5,k6,k7,k8,k9⟩
         . exact ih h5 (fun c hc=>hv c (.tail _ (.tail _ hc))) hb.2 l e he
       . cases hE
     . cases hE
   . cases hE
  | bo ml c key=>unfold mo at hE; cases hE
  | ft kk =>
   unfold mo at hE;simp only [jv,ax] at hb;split at hE
   . rename_i q h5;split at hE
     . rename_i k' hl;cases hE;rw [cm] at he;split at he
       . rename_i e0;subst e0;cases he;have e1:k' ()=kk ():=hv _ (.head _);have h6:=M.pl _ _ (H.en _ _ hl) hb.1.1;rw [e1] at h6;exact h6
       . exact K3
     . cases hE
   . cases hE
  | dead=>unfold mo at hE; cases hE
theorem bm.aaS(H:bm w0 S0 N B S a w ρ ro){n:Nat}(tq:∀ l r,S0.pl l=some r->(r.dz||S0.fx)=true->l<n)(hT:Ah B S ov=some ta)(hE:mo none B S oe=some tb)(hv:∀ c∈ta++tb,c ())(Rr:lR (cN n) ov=true)(Rs:jv (cN n) oe=true)(Rt:lS B2.t ov=true)(Ru:lS B2.e oe=true)(Rv:∀ d x,aj B2.t d=some x->∃ u,a.tmps[d]? = some u/\af w ρ w0.heap.size ro x u/\AV.under (cN n) x=true)(uY:∀ l e,aj B2.e l=some e->c9 w ρ w0.heap.size ro l e/\l<n/\En.under (cN n) e=true)(qN:∀ d,(aj B.t d).isSome=true->(aj B2.t d).isSome=true) :
 ∃ ρ2,bm w0 S0 N B2 ⟨ov,oe,n⟩ a w ρ2 ro/\∀ l r b,ρ2 l=some r->r.b8=some b -> ρ l=some r:=by
 obtain⟨ρ2,K4⟩:∃ ρ2:Nat->Option Rl,ρ2=fun l=>if l<n then (match ρ l with|some r=>some r|none=>some (.row none 0 0)) else none:=⟨_,rfl⟩
 have h2:∀ l r,ρ l=some r->l<n -> ρ2 l=some r:=fun l r h hl=>by rw [K4]; simp only [aC hl,h]
 have h3:∀ l,ρ l=none->l<n -> ρ2 l=some (.row none 0 0):=fun l h hl=>by rw [K4]; simp only [aC hl,h]
 have e8:∀ l r b,ρ2 l=some r->r.b8=some b -> ρ l=some r:=by
  intro l r b h hb;rw [K4] at h;simp only at h;split at h
  . cases hl : ρ l with
    | none=>rw [hl] at h; injection h with h; subst h; cases hb
    | some r'=>rw [hl] at h; exact h
  . cases h
 have aaT:∀ {l},cN n l=true->l<n:=fun h=>by simpa [cN] using h
 have M:FO w0 ρ ρ2 ro ro (cN n) none:=⟨fun l r h hl=>h2 l r h (aaT hl),fun _ h=>h,fun _ l h hl=>h3 l h (aaT hl),fun _ h=>by cases h⟩
 have Ga:=FN hv;have hTs:∀ {ov:List (Nat×AV)} {ta:List VC},Ah B S ov=some ta->(∀ c∈ta,c ())->lR (cN n) ov=true->∀ d y,aj ov d=some y->∃ u,a.tmps[d]? = some u/\af w ρ2 w0.heap.size ro y u:=by
  intro ov
  induction ov with
  | nil=>intro ta _ _ _ d y h; cases h
  | cons p ov ih =>
   intro ta hT hv hb d y hy;obtain⟨k,z⟩:=p;unfold Ah at hT;split at hT
   . rename_i x b hx aW
     cases he:CS none B S x z with
     | none=>rw [he] at hT; cases hT
     | some q =>
      rw [he] at hT;simp only [du,bF] at hT;subst hT;have rN:=FN hv;simp only [lR,ax] at hb;rw [cm] at hy;split at hy
      . rename_i e;subst e;cases hy;obtain⟨u,h4,h5⟩:=H.tm _ _ hx;exact⟨u,h4,QJ H M _ _ q u he rN.1 h5 hb.1⟩
      . exact ih aW rN.2 hb.2 d y hy
   . cases hT
 refine⟨ρ2,⟨H.from_,H.size,H.defers,H.gu,fun d x hx => ?_,fun l e he => ?_,fun l l' r r' b aT k1 k2 k3 k4 => ?_,fun l hl => ?_,fun l r b k1 k2=>H.own l r b (e8 l r b k1 k2) k2,H.ew,fun l r k1 k2=>h2 l r (H.dz l r k1 k2) (tq l r k1 k2),fun d x hx => ?_,fun l e he => ?_,fun d v h=>⟨(H.fm d v h).1,qN d (H.fm d v h).2⟩⟩,e8⟩
 . unfold dD at hx;dsimp only at hx;split at hx
   . rename_i y hy;cases hx;exact hTs hT Ga.1 Rr d _ hy
   . obtain⟨u,q1,q2,q3⟩:=Rv d x hx;exact⟨u,q1,q2.yG q3 M.pl⟩
 . unfold bf at he;dsimp only at he;split at he
   . rename_i y hy;cases he;exact aaR H M hE Ga.2 Rs l _ hy
   . obtain⟨q1,q2,q3⟩:=uY l e he;exact q1.fixed (p:=cN n) (by unfold cN; exact dP q2) q3 M.pl
 . exact H.apart l l' r r' b aT (e8 l r b k1 k3) (e8 l' r' b k2 k4) k3 k4
 . rw [K4];exact aw (by simp only at hl; omega)
 . cases ho:aj ov d with
   | none=>rfl
   | some y=>rw [QK Rt ho] at hx; cases hx
 . cases ho:aj oe l with
   | none=>rfl
   | some y=>rw [QK Ru ho] at he; cases he
theorem bm.Rw(H:bm w0 S0 N B S a w ρ ro)(hS : Φ S0){n:Nat}(tq:∀ l r,S0.pl l=some r->(r.dz||S0.fx)=true->l<n)(hT:Ah B S ov=some ta)(hE:mo none B S oe=some tb)(hv:∀ c∈ta++tb,c ())(Rr:lR (cN n) ov=true)(Rs:jv (cN n) oe=true)(Rt:lS B2.t ov=true)(Ru:lS B2.e oe=true)(Rv:∀ d x,aj B2.t d=some x->∃ u,a.tmps[d]? = some u/\af w ρ w0.heap.size ro x u/\AV.under (cN n) x=true)(uY:∀ l e,aj B2.e l=some e->c9 w ρ w0.heap.size ro l e/\l<n/\En.under (cN n) e=true)(qN:∀ d,(aj B.t d).isSome=true->(aj B2.t d).isSome=true) :
 aS w0 Φ N B2 ⟨ov,oe,n⟩ a w:=by
 obtain⟨ρ2,h,_⟩:=H.aaS tq hT hE hv Rr Rs Rt Ru Rv uY qN;exact⟨S0,hS,ρ2,ro,h⟩
end
def Gb:List Nat->(Nat->mm)->mm
 | [],_ => .bad
 | [i],f=>f i
 | i::l,f => .alt (f i) (Gb l f)
def AH(l:List Oper)(σ:List Nat):Nat->List Nat->mm
 | 0,done=>match mr l done with
  | [] => .nil
  | _ => .bad
 | fuel+1,done =>
  let one (i:Nat):mm:=match l[i]? with
   | some _=>match σ[i]? with
    | some j => .op j (AH l σ fuel (i::done))
    | none => .bad
   | none => .bad
  match mr l done with
  | [] => .nil
  | [i]=>one i
  | is=>match yz l is with
   | some i=>one i
   | none=>Gb is one
def Rx(ef:List Nat)(ops:List Oper):mm :=
 let σ:=yy ef ops
 let l:=laid ef ops
 let np:=rV ef l
 bQ (σ.take np) (match CV l np with
  | true=>bQ (σ.drop np) .nil
  | false=>AH l σ (l.length - np) (List.range np))
def wO(i:Nat):List Nat->List Nat
 | [] => [i]
 | k::l=>if i<k then i::k::l else k::wO i l
def AI(l:List Oper)(done:List Nat):List Nat:=match mr l done with
 | [] => []
 | [i] => [i]
 | is=>match yz l is with
  | some i => [i]
  | none=>match Fy l done is with
   | some i => [i]
   | none=>is
def K5(σ:List Nat)(l:List Oper)(ez:List Nd)(nd:Nd):Bool :=
 nd.ed.isEmpty||qC (nd.ed.map fun e=>e.1) (AI l nd.dn)&&(decide (nd.dn.length<l.length)&&nd.ed.all fun e => σ[e.1]? == some e.2.1&&match ez[e.2.2]? with
  | some nt=>qC nt.dn (wO e.1 nd.dn)
  | none=>false)
def tA(σ:List Nat)(l:List Oper):List Nat->List Nat->Option (List Nat)
 | dn,[]=>some dn
 | dn,oi::r=>match AI l dn with
  | [i]=>if σ[i]? == some oi then tA σ l (wO i dn) r else none
  | _=>none
def K6(σ:List Nat)(l:List Oper)(dn post:List Nat):Bool:=match tA σ l dn post with
 | some dn=>dn.length==l.length&&(mr l dn).isEmpty
 | none=>false
def aaU(σ:List Nat)(l:List Oper)(ez:List Nd)(post:List Nat):Option (List Nat)->Bool
 | none=>false
 | some dn=>decide (dn.length<=l.length)&&(match ez with
  | nd::r=>qC nd.dn dn&&((nd::r).dropLast.all (fun nd => !nd.ed.isEmpty)&&((nd::r).all (K5 σ l (nd::r))&&match (nd::r).getLast? with
   | some nl=>K6 σ l nl.dn post
   | none=>false))
  | []=>K6 σ l dn post)
def Ry(ef:List Nat)(ops:List Oper)(N:Nat)(t:yu):Bool :=
 CU ef t.sg t.row.length ops N&&(qC t.row (t.sg.take t.row.length)&&aaU t.sg (cf t.sg ops) t.ez t.post (tA t.sg (cf t.sg ops) (List.range t.row.length) t.pre))
def anH:Op->Bool
 | .defer _=>true
 | _=>false
def codeOk(ef:List Nat)(sc:List (Nat×mm))(lt:List (Nat×yu))(N:Nat):Code->Bool
 | .region id ops d=>(ops.toList.all fun o => !anH o.op)&&(!d||(match Kl lt id with
  | some t=>Ry ef ops.toList N t
  | none=>Fw ef ops.toList N&&(match Kk sc id with
   | some s=>decide (s=Rx ef ops.toList)
   | none=>true)))
 | .seq a b=>codeOk ef sc lt N a&&codeOk ef sc lt N b
 | .cond _ a b=>codeOk ef sc lt N a&&codeOk ef sc lt N b
 | .block _ b=>codeOk ef sc lt N b
 | .loop b=>codeOk ef sc lt N b
 | .scope b=>codeOk ef sc lt N b
 | .rangeFunc _ _ a b=>codeOk ef sc lt N a&&codeOk ef sc lt N b
 | _=>true
section
variable{C:Cx}{N:Nat}{B:Bs}
theorem K7{l:List Oper}{K k:Sx->Fm}(yc:o'.op=o.op)(aaV:o'.dst=o.dst)(hw:nU B S l' o'=nU B S l o\/nU B S l o = .stuck)(hK:∀ S,(K S).P->(cd C N B l' AJ S k).P)(h:(cd C N B l [o] S K).P):(cd C N B l' (o'::AJ) S k).P:=by
 obtain⟨dst,op,ty,pos,aft,gd⟩:=o;obtain⟨yP,yQ,K8,pos',K9,La⟩:=o';dsimp only at yc aaV;subst yc;subst aaV;have xK:∀ S,mq C N B S ⟨yP,yQ,K8,pos',K9,La⟩=mq C N B S ⟨yP,yQ,ty,pos,aft,gd⟩:=fun _=>rfl;have hst:∀ S,nV C N B S ⟨yP,yQ,K8,pos',K9,La⟩=nV C N B S ⟨yP,yQ,ty,pos,aft,gd⟩:=fun _=>rfl;have hsk:∀ S,pN N B S ⟨yP,yQ,K8,pos',K9,La⟩=pN N B S ⟨yP,yQ,ty,pos,aft,gd⟩:=fun _=>rfl;generalize Rk:(⟨yP,yQ,ty,pos,aft,gd⟩:Oper)=o at *
 generalize azO:(⟨yP,yQ,K8,pos',K9,La⟩:Oper)=o' at *
 have anJ:∀ S f,mq C N B S o=some f->(f fun S'=>cd C N B l [] S' K).P->(f fun S'=>cd C N B l' AJ S' k).P:=by
  intro S f hf hP;rw [<- Rk] at hf;unfold mq at hf;dsimp only at hf;split at hf
  . split at hf
    . split at hf
      . split at hf
        . cases hf;intro x hx;exact hK _ (hP x hx)
        . cases hf
      . cases hf
    . cases hf
  . split at hf
    . split at hf
      . split at hf
        . split at hf
          . cases hf;exact⟨fun c=>fun x hx=>hK _ (hP.1 c x hx),fun c=>fun x hx=>hK _ (hP.2 c x hx)⟩
          . cases hf
        . cases hf
      . cases hf
    . cases hf
  . split at hf
    . split at hf
      . split at hf
        . cases hf;exact⟨hP.1,hK _ hP.2.1,hK _ hP.2.2⟩
        . cases hf
      . cases hf
    . cases hf
  . cases hf
 have jo:∀ S n,(match mq C N B S o with
  | some f=>f fun S'=>cd C N B l [] S' K
  | none=>match nV C N B S o with
   | some (S',[])=>cd C N B l [] S' K
   | some (S',vcs) => .vc vcs (cd C N B l [] S' K)
   | none => .ff (1000+([]:List Oper).length):Fm).P->(match mq C N B S o' with
  | some f=>f fun S'=>cd C N B l' AJ S' k
  | none=>match nV C N B S o' with
   | some (S',[])=>cd C N B l' AJ S' k
   | some (S',vcs) => .vc vcs (cd C N B l' AJ S' k)
   | none => .ff n:Fm).P:=by
  intro S n hP;rw [xK,hst]
  cases hs:mq C N B S o with
  | some f=>rw [hs] at hP; exact anJ S f hs hP
  | none =>
   rw [hs] at hP;dsimp only at hP ⊢
   cases ht:nV C N B S o with
   | none=>rw [ht] at hP; exact hP.elim
   | some r =>
    obtain⟨S',vcs⟩:=r;rw [ht] at hP
    cases vcs with
    | nil=>exact hK _ hP
    | cons c vcs=>exact⟨hP.1,hK _ hP.2⟩
 have jq:∀ S,(match pN N B S o with
  | some S'=>cd C N B l [] S' K
  | none => .ff 3:Fm).P->(match pN N B S o' with
  | some S'=>cd C N B l' AJ S' k
  | none => .ff 3:Fm).P:=by
  intro S hP;rw [hsk]
  cases ht:pN N B S o with
  | none=>rw [ht] at hP; exact hP.elim
  | some r=>rw [ht] at hP; exact hK _ hP
 unfold cd at h ⊢;dsimp only at h ⊢;rcases hw with hw|hw
 . rw [hw]
   cases Lb:nU B S l o with
   | yes=>rw [Lb] at h; exact jo S _ h
   | no=>rw [Lb] at h; exact jq S h
   | stuck=>rw [Lb] at h; exact h.elim
   | ask d c b =>
    rw [Lb] at h;dsimp only at h ⊢
    cases h1:bJ B S N d (.aR true) with
    | none=>rw [h1] at h; exact h.elim
    | some S1 =>
     rw [h1] at h
     cases h2:bJ B S N d (.aR false) with
     | none=>rw [h2] at h; exact h.elim
     | some S2 =>
      rw [h2] at h
      cases b with
      | true=>exact⟨fun q=>jo S1 _ (h.1 q),fun q=>jq S2 (h.2 q)⟩
      | false=>exact⟨fun q=>jq S1 (h.1 q),fun q=>jo S2 _ (h.2 q)⟩
 . rw [hw] at h;exact h.elim
theorem azP{n:Nat}(h:fe σ n=true)(hi:i<n):∃ j,σ[i]? = some j/\j<n:=by
 unfold fe at h;simp only [ax,dL,gA] at h;have h1:=h.2 i hi
 cases hs : σ[i]? with
 | none=>rw [hs] at h1; cases h1
 | some j =>
  rw [hs] at h1;simp only [ax,aL] at h1;exact⟨j,rfl,h1.1⟩
theorem aaW{n:Nat}(h:fe σ n=true)(hj:j<n) : σ[gV σ j]? = some j:=by
 unfold fe at h;simp only [ax,dL,gA] at h;have h1:=h.1.2 j hj;exact eq_of_beq h1
theorem Gc{l:List Oper}(h : σ[i]? = some j)(ho:l[j]? = some o):(cf σ l)[i]? = some (oS σ o):=by
 unfold cf;rw [ga,h];simp only [du];rw [ho]
theorem Lc{l:List Oper}(h:fe σ l.length=true)(S)(o):nU B S (cf σ l) (oS σ o)=nU B S l o\/nU B S l o = .stuck:=by
 obtain⟨dst,op,ty,pos,aft,gd⟩:=o
 cases gd with
 | none=>exact .inl rfl
 | some g =>
  obtain⟨j,b⟩:=g
  cases ho:l[j]? with
  | none =>
   right;unfold nU;dsimp only;rw [ho];rfl
  | some oj =>
   left;have hj:=(List.getElem?_eq_some_iff.1 ho).1;have h2:=Gc (aaW h hj) ho;unfold nU;dsimp only [oS];rw [h2,ho];rfl
theorem Le{σ:List Nat}{l:List Oper}{k:Sx->Fm}(h:fe σ l.length=true):∀ (is) (os) (r) (k') (S),is.length=os.length->(∀ (q:Nat) o,os[q]? = some o->∃ i:Nat,σ[i]? = is[q]? /\ (cf σ l)[i]? = some o)->(∀ S,(eC C N B l r S k).P->(k' S).P)->(eC C N B l (bQ is r) S k).P->(cd C N B (cf σ l) os S k').P
 | [],[],r,k',S,_,_,hr,hP=>by
  unfold cd;exact hr S hP
 | i::is,o::os,r,k',S,hl,hq,hr,hP=>by
  obtain⟨q,h1,h2⟩:=hq 0 o rfl;have pQ : σ[q]? = some i:=by simpa using h1
  unfold bQ at hP;unfold eC at hP
  cases ho:l[i]? with
  | none=>rw [ho] at hP; exact hP.elim
  | some o2 =>
   rw [ho] at hP;have h3:=Gc pQ ho;rw [h2] at h3;cases h3;have hP':(cd C N B l [o2] S fun S'=>eC C N B l (bQ is r) S' k).P:=hP;exact K7 (l:=l) (o:=o2) rfl rfl (Lc h S o2) (fun S hS=>Le h is os r k' S (by simpa using hl) (fun q o uZ=>by simpa using hq (q+1) o (by simpa using uZ)) hr hS) hP'
 | [],_::_,_,_,_,hl,_,_,_=>by simp at hl
 | _::_,[],_,_,_,hl,_,_,_=>by simp at hl
theorem aaX{l:List Oper}{k:Sx->Fm}{S:Sx}{f:Nat->mm}{g:Nat->Fm}:∀ {is:List Nat},(∀ i∈is,(eC C N B l (f i) S k).P->(g i).P)->(eC C N B l (Gb is f) S k).P->(Ki is g).P
 | [],_,h=>by
  unfold Gb eC at h;exact h.elim
 | [i],hi,h=>hi i (.head _) h
 | i::j::is,hi,h=>by
  unfold Gb eC at h;exact⟨hi i (.head _) h.1,aaX (is:=j::is) (fun q hq=>hi q (.tail _ hq)) h.2⟩
theorem aaY{σ:List Nat}{l:List Oper}{k:Sx->Fm}(h:fe σ l.length=true):∀ (fuel) (done) (S),(eC C N B l (AH (cf σ l) σ fuel done) S k).P->(tj C N B (cf σ l) fuel done S k).P
 | 0,done,S,hP=>by
  unfold AH at hP;unfold tj;split at hP
  . unfold eC at hP;rename_i hr;rw [hr];exact hP
  . unfold eC at hP;exact hP.elim
 | fuel+1,done,S,hP=>by
  unfold AH at hP;unfold tj;dsimp only at hP ⊢;have ja:∀ i,(eC C N B l (match (cf σ l)[i]? with
   | some _=>match σ[i]? with
    | some j => .op j (AH (cf σ l) σ fuel (i::done))
    | none => .bad
   | none => .bad) S k).P->(match (cf σ l)[i]? with
   | some o=>cd C N B (cf σ l) [o] S fun S'=>tj C N B (cf σ l) fuel (i::done) S' k
   | none => .ff 19:Fm).P:=by
   intro i hi
   cases ho:(cf σ l)[i]? with
   | none=>rw [ho] at hi; unfold eC at hi; exact hi.elim
   | some o =>
    rw [ho] at hi;dsimp only at hi ⊢
    cases hs : σ[i]? with
    | none=>rw [hs] at hi; unfold eC at hi; exact hi.elim
    | some j =>
     rw [hs] at hi;dsimp only at hi;unfold eC at hi
     cases pW:l[j]? with
     | none=>rw [pW] at hi; exact hi.elim
     | some o2 =>
      rw [pW] at hi;have h3:=Gc hs pW;rw [ho] at h3;cases h3;have lI:(cd C N B l [o2] S fun S'=>eC C N B l (AH (cf σ l) σ fuel (i::done)) S' k).P:=hi;refine K7 (l:=l) (o:=o2) rfl rfl (Lc h S o2) (fun S hS => ?_) lI;unfold cd;exact aaY h fuel (i::done) S hS
  split at hP
  . rename_i hr;rw [hr];unfold eC at hP;exact hP
  . rename_i i hr;rw [hr];exact ja i hP
  . rename_i is h1 h2;generalize mr (cf σ l) done=is at *
    cases is with
    | nil=>exact absurd rfl h1
    | cons i is =>
     cases is with
     | nil=>exact absurd rfl (h2 i)
     | cons j is =>
      dsimp only at hP ⊢
      cases hf:yz (cf σ l) (i::j::is) with
      | some q=>rw [hf] at hP; exact ja q hP
      | none=>rw [hf] at hP; exact aaX (fun q _ hq=>ja q hq) hP
theorem anL{k:Sx->Fm}(h:fe (yy (ca C) ops) ops.length=true)(hP:(eC C N B ops (Rx (ca C) ops) S k).P):(Kj C N B (laid (ca C) ops) S k).P:=by
 unfold Rx at hP;dsimp only at hP;unfold Kj Zg;unfold laid at hP ⊢;generalize KN:rV (ca C) (cf (yy (ca C) ops) ops)=np at *
 generalize yy (ca C) ops = σ at *
 have hlen : σ.length=ops.length:=by
  unfold fe at h;simp only [ax] at h;exact eq_of_beq h.1.1
 have cU:(cf σ ops).length = σ.length:=by unfold cf; simp
 refine Le h (σ.take np) _ _ _ S (by rw [cL,cL,cU]) (fun q o hq=>⟨q,?_,?_⟩) (fun S' qI => ?_) hP
 . exact aaZ
 . rw [eh] at hq;split at hq
   . exact hq
   . cases hq
 . cases hc:CV (cf σ ops) np with
   | true =>
    rw [hc] at qI;dsimp only at qI ⊢;refine Le h (σ.drop np) _ _ _ S' (by rw [List.length_drop,List.length_drop,cU]) (fun q o hq=>⟨np+q,?_,?_⟩) (fun S2 At => ?_) qI
    . rw [lG]
    . rw [lG] at hq;exact hq
    . unfold eC at At;exact At
   | false =>
    rw [hc] at qI;dsimp only at qI ⊢;exact aaY h _ _ _ qI
end
inductive Wf (fd:Nat->Prop) (ef:List Nat) (sc:List (Nat×mm)) (lt:List (Nat×yu)) (N:Nat):Bs->List Kt->Prop
 | nil (B):Wf fd ef sc lt N B []
 | code (B c K) (hc:codeOk ef sc lt N c=true) (h:Wf fd ef sc lt N B K):Wf fd ef sc lt N B (.code c::K)
 | block (B id K) (h:Wf fd ef sc lt N B K):Wf fd ef sc lt N B (.block id::K)
 | back (Bo K' f K) (hF:∀ d,fd d->(aj Bo.t d).isSome=true) (hT:∀ d x,aj Bo.t d=some x->aj K'.t d=none) (hE:∀ l e,aj Bo.e l=some e->aj K'.e l=none) (h:Wf fd ef sc lt N Bo K):Wf fd ef sc lt N (join K' Bo) (.back Bo K' f::K)
 | again (B b K) (hc:codeOk ef sc lt N b=true) (h:Wf fd ef sc lt N B K):Wf fd ef sc lt N B (.again b::K)
 | wB (B f K):Wf fd ef sc lt N B (.wB f::K)
 | dS (B f x l K):Wf fd ef sc lt N B (.dS f x l::K)
section
variable{w w' w0:World}{ρ ρ' ρ2:Nat->Option Rl}{base n:Nat}{ro ro':Nat->Prop}{S0:Pm}{Φ : Pm->Prop}{N:Nat}{B:Bs}{S:Sx}{a:Act}{F:Fx}{P:Program}
theorem Lf{p:Nat->Bool}:∀ {l:List AV},(∀ (j:Nat) x,l[j]? = some x->AV.under p x=true)->AV.mn p l=true
 | [],_=>rfl
 | x::l,h=>by
  unfold AV.mn;rw [h 0 x rfl,Lf fun j y hy=>h (j+1) y zQ];rfl
theorem af.aa0{x:AV}(h:af w ρ base ro x v)(hn:∀ l,n<=l -> ρ l=none):AV.under (cN n) x=true:=by
 have ah:∀ l r,ρ l=some r->l<n:=fun l r h=>by
  rcases b9 l n with h1|h1
  . exact h1
  . rw [hn l h1] at h; cases h
 have hl:∀ {l:List AV} {vs:List Value},l.length=vs.length->(∀ (j:Nat) x v,l[j]? = some x->vs[j]? = some v->AV.under (cN n) x=true)->AV.mn (cN n) l=true:=by
  intro l vs hlen h;refine Lf fun j x hx => ?_;have hj:=(cF.1 hx).1;exact h j x _ hx (bc (by rw [<- hlen]; exact hj))
 induction h with
 | un=>rfl
 | fG=>rfl
 | int=>rfl
 | lit=>rfl
 | bool=>rfl
 | aR=>rfl
 | str=>rfl
 | nil=>rfl
 | sl=>rfl
 | wide=>rfl
 | bh cells off b o cs hr Fh hlen hc h ih=>exact hl hlen ih
 | ptr l off b h=>simpa [AV.under,cN] using ah _ _ h
 | fq l off n b h=>simpa [AV.under,cN] using ah _ _ h
 | mp l b h=>simpa [AV.under,cN] using ah _ _ h
 | bo l b h=>simpa [AV.under,cN] using ah _ _ h
 | it l l2 b h=>simpa [AV.under,cN] using ah _ _ h
 | own l A n' c h=>simpa [AV.under,cN] using ah _ _ h
 | cZ t l k off A n' c b h hA h0 Lg=>simpa [AV.under,cN] using ah _ _ h
 | cG t l a b A n' c h bk=>simpa [AV.under,cN] using ah _ _ h
 | agg l vs hlen h ih=>exact hl hlen ih
 | ba l vs hlen h ih=>exact hl hlen ih
 | fn f dH vs hlen h ih=>exact hl hlen ih
theorem Lh:∀ (l) (n),n<=m7 n l
 | [],n=>aA _
 | k::l,n=>by
  unfold m7;split
  . exact Lh l n
  . have:=Lh l (k+1); omega
theorem Li{md aG:List Nat}{n d:Nat}{x:AV}:∀ {l:List (Nat×AV)},aj (nT md aG n l) d=some x->(∃ y,aj l d=some y/\(x=y\/x = .un))/\AV.under (cN n) x=true
 | (k,y)::l,h=>by
  unfold nT at h;split at h
  . rename_i hm;obtain⟨⟨z,h1,h2⟩,h3⟩:=Li h;refine⟨?_,h3⟩;rw [cm];split
    . exact absurd h (by
       rename_i e;subst e;have:∀ l:List (Nat×AV),aj (nT md aG n l) k=none:=by
        intro l
        induction l with
        | nil=>rfl
        | cons p l ih =>
         obtain⟨k',y'⟩:=p;unfold nT;split
         . exact ih
         . rename_i pF;rw [cm,aw (by rintro rfl; exact pF hm)];exact ih
       rw [this l]
       simp)
    . exact⟨z,h1,h2⟩
  . rw [cm] at h;rw [cm];split at h
    . rename_i e;rw [aC e];injection h with h;subst h;split
      . exact⟨⟨y,rfl,.inr rfl⟩,rfl⟩
      . rename_i hc;simp only [gR,xG,vM,ke] at hc;exact⟨⟨y,rfl,.inl rfl⟩,by simpa using hc.2⟩
    . rename_i e;rw [aw e];exact Li h
 | [],h=>by cases h
theorem anM{l:List (Nat×AV)}(h:aj l d=none):aj (nT md aG n l) d=none:=by
 cases hk:aj (nT md aG n l) d with
 | none=>rfl
 | some x =>
  obtain⟨⟨y,h1,_⟩,_⟩:=Li hk;rw [h] at h1;cases h1
theorem Rz{aG:List Nat}{n:Nat}:∀ {l:List AV} {j:Nat} {x:AV},(yw aG n l)[j]? = some x->∃ y,l[j]? = some y/\(x=y\/x = .un)/\AV.under (cN n) x=true
 | [],j,x,h=>by simp [yw] at h
 | y::l,0,x,h=>by
  simp only [yw,ox,bF] at h;subst h;refine⟨y,rfl,?_⟩;split
  . exact⟨.inr rfl,rfl⟩
  . rename_i hc;simp only [gR,xG,vM,ke] at hc;exact⟨.inl rfl,by simpa using hc.2⟩
 | y::l,j+1,x,h=>by
  obtain⟨z,h1,h2⟩:=Rz (l:=l) (j:=j) (x:=x) (by simpa [yw] using h);exact⟨z,by simpa using h1,h2⟩
theorem aa1{aG:List Nat}{n:Nat}:∀ (l),(yw aG n l).length=l.length
 | []=>rfl
 | x::l=>by simp [yw,aa1 l]
theorem Gd{aG:List Nat}{n k:Nat}:∀ (l),aj (qB aG n l) k=if bD k aG||decide (n<=k) then none else (aj l k).map (P4 aG n)
 | []=>by simp [qB,aj]
 | (k',e')::l=>by
  unfold qB;by_cases e:k'=k
  . subst e;split
    . rename_i hc;rw [Gd l,aC hc]
    . rw [cm,aC rfl,cm,aC rfl];rfl
  . rw [cm,aw e];split
    . exact Gd l
    . rw [cm,aw e]; exact Gd l
structure Kept (n:Nat) (B2:Bs):Prop where
 t:∀ d x,aj B2.t d=some x->AV.under (cN n) x=true
 e:∀ l e,aj B2.e l=some e->l<n/\En.under (cN n) e=true
theorem Lj(H:bm w0 S0 N B S a w ρ ro)(hn:S.n<=n)(B2)(Ll:B2=join ⟨nT md aG n S.t,qB aG n S.e⟩ B) :
 Kept n B2/\(∀ d x,aj B2.t d=some x->∃ u,a.tmps[d]? = some u/\af w ρ w0.heap.size ro x u)/\(∀ l e,aj B2.e l=some e->c9 w ρ w0.heap.size ro l e)/\(∀ d x,aj B.t d=some x->aj (nT md aG n S.t) d=none)/\∀ l e,aj B.e l=some e->aj (qB aG n S.e) l=none:=by
 subst Ll;have cP:∀ l,n<=l -> ρ l=none:=fun l hl=>H.fresh l (dQ hn hl);have hT:∀ d x,aj (join ⟨nT md aG n S.t,qB aG n S.e⟩ B).t d=some x->(∃ u,a.tmps[d]? = some u/\af w ρ w0.heap.size ro x u)/\AV.under (cN n) x=true:=by
  intro d x hx;unfold join at hx;dsimp only at hx;rw [qJ] at hx;split at hx
  . rename_i y hy;cases hx;obtain⟨⟨z,h1,h2⟩,h3⟩:=Li hy;obtain⟨u,h4,h5⟩:=H.tm d z (by unfold dD; rw [h1]);refine⟨⟨u,h4,?_⟩,h3⟩;rcases h2 with rfl|rfl
    . exact h5
    . exact .un _
  . obtain⟨u,h4,h5⟩:=H.tm d x (by unfold dD; rw [H.jL d x hx]; exact hx);exact⟨⟨u,h4,h5⟩,h5.aa0 cP⟩
 have hE:∀ l e,aj (join ⟨nT md aG n S.t,qB aG n S.e⟩ B).e l=some e->c9 w ρ w0.heap.size ro l e/\l<n/\En.under (cN n) e=true:=by
  have ka:∀ ml r,ρ ml=some r->ml<n:=fun ml r hr=>by
   rcases b9 ml n with h|h
   . exact h
   . rw [cP ml h] at hr; cases hr
  intro l e he;have ah:∀ e,c9 w ρ w0.heap.size ro l e->l<n:=fun e he=>by
   obtain⟨r,hr⟩:=he.none;rcases b9 l n with h|h
   . exact h
   . rw [cP l h] at hr; cases hr
  unfold join at he;dsimp only at he;rw [qJ] at he;split at he
  . rename_i y hy;cases he;rw [Gd] at hy;split at hy
    . cases hy
    . cases hl:aj S.e l with
      | none=>rw [hl] at hy; cases hy
      | some z =>
       rw [hl] at hy;simp only [du,bF] at hy;subst hy;have h1:=H.en l z (by unfold bf; rw [hl])
       cases z with
       | row fr t T m=>exact⟨h1,ah _ h1,rfl⟩
       | map fr ag c t T m=>exact⟨h1,ah _ h1,rfl⟩
       | ft k=>exact⟨h1,ah _ h1,rfl⟩
       | dead=>exact⟨h1,ah _ h1,rfl⟩
       | bo ml c key=>exact⟨h1.none,ah _ h1,rfl⟩
       | iter ml c seen left =>
        unfold P4;dsimp only;split
        . exact⟨h1.none,ah _ h1,rfl⟩
        . rename_i hc;simp only [gR,xG,aL] at hc;exact⟨h1,ah _ h1,by simp only [En.under,cN,aL]; omega⟩
       | box T cs =>
        obtain⟨b,us,k1,k4,k5⟩:=h1;refine⟨⟨b,us,k1,k4,by rw [aa1]; exact k5.1,fun j x v hx hv => ?_⟩,ka _ _ k1,Lf fun j x hx=>(Rz hx).elim fun y q=>q.2.2⟩;obtain⟨y,q1,q2,_⟩:=Rz hx;rcases q2 with rfl|rfl
        . exact k5.2 j _ v q1 hv
        . exact .un _
  . have h1:=H.en l e (by unfold bf; rw [H.jM l e he]; exact he);refine⟨h1,ah e h1,?_⟩
    cases e with
    | box T cs =>
     obtain⟨b,us,k1,k4,k5⟩:=h1;refine Lf fun j x hx => ?_;obtain⟨v,hv,hr⟩:=k5.get hx;exact hr.aa0 cP
    | row fr t T m=>rfl
    | map fr ag c t T m=>rfl
    | ft k=>rfl
    | dead=>rfl
    | iter ml c seen left =>
     obtain⟨b,b2,es,clock,since,stamps,c0,k1,k2,k3⟩:=h1;simpa [En.under,cN] using ka _ _ k2
    | bo ml c key =>
     obtain⟨b,es,clock,s,e,k1,k2,k3⟩:=h1;simpa [En.under,cN] using ka _ _ k2
 refine⟨⟨fun d x hx=>(hT d x hx).2,fun l e he=>(hE l e he).2⟩,fun d x hx=>(hT d x hx).1,fun l e he=>(hE l e he).1,fun d x hx=>anM (H.jL d x hx),fun l e he => ?_⟩;rw [Gd,H.jM l e he];split<;>rfl
theorem bm.aa2{K':Bs}(qN:∀ d v,S0.fm d=some v->(aj B.t d).isSome=true)(hT:∀ d x,aj B.t d=some x->aj K'.t d=none)(hE:∀ l e,aj B.e l=some e->aj K'.e l=none)(H:bm w0 S0 N (join K' B) S a w ρ ro):bm w0 S0 N B (leave K' S) a w ρ ro:=by
 have hlT:∀ d,dD B (leave K' S) d=dD (join K' B) S d:=by
  intro d;unfold dD leave join;dsimp only;rw [qJ,qJ];cases aj S.t d<;>cases aj K'.t d<;>rfl
 have hlE:∀ d,bf B (leave K' S) d=bf (join K' B) S d:=by
  intro d;unfold bf leave join;dsimp only;rw [qJ,qJ];cases aj S.e d<;>cases aj K'.e d<;>rfl
 refine⟨H.from_,H.size,H.defers,H.gu,fun d x hx=>H.tm d x (by rw [<- hlT]; exact hx),fun l e he=>H.en l e (by rw [<- hlE]; exact he),H.apart,H.fresh,H.own,H.ew,H.dz,fun d x hx => ?_,fun l e he => ?_,fun d v h=>⟨(H.fm d v h).1,qN d v h⟩⟩
 . unfold leave;dsimp only;have h1:aj S.t d=none:=H.jL d x (by unfold join; dsimp only; rw [qJ,hT d x hx]; exact hx);rw [qJ,h1];exact hT d x hx
 . unfold leave;dsimp only;have h1:aj S.e l=none:=H.jM l e (by unfold join; dsimp only; rw [qJ,hE l e he]; exact he);rw [qJ,h1];exact hE l e he
theorem aa3{K':Bs}(qN:∀ S0,Φ S0->∀ d v,S0.fm d=some v->(aj B.t d).isSome=true)(hT:∀ d x,aj B.t d=some x->aj K'.t d=none)(hE:∀ l e,aj B.e l=some e->aj K'.e l=none)(H:aS w0 Φ N (join K' B) S a w):aS w0 Φ N B (leave K' S) a w:=by
 obtain⟨S0,hS,ρ,ro,H⟩:=H;exact⟨S0,hS,ρ,ro,H.aa2 (qN S0 hS) hT hE⟩
def KQ(F:Fx)(w0:World)(Φ : Pm->Prop)(n:Nat)(B:Bs)(K:List Kt):Exit->Act->World->Prop
 | .normal,a,w=>∃ f S,f<=n/\aS w0 Φ F.N B S a w/\(cont F f B S K).P
 | .exit id,a,w=>∃ f S,f<=n/\aS w0 Φ F.N B S a w/\(exitTo F f id B S K).P
 | .ret,a,w=>∃ f S,f<=n/\aS w0 Φ F.N B S a w/\(lA F f B S K).P
 | _,_,_=>False
theorem KQ.more{K:List Kt}{e:Exit}(h:KQ F w0 Φ n B K e a w)(hm:n<=m):KQ F w0 Φ m B K e a w:=by
 cases e with
 | normal=>obtain⟨f,S,h1,h2⟩:=h; exact⟨f,S,dQ h1 hm,h2⟩
 | exit id=>obtain⟨f,S,h1,h2⟩:=h; exact⟨f,S,dQ h1 hm,h2⟩
 | ret=>obtain⟨f,S,h1,h2⟩:=h; exact⟨f,S,dQ h1 hm,h2⟩
 | goto l=>exact h.elim
 | panic c=>exact h.elim
 | outgrown=>exact h.elim
theorem Lm(h:(m8 B S ov oe).P):∃ ta tb,Ah B S ov=some ta/\mo none B S oe=some tb/\∀ c∈ta++tb,c ():=by
 unfold m8 at h;split at h
 . rename_i ta tb h1 h2;exact⟨ta,tb,h1,h2,FU h⟩
 . exact h.elim
theorem bm.bare(H:bm w0 S0 N B S a w ρ ro):bm w0 S0 N B ⟨[],[],S.n⟩ a w ρ ro:=by
 refine⟨H.from_,H.size,H.defers,H.gu,fun d x h=>H.tm d x ?_,fun l e h=>H.en l e ?_,H.apart,H.fresh,H.own,H.ew,H.dz,fun _ _ _=>rfl,fun _ _ _=>rfl,H.fm⟩
 . have h':aj B.t d=some x:=h;unfold dD;rw [H.jL d x h'];exact h'
 . have h':aj B.e l=some e:=h;unfold bf;rw [H.jM l e h'];exact h'
end
section
variable{α β:Type}
def cI(s:Sem α):Prop:=∀ P w u w',s.run P w = .ok u w'->w'=w
def lB(s:Sem α):Prop:=∀ P w u w',s.run P w ≠ .ok u w'
theorem cI.pure(a):cI (Pure.pure a:Sem α):=fun P w u w' h=>by
 rw [bL] at h;injection h with h1 h2;exact h2.symm
theorem cI.bind{s:Sem α}{f : α->Sem β}(hs:cI s)(hf:∀ a,cI (f a)):cI (s >>= f):=fun P w u w' h=>by
 rw [bp] at h
 cases hr:s.run P w with
 | ok a w1 =>
  rw [hr] at h;have:=hs P w a w1 hr;subst this;exact hf a P _ u w' h
 | halt x w1=>rw [hr] at h; cases h
theorem lB.oY{s:Sem α}(h:lB s):cI s:=fun P w u w' hr=>absurd hr (h P w u w')
theorem lB.bind{s:Sem α}{f : α->Sem β}(hf:∀ a,lB (f a)):lB (s >>= f):=fun P w u w' h=>by
 rw [bp] at h
 cases hr:s.run P w with
 | ok a w1=>rw [hr] at h; exact hf a P _ u w' h
 | halt x w1=>rw [hr] at h; cases h
theorem lB.halt(x):lB (.halt x:Sem α):=fun P w u w' h=>by cases h
theorem RA(v):lB (goPanic v:Sem α):=lB.halt _
theorem wP(s):lB (stuck s:Sem α):=lB.halt _
theorem Ge(u):lB (unsupported u:Sem α):=lB.halt _
theorem cI.program:cI program:=fun P w u w' h=>by
 have h2:Result.ok P w=Result.ok u w':=h;injection h2 with _ h3;exact h3.symm
theorem aa4(e):lB (runtimePanic e:Sem α):=by
 unfold runtimePanic;refine lB.bind fun p => ?_;dsimp only;cases e<;>first
  | exact RA _
  | (refine lB.bind fun r => ?_; first|exact RA _|(refine lB.bind fun r => ?_; exact RA _))
theorem anP(k)(x y)(c):lB (boundsPanic k x y c:Sem α):=by
 unfold boundsPanic;dsimp only;split
 . exact lB.bind fun _=>aa4 _
 . exact lB.bind fun _=>aa4 _
theorem anQ(t):cI (typeInfo t):=by
 unfold typeInfo;exact aa5
theorem De(t):cI (underlying t):=by
 unfold underlying;exact aa5
theorem RB(t):cI (sizeOf t):=by
 unfold sizeOf;exact (anQ t).bind fun _=>cI.pure _
theorem anR(t):cI (isAgg t):=by
 unfold isAgg;refine (De t).bind fun d => ?_;split<;>exact cI.pure _
theorem aa6(a):cI (load a):=fun P w u w' h=>by
 unfold load at h;simp only [Sem.run] at h;split at h
 . injection h with _ h2; exact h2.symm
 . split at h
   . injection h with _ h2; exact h2.symm
   . cases h
theorem aa7(a):∀ (n i) (acc),cI (loadCellsFrom a i n acc)
 | 0,_,_=>cI.pure _
 | n+1,i,acc=>(aa6 _).bind fun v=>aa7 a n (i+1) _
theorem anS(t)(a):cI (loadVar t a):=by
 unfold loadVar;refine (anR t).bind fun b => ?_;split
 . refine (RB t).bind fun n => ?_;exact (aa7 a n 0 _).bind fun _=>cI.pure _
 . exact aa6 a
theorem RC(v):cI (Instr.sureAddr v):=by
 unfold Instr.sureAddr;exact RD
theorem anT(t)(v):cI (Instr.loadAt t v):=(RC v).bind fun a=>anS t a
theorem aa8(r):cI (shape r):=fun P w u w' h=>by
 have h2:Result.ok (w.shape? r) w=Result.ok u w':=h;injection h2 with _ h3;exact h3.symm
theorem anU(v):cI (asIntOf v):=by
 unfold asIntOf;split
 . exact cI.pure _
 . exact (Ge _).oY
 . exact (wP _).oY
theorem anV(t)(x i):cI (Instr.indexAt t x i):=by
 unfold Instr.indexAt;refine (anU i).bind fun p => ?_;obtain ⟨k, n⟩ := p;dsimp only;refine (De t).bind fun d => ?_;have hb : ∀ (len : Nat) (y : Int), cI (boundsPanic k y len .index : Sem Value) := fun _ _ => (anP _ _ _ _).oY;have hc : ∀ (a : Addr) (len elem : Nat) (q : Bool), cI (if 0 <= n /\ n < len then do pure (Value.pointer (some (a.add (n.toNat * (<- sizeOf elem))))) else if q = true then unsupported (.noEntry "op/indexAddr.an index out of range at an array of length 0 or 1 (ledger 616)") else boundsPanic k n len .index : Sem Value) := by
  intro a len elem q;split
  . exact (RB _).bind fun _=>cI.pure _
  . split
    . exact (Ge _).oY
    . exact hb _ _
 split
 . refine (RC _).bind fun _=>(cI.pure _).bind fun q=>(De _).bind fun d => ?_;obtain⟨base,len,elem⟩:=q
   exact RE
 . refine (cI.pure _).bind fun q=>(De _).bind fun d => ?_;obtain⟨base,len,elem⟩:=q
   exact RE
 . refine ((wP _).oY).bind fun q=>(De _).bind fun d => ?_;obtain⟨base,len,elem⟩:=q
   exact RE
theorem anW(op)(x):cI (Op.unary op x):=by
 unfold Op.unary;split
 . exact cI.pure _
 . unfold Op.intBits;exact cI.pure _
 . exact cI.pure _
 . exact cI.pure _
 . exact cI.pure _
 . exact (Ge _).oY
 . exact (Ge _).oY
 . exact (wP _).oY
theorem anX(v)(i):cI (Instr.extract v i):=by
 unfold Instr.extract;split
 . exact RD
 . exact (wP _).oY
theorem anY(r):cI (getObj r):=fun P w u w' h=>by
 unfold getObj at h;simp only [Sem.run] at h;split at h
 . cases h
 . injection h with _ h2; exact h2.symm
 . cases h
theorem anZ(a):cI (noView a):=by
 unfold noView;refine cI.bind ?_ fun v => ?_
 . unfold viewAt;refine (aa8 _).bind fun q => ?_;split
   . exact cI.pure _
   . refine (anY _).bind fun o => ?_;split<;>exact cI.pure _
 . split
   . exact (Ge _).oY
   . exact cI.pure _
theorem aa9(a):cI (byteOf a):=by
 unfold byteOf;have ht:∀ (p:Program),cI (do
  noView a
  let some (e, _) <- shape a.block | stuck "byteOf: no such block"
  let s:=p.cellsOf e
  if s=0 then return 0
  let some b := byteOfCell p p.depth e (a.off % s) | stuck "byteOf: no such cell"
  pure (a.off / s*p.bytesOf e+b)):=fun p=>by
  refine (anZ a).bind fun _=>(aa8 _).bind fun q => ?_;split
  . dsimp only;split
    . exact cI.pure _
    . exact RD
  . exact (wP _).oY
 split
 . exact cI.pure _
 . exact cI.program.bind ht
theorem an0(a)(f):cI (fieldPlace a f):=by
 unfold fieldPlace partAt;refine (RB _).bind fun n => ?_;split
 . exact (aa9 _).bind fun _=>(aa9 _).bind fun _=>cI.pure _
 . exact cI.pure _
theorem an1(t)(x)(i):cI (Instr.fieldAt t x i):=by
 unfold Instr.fieldAt;refine (De t).bind fun d => ?_;split
 . split
   . exact (RC _).bind fun a=>(an0 _ _).bind fun _=>cI.pure _
   . exact (wP _).oY
 . exact (wP _).oY
theorem aba(h:Ak o.op=true)(r){P:Program}{n:Next}(hr:(execOp r o).run P w = .ok n w'):w'=w/\∃ v,n = .value v:=by
 have hv:∀ {s:Sem Value},cI s->(Sem.run P (do pure (Next.value (<- s))) w = .ok n w')->w'=w/\∃ v,n = .value v:=by
  intro s hs h;rw [bp] at h
  cases hr:s.run P w with
  | ok a w1 =>
   rw [hr] at h;have h1:=hs P w a w1 hr;subst h1;have h2:Result.ok (Next.value a) w1=Result.ok n w':=h;injection h2 with h3 h4;exact⟨h4.symm,a,h3.symm⟩
  | halt x w1=>rw [hr] at h; cases h
 unfold execOp at hr;cases yc:o.op<;>rw [yc] at h hr<;>simp only [Ak,dV] at h
 . exact abb
 . exact abb
 . exact hv (anT _ _) hr
 . exact hv (anW _ _) hr
 . exact hv (an1 _ _ _) hr
 . exact hv (anV _ _ _) hr
 . exact hv (anX _ _) hr
end
section
variable{P:Program}{ops:Array Oper}{Q:Exit->Act->World->Prop}{md:Region.Mode}
def YieldsAt(P:Program)(ops:Array Oper)(o:Oper)(v:Value)(a:Act)(w:World):Prop :=
 Region.wanted o (yielded ops a.tmps)=true/\(execOp a.eval o).run P w = .ok (.value v) w\/Region.wanted o (yielded ops a.tmps)=false/\v=undef
theorem YieldsAt.wpOp(hi:ops[i]? = some o)(hy:YieldsAt P ops o v a w){K:Act->World->Prop}(h:K (a.put o.dst v) w):wpOpIn Fence.wide 0 P ops Q i K a w:=by
 rcases hy with ⟨hw,hv⟩|⟨hw,rfl⟩
 . exact Qk hi hw (Kz (by rw [hv]; exact h))
 . exact Zk hi hw h
theorem YieldsAt.of_same(hy:YieldsAt P ops o v a w)(he:execOp a'.eval o=execOp a.eval o)(hw:Region.wanted o (yielded ops a'.tmps)=Region.wanted o (yielded ops a.tmps)):YieldsAt P ops o v a' w:=by
 unfold YieldsAt at *
 rw [he,hw];exact hy
theorem an2(hj:ops[j]? = some oj)(hst:Ak oj.op=true)(jx:oi.apart ops oj=true)(hsi:∀ cs b,oi.op ≠ .select cs b)(hsj:∀ cs b,oj.op ≠ .select cs b)(hQ:∀ c a w,¬ Q (.panic c) a w){K:Act->World->Prop}(hy:YieldsAt P ops oi v a w)(h:wpOpIn Fence.wide 0 P ops Q j K (a.put oi.dst v) w) :
 wpOpIn Fence.wide 0 P ops Q j (fun a' w'=>YieldsAt P ops oi v a' w'/\K (a'.put oi.dst v) w') a w:=by
 obtain⟨h1,h2,h3⟩:=Oper.apart_spec jx;have jF:∀ (a:Act),YieldsAt P ops oi v a w->∀ u,YieldsAt P ops oi v (a.put oj.dst u) w:=fun a hy u =>
  hy.of_same (execOp_put oi hsi a oj.dst u h3) (wanted_put oi a oj.dst u h3)
 unfold wpOpIn at *
 simp only [hj] at *
 rw [wanted_put oj a oi.dst v h1] at h;split
 . rename_i hw;simp only [hw,eO] at h;refine Kz ?_;have h:=Qj h;rw [execOp_put oj hsj a oi.dst v h1] at h
   cases hr:(execOp a.eval oj).run P w with
   | ok n w' =>
    obtain⟨rfl,u,rfl⟩:=aba hst _ hr;rw [hr] at h;simp only [Oper.uponIn] at h ⊢;exact⟨jF a hy u,by rw [<- Act.put_comm a v u h2]; exact h⟩
   | halt x w' =>
    rw [hr] at h;cases x<;>simp only [Oper.uponIn] at h ⊢
    case panic u=>exact (hQ _ _ _ h).elim
 . rename_i hw;simp only [hw] at h;exact⟨fun _ _=>trivial,jF a hy _,by rw [<- Act.put_comm a v undef h2]; exact h.2⟩
theorem an5{K:Act->World->Prop}(hi:ops[i]? = some oi)(hst:Ak oi.op=true)(hQ:∀ c a w,¬ Q (.panic c) a w)(h:wpOpIn Fence.wide 0 P ops Q i K a w):∃ v,YieldsAt P ops oi v a w/\K (a.put oi.dst v) w:=by
 unfold wpOpIn at h;simp only [hi] at h;split at h
 . rename_i hw;have h:=Qj h
   cases hr:(execOp a.eval oi).run P w with
   | ok n w' =>
    obtain⟨rfl,u,rfl⟩:=aba hst _ hr;rw [hr] at h;exact⟨u,.inl ⟨hw,hr⟩,h⟩
   | halt x w' =>
    rw [hr] at h;cases x<;>simp only [Oper.uponIn] at h
    case panic u=>exact (hQ _ _ _ h).elim
 . rename_i hw;exact⟨undef,.inr ⟨by simpa using hw,rfl⟩,h.2⟩
theorem an6(hi:ops[i]? = some oi)(gv:∀ (j:Nat) (o) cs b,ops[j]? = some o->o.op ≠ .select cs b)(hQ:∀ c a w,¬ Q (.panic c) a w) :
 ∀ (fuel) (listed) (a) (w),qp md ops listed ->
  (∀ (j) oj,ops[j]? = some oj->j≠i->listed.getD j true=false->waits md ops ops.size j i=false->oi.apart ops oj=true/\Ak oj.op=true) ->
  i∈Region.ready md ops listed->YieldsAt P ops oi v a w ->
  wpAnyIn Fence.wide 0 P md ops Q fuel (listed.setIfInBounds i true) (a.put oi.dst v) w->wpAnyIn Fence.wide 0 P md ops Q (fuel+1) listed a w:=by
 intro fuel
 induction fuel with
 | zero =>
  intro listed a w _ _ hr hy H;refine⟨fun h=>(by rw [h] at hr; cases hr),fun j hj => ?_⟩;by_cases n8:j=i
  . subst n8; exact hy.wpOp hi H
  . have:=ready_mono hj n8;rw [H.1] at this;cases this
 | succ fuel ih =>
  intro listed a w cz Av hr hy H;refine⟨fun h=>(by rw [h] at hr; cases hr),fun j hj => ?_⟩;by_cases n8:j=i
  . subst n8; exact hy.wpOp hi H
  . have h1:=H.2 j (ready_mono hj n8);obtain⟨abc,oj,dW,bS⟩:=mem_ready.1 hj;have Gf:waits md ops ops.size j i=false:=by
     cases hww:waits md ops ops.size j i with
     | false=>rfl
     | true =>
      have h1:=Oo cz _ j i oj dW bS hww;have h0:=(mem_ready.1 hr).1;rcases b9 i listed.size with h'|h'
      . simp [h'] at h0 h1; rw [h0] at h1; cases h1
      . simp [Ef h'] at h1
    obtain⟨jx,hst⟩:=Av j oj dW n8 abc Gf;have h2:=an2 dW hst jx (fun cs b=>gv i oi cs b hi) (fun cs b=>gv j oj cs b dW) hQ hy h1;refine wpOpIn_mono (fun a' w' h3 => ?_) h2;refine ih (listed.setIfInBounds j true) a' w' (cz.Cj hj) (fun k ok hk Df qM jq => ?_) (ready_mono hr (Ne.symm n8)) h3.1 ?_
    . refine Av k ok hk Df ?_ jq;by_cases qo:j=k
      . subst qo; exact abc
      . rw [getD_set_ne true qo] at qM; exact qM
    . rw [Array.setIfInBounds_comm _ _ n8];exact h3.2
end
end Go.Proofs.YtamjbkaclhgffaaGreat
