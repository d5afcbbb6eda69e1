/-
  The abstract run: regions of operations are sound, in their order and in any order.
-/
import Derived.Test.YtamjbkaclhgffaaGreatSh11
set_option linter.all false
namespace Go.Proofs.YtamjbkaclhgffaaGreat
open Go.RowKit
variable{a a0:Act}{K:Act->World->Prop}{L' listed:Array Bool}{ops:Array Oper}{op:BinOp}{r:Bool}{Q:Exit->Act->World->Prop}{done ef σ:List Nat}{rest:List Oper}{vcs:List VC}{d f i j n np s:Nat}{L l4:Nat->Bool}{o oi oj:Oper}{ti:Option TI}{S':Sx}{v:Value}{w w0:World}
section
variable{P:Program}{w w' w0:World}{ρ ρ':Nat->Option Rl}{base:Nat}{ro ro':Nat->Prop}{S0:Pm}{Φ : Pm->Prop}{N:Nat}{B:Bs}{S:Sx}{a a0:Act}{C:Cx}{Q:Exit->Act->World->Prop}
theorem aqY(h:a.tmps[d]? = some v):a.put (some d) v=a:=by
 unfold Act.put;have af:=(pV.1 h).1;have:a.tmps.setIfInBounds d v=a.tmps:=by
  apply Array.ext_getElem?;intro i;rw [Kh];split
  . rename_i e;subst e;rw [h]
  . rfl
 simp only [this]
theorem B3{x:AV}(h:px B S d=x)(hx:x ≠ .un):dR B S d=some x:=by
 unfold px at h
 cases hl:dR B S d with
 | none=>rw [hl] at h; exact absurd h.symm hx
 | some y =>
  rw [hl] at h;have h':y=x:=h;rw [h']
theorem bj.aqZ(H:bj w0 Φ N B S a w){c:Unit->Bool}(hd:px B S d = .bool c)(hp:cb B S N d (.aV (c ()))=some S'):a.tmps[d]? = some (.bool (c ()))/\bj w0 Φ N B S' a w:=by
 obtain⟨S0,hS,ρ,ro,H⟩:=H;obtain⟨u,h1,h2⟩:=H.tm d _ (B3 hd (by simp));have h3:=h2.qb;subst h3;refine⟨h1,S0,hS,ρ,ro,?_⟩;have H2:=H.put hp (.aV (c ()));rwa [aqY h1] at H2
inductive ry (B:Bs) (N:Nat) (l:List Oper) (S:Sx) (o:Oper):Bool->Sx->Prop
 | free (h:o.guard=none):ry B N l S o true S
 | lit (j d:Nat) (b c:Bool) (oj:Oper) (h:o.guard=some (j,b)) (hj:l[j]? = some oj) (hd:oj.dst=some d) (hc:px B S d = .aV c):ry B N l S o (c==b) S
 | gone (j d:Nat) (b:Bool) (oj:Oper) (h:o.guard=some (j,b)) (hj:l[j]? = some oj) (hd:oj.dst=some d) (hc:px B S d = .bp []):ry B N l S o false S
 | ask (j d:Nat) (b:Bool) (c:Unit->Bool) (oj:Oper) (S':Sx) (h:o.guard=some (j,b)) (hj:l[j]? = some oj) (hd:oj.dst=some d) (hc:px B S d = .bool c) (hp:cb B S N d (.aV (c ()))=some S'):ry B N l S o (c ()==b) S'
theorem acn{l:List Oper}{b:Bool}(h:o.guard=some (j,b))(hj:l[j]? = some oj)(hd:oj.dst=some d)(hu:a.tmps[d]? = some undef):Region.wanted o (yielded l.toArray a.tmps)=false:=by
 have h1:yielded l.toArray a.tmps j=none:=by
  unfold yielded;have h2:((l.toArray[j]?).bind (·.dst)).bind (a.tmps[·]?)=some undef:=by simp [hj,hd,hu]
  rw [h2];rfl
 unfold Region.wanted;rw [h];simp only [h1];rfl
theorem aco(h:aj w ρ base ro (.bp []) v):v=undef:=by
 obtain⟨vs,rfl,hE⟩:=h.Lr;rw [hE.none];rfl
theorem ry.seq{l:List Oper}(h:ry B N l S o r S')(H:bj w0 Φ N B S a w):Region.wanted o (yielded l.toArray a.tmps)=r/\bj w0 Φ N B S' a w:=by
 cases h with
 | free h=>exact⟨Zh h _,H⟩
 | lit j d b c oj h hj hd hc =>
  obtain⟨S0,hS,ρ,ro,HR⟩:=H;obtain⟨u,h1,h2⟩:=HR.tm d _ (B3 hc (by simp));rw [h2.re] at h1;exact⟨KF h (by simpa using hj) hd h1 rfl,S0,hS,ρ,ro,HR⟩
 | gone j d b oj h hj hd hc =>
  obtain⟨S0,hS,ρ,ro,HR⟩:=H;obtain⟨u,h1,h2⟩:=HR.tm d _ (B3 hc (by simp));rw [aco h2] at h1;exact⟨acn h hj hd h1,S0,hS,ρ,ro,HR⟩
 | ask j d b c oj S' h hj hd hc hp =>
  obtain⟨h1,h2⟩:=H.aqZ hc hp;exact⟨KF h (by simpa using hj) hd h1 rfl,h2⟩
theorem MM{l:List Oper}{k:Sx->Fm}(h:(cF C N B l (o::rest) S k).P):∃ r S1,ry B N l S o r S1 /\
 ((r=true/\((∃ S2 vcs,pC C N B S1 o=some (S2,vcs)/\(∀ c∈vcs,c ())/\(cF C N B l rest S2 k).P)\/∃ f,nT C N B S1 o=some f/\(f fun S'=>cF C N B l rest S' k).P))\/(r=false/\∃ S2,rn N B S1 o=some S2/\(cF C N B l rest S2 k).P)):=by
 have kd:∀ S1,(match nT C N B S1 o with
  | some f=>f fun S'=>cF C N B l rest S' k
  | none=>match pC C N B S1 o with
   | some (S',[])=>cF C N B l rest S' k
   | some (S',vcs) => .vc vcs (cF C N B l rest S' k)
   | none => .ff (1000+rest.length):Fm).P->(∃ S2 vcs,pC C N B S1 o=some (S2,vcs)/\(∀ c∈vcs,c ())/\(cF C N B l rest S2 k).P)\/∃ f,nT C N B S1 o=some f/\(f fun S'=>cF C N B l rest S' k).P:=by
  intro S1 h
  cases yV:nT C N B S1 o with
  | some f =>
   rw [yV] at h;exact .inr ⟨f,rfl,h⟩
  | none =>
   rw [yV] at h;dsimp only at h;left;split at h
   . rename_i S2 hs;exact⟨S2,[],hs,(fun c hc=>by cases hc),h⟩
   . rename_i S2 vcs _ hs;exact⟨S2,vcs,hs,Hp h.1,h.2⟩
   . exact h.elim
 have ke:∀ S1,(match rn N B S1 o with
  | some S'=>cF C N B l rest S' k
  | none => .ff 3:Fm).P->∃ S2,rn N B S1 o=some S2/\(cF C N B l rest S2 k).P:=by
  intro S1 h;split at h
  . rename_i S2 hs;exact⟨S2,hs,h⟩
  . exact h.elim
 unfold cF at h;dsimp only at h;split at h
 . rename_i hw;unfold pB at hw;split at hw
   . rename_i hg;exact⟨true,S,.free hg,.inl ⟨rfl,kd S h⟩⟩
   . rename_i j b hg;split at hw
     . rename_i d hd;obtain⟨oj,eQ,ib⟩:=mm.1 hd;split at hw
       . rename_i c hc;split at hw
         . rename_i oK;exact⟨_,S,.lit j d b c oj hg eQ ib hc,.inl ⟨by rw [oK]; simp,kd S h⟩⟩
         . cases hw
       . cases hw
       . cases hw
       . cases hw
     . cases hw
 . rename_i hw;unfold pB at hw;split at hw
   . cases hw
   . rename_i j b hg;split at hw
     . rename_i d hd;obtain⟨oj,eQ,ib⟩:=mm.1 hd;split at hw
       . rename_i c hc;split at hw
         . cases hw
         . rename_i oK;exact⟨_,S,.lit j d b c oj hg eQ ib hc,.inr ⟨by simpa using oK,ke S h⟩⟩
       . cases hw
       . rename_i hc;exact⟨false,S,.gone j d b oj hg eQ ib hc,.inr ⟨rfl,ke S h⟩⟩
       . cases hw
     . cases hw
 . rename_i d c b hw;unfold pB at hw;split at hw
   . cases hw
   . rename_i j b' hg;split at hw
     . rename_i d' hd;obtain⟨oj,eQ,ib⟩:=mm.1 hd;split at hw
       . split at hw<;>cases hw
       . rename_i c' hc;injection hw with e1 e2 e3;subst e1; subst e2; subst e3;split at h
         . rename_i S1 S2 h1 h2;have mB:∀ S',cb B S N d' (.aV (c' ()))=some S'->ry B N l S o (c' ()==b') S':=fun S' hp => .ask j d' b' c' oj S' hg eQ ib hc hp;obtain⟨ht,hf⟩:=h
           cases B4:c' () with
           | true =>
            rw [B4] at mB;refine⟨_,S1,mB S1 h1,?_⟩;have h3:=ht B4
            cases b' with
            | true=>exact .inl ⟨rfl,kd S1 h3⟩
            | false=>exact .inr ⟨rfl,ke S1 h3⟩
           | false =>
            rw [B4] at mB;refine⟨_,S2,mB S2 h2,?_⟩;have h3:=hf B4
            cases b' with
            | true=>exact .inr ⟨rfl,ke S2 h3⟩
            | false=>exact .inl ⟨rfl,kd S2 h3⟩
         . exact h.elim
       . cases hw
       . cases hw
     . cases hw
 . exact h.elim
theorem Hr(aQ:dp P C.ty)(aS:oM P C w0 Φ){l:List Oper}{k:Sx->Fm}(hk:∀ S' a' w',bj w0 Φ N B S' a' w'->(k S').P->Q .normal a' w'):∀ {rest:List Oper} {S:Sx} {a:Act} {w:World},(cF C N B l rest S k).P->bj w0 Φ N B S a w->wpListIn Fence.wide 0 P l.toArray Q rest a w
 | [],S,a,w,h,H=>hk S a w H h
 | o::rest,S,a,w,h,H=>by
  obtain⟨r,S1,mB,B5⟩:=MM h;obtain⟨hw,H1⟩:=mB.seq H;unfold wpListIn;rcases B5 with ⟨rfl,⟨S2,vcs,hs,hv,h2⟩|⟨f,hs,h2⟩⟩|⟨rfl,S2,hs,h2⟩
  . rw [aG hw];exact (aci aQ aS H1 hs hv).wp fun a' w' H2=>Hr aQ aS hk h2 H2
  . rw [aG hw];exact (acm aQ aS H1 hs h2).wp fun a' w' ⟨S',H2,h3⟩=>Hr aQ aS hk h3 H2
  . rw [ax (by rw [hw]; simp)];exact⟨fun _ _=>trivial,Hr aQ aS hk h2 (S4 H1 hs)⟩
/- a region aa8 aEy ng order -/
inductive Path (C:Cx) (N:Nat) (B:Bs) (l:List Oper):Sx->List Oper->List (Option AV)->Sx->Prop
 | nil (S0:Sx):Path C N B l S0 [] [] S0
 | go {S0 S1 S2 S':Sx} {o:Oper} {rest:List Oper} {av:AV} {vcs:List VC} {ah:List (Option AV)} {d:Nat} (hw:ry B N l S0 o true S1) (hp:po C.ty C.cs (bF B S1) (cm B S1) o.op=some (av,vcs)) (hv:∀ c∈vcs,c ()) (hd:o.dst=some d) (fR:cb B S1 N d av=some S2) (h:Path C N B l S2 rest ah S'):Path C N B l S0 (o::rest) (some av::ah) S'
 | no {S0 S1 S2 S':Sx} {o:Oper} {rest:List Oper} {ah:List (Option AV)} {d:Nat} (hw:ry B N l S0 o false S1) (hd:o.dst=some d) (fR:cb B S1 N d (.bp [])=some S2) (h:Path C N B l S2 rest ah S'):Path C N B l S0 (o::rest) (none::ah) S'
theorem acp(h:mH (cB C) o.op=true):LY C N B S o=none:=by
 obtain⟨dst,op,ty,pos,aft,gd⟩:=o;cases op<;>first|rfl|(cases h; done)|skip
 rename_i c;obtain⟨callee,ir,pv⟩:=c
 cases callee with
 | value f=>rfl
 | invoke r m=>rfl
 | builtin b=>cases b<;>first|rfl|cases h
theorem S6{f:Nat}:∀ {cs:List fi},bV f (lZ cs)=false->Bz cs f=none
 | [],_=>rfl
 | c::cs,h=>by
  simp only [lZ,bV,lU] at h;unfold Bz;rw [ax (by rw [h.1]; simp)];exact S6 h.2
theorem acq(h:bV f (cB C)=false):bV f (lZ C.fs)=false:=by
 unfold cB at h;split at h
 . simp only [bV,lU] at h;exact h.2
 . exact h
theorem acr(h:mH (cB C) o.op=true):GW C N B S o=none:=by
 obtain⟨dst,op,ty,pos,aft,gd⟩:=o;cases op<;>first|rfl|skip
 rename_i c;obtain⟨callee,ir,pv⟩:=c
 cases callee with
 | value x =>
  cases x with
  | func f =>
   have hm:bV f (cB C)=false:=by simpa [mH] using h
   unfold GW;dsimp only;rw [S6 (acq hm)]
  | tmp d=>rfl
  | const v=>rfl
  | global g=>rfl
 | invoke r m=>rfl
 | builtin b=>rfl
theorem acs(h:mH (cB C) o.op=true):GX C N B S o=none:=by
 obtain⟨dst,op,ty,pos,aft,gd⟩:=o;cases op<;>first|rfl|skip
 rename_i c;obtain⟨callee,ir,pv⟩:=c
 cases callee with
 | value x =>
  cases x with
  | func f =>
   have hm:bV f (cB C)=false:=by simpa [mH] using h
   unfold GX;dsimp only;rw [S6 (acq hm)]
  | tmp d=>rfl
  | const v=>rfl
  | global g=>rfl
 | invoke r m=>rfl
 | builtin b=>rfl
theorem acu(h:mH (cB C) o.op=true):L7 C N B S o=none:=by
 obtain⟨dst,op,ty,pos,aft,gd⟩:=o;unfold L7;cases op<;>first|rfl|skip
 rename_i c;obtain⟨callee,ir,pv⟩:=c;cases callee<;>first|rfl|skip
 rename_i v;cases v<;>first|rfl|skip
 rename_i f;have hf:bV f (cB C)=false:=by simpa [mH] using h
 simp only [hf,yM]
theorem acv(h:mH (cB C) o.op=true):nT C N B S o=none:=by
 obtain⟨dst,op,ty,pos,aft,gd⟩:=o;cases op<;>first|rfl|(cases h; done)|skip
 rename_i c;obtain⟨callee,ir,pv⟩:=c;cases callee<;>first|rfl|skip
 rename_i x;unfold nT;dsimp only
 cases hy:C.yl with
 | none=>cases cm B S x<;>rfl
 | some y =>
  have he:cB C=999999999::lZ C.fs:=by unfold cB; rw [hy]
  cases x with
  | func f=>rfl
  | tmp d=>simp [mH,he,bV] at h
  | const v=>simp [mH,he,bV] at h
  | global g=>simp [mH,he,bV] at h
theorem S7{l:List Oper}{k:Sx->Fm}:∀ {pre tail:List Oper} {S:Sx},(∀ o∈pre,mH (cB C) o.op=true/\∃ d,o.dst=some d)->(cF C N B l (pre++tail) S k).P->∃ ah S',Path C N B l S pre ah S'/\(cF C N B l tail S' k).P
 | [],tail,S,_,h=>⟨[],S,.nil S,h⟩
 | o::pre,tail,S,hp,h=>by
  obtain⟨r,S1,mB,B5⟩:=MM h;obtain⟨oO,d,hd⟩:=hp o (.head _);have bC:∀ o∈pre,mH (cB C) o.op=true/\∃ d,o.dst=some d:=fun o ho=>hp o (.tail _ ho);rcases B5 with ⟨rfl,⟨S2,vcs,hs,hv,h2⟩|⟨f,hs,h2⟩⟩|⟨rfl,S2,hs,h2⟩
  rotate_left
  . rw [acv oO] at hs;cases hs
  rotate_left
  . unfold pC at hs;split at hs
    . rename_i av MK wA;rw [hd] at hs;dsimp only at hs
      cases fR:cb B S1 N d av with
      | none=>rw [fR] at hs; cases hs
      | some S3 =>
       rw [fR] at hs;cases hs;obtain⟨ah,S',h3,h4⟩:=S7 bC h2;exact⟨_,S',.go mB wA hv hd fR h3,h4⟩
    . rw [acp oO] at hs;dsimp only at hs;rw [acr oO] at hs;dsimp only at hs;rw [acs oO] at hs;dsimp only at hs;rw [acu oO] at hs;cases hs
  . unfold rn at hs;rw [hd] at hs;obtain⟨ah,S',h3,h4⟩:=S7 bC h2;exact⟨_,S',.no mB hd hs h3,h4⟩
theorem Et{x:AV}(h:cb B S N d x=some S'):S'.e=S.e/\S'.n=S.n/\(∀ y,dR B S' s=some y->(s=d/\y=x)\/(s≠d/\dR B S s=some y)):=by
 unfold cb at h;split at h
 . cases h
 . cases h;refine⟨rfl,rfl,fun y hy => ?_⟩;unfold dR at hy ⊢;rw [cO] at hy;by_cases e:d=s
   . rw [aG e] at hy;injection hy with hy;exact .inl ⟨e.symm,hy.symm⟩
   . rw [ax e] at hy;exact .inr ⟨fun e'=>e e'.symm,hy⟩
def Claim(B:Bs)(l:List Oper)(a0:Act)(w:World)(ρ:Nat->Option Rl)(base:Nat)(ro:Nat->Prop)(L:Nat->Bool)(val:Nat->Value)(i:Nat)(S:Sx):Prop :=
 ∀ s x,dR B S s=some x->match sA l s i with
  | none=>∃ u,a0.tmps[s]? = some u/\aj w ρ base ro x u
  | some j=>L j=true->aj w ρ base ro x (val j)
theorem Claim.dec{l:List Oper}{val:Nat->Value}(h:Claim B l a0 w ρ base ro L val i S)(hd:ry B N l S o r S'):Claim B l a0 w ρ base ro L val i S'/\S'.e=S.e/\S'.n=S.n:=by
 cases hd with
 | free=>exact⟨h,rfl,rfl⟩
 | lit=>exact⟨h,rfl,rfl⟩
 | gone=>exact⟨h,rfl,rfl⟩
 | ask j d b c oj S' hg hj ib hc hp =>
  refine⟨fun s x hx => ?_,(Et (s:=0) hp).1,(Et (s:=0) hp).2.1⟩;rcases (Et (s:=s) hp).2.2 x hx with ⟨rfl,rfl⟩|⟨_,h2⟩
  . have h3:=h s _ (B3 hc (by simp));split
    . rename_i S8;rw [S8] at h3;obtain⟨u,h4,h5⟩:=h3;exact⟨u,h4,by rw [h5.qb]; exact .aV _⟩
    . rename_i j' S8;rw [S8] at h3;intro hL;rw [(h3 hL).qb];exact .aV _
  . exact h s x h2
theorem acw{l:List Oper}:sA l s (i+1)=if ((l[i]?).bind (·.dst))==some s then some i else sA l s i:=rfl
theorem Claim.put{l:List Oper}{val:Nat->Value}{av:AV}(h:Claim B l a0 w ρ base ro L val i S)(ho:l[i]? = some o)(hd:o.dst=some d)(hp:cb B S N d av=some S')(hv:L i=true->aj w ρ base ro av (val i)):Claim B l a0 w ρ base ro L val (i+1) S':=by
 intro s x hx;rw [acw,ho];simp only [FY,hd];rcases (Et (s:=s) hp).2.2 x hx with ⟨rfl,rfl⟩|⟨h1,h2⟩
 . rw [aG (by simp)];exact hv
 . rw [ax (by simpa using fun e=>h1 e.symm)];exact h s x h2
theorem Path.zE{l:List Oper}{L:Nat->Bool}{val:Nat->Value}:∀ {rest:List Oper} {S S':Sx} {ah:List (Option AV)} {i:Nat},Path C N B l S rest ah S'->(∀ j o,rest[j]? = some o->l[i+j]? = some o)->Claim B l a0 w ρ base ro L val i S->(∀ j av,ah[j]? = some (some av)->L (i+j)=true->aj w ρ base ro av (val (i+j)))->(∀ j,ah[j]? = some none->L (i+j)=true->val (i+j)=undef) ->
 (∀ m o,rest[m]? = some o->∃ S0 S1 r,Claim B l a0 w ρ base ro L val (i+m) S0/\Claim B l a0 w ρ base ro L val (i+m) S1/\S1.e=S.e/\ry B N l S0 o r S1/\((r=true/\∃ av vcs,ah[m]? = some (some av)/\po C.ty C.cs (bF B S1) (cm B S1) o.op=some (av,vcs)/\∀ c∈vcs,c ())\/(r=false/\ah[m]? = some none)))/\Claim B l a0 w ρ base ro L val (i+rest.length) S'/\S'.e=S.e/\S'.n=S.n/\ah.length=rest.length
 | [],S,S',ah,i,h,_,hc,_,_=>by
  cases h;exact⟨fun m o hm=>by simp at hm,hc,rfl,rfl,rfl⟩
 | o::rest,S,S',ah,i,h,hl,hc,eU,S9=>by
  cases h with
  | @go _ S1 S2 _ _ _ av vcs ah d hw hp hv hd fR h =>
   obtain⟨iw,kW,m9⟩:=hc.dec hw;have ho:l[i]? = some o:=by simpa using hl 0 o rfl
   have tC:Claim B l a0 w ρ base ro L val (i+1) S2:=iw.put ho hd fR (fun hL=>by simpa using eU 0 av rfl (by simpa using hL));obtain⟨q1,q2,q3,q4,q5⟩:=Path.zE (i:=i+1) h (fun j o' hj=>by rw [show i+1+j=i+(j+1) from oo]; exact hl (j+1) o' (by simpa using hj)) tC (fun j nP hj hL=>by rw [show i+1+j=i+(j+1) from oo] at hL ⊢; exact eU (j+1) nP (by simpa using hj) hL) (fun j hj hL=>by rw [show i+1+j=i+(j+1) from oo] at hL ⊢; exact S9 (j+1) (by simpa using hj) hL);have iJ:=Et (s:=0) fR;refine⟨fun m o' hm => ?_,by rw [dE,show i+(rest.length+1)=i+1+rest.length from oo]; exact q2,by rw [q3,iJ.1,kW],by rw [q4,iJ.2.1,m9],by simp [q5]⟩
   cases m with
   | zero =>
    simp only [pW,bU] at hm;subst hm;exact⟨S,S1,true,hc,iw,kW,hw,.inl ⟨rfl,av,vcs,rfl,hp,hv⟩⟩
   | succ m =>
    exact acx
  | @no _ S1 S2 _ _ _ ah d hw hd fR h =>
   obtain⟨iw,kW,m9⟩:=hc.dec hw;have ho:l[i]? = some o:=by simpa using hl 0 o rfl
   have tC:Claim B l a0 w ρ base ro L val (i+1) S2:=iw.put ho hd fR (fun hL=>by rw [show val i=undef by simpa using S9 0 rfl (by simpa using hL)]; exact acj);obtain⟨q1,q2,q3,q4,q5⟩:=Path.zE (i:=i+1) h (fun j o' hj=>by rw [show i+1+j=i+(j+1) from oo]; exact hl (j+1) o' (by simpa using hj)) tC (fun j nP hj hL=>by rw [show i+1+j=i+(j+1) from oo] at hL ⊢; exact eU (j+1) nP (by simpa using hj) hL) (fun j hj hL=>by rw [show i+1+j=i+(j+1) from oo] at hL ⊢; exact S9 (j+1) (by simpa using hj) hL);have iJ:=Et (s:=0) fR;refine⟨fun m o' hm => ?_,by rw [dE,show i+(rest.length+1)=i+1+rest.length from oo]; exact q2,by rw [q3,iJ.1,kW],by rw [q4,iJ.2.1,m9],by simp [q5]⟩
   cases m with
   | zero =>
    simp only [pW,bU] at hm;subst hm;exact⟨S,S1,false,hc,iw,kW,hw,.inr ⟨rfl,rfl⟩⟩
   | succ m =>
    exact acx
theorem Ta{x:AV}(h:cb B S N d x=some S')(hd:∀ d x,al B.t d=some x->al S.t d=none):∀ d x,al B.t d=some x->al S'.t d=none:=by
 unfold cb at h;split at h
 . cases h
 . rename_i hc;simp only [fM,yR,xw,FP,jz] at hc;cases h;intro s y hy;rw [cO,ax (by rintro rfl; rw [hc.1] at hy; cases hy)];exact hd s y hy
theorem ry.jT{l:List Oper}(h:ry B N l S o r S')(hd:∀ d x,al B.t d=some x->al S.t d=none):∀ d x,al B.t d=some x->al S'.t d=none:=by
 cases h with
 | free=>exact hd
 | lit=>exact hd
 | gone=>exact hd
 | ask j d b c oj S2 hg hj ib hc hp=>exact Ta hp hd
theorem Path.jT{l:List Oper}:∀ {rest:List Oper} {S S':Sx} {ah:List (Option AV)},Path C N B l S rest ah S'->(∀ d x,al B.t d=some x->al S.t d=none)->∀ d x,al B.t d=some x->al S'.t d=none:=by
 intro rest S S' ah h
 induction h with
 | nil=>exact id
 | go hw hp hv hd fR h ih =>
  intro dr;exact ih (Ta fR (hw.jT dr))
 | no hw hd fR h ih =>
  intro dr;exact ih (Ta fR (hw.jT dr))
theorem aq0{x:AV}(h:cb B S N d x=some S'):al B.t d=none:=by
 unfold cb at h;split at h
 . cases h
 . rename_i hc;simp only [fM,yR,xw,FP,jz] at hc;exact hc.1
theorem Path.noB{l:List Oper}{ah:List (Option AV)}(h:Path C N B l S rest ah S'):∀ o∈rest,∀ d,o.dst=some d->al B.t d=none:=by
 induction h with
 | nil=>intro o ho; cases ho
 | go hw hp hv hd fR h ih =>
  exact acy
 | no hw hd fR h ih =>
  exact acy
end
theorem Tb{l:List Oper}(h:xP l i=true)(hi:l[i]? = some oi)(hj:l[j]? = some oj)(bg:j≠i):(∃ e∈oi.after,Region.binds .any e=true/\e.on=j)\/(∃ e∈oj.after,Region.binds .any e=true/\e.on=i)\/oi.apart l.toArray oj=true:=by
 unfold xP at h;rw [hi] at h;have af:=(c8.1 hj).1;have h1:=fc.1 h j (iV.2 af);rw [hj] at h1;simp only [fM,cC] at h1;have tD:∀ {es:Array Edge} {k:Nat},(es.any fun e=>Region.binds .any e&&e.on==k)=true->∃ e∈es,Region.binds .any e=true/\e.on=k:=by
  intro es k h;rw [Km] at h;obtain⟨e,he,h2⟩:=h;simp only [aD,cC] at h2;exact⟨e,he,h2⟩
 rcases h1 with ((h1|h1)|h1)|h1
 . exact absurd h1.symm bg
 . exact .inl (tD h1)
 . exact .inr (.inl (tD h1))
 . exact .inr (.inr h1)
theorem aq2{P:Program}{l:List Oper}(l4:Nat->Bool)(Td:∀ i o,l4 i=true->l[i]? = some o->sH o.op=true)(gY:∀ (j:Nat) (o:Oper) cs b,l.toArray[j]? = some o->o.op ≠ .select cs b)(hQ:∀ c a w,¬ Q (.panic c) a w)(kj:∀ i,l4 i=true->xP l i=true)(Inv:Array Bool->Act->World->Prop)(gH:∀ listed a w,Inv listed a w->Region.ready .any l.toArray listed = []->Q .normal a w)(rz:∀ listed a w i o,Inv listed a w->i∈Region.ready .any l.toArray listed->l4 i=true->l[i]? = some o->∃ v,Yields P l.toArray o v a/\Inv (listed.setIfInBounds i true) (a.put o.dst v) w)(tE:∀ listed a w i,Inv listed a w->i∈Region.ready .any l.toArray listed->(∀ j∈Region.ready .any l.toArray listed,l4 j=false)->wpOpIn Fence.wide 0 P l.toArray Q i (Inv (listed.setIfInBounds i true)) a w) :
 ∀ (fuel:Nat) (listed:Array Bool) (a:Act) (w:World),listed.toList.count false<=fuel->Inv listed a w->wpAnyIn Fence.wide 0 P .any l.toArray Q fuel listed a w:=by
 have Te:∀ (listed:Array Bool) (i:Nat),i∈Region.ready .any l.toArray listed->(listed.setIfInBounds i true).toList.count false+1=listed.toList.count false:=by
  intro listed i hi;obtain⟨h1,_⟩:=mem_ready.1 hi;obtain⟨_,af⟩:=Qr h1;have h2:listed.toList[i]'Dt=false:=by
   rw [qI,qJ af] at h1;simpa using h1
  rw [aD0];have h3:=List.count_set (l:=listed.toList) (i:=i) (a:=true) (b:=false) Dt;have h4:0<listed.toList.count false:=List.count_pos_iff.2 (h2▸lV _);have e1:((listed.toList[i]'(by simpa using af))==false)=true:=by rw [h2]; rfl
  have e2:(true==false)=false:=rfl;rw [h3];simp only [e1,e2,fH,fk,dK];omega
 intro fuel
 induction fuel with
 | zero =>
  intro listed a w hc h;have hr:Region.ready .any l.toArray listed = []:=by
   rw [Dd];intro i hi;have:=Te listed i hi;omega
  exact⟨hr,gH listed a w h hr⟩
 | succ fuel ih =>
  intro listed a w hc h;by_cases hex:∃ i,i∈Region.ready .any l.toArray listed/\l4 i=true
  . obtain⟨i,hi,qn⟩:=hex;obtain⟨sO,o,ho,nY⟩:=mem_ready.1 hi;have ho':l[i]? = some o:=by simpa using ho
    obtain⟨v,hy,h2⟩:=rz listed a w i o h hi qn ho';refine wpAnyIn_first rfl ho gY (fun c a w hq=>(hQ c _ w hq).elim) fuel listed a w (fun j oj eQ bg gL ke => ?_) hi ⟨hy,fun w=>Se (Td i o qn ho') _ w⟩ (ih _ _ _ (by have:=Te listed i hi; omega) h2);rcases Tb (kj i qn) ho' Hs bg with ⟨e,he,hb,wB⟩|⟨e,he,hb,wB⟩|h3
    . have h4:=nY e he hb;exact Tf
    . exact absurd wB (ke e he hb)
    . exact h3
  . refine⟨fun hr=>gH listed a w h hr,fun i hi => ?_⟩;have ch:∀ j∈Region.ready .any l.toArray listed,l4 j=false:=fun j hj=>by
     cases hq:l4 j with
     | false=>rfl
     | true=>exact (hex ⟨j,hj,hq⟩).elim
    exact wpOpIn_mono (fun a' w' h'=>ih _ _ _ (by have:=Te listed i hi; omega) h') (tE listed a w i h hi ch)
theorem aq3(h:j ∉ σ):iI σ j = σ.length:=by
 induction σ with
 | nil=>rfl
 | cons k l ih =>
  unfold iI;rw [ax (by rintro rfl; exact h (by simp)),ih fun hm=>h (by simp [hm])];rfl
section
variable{P:Program}{Q:Exit->Act->World->Prop}{l:List Oper}{σ:List Nat}
theorem B6(h:fQ σ l.length=true) : σ.length=l.length:=by
 simp only [fQ,aD,cC] at h;exact h.1.1
theorem Ht(h:fQ σ l.length=true)(hj:j<l.length) : σ[iI σ j]? = some j:=by
 simp only [fQ,aD,cC] at h;have:=fc.1 h.1.2 j (iV.2 hj);simpa using this
theorem acz(h:fQ σ l.length=true){k:Nat}(hk : σ[k]? = some i):i<l.length/\iI σ i=k:=by
 have af:=(c8.1 hk).1;rw [B6 h] at af;simp only [fQ,aD,cC] at h;have:=fc.1 h.2 k (iV.2 af);rw [hk] at this;simpa using this
theorem acA(h:fQ σ l.length=true)(hj:l.length<=j):iI σ j=l.length:=by
 rw [aq3,B6 h];intro hm;obtain⟨k,hk⟩:=mn.1 hm;have:=(acz h hk).1;omega
theorem Tg(h:fQ σ l.length=true)(j:Nat):(cG σ l)[iI σ j]? = (l[j]?).map (qj σ):=by
 rcases cv j l.length with hj|hj
 . unfold cG;rw [gC,Ht h hj,bq hj];simp [hj]
 . rw [acA h hj,vF hj,vF (by unfold cG; simp [B6 h])];rfl
def wC(σ:List Nat)(n:Nat)(listed acB:Array Bool):Prop:=listed.size=n/\acB.size=n/\∀ j,j<n->acB[iI σ j]? = listed[j]?
theorem wC.getD(h:fQ σ l.length=true){L:Array Bool}(hs:wC σ l.length L L')(j:Nat)(d:Bool):L'.getD (iI σ j) d=L.getD j d:=by
 rw [qI,qI];rcases cv j l.length with hj|hj
 . rw [hs.2.2 j hj]
 . rw [acA h hj,FR (by rw [hs.2.1]; exact aN _),FR (by rw [hs.1]; exact hj)]
theorem wC.set(h:fQ σ l.length=true){L:Array Bool}(hs:wC σ l.length L L')(hi:i<l.length):wC σ l.length (L.setIfInBounds i true) (L'.setIfInBounds (iI σ i) true):=by
 refine⟨by simp [hs.1],by simp [hs.2.1],fun j hj => ?_⟩;rw [Kh,Kh,hs.2.2 j hj];have hp:=(c8.1 (Ht h hi)).1;rw [B6 h] at hp;by_cases e:i=j
 . subst e;rw [aG rfl,aG rfl,aG (by rw [hs.2.1]; exact hp),aG (by rw [hs.1]; exact hi)]
 . rw [ax e,ax];intro e2;have h1:=Ht h hi;have h2:=Ht h hj;rw [e2,h2] at h1;injection h1 with h1;exact e h1.symm
theorem Th(h:fQ σ l.length=true){L:Array Bool}(hs:wC σ l.length L L')(i:Nat):iI σ i∈Region.ready .any (cG σ l).toArray L'↔i∈Region.ready .any l.toArray L:=by
 rw [mem_ready,mem_ready,hs.getD h];have hg:(cG σ l).toArray[iI σ i]? = (l.toArray[i]?).map (qj σ):=by simpa using Tg h i
 constructor
 . rintro⟨h1,o',ho',h2⟩
   rw [hg] at ho'
   cases ho:l.toArray[i]? with
   | none=>rw [ho] at ho'; cases ho'
   | some o =>
    rw [ho] at ho';simp only [dG,bU] at ho';subst ho';refine⟨h1,o,rfl,fun e he hb => ?_⟩;have h3:=h2 (L8 σ e) (Array.mem_map.2 ⟨e,he,rfl⟩) hb;rwa [show (L8 σ e).on=iI σ e.on from rfl,hs.getD h] at h3
 . rintro⟨h1,o,ho,h2⟩
   refine⟨h1,qj σ o,by rw [hg,ho]; rfl,fun e' nX hb => ?_⟩;obtain⟨e,he,rfl⟩:=Array.mem_map.1 nX;have h3:=h2 e he hb;rw [show (L8 σ e).on=iI σ e.on from rfl,hs.getD h];exact h3
theorem aq4(h:fQ σ l.length=true)(o:Oper)(t:Array Value):Region.wanted (qj σ o) (yielded (cG σ l).toArray t)=Region.wanted o (yielded l.toArray t):=by
 unfold Region.wanted qj
 cases hg:o.guard with
 | none=>rfl
 | some gb =>
  obtain⟨g,b⟩:=gb;have hy:yielded (cG σ l).toArray t (iI σ g)=yielded l.toArray t g:=by
   unfold yielded;have B7:(cG σ l).toArray[iI σ g]? = (l.toArray[g]?).map (qj σ):=by simpa using Tg h g
   rw [B7];cases l.toArray[g]? <;> rfl
  simp only [hy]
theorem aq5(h:fQ σ l.length=true)(hw:wpOpIn Fence.wide 0 P (cG σ l).toArray Q (iI σ i) K a w):wpOpIn Fence.wide 0 P l.toArray Q i K a w:=by
 unfold wpOpIn at hw ⊢;have hg:(cG σ l).toArray[iI σ i]? = (l.toArray[i]?).map (qj σ):=by simpa using Tg h i
 rw [hg] at hw
 cases ho:l.toArray[i]? with
 | none=>rw [ho] at hw; exact hw
 | some o =>
  rw [ho] at hw;simp only [dG,aq4 h] at hw;exact hw
theorem aq6(h:fQ σ l.length=true):∀ (fuel:Nat) (L L':Array Bool) (a:Act) (w:World),wC σ l.length L L'->wpAnyIn Fence.wide 0 P .any (cG σ l).toArray Q fuel L' a w->wpAnyIn Fence.wide 0 P .any l.toArray Q fuel L a w:=by
 have gg:∀ {L L':Array Bool},wC σ l.length L L'->Region.ready .any l.toArray L = []->Region.ready .any (cG σ l).toArray L' = []:=by
  intro L L' hs hr;rw [Dd];intro k hk;obtain⟨_,o,ho,_⟩:=mem_ready.1 hk;have af:k < σ.length:=by
   have:=(pV.1 ho).1;simpa [cG] using this
  obtain⟨_,hp⟩:=acz h (bq af);rw [<- hp] at hk;have:=(Th h hs _).1 hk;rw [hr] at this;cases this
 have uS:∀ {L L':Array Bool},wC σ l.length L L'->Region.ready .any (cG σ l).toArray L' = []->Region.ready .any l.toArray L = []:=by
  intro L L' hs hr;rw [Dd];intro i hi;have:=(Th h hs i).2 hi;rw [hr] at this;cases this
 intro fuel
 induction fuel with
 | zero=>intro L L' a w hs hw; exact⟨uS hs hw.1,hw.2⟩
 | succ fuel ih =>
  intro L L' a w hs hw;refine⟨fun hr=>hw.1 (gg hs hr),fun i hi => ?_⟩;obtain⟨_,o,ho,_⟩:=mem_ready.1 hi;have af:i<l.length:=by simpa using (pV.1 ho).1
  exact aq5 h (wpOpIn_mono (fun a' w' h'=>ih _ _ a' w' (hs.set h af) h') (hw.2 (iI σ i) ((Th h hs i).2 hi)))
theorem aq7{r:Option Nat}(rA:∀ o∈l,∀ c,o.op ≠ .defer c)(h:fQ σ l.length=true)(hm:P.follows .mixedOrders=true){id:Nat}(hw:wpAnyIn Fence.wide 0 P .any (cG σ l).toArray Q l.length (Array.replicate l.length false) a { w with drawn:=w.drawn+1 }):(Code.region id l.toArray true).wpIn (wd r) 0 P Q a w:=by
 refine wpIn_region_any hm (Mo (fun j o c ho=>rA o (gK (by simpa using ho)) c) _ _ _ _ ?_);have hs:wC σ l.length (Array.replicate l.length false) (Array.replicate l.length false):=by
  refine⟨by simp,by simp,fun j hj => ?_⟩;have hp:=(c8.1 (Ht h hj)).1;rw [B6 h] at hp;rw [YC,YC,aG hp,aG hj]
 have:=aq6 (P:=P) (Q:=Q) h l.length _ _ a _ hs hw;simpa using this
end
theorem Ti{l:List Oper}(h:BH l np l4=true)(ho:l[j]? = some o):∀ e∈o.after,Region.binds .any e=true->e.on<j:=by
 intro e he hb;have hj:=(c8.1 ho).1;unfold BH at h;have h1:=fc.1 h j (iV.2 hj);rw [ho] at h1;simp only [aD] at h1;have h2:=(amJ.1 h1.1) e he;simpa [hb] using h2
theorem aq8{l:List Oper}(h:BH l np l4=true)(ho:l[j]? = some o)(hn:np<=j):∀ i,i<np->l4 i=true\/waits .any l.toArray l.length j i=true:=by
 intro i hi;have hj:=(c8.1 ho).1;unfold BH at h;have h1:=fc.1 h j (iV.2 hj);rw [ho] at h1;simp only [aD,fM,aU] at h1;rcases h1.2 with h2|h2
 . omega
 . have h3:=fc.1 h2 i (iV.2 hi);simpa using h3
theorem acC{P:Program}(h:wpAnyIn Fence.wide 0 P .any ops Q n listed a w)(hr:Region.ready .any ops listed = []):Q .normal a w:=by
 cases n with
 | zero=>exact h.2
 | succ n=>exact h.1 hr
theorem aq9{P:Program}(h:wpAnyIn Fence.wide 0 P .any ops Q n listed a w)(hr:i∈Region.ready .any ops listed):wpOpIn Fence.wide 0 P ops Q i (fun a w=>∃ n,wpAnyIn Fence.wide 0 P .any ops Q n (listed.setIfInBounds i true) a w) a w:=by
 cases n with
 | zero=>rw [h.1] at hr; cases hr
 | succ n=>exact wpOpIn_mono (fun a w h=>⟨n,h⟩) (h.2 i hr)
theorem ara{P:Program}{l:List Oper}(np:Nat)(l4:Nat->Bool)(R:Nat->Value->Nat->Nat->World->Prop)(hO:BH l np l4=true)(MC:np<=l.length)(hd:AW l np a0.tmps.size=true)(Eu:∀ i,l4 i=true->i<np)(Td:∀ i o,l4 i=true->l[i]? = some o->sH o.op=true)(gY:∀ (j:Nat) (o:Oper) cs b,l.toArray[j]? = some o->o.op ≠ .select cs b)(hQ:∀ c a w,¬ Q (.panic c) a w)(kj:∀ i,l4 i=true->xP l i=true)(hR:∀ i v lo hi w w',R i v lo hi w->hi<=w.heap.size->dL w w'->R i v lo hi w')(arb:∀ i o,i<np->l4 i=true->l[i]? = some o->∀ (L:Nat->Bool) (a:Act) (w:World) (val:Nat->Value) (lo hi:Nat->Nat),Made w0 a0 l np R L a w val lo hi->(∀ e∈o.after,Region.binds .any e=true->L e.on=true)->L i=false->(∀ j oj,L j=true->l[j]? = some oj->∀ e∈oj.after,Region.binds .any e=true->L e.on=true) ->
  ∃ v,Yields P l.toArray o v a/\R i v w.heap.size w.heap.size w)(tE:∀ i o,i<np->l[i]? = some o->∀ (L:Nat->Bool) (a:Act) (w:World) (val:Nat->Value) (lo hi:Nat->Nat),Made w0 a0 l np R L a w val lo hi->(∀ e∈o.after,Region.binds .any e=true->L e.on=true)->L i=false->(∀ j oj,L j=true->l[j]? = some oj->∀ e∈oj.after,Region.binds .any e=true->L e.on=true) ->
  wpOpIn Fence.wide 0 P l.toArray Q i (fun a' w'=>∃ v,a'=a.put o.dst v/\dL w w'/\R i v w.heap.size w'.heap.size w') a w)(hK:∀ (val:Nat->Value) (lo hi:Nat->Nat) (w:World),dL w0 w->(∀ i,i<np->w0.heap.size<=lo i/\lo i<=hi i/\hi i<=w.heap.size/\R i (val i) (lo i) (hi i) w)->(∀ i j,i<np->j<np->i≠j->hi i<=lo j\/hi j<=lo i)->∀ listed:Array Bool,listed.size=l.length->(∀ j,LL listed j=decide (j<np))->∃ n,wpAnyIn Fence.wide 0 P .any l.toArray Q n listed (p5 val 0 (l.take np) a0) w) :
 wpAnyIn Fence.wide 0 P .any l.toArray Q l.length (Array.replicate l.length false) a0 w0.drew:=by
 refine aq2 l4 Td gY hQ kj (fun listed a w=>listed.size=l.length/\so .any l.toArray listed/\((∃ val lo hi,Made w0 a0 l np R (LL listed) a w val lo hi/\∀ j,np<=j->LL listed j=false)\/((∀ j,j<np->LL listed j=true)/\∃ n,wpAnyIn Fence.wide 0 P .any l.toArray Q n listed a w))) ?_ ?_ ?_ _ _ _ _ ?_ ?_
 . rintro listed a w ⟨bc,c7,H⟩ hr
   have ch:∀ j,j<l.length->LL listed j=true:=by
    intro j
    induction j using Nat.strongRecOn with
    | ind j ih =>
     intro hj
     cases hq:LL listed j with
     | true=>rfl
     | false =>
      exfalso;have iM:j∈Region.ready .any l.toArray listed:=by
       rw [mem_ready];refine⟨?_,l[j],by simp [hj],fun e he hb => ?_⟩
       . exact acD
       . have h1:=Ti hO (bq hj) e he hb;exact ih e.on h1 oo
      rw [hr] at iM;cases iM
   rcases H with ⟨val,lo,hi,M,wD⟩|⟨_,n,hw⟩
   . have oD:np=l.length:=by
      rcases cv np l.length with h|h
      . have h1:=ch np h;rw [wD np (aN _)] at h1;cases h1
      . omega
     have Tj:=M.act (fun i hi=>ch i oo) hd;obtain⟨n,h1⟩:=hK val lo hi w M.AU (fun i hi=>M.rows i hi (ch i oo)) (fun i j hi hj iH=>M.apart i j hi hj (ch i oo) (ch j oo) iH) listed bc fun j=>by
      rcases cv j np with h|h
      . rw [ch j oo]; simp [h]
      . rw [wD j h]; simp [Nat.not_lt.2 h]
     rw [<- Tj] at h1;exact acC h1 hr
   . exact acC hw hr
 . rintro listed a w i o ⟨bc,c7,H⟩ hr qn ho'
   obtain⟨sO,o2,ho,nY⟩:=mem_ready.1 hr;have Tk:o2=o:=by
    have:l.toArray[i]? = some o:=by simpa using ho'
    rw [this] at ho;injection ho with ho;exact ho.symm
   subst Tk;obtain⟨hn,af⟩:=Qr sO;have hL:=Dy (listed:=listed) (i:=i) af;have hinp:=Eu i qn;rcases H with ⟨val,lo,hi,M,wD⟩|⟨B8,_⟩
   . obtain⟨v,hy,hv⟩:=arb i o2 hinp qn ho' (LL listed) a w val lo hi M (fun e he hb=>by have:=nY e he hb; unfold LL; exact this) hn (fun j oj hj eQ e he hb=>c7 j oj Hs hj e he hb);refine⟨v,hy,by simp [bc],c7.Dx hr,.inl ⟨_,_,_,M.next hinp ho' hd hR (dU _ _) hv hL hn,fun j hj => ?_⟩⟩;rw [hL,ax oo];exact wD j hj
   . rw [B8 i hinp] at hn;cases hn
 . rintro listed a w i ⟨bc,c7,H⟩ hr arc
   obtain⟨sO,o,ho,nY⟩:=mem_ready.1 hr;obtain⟨hn,af⟩:=Qr sO;have ho':l[i]? = some o:=by simpa using ho
   have hL:=Dy (listed:=listed) (i:=i) af
   -- Bh first part is done ahead of a late operation
   have DD:np<=i->∀ j,j<np->LL listed j=true:=by
    intro hinp j
    induction j using Nat.strongRecOn with
    | ind j ih =>
     intro hj;rcases aq8 hO ho' hinp j hj with hrj|hw
     . cases hq:LL listed j with
       | true=>rfl
       | false =>
        exfalso;have gL:j<l.length:=oo
        have iM:j∈Region.ready .any l.toArray listed:=by
         rw [mem_ready];refine⟨?_,l[j],by simp [gL],fun e he hb => ?_⟩
         . exact acD
         . have h1:=Ti hO (bq gL) e he hb;exact ih e.on h1 oo
        rw [arc j iM] at hrj;cases hrj
     . exact Qm c7 _ i j o ho nY hw
   have post:(∀ j,j<np->LL listed j=true)->∀ n,wpAnyIn Fence.wide 0 P .any l.toArray Q n listed a w->wpOpIn Fence.wide 0 P l.toArray Q i (fun a w=>(listed.setIfInBounds i true).size=l.length/\so .any l.toArray (listed.setIfInBounds i true)/\((∃ val lo hi,Made w0 a0 l np R (LL (listed.setIfInBounds i true)) a w val lo hi/\∀ j,np<=j->LL (listed.setIfInBounds i true) j=false)\/((∀ j,j<np->LL (listed.setIfInBounds i true) j=true)/\∃ n,wpAnyIn Fence.wide 0 P .any l.toArray Q n (listed.setIfInBounds i true) a w))) a w:=by
    intro B8 n hw;refine wpOpIn_mono (fun a' w' h'=>⟨by simp [bc],c7.Dx hr,.inr ⟨fun j hj => ?_,h'⟩⟩) (aq9 hw hr);rw [hL];split
    . rfl
    . exact B8 j hj
   rcases H with ⟨val,lo,hi,M,wD⟩|⟨B8,n,hw⟩
   . rcases cv i np with hinp|hinp
     . refine wpOpIn_mono (fun a' w' h' => ?_) (tE i o hinp ho' (LL listed) a w val lo hi M (fun e he hb=>by have:=nY e he hb; unfold LL; exact this) hn (fun j oj hj eQ e he hb=>c7 j oj Hs hj e he hb));obtain⟨v,rfl,hf,hv⟩:=h';refine⟨by simp [bc],c7.Dx hr,.inl ⟨_,_,_,M.next hinp ho' hd hR hf hv hL hn,fun j hj => ?_⟩⟩;rw [hL,ax oo];exact wD j hj
     . have uy:∀ j,j<np->LL listed j=true:=DD hinp;have Tj:=M.act (fun j hj=>uy j hj) hd;obtain⟨n,h1⟩:=hK val lo hi w M.AU (fun j hj=>M.rows j hj (uy j hj)) (fun j k hj hk mq=>M.apart j k hj hk (uy j hj) (uy k hk) mq) listed bc fun j=>by
        rcases cv j np with h|h
        . rw [uy j h]; simp [h]
        . rw [wD j h]; simp [Nat.not_lt.2 h]
       rw [<- Tj] at h1;exact post uy n h1
   . exact post B8 n hw
 . simp
 . have h0:∀ j,LL (Array.replicate l.length false) j=false:=fun j=>by
    unfold LL;rw [qI,YC];split<;>rfl
   refine⟨by simp,fun j oj _ hl=>(by simp [YC] at hl; split at hl<;>simp at hl),.inl ⟨fun _=>undef,fun _=>0,fun _=>0,⟨rfl,rfl,(dU _ _).drew,fun i _ h => ?_,fun i j _ _ h => ?_,fun i o d _ _ _ h => ?_,fun s _=>rfl⟩,fun j _ => ?_⟩⟩
   . rw [h0] at h; cases h
   . rw [h0] at h; cases h
   . rw [h0] at h; cases h
   . exact h0 j
def AV.tF:AV->Bool
 | .int _ _=>true
 | .lit _ _=>true
 | .bool _=>true
 | .aV _=>true
 | .str _=>true
 | _=>false
section
variable{P:Program}{r:Operand->Value}{d:Option Nat}{ty:TypeId}{pos:String}{aft:Array Edge}{gd:Option (Nat×Bool)}{u v:Value}{w w':World}
variable{ρ ρ':Nat->Option Rl}{base lD:Nat}{ro ro':Nat->Prop}{ge:Nat->Option En}
theorem aj.acF{x:AV}(h:aj w ρ base ro x v)(hx:x.tF=true):aj w' ρ' lD ro' x v:=by
 cases h<;>first|exact .int _ _|exact .lit _ _|exact .bool _|exact .aV _|exact .str _|cases hx
theorem aj.ard{x:AV}(h:aj w ρ base ro x v)(h':aj w' ρ' lD ro' x u)(hx:x.tF=true):v=u:=by
 cases h<;>first|(cases h'; rfl)|cases hx
theorem MN{x:AV}{k:IntKind}{n:Unit->Int}(h:x.asInt=some (k,n)):x.tF=true:=by
 cases x<;>first|rfl|cases h
theorem acG{x:AV}{n:Unit->Bool}(h:x.asBool=some n):x.tF=true:=by
 cases x<;>first|rfl|cases h
theorem acH{k:IntKind}{a b:Unit->Int}{av:AV}(h:arith op k a b=some (av,vcs)):av.tF=true:=by
 unfold arith at h;split at h<;>first|(split at h<;>(cases h; rfl))|(cases h; rfl)|cases h
theorem acI{k:IntKind}{a b:Unit->Int}{av:AV}(h:DQ ti op k a b=some (av,vcs)):av.tF=true:=by
 unfold DQ at h;split at h
 . unfold Q5 at h;split at h<;>first|(cases h; rfl)|exact acH h
 . exact acH h
theorem arf{a b av:AV}(h:Bm ti op a b=some (av,vcs)):a.tF=true/\b.tF=true/\av.tF=true:=by
 have zF:∀ op,DR op a b=some (av,vcs)->a.tF=true/\b.tF=true/\av.tF=true:=by
  intro op h;unfold DR at h;split at h
  . rename_i k m k' n e1 e2;cases h;exact⟨MN e1,MN e2,rfl⟩
  . cases h
 unfold Bm at h;split at h
 . exact zF _ h
 . exact zF _ h
 split at h
 . split at h
   . rename_i k m k' n _;split at h
     . rename_i q hf;cases h;refine⟨rfl,rfl,?_⟩;unfold fold at hf;split at hf<;>first|(cases hf; rfl)|(cases hf; done)|(split at hf<;>first|(cases hf; rfl)|cases hf)
     . exact⟨rfl,rfl,acI h⟩
   . cases h
 . unfold Lh at h;split at h<;>first|(cases h; exact⟨rfl,rfl,rfl⟩)|cases h
 . split at h
   . rename_i k a' k' b' h1 h2;split at h
     . exact⟨MN h1,MN h2,acI h⟩
     . cases h
   . split at h
     . rename_i a' b' h1 h2;split at h
       . unfold Li at h;split at h<;>first|(cases h; exact⟨acG h1,acG h2,rfl⟩)|cases h
       . cases h
     . cases h
theorem acJ{tb:lE}{cs:List aC}{g:Operand->AV}{op:Op}{av:AV}(rz:sH op=true)(aQ:dp P tb)(cR:∀ loc e,ge loc=some e->dz w ρ base ro loc e)(hg:∀ x∈op.operands,aj w ρ base ro (g x) (r x))(h:po tb cs ge g op=some (av,vcs))(hv:∀ c∈vcs,c ()):∃ v,(∀ w',(execOp r ⟨d,op,ty,pos,aft,gd⟩).run P w' = .ok (.value v) w')/\aj w ρ base ro av v:=by
 cases op<;>simp only [sH,fk] at rz
 case move x =>
  simp only [po,bU,um] at h;obtain⟨rfl,rfl⟩:=h;exact⟨r x,fun w'=>ZF rfl,hg _ ju⟩
 case assign x =>
  simp only [po,bU,um] at h;obtain⟨rfl,rfl⟩:=h;exact⟨r x,fun w'=>ZG rfl,hg _ ju⟩
 case binOp op T x y t' =>
  simp only [po] at h;have hx:=hg x ju;have hy:=hg y zh;by_cases p9:(∃ cs,g x = .agg cs)/\∃ ds,g y = .agg ds
  . obtain⟨⟨cs,h1⟩,ds,h2⟩:=p9;rw [h1,h2] at h;rw [h1] at hx;rw [h2] at hy;exact aaw (d:=d) (ty:=ty) (pos:=pos) (aft:=aft) (gd:=gd) aQ h hx hy
  replace h:Bm (fZ tb T) op (g x) (g y)=some (av,vcs):=by
   unfold GI at h;split at h
   . rename_i cs ds h1 h2;exact (p9 ⟨⟨cs,h1⟩,ds,h2⟩).elim
   . exact h
  obtain⟨h1,h2,h3⟩:=arf h;obtain⟨v,k1,k2⟩:=Rb (d:=d) (ty:=ty) (pos:=pos) (aft:=aft) (gd:=gd) (t':=t') aQ h hv hx hy;refine⟨v,fun w' => ?_,k2⟩;obtain⟨v',k3,k4⟩:=Rb (w:=w') (ρ := ρ) (base:=base) (ro:=ro) (d:=d) (ty:=ty) (pos:=pos) (aft:=aft) (gd:=gd) (t':=t') aQ h hv (hx.acF h1) (hy.acF h2);rw [k2.ard k4 h3];exact k3
 case unOp op T x =>
  have hx:=hg x ju;have hn:∀ k n w',r x = .int k n->(execOp r ⟨d,.unOp .neg T x,ty,pos,aft,gd⟩).run P w' = .ok (.value (.int k (k.wrap (-n)))) w':=by
   intro k n w' he;exact aaT
  cases op<;>simp only [po] at h
  all_goals first|cases h|skip
  all_goals (split at h<;>try cases h)
  . rename_i k n he;rw [he] at hx;exact⟨_,fun w'=>hn _ _ w' hx.nO,.lit _ _⟩
  . rename_i n he;rw [he] at hx;refine⟨_,fun w'=>hn _ _ w' hx.jU,?_⟩;rw [Bt (hv _ (.head _))];exact .int _ fun _ => -n ()
  . rename_i k n _ he;rw [he] at hx;exact⟨_,fun w'=>hn _ _ w' hx.jU,.int _ fun _=>k.wrap (-n ())⟩
  . rename_i b he;rw [he] at hx;exact⟨_,fun w'=>KU hx.re rfl,.aV _⟩
  . rename_i b he;rw [he] at hx;exact⟨_,fun w'=>KU hx.qb rfl,.bool _⟩
 case convert s t x =>
  have hx:=hg x ju;simp only [po] at h;split at h
  . rename_i k0 k kk n e1 e2 he;cases h;rw [he] at hx;obtain⟨i1,_,h1,h2⟩:=fD aQ e1;obtain⟨i2,_,h3,h4⟩:=fD aQ e2;obtain⟨LJ,gF,_⟩:=oB h2;exact⟨_,fun w'=>DO hx.nO gF (DU h4 h3) rfl rfl,.lit _ _⟩
  . rename_i k0 k kk n e1 e2 he;rw [he] at hx;obtain⟨i1,_,h1,h2⟩:=fD aQ e1;obtain⟨i2,_,h3,h4⟩:=fD aQ e2;obtain⟨LJ,gF,_⟩:=oB h2;split at h
    . rename_i hk;subst hk;cases h;exact⟨_,fun w'=>DO hx.jU gF (DU h4 h3) (Bt (hv _ (.head _))) rfl,.int _ _⟩
    . cases h;exact⟨_,fun w'=>DO hx.jU gF (DU h4 h3) rfl rfl,.int _ fun _=>k.wrap (n ())⟩
  . cases h
 case fieldAddr T x f =>
  have hx:=hg x ju;simp only [po] at h
  cases hT:al tb T with
  | none=>rw [hT] at h; cases h
  | some i =>
   rw [hT] at h;simp only [FY] at h;split at h
   . rename_i off sz a hf;split at h
     . cases h
     . rename_i bc
       cases ha:Bn (g x) off with
       | none=>rw [ha] at h; cases h
       | some nP =>
        rw [ha] at h;cases h;obtain⟨b,o,h1,h2⟩:=Re ha hx;exact⟨_,fun w'=>ZH h1 (aak (aQ T i hT) hf (by simpa using bc)) rfl,h2⟩
   . cases h
 case extract x i =>
  have hx:=hg x ju;simp only [po] at h;split at h
  . rename_i l he
    cases hl:l[i]? with
    | none=>rw [hl] at h; cases h
    | some nP =>
     rw [hl] at h;cases h;rw [he] at hx;obtain⟨vs,h1,hE⟩:=hx.Lr;obtain⟨v,h2,h3⟩:=hE.get hl;exact⟨v,fun w'=>ZK h1 (by simpa using h2),h3⟩
  . cases h
 case indexAddr T x y =>
  have hx:=hg x ju;have hy:=hg y zh;simp only [po] at h;split at h
  . rename_i e sz b fr t l kk k e1 e2 e3;split at h
    . rename_i hs;cases h;rw [e2] at hx;obtain⟨i,_,h1,h2⟩:=fD aQ e1;obtain⟨v,k1,k2⟩:=Rn (d:=d) (ty:=ty) (pos:=pos) (aft:=aft) (gd:=gd) h2 h1 (eq_of_beq hs) hx (kb e3 hy) (hv _ (.head _));exact⟨v,k1,k2⟩
    . cases h
  . rename_i e sz b fr t l n kk k e1 e2 e3;split at h
    . rename_i hs;cases h;rw [e2] at hx;obtain⟨i,_,h1,h2⟩:=fD aQ e1;obtain⟨v,k1,k2⟩:=aaB (d:=d) (ty:=ty) (pos:=pos) (aft:=aft) (gd:=gd) h2 h1 (eq_of_beq hs) hx (kb e3 hy) (hv _ (.head _));exact⟨v,k1,k2⟩
    . cases h
  . rename_i e sz b kk k e1 e3 _ _;obtain⟨i,_,h1,h2⟩:=fD aQ e1;exact aao (d:=d) (ty:=ty) (pos:=pos) (aft:=aft) (gd:=gd) cR h2 h1 h hx (kb e3 hy) hv
  . exact aaD (d:=d) (ty:=ty) (pos:=pos) (aft:=aft) (gd:=gd) aQ h hx hy
end
section
variable{P:Program}{w w' w0:World}{S0:Pm}{Φ : Pm->Prop}{N:Nat}{B:Bs}{S:Sx}{a a0:Act}{C:Cx}{Q:Exit->Act->World->Prop}
theorem acK(aQ:dp P C.ty)(aS:oM P C w0 Φ){l:List Oper}(ho:l[i]? = some o){k:Sx->Fm}(hk:∀ S' a' w',bj w0 Φ N B S' a' w'->(k S').P->K a' w')(h:(cF C N B l [o] S k).P)(H:bj w0 Φ N B S a w):wpOpIn Fence.wide 0 P l.toArray Q i K a w:=by
 obtain⟨r,S1,mB,B5⟩:=MM h;obtain⟨hw,H1⟩:=mB.seq H;unfold wpOpIn;simp only [FO,ho];rcases B5 with ⟨rfl,⟨S2,vcs,hs,hv,h2⟩|⟨f,hs,h2⟩⟩|⟨rfl,S2,hs,h2⟩
 . rw [aG hw];exact (aci aQ aS H1 hs hv).wp fun a' w' H2=>hk _ _ _ H2 h2
 . rw [aG hw];exact (acm aQ aS H1 hs h2).wp fun a' w' ⟨S',H2,h3⟩=>hk _ _ _ H2 h3
 . rw [ax (by rw [hw]; simp)];exact⟨fun _ _=>trivial,hk _ _ _ (S4 H1 hs) h2⟩
theorem arh{op:Op}(h:sH op=true):mH ef op=true:=by cases op<;>first|rfl|cases h
theorem acL(aQ:dp P C.ty){l:List Oper}(rz:sH o.op=true)(hd:o.dst=some d){k:Sx->Fm}(h:(cF C N B l [o] S k).P)(H:bj w0 Φ N B S a w):∃ v S',Yields P l.toArray o v a/\bj w0 Φ N B S' (a.put o.dst v) w/\(k S').P:=by
 obtain⟨r,S1,mB,B5⟩:=MM h;obtain⟨hw,H1⟩:=mB.seq H;have hp:mH (cB C) o.op=true:=arh rz;rcases B5 with ⟨rfl,⟨S2,vcs,hs,hv,h2⟩|⟨f,hs,h2⟩⟩|⟨rfl,S2,hs,h2⟩
 . unfold pC at hs;split at hs
   . rename_i av MK wA;rw [hd] at hs;dsimp only at hs
     cases fR:cb B S1 N d av with
     | none=>rw [fR] at hs; cases hs
     | some S3 =>
      rw [fR] at hs;cases hs;obtain⟨S0,hS,ρ,ro,H1⟩:=H1;obtain⟨dst,op,ty,pos,aft,gd⟩:=o;obtain⟨v,h8,h9⟩:=acJ (P:=P) (d:=dst) (ty:=ty) (pos:=pos) (aft:=aft) (gd:=gd) (r:=a.eval) rz aQ (fun q e he=>H1.en q e he) (fun x _=>H1.get x) wA hv;refine⟨v,S2,.inl ⟨hw,h8⟩,⟨S0,hS,ρ,ro,?_⟩,h2⟩;have qT:dst=some d:=hd;subst qT;exact H1.put fR h9
   . rw [acp hp] at hs;dsimp only at hs;rw [acr hp] at hs;dsimp only at hs;rw [acs hp] at hs;dsimp only at hs;rw [acu hp] at hs;cases hs
 . rw [acv hp] at hs;cases hs
 . exact⟨undef,S2,.inr ⟨hw,rfl⟩,S4 H1 hs,h2⟩
theorem Ev{k:Nat}{l:List Nat}:bV d (k::l)=(k==d||bV d l):=rfl
theorem Ew{l:List Oper}(bc:listed.size=l.length)(hL:∀ j,LL listed j=bV j done)(i:Nat):i∈nU l done↔i∈Region.ready .any l.toArray listed:=by
 unfold nU;rw [Ks,iV,mem_ready];have hg:∀ j,listed.getD j false=bV j done:=fun j=>hL j;constructor
 . rintro⟨hi,h⟩
   rw [bq hi] at h;simp only [aD,fG,amJ,fM] at h;refine⟨?_,l[i],by simp [hi],fun e he hb => ?_⟩
   . have h1:=hg i;rw [h.1,qI,qJ oo] at h1;rw [qI,qJ oo];exact h1
   . rw [hg];rcases h.2 e he with h2|h2
     . rw [hb] at h2; cases h2
     . exact h2
 . rintro⟨h1,o,ho,h2⟩
   have ho':l[i]? = some o:=by simpa using ho
   have hi:=(c8.1 ho').1;refine⟨hi,?_⟩;rw [ho'];simp only [aD,fG,amJ,fM];refine⟨?_,fun e he => ?_⟩
   . rw [<- hg,qI,qJ oo];rw [qI,qJ oo] at h1;exact h1
   . cases hb:Region.binds .any e with
     | false=>exact .inl rfl
     | true=>exact .inr (by rw [<- hg]; exact h2 e he hb)
theorem acM{f:Nat->Fm}:∀ {is:List Nat},(L9 is f).P->∀ i∈is,(f i).P
 | [],h,_,_=>h.elim
 | [i],h,j,hj=>by rw [oq] at hj; subst hj; exact h
 | i::k::is,h,j,hj=>by
  rcases gD.1 hj with rfl|hj
  . exact h.1
  . exact acM h.2 j hj
theorem Hu{l:List Oper}:∀ {is:List Nat} {i:Nat},zr l is=some i->i∈is/\∃ o d,l[i]? = some o/\sH o.op=true/\o.dst=some d/\xP l i=true
 | [],i,h=>by cases h
 | j::is,i,h=>by
  unfold zr at h
  cases ho:l[j]? with
  | none =>
   rw [ho] at h;dsimp only at h;rw [if_neg (by simp)] at h;obtain⟨h1,h2⟩:=Hu h;exact⟨.tail _ h1,h2⟩
  | some o =>
   rw [ho] at h;dsimp only at h;split at h
   . rename_i hc;injection h with h;subst h;simp only [aD,YB] at hc;obtain⟨⟨h1,d,h2⟩,h3⟩:=hc;exact⟨.head _,o,d,ho,h1,h2,h3⟩
   . obtain⟨h1,h2⟩:=Hu h;exact⟨.tail _ h1,h2⟩
theorem Tl(aQ:dp P C.ty)(aS:oM P C w0 Φ){l:List Oper}{k:Sx->Fm}(gY:∀ (j:Nat) (o:Oper) cs b,l.toArray[j]? = some o->o.op ≠ .select cs b)(hQ:∀ c a w,¬ Q (.panic c) a w)(hk:∀ S' a' w',bj w0 Φ N B S' a' w'->(k S').P->Q .normal a' w') :
 ∀ (fuel:Nat) (done:List Nat) (S:Sx) (a:Act) (w:World) (listed:Array Bool),(uM C N B l fuel done S k).P->bj w0 Φ N B S a w->listed.size=l.length->(∀ j,LL listed j=bV j done)->wpAnyIn Fence.wide 0 P .any l.toArray Q fuel listed a w
 | 0,done,S,a,w,listed,h,H,bc,hL=>by
  have hr:=Ew (l:=l) bc hL;unfold uM at h;split at h
  . rename_i he;rw [he] at hr;exact⟨Dd.2 fun i hi=>(by have:=(hr i).2 hi; cases this),hk _ _ _ H h⟩
  . exact h.elim
 | fuel+1,done,S,a,w,listed,h,H,bc,hL=>by
  have hr:=Ew (l:=l) bc hL;have nk:∀ i,i∈nU l done->(match l[i]? with
   | some o=>cF C N B l [o] S fun S'=>uM C N B l fuel (i::done) S' k
   | none => .ff 19:Fm).P->wpOpIn Fence.wide 0 P l.toArray Q i (wpAnyIn Fence.wide 0 P .any l.toArray Q fuel (listed.setIfInBounds i true)) a w:=by
   intro i hi h;obtain⟨sO,o,ho,_⟩:=mem_ready.1 ((hr i).1 hi);have ho':l[i]? = some o:=by simpa using ho
   rw [ho'] at h;have af:=(c8.1 ho').1;exact acK aQ aS ho' (fun S' a' w' H' h'=>Tl aQ aS gY hQ hk fuel _ _ _ _ _ h' H' (by simp [bc]) fun j=>by
    rw [Dy oo,hL,Ev];by_cases e:j=i
    . subst e; simp
    . rw [ax e];have:(i==j)=false:=by simpa using fun h=>e h.symm
      rw [this,uo]) h H
  unfold uM at h;dsimp only at h;split at h
  . rename_i he;rw [he] at hr;have Tm:Region.ready .any l.toArray listed = []:=Dd.2 fun i hi=>by have:=(hr i).2 hi; cases this
    exact⟨fun _=>hk _ _ _ H h,fun i hi=>by rw [Tm] at hi; cases hi⟩
  . rename_i i he;have iM:i∈nU l done:=by rw [he]; exact .head _
    refine⟨fun hn => ?_,fun j hj => ?_⟩
    . have:=(hr i).1 iM;rw [hn] at this;cases this
    . have:=(hr j).2 hj;rw [he,oq] at this;subst this;exact nk _ iM h
  . have bg:∀ (P:Prop),Region.ready .any l.toArray listed = []->(∃ i,i∈nU l done)->P:=fun P hn ⟨i,hi⟩=>by
     have:=(hr i).1 hi;rw [hn] at this;cases this
    split at h
    . rename_i i hf;obtain⟨iM,o,d,ho,rz,hd,kj⟩:=Hu hf;rw [ho] at h;obtain⟨v,S',hy,H',h'⟩:=acL aQ rz hd h H;have hi:=(hr i).1 iM;obtain⟨_,o2,rB,nY⟩:=mem_ready.1 hi;have af:=(c8.1 ho).1;have heq:o2=o:=by
       have h1:l[i]? = some o2:=by simpa using rB
       rw [ho] at h1;injection h1 with h1;exact h1.symm
      subst heq;refine wpAnyIn_first rfl rB gY (fun c a w hq=>(hQ c _ w hq).elim) fuel listed a w (fun j oj eQ bg gL ke => ?_) hi ⟨hy,fun w=>Se rz _ w⟩ ?_
      . rcases Tb kj ho Hs bg with ⟨e,he,hb,wB⟩|⟨e,he,hb,wB⟩|h3
        . have h4:=nY e he hb;exact Tf
        . exact absurd wB (ke e he hb)
        . exact h3
      . exact Tl aQ aS gY hQ hk fuel _ _ _ _ _ h' H' (by simp [bc]) fun j=>by
         rw [Dy oo,hL,Ev];by_cases e:j=i
         . subst e; simp
         . rw [ax e];have:(i==j)=false:=by simpa using fun h=>e h.symm
           rw [this,uo]
    . refine⟨fun hn=>bg _ hn ?_,fun j hj=>nk j ((hr j).2 hj) (acM h j ((hr j).2 hj))⟩;rename_i hx _ _ _
      cases he:nU l done with
      | nil=>exact (hx he).elim
      | cons i is=>exact⟨i,.head _⟩
theorem acN{l:List Oper}{np:Nat}(l6:Ed l np=true)(fN:∀ (j:Nat) (o:Oper),l[j]? = some o->∀ e∈o.after,Region.binds .any e=true->e.on<j) :
 ∀ (m k:Nat) (a:Act) (w:World) (listed:Array Bool),k+m=l.length->np<=k->listed.size=l.length->(∀ j,LL listed j=decide (j<k))->wpListIn Fence.wide 0 P l.toArray Q (l.drop k) a w->wpAnyIn Fence.wide 0 P .any l.toArray Q m listed a w
 | m,k,a,w,listed,hm,hn,bc,hL,hw=>by
  have hg:∀ j,listed.getD j false=decide (j<k):=fun j=>hL j;have acO:∀ i∈Region.ready .any l.toArray listed,i=k:=by
   intro i hi;obtain⟨sO,o,ho,nY⟩:=mem_ready.1 hi;have ho':l[i]? = some o:=by simpa using ho
   have af:=(c8.1 ho').1;have h1:¬ i<k:=fun h=>by
    have h2:=hg i;rw [qI,qJ oo] at h2 sO;simp only [iD] at h2 sO;rw [sO] at h2;simp [h] at h2
   have hc:=fc.1 l6 i (iV.2 af);rw [ho'] at hc;simp only [fM,aU,Km,aD,cC] at hc;rcases cv k i with h|h
   . rcases hc with hc|⟨e,he,hb,wB⟩
     . omega
     . have h3:=nY e he hb;rw [hg,aU] at h3;omega
   . omega
  match m with
  | 0 =>
   rw [yI oo] at hw;refine⟨Dd.2 fun i hi => ?_,hw⟩;have h1:=acO i hi;obtain⟨_,o,ho,_⟩:=mem_ready.1 hi;have ho':l[i]? = some o:=by simpa using ho
   have af:=(c8.1 ho').1;omega
  | m+1 =>
   have af:k<l.length:=oo
   have hk:k∈Region.ready .any l.toArray listed:=by
    rw [mem_ready];refine⟨?_,l[k],by simp [af],fun e he hb => ?_⟩
    . have h2:=hg k;rw [qI,qJ oo] at h2 ⊢;simpa using h2
    . rw [hg,aU];exact fN k _ (bq af) e he hb
   refine⟨fun h=>(by rw [h] at hk; cases hk),fun i hi => ?_⟩;obtain rfl:=acO i hi;rw [rZ af] at hw;have hst:wpOpIn Fence.wide 0 P l.toArray Q i (wpListIn Fence.wide 0 P l.toArray Q (l.drop (i+1))) a w:=by
    unfold wpOpIn;simp only [FO,bq af];exact hw
   refine wpOpIn_mono (fun a' w' h' => ?_) hst;refine acN l6 fN m (i+1) a' w' _ oo oo (by simp [bc]) (fun j => ?_) h';rw [Dy oo,hL];by_cases e:j=i
   . simp [e]
   . rw [ax e];by_cases h:j<i
     . simp [h,show j<i+1 from oo]
     . simp [h,show ¬ j<i+1 from oo]
theorem acP:bV j (List.range n)=decide (j<n):=by
 have h:∀ (l:List Nat),bV j l=decide (j∈l):=by
  intro l
  induction l with
  | nil=>rfl
  | cons k l ih =>
   rw [Ev,ih];by_cases e:j=k
   . subst e; simp
   . have:(k==j)=false:=by simpa using fun h=>e h.symm
     rw [this,uo];simp [e]
 rw [h];simp
end
end Go.Proofs.YtamjbkaclhgffaaGreat
