/-
  What single operations give is as the abstract run says: structs that are built, elements of slices, arguments of calls.
-/
import Derived.Test.YtamjbkaclhgffaaGreatSi4
set_option linter.all false
namespace Go.Proofs.YtamjbkaclhgffaaGreat
open Go.RowKit
variable{es:Array MapEntry}{ag fr fr':Bool}{kk:IntKind}{c:Kc}{vcs:List VC}{cs vs:List Value}{l:Lk}{T T' bb dK e et kt l2 loc m ml off sz:Nat}{place:Nat->Option (Nat×Nat)}{ge:Nat->Option En}{x y:Operand}{A:Option Addr}{hi lo o:Option Operand}{t t':Tc}{a b dd f:Unit->Int}{left n:Unit->Nat}{i:eH}{tb:j9}
section
variable{P:Program}{r:Operand->Value}{d:Option Nat}{ty:TypeId}{pos:String}{aft:Array Edge}{gd:Option (Nat×Bool)}{u v:Value}{w:World}
variable{ρ:Nat->Option Rl}{base:Nat}{ro ra:Nat->Prop}
theorem ala{x:AV}(h:O6 x v=true):af w ρ base ro x v:=by
 unfold O6 at h;split at h
 . simp only [ax,aL,cb] at h;obtain⟨rfl,rfl⟩:=h;exact .lit _ _
 . rw [eq_of_beq h];exact .aR _
 . rename_i s s';have h1:s ()=s':=by
    have h2:=eq_of_beq h
    cases hs:s () with
    | mk a =>
     rw [hs] at h2;cases s';simp only at h2;rw [h2]
   rw [<- h1];exact .str _
 . exact .nil
 . simp only [ax,aL,cb] at h;obtain⟨rfl,rfl⟩:=h;exact .int _ _
 . rw [<- eq_of_beq h];exact .bool _
 . rename_i fr t l;have e:Value.slice none 0 0=Value.slice none (l ()).length 0:=by rw [B4.1 h]; rfl
   rw [e];exact .sl _ _ _ none 0 [] (by rw [B4.1 h]; rfl) (aA _) (Rd.nil _ _ _ _) (fun _ h=>by cases h) (fun _ _ h=>by cases h) (fun k cs j x v h=>by simp at h)
 . exact .un _
 . cases h
theorem Po:∀ {l:List AV} {vs:List Value},Cz l vs=true->aV w ρ base ro l vs
 | [],[],_ => .nil
 | x::l,v::vs,h=>by
  simp only [Cz,ax] at h;exact .cons (ala h.1) (Po h.2)
 | [],_::_,h=>by cases h
 | _::_,[],h=>by cases h
theorem Yi(off):∀ (l pre z post:List Value) (k),z.length=l.length->pre.length=off+k->(l.zipIdx k).foldl (fun cs p=>cs.setIfInBounds (off+p.2) p.1) (pre++z++post).toArray=(pre++l++post).toArray
 | [],pre,z,post,k,h,_=>by
  have:z = []:=vJ (by simpa using h);subst this;rfl
 | x::l,pre,[],post,k,h,_=>by simp at h
 | x::l,pre,y::z,post,k,h,hp=>by
  have h1:=Yi off l (pre ++ [x]) z post (k+1) (by simpa using h) (by simp; omega);simp only [List.zipIdx_cons,Ep];have e:(pre++y::z++post).toArray.setIfInBounds (off+k) x=(pre ++ [x]++z++post).toArray:=by
   apply xF;rw [<- hp];simp
  rw [e];rw [h1];simp
theorem Pp{x:AV}(h:af w ρ base ro x v)(h1:∀ l,x ≠ .agg l)(h2:x ≠ .un):v.cells = #[v]:=by
 cases h<;>first|rfl|exact absurd rfl h2|exact absurd rfl (h1 _)
theorem Pr{i:Nat}{rest:List (Nat×Value)}(hp:place i=some (off,vs.length))(hv:v.cells=vs.toArray)(hl:off+vs.length<=cs.length) :
 Instr.fill place cs.toArray ((i,v)::rest)=Instr.fill place (cs.take off++vs++cs.drop (off+vs.length)).toArray rest:=by
 rw [Instr.fill];simp only [hp,hv,xz,ne_eq,Eb,vP,sV,gt_iff_lt,aL];rw [aw oo];have h1:=Yi off vs (cs.take off) ((cs.drop off).take vs.length) (cs.drop (off+vs.length)) 0 (by simp; omega) (by simp; omega);have e:cs.take off++(cs.drop off).take vs.length++cs.drop (off+vs.length)=cs:=by
  exact Xm
 rw [e] at h1;rw [<- h1,<- Array.foldl_toList];simp only [Array.toList_zipIdx]
theorem alb(x)(l:List Value)(n)(h:n<l.length):l.set n x=l.take n ++ [x]++l.drop (n+1):=by
 rw [List.set_eq_take_append_cons_drop,aC h];simp
theorem Ps{place:Nat->Option (Nat×Nat)}:∀ {ps:List (Nat×AV)} {qs:List (Nat×Value)} {cells:List AV} {cs:List Value} {out:List AV},aV w ρ base ro cells cs->ps.map (·.1)=qs.map (·.1)->aV w ρ base ro (ps.map (·.2)) (qs.map (·.2))->uG place cells ps=some out ->
 ∃ cs',Instr.fill place cs.toArray qs=some cs'.toArray/\aV w ρ base ro out cs'
 | [],[],cells,cs,out,hE,_,_,h=>by
  simp only [uG,bF] at h;subst h;exact⟨cs,rfl,hE⟩
 | (i,x)::ps,(i',v)::qs,cells,cs,out,hE,hi,hp,h=>by
  simp only [gz,ry] at hi;obtain⟨rfl,hi⟩:=hi;obtain⟨v',us,e,hx,cQ⟩:=hp.head;simp only [gz,ry] at e;obtain⟨rfl,rfl⟩:=e;unfold uG at h;split at h
  . cases h
  . rename_i off size cU;split at h
    . rename_i l;split at h
      . rename_i hs;simp only [ax,cb,aL] at hs;obtain⟨ji,uI⟩:=hs;obtain⟨vs,rfl,hl⟩:=hx.oK;subst ji;obtain⟨cs',h1,h2⟩:=Ps (((hE.take off).append hl).append (hE.drop (off+l.length))) hi cQ h;refine⟨cs',?_,h2⟩;rw [hl.1] at h1 cU uI;rw [Pr cU rfl (by rw [<- hE.1]; exact uI)];exact h1
      . cases h
    . cases h
    . cases h
    . rename_i xL Fa Pt;split at h
      . rename_i hs;simp only [ax,cb,aL] at hs;obtain⟨rfl,uI⟩:=hs;have hc:=Pp hx (fun l e=>xL l e) Fa;obtain⟨cs',h1,h2⟩:=Ps (hE.set hx off) hi cQ h;refine⟨cs',?_,h2⟩;have ah:off<cs.length:=by rw [<- hE.1]; omega
        rw [Pr (vs := [v]) cU hc (by simp; omega)];rw [alb _ _ _ ah] at h1;exact h1
      . cases h
 | [],_::_,_,_,_,_,hi,_,_=>by simp at hi
 | _::_,[],_,_,_,_,hi,_,_=>by simp at hi
theorem Pu(h:fV P T i=true)(hz:i.z.isEmpty=false):∃ j z,P.info? T=some j/\j.zero=some z/\aV w ρ base ro i.z z.cells.toList:=by
 obtain⟨j,hj,_,h2⟩:=JK h
 cases yd:j.zero with
 | none=>rw [yd] at h2; simp only at h2; rw [hz] at h2; cases h2
 | some z=>rw [yd] at h2; exact⟨j,z,hj,yd,Po h2⟩
theorem ye{α:Type}{f : α->AV}{h : α->Value}{l:List α}(hl:∀ x∈l,af w ρ base ro (f x) (h x)):aV w ρ base ro (l.map f) (l.map h):=by
 refine⟨by simp,fun j x v hx hv => ?_⟩;rw [ga] at hx hv
 cases hj:l[j]? with
 | none=>rw [hj] at hx; cases hx
 | some y =>
  rw [hj] at hx hv;simp only [du,bF] at hx hv;subst hx; subst hv;exact hl y (eY hj)
theorem Yj:∀ {fs:List Field} {l:List (Nat×Nat×Bool)},xZ P fs l=true->fs.mapM (fun f=>(P.info? f.type).map fun i=>(f.offset,i.size))=some (l.map fun f=>(f.1,f.2.1))
 | [],[],_=>rfl
 | f::fs,(o,s,a)::l,h=>by
  unfold xZ at h;simp only [ax,cb] at h;have h1:=Yj h.2;have h2:=h.1.1.2
  cases hi:P.info? f.type with
  | none=>rw [hi] at h2; simp at h2
  | some i =>
   rw [hi] at h2;simp only [cb] at h2;simp [List.mapM_cons,hi,h1,h.1.1.1,h2]
 | [],_::_,h=>by cases h
 | _::_,[],h=>by cases h
theorem Yk{g:Operand->AV}{parts:Array (Nat×Operand)}{av:AV}{out:List AV}(ht:fV P T i=true)(hg:∀ p∈parts.toList,af w ρ base ro (g p.2) (r p.2))(hz:i.z.isEmpty=false)(cU:(∃ fs,i.ti = .struct fs/\place=fun k=>fs[k]?.map fun f=>(f.1,f.2.1))\/∃ n e dK a,i.ti = .array n e dK a/\place=fun k=>some (k*dK,dK))(h:uG place i.z (parts.toList.map fun p=>(p.1,g p.2))=some out)(dX:av = .agg out) :
 ∃ v,(execOp r ⟨d,.build T parts,ty,pos,aft,gd⟩).run P w = .ok (.value v) w/\af w ρ base ro av v:=by
 subst dX;obtain⟨j,z,hj,yd,hE⟩:=Pu (w:=w) (ρ := ρ) (base:=base) (ro:=ro) ht hz;obtain⟨cs',h1,h2⟩:=Ps (qs:=parts.toList.map fun p=>(p.1,r p.2)) hE (by simp) (by simp only [xE]; exact ye hg) h;have hb:P.built T (parts.map fun (i,x)=>(i,r x)).toList=some cs'.toArray:=by
  obtain⟨ds,hd,hm⟩:=mZ ht;have e:(parts.map fun (i,x)=>(i,r x)).toList=parts.toList.map fun p=>(p.1,r p.2):=by simp
  rw [e];rcases cU with ⟨fs,z7,rfl⟩|⟨n,e',dK,a,z7,rfl⟩
  . rw [z7] at hm;cases ds<;>first|(simp [jH] at hm; done)|skip
    rename_i fields;have pF:xZ P fields.toList fs=true:=hm;unfold Program.built;simp only [hj,hd,yd,Yj pF];rw [<- h1];congr 1;funext k;simp
  . rw [z7] at hm;cases ds<;>first|(simp [jH] at hm; done)|skip
    rename_i n' e'';simp only [jH,ax,cb] at hm;obtain⟨⟨⟨_,he⟩,hi⟩,_⟩:=hm
    cases z8:P.info? e'' with
    | none=>rw [z8] at hi; simp at hi
    | some ie =>
     rw [z8] at hi;simp only [cb] at hi;unfold Program.built;simp only [hj,hd,yd,z8,hi];exact h1
 refine⟨.agg cs'.toArray,?_,.agg _ _ h2.1 h2.2⟩;unfold execOp;simp only [bp,run_build w T _ _ hb,bI,bL]
theorem JL{b:Nat}(ht:fV P T i=true)(hi:i.ti = .slice e sz b):elemOf P T=some (e,sz):=by
 obtain⟨ds,hd,hm⟩:=mZ ht;rw [hi] at hm;cases ds<;>first|(simp [jH] at hm; done)|skip
 rename_i e';simp only [jH,ax,cb] at hm;obtain⟨⟨he,_⟩,h3⟩:=hm;unfold elemOf;rw [hd];subst he
 cases hj:P.info? e' with
 | none=>rw [hj] at h3; simp at h3
 | some j =>
  rw [hj] at h3;simp only [ax,cb] at h3;simp [hj,h3.1.1]
theorem Pv{b:Nat}{l:Unit->List t.el}{k:Unit->Int}(ht:fV P T i=true)(hi:i.ti = .slice e sz b)(hs:t.size=sz)(hx:af w ρ base ro (.sl fr t l) (r x))(hy:r y = .int kk (k ()))(hk:0<=k ()/\k ()<(l ()).length) :
 ∃ v,(∀ w',(execOp r ⟨d,.indexAddr T x y,ty,pos,aft,gd⟩).run P w' = .ok (.value v) w')/\af w ρ base ro (.bh (aP fr t fun _=>(l ()).getD (k ()).toNat t.aa) 0) v:=by
 obtain⟨A,c,css,hl,hc,hr,bt,_,dt,hv⟩:=hx.pE;have jJ:(k ()).toNat<css.length:=oo
 obtain⟨b',o,hA,ah,hlen,aF⟩:=hr _ _ (bc jJ);have aT:css ≠ []:=by intro h; rw [h] at jJ; simp at jJ
 have hE:=uH hlen fun j y v h1 h2=>dt _ _ j y v (bc jJ) h1 h2;subst hs;rw [hA] at hv;have e:(((k ()).toNat:Nat):Int)=k ():=oo
 refine⟨_,fun w'=>OQ hv (by rw [hy,e]) (JL ht hi) (by rw [e]; exact hk.2) rfl,?_⟩;exact .bh _ 0 b' (o+(k ()).toNat*t.size) _ (bt _ hA aT) ah hE.1 aF hE.2
theorem ald(cH:∀ loc e,ge loc=some e->c9 w ρ base ro loc e){b:Nat}{l:Unit->List t.el}{k:Unit->Int}(ht:fV P T i=true)(hi:i.ti = .slice e sz b)(hs:t.size=sz)(he:ge loc=some (.row fr t T' l))(hx:af w ρ base ro (.own loc) (r x))(hy:r y = .int kk (k ()))(hk:0<=k ()/\k ()<(l ()).length) :
 ∃ v,(∀ w',(execOp r ⟨d,.indexAddr T x y,ty,pos,aft,gd⟩).run P w' = .ok (.value v) w')/\af w ρ base ro (.cZ t loc k 0) v:=by
 obtain⟨A,c,css,hA,bw,hlen,dt⟩:=cH _ _ he;obtain⟨A',n,c',bG,hv⟩:=hx.tf;rw [hA] at bG;injection bG with bG;injection bG with e1 e2 e3;subst e1; subst e2; subst e3;have jJ:(k ()).toNat<css.length:=oo
 rcases bw.block with ⟨_,_,h0⟩|⟨g,cur,rfl,_,_,_⟩
 . rw [h0] at jJ; simp at jJ
 . subst hs;have e:(((k ()).toNat:Nat):Int)=k ():=oo
   refine⟨_,fun w'=>OQ hv (by rw [hy,e]) (JL ht hi) (by rw [e]; exact hk.2) rfl,?_⟩;rw [gC];exact .cZ t loc k 0 _ _ _ g hA rfl hk.1 hk.2
theorem Ym(cH:∀ loc e,ge loc=some e->c9 w ρ base ro loc e){b:Nat}{z av:AV}{k:Unit->Int}(ht:fV P T i=true)(hi:i.ti = .slice e sz b)(h:Pf ge sz k z=some (av,vcs))(hx:af w ρ base ro z (r x))(hy:r y = .int kk (k ()))(hv:∀ c∈vcs,c ()) :
 ∃ v,(∀ w',(execOp r ⟨d,.indexAddr T x y,ty,pos,aft,gd⟩).run P w' = .ok (.value v) w')/\af w ρ base ro av v:=by
 unfold Pf at h;split at h
 . split at h
   . rename_i fr t T' l he;split at h
     . rename_i hs;cases h;exact ald cH ht hi (eq_of_beq hs) he hx hy (hv _ (.head _))
     . cases h
   . cases h
 . rename_i t loc a b';split at h
   . rename_i fr t' T' l he;split at h
     . rename_i hs;cases h;obtain⟨rfl,rfl⟩:=hs;have hk:0<=k ()/\k ()<((b' () - a ():Nat):Int):=hv _ (.head _);obtain⟨A,c,css,hA,bw,hlen,dt⟩:=cH _ _ he;obtain⟨A',n,c',bG,bk,uJ,hq⟩:=hx.yb;rw [hA] at bG;injection bG with bG;injection bG with e1 e2 e3;subst e1; subst e2; subst e3;have OG:=bw.cap.1;rcases bw.block with ⟨_,_,h0⟩|⟨g,cur,rfl,_,_,_⟩
       . rw [h0] at hlen;simp only [ej] at hlen;omega
       have e:(((k ()).toNat:Nat):Int)=k ():=oo
       have jl:r x = .slice (some ⟨g,a ()*t.size,none⟩) (b' () - a ()) (c - a ()):=by
        rw [hq];unfold sliced;rw [aw oo,du,sW,gC]
       refine⟨_,fun w'=>OQ jl (by rw [hy,e]) (JL ht hi) (by rw [e]; exact hk.2) rfl,?_⟩;have e2:((a ():Int)+k ()).toNat=a ()+(k ()).toNat:=oo
       have h7:af w ρ base ro (.cZ t loc (fun _=>(a ():Int)+k ()) 0) (.pointer (some ⟨g,((a ():Int)+k ()).toNat*t.size+0,none⟩)) := .cZ t loc _ 0 _ _ _ g hA rfl (show 0<=(a ():Int)+k () from oo) (show (a ():Int)+k ()<_ from oo);rw [e2,lH,jE] at h7;exact h7
     . cases h
   . cases h
 . cases h
/- cells of xX is not called new -/
def AV.loose:AV->AV
 | .sl _ t l => .sl false t l
 | .wide _ t l n => .wide false t l n
 | x=>x
theorem CG(fr)(t)(x):aP false t x=(aP fr t x).map AV.loose:=by cases t<;>rfl
theorem af.uK{x:AV}(h:af w ρ base ro x v):af w ρ base ro x.loose v:=by
 induction h with
 | sl fr t l A c css hl hc hr bt cP h ih =>
  refine .sl false t l A c css hl hc hr bt (fun h=>by cases h) fun k cs j x v h1 h2 h3 => ?_;rw [CG fr,ga] at h2
  cases hj:(aP fr t fun _=>(l ()).getD k t.aa)[j]? with
  | none=>rw [hj] at h2; cases h2
  | some y =>
   rw [hj] at h2;simp only [du,bF] at h2;subst h2;exact ih k cs j y v h1 hj h3
 | un=>exact .un _
 | fG=>exact .fG _
 | int=>exact .int _ _
 | lit=>exact .lit _ _
 | bool=>exact .bool _
 | aR=>exact .aR _
 | str=>exact .str _
 | nil=>exact .nil
 | wide fr t l n A c hn h ih=>exact .wide false t l n A c hn ih
 | bh cells off b o cs bt ah hl hc h _=>exact .bh cells off b o cs bt ah hl hc h
 | ptr loc off b h=>exact .ptr _ _ _ h
 | fq loc off n b h=>exact .fq _ _ _ _ h
 | own loc A n c h=>exact .own _ _ _ _ h
 | cZ t loc k off A n c b h hA h0 hn=>exact .cZ _ _ _ _ _ _ _ _ h hA h0 hn
 | cG t loc a b A n c h bk=>exact .cG _ _ _ _ _ _ _ h bk
 | mp l b h=>exact .mp _ _ h
 | bo l s h=>exact .bo _ _ h
 | it l l2 b h=>exact .it _ _ _ h
 | agg l vs hl h _=>exact .agg _ _ hl h
 | ba l vs hl h _=>exact .ba _ _ hl h
 | fn f dH vs hl h _=>exact .fn _ _ _ hl h
end
section
variable{P:Program}{r:Operand->Value}{d:Option Nat}{ty:TypeId}{pos:String}{aft:Array Edge}{gd:Option (Nat×Bool)}{u v:Value}{w:World}
variable{ρ:Nat->Option Rl}{base:Nat}{ro ra:Nat->Prop}
theorem Yn{x:AV}{k:Unit->Kx}(h:E5 l x=some k)(hx:af w ρ base ro x v):v=(k ()).val/\l.fits (k ())=true:=by
 unfold E5 at h;split at h
 . split at h<;>cases h
   rename_i hk;subst hk;exact⟨hx.iw,by simp [Lk.fits]⟩
 . split at h<;>cases h
   rename_i hk;subst hk;exact⟨hx.mh,by simp [Lk.fits]⟩
 . cases h;exact⟨hx.oJ,rfl⟩
 . cases h;exact⟨hx.pD,rfl⟩
 . cases h;exact⟨hx.zX,rfl⟩
 . cases h
theorem JM:∀ {ls:List Lk} {xs:List AV} {k:Unit->List Kx} {vs:List Value},wi ls xs=some k->aV w ρ base ro xs vs->vs=(k ()).map Kx.val/\dC ls (k ())=true
 | [],[],k,vs,h,hE=>by
  cases h;exact⟨hE.none,rfl⟩
 | l::ls,x::xs,k,vs,h,hE=>by
  unfold wi at h;split at h
  . rename_i a b h1 h2;cases h;obtain⟨v,us,rfl,hx,m5⟩:=hE.head;obtain⟨h3,h4⟩:=Yn h1 hx;obtain⟨h5,h6⟩:=JM h2 m5;exact⟨by rw [h3,h5]; rfl,by simp [dC,h4,h6]⟩
  . cases h
 | [],_::_,_,_,h,_=>by cases h
 | _::_,[],_,_,h,_=>by cases h
theorem Pw{x:AV}{k:Unit->List Kx}(h:x9 c x=some k)(hx:af w ρ base ro x v):gH c v (k ()):=by
 cases c with
 | one l =>
  simp only [x9] at h
  cases hk:E5 l x with
  | none=>rw [hk] at h; cases h
  | some a =>
   rw [hk] at h;cases h;obtain⟨h1,h2⟩:=Yn hk hx;exact⟨h1,by simp [Kc.ls,dC,h2]⟩
 | arr n l =>
  exact Yo
 | st ls =>
  exact Yo
theorem Yp{x:Unit->Kx}(h:l.fits (x ())=true):af w ρ base ro (JA l x) (x ()).val:=by
 cases l<;>cases hx:x ()<;>rw [hx] at h<;>simp only [Lk.fits,dV,aL] at h
 . rename_i k k' n;subst h;have:Value.int k n=Value.int k ((x ()).num):=by rw [hx]; rfl
   show af w ρ base ro _ (Value.int k n)
   rw [this];exact .int _ _
 . rename_i p;have:Value.bool p=Value.bool ((x ()).flag):=by rw [hx]; rfl
   show af w ρ base ro _ (Value.bool p)
   rw [this];exact .bool _
 . rename_i s;have:Value.string s=Value.string ((x ()).X3):=by rw [hx]; rfl
   show af w ρ base ro _ (Value.string s)
   rw [this];exact .str _
theorem Px{k:Unit->List Kx}:∀ {ls:List Lk} {n:Nat},dC ls ((k ()).drop n)=true->aV w ρ base ro (JB ls n k) (((k ()).drop n).map Kx.val)
 | [],n,h=>by
  rw [j6 h];exact .nil
 | l::ls,n,h=>by
  obtain⟨x,q,e,hx,hq⟩:=lf h;obtain⟨g,dq⟩:=drop_cons e;have ih:=Px (k:=k) (ls:=ls) (n:=n+1) (by rw [dq]; exact hq);rw [dq] at ih;rw [e];have hv:(k ()).getD n (.i .i64 0)=x:=by simp [aX,g]
  refine .cons ?_ ih;have h1:=Yp (w:=w) (ρ := ρ) (base:=base) (ro:=ro) (l:=l) (x:=fun _=>(k ()).getD n (.i .i64 0)) (by simp only [hv]; exact hx);simp only [hv] at h1 ⊢;exact h1
theorem ale{k:Unit->List Kx}(h:gH c v (k ())):af w ρ base ro (JC c k) v:=by
 obtain⟨h1,h2⟩:=h
 cases c with
 | one l =>
  obtain⟨x,q,e,hx,hq⟩:=lf h2;cases j6 hq;rw [h1,e];have hv:(k ()).getD 0 (.i .i64 0)=x:=by rw [e]; rfl
  have h3:=Yp (w:=w) (ρ := ρ) (base:=base) (ro:=ro) (l:=l) (x:=fun _=>(k ()).getD 0 (.i .i64 0)) (by simp only [hv]; exact hx);simp only [hv] at h3;show af w ρ base ro (JA l fun _=>(k ()).getD 0 (.i .i64 0)) x.val
  simp only [hv];exact h3
 | arr n l =>
  have h3:=Px (w:=w) (ρ := ρ) (base:=base) (ro:=ro) (k:=k) (ls:=List.replicate n l) (n:=0) (by simpa [Kc.ls] using h2);rw [h1];exact .agg _ _ h3.1 h3.2
 | st ls =>
  have h3:=Px (w:=w) (ρ := ρ) (base:=base) (ro:=ro) (k:=k) (ls:=ls) (n:=0) (by simpa [Kc.ls] using h2);rw [h1];exact .agg _ _ h3.1 h3.2
theorem alf{l:List AV}(h:aV w ρ base ro l vs):aV w ρ base ro (l.map AV.loose) vs:=by
 exact Yq
theorem Fb{x:Unit->t.el}(h:af w ρ base ro (eo ag fr t x) v)(hf:fr'=true->fr=true):af w ρ base ro (eo ag fr' t x) v:=by
 cases fr' with
 | true=>rw [hf rfl] at h; exact h
 | false =>
  unfold eo at h ⊢
  cases ag with
  | true =>
   simp only [eO] at h ⊢;obtain⟨vs,rfl,hE⟩:=h.oK;rw [CG fr];have:=alf hE;exact .agg _ _ this.1 this.2
  | false =>
   simp only [dV,dw] at h ⊢;rw [CG fr]
   cases hc:aP fr t x with
   | nil=>exact .un _
   | cons c l =>
    rw [hc] at h
    cases l with
    | nil=>exact af.uK h
    | cons c2 l=>exact .un _
theorem JN(h:fV P T i=true)(hi:i.ti = .map kt et c t ag):P.underlying T=some (.map kt et)/\uE P kt c=true/\(ag=true\/t.size=1)/\∃ j z,P.info? et=some j/\j.zero=some z/\af w ρ base ro (eo ag true t fun _=>t.aa) z:=by
 obtain⟨ds,hd,hm⟩:=mZ h;rw [hi] at hm;cases ds<;>first|(simp [jH] at hm; done)|skip
 rename_i k e;simp only [jH,ax,cb,gR] at hm;obtain⟨⟨⟨⟨rfl,rfl⟩,h1,h2⟩,h3⟩,h4⟩:=hm;refine⟨hd,h1,h3,?_⟩
 cases hj:P.info? e with
 | none=>rw [hj] at h4; cases h4
 | some j =>
  rw [hj] at h4;simp only at h4
  cases hz:j.zero with
  | none=>rw [hz] at h4; cases h4
  | some z =>
   rw [hz] at h4;simp only [ax] at h4;refine⟨j,z,rfl,hz,?_⟩;have hE:aV w ρ base ro (aP true t fun _=>t.aa) z.cells.toList:=Po h4.1;have hs:=h4.2;unfold eo
   cases ag with
   | true =>
    simp only [eO];cases z<;>simp [O7] at hs;rename_i cs;have:aV w ρ base ro (aP true t fun _=>t.aa) cs.toList:=hE;have h5:af w ρ base ro (.agg (aP true t fun _=>t.aa)) (.agg cs.toList.toArray) := .agg _ _ this.1 this.2;simpa using h5
   | false =>
    simp only [dV,dw];have hl:(aP true t fun _=>t.aa).length=1:=by
     rw [O2];rcases h3 with h3|h3
     . cases h3
     . exact h3
    have Py:z.cells = #[z]:=by cases z<;>first|rfl|simp [O7] at hs
    cases hc:aP true t fun _=>t.aa with
    | nil=>rw [hc] at hl; cases hl
    | cons x l =>
     rw [hc] at hl hE
     cases l with
     | cons y l=>simp at hl
     | nil =>
      rw [Py] at hE;exact hE.2 0 x z rfl rfl
theorem Yr{j:TypeInfo}{z:Value}(hj:P.info? T=some j)(hz:j.zero=some z):(zeroValue T).run P w = .ok z w:=by
 exact Ys
theorem lM.keys{m:List Kx->Option t.el}(h:lM w ρ base ro fr ag c t m es):∀ e∈es.toList,∃ b,gH c e.key b:=fun e he=>by
 obtain⟨key,x,h1,_⟩:=h.1 e he;exact⟨key,h1⟩
theorem JO{a b:List Kx}(h1:gH c v a)(h2:gH c v b):a=b:=key_inj h1.2 h2.2 (h1.1.symm.trans h2.1)
theorem lM.find{m:List Kx->Option t.el}{key:List Kx}(h:lM w ρ base ro fr ag c t m es)(hk:uE P kt c=true)(hv:gH c v key) :
 ((Instr.findKey kt v es.toList).run P w = .ok none w/\m key=none/\∀ e∈es.toList,¬ gH c e.key key)\/∃ j e x,(Instr.findKey kt v es.toList).run P w = .ok (some (j,e.val)) w/\es[j]? = some e/\gH c e.key key/\m key=some x/\af w ρ base ro (eo ag fr t fun _=>x) e.val:=by
 rw [hv.1];rcases akJ (P:=P) (w:=w) hk hv.2 es.toList h.keys with ⟨h1,h2⟩|⟨j,e,h1,h2,h3⟩
 . refine .inl ⟨h1,?_,h2⟩
   cases hm:m key with
   | none=>rfl
   | some x =>
    obtain⟨e,he,h3⟩:=h.2 key x hv.2 hm;exact absurd h3 (h2 e he)
 . obtain⟨jm,x,h4,h5,h6⟩:=h.1 e (eY h2);cases JO h3 h4;exact .inr ⟨j,e,x,h1,by simpa using h2,h3,h5,h6⟩
theorem alg{ok:Bool}{m:Unit->List Kx->Option t.el}{k:Unit->List Kx}(ht:fV P T i=true)(hi:i.ti = .map kt et c t ag)(he:c9 w ρ base ro loc (.map fr ag c t T' m))(hx:af w ρ base ro (.mp loc) (r x))(hk:gH c (r y) (k ())) :
 ∃ v,(execOp r ⟨d,.lookup T x y ok,ty,pos,aft,gd⟩).run P w = .ok (.value v) w/\af w ρ base ro (JD ag fr t (fun _=>m () (k ())) ok) v:=by
 obtain⟨hu,mX,_,j,z,hj,hz,Pz⟩:=JN (w:=w) (ρ := ρ) (base:=base) (ro:=ro) ht hi;obtain⟨b,es,clock,hb,hh,hst,hm⟩:=he;obtain⟨b',aW,pG⟩:=hx.zY;rw [hb] at aW;injection aW with aW;injection aW with aW;subst aW;have jo:∀ (o:Option (Nat×Value)),(Instr.findKey kt (r y) es.toList).run P w = .ok o w->(execOp r ⟨d,.lookup T x y ok,ty,pos,aft,gd⟩).run P w = .ok (.value (if ok then .tuple #[(match o with|some (_,u)=>u|none=>z),.bool o.isSome] else match o with|some (_,u)=>u|none=>z)) w:=by
  intro o ho;unfold execOp;simp only [Instr.lookup,pG,bp,qm hu,bI,MapKept.run_getObj_map hh,bL];rw [hk.1] at ho ⊢;rw [Jj (w:=w) mX hk.2];simp only [bI,ho]
  cases o with
  | none=>simp only [bp,Yr hj hz,bI,bL]; rfl
  | some p=>obtain⟨n,u⟩:=p; simp only [bp,bI,bL]; rfl
 have fv:∀ (u:Value) (q:Bool),af w ρ base ro (eo ag fr t fun _=>(m () (k ())).getD t.aa) u->(m () (k ())).isSome=q->af w ρ base ro (JD ag fr t (fun _=>m () (k ())) ok) (if ok then .tuple #[u,.bool q] else u):=by
  intro u q h1 h2;unfold JD
  cases ok with
  | false=>exact h1
  | true =>
   simp only [eO];have h3:aV w ρ base ro [eo ag fr t fun _=>(m () (k ())).getD t.aa,.bool fun _=>(m () (k ())).isSome] [u,.bool q] := .cons h1 (.cons (by rw [<- h2]; exact .bool _) .nil);exact .ba _ _ h3.1 h3.2
 rcases hm.find (P:=P) mX hk with ⟨h1,h2,_⟩|⟨n,e,x',h1,_,_,h3,h4⟩
 . refine⟨_,jo _ h1,fv z false ?_ (by rw [h2]; rfl)⟩;have:(fun _:Unit=>(m () (k ())).getD t.aa)=fun _=>t.aa:=by rw [h2]; rfl
   rw [this];exact Fb Pz fun _=>rfl
 . refine⟨_,jo _ h1,fv e.val true ?_ (by rw [h3]; rfl)⟩;have:(fun _:Unit=>(m () (k ())).getD t.aa)=fun _=>x':=by rw [h3]; rfl
   rw [this];exact h4
theorem alh{m:Unit->List Kx->Option t.el}{seen:Unit->List (List Kx)}(he:c9 w ρ base ro ml (.map fr ag c t T m))(hi:c9 w ρ base ro l2 (.iter ml c seen left))(hx:af w ρ base ro (.it ml l2) (r x))(hs:seen () ≠ []) :
 ∃ v,(execOp r ⟨d,.entry x,ty,pos,aft,gd⟩).run P w = .ok (.value v) w/\af w ρ base ro (.ba [JC c fun _=>(seen ()).headD [],eo ag fr t fun _=>(m () ((seen ()).headD [])).getD t.aa]) v:=by
 obtain⟨b,es,clock,hb,hh,hst,hm⟩:=he;obtain⟨b',b2,iY,nN,since,stamps,c0,h1,h2,h3,h4,h5,h6,h7,h8,h9⟩:=hi;rw [hb] at h2;injection h2 with h2;injection h2 with h2;subst h2;rw [hh] at h3;injection h3 with h3;injection h3 with e1 e2;subst e1; subst e2;obtain⟨b3,nL,pG⟩:=hx.Ph;rw [h1] at nL;injection nL with nL;injection nL with nL;subst nL;obtain⟨key,rest,PA⟩:∃ key rest,seen ()=key::rest:=by
  cases oL:seen () with
  | nil=>exact absurd oL hs
  | cons key rest=>exact⟨key,rest,rfl⟩
 obtain⟨rfl,e,Yt,e8,iz⟩:=h9 key rest PA;have yf:=(MapKept.stamped_iff es c0).1 hst;have hf:es.find? (·.born==e.born)=some e:=by rw [<- Array.find?_toList]; exact find_born e es.toList yf.2.1 Yt
 obtain⟨jm,x',k1,k2,k3⟩:=hm.1 e Yt;cases JO iz k1;refine⟨.tuple #[e.key,e.val],?_,?_⟩
 . unfold execOp;simp only [Instr.entry,pG,getObj,bp,Sem.run,h4,hh,Result.andThen,e8,WD,dV,dw,hf];rfl
 . have e3:(fun _:Unit=>(m () ((seen ()).headD [])).getD t.aa)=fun _=>x':=by rw [PA]; simp [k2]
   have oF:aV w ρ base ro [JC c fun _=>(seen ()).headD [],eo ag fr t fun _=>(m () ((seen ()).headD [])).getD t.aa] [e.key,e.val] := .cons (ale (by simp only [PA,List.headD_cons]; exact iz)) (.cons (by rw [e3]; exact k3) .nil);exact .ba _ _ oF.1 oF.2
theorem ali(aE:cT P tb){t':Nat}(hi:aj tb T=some i)(aT:i.eq.isEmpty=false){cs ds:List AV}{a b:Unit->List Kx}(ha:wi i.eq cs=some a)(hb:wi i.eq ds=some b)(hx:af w ρ base ro (.agg cs) (r x))(hy:af w ρ base ro (.agg ds) (r y))(w') :
 (execOp r ⟨d,.binOp .eql T x y t',ty,pos,aft,gd⟩).run P w' = .ok (.value (.bool (decide (a ()=b ())))) w'/\(execOp r ⟨d,.binOp .neq T x y t',ty,pos,aft,gd⟩).run P w' = .ok (.value (.bool !decide (a ()=b ()))) w':=by
 obtain⟨vs,rP,hE⟩:=hx.oK;obtain⟨us,JP,hF⟩:=hy.oK;obtain⟨rfl,f1⟩:=JM ha hE;obtain⟨rfl,f2⟩:=JM hb hF;have ht:=aE T i hi;unfold fV at ht;simp only [ax] at ht;have he:=ht.2;unfold X2 at he;rw [aT,sV] at he;simp only [ax,jf] at he;obtain⟨⟨oI,Yu⟩,hg⟩:=he;have h3:=O4 (P:=P) 20 10000 oo T i.eq Yu;rw [oI] at h3;have h4:(Op.equalIn 10000 T (.agg ((a ()).map Kx.val).toArray) (.agg ((b ()).map Kx.val).toArray)).run P w' = .ok (decide (a ()=b ())) w':=h3 w' _ _ f1 f2;have g1:=run_eqGuard_agg (w:=w') .eql T x y ((a ()).map Kx.val).toArray ((b ()).map Kx.val).toArray hg;have g2:=run_eqGuard_agg (w:=w') .neq T x y ((a ()).map Kx.val).toArray ((b ()).map Kx.val).toArray hg;constructor
 . unfold execOp;simp only [rP,JP,bp,g1,bI,run_eql_struct,h4,bL]
 . unfold execOp;simp only [rP,JP,bp,g2,bI,run_neq_struct,h4,bL]
theorem Yv(aE:cT P tb){op:BinOp}{t':Nat}{cs ds:List AV}{av:AV}(h:E6 (aj tb T) op (.agg cs) (.agg ds)=some (av,vcs))(hx:af w ρ base ro (.agg cs) (r x))(hy:af w ρ base ro (.agg ds) (r y)) :
 ∃ v,(∀ w',(execOp r ⟨d,.binOp op T x y t',ty,pos,aft,gd⟩).run P w' = .ok (.value v) w')/\af w ρ base ro av v:=by
 unfold E6 at h;dsimp only at h;split at h
 . rename_i i hi;split at h
   . cases h
   . rename_i aT;split at h
     . rename_i a b ha hb;have h1:=fun w'=>ali (d:=d) (ty:=ty) (pos:=pos) (aft:=aft) (gd:=gd) (t':=t') aE hi (by simpa using aT) ha hb hx hy w';split at h
       . cases h;exact⟨_,fun w'=>(h1 w').1,.bool _⟩
       . cases h;exact⟨_,fun w'=>(h1 w').2,.bool fun _ => !decide (a ()=b ())⟩
       . cases h
     . cases h
 . cases h
theorem PB{l:Unit->List t.el}{a b:Nat}{n c:Nat}(h:af w ρ base ro (.sl fr t l) (.slice A n c))(bk:a<=b)(hb:b<=(l ()).length):af w ρ base ro (.sl fr t fun _=>((l ()).take b).drop a) (sliced A a b c t.size):=by
 obtain⟨A',c',css,hl,hc,hr,bt,cP,aF,hv⟩:=h.pE;injection hv with e1 e2 e3;subst e1; subst e2; subst e3;have hlen:((css.take b).drop a).length=b - a:=by simp [hl]; omega
 have Fc:(((l ()).take b).drop a).length=b - a:=by simp; omega
 have lO:∀ (k:Nat) cs,((css.take b).drop a)[k]? = some cs->css[a+k]? = some cs/\a+k<b:=by
  intro k cs hk;rw [lG,eh] at hk;split at hk
  . exact⟨hk,by assumption⟩
  . cases hk
 have aT:∀ (x:Unit),(css.take b).drop a ≠ []->c≠a:=by
  intro _ hn;have:0<b - a:=by rw [<- hlen]; exact List.length_pos_iff.2 hn
  omega
 have CH:(css.take b).drop a ≠ []->css ≠ []:=fun hn e=>hn (by rw [e]; simp);have hA:∀ ad,(if c=a then A else A.map (·.add (a*t.size)))=some ad->(css.take b).drop a ≠ []->∃ a0,A=some a0/\ad.block=a0.block:=by
  intro ad he hn;rw [aw (aT () hn)] at he;obtain⟨a0,h1,h2⟩:=kS.1 he;obtain⟨c0,rest,pH⟩:=aze (CH hn);obtain⟨bl,off,h3,_⟩:=hr 0 c0 (by rw [pH]; rfl);rw [h3] at h1;injection h1 with h1;subst h1;exact⟨_,h3,by rw [<- h2,sW]⟩
 show af w ρ base ro _ (.slice (if c=a then A else A.map (·.add (a*t.size))) (b - a) (c - a))
 rw [<- Fc];refine .sl fr t (fun _=>((l ()).take b).drop a) _ _ ((css.take b).drop a) (by rw [hlen,Fc]) (by rw [hlen]; omega) ?_ (fun ad he hn => ?_) (fun hf ad he hn => ?_) ?_
 . intro k cs hk;obtain⟨h1,h2⟩:=lO k cs hk;obtain⟨bl,off,h3,h4,h5,h6⟩:=hr (a+k) cs h1;refine⟨bl,off+a*t.size,?_,h4,h5,fun j u hu => ?_⟩
   . rw [aw oo,h3,du,sW]
   . have:=h6 j u hu;rw [lH] at this;rw [show off+a*t.size+k*t.size+j=off+(a*t.size+k*t.size)+j from oo];exact this
 . obtain⟨a0,h1,h2⟩:=hA ad he hn;rw [h2];exact bt a0 h1 (CH hn)
 . obtain⟨a0,h1,h2⟩:=hA ad he hn;rw [h2];exact cP hf a0 h1 (CH hn)
 . intro k cs j x v hk hx hv;obtain⟨h1,h2⟩:=lO k cs hk;refine aF (a+k) cs j x v h1 ?_ hv;have e:(((l ()).take b).drop a).getD k t.aa=(l ()).getD (a+k) t.aa:=by
    rw [aX,aX,lG,eh,aC h2]
   rw [<- e];exact hx
theorem Yw{g:Operand->AV}(h:pC g dd o=some f)(hg:∀ x,o=some x->af w ρ base ro (g x) (r x)):o=none/\f=dd\/∃ x k,o=some x/\r x = .int k (f ()):=by
 cases o with
 | none =>
  simp only [pC,bF] at h;exact .inl ⟨rfl,h.symm⟩
 | some x =>
  simp only [pC] at h
  cases hx:(g x).asInt with
  | none=>rw [hx] at h; cases h
  | some p =>
   obtain⟨k,n⟩:=p;rw [hx] at h;cases h;exact .inr ⟨x,k,rfl,jk hx (hg x rfl)⟩
theorem Yx(aE:cT P tb){n c:Nat}{g:Operand->AV}(hT:aj tb T=some i)(lI:i.ti = .slice e sz bb)(oM:r x = .slice A n c)(lP:n<=c)(ha:pC g (fun _=>0) lo=some a)(hb:pC g (fun _=>n) hi=some b)(yg:∀ y,lo=some y->af w ρ base ro (g y) (r y))(Fe:∀ y,hi=some y->af w ρ base ro (g y) (r y))(hv:0<=a ()/\a ()<=b ()/\b ()<=n) :
 (execOp r ⟨d,.slice T x lo hi none,ty,pos,aft,gd⟩).run P w = .ok (.value (sliced A (a ()).toNat (b ()).toNat c sz)) w:=by
 have hu:P.underlying T=some (.slice (P.elem T))/\∀ w',(sizeOf (P.elem T)).run P w' = .ok sz w':=by
  exact Yy
 obtain⟨hu,aO⟩:=hu;obtain⟨v0,v1,v2⟩:=hv;unfold execOp;simp only [oM,run_sliceAt_slice _ _ _ _ _ _ hu,bp];have JQ:b ()<=(c:Int):=oo
 rcases Yw ha yg with ⟨rfl,ea⟩|⟨yl,kl,rfl,ea⟩<;>rcases Yw hb Fe with ⟨rfl,eb⟩|⟨yh,kh,rfl,eb⟩
 . subst ea; subst eb;simp only [B5,run_slice_all _ _ _ _ _ hu,aO,bI,bL,fE,Int.toNat_zero]
 . subst ea;simp only [B5,du,eb,run_slice_h w T A n c hu kh (b ()) (Int.le_trans v0 v1) JQ,aO,bI,bL,Int.toNat_zero]
 . subst eb;simp only [B5,du,ea,run_slice_l _ _ _ _ _ hu kl (a ()) oo oo,aO,bI,bL,fE]
 . simp only [B5,du,ea,eb,run_slice_lh w T A n c hu kl kh (a ()) (b ()) v0 v1 JQ,aO,bI,bL]
theorem alj(aE:cT P tb){l:Unit->List t.el}{g:Operand->AV}(hT:aj tb T=some i)(lI:i.ti = .slice e sz bb)(hs:t.size=sz)(hx:af w ρ base ro (.sl fr t l) (r x))(ha:pC g (fun _=>0) lo=some a)(hb:pC g (fun _=>(l ()).length) hi=some b)(yg:∀ y,lo=some y->af w ρ base ro (g y) (r y))(Fe:∀ y,hi=some y->af w ρ base ro (g y) (r y))(hv:0<=a ()/\a ()<=b ()/\b ()<=(l ()).length) :
 ∃ v,(execOp r ⟨d,.slice T x lo hi none,ty,pos,aft,gd⟩).run P w = .ok (.value v) w/\af w ρ base ro (.sl fr t fun _=>((l ()).take (b ()).toNat).drop (a ()).toNat) v:=by
 obtain⟨A,c,css,h1,h2,h3,h4,h5,h6,oM⟩:=hx.pE;refine⟨_,Yx aE hT lI oM oo ha hb yg Fe hv,?_⟩;rw [oM] at hx;rw [<- hs];exact PB hx oo oo
theorem Yz(aE:cT P tb)(cH:∀ loc e,ge loc=some e->c9 w ρ base ro loc e){l:Unit->List t.el}{g:Operand->AV}(hT:aj tb T=some i)(lI:i.ti = .slice e sz bb)(hs:t.size=sz)(he:ge loc=some (.row fr t T' l))(hx:af w ρ base ro (.own loc) (r x))(ha:pC g (fun _=>0) lo=some a)(hb:pC g (fun _=>(l ()).length) hi=some b)(yg:∀ y,lo=some y->af w ρ base ro (g y) (r y))(Fe:∀ y,hi=some y->af w ρ base ro (g y) (r y))(hv:0<=a ()/\a ()<=b ()/\b ()<=(l ()).length) :
 ∃ v,(execOp r ⟨d,.slice T x lo hi none,ty,pos,aft,gd⟩).run P w = .ok (.value v) w/\af w ρ base ro (.cG t loc (fun _=>(a ()).toNat) fun _=>(b ()).toNat) v:=by
 obtain⟨A,c,css,hA,bw,hlen,_⟩:=cH _ _ he;obtain⟨A',n,c',bG,oM⟩:=hx.tf;rw [hA] at bG;injection bG with bG;injection bG with e1 e2 e3;subst e1; subst e2; subst e3;have OG:=bw.cap.1;refine⟨_,Yx aE hT lI oM oo ha hb yg Fe hv,?_⟩;rw [<- hs];exact .cG t loc (fun _=>(a ()).toNat) (fun _=>(b ()).toNat) A _ c hA ⟨oo,oo⟩
theorem alk(aE:cT P tb){n:Nat}(hT:aj tb T=some i)(hi:i.ti = .array n e 1 ag)(hx:af w ρ base ro (.ptr loc off) (r x)) :
 ∃ v,(execOp r ⟨d,.slice T x none none none,ty,pos,aft,gd⟩).run P w = .ok (.value v) w/\af w ρ base ro (.fq loc off n) v:=by
 obtain⟨b,hb,oM⟩:=hx.ya;obtain⟨ds,hd,hm⟩:=mZ (aE T i hT);rw [hi] at hm;cases ds<;>first|(simp [jH] at hm; done)|skip
 rename_i n' e';simp only [jH,ax,cb] at hm;obtain⟨⟨⟨rfl,rfl⟩,hm⟩,_⟩:=hm;have he:P.elem T=e':=by simp [Program.elem,hd]
 have hn:P.arrayLen T=n':=by simp [Program.arrayLen,hd]
 have hu:P.underlying T=some (.array (P.arrayLen T) (P.elem T)):=by rw [he,hn]; exact hd
 have aO:∀ w',(sizeOf (P.elem T)).run P w' = .ok 1 w':=fun w'=>by
  rw [he]
  cases hj:P.info? e' with
  | none=>rw [hj] at hm; cases hm
  | some j =>
   rw [hj] at hm;rw [run_sizeOf w' hj];simp only [cb] at hm;simp [Program.cellsOf,hj,hm]
 refine⟨.slice (some ⟨b,off,none⟩) n' n',?_,.fq _ _ _ _ hb⟩;unfold execOp;simp only [oM,B5,bp,run_sliceAt_array_all w T _ hu,aO,bI,bL,slicedAt,hn,rC,xD,sW,jE,ite_self]
theorem alm{B size c a b:Nat}{css:List (List Value)}(hr:Rd w B size A css)(bk:a<=b)(hb:b<=css.length)(hc:css.length<=c):∃ X,sliced A a b c size = .slice X (b - a) (c - a)/\Rd w B size X ((css.take b).drop a):=by
 refine⟨_,rfl,fun k cs hk => ?_⟩;rw [lG,eh] at hk;split at hk
 . rename_i ah;obtain⟨bl,off,h3,h4,h5,h6⟩:=hr (a+k) cs hk;refine⟨bl,off+a*size,?_,h4,h5,fun j u hu => ?_⟩
   . rw [aw oo,h3,du,sW]
   . have:=h6 j u hu;rw [lH] at this;rw [show off+a*size+k*size+j=off+(a*size+k*size)+j from oo];exact this
 . cases hk
end
section
variable{P:Program}{r:Operand->Value}{d:Option Nat}{ty:TypeId}{pos:String}{aft:Array Edge}{gd:Option (Nat×Bool)}{u v:Value}{w:World}
variable{ρ:Nat->Option Rl}{base:Nat}{ro:Nat->Prop}
theorem af.Ff{l:Unit->List t.el}(h:af w ρ base ro (.wide fr t l n) v):∃ A c,n ()<=(l ()).length/\af w ρ base ro (.sl fr t l) (.slice A (l ()).length c)/\v = .slice A (n ()) c:=by
 cases h with
 | wide _ _ _ _ A c hn h=>exact⟨A,c,hn,h,rfl⟩
theorem z9{l:Unit->List t.el}(h:af w ρ base ro (.wide fr t l n) v):af w ρ base ro (.sl fr t fun _=>(l ()).take (n ())) v:=by
 obtain⟨A,c,hn,h2,rfl⟩:=h.Ff;obtain⟨A',c',css,hl,hc,hr,bt,cP,aF,hv⟩:=h2.pE;injection hv with e1 e2 e3;subst e1; subst e3;have hlen:((l ()).take (n ())).length=n ():=by rw [cL]; omega
 have CH:css.take (n ()) ≠ []->css ≠ []:=fun hn e=>hn (by rw [e]; simp);have key:af w ρ base ro (.sl fr t fun _=>(l ()).take (n ())) (.slice A ((l ()).take (n ())).length c):=by
  refine .sl fr t (fun _=>(l ()).take (n ())) A c (css.take (n ())) (by rw [cL,hlen]; omega) (by rw [cL]; omega) (fun k cs hk => ?_) (fun a ha hq=>bt a ha (CH hq)) (fun hf a ha hq=>cP hf a ha (CH hq)) fun k cs j x v h1 h2 h3 => ?_
  . rw [eh] at hk;split at hk
    . exact hr k cs hk
    . cases hk
  . rw [eh] at h1;split at h1
    . rename_i hk;refine aF k cs j x v h1 ?_ h3;have e:((l ()).take (n ())).getD k t.aa=(l ()).getD k t.aa:=by rw [aX,aX,eh,aC hk]
      rw [<- e];exact h2
    . cases h1
 rwa [hlen] at key
/- elements azu xX aln behind alo azv -/
def AV.thin:AV->AV
 | .sl _ t l => .sl false t l
 | .wide _ t l n => .sl false t fun _=>(l ()).take (n ())
 | x=>x
theorem af.alp{x:AV}(h:af w ρ base ro x v):af w ρ base ro x.thin v:=by
 cases x<;>first|exact h.uK|exact (z9 h).uK|exact h
theorem alq{f:t.el->t'.el}(h:EU t t'=some f)(fr)(x):aP false t' (fun _=>f (x ()))=(aP fr t x).map AV.thin:=by
 unfold EU at h;exact Fg
theorem alr{f:t.el->t'.el}(h:EU t t'=some f):t'.size=t.size:=by
 unfold EU at h;split at h<;>first|rfl|cases h
theorem als{l:Unit->List t.el}{av:AV}(h:O8 t t' l n=some av)(hx:af w ρ base ro (.wide fr t l n) v):af w ρ base ro av v/\AV.plain false av=true:=by
 unfold O8 at h;split at h
 . rename_i f hf;cases h;refine⟨?_,rfl⟩;have h1:=z9 hx;generalize hL:(fun (_:Unit)=>(l ()).take (n ()))=L at h1;obtain⟨A,c,css,hl,hc,hr,bt,_,aF,rfl⟩:=h1.pE;have key:af w ρ base ro (.sl false t' fun _=>(L ()).map f) (.slice A ((L ()).map f).length c):=by
    refine .sl false t' (fun _=>(L ()).map f) A c css (by rw [fk]; exact hl) hc (by rw [alr hf]; exact hr) bt (fun h=>by cases h) fun k cs j x v h1 h2 h3 => ?_;have hk:k<(L ()).length:=by rw [<- hl]; exact (cF.1 h1).1
    have e:((L ()).map f).getD k t'.aa=f ((L ()).getD k t.aa):=by simp [aX,bc hk]
    rw [e,alq hf fr fun _=>(L ()).getD k t.aa,ga] at h2;obtain⟨y,h4,rfl⟩:=kS.1 h2;exact (aF k cs j y v h1 h4 h3).alp
   rw [fk] at key;subst hL;exact key
 . cases h
theorem YA{b:Nat}{l:Unit->List t.el}{k:Unit->Int}(ht:fV P T i=true)(hi:i.ti = .slice e sz b)(hs:t.size=sz)(hx:af w ρ base ro (.wide fr t l n) (r x))(hy:r y = .int kk (k ()))(hk:0<=k ()/\k ()<n ()) :
 ∃ v,(∀ w',(execOp r ⟨d,.indexAddr T x y,ty,pos,aft,gd⟩).run P w' = .ok (.value v) w')/\af w ρ base ro (.bh (aP fr t fun _=>(l ()).getD (k ()).toNat t.aa) 0) v:=by
 obtain⟨_,_,oN,_⟩:=hx.Ff;have h1:=z9 hx;have hlen:((l ()).take (n ())).length=n ():=by rw [cL]; omega
 obtain⟨v,h2,h3⟩:=Pv (d:=d) (ty:=ty) (pos:=pos) (aft:=aft) (gd:=gd) ht hi hs h1 hy (by rw [hlen]; exact hk);refine⟨v,h2,?_⟩;have e:((l ()).take (n ())).getD (k ()).toNat t.aa=(l ()).getD (k ()).toNat t.aa:=by rw [aX,aX,eh,aC oo]
 rw [<- e];exact h3
theorem YB(aE:cT P tb){c:Nat}{hi:Operand}{l:Unit->List t.el}(hT:aj tb T=some i)(lI:i.ti = .slice e sz bb)(hs:t.size=sz)(hx:r x = .slice A m c)(hl:af w ρ base ro (.sl fr t l) (.slice A (l ()).length c))(hb:r hi = .int kk (b ()))(hv:0<=b ()/\b ()<=(l ()).length) :
 ∃ v,(execOp r ⟨d,.slice T x none (some hi) none,ty,pos,aft,gd⟩).run P w = .ok (.value v) w/\af w ρ base ro (.wide fr t l fun _=>(b ()).toNat) v:=by
 have hu:P.underlying T=some (.slice (P.elem T))/\∀ w',(sizeOf (P.elem T)).run P w' = .ok sz w':=by
  exact Yy
 obtain⟨hu,aO⟩:=hu;obtain⟨A',c',css,h1,h2,_,_,_,_,hev⟩:=hl.pE;injection hev with e1 e2 e3;subst e1; subst e3;have JQ:b ()<=(c:Int):=oo
 refine⟨sliced A 0 (b ()).toNat c sz,?_,?_⟩
 . unfold execOp;simp only [hx,run_sliceAt_slice _ _ _ _ _ _ hu,bp,B5,du,hb,run_slice_h w T A m c hu kk (b ()) hv.1 JQ,aO,bI,bL]
 . have h4:=PB hl (bO (l ()).length) (aA _);have e:(fun (_:Unit)=>((l ()).take (l ()).length).drop 0)=l:=by funext u; simp
   rw [e,hs] at h4;exact .wide fr t l (fun _=>(b ()).toNat) _ _ oo h4
theorem PC{n:Nat}{a:Bool}(ht:fV P T i=true)(hi:i.ti = .array n e sz a):P.underlying T=some (.array n e)/\(∃ j,P.info? e=some j/\j.size=sz)/\gI P e=a/\∃ ds,P.underlying e=some ds:=by
 obtain⟨ds,hd,hm⟩:=mZ ht;rw [hi] at hm;cases ds<;>first|(simp [jH] at hm; done)|skip
 simp only [jH,ax,cb] at hm;obtain⟨⟨⟨rfl,rfl⟩,h3⟩,h4,h5⟩:=hm;refine⟨hd,?_,h4,Ww.1 h5⟩
 cases hj:P.info? _ with
 | none=>rw [hj] at h3; cases h3
 | some j=>rw [hj] at h3; exact⟨j,rfl,eq_of_beq h3⟩
theorem YC(aE:cT P tb){a b av:AV}(h:Pc (fu tb T) a b=some (av,vcs))(hx:af w ρ base ro a (r x))(hy:af w ρ base ro b (r y)) :
 ∃ v,(∀ w',(execOp r ⟨d,.indexAddr T x y,ty,pos,aft,gd⟩).run P w' = .ok (.value v) w')/\af w ρ base ro av v:=by
 unfold Pc at h;split at h
 . rename_i n e sz ag kk m e1;split at h
   . rename_i hm;simp only [ax,aL] at hm;obtain⟨i,_,h1,h2⟩:=eI aE e1;obtain⟨k1,⟨j,k2,k3⟩,_⟩:=PC h2 h1
     cases ha:zU a (m.toNat*sz) with
     | none=>rw [ha] at h; cases h
     | some mi =>
      rw [ha] at h;cases h;obtain⟨b',o,q1,q2⟩:=Pn ha hx;have em:((m.toNat:Nat):Int)=m:=oo
      exact⟨_,fun w'=>akO (k:=m.toNat) q1 (by rw [em]; exact hy.mh) k1 (by rw [k2]; simp [k3]) (by rw [em]; exact hm.2) rfl,q2⟩
   . cases h
 . cases h
theorem YD{kk:IntKind}{k:Unit->Int}:∀ {l:List AV} {vs:List Value} {j m:Nat} {f:Unit->Int},zV kk k j l=some f->aV w ρ base ro l vs->k ()=(j+m:Nat)->m<l.length->vs[m]? = some (.int kk (f ()))
 | [],_,_,_,_,h,_,_,_=>by cases h
 | x::l,vs,j,m,f,h,hE,hk,hm=>by
  obtain⟨v,us,rfl,hx,m5⟩:=hE.head;unfold zV at h;split at h
  . rename_i k' a ha;split at h
    . rename_i jJ;subst jJ;have hv:=jk ha hx;split at h
      . cases h;have:m=0:=by simpa using hm
        subst this;rw [hv];rfl
      . cases hf:zV k' k (j+1) l with
        | none=>rw [hf] at h; cases h
        | some g =>
         rw [hf] at h;cases h
         cases m with
         | zero =>
          exact YE
         | succ m =>
          have:decide (k ()=(j:Int))=false:=by rw [fQ]; omega
          rw [this,NN];exact YD hf m5 (by rw [hk]; congr 1; omega) (by simpa using hm)
    . cases h
  . cases h
theorem YF{k:Unit->Int}:∀ {l:List AV} {vs:List Value} {j m:Nat} {f:Unit->Bool},zW k j l=some f->aV w ρ base ro l vs->k ()=(j+m:Nat)->m<l.length->vs[m]? = some (.bool (f ()))
 | [],_,_,_,_,h,_,_,_=>by cases h
 | x::l,vs,j,m,f,h,hE,hk,hm=>by
  obtain⟨v,us,rfl,hx,m5⟩:=hE.head;unfold zW at h;split at h
  . rename_i a ha;have hv:=E9 ha hx;split at h
    . cases h;have:m=0:=by simpa using hm
      subst this;rw [hv];rfl
    . cases hf:zW k (j+1) l with
      | none=>rw [hf] at h; cases h
      | some g =>
       rw [hf] at h;cases h
       cases m with
       | zero =>
        exact YE
       | succ m =>
        have:decide (k ()=(j:Int))=false:=by rw [fQ]; omega
        rw [this,NN];exact YF hf m5 (by rw [hk]; congr 1; omega) (by simpa using hm)
  . cases h
theorem YG{k:Unit->Int}{l:List AV}{av:AV}(h:E7 k l=some av)(hE:aV w ρ base ro l vs)(hk:k ()=m)(hm:m<l.length):∃ v,vs[m]? = some v/\af w ρ base ro av v:=by
 unfold E7 at h;have e9:k ()=((0+m:Nat):Int):=by rw [hk]; congr 1; omega
 split at h
 all_goals first|cases h; done|skip
 all_goals (rename_i kk _ l)
 . exact YH
 . exact YH
 . exact YI
 . exact YI
theorem alv{cells:List AV}{n c:Nat}(hE:aV w ρ base ro cells vs)(hl:cells.length=n*dK)(hc:c<dK):aV w ρ base ro (JE cells n dK c) ((List.range n).map fun m=>vs.getD (m*dK+c) undef):=by
 unfold JE;refine ye fun m hm => ?_;rw [gA] at hm;have ah:m*dK+c<cells.length:=by
  rw [hl];have:(m+1)*dK<=n*dK:=oy _ hm;rw [lH] at this;omega
 obtain⟨v,h1,h2⟩:=hE.get (bc ah);rw [aX,bc ah,aX,h1];exact h2
theorem YJ{k:Unit->Int}{cells:List AV}{vs:List Value}{n dK m:Nat}(hE:aV w ρ base ro cells vs)(hl:cells.length=n*dK)(hk:k ()=m)(hm:m<n):∀ {cs:List Nat} {out:List AV},CC k cells n dK cs=some out->(∀ c∈cs,c<dK)->aV w ρ base ro out (cs.map fun c=>vs.getD (m*dK+c) undef)
 | [],out,h,_=>by
  simp only [CC,bF] at h;subst h;exact .nil
 | c::cs,out,h,aF=>by
  unfold CC at h;split at h
  . rename_i x l h1 h2;cases h;obtain⟨v,h3,h4⟩:=YG h1 (alv hE hl (aF c (.head _))) hk (by unfold JE; simpa using hm);rw [ga,IG hm,du,bF] at h3;refine .cons ?_ (YJ hE hl hk hm h2 fun c hc=>aF c (.tail _ hc));show af w ρ base ro x (vs.getD (m*dK+c) undef)
    rw [h3];exact h4
  . cases h
theorem alw(aE:cT P tb){a b av:AV}(h:Pb (fu tb T) a b=some (av,vcs))(hv:∀ c∈vcs,c ())(hx:af w ρ base ro a (r x))(hy:af w ρ base ro b (r y)) :
 ∃ v,(execOp r ⟨d,.index T x y,ty,pos,aft,gd⟩).run P w = .ok (.value v) w/\af w ρ base ro av v:=by
 unfold Pb at h;split at h
 . rename_i n e sz ag cells e1;obtain⟨i,_,h1,h2⟩:=eI aE e1;obtain⟨k1,⟨j,k2,k3⟩,k4,k5⟩:=PC h2 h1;obtain⟨vs,rP,hE⟩:=hx.oK;have cC:∀ (kk:IntKind) (m:Nat) v,r y = .int kk (m:Int)->m<n->(part e vs.toArray (m*sz)).run P w = .ok v w->(execOp r ⟨d,.index T x y,ty,pos,aft,gd⟩).run P w = .ok (.value v) w:=by
    intro kk m v JR yi hp;have h0:(0:Int)<=(m:Int)/\(m:Int)<(n:Int):=oo
    unfold execOp;simp only [rP,JR,Instr.index,asIntOf,underlying,sizeOf,typeInfo,bp,bL,bI,mR,k1,h0,eO,IS,k2,k3,fE,hp]
   split at h
   . rename_i kk m;split at h
     . rename_i hm;simp only [ax,aL] at hm;have em:((m.toNat:Nat):Int)=m:=oo
       cases hc:cut ag (m.toNat*sz) sz cells with
       | none=>rw [hc] at h; cases h
       | some mi =>
        rw [hc] at h;cases h;have hr:=fun v=>cC kk m.toNat v (by rw [em]; exact hy.mh) oo;unfold cut at hc
        cases hb:ag with
        | true =>
         rw [hb,aC rfl] at hc;split at hc
         . rename_i hlen;cases hc;have hd:=(hE.drop (m.toNat*sz)).take sz;exact⟨_,hr _ (CF ⟨j,k2,k3⟩ k5 (fun _=>by rw [<- hE.1]; exact hlen) (fun h=>by rw [k4,hb] at h; cases h) (fun _=>rfl)),.agg _ _ hd.1 hd.2⟩
         . cases hc
        | false =>
         rw [hb] at hc;simp only [dV,dw] at hc;obtain⟨v,rK,rN⟩:=hE.get hc;exact⟨v,hr _ (CF ⟨j,k2,k3⟩ k5 (fun h=>by rw [k4,hb] at h; cases h) (fun _=>rK) (fun h=>by rw [k4,hb] at h; cases h)),rN⟩
     . cases h
   . rename_i kk k;split at h
     . rename_i hl;have hl:=eq_of_beq hl;have YK:vcs=x8 k (fun _=>(n:Int))->0<=k ()/\k ()<(n:Int):=fun e=>hv _ (by rw [e]; exact .head _);split at h
       . cases hs:CC k cells n sz (List.range sz) with
         | none=>rw [hs] at h; cases h
         | some out =>
          rw [hs] at h;cases h;have hk:=YK rfl;have em:(((k ()).toNat:Nat):Int)=k ():=oo
          have yi:(k ()).toNat<n:=oo
          have hlen:(k ()).toNat*sz+sz<=vs.length:=by
           rw [<- hE.1,hl,<- B9];exact oy _ yi
          have hO:=YJ hE hl em.symm yi hs fun c hc=>gA.1 hc;have e3:((List.range sz).map fun c=>vs.getD ((k ()).toNat*sz+c) undef)=(vs.drop ((k ()).toNat*sz)).take sz:=by
           apply vL;intro q;rw [ga,eh,lG];rcases b9 q sz with hq|hq
           . rw [IG hq,aC hq,du,bc oo,aX,bc oo];rfl
           . rw [aw oo,sQ (by simpa using hq)];rfl
          rw [e3] at hO;exact⟨_,cC kk _ _ (by rw [em]; exact hy.iw) yi (CF ⟨j,k2,k3⟩ k5 (fun _=>hlen) (fun h=>by rw [k4] at h; cases h) (fun _=>rfl)),.agg _ _ hO.1 hO.2⟩
       . split at h
         . rename_i aO;have aO:=eq_of_beq aO;subst aO
           cases hs:E7 k cells with
           | none=>rw [hs] at h; cases h
           | some out =>
            rw [hs] at h;cases h;have hk:=YK rfl;have em:(((k ()).toNat:Nat):Int)=k ():=oo
            have yi:(k ()).toNat<n:=oo
            obtain⟨v,q1,q2⟩:=YG hs hE em.symm (by rw [hl]; omega);exact⟨v,cC kk _ _ (by rw [em]; exact hy.iw) yi (CF ⟨j,k2,k3⟩ k5 (fun h=>by rw [k4] at h; cases h) (fun _=>by rw [mS]; exact q1) (fun h=>by rw [k4] at h; cases h)),q2⟩
         . cases h
     . cases h
   . cases h
 . rename_i s e1;split at h
   . rename_i kk k ek;cases h;obtain⟨i,_,h1,h2⟩:=eI aE e1;have hk:=hv _ (.head _);obtain⟨ds,hd,hm⟩:=mZ h2;rw [h1] at hm;cases ds<;>first|(simp [jH] at hm; done)|skip
     have cR:0<=k ():=hk.1;have bU:k ()<((s ()).data.size:Int):=hk.2;have ah:(k ()).toNat<(s ()).data.size:=oo
     have hb:(s ())[(k ()).toNat]? = some ((s ()).data[(k ()).toNat]'ah):=getElem?_pos (s ()) (k ()).toNat ah;refine⟨_,?_,.int .u8 _⟩;unfold execOp;simp only [hx.zX,jk ek hy,Instr.index,asIntOf,underlying,bp,bL,bI,mR,hd,cR,eO,hb];unfold X4;rw [getElem?_pos (s ()).data (k ()).toNat ah];rfl
   . cases h
 . cases h
end
end Go.Proofs.YtamjbkaclhgffaaGreat
