/-
  What single operations give is as the abstract run says: structs that are built, elements of slices, arguments of calls.
-/
import Derived.Test.YtamjbkaclhgffaaGreatSh4
set_option linter.all false
namespace Go.Proofs.YtamjbkaclhgffaaGreat
open Go.RowKit
variable{es:Array MapEntry}{ag fr fr':Bool}{kk:IntKind}{c:Kc}{vcs:List VC}{cs vs:List Value}{T T' bb dZ e et kt l2 loc m ml off sz:Nat}{place:Nat->Option (Nat×Nat)}{ge:Nat->Option En}{x y:Operand}{A:Option Addr}{hi lo o:Option Operand}{t t':Tc}{a b dd f:Unit->Int}{left n:Unit->Nat}{i:fC}{tb:lE}
section
variable{P:Program}{r:Operand->Value}{d:Option Nat}{ty:TypeId}{pos:String}{aft:Array Edge}{gd:Option (Nat×Bool)}{u v:Value}{w:World}
variable{ρ:Nat->Option Rl}{base:Nat}{ro ra:Nat->Prop}
theorem ao2{x:AV}(h:Q0 x v=true):aj w ρ base ro x v:=by
 unfold Q0 at h;split at h
 . simp only [aD,aU,cC] at h;obtain⟨rfl,rfl⟩:=h;exact .lit _ _
 . rw [eq_of_beq h];exact .aV _
 . rename_i s s';have h1:s ()=s':=by
    have h2:=eq_of_beq h
    cases hs:s () with
    | mk a =>
     rw [hs] at h2;cases s';simp only at h2;rw [h2]
   rw [<- h1];exact .str _
 . exact .nil
 . simp only [aD,aU,cC] at h;obtain⟨rfl,rfl⟩:=h;exact .int _ _
 . rw [<- eq_of_beq h];exact .bool _
 . rename_i fr t l;have e:Value.slice none 0 0=Value.slice none (l ()).length 0:=by rw [FZ.1 h]; rfl
   rw [e];exact .sl _ _ _ none 0 [] (by rw [FZ.1 h]; rfl) (aN _) (Rd.nil _ _ _ _) (fun _ h=>by cases h) (fun _ _ h=>by cases h) (fun k cs j x v h=>by simp at h)
 . exact .un _
 . cases h
theorem Rf:∀ {l:List AV} {vs:List Value},DP l vs=true->bn w ρ base ro l vs
 | [],[],_ => .nil
 | x::l,v::vs,h=>by
  simp only [DP,aD] at h;exact .cons (ao2 h.1) (Rf h.2)
 | [],_::_,h=>by cases h
 | _::_,[],h=>by cases h
theorem aal(off:Nat):∀ (l pre z post:List Value) (k:Nat),z.length=l.length->pre.length=off+k->(l.zipIdx k).foldl (fun (cs:Array Value) (p:Value×Nat)=>cs.setIfInBounds (off+p.2) p.1) (pre++z++post).toArray=(pre++l++post).toArray
 | [],pre,z,post,k,h,_=>by
  have:z = []:=De (by simpa using h);subst this;rfl
 | x::l,pre,[],post,k,h,_=>by simp at h
 | x::l,pre,y::z,post,k,h,hp=>by
  have h1:=aal off l (pre ++ [x]) z post (k+1) (by simpa using h) (by simp; omega);simp only [List.zipIdx_cons,F7];have e:(pre++y::z++post).toArray.setIfInBounds (off+k) x=(pre ++ [x]++z++post).toArray:=by
   apply yP;rw [<- hp];simp
  rw [e];rw [h1];simp
theorem Rg{x:AV}(h:aj w ρ base ro x v)(h1:∀ l,x ≠ .agg l)(h2:x ≠ .un):v.cells = #[v]:=by
 cases h<;>first|rfl|exact absurd rfl h2|exact absurd rfl (h1 _)
theorem Rh{i:Nat}{rest:List (Nat×Value)}(hp:place i=some (off,vs.length))(hv:v.cells=vs.toArray)(hl:off+vs.length<=cs.length) :
 Instr.fill place cs.toArray ((i,v)::rest)=Instr.fill place (cs.take off++vs++cs.drop (off+vs.length)).toArray rest:=by
 rw [Instr.fill];simp only [hp,hv,Dh,ne_eq,Kg,xy,uo,gt_iff_lt,aU];rw [ax oo];have h1:=aal off vs (cs.take off) ((cs.drop off).take vs.length) (cs.drop (off+vs.length)) 0 (by simp; omega) (by simp; omega);have e:cs.take off++(cs.drop off).take vs.length++cs.drop (off+vs.length)=cs:=by
  exact Zv
 rw [e] at h1;rw [<- h1,<- Array.foldl_toList];simp only [Array.toList_zipIdx]
theorem ao3(x:Value)(l:List Value)(n:Nat)(h:n<l.length):l.set n x=l.take n ++ [x]++l.drop (n+1):=by
 rw [List.set_eq_take_append_cons_drop,aG h];simp
theorem Ri{place:Nat->Option (Nat×Nat)}:∀ {ps:List (Nat×AV)} {qs:List (Nat×Value)} {cells:List AV} {cs:List Value} {out:List AV},bn w ρ base ro cells cs->ps.map (·.1)=qs.map (·.1)->bn w ρ base ro (ps.map (·.2)) (qs.map (·.2))->v9 place cells ps=some out ->
 ∃ cs':List Value,Instr.fill place cs.toArray qs=some cs'.toArray/\bn w ρ base ro out cs'
 | [],[],cells,cs,out,hE,_,_,h=>by
  simp only [v9,bU] at h;subst h;exact⟨cs,rfl,hE⟩
 | (i,x)::ps,(i',v)::qs,cells,cs,out,hE,hi,hp,h=>by
  simp only [jj,vL] at hi;obtain⟨rfl,hi⟩:=hi;obtain⟨v',us,e,hx,bC⟩:=hp.head;simp only [jj,vL] at e;obtain⟨rfl,rfl⟩:=e;unfold v9 at h;split at h
  . cases h
  . rename_i off size dh;split at h
    . rename_i l;split at h
      . rename_i hs;simp only [aD,cC,aU] at hs;obtain⟨jS,wb⟩:=hs;obtain⟨vs,rfl,hl⟩:=hx.rf;subst jS;obtain⟨cs',h1,h2⟩:=Ri (((hE.take off).append hl).append (hE.drop (off+l.length))) hi bC h;refine⟨cs',?_,h2⟩;rw [hl.1] at h1 dh wb;rw [Rh dh rfl (by rw [<- hE.1]; exact wb)];exact h1
      . cases h
    . cases h
    . cases h
    . rename_i nM we Rj;split at h
      . rename_i hs;simp only [aD,cC,aU] at hs;obtain⟨rfl,wb⟩:=hs;have hc:=Rg hx (fun l e=>nM l e) we;obtain⟨cs',h1,h2⟩:=Ri (hE.set hx off) hi bC h;refine⟨cs',?_,h2⟩;have af:off<cs.length:=by rw [<- hE.1]; omega
        rw [Rh (vs := [v]) dh hc (by simp; omega)];rw [ao3 _ _ _ af] at h1;exact h1
      . cases h
 | [],_::_,_,_,_,_,hi,_,_=>by simp at hi
 | _::_,[],_,_,_,_,hi,_,_=>by simp at hi
theorem Rk(h:gP P T i=true)(hz:i.z.isEmpty=false):∃ j z,P.info? T=some j/\j.zero=some z/\bn w ρ base ro i.z z.cells.toList:=by
 obtain⟨j,hj,_,h2⟩:=Lx h
 cases zb:j.zero with
 | none=>rw [zb] at h2; simp only at h2; rw [hz] at h2; cases h2
 | some z=>rw [zb] at h2; exact⟨j,z,hj,zb,Rf h2⟩
theorem zc{α:Type}{f : α->AV}{h : α->Value}{l:List α}(hl:∀ x∈l,aj w ρ base ro (f x) (h x)):bn w ρ base ro (l.map f) (l.map h):=by
 refine⟨by simp,fun j x v hx hv => ?_⟩;rw [gC] at hx hv
 cases hj:l[j]? with
 | none=>rw [hj] at hx; cases hx
 | some y =>
  rw [hj] at hx hv;simp only [dG,bU] at hx hv;subst hx; subst hv;exact hl y (gK hj)
theorem aam:∀ {fs:List Field} {l:List (Nat×Nat×Bool)},y4 P fs l=true->fs.mapM (fun f=>(P.info? f.type).map fun i=>(f.offset,i.size))=some (l.map fun f=>(f.1,f.2.1))
 | [],[],_=>rfl
 | f::fs,(o,s,a)::l,h=>by
  unfold y4 at h;simp only [aD,cC] at h;have h1:=aam h.2;have h2:=h.1.1.2
  cases hi:P.info? f.type with
  | none=>rw [hi] at h2; simp at h2
  | some i =>
   rw [hi] at h2;simp only [cC] at h2;simp [List.mapM_cons,hi,h1,h.1.1.1,h2]
 | [],_::_,h=>by cases h
 | _::_,[],h=>by cases h
theorem aan{g:Operand->AV}{parts:Array (Nat×Operand)}{av:AV}{out:List AV}(ht:gP P T i=true)(hg:∀ p∈parts.toList,aj w ρ base ro (g p.2) (r p.2))(hz:i.z.isEmpty=false)(dh:(∃ fs,i.ti = .struct fs/\place=fun k=>(fs[k]?).map fun f=>(f.1,f.2.1))\/∃ n e dZ a,i.ti = .array n e dZ a/\place=fun k=>some (k*dZ,dZ))(h:v9 place i.z (parts.toList.map fun p=>(p.1,g p.2))=some out)(eU:av = .agg out) :
 ∃ v,(execOp r ⟨d,.build T parts,ty,pos,aft,gd⟩).run P w = .ok (.value v) w/\aj w ρ base ro av v:=by
 subst eU;obtain⟨j,z,hj,zb,hE⟩:=Rk (w:=w) (ρ := ρ) (base:=base) (ro:=ro) ht hz;obtain⟨cs',h1,h2⟩:=Ri (qs:=parts.toList.map fun p=>(p.1,r p.2)) hE (by simp) (by simp only [xz]; exact zc hg) h;have hb:P.built T (parts.map fun (i,x)=>(i,r x)).toList=some cs'.toArray:=by
  obtain⟨ds,hd,hm⟩:=oB ht;have e:(parts.map fun (i,x)=>(i,r x)).toList=parts.toList.map fun p=>(p.1,r p.2):=by simp
  rw [e];rcases dh with ⟨fs,Bv,rfl⟩|⟨n,e',dZ,a,Bv,rfl⟩
  . rw [Bv] at hm;cases ds<;>first|(simp [kN] at hm; done)|skip
    rename_i fields;have pq:y4 P fields.toList fs=true:=hm;unfold Program.built;simp only [hj,hd,zb,aam pq];rw [<- h1];congr 1;funext k;simp
  . rw [Bv] at hm;cases ds<;>first|(simp [kN] at hm; done)|skip
    rename_i n' Rm;simp only [kN,aD,cC] at hm;obtain⟨⟨⟨_,he⟩,hi⟩,_⟩:=hm
    cases Bw:P.info? Rm with
    | none=>rw [Bw] at hi; simp at hi
    | some ie =>
     rw [Bw] at hi;simp only [cC] at hi;unfold Program.built;simp only [hj,hd,zb,Bw,hi];exact h1
 refine⟨.agg cs'.toArray,?_,.agg _ _ h2.1 h2.2⟩;unfold execOp;simp only [bQ,run_build w T _ _ hb,cg,cq]
theorem Ly{b:Nat}(ht:gP P T i=true)(hi:i.ti = .slice e sz b):elemOf P T=some (e,sz):=by
 obtain⟨ds,hd,hm⟩:=oB ht;rw [hi] at hm;cases ds<;>first|(simp [kN] at hm; done)|skip
 rename_i e';simp only [kN,aD,cC] at hm;obtain⟨⟨he,_⟩,h3⟩:=hm;unfold elemOf;rw [hd];subst he
 cases hj:P.info? e' with
 | none=>rw [hj] at h3; simp at h3
 | some j =>
  rw [hj] at h3;simp only [aD,cC] at h3;simp [hj,h3.1.1]
theorem Rn{b:Nat}{l:Unit->List t.el}{k:Unit->Int}(ht:gP P T i=true)(hi:i.ti = .slice e sz b)(hs:t.size=sz)(hx:aj w ρ base ro (.sl fr t l) (r x))(hy:r y = .int kk (k ()))(hk:0<=k ()/\k ()<((l ()).length:Int)) :
 ∃ v,(∀ w',(execOp r ⟨d,.indexAddr T x y,ty,pos,aft,gd⟩).run P w' = .ok (.value v) w')/\aj w ρ base ro (.bP (bf fr t fun _=>(l ()).getD (k ()).toNat t.aa) 0) v:=by
 obtain⟨A,c,css,hl,hc,hr,ck,_,dQ,hv⟩:=hx.rh;have im:(k ()).toNat<css.length:=oo
 obtain⟨b',o,hA,af,hlen,aS⟩:=hr _ _ (bq im);have bg:css ≠ []:=by intro h; rw [h] at im; simp at im
 have hE:=wa hlen fun j y v h1 h2=>dQ _ _ j y v (bq im) h1 h2;subst hs;rw [hA] at hv;have e:(((k ()).toNat:Nat):Int)=k ():=oo
 refine⟨_,fun w'=>QK hv (by rw [hy,e]) (Ly ht hi) (by rw [e]; exact hk.2) rfl,?_⟩;exact .bP _ 0 b' (o+(k ()).toNat*t.size) _ (ck _ hA bg) af hE.1 aS hE.2
theorem ao4(cR:∀ loc e,ge loc=some e->dz w ρ base ro loc e){b:Nat}{l:Unit->List t.el}{k:Unit->Int}(ht:gP P T i=true)(hi:i.ti = .slice e sz b)(hs:t.size=sz)(he:ge loc=some (.row fr t T' l))(hx:aj w ρ base ro (.own loc) (r x))(hy:r y = .int kk (k ()))(hk:0<=k ()/\k ()<((l ()).length:Int)) :
 ∃ v,(∀ w',(execOp r ⟨d,.indexAddr T x y,ty,pos,aft,gd⟩).run P w' = .ok (.value v) w')/\aj w ρ base ro (.dv t loc k 0) v:=by
 obtain⟨A,c,css,hA,bS,hlen,dQ⟩:=cR _ _ he;obtain⟨A',n,c',bW,hv⟩:=hx.uI;rw [hA] at bW;injection bW with bW;injection bW with e1 e2 e3;subst e1; subst e2; subst e3;have im:(k ()).toNat<css.length:=oo
 rcases bS.block with ⟨_,_,h0⟩|⟨g,cur,rfl,_,_,_⟩
 . rw [h0] at im; simp at im
 . subst hs;have e:(((k ()).toNat:Nat):Int)=k ():=oo
   refine⟨_,fun w'=>QK hv (by rw [hy,e]) (Ly ht hi) (by rw [e]; exact hk.2) rfl,?_⟩;rw [ia];exact .dv t loc k 0 _ _ _ g hA rfl hk.1 hk.2
theorem aao(cR:∀ loc e,ge loc=some e->dz w ρ base ro loc e){b:Nat}{z av:AV}{k:Unit->Int}(ht:gP P T i=true)(hi:i.ti = .slice e sz b)(h:Q8 ge sz k z=some (av,vcs))(hx:aj w ρ base ro z (r x))(hy:r y = .int kk (k ()))(hv:∀ c∈vcs,c ()) :
 ∃ v,(∀ w',(execOp r ⟨d,.indexAddr T x y,ty,pos,aft,gd⟩).run P w' = .ok (.value v) w')/\aj w ρ base ro av v:=by
 unfold Q8 at h;split at h
 . split at h
   . rename_i fr t T' l he;split at h
     . rename_i hs;cases h;exact ao4 cR ht hi (eq_of_beq hs) he hx hy (hv _ (.head _))
     . cases h
   . cases h
 . rename_i t loc a b';split at h
   . rename_i fr t' T' l he;split at h
     . rename_i hs;cases h;obtain⟨rfl,rfl⟩:=hs;have hk:0<=k ()/\k ()<((b' () - a ():Nat):Int):=hv _ (.head _);obtain⟨A,c,css,hA,bS,hlen,dQ⟩:=cR _ _ he;obtain⟨A',n,c',bW,bJ,wg,hq⟩:=hx.y9;rw [hA] at bW;injection bW with bW;injection bW with e1 e2 e3;subst e1; subst e2; subst e3;have QD:=bS.cap.1;rcases bS.block with ⟨_,_,h0⟩|⟨g,cur,rfl,_,_,_⟩
       . rw [h0] at hlen;simp only [hZ] at hlen;omega
       have e:(((k ()).toNat:Nat):Int)=k ():=oo
       have jq:r x = .slice (some ⟨g,a ()*t.size,none⟩) (b' () - a ()) (c - a ()):=by
        rw [hq];unfold sliced;rw [ax oo,dG,ur,ia]
       refine⟨_,fun w'=>QK jq (by rw [hy,e]) (Ly ht hi) (by rw [e]; exact hk.2) rfl,?_⟩;have e2:((a ():Int)+k ()).toNat=a ()+(k ()).toNat:=oo
       have h7:aj w ρ base ro (.dv t loc (fun _=>(a ():Int)+k ()) 0) (.pointer (some ⟨g,((a ():Int)+k ()).toNat*t.size+0,none⟩)) := .dv t loc _ 0 _ _ _ g hA rfl (show 0<=(a ():Int)+k () from oo) (show (a ():Int)+k ()<_ from oo);rw [e2,mV,jD] at h7;exact h7
     . cases h
   . cases h
 . cases h
/- cells of y0 is not called new -/
def AV.loose:AV->AV
 | .sl _ t l => .sl false t l
 | .wide _ t l n => .wide false t l n
 | x=>x
theorem DW(fr:Bool)(t:Tc)(x:Unit->t.el):bf false t x=(bf fr t x).map AV.loose:=by cases t<;>rfl
theorem aj.wh{x:AV}(h:aj w ρ base ro x v):aj w ρ base ro x.loose v:=by
 induction h with
 | sl fr t l A c css hl hc hr ck df h ih =>
  refine .sl false t l A c css hl hc hr ck (fun h=>by cases h) fun k cs j x v h1 h2 h3 => ?_;rw [DW fr,gC] at h2
  cases hj:(bf fr t fun _=>(l ()).getD k t.aa)[j]? with
  | none=>rw [hj] at h2; cases h2
  | some y =>
   rw [hj] at h2;simp only [dG,bU] at h2;subst h2;exact ih k cs j y v h1 hj h3
 | un=>exact .un _
 | gv=>exact .gv _
 | int=>exact .int _ _
 | lit=>exact .lit _ _
 | bool=>exact .bool _
 | aV=>exact .aV _
 | str=>exact .str _
 | nil=>exact .nil
 | wide fr t l n A c hn h ih=>exact .wide false t l n A c hn ih
 | bP cells off b o cs ck af hl hc h _=>exact .bP cells off b o cs ck af hl hc h
 | ptr loc off b h=>exact .ptr _ _ _ h
 | fX loc off n b h=>exact .fX _ _ _ _ h
 | own loc A n c h=>exact .own _ _ _ _ h
 | dv t loc k off A n c b h hA h0 hn=>exact .dv _ _ _ _ _ _ _ _ h hA h0 hn
 | cW t loc a b A n c h bJ=>exact .cW _ _ _ _ _ _ _ h bJ
 | mp l b h=>exact .mp _ _ h
 | bL l s h=>exact .bL _ _ h
 | it l l2 b h=>exact .it _ _ _ h
 | agg l vs hl h _=>exact .agg _ _ hl h
 | bp l vs hl h _=>exact .bp _ _ hl h
 | fn f dV vs hl h _=>exact .fn _ _ _ hl h
end
section
variable{P:Program}{r:Operand->Value}{d:Option Nat}{ty:TypeId}{pos:String}{aft:Array Edge}{gd:Option (Nat×Bool)}{u v:Value}{w:World}
variable{ρ:Nat->Option Rl}{base:Nat}{ro ra:Nat->Prop}
theorem aap{l:Lk}{x:AV}{k:Unit->Kx}(h:GH l x=some k)(hx:aj w ρ base ro x v):v=(k ()).val/\l.fits (k ())=true:=by
 unfold GH at h;split at h
 . split at h<;>cases h
   rename_i hk;subst hk;exact⟨hx.jU,by simp [Lk.fits]⟩
 . split at h<;>cases h
   rename_i hk;subst hk;exact⟨hx.nO,by simp [Lk.fits]⟩
 . cases h;exact⟨hx.qb,rfl⟩
 . cases h;exact⟨hx.re,rfl⟩
 . cases h;exact⟨hx.y7,rfl⟩
 . cases h
theorem Lz:∀ {ls:List Lk} {xs:List AV} {k:Unit->List Kx} {vs:List Value},xF ls xs=some k->bn w ρ base ro xs vs->vs=(k ()).map Kx.val/\dP ls (k ())=true
 | [],[],k,vs,h,hE=>by
  cases h;exact⟨hE.none,rfl⟩
 | l::ls,x::xs,k,vs,h,hE=>by
  unfold xF at h;split at h
  . rename_i a b h1 h2;cases h;obtain⟨v,us,rfl,hx,oC⟩:=hE.head;obtain⟨h3,h4⟩:=aap h1 hx;obtain⟨h5,h6⟩:=Lz h2 oC;exact⟨by rw [h3,h5]; rfl,by simp [dP,h4,h6]⟩
  . cases h
 | [],_::_,_,_,h,_=>by cases h
 | _::_,[],_,_,h,_=>by cases h
theorem Ro{x:AV}{k:Unit->List Kx}(h:y6 c x=some k)(hx:aj w ρ base ro x v):ic c v (k ()):=by
 cases c with
 | one l =>
  simp only [y6] at h
  cases hk:GH l x with
  | none=>rw [hk] at h; cases h
  | some a =>
   rw [hk] at h;cases h;obtain⟨h1,h2⟩:=aap hk hx;exact⟨h1,by simp [Kc.ls,dP,h2]⟩
 | arr n l =>
  exact aaq
 | st ls =>
  exact aaq
theorem aar{l:Lk}{x:Unit->Kx}(h:l.fits (x ())=true):aj w ρ base ro (Ll l x) (x ()).val:=by
 cases l<;>cases hx:x ()<;>rw [hx] at h<;>simp only [Lk.fits,fk,aU] at h
 . rename_i k k' n;subst h;have:Value.int k n=Value.int k ((x ()).num):=by rw [hx]; rfl
   show aj w ρ base ro _ (Value.int k n)
   rw [this];exact .int _ _
 . rename_i p;have:Value.bool p=Value.bool ((x ()).flag):=by rw [hx]; rfl
   show aj w ρ base ro _ (Value.bool p)
   rw [this];exact .bool _
 . rename_i s;have:Value.string s=Value.string ((x ()).Z6):=by rw [hx]; rfl
   show aj w ρ base ro _ (Value.string s)
   rw [this];exact .str _
theorem Rq{k:Unit->List Kx}:∀ {ls:List Lk} {n:Nat},dP ls ((k ()).drop n)=true->bn w ρ base ro (Lm ls n k) (((k ()).drop n).map Kx.val)
 | [],n,h=>by
  rw [lC h];exact .nil
 | l::ls,n,h=>by
  obtain⟨x,q,e,hx,hq⟩:=mA h;obtain⟨g,dq⟩:=drop_cons e;have ih:=Rq (k:=k) (ls:=ls) (n:=n+1) (by rw [dq]; exact hq);rw [dq] at ih;rw [e];have hv:(k ()).getD n (.i .i64 0)=x:=by simp [aY,g]
  refine .cons ?_ ih;have h1:=aar (w:=w) (ρ := ρ) (base:=base) (ro:=ro) (l:=l) (x:=fun _=>(k ()).getD n (.i .i64 0)) (by simp only [hv]; exact hx);simp only [hv] at h1 ⊢;exact h1
theorem ao5{k:Unit->List Kx}(h:ic c v (k ())):aj w ρ base ro (Ln c k) v:=by
 obtain⟨h1,h2⟩:=h
 cases c with
 | one l =>
  obtain⟨x,q,e,hx,hq⟩:=mA h2;cases lC hq;rw [h1,e];have hv:(k ()).getD 0 (.i .i64 0)=x:=by rw [e]; rfl
  have h3:=aar (w:=w) (ρ := ρ) (base:=base) (ro:=ro) (l:=l) (x:=fun _=>(k ()).getD 0 (.i .i64 0)) (by simp only [hv]; exact hx);simp only [hv] at h3;show aj w ρ base ro (Ll l fun _=>(k ()).getD 0 (.i .i64 0)) x.val
  simp only [hv];exact h3
 | arr n l =>
  have h3:=Rq (w:=w) (ρ := ρ) (base:=base) (ro:=ro) (k:=k) (ls:=List.replicate n l) (n:=0) (by simpa [Kc.ls] using h2);rw [h1];exact .agg _ _ h3.1 h3.2
 | st ls =>
  have h3:=Rq (w:=w) (ρ := ρ) (base:=base) (ro:=ro) (k:=k) (ls:=ls) (n:=0) (by simpa [Kc.ls] using h2);rw [h1];exact .agg _ _ h3.1 h3.2
theorem ao6{l:List AV}(h:bn w ρ base ro l vs):bn w ρ base ro (l.map AV.loose) vs:=by
 exact aas
theorem GM{x:Unit->t.el}(h:aj w ρ base ro (fh ag fr t x) v)(hf:fr'=true->fr=true):aj w ρ base ro (fh ag fr' t x) v:=by
 cases fr' with
 | true=>rw [hf rfl] at h; exact h
 | false =>
  unfold fh at h ⊢
  cases ag with
  | true =>
   simp only [fH] at h ⊢;obtain⟨vs,rfl,hE⟩:=h.rf;rw [DW fr];have:=ao6 hE;exact .agg _ _ this.1 this.2
  | false =>
   simp only [fk,dK] at h ⊢;rw [DW fr]
   cases hc:bf fr t x with
   | nil=>exact .un _
   | cons c l =>
    rw [hc] at h
    cases l with
    | nil=>exact aj.wh h
    | cons c2 l=>exact .un _
theorem LA(h:gP P T i=true)(hi:i.ti = .map kt et c t ag):P.underlying T=some (.map kt et)/\v7 P kt c=true/\(ag=true\/t.size=1)/\∃ j z,P.info? et=some j/\j.zero=some z/\aj w ρ base ro (fh ag true t fun _=>t.aa) z:=by
 obtain⟨ds,hd,hm⟩:=oB h;rw [hi] at hm;cases ds<;>first|(simp [kN] at hm; done)|skip
 rename_i k e;simp only [kN,aD,cC,fM] at hm;obtain⟨⟨⟨⟨rfl,rfl⟩,h1,h2⟩,h3⟩,h4⟩:=hm;refine⟨hd,h1,h3,?_⟩
 cases hj:P.info? e with
 | none=>rw [hj] at h4; cases h4
 | some j =>
  rw [hj] at h4;simp only at h4
  cases hz:j.zero with
  | none=>rw [hz] at h4; cases h4
  | some z =>
   rw [hz] at h4;simp only [aD] at h4;refine⟨j,z,rfl,hz,?_⟩;have hE:bn w ρ base ro (bf true t fun _=>t.aa) z.cells.toList:=Rf h4.1;have hs:=h4.2;unfold fh
   cases ag with
   | true =>
    simp only [fH];cases z<;>simp [Q1] at hs;rename_i cs;have:bn w ρ base ro (bf true t fun _=>t.aa) cs.toList:=hE;have h5:aj w ρ base ro (.agg (bf true t fun _=>t.aa)) (.agg cs.toList.toArray) := .agg _ _ this.1 this.2;simpa using h5
   | false =>
    simp only [fk,dK];have hl:(bf true t fun _=>t.aa).length=1:=by
     rw [QW];rcases h3 with h3|h3
     . cases h3
     . exact h3
    have hzc:z.cells = #[z]:=by cases z<;>first|rfl|simp [Q1] at hs
    cases hc:bf true t fun _=>t.aa with
    | nil=>rw [hc] at hl; cases hl
    | cons x l =>
     rw [hc] at hl hE
     cases l with
     | cons y l=>simp at hl
     | nil =>
      rw [hzc] at hE;exact hE.2 0 x z rfl rfl
theorem aat{j:TypeInfo}{z:Value}(hj:P.info? T=some j)(hz:j.zero=some z):(zeroValue T).run P w = .ok z w:=by
 exact aau
theorem na.keys{m:List Kx->Option t.el}(h:na w ρ base ro fr ag c t m es):∀ e∈es.toList,∃ b,ic c e.key b:=fun e he=>by
 obtain⟨key,x,h1,_⟩:=h.1 e he;exact⟨key,h1⟩
theorem LB{a b:List Kx}(h1:ic c v a)(h2:ic c v b):a=b:=key_inj h1.2 h2.2 (h1.1.symm.trans h2.1)
theorem na.find{m:List Kx->Option t.el}{key:List Kx}(h:na w ρ base ro fr ag c t m es)(hk:v7 P kt c=true)(hv:ic c v key) :
 ((Instr.findKey kt v es.toList).run P w = .ok none w/\m key=none/\∀ e∈es.toList,¬ ic c e.key key)\/∃ j e x,(Instr.findKey kt v es.toList).run P w = .ok (some (j,e.val)) w/\es[j]? = some e/\ic c e.key key/\m key=some x/\aj w ρ base ro (fh ag fr t fun _=>x) e.val:=by
 rw [hv.1];rcases aoB (P:=P) (w:=w) hk hv.2 es.toList h.keys with ⟨h1,h2⟩|⟨j,e,h1,h2,h3⟩
 . refine .inl ⟨h1,?_,h2⟩
   cases hm:m key with
   | none=>rfl
   | some x =>
    obtain⟨e,he,h3⟩:=h.2 key x hv.2 hm;exact absurd h3 (h2 e he)
 . obtain⟨kc,x,h4,h5,h6⟩:=h.1 e (gK h2);cases LB h3 h4;exact .inr ⟨j,e,x,h1,by simpa using h2,h3,h5,h6⟩
theorem ao8{ok:Bool}{m:Unit->List Kx->Option t.el}{k:Unit->List Kx}(ht:gP P T i=true)(hi:i.ti = .map kt et c t ag)(he:dz w ρ base ro loc (.map fr ag c t T' m))(hx:aj w ρ base ro (.mp loc) (r x))(hk:ic c (r y) (k ())) :
 ∃ v,(execOp r ⟨d,.lookup T x y ok,ty,pos,aft,gd⟩).run P w = .ok (.value v) w/\aj w ρ base ro (Lo ag fr t (fun _=>m () (k ())) ok) v:=by
 obtain⟨hu,oA,_,j,z,hj,hz,Rr⟩:=LA (w:=w) (ρ := ρ) (base:=base) (ro:=ro) ht hi;obtain⟨b,es,clock,hb,hh,hst,hm⟩:=he;obtain⟨b',bo,uJ⟩:=hx.Br;rw [hb] at bo;injection bo with bo;injection bo with bo;subst bo;have kd:∀ (o:Option (Nat×Value)),(Instr.findKey kt (r y) es.toList).run P w = .ok o w->(execOp r ⟨d,.lookup T x y ok,ty,pos,aft,gd⟩).run P w = .ok (.value (if ok then .tuple #[(match o with|some (_,u)=>u|none=>z),.bool o.isSome] else match o with|some (_,u)=>u|none=>z)) w:=by
  intro o ho;unfold execOp;simp only [Instr.lookup,uJ,bQ,qM hu,cg,MapKept.run_getObj_map hh,cq];rw [hk.1] at ho ⊢;rw [K3 (w:=w) oA hk.2];simp only [cg,ho]
  cases o with
  | none=>simp only [bQ,aat hj hz,cg,cq]; rfl
  | some p=>obtain⟨n,u⟩:=p; simp only [bQ,cg,cq]; rfl
 have ga:∀ (u:Value) (q:Bool),aj w ρ base ro (fh ag fr t fun _=>(m () (k ())).getD t.aa) u->(m () (k ())).isSome=q->aj w ρ base ro (Lo ag fr t (fun _=>m () (k ())) ok) (if ok then .tuple #[u,.bool q] else u):=by
  intro u q h1 h2;unfold Lo
  cases ok with
  | false=>exact h1
  | true =>
   simp only [fH];have h3:bn w ρ base ro [fh ag fr t fun _=>(m () (k ())).getD t.aa,.bool fun _=>(m () (k ())).isSome] [u,.bool q] := .cons h1 (.cons (by rw [<- h2]; exact .bool _) .nil);exact .bp _ _ h3.1 h3.2
 rcases hm.find (P:=P) oA hk with ⟨h1,h2,_⟩|⟨n,e,x',h1,_,_,h3,h4⟩
 . refine⟨_,kd _ h1,ga z false ?_ (by rw [h2]; rfl)⟩;have:(fun _:Unit=>(m () (k ())).getD t.aa)=fun _=>t.aa:=by rw [h2]; rfl
   rw [this];exact GM Rr fun _=>rfl
 . refine⟨_,kd _ h1,ga e.val true ?_ (by rw [h3]; rfl)⟩;have:(fun _:Unit=>(m () (k ())).getD t.aa)=fun _=>x':=by rw [h3]; rfl
   rw [this];exact h4
theorem ao9{m:Unit->List Kx->Option t.el}{seen:Unit->List (List Kx)}(he:dz w ρ base ro ml (.map fr ag c t T m))(hi:dz w ρ base ro l2 (.iter ml c seen left))(hx:aj w ρ base ro (.it ml l2) (r x))(hs:seen () ≠ []) :
 ∃ v,(execOp r ⟨d,.entry x,ty,pos,aft,gd⟩).run P w = .ok (.value v) w/\aj w ρ base ro (.bp [Ln c fun _=>(seen ()).headD [],fh ag fr t fun _=>(m () ((seen ()).headD [])).getD t.aa]) v:=by
 obtain⟨b,es,clock,hb,hh,hst,hm⟩:=he;obtain⟨b',b2,jV,pr,since,stamps,c0,h1,h2,h3,h4,h5,h6,h7,h8,h9⟩:=hi;rw [hb] at h2;injection h2 with h2;injection h2 with h2;subst h2;rw [hh] at h3;injection h3 with h3;injection h3 with e1 e2;subst e1; subst e2;obtain⟨b3,pn,uJ⟩:=hx.Ra;rw [h1] at pn;injection pn with pn;injection pn with pn;subst pn;obtain⟨key,rest,Rs⟩:∃ key rest,seen ()=key::rest:=by
  cases qc:seen () with
  | nil=>exact absurd qc hs
  | cons key rest=>exact⟨key,rest,rfl⟩
 obtain⟨rfl,e,heM,fN,jr⟩:=h9 key rest Rs;have zd:=(MapKept.stamped_iff es c0).1 hst;have hf:es.find? (·.born==e.born)=some e:=by rw [<- Array.find?_toList]; exact find_born e es.toList zd.2.1 heM
 obtain⟨kc,x',k1,k2,k3⟩:=hm.1 e heM;cases LB jr k1;refine⟨.tuple #[e.key,e.val],?_,?_⟩
 . unfold execOp;simp only [Instr.entry,uJ,getObj,bQ,Sem.run,h4,hh,Result.andThen,fN,YP,fk,dK,hf];rfl
 . have e3:(fun _:Unit=>(m () ((seen ()).headD [])).getD t.aa)=fun _=>x':=by rw [Rs]; simp [k2]
   have mY:bn w ρ base ro [Ln c fun _=>(seen ()).headD [],fh ag fr t fun _=>(m () ((seen ()).headD [])).getD t.aa] [e.key,e.val] := .cons (ao5 (by simp only [Rs,List.headD_cons]; exact jr)) (.cons (by rw [e3]; exact k3) .nil);exact .bp _ _ mY.1 mY.2
theorem apa(aQ:dp P tb){t':Nat}(hi:al tb T=some i)(bg:i.eq.isEmpty=false){cs ds:List AV}{a b:Unit->List Kx}(ha:xF i.eq cs=some a)(hb:xF i.eq ds=some b)(hx:aj w ρ base ro (.agg cs) (r x))(hy:aj w ρ base ro (.agg ds) (r y))(w':World) :
 (execOp r ⟨d,.binOp .eql T x y t',ty,pos,aft,gd⟩).run P w' = .ok (.value (.bool (decide (a ()=b ())))) w'/\(execOp r ⟨d,.binOp .neq T x y t',ty,pos,aft,gd⟩).run P w' = .ok (.value (.bool (!decide (a ()=b ())))) w':=by
 obtain⟨vs,xH,hE⟩:=hx.rf;obtain⟨us,LC,hF⟩:=hy.rf;obtain⟨rfl,f1⟩:=Lz ha hE;obtain⟨rfl,f2⟩:=Lz hb hF;have ht:=aQ T i hi;unfold gP at ht;simp only [aD] at ht;have he:=ht.2;unfold Z5 at he;rw [bg,uo] at he;simp only [aD,fG] at he;obtain⟨⟨p9,hfl⟩,hg⟩:=he;have h3:=QY (P:=P) 20 10000 oo T i.eq hfl;rw [p9] at h3;have h4:(Op.equalIn 10000 T (.agg ((a ()).map Kx.val).toArray) (.agg ((b ()).map Kx.val).toArray)).run P w' = .ok (decide (a ()=b ())) w':=h3 w' _ _ f1 f2;have g1:=run_eqGuard_agg (w:=w') .eql T x y ((a ()).map Kx.val).toArray ((b ()).map Kx.val).toArray hg;have g2:=run_eqGuard_agg (w:=w') .neq T x y ((a ()).map Kx.val).toArray ((b ()).map Kx.val).toArray hg;constructor
 . unfold execOp;simp only [xH,LC,bQ,g1,cg,run_eql_struct,h4,cq]
 . unfold execOp;simp only [xH,LC,bQ,g2,cg,run_neq_struct,h4,cq]
theorem aaw(aQ:dp P tb){op:BinOp}{t':Nat}{cs ds:List AV}{av:AV}(h:GI (al tb T) op (.agg cs) (.agg ds)=some (av,vcs))(hx:aj w ρ base ro (.agg cs) (r x))(hy:aj w ρ base ro (.agg ds) (r y)) :
 ∃ v,(∀ w',(execOp r ⟨d,.binOp op T x y t',ty,pos,aft,gd⟩).run P w' = .ok (.value v) w')/\aj w ρ base ro av v:=by
 unfold GI at h;dsimp only at h;split at h
 . rename_i i hi;split at h
   . cases h
   . rename_i bg;split at h
     . rename_i a b ha hb;have h1:=fun w'=>apa (d:=d) (ty:=ty) (pos:=pos) (aft:=aft) (gd:=gd) (t':=t') aQ hi (by simpa using bg) ha hb hx hy w';split at h
       . cases h;exact⟨_,fun w'=>(h1 w').1,.bool _⟩
       . cases h;exact⟨_,fun w'=>(h1 w').2,.bool fun _ => !decide (a ()=b ())⟩
       . cases h
     . cases h
 . cases h
theorem Rt{l:Unit->List t.el}{a b:Nat}{n c:Nat}(h:aj w ρ base ro (.sl fr t l) (.slice A n c))(bJ:a<=b)(hb:b<=(l ()).length):aj w ρ base ro (.sl fr t fun _=>((l ()).take b).drop a) (sliced A a b c t.size):=by
 obtain⟨A',c',css,hl,hc,hr,ck,df,aS,hv⟩:=h.rh;injection hv with e1 e2 e3;subst e1; subst e2; subst e3;have hlen:((css.take b).drop a).length=b - a:=by simp [hl]; omega
 have GN:(((l ()).take b).drop a).length=b - a:=by simp; omega
 have lF:∀ (k:Nat) cs,((css.take b).drop a)[k]? = some cs->css[a+k]? = some cs/\a+k<b:=by
  intro k cs hk;rw [mo,e9] at hk;split at hk
  . exact⟨hk,by assumption⟩
  . cases hk
 have bg:∀ (x:Unit),(css.take b).drop a ≠ []->c≠a:=by
  intro _ hn;have:0<b - a:=by rw [<- hlen]; exact List.length_pos_iff.2 hn
  omega
 have DX:(css.take b).drop a ≠ []->css ≠ []:=fun hn e=>hn (by rw [e]; simp);have hA:∀ ad,(if c=a then A else A.map (·.add (a*t.size)))=some ad->(css.take b).drop a ≠ []->∃ a0,A=some a0/\ad.block=a0.block:=by
  intro ad he hn;rw [ax (bg () hn)] at he;obtain⟨a0,h1,h2⟩:=nH.1 he;obtain⟨c0,rest,qd⟩:=aDZ (DX hn);obtain⟨bl,off,h3,_⟩:=hr 0 c0 (by rw [qd]; rfl);rw [h3] at h1;injection h1 with h1;subst h1;exact⟨_,h3,by rw [<- h2,ur]⟩
 show aj w ρ base ro _ (.slice (if c=a then A else A.map (·.add (a*t.size))) (b - a) (c - a))
 rw [<- GN];refine .sl fr t (fun _=>((l ()).take b).drop a) _ _ ((css.take b).drop a) (by rw [hlen,GN]) (by rw [hlen]; omega) ?_ (fun ad he hn => ?_) (fun hf ad he hn => ?_) ?_
 . intro k cs hk;obtain⟨h1,h2⟩:=lF k cs hk;obtain⟨bl,off,h3,h4,h5,h6⟩:=hr (a+k) cs h1;refine⟨bl,off+a*t.size,?_,h4,h5,fun j u hu => ?_⟩
   . rw [ax oo,h3,dG,ur]
   . have:=h6 j u hu;rw [mV] at this;rw [show off+a*t.size+k*t.size+j=off+(a*t.size+k*t.size)+j from oo];exact this
 . obtain⟨a0,h1,h2⟩:=hA ad he hn;rw [h2];exact ck a0 h1 (DX hn)
 . obtain⟨a0,h1,h2⟩:=hA ad he hn;rw [h2];exact df hf a0 h1 (DX hn)
 . intro k cs j x v hk hx hv;obtain⟨h1,h2⟩:=lF k cs hk;refine aS (a+k) cs j x v h1 ?_ hv;have e:(((l ()).take b).drop a).getD k t.aa=(l ()).getD (a+k) t.aa:=by
    rw [aY,aY,mo,e9,aG h2]
   rw [<- e];exact hx
theorem aax{g:Operand->AV}(h:qZ g dd o=some f)(hg:∀ x,o=some x->aj w ρ base ro (g x) (r x)):(o=none/\f=dd)\/∃ x k,o=some x/\r x = .int k (f ()):=by
 cases o with
 | none =>
  simp only [qZ,bU] at h;exact .inl ⟨rfl,h.symm⟩
 | some x =>
  simp only [qZ] at h
  cases hx:(g x).asInt with
  | none=>rw [hx] at h; cases h
  | some p =>
   obtain⟨k,n⟩:=p;rw [hx] at h;cases h;exact .inr ⟨x,k,rfl,kb hx (hg x rfl)⟩
theorem aay(aQ:dp P tb){n c:Nat}{g:Operand->AV}(hT:al tb T=some i)(mr:i.ti = .slice e sz bb)(qe:r x = .slice A n c)(pt:n<=c)(ha:qZ g (fun _=>0) lo=some a)(hb:qZ g (fun _=>(n:Int)) hi=some b)(ze:∀ y,lo=some y->aj w ρ base ro (g y) (r y))(GO:∀ y,hi=some y->aj w ρ base ro (g y) (r y))(hv:0<=a ()/\a ()<=b ()/\b ()<=(n:Int)) :
 (execOp r ⟨d,.slice T x lo hi none,ty,pos,aft,gd⟩).run P w = .ok (.value (sliced A (a ()).toNat (b ()).toNat c sz)) w:=by
 have hu:P.underlying T=some (.slice (P.elem T))/\∀ w',(sizeOf (P.elem T)).run P w' = .ok sz w':=by
  exact aaz
 obtain⟨hu,bc⟩:=hu;obtain⟨v0,v1,v2⟩:=hv;unfold execOp;simp only [qe,run_sliceAt_slice _ _ _ _ _ _ hu,bQ];have LD:b ()<=(c:Int):=oo
 rcases aax ha ze with ⟨rfl,ea⟩|⟨yl,kl,rfl,ea⟩<;>rcases aax hb GO with ⟨rfl,eb⟩|⟨yh,kh,rfl,eb⟩
 . subst ea; subst eb;simp only [Dl,run_slice_all _ _ _ _ _ hu,bc,cg,cq,fB,anp]
 . subst ea;simp only [Dl,dG,eb,run_slice_h w T A n c hu kh (b ()) (Int.le_trans v0 v1) LD,bc,cg,cq,anp]
 . subst eb;simp only [Dl,dG,ea,run_slice_l _ _ _ _ _ hu kl (a ()) oo oo,bc,cg,cq,fB]
 . simp only [Dl,dG,ea,eb,run_slice_lh w T A n c hu kl kh (a ()) (b ()) v0 v1 LD,bc,cg,cq]
theorem apc(aQ:dp P tb){l:Unit->List t.el}{g:Operand->AV}(hT:al tb T=some i)(mr:i.ti = .slice e sz bb)(hs:t.size=sz)(hx:aj w ρ base ro (.sl fr t l) (r x))(ha:qZ g (fun _=>0) lo=some a)(hb:qZ g (fun _=>((l ()).length:Int)) hi=some b)(ze:∀ y,lo=some y->aj w ρ base ro (g y) (r y))(GO:∀ y,hi=some y->aj w ρ base ro (g y) (r y))(hv:0<=a ()/\a ()<=b ()/\b ()<=((l ()).length:Int)) :
 ∃ v,(execOp r ⟨d,.slice T x lo hi none,ty,pos,aft,gd⟩).run P w = .ok (.value v) w/\aj w ρ base ro (.sl fr t fun _=>((l ()).take (b ()).toNat).drop (a ()).toNat) v:=by
 obtain⟨A,c,css,h1,h2,h3,h4,h5,h6,qe⟩:=hx.rh;refine⟨_,aay aQ hT mr qe oo ha hb ze GO hv,?_⟩;rw [qe] at hx;rw [<- hs];exact Rt hx oo oo
theorem aaA(aQ:dp P tb)(cR:∀ loc e,ge loc=some e->dz w ρ base ro loc e){l:Unit->List t.el}{g:Operand->AV}(hT:al tb T=some i)(mr:i.ti = .slice e sz bb)(hs:t.size=sz)(he:ge loc=some (.row fr t T' l))(hx:aj w ρ base ro (.own loc) (r x))(ha:qZ g (fun _=>0) lo=some a)(hb:qZ g (fun _=>((l ()).length:Int)) hi=some b)(ze:∀ y,lo=some y->aj w ρ base ro (g y) (r y))(GO:∀ y,hi=some y->aj w ρ base ro (g y) (r y))(hv:0<=a ()/\a ()<=b ()/\b ()<=((l ()).length:Int)) :
 ∃ v,(execOp r ⟨d,.slice T x lo hi none,ty,pos,aft,gd⟩).run P w = .ok (.value v) w/\aj w ρ base ro (.cW t loc (fun _=>(a ()).toNat) fun _=>(b ()).toNat) v:=by
 obtain⟨A,c,css,hA,bS,hlen,_⟩:=cR _ _ he;obtain⟨A',n,c',bW,qe⟩:=hx.uI;rw [hA] at bW;injection bW with bW;injection bW with e1 e2 e3;subst e1; subst e2; subst e3;have QD:=bS.cap.1;refine⟨_,aay aQ hT mr qe oo ha hb ze GO hv,?_⟩;rw [<- hs];exact .cW t loc (fun _=>(a ()).toNat) (fun _=>(b ()).toNat) A _ c hA ⟨oo,oo⟩
theorem apd(aQ:dp P tb){n:Nat}(hT:al tb T=some i)(hi:i.ti = .array n e 1 ag)(hx:aj w ρ base ro (.ptr loc off) (r x)) :
 ∃ v,(execOp r ⟨d,.slice T x none none none,ty,pos,aft,gd⟩).run P w = .ok (.value v) w/\aj w ρ base ro (.fX loc off n) v:=by
 obtain⟨b,hb,qe⟩:=hx.y8;obtain⟨ds,hd,hm⟩:=oB (aQ T i hT);rw [hi] at hm;cases ds<;>first|(simp [kN] at hm; done)|skip
 rename_i n' e';simp only [kN,aD,cC] at hm;obtain⟨⟨⟨rfl,rfl⟩,hm⟩,_⟩:=hm;have he:P.elem T=e':=by simp [Program.elem,hd]
 have hn:P.arrayLen T=n':=by simp [Program.arrayLen,hd]
 have hu:P.underlying T=some (.array (P.arrayLen T) (P.elem T)):=by rw [he,hn]; exact hd
 have bc:∀ w',(sizeOf (P.elem T)).run P w' = .ok 1 w':=fun w'=>by
  rw [he]
  cases hj:P.info? e' with
  | none=>rw [hj] at hm; cases hm
  | some j =>
   rw [hj] at hm;rw [run_sizeOf w' hj];simp only [cC] at hm;simp [Program.cellsOf,hj,hm]
 refine⟨.slice (some ⟨b,off,none⟩) n' n',?_,.fX _ _ _ _ hb⟩;unfold execOp;simp only [qe,Dl,bQ,run_sliceAt_array_all w T _ hu,bc,cg,cq,slicedAt,hn,sd,vR,ur,jD,ite_self]
theorem ape{B size c a b:Nat}{css:List (List Value)}(hr:Rd w B size A css)(bJ:a<=b)(hb:b<=css.length)(hc:css.length<=c):∃ X,sliced A a b c size = .slice X (b - a) (c - a)/\Rd w B size X ((css.take b).drop a):=by
 refine⟨_,rfl,fun k cs hk => ?_⟩;rw [mo,e9] at hk;split at hk
 . rename_i af;obtain⟨bl,off,h3,h4,h5,h6⟩:=hr (a+k) cs hk;refine⟨bl,off+a*size,?_,h4,h5,fun j u hu => ?_⟩
   . rw [ax oo,h3,dG,ur]
   . have:=h6 j u hu;rw [mV] at this;rw [show off+a*size+k*size+j=off+(a*size+k*size)+j from oo];exact this
 . cases hk
end
section
variable{P:Program}{r:Operand->Value}{d:Option Nat}{ty:TypeId}{pos:String}{aft:Array Edge}{gd:Option (Nat×Bool)}{u v:Value}{w:World}
variable{ρ:Nat->Option Rl}{base:Nat}{ro:Nat->Prop}
theorem aj.GP{l:Unit->List t.el}(h:aj w ρ base ro (.wide fr t l n) v):∃ A c,n ()<=(l ()).length/\aj w ρ base ro (.sl fr t l) (.slice A (l ()).length c)/\v = .slice A (n ()) c:=by
 cases h with
 | wide _ _ _ _ A c hn h=>exact⟨A,c,hn,h,rfl⟩
theorem Bx{l:Unit->List t.el}(h:aj w ρ base ro (.wide fr t l n) v):aj w ρ base ro (.sl fr t fun _=>(l ()).take (n ())) v:=by
 obtain⟨A,c,hn,h2,rfl⟩:=h.GP;obtain⟨A',c',css,hl,hc,hr,ck,df,aS,hv⟩:=h2.rh;injection hv with e1 e2 e3;subst e1; subst e3;have hlen:((l ()).take (n ())).length=n ():=by rw [cy]; omega
 have DX:css.take (n ()) ≠ []->css ≠ []:=fun hn e=>hn (by rw [e]; simp);have key:aj w ρ base ro (.sl fr t fun _=>(l ()).take (n ())) (.slice A ((l ()).take (n ())).length c):=by
  refine .sl fr t (fun _=>(l ()).take (n ())) A c (css.take (n ())) (by rw [cy,hlen]; omega) (by rw [cy]; omega) (fun k cs hk => ?_) (fun a ha hq=>ck a ha (DX hq)) (fun hf a ha hq=>df hf a ha (DX hq)) fun k cs j x v h1 h2 h3 => ?_
  . rw [e9] at hk;split at hk
    . exact hr k cs hk
    . cases hk
  . rw [e9] at h1;split at h1
    . rename_i hk;refine aS k cs j x v h1 ?_ h3;have e:((l ()).take (n ())).getD k t.aa=(l ()).getD k t.aa:=by rw [aY,aY,e9,aG hk]
      rw [<- e];exact h2
    . cases h1
 rwa [hlen] at key
/- elements aEf y0 apf behind apg aEg -/
def AV.thin:AV->AV
 | .sl _ t l => .sl false t l
 | .wide _ t l n => .sl false t fun _=>(l ()).take (n ())
 | x=>x
theorem aj.aph{x:AV}(h:aj w ρ base ro x v):aj w ρ base ro x.thin v:=by
 cases x<;>first|exact h.wh|exact (Bx h).wh|exact h
theorem api{f:t.el->t'.el}(h:Gy t t'=some f)(fr:Bool)(x:Unit->t.el):bf false t' (fun _=>f (x ()))=(bf fr t x).map AV.thin:=by
 unfold Gy at h;split at h<;>first|(cases h; rfl)|cases h
theorem apj{f:t.el->t'.el}(h:Gy t t'=some f):t'.size=t.size:=by
 unfold Gy at h;split at h<;>first|rfl|cases h
theorem apk{l:Unit->List t.el}{av:AV}(h:Q3 t t' l n=some av)(hx:aj w ρ base ro (.wide fr t l n) v):aj w ρ base ro av v/\AV.plain false av=true:=by
 unfold Q3 at h;split at h
 . rename_i f hf;cases h;refine⟨?_,rfl⟩;have h1:=Bx hx;generalize hL:(fun (_:Unit)=>(l ()).take (n ()))=L at h1;obtain⟨A,c,css,hl,hc,hr,ck,_,aS,rfl⟩:=h1.rh;have key:aj w ρ base ro (.sl false t' fun _=>(L ()).map f) (.slice A ((L ()).map f).length c):=by
    refine .sl false t' (fun _=>(L ()).map f) A c css (by rw [di]; exact hl) hc (by rw [apj hf]; exact hr) ck (fun h=>by cases h) fun k cs j x v h1 h2 h3 => ?_;have hk:k<(L ()).length:=by rw [<- hl]; exact (c8.1 h1).1
    have e:((L ()).map f).getD k t'.aa=f ((L ()).getD k t.aa):=by simp [aY,bq hk]
    rw [e,api hf fr fun _=>(L ()).getD k t.aa,gC] at h2;obtain⟨y,h4,rfl⟩:=nH.1 h2;exact (aS k cs j y v h1 h4 h3).aph
   rw [di] at key;subst hL;exact key
 . cases h
theorem aaB{b:Nat}{l:Unit->List t.el}{k:Unit->Int}(ht:gP P T i=true)(hi:i.ti = .slice e sz b)(hs:t.size=sz)(hx:aj w ρ base ro (.wide fr t l n) (r x))(hy:r y = .int kk (k ()))(hk:0<=k ()/\k ()<(n ():Int)) :
 ∃ v,(∀ w',(execOp r ⟨d,.indexAddr T x y,ty,pos,aft,gd⟩).run P w' = .ok (.value v) w')/\aj w ρ base ro (.bP (bf fr t fun _=>(l ()).getD (k ()).toNat t.aa) 0) v:=by
 obtain⟨_,_,oD,_⟩:=hx.GP;have h1:=Bx hx;have hlen:((l ()).take (n ())).length=n ():=by rw [cy]; omega
 obtain⟨v,h2,h3⟩:=Rn (d:=d) (ty:=ty) (pos:=pos) (aft:=aft) (gd:=gd) ht hi hs h1 hy (by rw [hlen]; exact hk);refine⟨v,h2,?_⟩;have e:((l ()).take (n ())).getD (k ()).toNat t.aa=(l ()).getD (k ()).toNat t.aa:=by rw [aY,aY,e9,aG oo]
 rw [<- e];exact h3
theorem aaC(aQ:dp P tb){c:Nat}{hi:Operand}{l:Unit->List t.el}(hT:al tb T=some i)(mr:i.ti = .slice e sz bb)(hs:t.size=sz)(hx:r x = .slice A m c)(hl:aj w ρ base ro (.sl fr t l) (.slice A (l ()).length c))(hb:r hi = .int kk (b ()))(hv:0<=b ()/\b ()<=((l ()).length:Int)) :
 ∃ v,(execOp r ⟨d,.slice T x none (some hi) none,ty,pos,aft,gd⟩).run P w = .ok (.value v) w/\aj w ρ base ro (.wide fr t l fun _=>(b ()).toNat) v:=by
 have hu:P.underlying T=some (.slice (P.elem T))/\∀ w',(sizeOf (P.elem T)).run P w' = .ok sz w':=by
  exact aaz
 obtain⟨hu,bc⟩:=hu;obtain⟨A',c',css,h1,h2,_,_,_,_,hev⟩:=hl.rh;injection hev with e1 e2 e3;subst e1; subst e3;have LD:b ()<=(c:Int):=oo
 refine⟨sliced A 0 (b ()).toNat c sz,?_,?_⟩
 . unfold execOp;simp only [hx,run_sliceAt_slice _ _ _ _ _ _ hu,bQ,Dl,dG,hb,run_slice_h w T A m c hu kk (b ()) hv.1 LD,bc,cg,cq]
 . have h4:=Rt hl (bw (l ()).length) (aN _);have e:(fun (_:Unit)=>((l ()).take (l ()).length).drop 0)=l:=by funext u; simp
   rw [e,hs] at h4;exact .wide fr t l (fun _=>(b ()).toNat) _ _ oo h4
theorem Ru{n:Nat}{a:Bool}(ht:gP P T i=true)(hi:i.ti = .array n e sz a):P.underlying T=some (.array n e)/\(∃ j,P.info? e=some j/\j.size=sz)/\il P e=a/\∃ ds,P.underlying e=some ds:=by
 obtain⟨ds,hd,hm⟩:=oB ht;rw [hi] at hm;cases ds<;>first|(simp [kN] at hm; done)|skip
 simp only [kN,aD,cC] at hm;obtain⟨⟨⟨rfl,rfl⟩,h3⟩,h4,h5⟩:=hm;refine⟨hd,?_,h4,YB.1 h5⟩
 cases hj:P.info? _ with
 | none=>rw [hj] at h3; cases h3
 | some j=>rw [hj] at h3; exact⟨j,rfl,eq_of_beq h3⟩
theorem aaD(aQ:dp P tb){a b av:AV}(h:Q7 (fZ tb T) a b=some (av,vcs))(hx:aj w ρ base ro a (r x))(hy:aj w ρ base ro b (r y)) :
 ∃ v,(∀ w',(execOp r ⟨d,.indexAddr T x y,ty,pos,aft,gd⟩).run P w' = .ok (.value v) w')/\aj w ρ base ro av v:=by
 unfold Q7 at h;split at h
 . rename_i n e sz ag kk m e1;split at h
   . rename_i hm;simp only [aD,aU] at hm;obtain⟨i,_,h1,h2⟩:=fD aQ e1;obtain⟨k1,⟨j,k2,k3⟩,_⟩:=Ru h2 h1
     cases ha:Bn a (m.toNat*sz) with
     | none=>rw [ha] at h; cases h
     | some nP =>
      rw [ha] at h;cases h;obtain⟨b',o,q1,q2⟩:=Re ha hx;have em:((m.toNat:Nat):Int)=m:=oo
      exact⟨_,fun w'=>aoG (k:=m.toNat) q1 (by rw [em]; exact hy.nO) k1 (by rw [k2]; simp [k3]) (by rw [em]; exact hm.2) rfl,q2⟩
   . cases h
 . cases h
theorem aaE{kk:IntKind}{k:Unit->Int}:∀ {l:List AV} {vs:List Value} {j m:Nat} {f:Unit->Int},Bp kk k j l=some f->bn w ρ base ro l vs->k ()=((j+m:Nat):Int)->m<l.length->vs[m]? = some (.int kk (f ()))
 | [],_,_,_,_,h,_,_,_=>by cases h
 | x::l,vs,j,m,f,h,hE,hk,hm=>by
  obtain⟨v,us,rfl,hx,oC⟩:=hE.head;unfold Bp at h;split at h
  . rename_i k' a ha;split at h
    . rename_i im;subst im;have hv:=kb ha hx;split at h
      . cases h;have:m=0:=by simpa using hm
        subst this;rw [hv];rfl
      . cases hf:Bp k' k (j+1) l with
        | none=>rw [hf] at h; cases h
        | some g =>
         rw [hf] at h;cases h
         cases m with
         | zero =>
          exact aaF
         | succ m =>
          have:decide (k ()=(j:Int))=false:=by rw [ew]; omega
          rw [this,PW];exact aaE hf oC (by rw [hk]; congr 1; omega) (by simpa using hm)
    . cases h
  . cases h
theorem aaG{k:Unit->Int}:∀ {l:List AV} {vs:List Value} {j m:Nat} {f:Unit->Bool},Bq k j l=some f->bn w ρ base ro l vs->k ()=((j+m:Nat):Int)->m<l.length->vs[m]? = some (.bool (f ()))
 | [],_,_,_,_,h,_,_,_=>by cases h
 | x::l,vs,j,m,f,h,hE,hk,hm=>by
  obtain⟨v,us,rfl,hx,oC⟩:=hE.head;unfold Bq at h;split at h
  . rename_i a ha;have hv:=GL ha hx;split at h
    . cases h;have:m=0:=by simpa using hm
      subst this;rw [hv];rfl
    . cases hf:Bq k (j+1) l with
      | none=>rw [hf] at h; cases h
      | some g =>
       rw [hf] at h;cases h
       cases m with
       | zero =>
        exact aaF
       | succ m =>
        have:decide (k ()=(j:Int))=false:=by rw [ew]; omega
        rw [this,PW];exact aaG hf oC (by rw [hk]; congr 1; omega) (by simpa using hm)
  . cases h
theorem aaH{k:Unit->Int}{l:List AV}{av:AV}(h:GJ k l=some av)(hE:bn w ρ base ro l vs)(hk:k ()=(m:Int))(hm:m<l.length):∃ v,vs[m]? = some v/\aj w ρ base ro av v:=by
 unfold GJ at h;have fO:k ()=((0+m:Nat):Int):=by rw [hk]; congr 1; omega
 split at h
 all_goals first|cases h; done|skip
 all_goals (rename_i kk _ l)
 . exact aaI
 . exact aaI
 . exact aaJ
 . exact aaJ
theorem apm{cells:List AV}{n c:Nat}(hE:bn w ρ base ro cells vs)(hl:cells.length=n*dZ)(hc:c<dZ):bn w ρ base ro (Lq cells n dZ c) ((List.range n).map fun m=>vs.getD (m*dZ+c) undef):=by
 unfold Lq;refine zc fun m hm => ?_;rw [iV] at hm;have af:m*dZ+c<cells.length:=by
  rw [hl];have:(m+1)*dZ<=n*dZ:=pd _ hm;rw [mV] at this;omega
 obtain⟨v,h1,h2⟩:=hE.get (bq af);rw [aY,bq af,aY,h1];exact h2
theorem aaK{k:Unit->Int}{cells:List AV}{vs:List Value}{n dZ m:Nat}(hE:bn w ρ base ro cells vs)(hl:cells.length=n*dZ)(hk:k ()=(m:Int))(hm:m<n):∀ {cs:List Nat} {out:List AV},DS k cells n dZ cs=some out->(∀ c∈cs,c<dZ)->bn w ρ base ro out (cs.map fun c=>vs.getD (m*dZ+c) undef)
 | [],out,h,_=>by
  simp only [DS,bU] at h;subst h;exact .nil
 | c::cs,out,h,aS=>by
  unfold DS at h;split at h
  . rename_i x l h1 h2;cases h;obtain⟨v,h3,h4⟩:=aaH h1 (apm hE hl (aS c (.head _))) hk (by unfold Lq; simpa using hm);rw [gC,xu hm,dG,bU] at h3;refine .cons ?_ (aaK hE hl hk hm h2 fun c hc=>aS c (.tail _ hc));show aj w ρ base ro x (vs.getD (m*dZ+c) undef)
    rw [h3];exact h4
  . cases h
theorem apn(aQ:dp P tb){a b av:AV}(h:Q6 (fZ tb T) a b=some (av,vcs))(hv:∀ c∈vcs,c ())(hx:aj w ρ base ro a (r x))(hy:aj w ρ base ro b (r y)) :
 ∃ v,(execOp r ⟨d,.index T x y,ty,pos,aft,gd⟩).run P w = .ok (.value v) w/\aj w ρ base ro av v:=by
 unfold Q6 at h;split at h
 . rename_i n e sz ag cells e1;obtain⟨i,_,h1,h2⟩:=fD aQ e1;obtain⟨k1,⟨j,k2,k3⟩,k4,k5⟩:=Ru h2 h1;obtain⟨vs,xH,hE⟩:=hx.rf;have cZ:∀ (kk:IntKind) (m:Nat) v,r y = .int kk (m:Int)->m<n->(part e vs.toArray (m*sz)).run P w = .ok v w->(execOp r ⟨d,.index T x y,ty,pos,aft,gd⟩).run P w = .ok (.value v) w:=by
    intro kk m v LF zf hp;have h0:(0:Int)<=(m:Int)/\(m:Int)<(n:Int):=oo
    unfold execOp;simp only [xH,LF,Instr.index,asIntOf,underlying,sizeOf,typeInfo,bQ,cq,cg,ou,k1,h0,fH,Qd,k2,k3,fB,hp]
   split at h
   . rename_i kk m;split at h
     . rename_i hm;simp only [aD,aU] at hm;have em:((m.toNat:Nat):Int)=m:=oo
       cases hc:cut ag (m.toNat*sz) sz cells with
       | none=>rw [hc] at h; cases h
       | some nP =>
        rw [hc] at h;cases h;have hr:=fun v=>cZ kk m.toNat v (by rw [em]; exact hy.nO) oo;unfold cut at hc
        cases hb:ag with
        | true =>
         rw [hb,aG rfl] at hc;split at hc
         . rename_i hlen;cases hc;have hd:=(hE.drop (m.toNat*sz)).take sz;exact⟨_,hr _ (DV ⟨j,k2,k3⟩ k5 (fun _=>by rw [<- hE.1]; exact hlen) (fun h=>by rw [k4,hb] at h; cases h) (fun _=>rfl)),.agg _ _ hd.1 hd.2⟩
         . cases hc
        | false =>
         rw [hb] at hc;simp only [fk,dK] at hc;obtain⟨v,vX,p8⟩:=hE.get hc;exact⟨v,hr _ (DV ⟨j,k2,k3⟩ k5 (fun h=>by rw [k4,hb] at h; cases h) (fun _=>vX) (fun h=>by rw [k4,hb] at h; cases h)),p8⟩
     . cases h
   . rename_i kk k;split at h
     . rename_i hl;have hl:=eq_of_beq hl;have hkv:vcs=y5 k (fun _=>(n:Int))->0<=k ()/\k ()<(n:Int):=fun e=>hv _ (by rw [e]; exact .head _);split at h
       . cases hs:DS k cells n sz (List.range sz) with
         | none=>rw [hs] at h; cases h
         | some out =>
          rw [hs] at h;cases h;have hk:=hkv rfl;have em:(((k ()).toNat:Nat):Int)=k ():=oo
          have zf:(k ()).toNat<n:=oo
          have hlen:(k ()).toNat*sz+sz<=vs.length:=by
           rw [<- hE.1,hl,<- Dn];exact pd _ zf
          have hO:=aaK hE hl em.symm zf hs fun c hc=>iV.1 hc;have e3:((List.range sz).map fun c=>vs.getD ((k ()).toNat*sz+c) undef)=(vs.drop ((k ()).toNat*sz)).take sz:=by
           apply xv;intro q;rw [gC,e9,mo];rcases cv q sz with hq|hq
           . rw [xu hq,aG hq,dG,bq oo,aY,bq oo];rfl
           . rw [ax oo,vF (by simpa using hq)];rfl
          rw [e3] at hO;exact⟨_,cZ kk _ _ (by rw [em]; exact hy.jU) zf (DV ⟨j,k2,k3⟩ k5 (fun _=>hlen) (fun h=>by rw [k4] at h; cases h) (fun _=>rfl)),.agg _ _ hO.1 hO.2⟩
       . split at h
         . rename_i bc;have bc:=eq_of_beq bc;subst bc
           cases hs:GJ k cells with
           | none=>rw [hs] at h; cases h
           | some out =>
            rw [hs] at h;cases h;have hk:=hkv rfl;have em:(((k ()).toNat:Nat):Int)=k ():=oo
            have zf:(k ()).toNat<n:=oo
            obtain⟨v,q1,q2⟩:=aaH hs hE em.symm (by rw [hl]; omega);exact⟨v,cZ kk _ _ (by rw [em]; exact hy.jU) zf (DV ⟨j,k2,k3⟩ k5 (fun h=>by rw [k4] at h; cases h) (fun _=>by rw [lX]; exact q1) (fun h=>by rw [k4] at h; cases h)),q2⟩
         . cases h
     . cases h
   . cases h
 . rename_i s e1;split at h
   . rename_i kk k ek;cases h;obtain⟨i,_,h1,h2⟩:=fD aQ e1;have hk:=hv _ (.head _);obtain⟨ds,hd,hm⟩:=oB h2;rw [h1] at hm;cases ds<;>first|(simp [kN] at hm; done)|skip
     have bM:0<=k ():=hk.1;have bm:k ()<((s ()).data.size:Int):=hk.2;have af:(k ()).toNat<(s ()).data.size:=oo
     have hb:(s ())[(k ()).toNat]? = some ((s ()).data[(k ()).toNat]'af):=getElem?_pos (s ()) (k ()).toNat af;refine⟨_,?_,.int .u8 _⟩;unfold execOp;simp only [hx.y7,kb ek hy,Instr.index,asIntOf,underlying,bQ,cq,cg,ou,hd,bM,fH,hb];unfold Z7;rw [getElem?_pos (s ()).data (k ()).toNat af];rfl
   . cases h
 . cases h
end
end Go.Proofs.YtamjbkaclhgffaaGreat
