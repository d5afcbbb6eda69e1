/-
  What single operations give is as the abstract run says: calls by their contracts; all operations that make no place and store nothing.
-/
import Derived.Test.YtamjbkaclhgffaaGreatSi5
set_option linter.all false
namespace Go.Proofs.YtamjbkaclhgffaaGreat
open Go.RowKit
variable{av x:AV}{ts:Array TypeId}{a ag fr:Bool}{e:En}{F f:FuncId}{cs:List aN}{T d j7 l loc n sz:Nat}{c y:Operand}{t:Tc}{v:Value}{w w' w0:World}{tb:j9}
section
variable{P:Program}{r:Operand->Value}{d:Option Nat}{ty:TypeId}{pos:String}{aft:Array Edge}{gd:Option (Nat×Bool)}{u v:Value}{w:World}
variable{ρ:Nat->Option Rl}{base:Nat}{ro ra:Nat->Prop}{ge:Nat->Option En}
theorem af.yj(h:af w ρ base ro x v)(hx:AV.plain false x=true)(bt:∀ b,ro b->ra b):af w (fun _=>none) 0 ra x v :=
 (h.plain (ρ':=fun _=>none) hx fun b _ hb=>bt b hb).mono (fun _ _ _=>rfl) (Ext.refl _) (bO _) fun _ h=>h
theorem YL{l:Unit->List t.el}(he:c9 w ρ base ro loc (.row fr t T l))(bt:∀ b,ro b->ra b)(bS:∀ b,b<w.heap.size->ra b):∃ A c,ρ loc=some (.row A (l ()).length c)/\af w (fun _=>none) 0 ra (.sl false t l) (.slice A (l ()).length c):=by
 obtain⟨A,c,css,hA,bw,hlen,dt⟩:=he;refine⟨A,c,hA,.sl false t l A c css hlen (bw.cap.1) bw.rd (fun a ha hn=>bS _ (bw.lt ha).2) (fun h=>by cases h) fun k cs j x v h1 h2 h3 => ?_⟩;rw [CG fr,ga] at h2
 cases hj:(aP fr t fun _=>(l ()).getD k t.aa)[j]? with
 | none=>rw [hj] at h2; cases h2
 | some y =>
  rw [hj] at h2;simp only [du,bF] at h2;subst h2;have h4:=(dt k cs j y v h1 hj h3).uK;refine h4.yj ?_ bt;exact we (EV false t fun _=>(l ()).getD k t.aa) (j:=j) (by rw [CG fr,ga,hj]; rfl)
mutual
theorem YM(cH:∀ loc e,ge loc=some e->c9 w ρ base ro loc e)(bt:∀ b,ro b->ra b):∀ (s:Sg) (x y:AV) (v:Value),coerce ge s x=some y->af w ρ base ro x v->(AV.plain false x=true\/∀ b,b<w.heap.size->ra b)->af w (fun _=>none) 0 ra y v:=by
 intro s x y v h hx hp;unfold coerce at h;split at h
 . split at h<;>cases h
   rename_i hk;subst hk;exact hx.yj rfl bt
 . split at h<;>cases h
   rename_i hk;subst hk;rw [hx.mh];exact .int _ _
 . cases h;exact hx.yj rfl bt
 . cases h;rw [hx.pD];exact .bool _
 . cases h;exact hx.yj rfl bt
 . split at h<;>cases h
   exact hx.uK.yj rfl bt
 . cases h;rw [hx.wj];exact .sl false _ _ none 0 [] rfl (aA _) (Rd.nil _ _ _ _) (fun _ h=>by cases h) (fun h=>by cases h) (fun k cs j x v h=>by simp at h)
 . split at h
   . cases h;exact (z9 hx).uK.yj rfl bt
   . have h1:=als h hx;exact h1.1.yj h1.2 bt
 . split at h<;>cases h
   exact hx.uK.yj rfl bt
 . split at h
   . rename_i fr t' T l he;split at h<;>cases h
     obtain⟨A,c,hA,h1⟩:=YL (cH _ _ he) bt (hp.resolve_left fun h=>by cases h);obtain⟨A',n,c',bG,hv⟩:=hx.tf;rw [hA] at bG;injection bG with bG;injection bG with e1 e2 e3;subst e1; subst e2; subst e3;rw [hv];exact h1
   . cases h
 . split at h
   . rename_i fr t' T l he;split at h
     case isFalse=>cases h
     rename_i ht;obtain⟨rfl,rfl⟩:=ht;cases h;obtain⟨A,c,hA,h1⟩:=YL (cH _ _ he) bt (hp.resolve_left fun h=>by cases h);obtain⟨A',n,c',bG,bk,uJ,hv⟩:=hx.yb;rw [hA] at bG;injection bG with bG;injection bG with e1 e2 e3;subst e1; subst e2; subst e3;rw [hv];exact PB h1 bk uJ
   . cases h
 . rename_i l cs
   cases hc:pB ge l cs with
   | none=>rw [hc] at h; cases h
   | some ys =>
    rw [hc] at h;cases h;obtain⟨vs,rfl,hE⟩:=hx.oK;have h1:=wk cH bt l cs ys vs hc hE (hp.imp (fun h=>by simpa only [AV.plain] using h) id);exact .agg _ _ h1.1 h1.2
 . rename_i l cs
   cases hc:pB ge l cs with
   | none=>rw [hc] at h; cases h
   | some ys =>
    rw [hc] at h;cases h;obtain⟨b,o,vs,h1,h2,h3,hE,rfl⟩:=hx.JI;have h4:=wk cH bt l cs ys vs hc hE (hp.imp (fun h=>by simpa [AV.plain] using h) id);exact .bh _ 0 b o vs (bt _ h1) h2 h4.1 h3 h4.2
 . rename_i l loc;split at h
   . rename_i T cs he
     cases hc:pB ge l cs with
     | none=>rw [hc] at h; cases h
     | some ys =>
      rw [hc] at h;cases h;obtain⟨b,vs,hb,hh,hE⟩:=cH _ _ he;obtain⟨b',aW,rfl⟩:=hx.ya;rw [hb] at aW;injection aW with aW;injection aW with aW;subst aW;have bS:∀ b,b<w.heap.size->ra b:=by
       rcases hp with hp|hp
       . cases hp
       . exact hp
      have ah:=(jA.1 hh).1;have h4:=wk cH bt l cs ys vs hc hE (.inr bS);exact .bh _ 0 b 0 vs (bS _ ah) ah h4.1 (Yd hh) h4.2
   . cases h
 . rename_i l f cs
   cases hc:pB ge l cs with
   | none=>rw [hc] at h; cases h
   | some ys =>
    rw [hc] at h;cases h;obtain⟨vs,rfl,hE⟩:=hx.JG;have h1:=wk cH bt l cs ys vs hc hE (hp.imp (fun h=>by simpa only [AV.plain] using h) id);exact .fn _ _ _ h1.1 h1.2
 . cases h;exact .un _
 . cases h
theorem wk(cH:∀ loc e,ge loc=some e->c9 w ρ base ro loc e)(bt:∀ b,ro b->ra b):∀ (ss:List Sg) (xs ys:List AV) (vs:List Value),pB ge ss xs=some ys->aV w ρ base ro xs vs->(AV.dJ false xs=true\/∀ b,b<w.heap.size->ra b)->aV w (fun _=>none) 0 ra ys vs:=by
 intro ss xs ys vs h hE hp;unfold pB at h;split at h
 . cases h;rw [hE.none];exact .nil
 . rename_i s ss x xs;split at h
   . rename_i y JS h1 h2;cases h;obtain⟨v,us,rfl,hx,m5⟩:=hE.head;refine .cons (YM cH bt s x y v h1 hx (hp.imp (fun h => ?_) id)) (wk cH bt ss xs JS us h2 m5 (hp.imp (fun h => ?_) id))
     . simp only [AV.dJ,ax] at h;exact h.1
     . simp only [AV.dJ,ax] at h;exact h.2
   . cases h
 . cases h
end
theorem alx{c:aN}(aF:∀ c∈cs,aU P c)(h:Jt cs f=some c):aU P c/\c.f=f:=by
 induction cs with
 | nil=>cases h
 | cons c' cs ih =>
  unfold Jt at h;exact YN
theorem JT{xs:Array Operand}{vs:List Value}(hf:r c = .func (.func F) #[] vs.toArray)(s7:∀ args w,(callFunc F args).run P w = .ok (.enter F args) w) :
 (execOp r ⟨d,.call { callee := .value c,args:=xs,argTypes:=ts },ty,pos,aft,gd⟩).run P w = .ok (.enter F (xs.toList.map r++vs).toArray) w:=by
 unfold execOp;simp only [resolve,hf,Deferred.ofValue,bp,bL,bI,invoke,s7];congr 2;apply xF;simp
def PD(P:Program)(r:Operand->Value)(o:Oper)(w:World)(ρ:Nat->Option Rl)(base:Nat)(ro:Nat->Prop)(av:AV):Prop :=
 akE P r o w fun v w'=>af w' ρ base (fun b=>ro b\/w.heap.size<=b) av v
theorem PD.of{o:Oper}(h:∃ v,(execOp r o).run P w = .ok (.value v) w/\af w ρ base ro av v):PD P r o w ρ base ro av:=by
 obtain⟨v,h1,h2⟩:=h;exact .inl ⟨v,w,h1,cu _ _,h2.mono (fun _ _ _=>rfl) (Ext.refl _) (aA _) fun _ h => .inl h⟩
theorem aly{t:Nat}{s:ByteArray}{x:Operand}(hx:r x = .string s)(ht:P.underlying t=some .string):(execOp r ⟨d,.call { callee := .builtin .len,args := #[x],argTypes := #[t] },ty,pos,aft,gd⟩).run P w = .ok (.value (.int .i64 s.size)) w:=by
 exact XI
theorem alz{a:AV}(cH:∀ loc e,ge loc=some e->c9 w ρ base ro loc e)(hs:∀ s,a ≠ .str s)(h:E4 ge a=some av)(ha:af w ρ base ro a u):∃ A n c,u = .slice A n c/\af w ρ base ro av (.int .i64 n):=by
 unfold E4 at h;split at h
 . cases h;exact⟨none,0,0,ha.wj,.lit _ _⟩
 . cases h;obtain⟨A,c,css,_,_,_,_,_,_,rfl⟩:=ha.pE;exact⟨A,_,c,rfl,.int _ _⟩
 . cases h;obtain⟨A,c,_,_,rfl⟩:=ha.Ff;exact⟨A,_,c,rfl,.int _ _⟩
 . split at h
   . rename_i loc fr t T l he;cases h;obtain⟨A,c,css,hA,_,_,_⟩:=cH _ _ he;obtain⟨A',n,c',bG,rfl⟩:=ha.tf;rw [hA] at bG;injection bG with bG;injection bG with e1 e2 e3;subst e1; subst e2; subst e3;exact⟨A,_,c,rfl,.int _ _⟩
   . cases h
 . cases h;obtain⟨A,n,c,_,_,_,rfl⟩:=ha.yb;exact⟨_,_,_,rfl,.int _ _⟩
 . rename_i s;exact absurd rfl (hs s)
 . cases h
theorem YO{x:Operand}{k:IntKind}{m n:Int}(hx:r x = .int k m)(hy:r y = .int k n) :
 (execOp r ⟨d,.call { callee := .builtin .min,args := #[x,y],argTypes:=ts },ty,pos,aft,gd⟩).run P w = .ok (.value (.int k (cond (decide (n<m)) n m))) w/\(execOp r ⟨d,.call { callee := .builtin .max,args := #[x,y],argTypes:=ts },ty,pos,aft,gd⟩).run P w = .ok (.value (.int k (cond (decide (m<n)) n m))) w:=by
 have e:∀ (p:Prop) [Decidable p] (a b:Int),(if p then a else b)=cond (decide p) a b:=fun p _ a b=>by by_cases h:p<;>simp [h]
 constructor
 . unfold execOp;simp only [resolve,invoke,builtin,Eg,gz,sS,hx,hy,bp,run_min_int2,bI,bL,e]
 . unfold execOp;simp only [resolve,invoke,builtin,Eg,gz,sS,hx,hy,bp,run_max_int2,bI,bL,e]
theorem YP{fr:Bool}{t:Tc}{l:Unit->List t.el}{b o:Nat}{css:List (List Value)}(hr:Rd w w.heap.size t.size (some ⟨b,o,none⟩) css)(hlen:css.length=(l ()).length)(dt:∀ (k) (cs) (j:Nat) (x) (v),css[k]? = some cs->(aP fr t fun _=>(l ()).getD k t.aa)[j]? = some x->cs[j]? = some v->af w ρ base ro x v):∀ n,n<=css.length ->
 (css.take n).flatten.length=n*t.size/\aV w ρ base ro (CD fr t l n) (css.take n).flatten/\∀ j u,(css.take n).flatten[j]? = some u->w.cell? ⟨b,o+j,none⟩=some u
 | 0,_=>⟨by simp,.nil,fun j u hj=>by simp at hj⟩
 | n+1,hn=>by
  obtain⟨h1,h2,h3⟩:=YP hr hlen dt n oo;have hk:n<css.length:=oo
  have hg:=bc hk;obtain⟨b',o',hA,_,hl,aF⟩:=hr n _ hg;injection hA with hA;injection hA with e1 e2;subst e1; subst e2;have hE:=uH hl fun j y v k1 k2=>dt n _ j y v hg k1 k2;have e:(css.take (n+1)).flatten=(css.take n).flatten++css[n]:=by
   rw [xv hk,NW];simp
  rw [e];refine⟨by rw [dp,h1,hl,B9],?_,fun j u hj => ?_⟩
  . refine⟨by show (CD fr t l n++_).length=_; rw [dp,dp,h2.1,hE.1],fun j x v hx hv => ?_⟩;have hx:(CD fr t l n++aP fr t fun _=>(l ()).getD n t.aa)[j]? = some x:=hx;by_cases hj:j<(css.take n).flatten.length
    . rw [qj (by rw [h2.1]; exact hj)] at hx;rw [qj hj] at hv;exact h2.2 j x v hx hv
    . rw [rq (by rw [h2.1]; omega),h2.1] at hx;rw [rq oo] at hv;exact hE.2 _ x v hx hv
  . by_cases mf:j<(css.take n).flatten.length
    . rw [qj mf] at hj;exact h3 j u hj
    . rw [rq oo] at hj;have:=aF _ u hj;rw [h1] at this mf;rwa [show o+n*t.size+(j - n*t.size)=o+j from oo] at this
theorem alA(aE:cT P tb){e:Nat}{l:Unit->List t.el}{x:Operand}(hT:fu tb T=some (.array n e sz a))(h0:¬n=0)(hx:af w ρ base ro (.sl fr t l) (r x))(hv:n<=(l ()).length) :
 ∃ v,(execOp r ⟨d,.sliceToArrayPointer T x,ty,pos,aft,gd⟩).run P w = .ok (.value v) w/\af w ρ base ro (.bh (CD fr t l n) 0) v:=by
 obtain⟨i,_,h1,h2⟩:=eI aE hT;obtain⟨hu,_⟩:=PC h2 h1;obtain⟨A,c,css,hl,hc,hr,bt,_,dt,pI⟩:=hx.pE;have hn:n<=css.length:=oo
 obtain⟨b,o,hA,ah,_,_⟩:=hr 0 _ (bc (show 0<css.length from oo));subst hA;have aT:css ≠ []:=by intro h; rw [h] at hn; simp at hn; omega
 obtain⟨k1,k2,k3⟩:=YP hr hl dt n hn;refine⟨.pointer (some ⟨b,o,none⟩),?_,.bh _ 0 b o _ (bt _ rfl aT) ah k2.1 k3 k2.2⟩;unfold execOp;have Fh:¬(l ()).length<n:=oo
 simp only [pI,Instr.arrayAt,underlying,mR,hu,bp,bI,bL,aw Fh]
theorem YQ{g:Operand->AV}{op:Op}{vcs:List VC}(aE:cT P tb)(aF:∀ c∈cs,aU P c)(cH:∀ loc e,ge loc=some e->c9 w ρ base ro loc e)(hg:∀ x∈op.operands,af w ρ base ro (g x) (r x))(YR:∀ b,ro b->b<w.heap.size)(gS:base<=w.heap.size)(h:nM tb cs ge g op=some (av,vcs))(hv:∀ c∈vcs,c ()):PD P r ⟨d,op,ty,pos,aft,gd⟩ w ρ base ro av:=by
 unfold nM at h;split at h
 . cases h;exact .of ⟨_,XE rfl,hg _ iA⟩
 . cases h;exact .of ⟨_,XF rfl,hg _ iA⟩
 . rename_i c a b
   cases hp:Jz (g c) (g a) (g b) with
   | none=>rw [hp] at h; cases h
   | some mi =>
    rw [hp] at h;cases h;exact .of (ak4 hp (hg _ iA) (hg _ yk) (hg _ (by simp [Op.operands])))
 . rename_i x;have hx:=hg x iA;have hp:∀ ad,r x = .pointer (some ad)->(execOp r ⟨d,.nilCheck x,ty,pos,aft,gd⟩).run P w = .ok (.value (.pointer (some ad))) w:=by
    intro ad he;unfold execOp;simp only [he,bL]
   split at h
   . rename_i l o he;cases h;rw [he] at hx;obtain⟨b,_,hr⟩:=hx.ya;exact .of ⟨_,hp _ hr,hr▸hx⟩
   . rename_i l o he;cases h;rw [he] at hx;obtain⟨b,o',cs',_,_,_,_,hr⟩:=hx.JI;exact .of ⟨_,hp _ hr,hr▸hx⟩
   . rename_i t l k o he;cases h;rw [he] at hx;obtain⟨A,n,c,b,_,_,_,_,hr⟩:=hx.JH;exact .of ⟨_,hp _ hr,hr▸hx⟩
   . cases h
 . rename_i op T x y _;have hx:=hg x iA;have hy:=hg y yk;generalize g x=a at *
   generalize g y=b at *
   by_cases oI:(∃ cs,a = .agg cs)/\∃ ds,b = .agg ds
   . obtain⟨⟨cs,rfl⟩,ds,rfl⟩:=oI;obtain⟨v,h1,h2⟩:=Yv (d:=d) (ty:=ty) (pos:=pos) (aft:=aft) (gd:=gd) aE h hx hy;exact .of ⟨v,h1 w,h2⟩
   . have h':zT (fu tb T) op a b=some (av,vcs):=by
      unfold E6 at h;split at h
      . exact (oI ⟨⟨_,rfl⟩,_,rfl⟩).elim
      . exact h
     exact .of (Pj aE h' hv hx hy)
 . rename_i t x;have hx:=hg x iA;split at h
   . rename_i b he;cases h;rw [he] at hx;exact .of ⟨_,Jb hx.pD rfl,.aR _⟩
   . rename_i b he;cases h;rw [he] at hx;exact .of ⟨_,Jb hx.oJ rfl,.bool _⟩
   . cases h
 . rename_i t x;have hx:=hg x iA;have hn:∀ k n,r x = .int k n->(execOp r ⟨d,.unOp .neg t x,ty,pos,aft,gd⟩).run P w = .ok (.value (.int k (k.wrap (-n)))) w:=by
    intro k n he;exact YS
   split at h
   . rename_i k n he;cases h;rw [he] at hx;exact .of ⟨_,hn _ _ hx.mh,.lit _ _⟩
   . rename_i n he;cases h;rw [he] at hx;refine .of ⟨_,hn _ _ hx.iw,?_⟩;rw [zZ (hv _ (.head _))];exact .int _ fun _ => -n ()
   . rename_i k n _ he;cases h;rw [he] at hx;exact .of ⟨_,hn _ _ hx.iw,.int _ fun _=>k.wrap (-n ())⟩
   . cases h
 . rename_i s t x;have hx:=hg x iA;split at h
   . rename_i k0 k kk n e1 e2 he;cases h;rw [he] at hx;obtain⟨i1,_,h1,h2⟩:=eI aE e1;obtain⟨i2,_,h3,h4⟩:=eI aE e2;obtain⟨JU,fN,_⟩:=mZ h2;exact .of ⟨_,Cy hx.mh fN (CE h4 h3) rfl rfl,.lit _ _⟩
   . rename_i k0 k kk n e1 e2 he;rw [he] at hx;obtain⟨i1,_,h1,h2⟩:=eI aE e1;obtain⟨i2,_,h3,h4⟩:=eI aE e2;obtain⟨JU,fN,_⟩:=mZ h2;split at h
     . rename_i hk;subst hk;cases h;exact .of ⟨_,Cy hx.iw fN (CE h4 h3) (zZ (hv _ (.head _))) rfl,.int _ _⟩
     . cases h;exact .of ⟨_,Cy hx.iw fN (CE h4 h3) rfl rfl,.int _ fun _=>k.wrap (n ())⟩
   . cases h
 . rename_i T x f;have hx:=hg x iA
   cases hT:aj tb T with
   | none=>rw [hT] at h; cases h
   | some i =>
    rw [hT] at h;simp only [Em] at h;split at h
    . rename_i off sz a hf;split at h
      . cases h
      . rename_i aO
        cases ha:zU (g x) off with
        | none=>rw [ha] at h; cases h
        | some mi =>
         rw [ha] at h;cases h;obtain⟨b,o,h1,h2⟩:=Pn ha hx;exact .of ⟨_,XG h1 (Yh (aE T i hT) hf (by simpa using aO)) rfl,h2⟩
    . cases h
 . rename_i T x f;have hx:=hg x iA
   cases hT:aj tb T with
   | none=>rw [hT] at h; cases h
   | some i =>
    rw [hT] at h;simp only [Em] at h;split at h
    . rename_i off sz a cells hf hc
      cases hcut:cut a off sz cells with
      | none=>rw [hcut] at h; cases h
      | some mi =>
       rw [hcut] at h;cases h;rw [hc] at hx;exact .of (ak9 (aE T i hT) hf hcut hx)
    . cases h
 . rename_i T x y;have hx:=hg x iA;have hy:=hg y yk;split at h
   . rename_i e sz b fr t l kk k e1 e2 e3;split at h
     . rename_i hs;cases h;rw [e2] at hx;obtain⟨i,_,h1,h2⟩:=eI aE e1;obtain⟨v,k1,k2⟩:=Pv (d:=d) (ty:=ty) (pos:=pos) (aft:=aft) (gd:=gd) h2 h1 (eq_of_beq hs) hx (jk e3 hy) (hv _ (.head _));exact .of ⟨v,k1 w,k2⟩
     . cases h
   . rename_i e sz b fr t l n kk k e1 e2 e3;split at h
     . rename_i hs;cases h;rw [e2] at hx;obtain⟨i,_,h1,h2⟩:=eI aE e1;obtain⟨v,k1,k2⟩:=YA (d:=d) (ty:=ty) (pos:=pos) (aft:=aft) (gd:=gd) h2 h1 (eq_of_beq hs) hx (jk e3 hy) (hv _ (.head _));exact .of ⟨v,k1 w,k2⟩
     . cases h
   . rename_i e sz b kk k e1 e3 _ _;obtain⟨i,_,h1,h2⟩:=eI aE e1;obtain⟨v,k1,k2⟩:=Ym (d:=d) (ty:=ty) (pos:=pos) (aft:=aft) (gd:=gd) cH h2 h1 h hx (jk e3 hy) hv;exact .of ⟨v,k1 w,k2⟩
   . obtain⟨v,k1,k2⟩:=YC (d:=d) (ty:=ty) (pos:=pos) (aft:=aft) (gd:=gd) aE h hx hy;exact .of ⟨v,k1 w,k2⟩
 . rename_i T x i;exact .of (alw aE h hv (hg x iA) (hg i yk))
 . rename_i T x;have hx:=hg x iA;split at h
   . rename_i n e sz a fr t l e1 e2;split at h
     . cases h
     . rename_i h0;cases h;rw [e2] at hx;exact .of (alA aE e1 h0 hx (hv _ (.head _)))
   . cases h
 . rename_i T x i ok;have hx:=hg x iA;have hi:=hg i yk;split at h
   . rename_i kt et c t ag loc e1 e2;split at h
     . rename_i fr jI c' t' T' m k e3 e4;split at h
       . rename_i hc;obtain⟨rfl,rfl,rfl⟩:=hc;cases h;rw [e2] at hx;obtain⟨ti,_,h1,h2⟩:=eI aE e1;exact .of (alg h2 h1 (cH _ _ e3) hx (Pw e4 hi))
       . cases h
     . cases h
   . cases h
 . rename_i x;have hx:=hg x iA;split at h
   . rename_i ml l2 e1;split at h
     . rename_i fr ag c t T m E8 c' seen left e2 e3;split at h
       . rename_i hc;obtain⟨rfl,rfl⟩:=hc;cases h;rw [e1] at hx;exact .of (alh (cH _ _ e2) (cH _ _ e3) hx (hv _ (.head _)))
       . cases h
     . cases h
   . cases h
 . rename_i T x hi;have hx:=hg x iA;have ym:=hg hi yk;split at h
   . rename_i e sz b fr t l e1 e2;split at h
     . rename_i hs;split at h
       . rename_i kk bb eb;cases h;rw [e2] at hx;obtain⟨i,hT,h1,h2⟩:=eI aE e1;obtain⟨A,c,css,_,_,_,_,_,_,oM⟩:=hx.pE;rw [oM] at hx;exact .of (YB aE hT h1 (eq_of_beq hs) oM hx (jk eb ym) (hv _ (.head _)))
       . cases h
     . cases h
   . rename_i e sz b fr t l n e1 e2;split at h
     . rename_i hs;split at h
       . rename_i kk bb eb;cases h;rw [e2] at hx;obtain⟨i,hT,h1,h2⟩:=eI aE e1;obtain⟨A,c,_,hl,oM⟩:=hx.Ff;exact .of (YB aE hT h1 (eq_of_beq hs) oM hl (jk eb ym) (hv _ (.head _)))
       . cases h
     . cases h
   . rename_i e sz b loc e1 e2;split at h
     . rename_i fr t T' l he;split at h
       . rename_i hs;split at h
         . rename_i kk bb eb;cases h;rw [e2] at hx;obtain⟨i,hT,h1,h2⟩:=eI aE e1;have YT:=hv _ (.head _);exact .of (Yz (g:=g) (a:=fun _=>0) (b:=bb) aE cH hT h1 (eq_of_beq hs) he hx rfl (by simp only [pC,eb,du]) (fun y hy=>by cases hy) (fun y hy=>by cases hy; exact ym) ⟨rD _,YT.1,YT.2⟩)
         . cases h
       . cases h
     . cases h
   . cases h
 . rename_i T x lo hi jq;have hx:=hg x iA;split at h
   . rename_i e sz b fr t l e1 e2;split at h
     . rename_i hs;split at h
       . rename_i fa fb ha hb;cases h;rw [e2] at hx;obtain⟨i,hT,h1,h2⟩:=eI aE e1;exact .of (alj aE hT h1 (eq_of_beq hs) hx ha hb (fun y hy=>hg y (by subst hy; simp [Op.operands])) (fun y hy=>hg y (by subst hy; simp [Op.operands])) (hv _ (.head _)))
       . cases h
     . cases h
   . rename_i e sz b loc e1 e2;split at h
     . rename_i fr t T' l he;split at h
       . rename_i hs;split at h
         . rename_i fa fb ha hb;cases h;rw [e2] at hx;obtain⟨i,hT,h1,h2⟩:=eI aE e1;exact .of (Yz aE cH hT h1 (eq_of_beq hs) he hx ha hb (fun y hy=>hg y (by subst hy; simp [Op.operands])) (fun y hy=>hg y (by subst hy; simp [Op.operands])) (hv _ (.head _)))
         . cases h
       . cases h
     . cases h
   . rename_i n e dK ag loc off e1 e2;split at h
     . rename_i hc;simp only [ax,cb,iC] at hc;obtain⟨⟨rfl,rfl⟩,rfl⟩:=hc;cases h;rw [e2] at hx;obtain⟨i,hT,h1,_⟩:=eI aE e1;exact .of (alk aE hT h1 hx)
     . cases h
   . cases h
 . rename_i x i;have hx:=hg x iA;split at h
   . rename_i l he
     cases hl:l[i]? with
     | none=>rw [hl] at h; cases h
     | some mi =>
      rw [hl] at h;cases h;rw [he] at hx;obtain⟨vs,h1,hE⟩:=hx.JF;obtain⟨v,h2,h3⟩:=hE.get hl;exact .of ⟨v,XJ h1 (by simpa using h2),h3⟩
   . cases h
 . rename_i f first dH
   split at h
   . rename_i hf;cases h;have oH:first = #[]:=by simpa using hf
     subst oH;have hE:aV w ρ base ro (dH.toList.map g) (dH.toList.map r):=ye fun x hx=>hg x (by simpa [Op.operands] using hx);refine .of ⟨.func (.func f) #[] (dH.toList.map r).toArray,?_,.fn _ _ _ hE.1 hE.2⟩;unfold execOp;simp only [Instr.makeFunc,bp,bL,bI];rw [show dH.map r=(dH.toList.map r).toArray by apply xF; simp,show (#[]:Array Operand).map r = #[] by simp]
   . cases h
 . rename_i T x;have hx:=hg x iA;split at h
   . rename_i i hT
     cases hl:E3 ge i.ti.agg i.sz (g x) with
     | none=>rw [hl] at h; cases h
     | some mi =>
      rw [hl] at h;cases h;obtain⟨ad,v,h1,h2,h3⟩:=Ye cH (aE T i hT) hl hx;exact .of ⟨v,akB h1 h2,h3⟩
   . cases h
 . rename_i T parts;have hp:∀ p∈parts.toList,af w ρ base ro (g p.2) (r p.2):=fun p hp=>hg _ (by simp only [Op.operands]; simpa using ⟨p.1,by simpa using hp⟩);split at h
   . rename_i i hT;split at h
     . rename_i fs z7;split at h
       . cases h
       . rename_i hz
         cases hf:uG (fun k=>(fs[k]?).map fun f=>(f.1,f.2.1)) i.z (parts.toList.map fun p=>(p.1,g p.2)) with
         | none=>rw [hf] at h; cases h
         | some out =>
          rw [hf] at h;cases h;exact .of (Yk (aE T i hT) hp (by simpa using hz) (.inl ⟨fs,z7,rfl⟩) hf rfl)
     . rename_i n e dK a z7;split at h
       . cases h
       . rename_i hz
         cases hf:uG (fun k=>some (k*dK,dK)) i.z (parts.toList.map fun p=>(p.1,g p.2)) with
         | none=>rw [hf] at h; cases h
         | some out =>
          rw [hf] at h;cases h;exact .of (Yk (aE T i hT) hp (by simpa using hz) (.inr ⟨n,e,dK,a,z7,rfl⟩) hf rfl)
     . cases h
   . cases h
 . rename_i c;obtain⟨callee,gJ,nO⟩:=c;dsimp only at h;split at h
   . split at h
     . rename_i x y e1;have ha:gJ = #[x,y]:=by simpa using congrArg List.toArray e1
       subst ha;have hx:=hg x JV;have hy:=hg y (by simp [Op.operands,Call.operands]);split at h
       . rename_i k fa k' fb e2 e3;split at h
         . rename_i hk;subst hk;cases h;exact .of ⟨_,(YO (jk e2 hx) (jk e3 hy)).1,.int k fun _=>cond (decide (fb ()<fa ())) (fb ()) (fa ())⟩
         . cases h
       . cases h
     . cases h
   . split at h
     . rename_i x y e1;have ha:gJ = #[x,y]:=by simpa using congrArg List.toArray e1
       subst ha;have hx:=hg x JV;have hy:=hg y (by simp [Op.operands,Call.operands]);split at h
       . rename_i k fa k' fb e2 e3;split at h
         . rename_i hk;subst hk;cases h;exact .of ⟨_,(YO (jk e2 hx) (jk e3 hy)).2,.int k fun _=>cond (decide (fa ()<fb ())) (fb ()) (fa ())⟩
         . cases h
       . cases h
     . cases h
   . split at h
     . rename_i x T e1 e2;have ha:gJ = #[x]:=by simpa using congrArg List.toArray e1
       have ht:nO = #[T]:=by simpa using congrArg List.toArray e2
       subst ha; subst ht;have hx:=hg x JV;split at h
       . cases h
       . rename_i e sz b y e3 hy
         cases hl:E4 ge (g x) with
         | none=>rw [hl] at h; cases h
         | some mi =>
          rw [hl] at h;cases h;obtain⟨i,_,h1,h2⟩:=eI aE e3;obtain⟨A,n,c,h3,h4⟩:=alz cH (fun s hs=>by first|exact hy s hs|exact hy _ _ _ s rfl hs|simp_all) hl hx;exact .of ⟨_,akD h3 (XH (JL h2 h1)).1 rfl,h4⟩
       . rename_i s e3 he;cases h;rw [he] at hx;obtain⟨i,_,h1,h2⟩:=eI aE e3;exact .of ⟨_,aly hx.zX (ak1 h2 h1),.int _ fun _=>((s ()).size:Int)⟩
       . cases h
     . cases h
   . rename_i fo;split at h
     . rename_i f dH yn;split at h
       . rename_i Pg alB;split at h
         . rename_i ai uL;split at h
           . rename_i res qz;split at h
             . rename_i nP;cases h;obtain⟨aI,rfl⟩:=alx aF alB;have hx:=hg fo JV;rw [yn] at hx;obtain⟨vs,rP,hE⟩:=hx.JG;have hA:aV w ρ base ro (gJ.toList.map g++dH) (gJ.toList.map r++vs):=(ye fun x hx=>hg x (by simp only [Op.operands,Call.operands]; simpa using .inr (by simpa using hx))).append hE;have jr:=hv _ (.head _)
               cases cP:AV.plain true res.av with
               | true =>
                have h1:=aI.2 ai res qz w (fun b=>b<w.heap.size) _ (fun _ h=>h) (wk cH YR _ _ _ _ uL hA (.inr fun _ h=>h)) jr;refine .inr ⟨_,_,JT rP aI.1,h1.mono fun e w' ⟨v,h2,h3,h4⟩=>⟨v,h2,h3,?_⟩⟩;exact (h4.plain (ρ' := ρ) (ro':=fun b=>ro b\/w.heap.size<=b) cP fun b h5 _ => .inr (h5 rfl)).mono (fun _ _ _=>rfl) (Ext.refl _) gS fun _ h=>h
               | false =>
                rw [cP,sV,ax] at nP;have h1:=aI.2 ai res qz w ro _ YR (wk cH (fun _ h=>h) _ _ _ _ uL hA (.inl nP.1)) jr;refine .inr ⟨_,_,JT rP aI.1,h1.mono fun e w' ⟨v,h2,h3,h4⟩=>⟨v,h2,h3,?_⟩⟩;exact (h4.plain (ρ' := ρ) (ro':=fun b=>ro b\/w.heap.size<=b) nP.2 fun b _ h5=>h5).mono (fun _ _ _=>rfl) (Ext.refl _) gS fun _ h=>h
             . cases h
           . cases h
         . cases h
       . cases h
     . cases h
   . cases h
 . cases h
end
structure Sx where
 t:List (Nat×AV)
 e:List (Nat×En)
 n:Nat
structure Bs where
 t:List (Nat×AV)
 e:List (Nat×En)
def dD(B:Bs)(S:Sx)(d:Nat):Option AV:=match aj S.t d with
 | some x=>some x
 | none=>aj B.t d
def bf(B:Bs)(S:Sx)(l:Nat):Option En:=match aj S.e l with
 | some x=>some x
 | none=>aj B.e l
def nQ(B:Bs)(S:Sx)(d:Nat):AV:=match dD B S d with
 | some x=>x
 | none => .un
def bM(B:Bs)(S:Sx):Operand->AV
 | .tmp d=>nQ B S d
 | .const v=>O9 v
 | .func f => .fn f []
 | .global _ => .un
structure Pm where
 rd:Nat->Prop
 pl:Nat->Option Rl
 fx:Bool
 jK:Nat->Prop:=fun _=>False
 own:Nat->Prop:=fun _=>False
 inv:World->Prop:=fun _=>True
 ds:List Deferred := []
 fm:Nat->Option Value:=fun _=>none
 ex:Nat->Prop:=fun _=>False
 yo:∀ b,own b->jK b:=by intro _ h; exact h
 nR:∀ w b,inv w->jK b->b<w.heap.size:=by intro _ _ _ h; exact h.elim
 yp:∀ w w':World,inv w->w'.os=w.os->w'.tape=w.tape->w'.output=w.output->w.heap.size<=w'.heap.size->(∀ b,jK b->w'.heap[b]? = w.heap[b]?)->inv w':=by intros; trivial
def Pm.may(S:Pm)(w0:World)(k:Nat):Prop:=(w0.heap.size<=k\/∃ l r,S.pl l=some r/\r.b8=some k)/\¬ S.jK k
structure qA (S:Pm) (w w':World):Prop where
 os:w'.os=w.os
 tape:w'.tape=w.tape
 output:w'.output=w.output
 size:w.heap.size<=w'.heap.size
 block:∀ k,k<w.heap.size->(∀ l r,S.pl l=some r->r.b8≠some k)->¬ S.ex k->w'.heap[k]? = w.heap[k]?
 inv:S.inv w'
structure PE (pl:Nat->Option Rl) (w w':World):Prop where
 os:w'.os=w.os
 tape:w'.tape=w.tape
 output:w'.output=w.output
 size:w.heap.size<=w'.heap.size
 block:∀ k,k<w.heap.size->(∀ l r,pl l=some r->r.b8≠some k)->w'.heap[k]? = w.heap[k]?
theorem qA.grown{S:Pm}{row:Option Nat}(h:qA S w0 w)(hg:w.grownBy w' row)(hr:∀ k,row=some k->S.may w0 k):qA S w0 w' :=
 ⟨hg.os.trans h.os,hg.tape.trans h.tape,hg.output.trans h.output,dQ h.size hg.size,fun k hk hn hx=>(hg.block k (iS hk h.size) fun e=>by
  rcases (hr k e.symm).1 with h1|⟨l,r,h1,h2⟩
  . omega
  . exact hn l r h1 h2).trans (h.block k hk hn hx),S.yp _ _ h.inv hg.os hg.tape hg.output hg.size fun b hb=>hg.block b (S.nR _ _ h.inv hb) fun e=>(hr b e.symm).2 hb⟩
theorem alC(h:cW w w'):w.grownBy w' none:=⟨h.os,h.tape,h.output,h.size,fun i hi _=>h.block i hi⟩
theorem qA.andThen{S:Pm}(h:qA S w0 w)(hb:cW w w'):qA S w0 w':=h.grown (alC hb) fun k hk=>by cases hk
theorem qA.alloc{S:Pm}(h:qA S w0 w)(o):qA S w0 (w.alloc o):=h.grown (World.grownBy_alloc w o none) fun k hk=>by cases hk
theorem PE.none_(h:PE (fun _=>none) w w'):cW w w':=⟨h.os,h.tape,h.output,h.size,fun k hk=>h.block k hk fun _ _ h=>by cases h⟩
structure bm (w0:World) (S0:Pm) (N:Nat) (B:Bs) (S:Sx) (a:Act) (w:World) (ρ:Nat->Option Rl) (ro:Nat->Prop):Prop where
 from_:qA S0 w0 w
 size:a.tmps.size=N
 defers:a.defers=S0.ds
 gu:∀ b,ro b->b<w.heap.size
 tm:∀ d x,dD B S d=some x->∃ u,a.tmps[d]? = some u/\af w ρ w0.heap.size ro x u
 en:∀ l e,bf B S l=some e->c9 w ρ w0.heap.size ro l e
 apart:∀ l l' r r' b,l≠l' -> ρ l=some r -> ρ l'=some r'->r.b8=some b->r'.b8≠some b
 fresh:∀ l,S.n<=l -> ρ l=none
 own:∀ l r b,ρ l=some r->r.b8=some b->b<w.heap.size/\¬ ro b/\(w0.heap.size<=b\/∃ r0,S0.pl l=some r0/\r0.b8=some b)/\¬ S0.jK b
 ew:∀ b,ro b->(b<w0.heap.size->S0.rd b)/\¬ S0.own b
 dz:∀ l r,S0.pl l=some r->(r.dz||S0.fx)=true -> ρ l=some r
 jL:∀ d x,aj B.t d=some x->aj S.t d=none
 jM:∀ l e,aj B.e l=some e->aj S.e l=none
 fm:∀ d v,S0.fm d=some v->a.tmps[d]? = some v/\(aj B.t d).isSome=true
def aS(w0:World)(Φ : Pm->Prop)(N:Nat)(B:Bs)(S:Sx)(a:Act)(w:World):Prop:=∃ S0,Φ S0/\∃ ρ ro,bm w0 S0 N B S a w ρ ro
section
variable{w w' w0:World}{ρ ρ':Nat->Option Rl}{base:Nat}{ro ro':Nat->Prop}{S0:Pm}{N:Nat}{B:Bs}{S:Sx}{a:Act}
theorem bm.get(H:bm w0 S0 N B S a w ρ ro)(x):af w ρ w0.heap.size ro (bM B S x) (a.eval x):=by
 cases x with
 | tmp d =>
  show af w ρ w0.heap.size ro (nQ B S d) _
  unfold nQ
  cases h:dD B S d with
  | none=>exact .un _
  | some y =>
   obtain⟨u,h1,h2⟩:=H.tm d y h;rw [W6 h1];exact h2
 | const v=>exact X5 v
 | func f=>exact .fn f [] [] rfl fun j x v h=>by simp at h
 | global g=>exact .un _
theorem af.bound(h:af w ρ base ro x v):af w ρ base (fun b=>ro b/\b<w.heap.size) x v:=by
 induction h with
 | un=>exact .un _
 | fG=>exact .fG _
 | int=>exact .int _ _
 | lit=>exact .lit _ _
 | bool=>exact .bool _
 | aR=>exact .aR _
 | str=>exact .str _
 | nil=>exact .nil
 | sl fr t l A c css hl hc hr bt cP h ih=>exact .sl fr t l A c css hl hc hr (fun a ha hn=>⟨bt a ha hn,Rd.bound hr hn a ha⟩) cP ih
 | wide fr t l n A c hn h ih=>exact .wide fr t l n A c hn ih
 | bh cells off b o cs bt ah hl hc h ih=>exact .bh cells off b o cs ⟨bt,ah⟩ ah hl hc ih
 | ptr loc off b h=>exact .ptr _ _ _ h
 | fq loc off n b h=>exact .fq _ _ _ _ h
 | own loc A n c h=>exact .own _ _ _ _ h
 | cZ t loc k off A n c b h hA h0 hn=>exact .cZ _ _ _ _ _ _ _ _ h hA h0 hn
 | cG t loc a b A n c h bk=>exact .cG _ _ _ _ _ _ _ h bk
 | mp l b h=>exact .mp _ _ h
 | bo l s h=>exact .bo _ _ h
 | it l l2 b h=>exact .it _ _ _ h
 | agg l vs hl h ih=>exact .agg _ _ hl ih
 | ba l vs hl h ih=>exact .ba _ _ hl ih
 | fn f dH vs hl h ih=>exact .fn _ _ _ hl ih
theorem lM.rQ{c:Kc}{m:List Kx->Option t.el}{es:Array MapEntry}(h:lM w ρ base ro fr ag c t m es)(dX:∀ x v,af w ρ base ro (eo ag fr t fun _=>x) v->af w' ρ' j7 ro' (eo ag fr t fun _=>x) v):lM w' ρ' j7 ro' fr ag c t m es :=
 ⟨fun e he=>by obtain⟨key,x,h1,h2,h3⟩:=h.1 e he; exact⟨key,x,h1,h2,dX x _ h3⟩,h.2⟩
theorem c9.mono(h:c9 w ρ base ro l e)(hw:∀ b,ro b->b<w.heap.size->w'.heap[b]? = w.heap[b]?)(bw:∀ l r b,ρ l=some r->r.b8=some b->w'.heap[b]? = w.heap[b]?)(hρ:Ext ρ ρ')(bt:∀ b,ro b->ro' b):c9 w' ρ' base ro' l e:=by
 cases e with
 | box T cells =>
  obtain⟨b,cs,h1,h4,h5⟩:=h;exact⟨b,cs,hρ _ _ h1,(bw _ _ b h1 rfl).trans h4,h5.mono hw hρ (aA _) bt⟩
 | row fr t T m =>
  obtain⟨A,c,css,h1,h2,h3,h5⟩:=h;refine⟨A,c,css,hρ _ _ h1,h2.jF fun a ha=>bw _ _ a.block h1 (by simp [Rl.b8,ha]),h3,fun k cs j x v k1 k2 k3=>(h5 k cs j x v k1 k2 k3).mono hw hρ (aA _) bt⟩
 | map fr ag c t T m =>
  obtain⟨b,es,clock,h1,h2,h3,h4⟩:=h;exact⟨b,es,clock,hρ _ _ h1,(bw _ _ b h1 rfl).trans h2,h3,h4.rQ fun x v hx=>hx.mono hw hρ (aA _) bt⟩
 | iter ml c seen left =>
  obtain⟨b,b2,es,clock,since,stamps,c0,h1,h2,h3,h4,h5⟩:=h;exact⟨b,b2,es,clock,since,stamps,c0,hρ _ _ h1,hρ _ _ h2,(bw _ _ b h2 rfl).trans h3,(bw _ _ b2 h1 rfl).trans h4,h5⟩
 | bo ml c key =>
  obtain⟨b,es,clock,s,e,h1,h2,h3,h4⟩:=h;exact⟨b,es,clock,s,e,hρ _ _ h1,hρ _ _ h2,(bw _ _ b h2 rfl).trans h3,h4⟩
 | ft k=>exact hρ _ _ h
 | dead=>obtain⟨r,h⟩:=h; exact⟨r,hρ _ _ h⟩
theorem c9.none(h:c9 w ρ base ro l e):∃ r,ρ l=some r:=by
 cases e with
 | box T cells=>obtain⟨b,cs,h1,_⟩:=h; exact⟨_,h1⟩
 | row fr t T m=>obtain⟨A,c,css,h1,_⟩:=h; exact⟨_,h1⟩
 | map fr ag c t T m=>obtain⟨b,es,clock,h1,_⟩:=h; exact⟨_,h1⟩
 | iter ml c seen left=>obtain⟨b,b2,es,clock,since,stamps,c0,h1,_⟩:=h; exact⟨_,h1⟩
 | bo ml c key=>obtain⟨b,es,clock,s,e,h1,_⟩:=h; exact⟨_,h1⟩
 | ft k=>exact⟨_,h⟩
 | dead=>exact h
theorem bm.calm(H:bm w0 S0 N B S a w ρ ro)(hb:cW w w'):bm w0 S0 N B S a w' ρ fun b=>(ro b\/w.heap.size<=b)/\b<w'.heap.size:=by
 have hw:∀ b,ro b->b<w.heap.size->w'.heap[b]? = w.heap[b]? := fun b _ h=>hb.block b h;have bt:∀ b,ro b->(ro b\/w.heap.size<=b)/\b<w'.heap.size:=fun b h=>⟨.inl h,iS (H.gu b h) hb.size⟩
 have bw:∀ l r b,ρ l=some r->r.b8=some b->w'.heap[b]? = w.heap[b]? /\ ¬ ((ro b\/w.heap.size<=b)/\b<w'.heap.size):=by
  intro l r b h1 h2;have h3:=H.own l r b h1 h2;refine⟨hb.block b h3.1,?_⟩
  rintro⟨h4|h4,_⟩
  . exact h3.2.1 h4
  . omega
 refine⟨H.from_.andThen hb,H.size,H.defers,fun b h=>h.2,fun d x h => ?_,fun l e h=>(H.en l e h).mono hw (fun l r b h1 h2=>(bw l r b h1 h2).1) (Ext.refl _) bt,H.apart,H.fresh,fun l r b h1 h2 => ?_,fun b h=>⟨fun ah=>(H.ew b (h.1.resolve_right fun h=>by have:=H.from_.size; omega)).1 ah,fun ho=>h.1.elim (fun h=>(H.ew b h).2 ho) fun h=>by have:=S0.nR _ _ H.from_.inv (S0.yo b ho); omega⟩,H.dz,H.jL,H.jM,H.fm⟩
 . obtain⟨u,h1,h2⟩:=H.tm d x h;exact⟨u,h1,h2.mono hw (Ext.refl _) (aA _) bt⟩
 . have h3:=H.own l r b h1 h2;exact⟨iS h3.1 hb.size,(bw l r b h1 h2).2,h3.2.2⟩
theorem af.calm(h:af w' ρ base (fun b=>ro b\/w.heap.size<=b) x v):af w' ρ base (fun b=>(ro b\/w.heap.size<=b)/\b<w'.heap.size) x v:=h.bound
def bJ(B:Bs)(S:Sx)(N d:Nat)(x:AV):Option Sx :=
 if (aj B.t d).isSome||decide (N<=d) then none else some ⟨(d,x)::S.t,S.e,S.n⟩
theorem cm{α:Type}(k)(v)(l:List (Nat × α))(d):aj ((k,v)::l) d=if k=d then some v else aj l d:=by
 show (if k==d then some v else aj l d)=_
 by_cases h:k=d
 . simp [h]
 . simp [h]
theorem bm.put(H:bm w0 S0 N B S a w ρ ro){S':Sx}(hp:bJ B S N d x=some S')(hv:af w ρ w0.heap.size ro x v):bm w0 S0 N B S' (a.put (some d) v) w ρ ro:=by
 unfold bJ at hp;split at hp
 . cases hp
 . rename_i hc;simp only [gR,aL,xG,vM,Ed,iC] at hc;cases hp;have ah:d<a.tmps.size:=by rw [H.size]; omega
   refine⟨H.from_,by rw [ajT]; exact H.size,H.defers,H.gu,fun s y h => ?_,H.en,H.apart,H.fresh,H.own,H.ew,H.dz,fun s y h => ?_,H.jM,fun s u h => ?_⟩
   . unfold dD at h;rw [cm] at h;rw [Ey ah];by_cases hs:d=s
     . rw [aC hs] at h;rw [aC hs.symm];simp only [bF] at h;subst h;exact⟨v,rfl,hv⟩
     . rw [aw hs] at h;rw [aw (fun e=>hs e.symm)];exact H.tm s y h
   . rw [cm,aw]
     . exact H.jL s y h
     . rintro rfl
       rw [hc.1] at h;cases h
   . obtain⟨h1,h2⟩:=H.fm s u h;rw [Ey ah,aw (by rintro rfl; rw [hc.1] at h2; cases h2)];exact⟨h1,h2⟩
/- no slot and no entry names a location -/
def JW(loc:Nat):List (Nat×AV)->Bool
 | []=>true
 | (_,x)::l => !AV.has loc x&&JW loc l
def YU(loc:Nat):En->Bool
 | .box _ cs => !AV.lq loc cs
 | _=>true
def JX(loc:Nat):List (Nat×En)->Bool
 | []=>true
 | (_,e)::l=>YU loc e&&JX loc l
def quiet(loc:Nat)(B:Bs):Bool:=JW loc B.t&&JX loc B.e
def JY(loc:Nat):List (Nat×AV)->List (Nat×AV)
 | [] => []
 | (d,x)::l=>(d,if AV.has loc x then .un else x)::JY loc l
def wo(loc:Nat):List AV->List AV
 | [] => []
 | x::l=>(if AV.has loc x then .un else x)::wo loc l
def PF(loc:Nat):En->En
 | .box T cs => .box T (wo loc cs)
 | e=>e
def JZ(loc:Nat):List (Nat×En)->List (Nat×En)
 | [] => []
 | (k,e)::l=>(k,PF loc e)::JZ loc l
def kill(loc:Nat)(S:Sx):Sx:=⟨JY loc S.t,JZ loc S.e,S.n⟩
theorem PG{loc d:Nat}{x:AV}:∀ {l:List (Nat×AV)},JW loc l=true->aj l d=some x->AV.has loc x=false
 | (k,y)::l,h,hx=>by
  unfold JW at h;simp only [ax,jf] at h;rw [cm] at hx;split at hx
  . cases hx; exact h.1
  . exact PG h.2 hx
 | [],_,hx=>by cases hx
theorem PH{loc d T:Nat}{cs:List AV}:∀ {l:List (Nat×En)},JX loc l=true->aj l d=some (.box T cs)->AV.lq loc cs=false
 | (k,e)::l,h,hx=>by
  unfold JX at h;simp only [ax] at h;rw [cm] at hx;split at hx
  . cases hx; simpa [YU] using h.1
  . exact PH h.2 hx
 | [],_,hx=>by cases hx
theorem Fi{loc d:Nat}:∀ (l),aj (JY loc l) d=(aj l d).map fun x=>if AV.has loc x then .un else x
 | []=>rfl
 | (k,y)::l=>by
  unfold JY;rw [cm,cm,Fi l];split<;>rfl
theorem Fj{loc d:Nat}:∀ (l),aj (JZ loc l) d=(aj l d).map (PF loc)
 | []=>rfl
 | (k,e)::l=>by
  unfold JZ;rw [cm,cm,Fj l];split<;>rfl
theorem J0{loc:Nat}:∀ (l) (j:Nat),(wo loc l)[j]? = l[j]?.map fun x=>if AV.has loc x then .un else x
 | [],j=>by simp [wo]
 | x::l,0=>by simp [wo]
 | x::l,j+1=>by simpa [wo] using J0 l j
theorem YV{loc:Nat}:∀ (l),(wo loc l).length=l.length
 | []=>rfl
 | x::l=>by simp [wo,YV l]
theorem YW:AV.has loc (if AV.has loc x=true then .un else x)=false:=by
 split
 . rfl
 . rename_i h; simpa using h
theorem PI{loc:Nat}:∀ {l:List AV},(∀ (j:Nat) x,l[j]? = some x->AV.has loc x=false)->AV.lq loc l=false
 | [],_=>rfl
 | x::l,h=>by
  unfold AV.lq;rw [h 0 x rfl,PI fun j y hy=>h (j+1) y zQ];rfl
theorem bm.YX(H:bm w0 S0 N B S a w ρ ro)(loc):bm w0 S0 N B (kill loc S) a w ρ ro:=by
 refine⟨H.from_,H.size,H.defers,H.gu,fun d x h => ?_,fun l e h => ?_,H.apart,H.fresh,H.own,H.ew,H.dz,fun d x h=>by unfold kill; rw [Fi,H.jL d x h]; rfl,fun l e h=>by unfold kill; rw [Fj,H.jM l e h]; rfl,H.fm⟩
 . unfold dD kill at h;rw [Fi] at h
   cases hd:aj S.t d with
   | none =>
    rw [hd] at h;exact H.tm d x (by unfold dD; rw [hd]; exact h)
   | some y =>
    rw [hd] at h;simp only [du,bF] at h;obtain⟨u,h1,h2⟩:=H.tm d y (by unfold dD; rw [hd]);refine⟨u,h1,?_⟩;rw [<- h];split
    . exact .un _
    . exact h2
 . unfold bf kill at h;rw [Fj] at h
   cases hd:aj S.e l with
   | none =>
    rw [hd] at h;exact H.en l e (by unfold bf; rw [hd]; exact h)
   | some y =>
    rw [hd] at h;simp only [du,bF] at h;have h1:=H.en l y (by unfold bf; rw [hd]);rw [<- h]
    cases y with
    | row fr t T m=>exact h1
    | map fr ag c t T m=>exact h1
    | iter ml c seen left=>exact h1
    | bo ml c key=>exact h1
    | ft k=>exact h1
    | dead=>exact h1
    | box T cs =>
     obtain⟨b,us,k1,k4,k5⟩:=h1;refine⟨b,us,k1,k4,by rw [YV]; exact k5.1,fun j x v hx hv => ?_⟩;rw [J0] at hx
     cases hj:cs[j]? with
     | none=>rw [hj] at hx; cases hx
     | some z =>
      rw [hj] at hx;simp only [du,bF] at hx;rw [<- hx];split
      . exact .un _
      . exact k5.2 j z v hj hv
theorem YY(hq:quiet loc B=true):(∀ d x,dD B (kill loc S) d=some x->AV.has loc x=false)/\∀ l T cs,bf B (kill loc S) l=some (.box T cs)->AV.lq loc cs=false:=by
 unfold quiet at hq;simp only [ax] at hq;refine⟨fun d x h => ?_,fun l T cs h => ?_⟩
 . unfold dD kill at h;rw [Fi] at h
   cases hd:aj S.t d with
   | none=>rw [hd] at h; exact PG hq.1 h
   | some y =>
    rw [hd] at h;simp only [du,bF] at h;rw [<- h];exact YW
 . unfold bf kill at h;rw [Fj] at h
   cases hd:aj S.e l with
   | none=>rw [hd] at h; exact PH hq.2 h
   | some y =>
    rw [hd] at h;simp only [du,bF] at h
    cases y with
    | row fr t T' m=>cases h
    | map fr ag c t T' m=>cases h
    | iter ml c seen left=>cases h
    | bo ml c key=>cases h
    | ft k=>cases h
    | dead=>cases h
    | box T' cs' =>
     cases h;refine PI fun j x hx => ?_;rw [J0] at hx
     cases hj:cs'[j]? with
     | none=>rw [hj] at hx; cases hx
     | some z =>
      rw [hj] at hx;simp only [du,bF] at hx;rw [<- hx];exact YW
/- xX azw of a map is azx as zR map changes -/
def oO(loc:Nat):En->Bool
 | .iter ml _ _ _=>ml==loc
 | .bo ml _ _=>ml==loc
 | _=>false
def rR(loc:Nat):List (Nat×En)->Bool
 | []=>true
 | (_,e)::l => !oO loc e&&rR loc l
def lr(loc:Nat):List (Nat×En)->List (Nat×En)
 | [] => []
 | (k,e)::l=>(k,if oO loc e then .dead else e)::lr loc l
theorem J1{loc d:Nat}:∀ (l),aj (lr loc l) d=(aj l d).map fun e=>if oO loc e then .dead else e
 | []=>rfl
 | (k,e)::l=>by
  unfold lr;rw [cm,cm,J1 l];split<;>rfl
theorem YZ{loc d:Nat}{e:En}:∀ {l:List (Nat×En)},rR loc l=true->aj l d=some e->oO loc e=false
 | (k,e')::l,h,hx=>by
  unfold rR at h;simp only [ax,jf] at h;rw [cm] at hx;split at hx
  . cases hx; exact h.1
  . exact YZ h.2 hx
 | [],_,hx=>by cases hx
theorem bm.dropped(H:bm w0 S0 N B S a w ρ ro)(hB:rR loc B.e=true):bm w0 S0 N B ⟨S.t,lr loc S.e,S.n⟩ a w ρ ro/\∀ l e,bf B ⟨S.t,lr loc S.e,S.n⟩ l=some e->oO loc e=false:=by
 have hl:∀ l e,bf B ⟨S.t,lr loc S.e,S.n⟩ l=some e->(bf B S l=some e/\oO loc e=false)\/(e = .dead/\∃ e',bf B S l=some e'):=by
  intro l e h;unfold bf at h ⊢;simp only [J1] at h
  cases hd:aj S.e l with
  | none =>
   rw [hd] at h;exact .inl ⟨h,YZ hB h⟩
  | some y =>
   rw [hd] at h;simp only [du,bF] at h;split at h
   . exact .inr ⟨h.symm,y,rfl⟩
   . subst h;rename_i hr;exact .inl ⟨rfl,by simpa using hr⟩
 refine⟨⟨H.from_,H.size,H.defers,H.gu,H.tm,fun l e h => ?_,H.apart,H.fresh,H.own,H.ew,H.dz,H.jL,fun l e h => ?_,H.fm⟩,fun l e h => ?_⟩
 . rcases hl l e h with ⟨h1,_⟩|⟨rfl,e',h1⟩
   . exact H.en l e h1
   . exact (H.en l e' h1).none
 . show aj (lr loc S.e) l=none
   rw [J1,H.jM l e h];rfl
 . rcases hl l e h with ⟨_,h2⟩|⟨rfl,_⟩
   . exact h2
   . rfl
theorem PJ(ag fr)(t)(x)(loc):AV.has loc (eo ag fr t x)=false:=by
 unfold eo;have h:=wg fr t x loc
 cases ag with
 | true=>exact h
 | false =>
  simp only [dV,dw]
  cases hc:aP fr t x with
  | nil=>rfl
  | cons c l =>
   rw [hc] at h
   cases l with
   | nil=>simpa [AV.lq] using h
   | cons c2 l=>rfl
def eR(ρ:Nat->Option Rl)(loc:Nat)(r:Rl):Nat->Option Rl:=fun l=>if l=loc then some r else ρ l
theorem bm.oP(H:bm w0 S0 N B S a w ρ ro){r:Rl}(hf:qA S0 w0 w')(hle:w.heap.size<=w'.heap.size)(gp:∀ b,b<w.heap.size->(∀ r',ρ loc=some r'->r'.b8≠some b)->w'.heap[b]? = w.heap[b]?)(Fk:∀ b,r.b8=some b->(∃ r',ρ loc=some r'/\r'.b8=some b)\/w.heap.size<=b/\b<w'.heap.size)(hB:aj B.e loc=none)(hn:S.n<=n)(mj:loc<n)(J2:Ext ρ (eR ρ loc r)\/(∀ d x,dD B S d=some x->AV.has loc x=false)/\(∀ l T cs,bf B S l=some (.box T cs)->AV.lq loc cs=false)/\∀ r',ρ loc=some r'->(r'.dz||S0.fx)=false)(Fl:(∀ b,ρ loc≠some (.mp b))\/∀ l e,bf B S l=some e->oO loc e=false)(he:c9 w' (eR ρ loc r) w0.heap.size ro loc e):bm w0 S0 N B ⟨S.t,(loc,e)::S.e,n⟩ a w' (eR ρ loc r) ro:=by
 have hw:∀ b,ro b->b<w.heap.size->w'.heap[b]? = w.heap[b]? := fun b hb ah=>gp b ah fun r' h1 h2=>(H.own loc r' b h1 h2).2.1 hb;have hold:∀ l,l≠loc->eR ρ loc r l = ρ l:=fun l hl=>by unfold eR; rw [aw hl]
 have dX:∀ x v,af w ρ w0.heap.size ro x v->(AV.has loc x=false\/Ext ρ (eR ρ loc r))->(∀ r',ρ loc=some r'->r'.dz=false)\/Ext ρ (eR ρ loc r)->af w' (eR ρ loc r) w0.heap.size ro x v:=by
  intro x v h h1 h2;rcases h1 with h1|h1
  . rcases h2 with h2|h2
    . refine (h.move (ρ':=eR ρ loc r) h1 fun l r' hl hc => ?_).mono hw (Ext.refl _) (aA _) fun _ h=>h;by_cases m6:l=loc
      . subst m6;rcases hc with hc|hc
        . exact absurd rfl hc
        . rw [h2 _ hl] at hc; cases hc
      . rw [hold l m6]; exact hl
    . exact h.mono hw h2 (aA _) fun _ h=>h
  . exact h.mono hw h1 (aA _) fun _ h=>h
 have uB:(∀ r',ρ loc=some r'->r'.dz=false)\/Ext ρ (eR ρ loc r):=J2.elim .inr fun h => .inl fun r' q=>by have:=h.2.2 r' q; simp only [kf] at this; exact this.1
 have J3:∀ l r' b,ρ l=some r'->r'.b8=some b->l≠loc->w'.heap[b]? = w.heap[b]? := fun l r' b h1 h2 aT=>gp b (H.own l r' b h1 h2).1 fun r2 h3 h4=>H.apart l loc r' r2 b aT h1 h3 h2 h4;refine⟨hf,H.size,H.defers,fun b hb=>iS (H.gu b hb) hle,fun d x h => ?_,fun l e' h => ?_,fun l l' r1 r2 b aT h1 h2 h3 h4 => ?_,fun l hl => ?_,fun l r1 b h1 h2 => ?_,H.ew,fun l r1 h1 h2 => ?_,H.jL,fun l e' h=>by rw [cm,aw (by rintro rfl; rw [hB] at h; cases h)]; exact H.jM l e' h,H.fm⟩
 . obtain⟨u,h1,h2⟩:=H.tm d x h;exact⟨u,h1,dX x u h2 (J2.elim .inr fun hm => .inl (hm.1 d x h)) uB⟩
 . unfold bf at h;rw [cm] at h;by_cases hl:loc=l
   . rw [aC hl] at h;simp only [bF] at h;subst h; subst hl;exact he
   . rw [aw hl] at h;have h0:bf B S l=some e':=h;have h1:=H.en l e' h0
     cases e' with
     | box T cs =>
      obtain⟨b,us,k1,k4,k5⟩:=h1;refine⟨b,us,by rw [hold l (fun e=>hl e.symm)]; exact k1,?_,k5.1,fun j x v hx hv=>dX x v (k5.2 j x v hx hv) (J2.elim .inr fun hm => .inl (mg (hm.2.1 l T cs h0) hx)) uB⟩;rw [gp b (H.own l _ b k1 rfl).1 fun r' h3 h4=>H.apart l loc _ r' b (fun e=>hl e.symm) k1 h3 rfl h4];exact k4
     | row fr t T m =>
      obtain⟨A,c,css,k1,k2,k3,k5⟩:=h1;refine⟨A,c,css,by rw [hold l (fun e=>hl e.symm)]; exact k1,k2.jF fun ad ha => ?_,k3,fun k cs j x v q1 q2 q3=>dX x v (k5 k cs j x v q1 q2 q3) (.inl (mg (wg fr t _ loc) q2)) uB⟩;have tg:(Rl.row A (m ()).length c).b8=some ad.block:=by simp [Rl.b8,ha]
      exact gp ad.block (H.own l _ _ k1 tg).1 fun r' h3 h4=>H.apart l loc _ r' _ (fun e=>hl e.symm) k1 h3 tg h4
     | map fr ag c t T m =>
      obtain⟨b,es,clock,k1,k2,k3,k4⟩:=h1;refine⟨b,es,clock,by rw [hold l (fun e=>hl e.symm)]; exact k1,(J3 l _ b k1 rfl (fun e=>hl e.symm)).trans k2,k3,k4.rQ fun x v hx=>dX _ v hx (.inl (PJ _ _ _ _ _)) uB⟩
     | iter ml c seen left =>
      obtain⟨b,b2,es,clock,since,stamps,c0,k1,k2,k3,k4,k5⟩:=h1;have ka:ml≠loc:=by
       exact Y0
      exact⟨b,b2,es,clock,since,stamps,c0,by rw [hold l (fun e=>hl e.symm)]; exact k1,by rw [hold ml ka]; exact k2,(J3 ml _ b k2 rfl ka).trans k3,(J3 l _ b2 k1 rfl (fun e=>hl e.symm)).trans k4,k5⟩
     | bo ml c key =>
      obtain⟨b,es,clock,s,e,k1,k2,k3,k4⟩:=h1;have ka:ml≠loc:=by
       exact Y0
      exact⟨b,es,clock,s,e,by rw [hold l (fun e=>hl e.symm)]; exact k1,by rw [hold ml ka]; exact k2,(J3 ml _ b k2 rfl ka).trans k3,k4⟩
     | ft k=>exact (hold l (fun e=>hl e.symm)).trans h1
     | dead=>obtain⟨r1,k1⟩:=h1; exact⟨r1,by rw [hold l (fun e=>hl e.symm)]; exact k1⟩
 . have PK:∀ l r1 b,eR ρ loc r l=some r1->r1.b8=some b->(l=loc/\r1=r)\/(l≠loc /\ ρ l=some r1):=by
    intro l r1 b h1 _;by_cases m6:l=loc
    . subst m6;unfold eR at h1;rw [aC rfl] at h1;injection h1 with h1;exact .inl ⟨rfl,h1.symm⟩
    . rw [hold l m6] at h1;exact .inr ⟨m6,h1⟩
   rcases PK l r1 b h1 h3 with ⟨rfl,rfl⟩|⟨k1,k2⟩
   . rcases PK l' r2 b h2 h4 with ⟨rfl,rfl⟩|⟨k3,k4⟩
     . exact aT rfl
     . rcases Fk b h3 with ⟨r',q1,q2⟩|q
       . exact H.apart l l' r' r2 b aT q1 k4 q2 h4
       . have:=(H.own l' r2 b k4 h4).1; omega
   . rcases PK l' r2 b h2 h4 with ⟨rfl,rfl⟩|⟨k3,k4⟩
     . rcases Fk b h4 with ⟨r',q1,q2⟩|q
       . exact H.apart l l' r1 r' b aT k2 q1 h3 q2
       . have:=(H.own l r1 b k2 h3).1; omega
     . exact H.apart l l' r1 r2 b aT k2 k4 h3 h4
 . rw [hold l (by simp only at hl; omega)];exact H.fresh l (by simp only at hl; omega)
 . by_cases m6:l=loc
   . subst m6;unfold eR at h1;rw [aC rfl] at h1;injection h1 with h1;subst h1;rcases Fk b h2 with ⟨r',q1,q2⟩|q
     . have h5:=H.own l r' b q1 q2;exact⟨iS h5.1 hle,h5.2⟩
     . refine⟨q.2,fun hb => ?_,.inl (dQ H.from_.size q.1),fun hf=>by have:=S0.nR _ _ H.from_.inv hf; omega⟩;have:=H.gu b hb;omega
   . rw [hold l m6] at h1;have h5:=H.own l r1 b h1 h2;exact⟨iS h5.1 hle,h5.2⟩
 . have h3:=H.dz l r1 h1 h2;rcases J2 with hm|hm
   . exact hm l r1 h3
   . rw [hold l (fun e=>by subst e; rw [hm.2.2 _ h3] at h2; cases h2)];exact h3
end
end Go.Proofs.YtamjbkaclhgffaaGreat
