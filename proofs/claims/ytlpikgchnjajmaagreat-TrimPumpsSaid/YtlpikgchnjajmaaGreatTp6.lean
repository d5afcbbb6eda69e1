/-
  What single operations give is as the abstract run says: calls by their contracts; all operations that make no place and store nothing.
-/
import Derived.Test.YtlpikgchnjajmaaGreatTp5
set_option linter.all false
namespace Go.Proofs.YtlpikgchnjajmaaGreat
open Go.RowKit
variable{av x:AV}{ts:Array TypeId}{e:En}{F f:FuncId}{cs:List aH}{T d kc l loc n sz:Nat}{c y:Operand}{t:Tc}{v:Value}{w w' w0:World}{tb:kd}
section
variable{P:Program}{r:Operand->Value}{d:Option Nat}{ty:TypeId}{pos:String}{aft:Array Edge}{gd:Option (Nat×Bool)}{u v:Value}{w:World}
variable{ρ:Nat->Option Rl}{base:Nat}{ro ra:Nat->Prop}{ge:Nat->Option En}
theorem ah.x9(h:ah w ρ base ro x v)(hx:AV.plain false x=true)(bB:∀ b,ro b->ra b):ah w (fun _=>none) 0 ra x v :=
 (h.plain (ρ':=fun _=>none) hx fun b _ hb=>bB b hb).mono (fun _ _ _=>rfl) (Ext.refl _) (cm _) fun _ h=>h
theorem XE{fr:Bool}{l:Unit->List t.el}(he:c7 w ρ base ro loc (.row fr t T l))(bB:∀ b,ro b->ra b)(cr:∀ b,b<w.heap.size->ra b):∃ A c,ρ loc=some (.row A (l ()).length c)/\ah w (fun _=>none) 0 ra (.sl false t l) (.slice A (l ()).length c):=by
 obtain⟨A,c,css,hA,bC,hlen,du⟩:=he;refine⟨A,c,hA,.sl false t l A c css hlen (bC.cap.1) bC.rd (fun a ha hn=>cr _ (bC.lt ha).2) (fun h=>by cases h) fun k cs j x v h1 h2 h3 => ?_⟩;rw [B4 fr,gY] at h2
 cases hj:(aO fr t fun _=>(l ()).getD k t.aa)[j]? with
 | none=>rw [hj] at h2; cases h2
 | some y =>
  rw [hj] at h2;simp only [dv,bI] at h2;subst h2;have h4:=(du k cs j y v h1 hj h3).uz;refine h4.x9 ?_ bB;exact vY (Eg false t fun _=>(l ()).getD k t.aa) (j:=j) (by rw [B4 fr,gY,hj]; rfl)
mutual
theorem XF(cF:∀ loc e,ge loc=some e->c7 w ρ base ro loc e)(bB:∀ b,ro b->ra b):∀ (s:Sg) (x y:AV) (v:Value),coerce ge s x=some y->ah w ρ base ro x v->(AV.plain false x=true\/∀ b,b<w.heap.size->ra b)->ah w (fun _=>none) 0 ra y v:=by
 intro s x y v h hx hp;unfold coerce at h;split at h
 . split at h<;>cases h
   rename_i hk;subst hk;exact hx.x9 rfl bB
 . split at h<;>cases h
   rename_i hk;subst hk;rw [hx.mw];exact .int _ _
 . cases h;exact hx.x9 rfl bB
 . cases h;rw [hx.pH];exact .bool _
 . cases h;exact hx.x9 rfl bB
 . split at h<;>cases h
   exact hx.uz.x9 rfl bB
 . cases h;rw [hx.wb];exact .sl false _ _ none 0 [] rfl (az _) (Rd.nil _ _ _ _) (fun _ h=>by cases h) (fun h=>by cases h) (fun k cs j x v h=>by simp at h)
 . split at h
   . cases h;exact (zS hx).uz.x9 rfl bB
   . have h1:=ajF h hx;exact h1.1.x9 h1.2 bB
 . split at h<;>cases h
   exact hx.uz.x9 rfl bB
 . split at h
   . rename_i fr t' T l he;split at h<;>cases h
     obtain⟨A,c,hA,h1⟩:=XE (cF _ _ he) bB (hp.resolve_left fun h=>by cases h);obtain⟨A',n,c',bK,hv⟩:=hx.sQ;rw [hA] at bK;injection bK with bK;injection bK with e1 e2 e3;subst e1; subst e2; subst e3;rw [hv];exact h1
   . cases h
 . split at h
   . rename_i fr t' T l he;split at h
     case isFalse=>cases h
     rename_i ht;obtain⟨rfl,rfl⟩:=ht;cases h;obtain⟨A,c,hA,h1⟩:=XE (cF _ _ he) bB (hp.resolve_left fun h=>by cases h);obtain⟨A',n,c',bK,bm,uy,hv⟩:=hx.xW;rw [hA] at bK;injection bK with bK;injection bK with e1 e2 e3;subst e1; subst e2; subst e3;rw [hv];exact OV h1 bm uy
   . cases h
 . rename_i l cs
   cases hc:pF ge l cs with
   | none=>rw [hc] at h; cases h
   | some ys =>
    rw [hc] at h;cases h;obtain⟨vs,rfl,hE⟩:=hx.oS;have h1:=wj cF bB l cs ys vs hc hE (hp.imp (fun h=>by simpa only [AV.plain] using h) id);exact .agg _ _ h1.1 h1.2
 . rename_i l cs
   cases hc:pF ge l cs with
   | none=>rw [hc] at h; cases h
   | some ys =>
    rw [hc] at h;cases h;obtain⟨b,o,vs,h1,h2,h3,hE,rfl⟩:=hx.I3;have h4:=wj cF bB l cs ys vs hc hE (hp.imp (fun h=>by simpa [AV.plain] using h) id);exact .bg _ 0 b o vs (bB _ h1) h2 h4.1 h3 h4.2
 . rename_i l loc;split at h
   . rename_i T cs he
     cases hc:pF ge l cs with
     | none=>rw [hc] at h; cases h
     | some ys =>
      rw [hc] at h;cases h;obtain⟨b,vs,hb,hh,hE⟩:=cF _ _ he;obtain⟨b',aW,rfl⟩:=hx.xV;rw [hb] at aW;injection aW with aW;injection aW with aW;subst aW;have cr:∀ b,b<w.heap.size->ra b:=by
       rcases hp with hp|hp
       . cases hp
       . exact hp
      have aj:=(jz.1 hh).1;have h4:=wj cF bB l cs ys vs hc hE (.inr cr);exact .bg _ 0 b 0 vs (cr _ aj) aj h4.1 (W7 hh) h4.2
   . cases h
 . rename_i l f cs
   cases hc:pF ge l cs with
   | none=>rw [hc] at h; cases h
   | some ys =>
    rw [hc] at h;cases h;obtain⟨vs,rfl,hE⟩:=hx.Eu;have h1:=wj cF bB l cs ys vs hc hE (hp.imp (fun h=>by simpa only [AV.plain] using h) id);exact .fn _ _ _ h1.1 h1.2
 . cases h;exact .un _
 . cases h
theorem wj(cF:∀ loc e,ge loc=some e->c7 w ρ base ro loc e)(bB:∀ b,ro b->ra b):∀ (ss:List Sg) (xs ys:List AV) (vs:List Value),pF ge ss xs=some ys->aQ w ρ base ro xs vs->(AV.dO false xs=true\/∀ b,b<w.heap.size->ra b)->aQ w (fun _=>none) 0 ra ys vs:=by
 intro ss xs ys vs h hE hp;unfold pF at h;split at h
 . cases h;rw [hE.none];exact .nil
 . rename_i s ss x xs;split at h
   . rename_i y Jd h1 h2;cases h;obtain⟨v,us,rfl,hx,na⟩:=hE.head;refine .cons (XF cF bB s x y v h1 hx (hp.imp (fun h => ?_) id)) (wj cF bB ss xs Jd us h2 na (hp.imp (fun h => ?_) id))
     . simp only [AV.dO,au] at h;exact h.1
     . simp only [AV.dO,au] at h;exact h.2
   . cases h
 . cases h
end
theorem ajJ{c:aH}(aC:∀ c∈cs,aK P c)(h:IP cs f=some c):aK P c/\c.f=f:=by
 induction cs with
 | nil=>cases h
 | cons c' cs ih =>
  unfold IP at h;exact XG
theorem EB{xs:Array Operand}{vs:List Value}(hf:r c = .func (.func F) #[] vs.toArray)(oP:∀ args w,(callFunc F args).run P w = .ok (.enter F args) w) :
 (execOp r ⟨d,.call { callee := .value c,args:=xs,argTypes:=ts },ty,pos,aft,gd⟩).run P w = .ok (.enter F (xs.toList.map r++vs).toArray) w:=by
 unfold execOp;simp only [resolve,hf,Deferred.ofValue,bt,bU,bM,invoke,oP];congr 2;apply xx;simp
def OX(P:Program)(r:Operand->Value)(o:Oper)(w:World)(ρ:Nat->Option Rl)(base:Nat)(ro:Nat->Prop)(av:AV):Prop :=
 aiS P r o w fun v w'=>ah w' ρ base (fun b=>ro b\/w.heap.size<=b) av v
theorem OX.of{o:Oper}(h:∃ v,(execOp r o).run P w = .ok (.value v) w/\ah w ρ base ro av v):OX P r o w ρ base ro av:=by
 obtain⟨v,h1,h2⟩:=h;exact .inl ⟨v,w,h1,cA _ _,h2.mono (fun _ _ _=>rfl) (Ext.refl _) (az _) fun _ h => .inl h⟩
theorem ajK{t:Nat}{s:ByteArray}{x:Operand}(hx:r x = .string s)(ht:P.underlying t=some .string):(execOp r ⟨d,.call { callee := .builtin .len,args := #[x],argTypes := #[t] },ty,pos,aft,gd⟩).run P w = .ok (.value (.int .i64 s.size)) w:=by
 exact Ww
theorem ajL{a:AV}(cF:∀ loc e,ge loc=some e->c7 w ρ base ro loc e)(hs:∀ s,a ≠ .str s)(h:Eo ge a=some av)(ha:ah w ρ base ro a u):∃ A n c,u = .slice A n c/\ah w ρ base ro av (.int .i64 n):=by
 unfold Eo at h;split at h
 . cases h;exact⟨none,0,0,ha.wb,.lit _ _⟩
 . cases h;obtain⟨A,c,css,_,_,_,_,_,_,rfl⟩:=ha.pI;exact⟨A,_,c,rfl,.int _ _⟩
 . cases h;obtain⟨A,c,_,_,rfl⟩:=ha.Ez;exact⟨A,_,c,rfl,.int _ _⟩
 . split at h
   . rename_i loc fr t T l he;cases h;obtain⟨A,c,css,hA,_,_,_⟩:=cF _ _ he;obtain⟨A',n,c',bK,rfl⟩:=ha.sQ;rw [hA] at bK;injection bK with bK;injection bK with e1 e2 e3;subst e1; subst e2; subst e3;exact⟨A,_,c,rfl,.int _ _⟩
   . cases h
 . cases h;obtain⟨A,n,c,_,_,_,rfl⟩:=ha.xW;exact⟨_,_,_,rfl,.int _ _⟩
 . rename_i s;exact absurd rfl (hs s)
 . cases h
theorem XH{x:Operand}{k:IntKind}{m n:Int}(hx:r x = .int k m)(hy:r y = .int k n) :
 (execOp r ⟨d,.call { callee := .builtin .min,args := #[x,y],argTypes:=ts },ty,pos,aft,gd⟩).run P w = .ok (.value (.int k (cond (decide (n<m)) n m))) w/\(execOp r ⟨d,.call { callee := .builtin .max,args := #[x,y],argTypes:=ts },ty,pos,aft,gd⟩).run P w = .ok (.value (.int k (cond (decide (m<n)) n m))) w:=by
 have e:∀ (p:Prop) [Decidable p] (a b:Int),(if p then a else b)=cond (decide p) a b:=fun p _ a b=>by by_cases h:p<;>simp [h]
 constructor
 . unfold execOp;simp only [resolve,invoke,builtin,DD,kX,vE,hx,hy,bt,run_min_int2,bM,bU,e]
 . unfold execOp;simp only [resolve,invoke,builtin,DD,kX,vE,hx,hy,bt,run_max_int2,bM,bU,e]
theorem XI{fr:Bool}{t:Tc}{l:Unit->List t.el}{b o:Nat}{css:List (List Value)}(hr:Rd w w.heap.size t.size (some ⟨b,o,none⟩) css)(hlen:css.length=(l ()).length)(du:∀ (k) (cs) (j:Nat) (x) (v),css[k]? = some cs->(aO fr t fun _=>(l ()).getD k t.aa)[j]? = some x->cs[j]? = some v->ah w ρ base ro x v):∀ n,n<=css.length ->
 (css.take n).flatten.length=n*t.size/\aQ w ρ base ro (BY fr t l n) (css.take n).flatten/\∀ j u,(css.take n).flatten[j]? = some u->w.cell? ⟨b,o+j,none⟩=some u
 | 0,_=>⟨by simp,.nil,fun j u hj=>by simp at hj⟩
 | n+1,hn=>by
  obtain⟨h1,h2,h3⟩:=XI hr hlen du n oo;have hk:n<css.length:=oo
  have hg:=bp hk;obtain⟨b',o',hA,_,hl,aC⟩:=hr n _ hg;injection hA with hA;injection hA with e1 e2;subst e1; subst e2;have hE:=ux hl fun j y v k1 k2=>du n _ j y v hg k1 k2;have e:(css.take (n+1)).flatten=(css.take n).flatten++css[n]:=by
   rw [MY hk,Ng];simp
  rw [e];refine⟨by rw [ej,h1,hl,Bp],?_,fun j u hj => ?_⟩
  . refine⟨by show (BY fr t l n++_).length=_; rw [ej,ej,h2.1,hE.1],fun j x v hx hv => ?_⟩;have hx:(BY fr t l n++aO fr t fun _=>(l ()).getD n t.aa)[j]? = some x:=hx;by_cases hj:j<(css.take n).flatten.length
    . rw [qh (by rw [h2.1]; exact hj)] at hx;rw [qh hj] at hv;exact h2.2 j x v hx hv
    . rw [rq (by rw [h2.1]; omega),h2.1] at hx;rw [rq oo] at hv;exact hE.2 _ x v hx hv
  . by_cases mu:j<(css.take n).flatten.length
    . rw [qh mu] at hj;exact h3 j u hj
    . rw [rq oo] at hj;have:=aC _ u hj;rw [h1] at this mu;rwa [show o+n*t.size+(j - n*t.size)=o+j from oo] at this
theorem ajM(aA:cS P tb){e:Nat}{a fr:Bool}{l:Unit->List t.el}{x:Operand}(hT:fy tb T=some (.array n e sz a))(h0:¬n=0)(hx:ah w ρ base ro (.sl fr t l) (r x))(hv:n<=(l ()).length) :
 ∃ v,(execOp r ⟨d,.sliceToArrayPointer T x,ty,pos,aft,gd⟩).run P w = .ok (.value v) w/\ah w ρ base ro (.bg (BY fr t l n) 0) v:=by
 obtain⟨i,_,h1,h2⟩:=eU aA hT;obtain⟨hu,_⟩:=OW h2 h1;obtain⟨A,c,css,hl,hc,hr,bB,_,du,rP⟩:=hx.pI;have hn:n<=css.length:=oo
 obtain⟨b,o,hA,aj,_,_⟩:=hr 0 _ (bp (show 0<css.length from oo));subst hA;have aT:css ≠ []:=by intro h; rw [h] at hn; simp at hn; omega
 obtain⟨k1,k2,k3⟩:=XI hr hl du n hn;refine⟨.pointer (some ⟨b,o,none⟩),?_,.bg _ 0 b o _ (bB _ rfl aT) aj k2.1 k3 k2.2⟩;unfold execOp;have EC:¬(l ()).length<n:=oo
 simp only [rP,Instr.arrayAt,underlying,m5,hu,bt,bM,bU,ar EC]
theorem XJ{g:Operand->AV}{op:Op}{vcs:List VC}(aA:cS P tb)(aC:∀ c∈cs,aK P c)(cF:∀ loc e,ge loc=some e->c7 w ρ base ro loc e)(hg:∀ x∈op.operands,ah w ρ base ro (g x) (r x))(XK:∀ b,ro b->b<w.heap.size)(ir:base<=w.heap.size)(h:nX tb cs ge g op=some (av,vcs))(hv:∀ c∈vcs,c ()):OX P r ⟨d,op,ty,pos,aft,gd⟩ w ρ base ro av:=by
 unfold nX at h;split at h
 . cases h;exact .of ⟨_,Wr rfl,hg _ iC⟩
 . cases h;exact .of ⟨_,Ws rfl,hg _ iC⟩
 . rename_i c a b
   cases hp:IV (g c) (g a) (g b) with
   | none=>rw [hp] at h; cases h
   | some mA =>
    rw [hp] at h;cases h;exact .of (ajh hp (hg _ iC) (hg _ ya) (hg _ (by simp [Op.operands])))
 . rename_i x;have hx:=hg x iC;have hp:∀ ad,r x = .pointer (some ad)->(execOp r ⟨d,.nilCheck x,ty,pos,aft,gd⟩).run P w = .ok (.value (.pointer (some ad))) w:=by
    intro ad he;unfold execOp;simp only [he,bU]
   split at h
   . rename_i l o he;cases h;rw [he] at hx;obtain⟨b,_,hr⟩:=hx.xV;exact .of ⟨_,hp _ hr,hr▸hx⟩
   . rename_i l o he;cases h;rw [he] at hx;obtain⟨b,o',cs',_,_,_,_,hr⟩:=hx.I3;exact .of ⟨_,hp _ hr,hr▸hx⟩
   . rename_i t l k o he;cases h;rw [he] at hx;obtain⟨A,n,c,b,_,_,_,_,hr⟩:=hx.I2;exact .of ⟨_,hp _ hr,hr▸hx⟩
   . cases h
 . rename_i op T x y _;have hx:=hg x iC;have hy:=hg y ya;generalize g x=a at *
   generalize g y=b at *
   by_cases oQ:(∃ cs,a = .agg cs)/\∃ ds,b = .agg ds
   . obtain⟨⟨cs,rfl⟩,ds,rfl⟩:=oQ;obtain⟨v,h1,h2⟩:=Xo (d:=d) (ty:=ty) (pos:=pos) (aft:=aft) (gd:=gd) aA h hx hy;exact .of ⟨v,h1 w,h2⟩
   . have h':zI (fy tb T) op a b=some (av,vcs):=by
      unfold Er at h;split at h
      . exact (oQ ⟨⟨_,rfl⟩,_,rfl⟩).elim
      . exact h
     exact .of (OH aA h' hv hx hy)
 . rename_i t x;have hx:=hg x iC;split at h
   . rename_i b he;cases h;rw [he] at hx;exact .of ⟨_,Iw hx.pH rfl,.aG _⟩
   . rename_i b he;cases h;rw [he] at hx;exact .of ⟨_,Iw hx.oR rfl,.bool _⟩
   . cases h
 . rename_i t x;have hx:=hg x iC;have hn:∀ k n,r x = .int k n->(execOp r ⟨d,.unOp .neg t x,ty,pos,aft,gd⟩).run P w = .ok (.value (.int k (k.wrap (-n)))) w:=by
    intro k n he;exact XL
   split at h
   . rename_i k n he;cases h;rw [he] at hx;exact .of ⟨_,hn _ _ hx.mw,.lit _ _⟩
   . rename_i n he;cases h;rw [he] at hx;refine .of ⟨_,hn _ _ hx.iA,?_⟩;rw [zO (hv _ (.head _))];exact .int _ fun _ => -n ()
   . rename_i k n _ he;cases h;rw [he] at hx;exact .of ⟨_,hn _ _ hx.iA,.int _ fun _=>k.wrap (-n ())⟩
   . cases h
 . rename_i s t x;have hx:=hg x iC;split at h
   . rename_i k0 k kk n e1 e2 he;cases h;rw [he] at hx;obtain⟨i1,_,h1,h2⟩:=eU aA e1;obtain⟨i2,_,h3,h4⟩:=eU aA e2;obtain⟨Je,fN,_⟩:=m9 h2;exact .of ⟨_,BT hx.mw fN (BZ h4 h3) rfl rfl,.lit _ _⟩
   . rename_i k0 k kk n e1 e2 he;rw [he] at hx;obtain⟨i1,_,h1,h2⟩:=eU aA e1;obtain⟨i2,_,h3,h4⟩:=eU aA e2;obtain⟨Je,fN,_⟩:=m9 h2;split at h
     . rename_i hk;subst hk;cases h;exact .of ⟨_,BT hx.iA fN (BZ h4 h3) (zO (hv _ (.head _))) rfl,.int _ _⟩
     . cases h;exact .of ⟨_,BT hx.iA fN (BZ h4 h3) rfl rfl,.int _ fun _=>k.wrap (n ())⟩
   . cases h
 . rename_i T x f;have hx:=hg x iC
   cases hT:ak tb T with
   | none=>rw [hT] at h; cases h
   | some i =>
    rw [hT] at h;simp only [DH] at h;split at h
    . rename_i off sz a hf;split at h
      . cases h
      . rename_i aN
        cases ha:zJ (g x) off with
        | none=>rw [ha] at h; cases h
        | some mA =>
         rw [ha] at h;cases h;obtain⟨b,o,h1,h2⟩:=OJ ha hx;exact .of ⟨_,Wu h1 (Xb (aA T i hT) hf (by simpa using aN)) rfl,h2⟩
    . cases h
 . rename_i T x f;have hx:=hg x iC
   cases hT:ak tb T with
   | none=>rw [hT] at h; cases h
   | some i =>
    rw [hT] at h;simp only [DH] at h;split at h
    . rename_i off sz a cells hf hc
      cases hcut:cut a off sz cells with
      | none=>rw [hcut] at h; cases h
      | some mA =>
       rw [hcut] at h;cases h;rw [hc] at hx;exact .of (ajm (aA T i hT) hf hcut hx)
    . cases h
 . rename_i T x y;have hx:=hg x iC;have hy:=hg y ya;split at h
   . rename_i e sz b fr t l kk k e1 e2 e3;split at h
     . rename_i hs;cases h;rw [e2] at hx;obtain⟨i,_,h1,h2⟩:=eU aA e1;obtain⟨v,k1,k2⟩:=OP (d:=d) (ty:=ty) (pos:=pos) (aft:=aft) (gd:=gd) h2 h1 (eq_of_beq hs) hx (ji e3 hy) (hv _ (.head _));exact .of ⟨v,k1 w,k2⟩
     . cases h
   . rename_i e sz b fr t l n kk k e1 e2 e3;split at h
     . rename_i hs;cases h;rw [e2] at hx;obtain⟨i,_,h1,h2⟩:=eU aA e1;obtain⟨v,k1,k2⟩:=Xt (d:=d) (ty:=ty) (pos:=pos) (aft:=aft) (gd:=gd) h2 h1 (eq_of_beq hs) hx (ji e3 hy) (hv _ (.head _));exact .of ⟨v,k1 w,k2⟩
     . cases h
   . rename_i e sz b kk k e1 e3 _ _;obtain⟨i,_,h1,h2⟩:=eU aA e1;obtain⟨v,k1,k2⟩:=Xf (d:=d) (ty:=ty) (pos:=pos) (aft:=aft) (gd:=gd) cF h2 h1 h hx (ji e3 hy) hv;exact .of ⟨v,k1 w,k2⟩
   . obtain⟨v,k1,k2⟩:=Xv (d:=d) (ty:=ty) (pos:=pos) (aft:=aft) (gd:=gd) aA h hx hy;exact .of ⟨v,k1 w,k2⟩
 . rename_i T x i;exact .of (ajI aA h hv (hg x iC) (hg i ya))
 . rename_i T x;have hx:=hg x iC;split at h
   . rename_i n e sz a fr t l e1 e2;split at h
     . cases h
     . rename_i h0;cases h;rw [e2] at hx;exact .of (ajM aA e1 h0 hx (hv _ (.head _)))
   . cases h
 . rename_i T x i ok;have hx:=hg x iC;have hi:=hg i ya;split at h
   . rename_i kt et c t ag loc e1 e2;split at h
     . rename_i fr jI c' t' T' m k e3 e4;split at h
       . rename_i hc;obtain⟨rfl,rfl,rfl⟩:=hc;cases h;rw [e2] at hx;obtain⟨ti,_,h1,h2⟩:=eU aA e1;exact .of (aju h2 h1 (cF _ _ e3) hx (OQ e4 hi))
       . cases h
     . cases h
   . cases h
 . rename_i x;have hx:=hg x iC;split at h
   . rename_i ml l2 e1;split at h
     . rename_i fr ag c t T m Et c' seen left e2 e3;split at h
       . rename_i hc;obtain⟨rfl,rfl⟩:=hc;cases h;rw [e1] at hx;exact .of (ajv (cF _ _ e2) (cF _ _ e3) hx (hv _ (.head _)))
       . cases h
     . cases h
   . cases h
 . rename_i T x hi;have hx:=hg x iC;have yb:=hg hi ya;split at h
   . rename_i e sz b fr t l e1 e2;split at h
     . rename_i hs;split at h
       . rename_i kk bb eb;cases h;rw [e2] at hx;obtain⟨i,hT,h1,h2⟩:=eU aA e1;obtain⟨A,c,css,_,_,_,_,_,_,oV⟩:=hx.pI;rw [oV] at hx;exact .of (Xu aA hT h1 (eq_of_beq hs) oV hx (ji eb yb) (hv _ (.head _)))
       . cases h
     . cases h
   . rename_i e sz b fr t l n e1 e2;split at h
     . rename_i hs;split at h
       . rename_i kk bb eb;cases h;rw [e2] at hx;obtain⟨i,hT,h1,h2⟩:=eU aA e1;obtain⟨A,c,_,hl,oV⟩:=hx.Ez;exact .of (Xu aA hT h1 (eq_of_beq hs) oV hl (ji eb yb) (hv _ (.head _)))
       . cases h
     . cases h
   . rename_i e sz b loc e1 e2;split at h
     . rename_i fr t T' l he;split at h
       . rename_i hs;split at h
         . rename_i kk bb eb;cases h;rw [e2] at hx;obtain⟨i,hT,h1,h2⟩:=eU aA e1;have XM:=hv _ (.head _);exact .of (Xs (g:=g) (a:=fun _=>0) (b:=bb) aA cF hT h1 (eq_of_beq hs) he hx rfl (by simp only [pG,eb,dv]) (fun y hy=>by cases hy) (fun y hy=>by cases hy; exact yb) ⟨j3 _,XM.1,XM.2⟩)
         . cases h
       . cases h
     . cases h
   . cases h
 . rename_i T x lo hi jl;have hx:=hg x iC;split at h
   . rename_i e sz b fr t l e1 e2;split at h
     . rename_i hs;split at h
       . rename_i fa fb ha hb;cases h;rw [e2] at hx;obtain⟨i,hT,h1,h2⟩:=eU aA e1;exact .of (ajx aA hT h1 (eq_of_beq hs) hx ha hb (fun y hy=>hg y (by subst hy; simp [Op.operands])) (fun y hy=>hg y (by subst hy; simp [Op.operands])) (hv _ (.head _)))
       . cases h
     . cases h
   . rename_i e sz b loc e1 e2;split at h
     . rename_i fr t T' l he;split at h
       . rename_i hs;split at h
         . rename_i fa fb ha hb;cases h;rw [e2] at hx;obtain⟨i,hT,h1,h2⟩:=eU aA e1;exact .of (Xs aA cF hT h1 (eq_of_beq hs) he hx ha hb (fun y hy=>hg y (by subst hy; simp [Op.operands])) (fun y hy=>hg y (by subst hy; simp [Op.operands])) (hv _ (.head _)))
         . cases h
       . cases h
     . cases h
   . rename_i n e dP ag loc off e1 e2;split at h
     . rename_i hc;simp only [au,b9,iF] at hc;obtain⟨⟨rfl,rfl⟩,rfl⟩:=hc;cases h;rw [e2] at hx;obtain⟨i,hT,h1,_⟩:=eU aA e1;exact .of (ajy aA hT h1 hx)
     . cases h
   . cases h
 . rename_i x i;have hx:=hg x iC;split at h
   . rename_i l he
     cases hl:l[i]? with
     | none=>rw [hl] at h; cases h
     | some mA =>
      rw [hl] at h;cases h;rw [he] at hx;obtain⟨vs,h1,hE⟩:=hx.I1;obtain⟨v,h2,h3⟩:=hE.get hl;exact .of ⟨v,Wx h1 (by simpa using h2),h3⟩
   . cases h
 . rename_i f first dw
   split at h
   . rename_i hf;cases h;have qt:first = #[]:=by simpa using hf
     subst qt;have hE:aQ w ρ base ro (dw.toList.map g) (dw.toList.map r):=wg fun x hx=>hg x (by simpa [Op.operands] using hx);refine .of ⟨.func (.func f) #[] (dw.toList.map r).toArray,?_,.fn _ _ _ hE.1 hE.2⟩;unfold execOp;simp only [Instr.makeFunc,bt,bU,bM];rw [show dw.map r=(dw.toList.map r).toArray by apply xx; simp,show (#[]:Array Operand).map r = #[] by simp]
   . cases h
 . rename_i T x;have hx:=hg x iC;split at h
   . rename_i i hT
     cases hl:Em ge i.ti.agg i.sz (g x) with
     | none=>rw [hl] at h; cases h
     | some mA =>
      rw [hl] at h;cases h;obtain⟨ad,v,h1,h2,h3⟩:=W8 cF (aA T i hT) hl hx;exact .of ⟨v,aiP h1 h2,h3⟩
   . cases h
 . rename_i T parts;have hp:∀ p∈parts.toList,ah w ρ base ro (g p.2) (r p.2):=fun p hp=>hg _ (by simp only [Op.operands]; simpa using ⟨p.1,by simpa using hp⟩);split at h
   . rename_i i hT;split at h
     . rename_i fs zQ;split at h
       . cases h
       . rename_i hz
         cases hf:uw (fun k=>(fs[k]?).map fun f=>(f.1,f.2.1)) i.z (parts.toList.map fun p=>(p.1,g p.2)) with
         | none=>rw [hf] at h; cases h
         | some out =>
          rw [hf] at h;cases h;exact .of (Xe (aA T i hT) hp (by simpa using hz) (.inl ⟨fs,zQ,rfl⟩) hf rfl)
     . rename_i n e dP a zQ;split at h
       . cases h
       . rename_i hz
         cases hf:uw (fun k=>some (k*dP,dP)) i.z (parts.toList.map fun p=>(p.1,g p.2)) with
         | none=>rw [hf] at h; cases h
         | some out =>
          rw [hf] at h;cases h;exact .of (Xe (aA T i hT) hp (by simpa using hz) (.inr ⟨n,e,dP,a,zQ,rfl⟩) hf rfl)
     . cases h
   . cases h
 . rename_i c;obtain⟨callee,iY,oW⟩:=c;dsimp only at h;split at h
   . split at h
     . rename_i x y e1;have ha:iY = #[x,y]:=by simpa using congrArg List.toArray e1
       subst ha;have hx:=hg x Jf;have hy:=hg y (by simp [Op.operands,Call.operands]);split at h
       . rename_i k fa k' fb e2 e3;split at h
         . rename_i hk;subst hk;cases h;exact .of ⟨_,(XH (ji e2 hx) (ji e3 hy)).1,.int k fun _=>cond (decide (fb ()<fa ())) (fb ()) (fa ())⟩
         . cases h
       . cases h
     . cases h
   . split at h
     . rename_i x y e1;have ha:iY = #[x,y]:=by simpa using congrArg List.toArray e1
       subst ha;have hx:=hg x Jf;have hy:=hg y (by simp [Op.operands,Call.operands]);split at h
       . rename_i k fa k' fb e2 e3;split at h
         . rename_i hk;subst hk;cases h;exact .of ⟨_,(XH (ji e2 hx) (ji e3 hy)).2,.int k fun _=>cond (decide (fa ()<fb ())) (fb ()) (fa ())⟩
         . cases h
       . cases h
     . cases h
   . split at h
     . rename_i x T e1 e2;have ha:iY = #[x]:=by simpa using congrArg List.toArray e1
       have ht:oW = #[T]:=by simpa using congrArg List.toArray e2
       subst ha; subst ht;have hx:=hg x Jf;split at h
       . cases h
       . rename_i e sz b y e3 hy
         cases hl:Eo ge (g x) with
         | none=>rw [hl] at h; cases h
         | some mA =>
          rw [hl] at h;cases h;obtain⟨i,_,h1,h2⟩:=eU aA e3;obtain⟨A,n,c,h3,h4⟩:=ajL cF (fun s hs=>by first|exact hy s hs|exact hy _ _ _ s rfl hs|simp_all) hl hx;exact .of ⟨_,aiR h3 (Wv (I6 h2 h1)).1 rfl,h4⟩
       . rename_i s e3 he;cases h;rw [he] at hx;obtain⟨i,_,h1,h2⟩:=eU aA e3;exact .of ⟨_,ajK hx.zM (aje h2 h1),.int _ fun _=>((s ()).size:Int)⟩
       . cases h
     . cases h
   . rename_i fo;split at h
     . rename_i f dw ED;split at h
       . rename_i OF ajN;split at h
         . rename_i ai uA;split at h
           . rename_i res qx;split at h
             . rename_i n8;cases h;obtain⟨bS,rfl⟩:=ajJ aC ajN;have hx:=hg fo Jf;rw [ED] at hx;obtain⟨vs,rO,hE⟩:=hx.Eu;have hA:aQ w ρ base ro (iY.toList.map g++dw) (iY.toList.map r++vs):=(wg fun x hx=>hg x (by simp only [Op.operands,Call.operands]; simpa using .inr (by simpa using hx))).append hE;have jm:=hv _ (.head _)
               cases cK:AV.plain true res.av with
               | true =>
                have h1:=bS.2 ai res qx w (fun b=>b<w.heap.size) _ (fun _ h=>h) (wj cF XK _ _ _ _ uA hA (.inr fun _ h=>h)) jm;refine .inr ⟨_,_,EB rO bS.1,h1.mono fun e w' ⟨v,h2,h3,h4⟩=>⟨v,h2,h3,?_⟩⟩;exact (h4.plain (ρ' := ρ) (ro':=fun b=>ro b\/w.heap.size<=b) cK fun b h5 _ => .inr (h5 rfl)).mono (fun _ _ _=>rfl) (Ext.refl _) ir fun _ h=>h
               | false =>
                rw [cK,rB,au] at n8;have h1:=bS.2 ai res qx w ro _ XK (wj cF (fun _ h=>h) _ _ _ _ uA hA (.inl n8.1)) jm;refine .inr ⟨_,_,EB rO bS.1,h1.mono fun e w' ⟨v,h2,h3,h4⟩=>⟨v,h2,h3,?_⟩⟩;exact (h4.plain (ρ' := ρ) (ro':=fun b=>ro b\/w.heap.size<=b) n8.2 fun b _ h5=>h5).mono (fun _ _ _=>rfl) (Ext.refl _) ir fun _ h=>h
             . cases h
           . cases h
         . cases h
       . cases h
     . cases h
   . cases h
 . cases h
end
structure Sx where
 t:List (Nat×AV)
 e:List (Nat×En)
 n:Nat
structure Bs where
 t:List (Nat×AV)
 e:List (Nat×En)
def dH(B:Bs)(S:Sx)(d:Nat):Option AV:=match ak S.t d with
 | some x=>some x
 | none=>ak B.t d
def bc(B:Bs)(S:Sx)(l:Nat):Option En:=match ak S.e l with
 | some x=>some x
 | none=>ak B.e l
def n9(B:Bs)(S:Sx)(d:Nat):AV:=match dH B S d with
 | some x=>x
 | none => .un
def bT(B:Bs)(S:Sx):Operand->AV
 | .tmp d=>n9 B S d
 | .const v=>OA v
 | .func f => .fn f []
 | .global _ => .un
structure Pm where
 rd:Nat->Prop
 pl:Nat->Option Rl
 fx:Bool
 jK:Nat->Prop:=fun _=>False
 own:Nat->Prop:=fun _=>False
 inv:World->Prop:=fun _=>True
 ds:List Deferred := []
 fm:Nat->Option Value:=fun _=>none
 ex:Nat->Prop:=fun _=>False
 yc:∀ b,own b->jK b:=by intro _ h; exact h
 oa:∀ w b,inv w->jK b->b<w.heap.size:=by intro _ _ _ h; exact h.elim
 yd:∀ w w':World,inv w->w'.os=w.os->w'.tape=w.tape->w'.output=w.output->w.heap.size<=w'.heap.size->(∀ b,jK b->w'.heap[b]? = w.heap[b]?)->inv w':=by intros; trivial
def Pm.may(S:Pm)(w0:World)(k:Nat):Prop:=(w0.heap.size<=k\/∃ l r,S.pl l=some r/\r.ca=some k)/\¬ S.jK k
structure qy (S:Pm) (w w':World):Prop where
 os:w'.os=w.os
 tape:w'.tape=w.tape
 output:w'.output=w.output
 size:w.heap.size<=w'.heap.size
 block:∀ k,k<w.heap.size->(∀ l r,S.pl l=some r->r.ca≠some k)->¬ S.ex k->w'.heap[k]? = w.heap[k]?
 inv:S.inv w'
structure OY (pl:Nat->Option Rl) (w w':World):Prop where
 os:w'.os=w.os
 tape:w'.tape=w.tape
 output:w'.output=w.output
 size:w.heap.size<=w'.heap.size
 block:∀ k,k<w.heap.size->(∀ l r,pl l=some r->r.ca≠some k)->w'.heap[k]? = w.heap[k]?
theorem qy.grown{S:Pm}{row:Option Nat}(h:qy S w0 w)(hg:w.grownBy w' row)(hr:∀ k,row=some k->S.may w0 k):qy S w0 w' :=
 ⟨hg.os.trans h.os,hg.tape.trans h.tape,hg.output.trans h.output,e8 h.size hg.size,fun k hk hn hx=>(hg.block k (iP hk h.size) fun e=>by
  rcases (hr k e.symm).1 with h1|⟨l,r,h1,h2⟩
  . omega
  . exact hn l r h1 h2).trans (h.block k hk hn hx),S.yd _ _ h.inv hg.os hg.tape hg.output hg.size fun b hb=>hg.block b (S.oa _ _ h.inv hb) fun e=>(hr b e.symm).2 hb⟩
theorem ajO(h:cU w w'):w.grownBy w' none:=⟨h.os,h.tape,h.output,h.size,fun i hi _=>h.block i hi⟩
theorem qy.andThen{S:Pm}(h:qy S w0 w)(hb:cU w w'):qy S w0 w':=h.grown (ajO hb) fun k hk=>by cases hk
theorem qy.alloc{S:Pm}(h:qy S w0 w)(o):qy S w0 (w.alloc o):=h.grown (World.grownBy_alloc w o none) fun k hk=>by cases hk
theorem OY.none_(h:OY (fun _=>none) w w'):cU w w':=⟨h.os,h.tape,h.output,h.size,fun k hk=>h.block k hk fun _ _ h=>by cases h⟩
structure bh (w0:World) (S0:Pm) (N:Nat) (B:Bs) (S:Sx) (a:Act) (w:World) (ρ:Nat->Option Rl) (ro:Nat->Prop):Prop where
 from_:qy S0 w0 w
 size:a.tmps.size=N
 defers:a.defers=S0.ds
 gn:∀ b,ro b->b<w.heap.size
 tm:∀ d x,dH B S d=some x->∃ u,a.tmps[d]? = some u/\ah w ρ w0.heap.size ro x u
 en:∀ l e,bc B S l=some e->c7 w ρ w0.heap.size ro l e
 apart:∀ l l' r r' b,l≠l' -> ρ l=some r -> ρ l'=some r'->r.ca=some b->r'.ca≠some b
 fresh:∀ l,S.n<=l -> ρ l=none
 own:∀ l r b,ρ l=some r->r.ca=some b->b<w.heap.size/\¬ ro b/\(w0.heap.size<=b\/∃ r0,S0.pl l=some r0/\r0.ca=some b)/\¬ S0.jK b
 eN:∀ b,ro b->(b<w0.heap.size->S0.rd b)/\¬ S0.own b
 dC:∀ l r,S0.pl l=some r->(r.dC||S0.fx)=true -> ρ l=some r
 jL:∀ d x,ak B.t d=some x->ak S.t d=none
 jM:∀ l e,ak B.e l=some e->ak S.e l=none
 fm:∀ d v,S0.fm d=some v->a.tmps[d]? = some v/\(ak B.t d).isSome=true
def aP(w0:World)(Φ : Pm->Prop)(N:Nat)(B:Bs)(S:Sx)(a:Act)(w:World):Prop:=∃ S0,Φ S0/\∃ ρ ro,bh w0 S0 N B S a w ρ ro
section
variable{w w' w0:World}{ρ ρ':Nat->Option Rl}{base:Nat}{ro ro':Nat->Prop}{S0:Pm}{N:Nat}{B:Bs}{S:Sx}{a:Act}
theorem bh.get(H:bh w0 S0 N B S a w ρ ro)(x):ah w ρ w0.heap.size ro (bT B S x) (a.eval x):=by
 cases x with
 | tmp d =>
  show ah w ρ w0.heap.size ro (n9 B S d) _
  unfold n9
  cases h:dH B S d with
  | none=>exact .un _
  | some y =>
   obtain⟨u,h1,h2⟩:=H.tm d y h;rw [VQ h1];exact h2
 | const v=>exact WV v
 | func f=>exact .fn f [] [] rfl fun j x v h=>by simp at h
 | global g=>exact .un _
theorem ah.bound(h:ah w ρ base ro x v):ah w ρ base (fun b=>ro b/\b<w.heap.size) x v:=by
 induction h with
 | un=>exact .un _
 | fJ=>exact .fJ _
 | int=>exact .int _ _
 | lit=>exact .lit _ _
 | bool=>exact .bool _
 | aG=>exact .aG _
 | str=>exact .str _
 | nil=>exact .nil
 | sl fr t l A c css hl hc hr bB cK h ih=>exact .sl fr t l A c css hl hc hr (fun a ha hn=>⟨bB a ha hn,Rd.bound hr hn a ha⟩) cK ih
 | wide fr t l n A c hn h ih=>exact .wide fr t l n A c hn ih
 | bg cells off b o cs bB aj hl hc h ih=>exact .bg cells off b o cs ⟨bB,aj⟩ aj hl hc ih
 | ptr loc off b h=>exact .ptr _ _ _ h
 | fw loc off n b h=>exact .fw _ _ _ _ h
 | own loc A n c h=>exact .own _ _ _ _ h
 | cY t loc k off A n c b h hA h0 hn=>exact .cY _ _ _ _ _ _ _ _ h hA h0 hn
 | cE t loc a b A n c h bm=>exact .cE _ _ _ _ _ _ _ h bm
 | mp l b h=>exact .mp _ _ h
 | bq l s h=>exact .bq _ _ h
 | it l l2 b h=>exact .it _ _ _ h
 | agg l vs hl h ih=>exact .agg _ _ hl ih
 | aU l vs hl h ih=>exact .aU _ _ hl ih
 | fn f dw vs hl h ih=>exact .fn _ _ _ hl ih
theorem lU.rQ{fr ag:Bool}{c:Kc}{m:List Kx->Option t.el}{es:Array MapEntry}(h:lU w ρ base ro fr ag c t m es)(er:∀ x v,ah w ρ base ro (eD ag fr t fun _=>x) v->ah w' ρ' kc ro' (eD ag fr t fun _=>x) v):lU w' ρ' kc ro' fr ag c t m es :=
 ⟨fun e he=>by obtain⟨key,x,h1,h2,h3⟩:=h.1 e he; exact⟨key,x,h1,h2,er x _ h3⟩,h.2⟩
theorem c7.mono(h:c7 w ρ base ro l e)(hw:∀ b,ro b->b<w.heap.size->w'.heap[b]? = w.heap[b]?)(bC:∀ l r b,ρ l=some r->r.ca=some b->w'.heap[b]? = w.heap[b]?)(hρ:Ext ρ ρ')(bB:∀ b,ro b->ro' b):c7 w' ρ' base ro' l e:=by
 cases e with
 | box T cells =>
  obtain⟨b,cs,h1,h4,h5⟩:=h;exact⟨b,cs,hρ _ _ h1,(bC _ _ b h1 rfl).trans h4,h5.mono hw hρ (az _) bB⟩
 | row fr t T m =>
  obtain⟨A,c,css,h1,h2,h3,h5⟩:=h;refine⟨A,c,css,hρ _ _ h1,h2.jA fun a ha=>bC _ _ a.block h1 (by simp [Rl.ca,ha]),h3,fun k cs j x v k1 k2 k3=>(h5 k cs j x v k1 k2 k3).mono hw hρ (az _) bB⟩
 | map fr ag c t T m =>
  obtain⟨b,es,clock,h1,h2,h3,h4⟩:=h;exact⟨b,es,clock,hρ _ _ h1,(bC _ _ b h1 rfl).trans h2,h3,h4.rQ fun x v hx=>hx.mono hw hρ (az _) bB⟩
 | iter ml c seen left =>
  obtain⟨b,b2,es,clock,since,stamps,c0,h1,h2,h3,h4,h5⟩:=h;exact⟨b,b2,es,clock,since,stamps,c0,hρ _ _ h1,hρ _ _ h2,(bC _ _ b h2 rfl).trans h3,(bC _ _ b2 h1 rfl).trans h4,h5⟩
 | bq ml c key =>
  obtain⟨b,es,clock,s,e,h1,h2,h3,h4⟩:=h;exact⟨b,es,clock,s,e,hρ _ _ h1,hρ _ _ h2,(bC _ _ b h2 rfl).trans h3,h4⟩
 | fh k=>exact hρ _ _ h
 | dead=>obtain⟨r,h⟩:=h; exact⟨r,hρ _ _ h⟩
theorem c7.none(h:c7 w ρ base ro l e):∃ r,ρ l=some r:=by
 cases e with
 | box T cells=>obtain⟨b,cs,h1,_⟩:=h; exact⟨_,h1⟩
 | row fr t T m=>obtain⟨A,c,css,h1,_⟩:=h; exact⟨_,h1⟩
 | map fr ag c t T m=>obtain⟨b,es,clock,h1,_⟩:=h; exact⟨_,h1⟩
 | iter ml c seen left=>obtain⟨b,b2,es,clock,since,stamps,c0,h1,_⟩:=h; exact⟨_,h1⟩
 | bq ml c key=>obtain⟨b,es,clock,s,e,h1,_⟩:=h; exact⟨_,h1⟩
 | fh k=>exact⟨_,h⟩
 | dead=>exact h
theorem bh.calm(H:bh w0 S0 N B S a w ρ ro)(hb:cU w w'):bh w0 S0 N B S a w' ρ fun b=>(ro b\/w.heap.size<=b)/\b<w'.heap.size:=by
 have hw:∀ b,ro b->b<w.heap.size->w'.heap[b]? = w.heap[b]? := fun b _ h=>hb.block b h;have bB:∀ b,ro b->(ro b\/w.heap.size<=b)/\b<w'.heap.size:=fun b h=>⟨.inl h,iP (H.gn b h) hb.size⟩
 have bC:∀ l r b,ρ l=some r->r.ca=some b->w'.heap[b]? = w.heap[b]? /\ ¬ ((ro b\/w.heap.size<=b)/\b<w'.heap.size):=by
  intro l r b h1 h2;have h3:=H.own l r b h1 h2;refine⟨hb.block b h3.1,?_⟩
  rintro⟨h4|h4,_⟩
  . exact h3.2.1 h4
  . omega
 refine⟨H.from_.andThen hb,H.size,H.defers,fun b h=>h.2,fun d x h => ?_,fun l e h=>(H.en l e h).mono hw (fun l r b h1 h2=>(bC l r b h1 h2).1) (Ext.refl _) bB,H.apart,H.fresh,fun l r b h1 h2 => ?_,fun b h=>⟨fun aj=>(H.eN b (h.1.resolve_right fun h=>by have:=H.from_.size; omega)).1 aj,fun ho=>h.1.elim (fun h=>(H.eN b h).2 ho) fun h=>by have:=S0.oa _ _ H.from_.inv (S0.yc b ho); omega⟩,H.dC,H.jL,H.jM,H.fm⟩
 . obtain⟨u,h1,h2⟩:=H.tm d x h;exact⟨u,h1,h2.mono hw (Ext.refl _) (az _) bB⟩
 . have h3:=H.own l r b h1 h2;exact⟨iP h3.1 hb.size,(bC l r b h1 h2).2,h3.2.2⟩
theorem ah.calm(h:ah w' ρ base (fun b=>ro b\/w.heap.size<=b) x v):ah w' ρ base (fun b=>(ro b\/w.heap.size<=b)/\b<w'.heap.size) x v:=h.bound
def bP(B:Bs)(S:Sx)(N d:Nat)(x:AV):Option Sx :=
 if (ak B.t d).isSome||decide (N<=d) then none else some ⟨(d,x)::S.t,S.e,S.n⟩
theorem cu{α:Type}(k)(v)(l:List (Nat × α))(d):ak ((k,v)::l) d=if k=d then some v else ak l d:=by
 show (if k==d then some v else ak l d)=_
 by_cases h:k=d
 . simp [h]
 . simp [h]
theorem bh.put(H:bh w0 S0 N B S a w ρ ro){S':Sx}(hp:bP B S N d x=some S')(hv:ah w ρ w0.heap.size ro x v):bh w0 S0 N B S' (a.put (some d) v) w ρ ro:=by
 unfold bP at hp;split at hp
 . cases hp
 . rename_i hc;simp only [gz,aI,zv,vI,Dz,iF] at hc;cases hp;have aj:d<a.tmps.size:=by rw [H.size]; omega
   refine⟨H.from_,by rw [ah6]; exact H.size,H.defers,H.gn,fun s y h => ?_,H.en,H.apart,H.fresh,H.own,H.eN,H.dC,fun s y h => ?_,H.jM,fun s u h => ?_⟩
   . unfold dH at h;rw [cu] at h;rw [DU aj];by_cases hs:d=s
     . rw [aw hs] at h;rw [aw hs.symm];simp only [bI] at h;subst h;exact⟨v,rfl,hv⟩
     . rw [ar hs] at h;rw [ar (fun e=>hs e.symm)];exact H.tm s y h
   . rw [cu,ar]
     . exact H.jL s y h
     . rintro rfl
       rw [hc.1] at h;cases h
   . obtain⟨h1,h2⟩:=H.fm s u h;rw [DU aj,ar (by rintro rfl; rw [hc.1] at h2; cases h2)];exact⟨h1,h2⟩
/- no slot and no entry names a location -/
def Jg(loc:Nat):List (Nat×AV)->Bool
 | []=>true
 | (_,x)::l => !AV.has loc x&&Jg loc l
def XN(loc:Nat):En->Bool
 | .box _ cs => !AV.lu loc cs
 | _=>true
def Jh(loc:Nat):List (Nat×En)->Bool
 | []=>true
 | (_,e)::l=>XN loc e&&Jh loc l
def quiet(loc:Nat)(B:Bs):Bool:=Jg loc B.t&&Jh loc B.e
def Ji(loc:Nat):List (Nat×AV)->List (Nat×AV)
 | [] => []
 | (d,x)::l=>(d,if AV.has loc x then .un else x)::Ji loc l
def wk(loc:Nat):List AV->List AV
 | [] => []
 | x::l=>(if AV.has loc x then .un else x)::wk loc l
def OZ(loc:Nat):En->En
 | .box T cs => .box T (wk loc cs)
 | e=>e
def Jj(loc:Nat):List (Nat×En)->List (Nat×En)
 | [] => []
 | (k,e)::l=>(k,OZ loc e)::Jj loc l
def kill(loc:Nat)(S:Sx):Sx:=⟨Ji loc S.t,Jj loc S.e,S.n⟩
theorem O0{loc d:Nat}{x:AV}:∀ {l:List (Nat×AV)},Jg loc l=true->ak l d=some x->AV.has loc x=false
 | (k,y)::l,h,hx=>by
  unfold Jg at h;simp only [au,iG] at h;rw [cu] at hx;split at hx
  . cases hx; exact h.1
  . exact O0 h.2 hx
 | [],_,hx=>by cases hx
theorem O1{loc d T:Nat}{cs:List AV}:∀ {l:List (Nat×En)},Jh loc l=true->ak l d=some (.box T cs)->AV.lu loc cs=false
 | (k,e)::l,h,hx=>by
  unfold Jh at h;simp only [au] at h;rw [cu] at hx;split at hx
  . cases hx; simpa [XN] using h.1
  . exact O1 h.2 hx
 | [],_,hx=>by cases hx
theorem EE{loc d:Nat}:∀ (l),ak (Ji loc l) d=(ak l d).map fun x=>if AV.has loc x then .un else x
 | []=>rfl
 | (k,y)::l=>by
  unfold Ji;rw [cu,cu,EE l];split<;>rfl
theorem EF{loc d:Nat}:∀ (l),ak (Jj loc l) d=(ak l d).map (OZ loc)
 | []=>rfl
 | (k,e)::l=>by
  unfold Jj;rw [cu,cu,EF l];split<;>rfl
theorem Jk{loc:Nat}:∀ (l) (j:Nat),(wk loc l)[j]? = l[j]?.map fun x=>if AV.has loc x then .un else x
 | [],j=>by simp [wk]
 | x::l,0=>by simp [wk]
 | x::l,j+1=>by simpa [wk] using Jk l j
theorem XO{loc:Nat}:∀ (l),(wk loc l).length=l.length
 | []=>rfl
 | x::l=>by simp [wk,XO l]
theorem XP:AV.has loc (if AV.has loc x=true then .un else x)=false:=by
 split
 . rfl
 . rename_i h; simpa using h
theorem O2{loc:Nat}:∀ {l:List AV},(∀ (j:Nat) x,l[j]? = some x->AV.has loc x=false)->AV.lu loc l=false
 | [],_=>rfl
 | x::l,h=>by
  unfold AV.lu;rw [h 0 x rfl,O2 fun j y hy=>h (j+1) y zF];rfl
theorem bh.XQ(H:bh w0 S0 N B S a w ρ ro)(loc):bh w0 S0 N B (kill loc S) a w ρ ro:=by
 refine⟨H.from_,H.size,H.defers,H.gn,fun d x h => ?_,fun l e h => ?_,H.apart,H.fresh,H.own,H.eN,H.dC,fun d x h=>by unfold kill; rw [EE,H.jL d x h]; rfl,fun l e h=>by unfold kill; rw [EF,H.jM l e h]; rfl,H.fm⟩
 . unfold dH kill at h;rw [EE] at h
   cases hd:ak S.t d with
   | none =>
    rw [hd] at h;exact H.tm d x (by unfold dH; rw [hd]; exact h)
   | some y =>
    rw [hd] at h;simp only [dv,bI] at h;obtain⟨u,h1,h2⟩:=H.tm d y (by unfold dH; rw [hd]);refine⟨u,h1,?_⟩;rw [<- h];split
    . exact .un _
    . exact h2
 . unfold bc kill at h;rw [EF] at h
   cases hd:ak S.e l with
   | none =>
    rw [hd] at h;exact H.en l e (by unfold bc; rw [hd]; exact h)
   | some y =>
    rw [hd] at h;simp only [dv,bI] at h;have h1:=H.en l y (by unfold bc; rw [hd]);rw [<- h]
    cases y with
    | row fr t T m=>exact h1
    | map fr ag c t T m=>exact h1
    | iter ml c seen left=>exact h1
    | bq ml c key=>exact h1
    | fh k=>exact h1
    | dead=>exact h1
    | box T cs =>
     obtain⟨b,us,k1,k4,k5⟩:=h1;refine⟨b,us,k1,k4,by rw [XO]; exact k5.1,fun j x v hx hv => ?_⟩;rw [Jk] at hx
     cases hj:cs[j]? with
     | none=>rw [hj] at hx; cases hx
     | some z =>
      rw [hj] at hx;simp only [dv,bI] at hx;rw [<- hx];split
      . exact .un _
      . exact k5.2 j z v hj hv
theorem XR(hq:quiet loc B=true):(∀ d x,dH B (kill loc S) d=some x->AV.has loc x=false)/\∀ l T cs,bc B (kill loc S) l=some (.box T cs)->AV.lu loc cs=false:=by
 unfold quiet at hq;simp only [au] at hq;refine⟨fun d x h => ?_,fun l T cs h => ?_⟩
 . unfold dH kill at h;rw [EE] at h
   cases hd:ak S.t d with
   | none=>rw [hd] at h; exact O0 hq.1 h
   | some y =>
    rw [hd] at h;simp only [dv,bI] at h;rw [<- h];exact XP
 . unfold bc kill at h;rw [EF] at h
   cases hd:ak S.e l with
   | none=>rw [hd] at h; exact O1 hq.2 h
   | some y =>
    rw [hd] at h;simp only [dv,bI] at h
    cases y with
    | row fr t T' m=>cases h
    | map fr ag c t T' m=>cases h
    | iter ml c seen left=>cases h
    | bq ml c key=>cases h
    | fh k=>cases h
    | dead=>cases h
    | box T' cs' =>
     cases h;refine O2 fun j x hx => ?_;rw [Jk] at hx
     cases hj:cs'[j]? with
     | none=>rw [hj] at hx; cases hx
     | some z =>
      rw [hj] at hx;simp only [dv,bI] at hx;rw [<- hx];exact XP
/- xP axk of a map is axl as zG map changes -/
def oX(loc:Nat):En->Bool
 | .iter ml _ _ _=>ml==loc
 | .bq ml _ _=>ml==loc
 | _=>false
def rR(loc:Nat):List (Nat×En)->Bool
 | []=>true
 | (_,e)::l => !oX loc e&&rR loc l
def lA(loc:Nat):List (Nat×En)->List (Nat×En)
 | [] => []
 | (k,e)::l=>(k,if oX loc e then .dead else e)::lA loc l
theorem Jl{loc d:Nat}:∀ (l),ak (lA loc l) d=(ak l d).map fun e=>if oX loc e then .dead else e
 | []=>rfl
 | (k,e)::l=>by
  unfold lA;rw [cu,cu,Jl l];split<;>rfl
theorem XS{loc d:Nat}{e:En}:∀ {l:List (Nat×En)},rR loc l=true->ak l d=some e->oX loc e=false
 | (k,e')::l,h,hx=>by
  unfold rR at h;simp only [au,iG] at h;rw [cu] at hx;split at hx
  . cases hx; exact h.1
  . exact XS h.2 hx
 | [],_,hx=>by cases hx
theorem bh.dropped(H:bh w0 S0 N B S a w ρ ro)(hB:rR loc B.e=true):bh w0 S0 N B ⟨S.t,lA loc S.e,S.n⟩ a w ρ ro/\∀ l e,bc B ⟨S.t,lA loc S.e,S.n⟩ l=some e->oX loc e=false:=by
 have hl:∀ l e,bc B ⟨S.t,lA loc S.e,S.n⟩ l=some e->(bc B S l=some e/\oX loc e=false)\/(e = .dead/\∃ e',bc B S l=some e'):=by
  intro l e h;unfold bc at h ⊢;simp only [Jl] at h
  cases hd:ak S.e l with
  | none =>
   rw [hd] at h;exact .inl ⟨h,XS hB h⟩
  | some y =>
   rw [hd] at h;simp only [dv,bI] at h;split at h
   . exact .inr ⟨h.symm,y,rfl⟩
   . subst h;rename_i hr;exact .inl ⟨rfl,by simpa using hr⟩
 refine⟨⟨H.from_,H.size,H.defers,H.gn,H.tm,fun l e h => ?_,H.apart,H.fresh,H.own,H.eN,H.dC,H.jL,fun l e h => ?_,H.fm⟩,fun l e h => ?_⟩
 . rcases hl l e h with ⟨h1,_⟩|⟨rfl,e',h1⟩
   . exact H.en l e h1
   . exact (H.en l e' h1).none
 . show ak (lA loc S.e) l=none
   rw [Jl,H.jM l e h];rfl
 . rcases hl l e h with ⟨_,h2⟩|⟨rfl,_⟩
   . exact h2
   . rfl
theorem O3(ag fr)(t)(x)(loc):AV.has loc (eD ag fr t x)=false:=by
 unfold eD;have h:=vZ fr t x loc
 cases ag with
 | true=>exact h
 | false =>
  simp only [dS,dB]
  cases hc:aO fr t x with
  | nil=>rfl
  | cons c l =>
   rw [hc] at h
   cases l with
   | nil=>simpa [AV.lu] using h
   | cons c2 l=>rfl
def fe(ρ:Nat->Option Rl)(loc:Nat)(r:Rl):Nat->Option Rl:=fun l=>if l=loc then some r else ρ l
theorem bh.oY(H:bh w0 S0 N B S a w ρ ro){r:Rl}(hf:qy S0 w0 w')(hle:w.heap.size<=w'.heap.size)(gi:∀ b,b<w.heap.size->(∀ r',ρ loc=some r'->r'.ca≠some b)->w'.heap[b]? = w.heap[b]?)(EG:∀ b,r.ca=some b->(∃ r',ρ loc=some r'/\r'.ca=some b)\/w.heap.size<=b/\b<w'.heap.size)(hB:ak B.e loc=none)(hn:S.n<=n)(ng:loc<n)(Jm:Ext ρ (fe ρ loc r)\/(∀ d x,dH B S d=some x->AV.has loc x=false)/\(∀ l T cs,bc B S l=some (.box T cs)->AV.lu loc cs=false)/\∀ r',ρ loc=some r'->(r'.dC||S0.fx)=false)(EH:(∀ b,ρ loc≠some (.mp b))\/∀ l e,bc B S l=some e->oX loc e=false)(he:c7 w' (fe ρ loc r) w0.heap.size ro loc e):bh w0 S0 N B ⟨S.t,(loc,e)::S.e,n⟩ a w' (fe ρ loc r) ro:=by
 have hw:∀ b,ro b->b<w.heap.size->w'.heap[b]? = w.heap[b]? := fun b hb aj=>gi b aj fun r' h1 h2=>(H.own loc r' b h1 h2).2.1 hb;have hold:∀ l,l≠loc->fe ρ loc r l = ρ l:=fun l hl=>by unfold fe; rw [ar hl]
 have er:∀ x v,ah w ρ w0.heap.size ro x v->(AV.has loc x=false\/Ext ρ (fe ρ loc r))->(∀ r',ρ loc=some r'->r'.dC=false)\/Ext ρ (fe ρ loc r)->ah w' (fe ρ loc r) w0.heap.size ro x v:=by
  intro x v h h1 h2;rcases h1 with h1|h1
  . rcases h2 with h2|h2
    . refine (h.move (ρ':=fe ρ loc r) h1 fun l r' hl hc => ?_).mono hw (Ext.refl _) (az _) fun _ h=>h;by_cases nh:l=loc
      . subst nh;rcases hc with hc|hc
        . exact absurd rfl hc
        . rw [h2 _ hl] at hc; cases hc
      . rw [hold l nh]; exact hl
    . exact h.mono hw h2 (az _) fun _ h=>h
  . exact h.mono hw h1 (az _) fun _ h=>h
 have uq:(∀ r',ρ loc=some r'->r'.dC=false)\/Ext ρ (fe ρ loc r):=Jm.elim .inr fun h => .inl fun r' q=>by have:=h.2.2 r' q; simp only [jZ] at this; exact this.1
 have Jn:∀ l r' b,ρ l=some r'->r'.ca=some b->l≠loc->w'.heap[b]? = w.heap[b]? := fun l r' b h1 h2 aT=>gi b (H.own l r' b h1 h2).1 fun r2 h3 h4=>H.apart l loc r' r2 b aT h1 h3 h2 h4;refine⟨hf,H.size,H.defers,fun b hb=>iP (H.gn b hb) hle,fun d x h => ?_,fun l e' h => ?_,fun l l' r1 r2 b aT h1 h2 h3 h4 => ?_,fun l hl => ?_,fun l r1 b h1 h2 => ?_,H.eN,fun l r1 h1 h2 => ?_,H.jL,fun l e' h=>by rw [cu,ar (by rintro rfl; rw [hB] at h; cases h)]; exact H.jM l e' h,H.fm⟩
 . obtain⟨u,h1,h2⟩:=H.tm d x h;exact⟨u,h1,er x u h2 (Jm.elim .inr fun hm => .inl (hm.1 d x h)) uq⟩
 . unfold bc at h;rw [cu] at h;by_cases hl:loc=l
   . rw [aw hl] at h;simp only [bI] at h;subst h; subst hl;exact he
   . rw [ar hl] at h;have h0:bc B S l=some e':=h;have h1:=H.en l e' h0
     cases e' with
     | box T cs =>
      obtain⟨b,us,k1,k4,k5⟩:=h1;refine⟨b,us,by rw [hold l (fun e=>hl e.symm)]; exact k1,?_,k5.1,fun j x v hx hv=>er x v (k5.2 j x v hx hv) (Jm.elim .inr fun hm => .inl (mv (hm.2.1 l T cs h0) hx)) uq⟩;rw [gi b (H.own l _ b k1 rfl).1 fun r' h3 h4=>H.apart l loc _ r' b (fun e=>hl e.symm) k1 h3 rfl h4];exact k4
     | row fr t T m =>
      obtain⟨A,c,css,k1,k2,k3,k5⟩:=h1;refine⟨A,c,css,by rw [hold l (fun e=>hl e.symm)]; exact k1,k2.jA fun ad ha => ?_,k3,fun k cs j x v q1 q2 q3=>er x v (k5 k cs j x v q1 q2 q3) (.inl (mv (vZ fr t _ loc) q2)) uq⟩;have sR:(Rl.row A (m ()).length c).ca=some ad.block:=by simp [Rl.ca,ha]
      exact gi ad.block (H.own l _ _ k1 sR).1 fun r' h3 h4=>H.apart l loc _ r' _ (fun e=>hl e.symm) k1 h3 sR h4
     | map fr ag c t T m =>
      obtain⟨b,es,clock,k1,k2,k3,k4⟩:=h1;refine⟨b,es,clock,by rw [hold l (fun e=>hl e.symm)]; exact k1,(Jn l _ b k1 rfl (fun e=>hl e.symm)).trans k2,k3,k4.rQ fun x v hx=>er _ v hx (.inl (O3 _ _ _ _ _)) uq⟩
     | iter ml c seen left =>
      obtain⟨b,b2,es,clock,since,stamps,c0,k1,k2,k3,k4,k5⟩:=h1;have lX:ml≠loc:=by
       exact XT
      exact⟨b,b2,es,clock,since,stamps,c0,by rw [hold l (fun e=>hl e.symm)]; exact k1,by rw [hold ml lX]; exact k2,(Jn ml _ b k2 rfl lX).trans k3,(Jn l _ b2 k1 rfl (fun e=>hl e.symm)).trans k4,k5⟩
     | bq ml c key =>
      obtain⟨b,es,clock,s,e,k1,k2,k3,k4⟩:=h1;have lX:ml≠loc:=by
       exact XT
      exact⟨b,es,clock,s,e,by rw [hold l (fun e=>hl e.symm)]; exact k1,by rw [hold ml lX]; exact k2,(Jn ml _ b k2 rfl lX).trans k3,k4⟩
     | fh k=>exact (hold l (fun e=>hl e.symm)).trans h1
     | dead=>obtain⟨r1,k1⟩:=h1; exact⟨r1,by rw [hold l (fun e=>hl e.symm)]; exact k1⟩
 . have O4:∀ l r1 b,fe ρ loc r l=some r1->r1.ca=some b->(l=loc/\r1=r)\/(l≠loc /\ ρ l=some r1):=by
    intro l r1 b h1 _;by_cases nh:l=loc
    . subst nh;unfold fe at h1;rw [aw rfl] at h1;injection h1 with h1;exact .inl ⟨rfl,h1.symm⟩
    . rw [hold l nh] at h1;exact .inr ⟨nh,h1⟩
   rcases O4 l r1 b h1 h3 with ⟨rfl,rfl⟩|⟨k1,k2⟩
   . rcases O4 l' r2 b h2 h4 with ⟨rfl,rfl⟩|⟨k3,k4⟩
     . exact aT rfl
     . rcases EG b h3 with ⟨r',q1,q2⟩|q
       . exact H.apart l l' r' r2 b aT q1 k4 q2 h4
       . have:=(H.own l' r2 b k4 h4).1; omega
   . rcases O4 l' r2 b h2 h4 with ⟨rfl,rfl⟩|⟨k3,k4⟩
     . rcases EG b h4 with ⟨r',q1,q2⟩|q
       . exact H.apart l l' r1 r' b aT k2 q1 h3 q2
       . have:=(H.own l r1 b k2 h3).1; omega
     . exact H.apart l l' r1 r2 b aT k2 k4 h3 h4
 . rw [hold l (by simp only at hl; omega)];exact H.fresh l (by simp only at hl; omega)
 . by_cases nh:l=loc
   . subst nh;unfold fe at h1;rw [aw rfl] at h1;injection h1 with h1;subst h1;rcases EG b h2 with ⟨r',q1,q2⟩|q
     . have h5:=H.own l r' b q1 q2;exact⟨iP h5.1 hle,h5.2⟩
     . refine⟨q.2,fun hb => ?_,.inl (e8 H.from_.size q.1),fun hf=>by have:=S0.oa _ _ H.from_.inv hf; omega⟩;have:=H.gn b hb;omega
   . rw [hold l nh] at h1;have h5:=H.own l r1 b h1 h2;exact⟨iP h5.1 hle,h5.2⟩
 . have h3:=H.dC l r1 h1 h2;rcases Jm with hm|hm
   . exact hm l r1 h3
   . rw [hold l (fun e=>by subst e; rw [hm.2.2 _ h3] at h2; cases h2)];exact h3
end
end Go.Proofs.YtlpikgchnjajmaaGreat
