/-
  What single operations give is as the abstract run says: calls by their contracts; all operations that make no place and store nothing.
-/
import Derived.Test.YtamjbkaclhgffaaGreatSh5
set_option linter.all false
namespace Go.Proofs.YtamjbkaclhgffaaGreat
open Go.RowKit
variable{av x:AV}{ts:Array TypeId}{a ag fr:Bool}{e:En}{F f:FuncId}{cs:List aC}{T d lD loc n sz:Nat}{c y:Operand}{t:Tc}{v:Value}{w w' w0:World}{tb:lE}
section
variable{P:Program}{r:Operand->Value}{d:Option Nat}{ty:TypeId}{pos:String}{aft:Array Edge}{gd:Option (Nat×Bool)}{u v:Value}{w:World}
variable{ρ:Nat->Option Rl}{base:Nat}{ro ra:Nat->Prop}{ge:Nat->Option En}
theorem aj.zg(h:aj w ρ base ro x v)(hx:AV.plain false x=true)(ck:∀ b,ro b->ra b):aj w (fun _=>none) 0 ra x v :=
 (h.plain (ρ':=fun _=>none) hx fun b _ hb=>ck b hb).mono (fun _ _ _=>rfl) (Ext.refl _) (bw _) fun _ h=>h
theorem aaM{l:Unit->List t.el}(he:dz w ρ base ro loc (.row fr t T l))(ck:∀ b,ro b->ra b)(ch:∀ b,b<w.heap.size->ra b):∃ A c,ρ loc=some (.row A (l ()).length c)/\aj w (fun _=>none) 0 ra (.sl false t l) (.slice A (l ()).length c):=by
 obtain⟨A,c,css,hA,bS,hlen,dQ⟩:=he;refine⟨A,c,hA,.sl false t l A c css hlen (bS.cap.1) bS.rd (fun a ha hn=>ch _ (bS.lt ha).2) (fun h=>by cases h) fun k cs j x v h1 h2 h3 => ?_⟩;rw [DW fr,gC] at h2
 cases hj:(bf fr t fun _=>(l ()).getD k t.aa)[j]? with
 | none=>rw [hj] at h2; cases h2
 | some y =>
  rw [hj] at h2;simp only [dG,bU] at h2;subst h2;have h4:=(dQ k cs j y v h1 hj h3).wh;refine h4.zg ?_ ck;exact xD (Gz false t fun _=>(l ()).getD k t.aa) (j:=j) (by rw [DW fr,gC,hj]; rfl)
mutual
theorem aaN(cR:∀ loc e,ge loc=some e->dz w ρ base ro loc e)(ck:∀ b,ro b->ra b):∀ (s:Sg) (x y:AV) (v:Value),coerce ge s x=some y->aj w ρ base ro x v->(AV.plain false x=true\/∀ b,b<w.heap.size->ra b)->aj w (fun _=>none) 0 ra y v:=by
 intro s x y v h hx hp;unfold coerce at h;split at h
 . split at h<;>cases h
   rename_i hk;subst hk;exact hx.zg rfl ck
 . split at h<;>cases h
   rename_i hk;subst hk;rw [hx.nO];exact .int _ _
 . cases h;exact hx.zg rfl ck
 . cases h;rw [hx.re];exact .bool _
 . cases h;exact hx.zg rfl ck
 . split at h<;>cases h
   exact hx.wh.zg rfl ck
 . cases h;rw [hx.xG];exact .sl false _ _ none 0 [] rfl (aN _) (Rd.nil _ _ _ _) (fun _ h=>by cases h) (fun h=>by cases h) (fun k cs j x v h=>by simp at h)
 . split at h
   . cases h;exact (Bx hx).wh.zg rfl ck
   . have h1:=apk h hx;exact h1.1.zg h1.2 ck
 . split at h<;>cases h
   exact hx.wh.zg rfl ck
 . split at h
   . rename_i fr t' T l he;split at h<;>cases h
     obtain⟨A,c,hA,h1⟩:=aaM (cR _ _ he) ck (hp.resolve_left fun h=>by cases h);obtain⟨A',n,c',bW,hv⟩:=hx.uI;rw [hA] at bW;injection bW with bW;injection bW with e1 e2 e3;subst e1; subst e2; subst e3;rw [hv];exact h1
   . cases h
 . split at h
   . rename_i fr t' T l he;split at h
     case isFalse=>cases h
     rename_i ht;obtain⟨rfl,rfl⟩:=ht;cases h;obtain⟨A,c,hA,h1⟩:=aaM (cR _ _ he) ck (hp.resolve_left fun h=>by cases h);obtain⟨A',n,c',bW,bJ,wg,hv⟩:=hx.y9;rw [hA] at bW;injection bW with bW;injection bW with e1 e2 e3;subst e1; subst e2; subst e3;rw [hv];exact Rt h1 bJ wg
   . cases h
 . rename_i l cs
   cases hc:qY ge l cs with
   | none=>rw [hc] at h; cases h
   | some ys =>
    rw [hc] at h;cases h;obtain⟨vs,rfl,hE⟩:=hx.rf;have h1:=xI cR ck l cs ys vs hc hE (hp.imp (fun h=>by simpa only [AV.plain] using h) id);exact .agg _ _ h1.1 h1.2
 . rename_i l cs
   cases hc:qY ge l cs with
   | none=>rw [hc] at h; cases h
   | some ys =>
    rw [hc] at h;cases h;obtain⟨b,o,vs,h1,h2,h3,hE,rfl⟩:=hx.Lv;have h4:=xI cR ck l cs ys vs hc hE (hp.imp (fun h=>by simpa [AV.plain] using h) id);exact .bP _ 0 b o vs (ck _ h1) h2 h4.1 h3 h4.2
 . rename_i l loc;split at h
   . rename_i T cs he
     cases hc:qY ge l cs with
     | none=>rw [hc] at h; cases h
     | some ys =>
      rw [hc] at h;cases h;obtain⟨b,vs,hb,hh,hE⟩:=cR _ _ he;obtain⟨b',bo,rfl⟩:=hx.y8;rw [hb] at bo;injection bo with bo;injection bo with bo;subst bo;have ch:∀ b,b<w.heap.size->ra b:=by
       rcases hp with hp|hp
       . cases hp
       . exact hp
      have af:=(pV.1 hh).1;have h4:=xI cR ck l cs ys vs hc hE (.inr ch);exact .bP _ 0 b 0 vs (ch _ af) af h4.1 (aag hh) h4.2
   . cases h
 . rename_i l f cs
   cases hc:qY ge l cs with
   | none=>rw [hc] at h; cases h
   | some ys =>
    rw [hc] at h;cases h;obtain⟨vs,rfl,hE⟩:=hx.Lt;have h1:=xI cR ck l cs ys vs hc hE (hp.imp (fun h=>by simpa only [AV.plain] using h) id);exact .fn _ _ _ h1.1 h1.2
 . cases h;exact .un _
 . cases h
theorem xI(cR:∀ loc e,ge loc=some e->dz w ρ base ro loc e)(ck:∀ b,ro b->ra b):∀ (ss:List Sg) (xs ys:List AV) (vs:List Value),qY ge ss xs=some ys->bn w ρ base ro xs vs->(AV.eE false xs=true\/∀ b,b<w.heap.size->ra b)->bn w (fun _=>none) 0 ra ys vs:=by
 intro ss xs ys vs h hE hp;unfold qY at h;split at h
 . cases h;rw [hE.none];exact .nil
 . rename_i s ss x xs;split at h
   . rename_i y LG h1 h2;cases h;obtain⟨v,us,rfl,hx,oC⟩:=hE.head;refine .cons (aaN cR ck s x y v h1 hx (hp.imp (fun h => ?_) id)) (xI cR ck ss xs LG us h2 oC (hp.imp (fun h => ?_) id))
     . simp only [AV.eE,aD] at h;exact h.1
     . simp only [AV.eE,aD] at h;exact h.2
   . cases h
 . cases h
end
theorem apo{c:aC}(aS:∀ c∈cs,aE P c)(h:Le cs f=some c):aE P c/\c.f=f:=by
 induction cs with
 | nil=>cases h
 | cons c' cs ih =>
  unfold Le at h;exact aaO
theorem LH{xs:Array Operand}{vs:List Value}(hf:r c = .func (.func F) #[] vs.toArray)(yY:∀ args w,(callFunc F args).run P w = .ok (.enter F args) w) :
 (execOp r ⟨d,.call { callee := .value c,args:=xs,argTypes:=ts },ty,pos,aft,gd⟩).run P w = .ok (.enter F (xs.toList.map r++vs).toArray) w:=by
 unfold execOp;simp only [resolve,hf,Deferred.ofValue,bQ,cq,cg,invoke,yY];congr 2;apply yP;simp
def Rv(P:Program)(r:Operand->Value)(o:Oper)(w:World)(ρ:Nat->Option Rl)(base:Nat)(ro:Nat->Prop)(av:AV):Prop :=
 aow P r o w fun v w'=>aj w' ρ base (fun b=>ro b\/w.heap.size<=b) av v
theorem Rv.of{o:Oper}(h:∃ v,(execOp r o).run P w = .ok (.value v) w/\aj w ρ base ro av v):Rv P r o w ρ base ro av:=by
 obtain⟨v,h1,h2⟩:=h;exact .inl ⟨v,w,h1,dU _ _,h2.mono (fun _ _ _=>rfl) (Ext.refl _) (aN _) fun _ h => .inl h⟩
theorem apq{t:Nat}{s:ByteArray}{x:Operand}(hx:r x = .string s)(ht:P.underlying t=some .string):(execOp r ⟨d,.call { callee := .builtin .len,args := #[x],argTypes := #[t] },ty,pos,aft,gd⟩).run P w = .ok (.value (.int .i64 (s.size:Int))) w:=by
 exact ZJ
theorem apr{a:AV}(cR:∀ loc e,ge loc=some e->dz w ρ base ro loc e)(hs:∀ s,a ≠ .str s)(h:GG ge a=some av)(ha:aj w ρ base ro a u):∃ A n c,u = .slice A n c/\aj w ρ base ro av (.int .i64 (n:Int)):=by
 unfold GG at h;split at h
 . cases h;exact⟨none,0,0,ha.xG,.lit _ _⟩
 . cases h;obtain⟨A,c,css,_,_,_,_,_,_,rfl⟩:=ha.rh;exact⟨A,_,c,rfl,.int _ _⟩
 . cases h;obtain⟨A,c,_,_,rfl⟩:=ha.GP;exact⟨A,_,c,rfl,.int _ _⟩
 . split at h
   . rename_i loc fr t T l he;cases h;obtain⟨A,c,css,hA,_,_,_⟩:=cR _ _ he;obtain⟨A',n,c',bW,rfl⟩:=ha.uI;rw [hA] at bW;injection bW with bW;injection bW with e1 e2 e3;subst e1; subst e2; subst e3;exact⟨A,_,c,rfl,.int _ _⟩
   . cases h
 . cases h;obtain⟨A,n,c,_,_,_,rfl⟩:=ha.y9;exact⟨_,_,_,rfl,.int _ _⟩
 . rename_i s;exact absurd rfl (hs s)
 . cases h
theorem aaP{x:Operand}{k:IntKind}{m n:Int}(hx:r x = .int k m)(hy:r y = .int k n) :
 (execOp r ⟨d,.call { callee := .builtin .min,args := #[x,y],argTypes:=ts },ty,pos,aft,gd⟩).run P w = .ok (.value (.int k (cond (decide (n<m)) n m))) w/\(execOp r ⟨d,.call { callee := .builtin .max,args := #[x,y],argTypes:=ts },ty,pos,aft,gd⟩).run P w = .ok (.value (.int k (cond (decide (m<n)) n m))) w:=by
 have e:∀ (p:Prop) [Decidable p] (a b:Int),(if p then a else b)=cond (decide p) a b:=fun p _ a b=>by by_cases h:p<;>simp [h]
 constructor
 . unfold execOp;simp only [resolve,invoke,builtin,Kj,jj,uj,hx,hy,bQ,run_min_int2,cg,cq,e]
 . unfold execOp;simp only [resolve,invoke,builtin,Kj,jj,uj,hx,hy,bQ,run_max_int2,cg,cq,e]
theorem aaQ{fr:Bool}{t:Tc}{l:Unit->List t.el}{b o:Nat}{css:List (List Value)}(hr:Rd w w.heap.size t.size (some ⟨b,o,none⟩) css)(hlen:css.length=(l ()).length)(dQ:∀ (k:Nat) (cs:List Value) (j:Nat) (x:AV) (v:Value),css[k]? = some cs->(bf fr t fun _=>(l ()).getD k t.aa)[j]? = some x->cs[j]? = some v->aj w ρ base ro x v):∀ n,n<=css.length ->
 (css.take n).flatten.length=n*t.size/\bn w ρ base ro (DT fr t l n) (css.take n).flatten/\∀ j u,(css.take n).flatten[j]? = some u->w.cell? ⟨b,o+j,none⟩=some u
 | 0,_=>⟨by simp,.nil,fun j u hj=>by simp at hj⟩
 | n+1,hn=>by
  obtain⟨h1,h2,h3⟩:=aaQ hr hlen dQ n oo;have hk:n<css.length:=oo
  have hg:=bq hk;obtain⟨b',o',hA,_,hl,aS⟩:=hr n _ hg;injection hA with hA;injection hA with e1 e2;subst e1; subst e2;have hE:=wa hl fun j y v k1 k2=>dQ n _ j y v hg k1 k2;have e:(css.take (n+1)).flatten=(css.take n).flatten++css[n]:=by
   rw [Dc hk,P2];simp
  rw [e];refine⟨by rw [c9,h1,hl,Dn],?_,fun j u hj => ?_⟩
  . refine⟨by show (DT fr t l n++_).length=_; rw [c9,c9,h2.1,hE.1],fun j x v hx hv => ?_⟩;have hx:(DT fr t l n++bf fr t fun _=>(l ()).getD n t.aa)[j]? = some x:=hx;by_cases hj:j<(css.take n).flatten.length
    . rw [r7 (by rw [h2.1]; exact hj)] at hx;rw [r7 hj] at hv;exact h2.2 j x v hx hv
    . rw [r6 (by rw [h2.1]; omega),h2.1] at hx;rw [r6 oo] at hv;exact hE.2 _ x v hx hv
  . by_cases gI:j<(css.take n).flatten.length
    . rw [r7 gI] at hj;exact h3 j u hj
    . rw [r6 oo] at hj;have:=aS _ u hj;rw [h1] at this gI;rwa [show o+n*t.size+(j - n*t.size)=o+j from oo] at this
theorem aps(aQ:dp P tb){e:Nat}{l:Unit->List t.el}{x:Operand}(hT:fZ tb T=some (.array n e sz a))(h0:¬n=0)(hx:aj w ρ base ro (.sl fr t l) (r x))(hv:n<=(l ()).length) :
 ∃ v,(execOp r ⟨d,.sliceToArrayPointer T x,ty,pos,aft,gd⟩).run P w = .ok (.value v) w/\aj w ρ base ro (.bP (DT fr t l n) 0) v:=by
 obtain⟨i,_,h1,h2⟩:=fD aQ hT;obtain⟨hu,_⟩:=Ru h2 h1;obtain⟨A,c,css,hl,hc,hr,ck,_,dQ,tu⟩:=hx.rh;have hn:n<=css.length:=oo
 obtain⟨b,o,hA,af,_,_⟩:=hr 0 _ (bq (show 0<css.length from oo));subst hA;have bg:css ≠ []:=by intro h; rw [h] at hn; simp at hn; omega
 obtain⟨k1,k2,k3⟩:=aaQ hr hl dQ n hn;refine⟨.pointer (some ⟨b,o,none⟩),?_,.bP _ 0 b o _ (ck _ rfl bg) af k2.1 k3 k2.2⟩;unfold execOp;have LI:¬(l ()).length<n:=oo
 simp only [tu,Instr.arrayAt,underlying,ou,hu,bQ,cg,cq,ax LI]
theorem aaR{g:Operand->AV}{op:Op}{vcs:List VC}(aQ:dp P tb)(aS:∀ c∈cs,aE P c)(cR:∀ loc e,ge loc=some e->dz w ρ base ro loc e)(hg:∀ x∈op.operands,aj w ρ base ro (g x) (r x))(aaS:∀ b,ro b->b<w.heap.size)(iF:base<=w.heap.size)(h:po tb cs ge g op=some (av,vcs))(hv:∀ c∈vcs,c ()):Rv P r ⟨d,op,ty,pos,aft,gd⟩ w ρ base ro av:=by
 unfold po at h;split at h
 . cases h;exact .of ⟨_,ZF rfl,hg _ ju⟩
 . cases h;exact .of ⟨_,ZG rfl,hg _ ju⟩
 . rename_i c a b
   cases hp:Lj (g c) (g a) (g b) with
   | none=>rw [hp] at h; cases h
   | some nP =>
    rw [hp] at h;cases h;exact .of (aoW hp (hg _ ju) (hg _ zh) (hg _ (by simp [Op.operands])))
 . rename_i x;have hx:=hg x ju;have hp:∀ ad,r x = .pointer (some ad)->(execOp r ⟨d,.nilCheck x,ty,pos,aft,gd⟩).run P w = .ok (.value (.pointer (some ad))) w:=by
    intro ad he;unfold execOp;simp only [he,cq]
   split at h
   . rename_i l o he;cases h;rw [he] at hx;obtain⟨b,_,hr⟩:=hx.y8;exact .of ⟨_,hp _ hr,hr▸hx⟩
   . rename_i l o he;cases h;rw [he] at hx;obtain⟨b,o',cs',_,_,_,_,hr⟩:=hx.Lv;exact .of ⟨_,hp _ hr,hr▸hx⟩
   . rename_i t l k o he;cases h;rw [he] at hx;obtain⟨A,n,c,b,_,_,_,_,hr⟩:=hx.Lu;exact .of ⟨_,hp _ hr,hr▸hx⟩
   . cases h
 . rename_i op T x y _;have hx:=hg x ju;have hy:=hg y zh;generalize g x=a at *
   generalize g y=b at *
   by_cases p9:(∃ cs,a = .agg cs)/\∃ ds,b = .agg ds
   . obtain⟨⟨cs,rfl⟩,ds,rfl⟩:=p9;obtain⟨v,h1,h2⟩:=aaw (d:=d) (ty:=ty) (pos:=pos) (aft:=aft) (gd:=gd) aQ h hx hy;exact .of ⟨v,h1 w,h2⟩
   . have h':Bm (fZ tb T) op a b=some (av,vcs):=by
      unfold GI at h;split at h
      . exact (p9 ⟨⟨_,rfl⟩,_,rfl⟩).elim
      . exact h
     exact .of (Rb aQ h' hv hx hy)
 . rename_i t x;have hx:=hg x ju;split at h
   . rename_i b he;cases h;rw [he] at hx;exact .of ⟨_,KU hx.re rfl,.aV _⟩
   . rename_i b he;cases h;rw [he] at hx;exact .of ⟨_,KU hx.qb rfl,.bool _⟩
   . cases h
 . rename_i t x;have hx:=hg x ju;have hn:∀ k n,r x = .int k n->(execOp r ⟨d,.unOp .neg t x,ty,pos,aft,gd⟩).run P w = .ok (.value (.int k (k.wrap (-n)))) w:=by
    intro k n he;exact aaT
   split at h
   . rename_i k n he;cases h;rw [he] at hx;exact .of ⟨_,hn _ _ hx.nO,.lit _ _⟩
   . rename_i n he;cases h;rw [he] at hx;refine .of ⟨_,hn _ _ hx.jU,?_⟩;rw [Bt (hv _ (.head _))];exact .int _ fun _ => -n ()
   . rename_i k n _ he;cases h;rw [he] at hx;exact .of ⟨_,hn _ _ hx.jU,.int _ fun _=>k.wrap (-n ())⟩
   . cases h
 . rename_i s t x;have hx:=hg x ju;split at h
   . rename_i k0 k kk n e1 e2 he;cases h;rw [he] at hx;obtain⟨i1,_,h1,h2⟩:=fD aQ e1;obtain⟨i2,_,h3,h4⟩:=fD aQ e2;obtain⟨LJ,gF,_⟩:=oB h2;exact .of ⟨_,DO hx.nO gF (DU h4 h3) rfl rfl,.lit _ _⟩
   . rename_i k0 k kk n e1 e2 he;rw [he] at hx;obtain⟨i1,_,h1,h2⟩:=fD aQ e1;obtain⟨i2,_,h3,h4⟩:=fD aQ e2;obtain⟨LJ,gF,_⟩:=oB h2;split at h
     . rename_i hk;subst hk;cases h;exact .of ⟨_,DO hx.jU gF (DU h4 h3) (Bt (hv _ (.head _))) rfl,.int _ _⟩
     . cases h;exact .of ⟨_,DO hx.jU gF (DU h4 h3) rfl rfl,.int _ fun _=>k.wrap (n ())⟩
   . cases h
 . rename_i T x f;have hx:=hg x ju
   cases hT:al tb T with
   | none=>rw [hT] at h; cases h
   | some i =>
    rw [hT] at h;simp only [FY] at h;split at h
    . rename_i off sz a hf;split at h
      . cases h
      . rename_i bc
        cases ha:Bn (g x) off with
        | none=>rw [ha] at h; cases h
        | some nP =>
         rw [ha] at h;cases h;obtain⟨b,o,h1,h2⟩:=Re ha hx;exact .of ⟨_,ZH h1 (aak (aQ T i hT) hf (by simpa using bc)) rfl,h2⟩
    . cases h
 . rename_i T x f;have hx:=hg x ju
   cases hT:al tb T with
   | none=>rw [hT] at h; cases h
   | some i =>
    rw [hT] at h;simp only [FY] at h;split at h
    . rename_i off sz a cells hf hc
      cases hcut:cut a off sz cells with
      | none=>rw [hcut] at h; cases h
      | some nP =>
       rw [hcut] at h;cases h;rw [hc] at hx;exact .of (ao1 (aQ T i hT) hf hcut hx)
    . cases h
 . rename_i T x y;have hx:=hg x ju;have hy:=hg y zh;split at h
   . rename_i e sz b fr t l kk k e1 e2 e3;split at h
     . rename_i hs;cases h;rw [e2] at hx;obtain⟨i,_,h1,h2⟩:=fD aQ e1;obtain⟨v,k1,k2⟩:=Rn (d:=d) (ty:=ty) (pos:=pos) (aft:=aft) (gd:=gd) h2 h1 (eq_of_beq hs) hx (kb e3 hy) (hv _ (.head _));exact .of ⟨v,k1 w,k2⟩
     . cases h
   . rename_i e sz b fr t l n kk k e1 e2 e3;split at h
     . rename_i hs;cases h;rw [e2] at hx;obtain⟨i,_,h1,h2⟩:=fD aQ e1;obtain⟨v,k1,k2⟩:=aaB (d:=d) (ty:=ty) (pos:=pos) (aft:=aft) (gd:=gd) h2 h1 (eq_of_beq hs) hx (kb e3 hy) (hv _ (.head _));exact .of ⟨v,k1 w,k2⟩
     . cases h
   . rename_i e sz b kk k e1 e3 _ _;obtain⟨i,_,h1,h2⟩:=fD aQ e1;obtain⟨v,k1,k2⟩:=aao (d:=d) (ty:=ty) (pos:=pos) (aft:=aft) (gd:=gd) cR h2 h1 h hx (kb e3 hy) hv;exact .of ⟨v,k1 w,k2⟩
   . obtain⟨v,k1,k2⟩:=aaD (d:=d) (ty:=ty) (pos:=pos) (aft:=aft) (gd:=gd) aQ h hx hy;exact .of ⟨v,k1 w,k2⟩
 . rename_i T x i;exact .of (apn aQ h hv (hg x ju) (hg i zh))
 . rename_i T x;have hx:=hg x ju;split at h
   . rename_i n e sz a fr t l e1 e2;split at h
     . cases h
     . rename_i h0;cases h;rw [e2] at hx;exact .of (aps aQ e1 h0 hx (hv _ (.head _)))
   . cases h
 . rename_i T x i ok;have hx:=hg x ju;have hi:=hg i zh;split at h
   . rename_i kt et c t ag loc e1 e2;split at h
     . rename_i fr kO c' t' T' m k e3 e4;split at h
       . rename_i hc;obtain⟨rfl,rfl,rfl⟩:=hc;cases h;rw [e2] at hx;obtain⟨ti,_,h1,h2⟩:=fD aQ e1;exact .of (ao8 h2 h1 (cR _ _ e3) hx (Ro e4 hi))
       . cases h
     . cases h
   . cases h
 . rename_i x;have hx:=hg x ju;split at h
   . rename_i ml l2 e1;split at h
     . rename_i fr ag c t T m GK c' seen left e2 e3;split at h
       . rename_i hc;obtain⟨rfl,rfl⟩:=hc;cases h;rw [e1] at hx;exact .of (ao9 (cR _ _ e2) (cR _ _ e3) hx (hv _ (.head _)))
       . cases h
     . cases h
   . cases h
 . rename_i T x hi;have hx:=hg x ju;have sC:=hg hi zh;split at h
   . rename_i e sz b fr t l e1 e2;split at h
     . rename_i hs;split at h
       . rename_i kk bb eb;cases h;rw [e2] at hx;obtain⟨i,hT,h1,h2⟩:=fD aQ e1;obtain⟨A,c,css,_,_,_,_,_,_,qe⟩:=hx.rh;rw [qe] at hx;exact .of (aaC aQ hT h1 (eq_of_beq hs) qe hx (kb eb sC) (hv _ (.head _)))
       . cases h
     . cases h
   . rename_i e sz b fr t l n e1 e2;split at h
     . rename_i hs;split at h
       . rename_i kk bb eb;cases h;rw [e2] at hx;obtain⟨i,hT,h1,h2⟩:=fD aQ e1;obtain⟨A,c,_,hl,qe⟩:=hx.GP;exact .of (aaC aQ hT h1 (eq_of_beq hs) qe hl (kb eb sC) (hv _ (.head _)))
       . cases h
     . cases h
   . rename_i e sz b loc e1 e2;split at h
     . rename_i fr t T' l he;split at h
       . rename_i hs;split at h
         . rename_i kk bb eb;cases h;rw [e2] at hx;obtain⟨i,hT,h1,h2⟩:=fD aQ e1;have hvv:=hv _ (.head _);exact .of (aaA (g:=g) (a:=fun _=>0) (b:=bb) aQ cR hT h1 (eq_of_beq hs) he hx rfl (by simp only [qZ,eb,dG]) (fun y hy=>by cases hy) (fun y hy=>by cases hy; exact sC) ⟨yO _,hvv.1,hvv.2⟩)
         . cases h
       . cases h
     . cases h
   . cases h
 . rename_i T x lo hi ke;have hx:=hg x ju;split at h
   . rename_i e sz b fr t l e1 e2;split at h
     . rename_i hs;split at h
       . rename_i fa fb ha hb;cases h;rw [e2] at hx;obtain⟨i,hT,h1,h2⟩:=fD aQ e1;exact .of (apc aQ hT h1 (eq_of_beq hs) hx ha hb (fun y hy=>hg y (by subst hy; simp [Op.operands])) (fun y hy=>hg y (by subst hy; simp [Op.operands])) (hv _ (.head _)))
       . cases h
     . cases h
   . rename_i e sz b loc e1 e2;split at h
     . rename_i fr t T' l he;split at h
       . rename_i hs;split at h
         . rename_i fa fb ha hb;cases h;rw [e2] at hx;obtain⟨i,hT,h1,h2⟩:=fD aQ e1;exact .of (aaA aQ cR hT h1 (eq_of_beq hs) he hx ha hb (fun y hy=>hg y (by subst hy; simp [Op.operands])) (fun y hy=>hg y (by subst hy; simp [Op.operands])) (hv _ (.head _)))
         . cases h
       . cases h
     . cases h
   . rename_i n e dZ ag loc off e1 e2;split at h
     . rename_i hc;simp only [aD,cC,jz] at hc;obtain⟨⟨rfl,rfl⟩,rfl⟩:=hc;cases h;rw [e2] at hx;obtain⟨i,hT,h1,_⟩:=fD aQ e1;exact .of (apd aQ hT h1 hx)
     . cases h
   . cases h
 . rename_i x i;have hx:=hg x ju;split at h
   . rename_i l he
     cases hl:l[i]? with
     | none=>rw [hl] at h; cases h
     | some nP =>
      rw [hl] at h;cases h;rw [he] at hx;obtain⟨vs,h1,hE⟩:=hx.Lr;obtain⟨v,h2,h3⟩:=hE.get hl;exact .of ⟨v,ZK h1 (by simpa using h2),h3⟩
   . cases h
 . rename_i f first dV
   split at h
   . rename_i hf;cases h;have sr:first = #[]:=by simpa using hf
     subst sr;have hE:bn w ρ base ro (dV.toList.map g) (dV.toList.map r):=zc fun x hx=>hg x (by simpa [Op.operands] using hx);refine .of ⟨.func (.func f) #[] (dV.toList.map r).toArray,?_,.fn _ _ _ hE.1 hE.2⟩;unfold execOp;simp only [Instr.makeFunc,bQ,cq,cg];rw [show dV.map r=(dV.toList.map r).toArray by apply yP; simp,show (#[]:Array Operand).map r = #[] by simp]
   . cases h
 . rename_i T x;have hx:=hg x ju;split at h
   . rename_i i hT
     cases hl:GF ge i.ti.agg i.sz (g x) with
     | none=>rw [hl] at h; cases h
     | some nP =>
      rw [hl] at h;cases h;obtain⟨ad,v,h1,h2,h3⟩:=aah cR (aQ T i hT) hl hx;exact .of ⟨v,aou h1 h2,h3⟩
   . cases h
 . rename_i T parts;have hp:∀ p∈parts.toList,aj w ρ base ro (g p.2) (r p.2):=fun p hp=>hg _ (by simp only [Op.operands]; simpa using ⟨p.1,by simpa using hp⟩);split at h
   . rename_i i hT;split at h
     . rename_i fs Bv;split at h
       . cases h
       . rename_i hz
         cases hf:v9 (fun k=>(fs[k]?).map fun f=>(f.1,f.2.1)) i.z (parts.toList.map fun p=>(p.1,g p.2)) with
         | none=>rw [hf] at h; cases h
         | some out =>
          rw [hf] at h;cases h;exact .of (aan (aQ T i hT) hp (by simpa using hz) (.inl ⟨fs,Bv,rfl⟩) hf rfl)
     . rename_i n e dZ a Bv;split at h
       . cases h
       . rename_i hz
         cases hf:v9 (fun k=>some (k*dZ,dZ)) i.z (parts.toList.map fun p=>(p.1,g p.2)) with
         | none=>rw [hf] at h; cases h
         | some out =>
          rw [hf] at h;cases h;exact .of (aan (aQ T i hT) hp (by simpa using hz) (.inr ⟨n,e,dZ,a,Bv,rfl⟩) hf rfl)
     . cases h
   . cases h
 . rename_i c;obtain⟨callee,ir,pv⟩:=c;dsimp only at h;split at h
   . split at h
     . rename_i x y e1;have ha:ir = #[x,y]:=by simpa using congrArg List.toArray e1
       subst ha;have hx:=hg x LK;have hy:=hg y (by simp [Op.operands,Call.operands]);split at h
       . rename_i k fa k' fb e2 e3;split at h
         . rename_i hk;subst hk;cases h;exact .of ⟨_,(aaP (kb e2 hx) (kb e3 hy)).1,.int k fun _=>cond (decide (fb ()<fa ())) (fb ()) (fa ())⟩
         . cases h
       . cases h
     . cases h
   . split at h
     . rename_i x y e1;have ha:ir = #[x,y]:=by simpa using congrArg List.toArray e1
       subst ha;have hx:=hg x LK;have hy:=hg y (by simp [Op.operands,Call.operands]);split at h
       . rename_i k fa k' fb e2 e3;split at h
         . rename_i hk;subst hk;cases h;exact .of ⟨_,(aaP (kb e2 hx) (kb e3 hy)).2,.int k fun _=>cond (decide (fa ()<fb ())) (fb ()) (fa ())⟩
         . cases h
       . cases h
     . cases h
   . split at h
     . rename_i x T e1 e2;have ha:ir = #[x]:=by simpa using congrArg List.toArray e1
       have ht:pv = #[T]:=by simpa using congrArg List.toArray e2
       subst ha; subst ht;have hx:=hg x LK;split at h
       . cases h
       . rename_i e sz b y e3 hy
         cases hl:GG ge (g x) with
         | none=>rw [hl] at h; cases h
         | some nP =>
          rw [hl] at h;cases h;obtain⟨i,_,h1,h2⟩:=fD aQ e3;obtain⟨A,n,c,h3,h4⟩:=apr cR (fun s hs=>by first|exact hy s hs|exact hy _ _ _ s rfl hs|simp_all) hl hx;exact .of ⟨_,aov h3 (ZI (Ly h2 h1)).1 rfl,h4⟩
       . rename_i s e3 he;cases h;rw [he] at hx;obtain⟨i,_,h1,h2⟩:=fD aQ e3;exact .of ⟨_,apq hx.y7 (aoT h2 h1),.int _ fun _=>((s ()).size:Int)⟩
       . cases h
     . cases h
   . rename_i fo;split at h
     . rename_i f dV zi;split at h
       . rename_i Q9 apt;split at h
         . rename_i ah wi;split at h
           . rename_i res sD;split at h
             . rename_i pw;cases h;obtain⟨aR,rfl⟩:=apo aS apt;have hx:=hg fo LK;rw [zi] at hx;obtain⟨vs,xH,hE⟩:=hx.Lt;have hA:bn w ρ base ro (ir.toList.map g++dV) (ir.toList.map r++vs):=(zc fun x hx=>hg x (by simp only [Op.operands,Call.operands]; simpa using .inr (by simpa using hx))).append hE;have ja:=hv _ (.head _)
               cases df:AV.plain true res.av with
               | true =>
                have h1:=aR.2 ah res sD w (fun b=>b<w.heap.size) _ (fun _ h=>h) (xI cR aaS _ _ _ _ wi hA (.inr fun _ h=>h)) ja;refine .inr ⟨_,_,LH xH aR.1,h1.mono fun e w' ⟨v,h2,h3,h4⟩=>⟨v,h2,h3,?_⟩⟩;exact (h4.plain (ρ' := ρ) (ro':=fun b=>ro b\/w.heap.size<=b) df fun b h5 _ => .inr (h5 rfl)).mono (fun _ _ _=>rfl) (Ext.refl _) iF fun _ h=>h
               | false =>
                rw [df,uo,aD] at pw;have h1:=aR.2 ah res sD w ro _ aaS (xI cR (fun _ h=>h) _ _ _ _ wi hA (.inl pw.1)) ja;refine .inr ⟨_,_,LH xH aR.1,h1.mono fun e w' ⟨v,h2,h3,h4⟩=>⟨v,h2,h3,?_⟩⟩;exact (h4.plain (ρ' := ρ) (ro':=fun b=>ro b\/w.heap.size<=b) pw.2 fun b _ h5=>h5).mono (fun _ _ _=>rfl) (Ext.refl _) iF fun _ h=>h
             . cases h
           . cases h
         . cases h
       . cases h
     . cases h
   . cases h
 . cases h
end
structure Sx where
 t:List (Nat×AV)
 e:List (Nat×En)
 n:Nat
structure Bs where
 t:List (Nat×AV)
 e:List (Nat×En)
def dR(B:Bs)(S:Sx)(d:Nat):Option AV:=match al S.t d with
 | some x=>some x
 | none=>al B.t d
def bF(B:Bs)(S:Sx)(l:Nat):Option En:=match al S.e l with
 | some x=>some x
 | none=>al B.e l
def px(B:Bs)(S:Sx)(d:Nat):AV:=match dR B S d with
 | some x=>x
 | none => .un
def cm(B:Bs)(S:Sx):Operand->AV
 | .tmp d=>px B S d
 | .const v=>Q4 v
 | .func f => .fn f []
 | .global _ => .un
structure Pm where
 rd:Nat->Prop
 pl:Nat->Option Rl
 fx:Bool
 kP:Nat->Prop:=fun _=>False
 own:Nat->Prop:=fun _=>False
 inv:World->Prop:=fun _=>True
 ds:List Deferred := []
 fm:Nat->Option Value:=fun _=>none
 ex:Nat->Prop:=fun _=>False
 zj:∀ b,own b->kP b:=by intro _ h; exact h
 py:∀ w b,inv w->kP b->b<w.heap.size:=by intro _ _ _ h; exact h.elim
 zk:∀ w w':World,inv w->w'.os=w.os->w'.tape=w.tape->w'.output=w.output->w.heap.size<=w'.heap.size->(∀ b,kP b->w'.heap[b]? = w.heap[b]?)->inv w':=by intros; trivial
def Pm.may(S:Pm)(w0:World)(k:Nat):Prop:=(w0.heap.size<=k\/∃ l r,S.pl l=some r/\r.cH=some k)/\¬ S.kP k
structure sE (S:Pm) (w w':World):Prop where
 os:w'.os=w.os
 tape:w'.tape=w.tape
 output:w'.output=w.output
 size:w.heap.size<=w'.heap.size
 block:∀ k,k<w.heap.size->(∀ l r,S.pl l=some r->r.cH≠some k)->¬ S.ex k->w'.heap[k]? = w.heap[k]?
 inv:S.inv w'
structure Rw (pl:Nat->Option Rl) (w w':World):Prop where
 os:w'.os=w.os
 tape:w'.tape=w.tape
 output:w'.output=w.output
 size:w.heap.size<=w'.heap.size
 block:∀ k,k<w.heap.size->(∀ l r,pl l=some r->r.cH≠some k)->w'.heap[k]? = w.heap[k]?
theorem sE.grown{S:Pm}{row:Option Nat}(h:sE S w0 w)(hg:w.grownBy w' row)(hr:∀ k,row=some k->S.may w0 k):sE S w0 w' :=
 ⟨hg.os.trans h.os,hg.tape.trans h.tape,hg.output.trans h.output,cd h.size hg.size,fun k hk hn hx=>(hg.block k (iT hk h.size) fun e=>by
  rcases (hr k e.symm).1 with h1|⟨l,r,h1,h2⟩
  . omega
  . exact hn l r h1 h2).trans (h.block k hk hn hx),S.zk _ _ h.inv hg.os hg.tape hg.output hg.size fun b hb=>hg.block b (S.py _ _ h.inv hb) fun e=>(hr b e.symm).2 hb⟩
theorem apu(h:dL w w'):w.grownBy w' none:=⟨h.os,h.tape,h.output,h.size,fun i hi _=>h.block i hi⟩
theorem sE.andThen{S:Pm}(h:sE S w0 w)(hb:dL w w'):sE S w0 w':=h.grown (apu hb) fun k hk=>by cases hk
theorem sE.alloc{S:Pm}(h:sE S w0 w)(o:Obj):sE S w0 (w.alloc o):=h.grown (World.grownBy_alloc w o none) fun k hk=>by cases hk
theorem Rw.none_(h:Rw (fun _=>none) w w'):dL w w':=⟨h.os,h.tape,h.output,h.size,fun k hk=>h.block k hk fun _ _ h=>by cases h⟩
structure bK (w0:World) (S0:Pm) (N:Nat) (B:Bs) (S:Sx) (a:Act) (w:World) (ρ:Nat->Option Rl) (ro:Nat->Prop):Prop where
 from_:sE S0 w0 w
 size:a.tmps.size=N
 defers:a.defers=S0.ds
 gX:∀ b,ro b->b<w.heap.size
 tm:∀ d x,dR B S d=some x->∃ u,a.tmps[d]? = some u/\aj w ρ w0.heap.size ro x u
 en:∀ l e,bF B S l=some e->dz w ρ w0.heap.size ro l e
 apart:∀ l l' r r' b,l≠l' -> ρ l=some r -> ρ l'=some r'->r.cH=some b->r'.cH≠some b
 fresh:∀ l,S.n<=l -> ρ l=none
 own:∀ l r b,ρ l=some r->r.cH=some b->b<w.heap.size/\¬ ro b/\(w0.heap.size<=b\/∃ r0,S0.pl l=some r0/\r0.cH=some b)/\¬ S0.kP b
 fp:∀ b,ro b->(b<w0.heap.size->S0.rd b)/\¬ S0.own b
 dH:∀ l r,S0.pl l=some r->(r.dH||S0.fx)=true -> ρ l=some r
 kQ:∀ d x,al B.t d=some x->al S.t d=none
 kT:∀ l e,al B.e l=some e->al S.e l=none
 fm:∀ d v,S0.fm d=some v->a.tmps[d]? = some v/\(al B.t d).isSome=true
def bj(w0:World)(Φ : Pm->Prop)(N:Nat)(B:Bs)(S:Sx)(a:Act)(w:World):Prop:=∃ S0,Φ S0/\∃ ρ ro,bK w0 S0 N B S a w ρ ro
section
variable{w w' w0:World}{ρ ρ':Nat->Option Rl}{base:Nat}{ro ro':Nat->Prop}{S0:Pm}{N:Nat}{B:Bs}{S:Sx}{a:Act}
theorem bK.get(H:bK w0 S0 N B S a w ρ ro)(x:Operand):aj w ρ w0.heap.size ro (cm B S x) (a.eval x):=by
 cases x with
 | tmp d =>
  show aj w ρ w0.heap.size ro (px B S d) _
  unfold px
  cases h:dR B S d with
  | none=>exact .un _
  | some y =>
   obtain⟨u,h1,h2⟩:=H.tm d y h;rw [Zd h1];exact h2
 | const v=>exact Z8 v
 | func f=>exact .fn f [] [] rfl fun j x v h=>by simp at h
 | global g=>exact .un _
theorem aj.bound(h:aj w ρ base ro x v):aj w ρ base (fun b=>ro b/\b<w.heap.size) x v:=by
 induction h with
 | un=>exact .un _
 | gv=>exact .gv _
 | int=>exact .int _ _
 | lit=>exact .lit _ _
 | bool=>exact .bool _
 | aV=>exact .aV _
 | str=>exact .str _
 | nil=>exact .nil
 | sl fr t l A c css hl hc hr ck df h ih=>exact .sl fr t l A c css hl hc hr (fun a ha hn=>⟨ck a ha hn,Rd.bound hr hn a ha⟩) df ih
 | wide fr t l n A c hn h ih=>exact .wide fr t l n A c hn ih
 | bP cells off b o cs ck af hl hc h ih=>exact .bP cells off b o cs ⟨ck,af⟩ af hl hc ih
 | ptr loc off b h=>exact .ptr _ _ _ h
 | fX loc off n b h=>exact .fX _ _ _ _ h
 | own loc A n c h=>exact .own _ _ _ _ h
 | dv t loc k off A n c b h hA h0 hn=>exact .dv _ _ _ _ _ _ _ _ h hA h0 hn
 | cW t loc a b A n c h bJ=>exact .cW _ _ _ _ _ _ _ h bJ
 | mp l b h=>exact .mp _ _ h
 | bL l s h=>exact .bL _ _ h
 | it l l2 b h=>exact .it _ _ _ h
 | agg l vs hl h ih=>exact .agg _ _ hl ih
 | bp l vs hl h ih=>exact .bp _ _ hl ih
 | fn f dV vs hl h ih=>exact .fn _ _ _ hl ih
theorem na.tv{c:Kc}{m:List Kx->Option t.el}{es:Array MapEntry}(h:na w ρ base ro fr ag c t m es)(eU:∀ x v,aj w ρ base ro (fh ag fr t fun _=>x) v->aj w' ρ' lD ro' (fh ag fr t fun _=>x) v):na w' ρ' lD ro' fr ag c t m es :=
 ⟨fun e he=>by obtain⟨key,x,h1,h2,h3⟩:=h.1 e he; exact⟨key,x,h1,h2,eU x _ h3⟩,h.2⟩
theorem dz.mono{l:Nat}(h:dz w ρ base ro l e)(hw:∀ b,ro b->b<w.heap.size->w'.heap[b]? = w.heap[b]?)(bS:∀ l r b,ρ l=some r->r.cH=some b->w'.heap[b]? = w.heap[b]?)(hρ:Ext ρ ρ')(ck:∀ b,ro b->ro' b):dz w' ρ' base ro' l e:=by
 cases e with
 | box T cells =>
  obtain⟨b,cs,h1,h4,h5⟩:=h;exact⟨b,cs,hρ _ _ h1,(bS _ _ b h1 rfl).trans h4,h5.mono hw hρ (aN _) ck⟩
 | row fr t T m =>
  obtain⟨A,c,css,h1,h2,h3,h5⟩:=h;refine⟨A,c,css,hρ _ _ h1,h2.lu fun a ha=>bS _ _ a.block h1 (by simp [Rl.cH,ha]),h3,fun k cs j x v k1 k2 k3=>(h5 k cs j x v k1 k2 k3).mono hw hρ (aN _) ck⟩
 | map fr ag c t T m =>
  obtain⟨b,es,clock,h1,h2,h3,h4⟩:=h;exact⟨b,es,clock,hρ _ _ h1,(bS _ _ b h1 rfl).trans h2,h3,h4.tv fun x v hx=>hx.mono hw hρ (aN _) ck⟩
 | iter ml c seen left =>
  obtain⟨b,b2,es,clock,since,stamps,c0,h1,h2,h3,h4,h5⟩:=h;exact⟨b,b2,es,clock,since,stamps,c0,hρ _ _ h1,hρ _ _ h2,(bS _ _ b h2 rfl).trans h3,(bS _ _ b2 h1 rfl).trans h4,h5⟩
 | bL ml c key =>
  obtain⟨b,es,clock,s,e,h1,h2,h3,h4⟩:=h;exact⟨b,es,clock,s,e,hρ _ _ h1,hρ _ _ h2,(bS _ _ b h2 rfl).trans h3,h4⟩
 | fY k=>exact hρ _ _ h
 | dead=>obtain⟨r,h⟩:=h; exact⟨r,hρ _ _ h⟩
theorem dz.none{l:Nat}(h:dz w ρ base ro l e):∃ r,ρ l=some r:=by
 cases e with
 | box T cells=>obtain⟨b,cs,h1,_⟩:=h; exact⟨_,h1⟩
 | row fr t T m=>obtain⟨A,c,css,h1,_⟩:=h; exact⟨_,h1⟩
 | map fr ag c t T m=>obtain⟨b,es,clock,h1,_⟩:=h; exact⟨_,h1⟩
 | iter ml c seen left=>obtain⟨b,b2,es,clock,since,stamps,c0,h1,_⟩:=h; exact⟨_,h1⟩
 | bL ml c key=>obtain⟨b,es,clock,s,e,h1,_⟩:=h; exact⟨_,h1⟩
 | fY k=>exact⟨_,h⟩
 | dead=>exact h
theorem bK.calm(H:bK w0 S0 N B S a w ρ ro)(hb:dL w w'):bK w0 S0 N B S a w' ρ (fun b=>(ro b\/w.heap.size<=b)/\b<w'.heap.size):=by
 have hw:∀ b,ro b->b<w.heap.size->w'.heap[b]? = w.heap[b]? := fun b _ h=>hb.block b h;have ck:∀ b,ro b->(ro b\/w.heap.size<=b)/\b<w'.heap.size:=fun b h=>⟨.inl h,iT (H.gX b h) hb.size⟩
 have bS:∀ l r b,ρ l=some r->r.cH=some b->w'.heap[b]? = w.heap[b]? /\ ¬ ((ro b\/w.heap.size<=b)/\b<w'.heap.size):=by
  intro l r b h1 h2;have h3:=H.own l r b h1 h2;refine⟨hb.block b h3.1,?_⟩
  rintro⟨h4|h4,_⟩
  . exact h3.2.1 h4
  . omega
 refine⟨H.from_.andThen hb,H.size,H.defers,fun b h=>h.2,fun d x h => ?_,fun l e h=>(H.en l e h).mono hw (fun l r b h1 h2=>(bS l r b h1 h2).1) (Ext.refl _) ck,H.apart,H.fresh,fun l r b h1 h2 => ?_,fun b h=>⟨fun af=>(H.fp b (h.1.resolve_right fun h=>by have:=H.from_.size; omega)).1 af,fun ho=>h.1.elim (fun h=>(H.fp b h).2 ho) fun h=>by have:=S0.py _ _ H.from_.inv (S0.zj b ho); omega⟩,H.dH,H.kQ,H.kT,H.fm⟩
 . obtain⟨u,h1,h2⟩:=H.tm d x h;exact⟨u,h1,h2.mono hw (Ext.refl _) (aN _) ck⟩
 . have h3:=H.own l r b h1 h2;exact⟨iT h3.1 hb.size,(bS l r b h1 h2).2,h3.2.2⟩
theorem aj.calm(h:aj w' ρ base (fun b=>ro b\/w.heap.size<=b) x v):aj w' ρ base (fun b=>(ro b\/w.heap.size<=b)/\b<w'.heap.size) x v:=h.bound
def cb(B:Bs)(S:Sx)(N d:Nat)(x:AV):Option Sx :=
 if (al B.t d).isSome||decide (N<=d) then none else some ⟨(d,x)::S.t,S.e,S.n⟩
theorem cO{α:Type}(k:Nat)(v : α)(l:List (Nat × α))(d:Nat):al ((k,v)::l) d=if k=d then some v else al l d:=by
 show (if k==d then some v else al l d)=_
 by_cases h:k=d
 . simp [h]
 . simp [h]
theorem bK.put(H:bK w0 S0 N B S a w ρ ro){S':Sx}(hp:cb B S N d x=some S')(hv:aj w ρ w0.heap.size ro x v):bK w0 S0 N B S' (a.put (some d) v) w ρ ro:=by
 unfold cb at hp;split at hp
 . cases hp
 . rename_i hc;simp only [fM,aU,yR,xw,FP,jz] at hc;cases hp;have af:d<a.tmps.size:=by rw [H.size]; omega
   refine⟨H.from_,by rw [anI]; exact H.size,H.defers,H.gX,fun s y h => ?_,H.en,H.apart,H.fresh,H.own,H.fp,H.dH,fun s y h => ?_,H.kT,fun s u h => ?_⟩
   . unfold dR at h;rw [cO] at h;rw [Gh af];by_cases hs:d=s
     . rw [aG hs] at h;rw [aG hs.symm];simp only [bU] at h;subst h;exact⟨v,rfl,hv⟩
     . rw [ax hs] at h;rw [ax (fun e=>hs e.symm)];exact H.tm s y h
   . rw [cO,ax]
     . exact H.kQ s y h
     . rintro rfl
       rw [hc.1] at h;cases h
   . obtain⟨h1,h2⟩:=H.fm s u h;rw [Gh af,ax (by rintro rfl; rw [hc.1] at h2; cases h2)];exact⟨h1,h2⟩
/- no slot and no entry names a location -/
def LM(loc:Nat):List (Nat×AV)->Bool
 | []=>true
 | (_,x)::l => !AV.has loc x&&LM loc l
def aaV(loc:Nat):En->Bool
 | .box _ cs => !AV.mD loc cs
 | _=>true
def LN(loc:Nat):List (Nat×En)->Bool
 | []=>true
 | (_,e)::l=>aaV loc e&&LN loc l
def quiet(loc:Nat)(B:Bs):Bool:=LM loc B.t&&LN loc B.e
def LO(loc:Nat):List (Nat×AV)->List (Nat×AV)
 | [] => []
 | (d,x)::l=>(d,if AV.has loc x then .un else x)::LO loc l
def xJ(loc:Nat):List AV->List AV
 | [] => []
 | x::l=>(if AV.has loc x then .un else x)::xJ loc l
def Rx(loc:Nat):En->En
 | .box T cs => .box T (xJ loc cs)
 | e=>e
def LP(loc:Nat):List (Nat×En)->List (Nat×En)
 | [] => []
 | (k,e)::l=>(k,Rx loc e)::LP loc l
def kill(loc:Nat)(S:Sx):Sx:=⟨LO loc S.t,LP loc S.e,S.n⟩
theorem Ry{loc d:Nat}{x:AV}:∀ {l:List (Nat×AV)},LM loc l=true->al l d=some x->AV.has loc x=false
 | (k,y)::l,h,hx=>by
  unfold LM at h;simp only [aD,fG] at h;rw [cO] at hx;split at hx
  . cases hx; exact h.1
  . exact Ry h.2 hx
 | [],_,hx=>by cases hx
theorem Rz{loc d T:Nat}{cs:List AV}:∀ {l:List (Nat×En)},LN loc l=true->al l d=some (.box T cs)->AV.mD loc cs=false
 | (k,e)::l,h,hx=>by
  unfold LN at h;simp only [aD] at h;rw [cO] at hx;split at hx
  . cases hx; simpa [aaV] using h.1
  . exact Rz h.2 hx
 | [],_,hx=>by cases hx
theorem GQ{loc d:Nat}:∀ (l:List (Nat×AV)),al (LO loc l) d=(al l d).map fun x=>if AV.has loc x then .un else x
 | []=>rfl
 | (k,y)::l=>by
  unfold LO;rw [cO,cO,GQ l];split<;>rfl
theorem GR{loc d:Nat}:∀ (l:List (Nat×En)),al (LP loc l) d=(al l d).map (Rx loc)
 | []=>rfl
 | (k,e)::l=>by
  unfold LP;rw [cO,cO,GR l];split<;>rfl
theorem LQ{loc:Nat}:∀ (l:List AV) (j:Nat),(xJ loc l)[j]? = (l[j]?).map fun x=>if AV.has loc x then .un else x
 | [],j=>by simp [xJ]
 | x::l,0=>by simp [xJ]
 | x::l,j+1=>by simpa [xJ] using LQ l j
theorem aaW{loc:Nat}:∀ (l:List AV),(xJ loc l).length=l.length
 | []=>rfl
 | x::l=>by simp [xJ,aaW l]
theorem aaX:AV.has loc (if AV.has loc x=true then .un else x)=false:=by
 split
 . rfl
 . rename_i h; simpa using h
theorem RA{loc:Nat}:∀ {l:List AV},(∀ (j:Nat) x,l[j]? = some x->AV.has loc x=false)->AV.mD loc l=false
 | [],_=>rfl
 | x::l,h=>by
  unfold AV.mD;rw [h 0 x rfl,RA fun j y hy=>h (j+1) y Bg];rfl
theorem bK.aaY(H:bK w0 S0 N B S a w ρ ro)(loc:Nat):bK w0 S0 N B (kill loc S) a w ρ ro:=by
 refine⟨H.from_,H.size,H.defers,H.gX,fun d x h => ?_,fun l e h => ?_,H.apart,H.fresh,H.own,H.fp,H.dH,fun d x h=>by unfold kill; rw [GQ,H.kQ d x h]; rfl,fun l e h=>by unfold kill; rw [GR,H.kT l e h]; rfl,H.fm⟩
 . unfold dR kill at h;rw [GQ] at h
   cases hd:al S.t d with
   | none =>
    rw [hd] at h;exact H.tm d x (by unfold dR; rw [hd]; exact h)
   | some y =>
    rw [hd] at h;simp only [dG,bU] at h;obtain⟨u,h1,h2⟩:=H.tm d y (by unfold dR; rw [hd]);refine⟨u,h1,?_⟩;rw [<- h];split
    . exact .un _
    . exact h2
 . unfold bF kill at h;rw [GR] at h
   cases hd:al S.e l with
   | none =>
    rw [hd] at h;exact H.en l e (by unfold bF; rw [hd]; exact h)
   | some y =>
    rw [hd] at h;simp only [dG,bU] at h;have h1:=H.en l y (by unfold bF; rw [hd]);rw [<- h]
    cases y with
    | row fr t T m=>exact h1
    | map fr ag c t T m=>exact h1
    | iter ml c seen left=>exact h1
    | bL ml c key=>exact h1
    | fY k=>exact h1
    | dead=>exact h1
    | box T cs =>
     obtain⟨b,us,k1,k4,k5⟩:=h1;refine⟨b,us,k1,k4,by rw [aaW]; exact k5.1,fun j x v hx hv => ?_⟩;rw [LQ] at hx
     cases hj:cs[j]? with
     | none=>rw [hj] at hx; cases hx
     | some z =>
      rw [hj] at hx;simp only [dG,bU] at hx;rw [<- hx];split
      . exact .un _
      . exact k5.2 j z v hj hv
theorem aaZ(hq:quiet loc B=true):(∀ d x,dR B (kill loc S) d=some x->AV.has loc x=false)/\∀ l T cs,bF B (kill loc S) l=some (.box T cs)->AV.mD loc cs=false:=by
 unfold quiet at hq;simp only [aD] at hq;refine⟨fun d x h => ?_,fun l T cs h => ?_⟩
 . unfold dR kill at h;rw [GQ] at h
   cases hd:al S.t d with
   | none=>rw [hd] at h; exact Ry hq.1 h
   | some y =>
    rw [hd] at h;simp only [dG,bU] at h;rw [<- h];exact aaX
 . unfold bF kill at h;rw [GR] at h
   cases hd:al S.e l with
   | none=>rw [hd] at h; exact Rz hq.2 h
   | some y =>
    rw [hd] at h;simp only [dG,bU] at h
    cases y with
    | row fr t T' m=>cases h
    | map fr ag c t T' m=>cases h
    | iter ml c seen left=>cases h
    | bL ml c key=>cases h
    | fY k=>cases h
    | dead=>cases h
    | box T' cs' =>
     cases h;refine RA fun j x hx => ?_;rw [LQ] at hx
     cases hj:cs'[j]? with
     | none=>rw [hj] at hx; cases hx
     | some z =>
      rw [hj] at hx;simp only [dG,bU] at hx;rw [<- hx];exact aaX
/- y0 aEh of a map is aEi as Bh map changes -/
def qf(loc:Nat):En->Bool
 | .iter ml _ _ _=>ml==loc
 | .bL ml _ _=>ml==loc
 | _=>false
def tw(loc:Nat):List (Nat×En)->Bool
 | []=>true
 | (_,e)::l => !qf loc e&&tw loc l
def mE(loc:Nat):List (Nat×En)->List (Nat×En)
 | [] => []
 | (k,e)::l=>(k,if qf loc e then .dead else e)::mE loc l
theorem LR{loc d:Nat}:∀ (l:List (Nat×En)),al (mE loc l) d=(al l d).map fun e=>if qf loc e then .dead else e
 | []=>rfl
 | (k,e)::l=>by
  unfold mE;rw [cO,cO,LR l];split<;>rfl
theorem aa0{loc d:Nat}{e:En}:∀ {l:List (Nat×En)},tw loc l=true->al l d=some e->qf loc e=false
 | (k,e')::l,h,hx=>by
  unfold tw at h;simp only [aD,fG] at h;rw [cO] at hx;split at hx
  . cases hx; exact h.1
  . exact aa0 h.2 hx
 | [],_,hx=>by cases hx
theorem bK.dropped(H:bK w0 S0 N B S a w ρ ro)(hB:tw loc B.e=true):bK w0 S0 N B ⟨S.t,mE loc S.e,S.n⟩ a w ρ ro/\∀ l e,bF B ⟨S.t,mE loc S.e,S.n⟩ l=some e->qf loc e=false:=by
 have hl:∀ l e,bF B ⟨S.t,mE loc S.e,S.n⟩ l=some e->(bF B S l=some e/\qf loc e=false)\/(e = .dead/\∃ e',bF B S l=some e'):=by
  intro l e h;unfold bF at h ⊢;simp only [LR] at h
  cases hd:al S.e l with
  | none =>
   rw [hd] at h;exact .inl ⟨h,aa0 hB h⟩
  | some y =>
   rw [hd] at h;simp only [dG,bU] at h;split at h
   . exact .inr ⟨h.symm,y,rfl⟩
   . subst h;rename_i hr;exact .inl ⟨rfl,by simpa using hr⟩
 refine⟨⟨H.from_,H.size,H.defers,H.gX,H.tm,fun l e h => ?_,H.apart,H.fresh,H.own,H.fp,H.dH,H.kQ,fun l e h => ?_,H.fm⟩,fun l e h => ?_⟩
 . rcases hl l e h with ⟨h1,_⟩|⟨rfl,e',h1⟩
   . exact H.en l e h1
   . exact (H.en l e' h1).none
 . show al (mE loc S.e) l=none
   rw [LR,H.kT l e h];rfl
 . rcases hl l e h with ⟨_,h2⟩|⟨rfl,_⟩
   . exact h2
   . rfl
theorem RB(ag fr:Bool)(t:Tc)(x:Unit->t.el)(loc:Nat):AV.has loc (fh ag fr t x)=false:=by
 unfold fh;have h:=xE fr t x loc
 cases ag with
 | true=>exact h
 | false =>
  simp only [fk,dK]
  cases hc:bf fr t x with
  | nil=>rfl
  | cons c l =>
   rw [hc] at h
   cases l with
   | nil=>simpa [AV.mD] using h
   | cons c2 l=>rfl
def fK(ρ:Nat->Option Rl)(loc:Nat)(r:Rl):Nat->Option Rl:=fun l=>if l=loc then some r else ρ l
theorem bK.qg(H:bK w0 S0 N B S a w ρ ro){r:Rl}(hf:sE S0 w0 w')(hle:w.heap.size<=w'.heap.size)(gW:∀ b,b<w.heap.size->(∀ r',ρ loc=some r'->r'.cH≠some b)->w'.heap[b]? = w.heap[b]?)(GS:∀ b,r.cH=some b->(∃ r',ρ loc=some r'/\r'.cH=some b)\/(w.heap.size<=b/\b<w'.heap.size))(hB:al B.e loc=none)(hn:S.n<=n)(oE:loc<n)(LS:Ext ρ (fK ρ loc r)\/((∀ d x,dR B S d=some x->AV.has loc x=false)/\(∀ l T cs,bF B S l=some (.box T cs)->AV.mD loc cs=false)/\∀ r',ρ loc=some r'->(r'.dH||S0.fx)=false))(GU:(∀ b,ρ loc≠some (.mp b))\/∀ l e,bF B S l=some e->qf loc e=false)(he:dz w' (fK ρ loc r) w0.heap.size ro loc e):bK w0 S0 N B ⟨S.t,(loc,e)::S.e,n⟩ a w' (fK ρ loc r) ro:=by
 have hw:∀ b,ro b->b<w.heap.size->w'.heap[b]? = w.heap[b]? := fun b hb af=>gW b af fun r' h1 h2=>(H.own loc r' b h1 h2).2.1 hb;have hold:∀ l,l≠loc->fK ρ loc r l = ρ l:=fun l hl=>by unfold fK; rw [ax hl]
 have eU:∀ x v,aj w ρ w0.heap.size ro x v->(AV.has loc x=false\/Ext ρ (fK ρ loc r))->(∀ r',ρ loc=some r'->r'.dH=false)\/Ext ρ (fK ρ loc r)->aj w' (fK ρ loc r) w0.heap.size ro x v:=by
  intro x v h h1 h2;rcases h1 with h1|h1
  . rcases h2 with h2|h2
    . refine (h.move (ρ':=fK ρ loc r) h1 fun l r' hl hc => ?_).mono hw (Ext.refl _) (aN _) fun _ h=>h;by_cases kf:l=loc
      . subst kf;rcases hc with hc|hc
        . exact absurd rfl hc
        . rw [h2 _ hl] at hc; cases hc
      . rw [hold l kf]; exact hl
    . exact h.mono hw h2 (aN _) fun _ h=>h
  . exact h.mono hw h1 (aN _) fun _ h=>h
 have Gv:(∀ r',ρ loc=some r'->r'.dH=false)\/Ext ρ (fK ρ loc r):=LS.elim .inr fun h => .inl fun r' q=>by have:=h.2.2 r' q; simp only [lU] at this; exact this.1
 have LU:∀ l r' b,ρ l=some r'->r'.cH=some b->l≠loc->w'.heap[b]? = w.heap[b]? := fun l r' b h1 h2 bg=>gW b (H.own l r' b h1 h2).1 fun r2 h3 h4=>H.apart l loc r' r2 b bg h1 h3 h2 h4;refine⟨hf,H.size,H.defers,fun b hb=>iT (H.gX b hb) hle,fun d x h => ?_,fun l e' h => ?_,fun l l' r1 r2 b bg h1 h2 h3 h4 => ?_,fun l hl => ?_,fun l r1 b h1 h2 => ?_,H.fp,fun l r1 h1 h2 => ?_,H.kQ,fun l e' h=>by rw [cO,ax (by rintro rfl; rw [hB] at h; cases h)]; exact H.kT l e' h,H.fm⟩
 . obtain⟨u,h1,h2⟩:=H.tm d x h;exact⟨u,h1,eU x u h2 (LS.elim .inr fun hm => .inl (hm.1 d x h)) Gv⟩
 . unfold bF at h;rw [cO] at h;by_cases hl:loc=l
   . rw [aG hl] at h;simp only [bU] at h;subst h; subst hl;exact he
   . rw [ax hl] at h;have h0:bF B S l=some e':=h;have h1:=H.en l e' h0
     cases e' with
     | box T cs =>
      obtain⟨b,us,k1,k4,k5⟩:=h1;refine⟨b,us,by rw [hold l (fun e=>hl e.symm)]; exact k1,?_,k5.1,fun j x v hx hv=>eU x v (k5.2 j x v hx hv) (LS.elim .inr fun hm => .inl (nN (hm.2.1 l T cs h0) hx)) Gv⟩;rw [gW b (H.own l _ b k1 rfl).1 fun r' h3 h4=>H.apart l loc _ r' b (fun e=>hl e.symm) k1 h3 rfl h4];exact k4
     | row fr t T m =>
      obtain⟨A,c,css,k1,k2,k3,k5⟩:=h1;refine⟨A,c,css,by rw [hold l (fun e=>hl e.symm)]; exact k1,k2.lu fun ad ha => ?_,k3,fun k cs j x v q1 q2 q3=>eU x v (k5 k cs j x v q1 q2 q3) (.inl (nN (xE fr t _ loc) q2)) Gv⟩;have uK:(Rl.row A (m ()).length c).cH=some ad.block:=by simp [Rl.cH,ha]
      exact gW ad.block (H.own l _ _ k1 uK).1 fun r' h3 h4=>H.apart l loc _ r' _ (fun e=>hl e.symm) k1 h3 uK h4
     | map fr ag c t T m =>
      obtain⟨b,es,clock,k1,k2,k3,k4⟩:=h1;refine⟨b,es,clock,by rw [hold l (fun e=>hl e.symm)]; exact k1,(LU l _ b k1 rfl (fun e=>hl e.symm)).trans k2,k3,k4.tv fun x v hx=>eU _ v hx (.inl (RB _ _ _ _ _)) Gv⟩
     | iter ml c seen left =>
      obtain⟨b,b2,es,clock,since,stamps,c0,k1,k2,k3,k4,k5⟩:=h1;have lH:ml≠loc:=by
       exact aa1
      exact⟨b,b2,es,clock,since,stamps,c0,by rw [hold l (fun e=>hl e.symm)]; exact k1,by rw [hold ml lH]; exact k2,(LU ml _ b k2 rfl lH).trans k3,(LU l _ b2 k1 rfl (fun e=>hl e.symm)).trans k4,k5⟩
     | bL ml c key =>
      obtain⟨b,es,clock,s,e,k1,k2,k3,k4⟩:=h1;have lH:ml≠loc:=by
       exact aa1
      exact⟨b,es,clock,s,e,by rw [hold l (fun e=>hl e.symm)]; exact k1,by rw [hold ml lH]; exact k2,(LU ml _ b k2 rfl lH).trans k3,k4⟩
     | fY k=>exact (hold l (fun e=>hl e.symm)).trans h1
     | dead=>obtain⟨r1,k1⟩:=h1; exact⟨r1,by rw [hold l (fun e=>hl e.symm)]; exact k1⟩
 . have RC:∀ l r1 b,fK ρ loc r l=some r1->r1.cH=some b->(l=loc/\r1=r)\/(l≠loc /\ ρ l=some r1):=by
    intro l r1 b h1 _;by_cases kf:l=loc
    . subst kf;unfold fK at h1;rw [aG rfl] at h1;injection h1 with h1;exact .inl ⟨rfl,h1.symm⟩
    . rw [hold l kf] at h1;exact .inr ⟨kf,h1⟩
   rcases RC l r1 b h1 h3 with ⟨rfl,rfl⟩|⟨k1,k2⟩
   . rcases RC l' r2 b h2 h4 with ⟨rfl,rfl⟩|⟨k3,k4⟩
     . exact bg rfl
     . rcases GS b h3 with ⟨r',q1,q2⟩|q
       . exact H.apart l l' r' r2 b bg q1 k4 q2 h4
       . have:=(H.own l' r2 b k4 h4).1; omega
   . rcases RC l' r2 b h2 h4 with ⟨rfl,rfl⟩|⟨k3,k4⟩
     . rcases GS b h4 with ⟨r',q1,q2⟩|q
       . exact H.apart l l' r1 r' b bg k2 q1 h3 q2
       . have:=(H.own l r1 b k2 h3).1; omega
     . exact H.apart l l' r1 r2 b bg k2 k4 h3 h4
 . rw [hold l (by simp only at hl; omega)];exact H.fresh l (by simp only at hl; omega)
 . by_cases kf:l=loc
   . subst kf;unfold fK at h1;rw [aG rfl] at h1;injection h1 with h1;subst h1;rcases GS b h2 with ⟨r',q1,q2⟩|q
     . have h5:=H.own l r' b q1 q2;exact⟨iT h5.1 hle,h5.2⟩
     . refine⟨q.2,fun hb => ?_,.inl (cd H.from_.size q.1),fun hf=>by have:=S0.py _ _ H.from_.inv hf; omega⟩;have:=H.gX b hb;omega
   . rw [hold l kf] at h1;have h5:=H.own l r1 b h1 h2;exact⟨iT h5.1 hle,h5.2⟩
 . have h3:=H.dH l r1 h1 h2;rcases LS with hm|hm
   . exact hm l r1 h3
   . rw [hold l (fun e=>by subst e; rw [hm.2.2 _ h3] at h2; cases h2)];exact h3
end
end Go.Proofs.YtamjbkaclhgffaaGreat
