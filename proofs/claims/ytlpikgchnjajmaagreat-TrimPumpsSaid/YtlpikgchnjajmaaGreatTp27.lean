/-
  frac.small as a contract of a function that writes a part of a row.
-/
import Derived.Test.YtlpikgchnjajmaaGreatTp26
set_option linter.all false
namespace Go.Proofs.YtlpikgchnjajmaaGreat
open Go.RowKit
variable{l:List Int}{N V W X Z a b base g j m n s t x y:Nat}
theorem asN{w:World}{ρ:Nat->Option Rl}{ro:Nat->Prop}{fr:Bool}{css:List (List Value)}(hlen:css.length=l.length)(aN:∀ cs∈css,cs.length=1)(du:∀ (k) (cs) (j:Nat) (x) (v),css[k]? = some cs->(aO fr .u32 fun _=>l.getD k Tc.u32.aa)[j]? = some x->cs[j]? = some v->ah w ρ base ro x v):css=l.map nE.cells:=by
 refine List.ext_getElem (by rw [iQ,hlen]) fun k h1 h2 => ?_;obtain⟨v,hv⟩:=M3.1 (aN _ (mj h1));have h3:=du k css[k] 0 _ v (bp h1) rfl (by rw [hv]; rfl);rw [hv,h3.iA,List.getElem_map];have:k<l.length:=oo
 show [Value.int .u32 (l.getD k Tc.u32.aa)] = [Value.int .u32 l[k]]
 rw [ba,bp this,gZ]
theorem ad0(l:List Int):(l.map nE.cells).flatten=l.map (Value.int .u32):=by
 induction l with
 | nil=>rfl
 | cons x l ih=>simp only [kX,H6,ih]; rfl
theorem ad1(m):sJ .u32 m=(cl m).map (Value.int .u32):=by unfold sJ cl; rw [DO]; rfl
def T7:fk:=⟨171,[.El .u32,.int .u32],1,fun ai es=>match ai,es with
 | [.cE .u32 0 a b,.int .u32 d],[(0,.row false .u32 T l)]=>some ⟨fun _=>(T=52/\a ()=0/\0<b ()/\b ()<=(l ()).length)/\(d32 (l ())/\b ()<=1000)/\0<d ()/\d ()<4294967296,.int .u32 fun _=>((cD (l ()) 0 (b ()) % (d ()).toNat:Nat):Int),[(0,.row false .u32 T fun _=>jw (l ()) 0 (b ()) (cD (l ()) 0 (b ()) / (d ()).toNat))]⟩
 | _,_=>none,true⟩
theorem asO:gp Tryz.prog T7:=by
 refine⟨fun args w=>wT Tryz.func171 (by kernel_rfl) (by kernel_rfl) args w,fun ai es res h w ρ ra dt l6 hE kC ja cK bC hp => ?_⟩;simp only [T7] at h;split at h
 case h_2=>cases h
 rename_i a b d T l;cases h;obtain⟨⟨rfl,ha,jD,iV⟩,⟨hl,cN⟩,eW,fN⟩:(T=52/\a ()=0/\0<b ()/\b ()<=(l ()).length)/\(d32 (l ())/\b ()<=1000)/\0<d ()/\d ()<4294967296:=hp;obtain⟨v0,ve,rfl,jP,h0⟩:=hE.head;obtain⟨v1,Ss,rfl,rJ,h1⟩:=h0.head;obtain rfl:=h1.none;obtain rfl:=rJ.iA;obtain⟨A,n,c,hA,_,_,rfl⟩:=jP.xW;obtain⟨A',c',css,bK,ad3,hlen,du⟩:=kC 0 _ rfl;rw [hA] at bK;injection bK with bK;injection bK with e1 e2 e3;subst e1; subst e2; subst e3;have Kg:=asN hlen ad3.2 du;obtain⟨m,hm,P6⟩:=Lx (B:=ae) hl.1;obtain⟨D,hD⟩:=oI (Nx eW);rw [hD] at eW fN;obtain⟨nQ,hz⟩|⟨g,cap,cur,heq,ir,hg,Qg,qE,aC,rD⟩:=ad3.1.2
 . rw [hlen] at hz; omega
 simp only [Value.slice.injEq,aR] at heq;obtain⟨rfl,rfl⟩:=heq;rw [show Tc.u32.size=1 from rfl,nP] at aC rD;rw [Kg,ad0,iQ] at rD;have lX:m.length=(l ()).length:=by rw [hm,lH]
 have uh:cur.toList=sJ .u32 (m.take (b ()))++cur.toList.drop (b ()):=by
  have h2:cur.toList.take (b ())=sJ .u32 (m.take (b ())):=by
   rw [ad1,<- yT,<- hm,Nt,<- rD,DK,DI iV]
  rw [<- h2,jg]
 have hNB:im w g 52 .u32 (cur.toList.drop (b ())) (m.take (b ())):=by
  unfold im;rw [<- uh];exact hg
 have GZ:(m.take (b ())).length=b ():=by rw [c6]; omega
 have hV:cD (l ()) 0 (b ())=bJ ae (m.take (b ())):=by
  unfold cD;rw [zr,rC,hm,yT,p8]
 have asQ:sliced (some ⟨g,0,none⟩) (a ()) (b ()) c Tc.u32.size = .slice (some ⟨g,0,none⟩) (b ()) c:=by
  unfold sliced;rw [ha];simp [Addr.add]
 rw [asQ,hD];refine (ast (cur.toList.drop (b ())) g c (b ()) D (m.take (b ())) GZ.symm w hNB (P6.take _) oo oo oo).mono fun e w' ⟨o,k1,k2,k3,k4,k5,k6⟩ => ?_;have hgb:(Rl.row (some ⟨g,0,none⟩) (l ()).length c).ca=some g:=rfl;have ho:=bC 0 _ g hA hgb;have xX:pad ae (b ()) (bJ ae o)=o:=by have:=By (B:=ae) (by decide) o k3; rwa [k2,GZ] at this
 have hW:jw (l ()) 0 (b ()) (cD (l ()) 0 (b ()) / ((D:Nat):Int).toNat)=cl (o++m.drop (b ())):=by
  unfold jw;rw [hV,dV,<- k4,rC,xX,DJ,rv,Gq]
  conv=>lhs; arg 2; rw [hm,CQ]
 have tA:(cl (o++m.drop (b ()))).length=(l ()).length:=by rw [lH,ej,iH]; omega
 refine⟨_,ρ,ra,k1,⟨⟨k6.os,k6.tape,k6.output,k6.size,fun k hk aT=>k6.block k hk fun e=>aT 0 _ hA (by rw [hgb,e])⟩,fun l' e' he => ?_,ja,fun l' cp=>cK l' ?_,fun l' r b' h1 h2 => ?_,fun b' aW=>⟨iP (l6 b' aW) k6.size,fun _=>aW⟩,fun l' r h _=>h⟩,?_⟩
 . rw [cu] at he;split at he
   case isFalse=>cases he
   rename_i e0;subst e0;cases he;have Mb:∀ cs∈((cl (o++m.drop (b ()))).map nE.cells),cs.length=1:=fun cs hc=>by
    obtain⟨x,_,rfl⟩:=iq.1 hc;rfl
   refine⟨some ⟨g,0,none⟩,c,(cl (o++m.drop (b ()))).map nE.cells,by simp only [hW,tA]; exact hA,⟨⟨pC _ Mb,.inr ⟨g,c,_,rfl,ir,k5,by rw [iQ,tA,<- hlen]; exact Qg,qE,?_,?_⟩⟩,Mb⟩,by simp only [iQ,hW],fun k cs j x v q1 q2 q3 => ?_⟩
   . have cH:cur.toList.length=cur.size:=ahp;rw [xt,ej,Eb,iH,k2,GZ];show _=c*1
     omega
   . rw [iQ,tA,ad0,Gq,sC,<- ad1,show Tc.u32.size=1 from rfl,nP,List.take_append,Eb,k2,GZ];congr 1
     . exact lL (by rw [Eb,k2,GZ]; exact iV)
     . rw [<- CQ,<- hm,List.map_drop,<- rD,List.drop_take]
   . rw [gY] at q1;obtain⟨y,hy,rfl⟩:=kV.1 q1;simp only [hW] at q2;rw [show (cl (o++m.drop (b ()))).getD k Tc.u32.aa=y by rw [ba,hy]; rfl] at q2;have pR:aQ w' ρ w.heap.size ra (aO false .u32 fun _=>y) (nE.cells y):=FZ (l:=aO false .u32 fun _=>y) rfl;exact pR.2 j x v q2 q3
 . simp only [dI,bF,fM,Na] at cp;show 1<=l'
   omega
 . exact⟨iP (bC l' r b' h1 h2).1 k6.size,(bC l' r b' h1 h2).2,.inr ⟨r,h1,h2⟩⟩
 . show ah _ _ _ _ (.int .u32 _) _
   rw [hV,dV];exact .int _ _
theorem T8:∀ (k s:Nat),bJ ae (pad ae k s)=s % ae^k
 | 0,s=>by rw [oK,pB]; rfl
 | k+1,s=>by
  show s % ae+ae*bJ ae (pad ae k (s / ae))=_
  rw [T8 k,kx,lN (ae^k),Nat.mod_mul]
theorem T9(hb:b<=N)(bm:a<=b):cD (cl (pad ae N Z)) a b=Z / ae^a % ae^(b - a):=by
 unfold cD;rw [CQ,yT,p8,AZ _ _ _ _ oo,AY _ _ _ _ oo,T8]
theorem Ua{Z':Nat}(hb:b<=N)(bm:a<=b)(h1:Z' % ae^a=Z % ae^a)(h2:Z' / ae^a % ae^(b - a)=s % ae^(b - a))(h3:Z' / ae^b=Z / ae^b):jw (cl (pad ae N Z)) a b s=cl (pad ae N Z'):=by
 have e:pad ae N Z'=pad ae a Z++pad ae (b - a) s++(pad ae N Z).drop b:=by
  rw [AZ _ _ _ _ hb,<- h3,<- AZ _ _ _ _ hb,<- GP h1,<- GP h2];have t1:(pad ae N Z').take a=pad ae a Z':=AY _ _ _ _ oo;have t2:((pad ae N Z').drop a).take (b - a)=pad ae (b - a) (Z' / ae^a):=by rw [AZ _ _ _ _ oo,AY _ _ _ _ oo]
  rw [<- t1,<- t2];have:=V5 (pad ae N Z') a (b - a);rw [show a+(b - a)=b from oo] at this;exact this.symm
 unfold jw;rw [e,yT,CQ,AY _ _ _ _ oo,Gq,Gq]
theorem Ub(bm:a<=b)(hb:b<=l.length):(jw l a b s).length=l.length:=by
 unfold jw;rw [ej,ej,lH,eI,c6,iH];omega
theorem asR(bm:a<=b)(hb:b<=l.length):jw (jw l a b s) a b t=jw l a b t/\cD (jw l a b s) a b=s % ae^(b - a):=by
 have h:=aiB (L:=l) (o:=cl (pad ae (b - a) s)) (j:=a) (m:=b - a) (by rw [lH,eI]) oo;rw [show a+(b - a)=b from oo] at h;obtain⟨h1,h2,h3⟩:=h;constructor
 . unfold jw at *
   rw [h1,h2]
 . unfold cD jw;rw [h3,p8,T8]
theorem asS(hl:d32 l)(bm:a<=b)(hb:b<=l.length):d32 (jw l a b s):=by
 refine⟨fun d hd => ?_,by rw [Ub bm hb]; exact hl.2⟩;unfold jw at hd;rcases ku.1 hd with h|h
 . rcases ku.1 h with h|h
   . exact hl.1 d (vF h)
   . exact acg (rF (by decide) _ _) d h
 . exact hl.1 d (Vp h)
theorem G0(h:N<=1000000):d32 (cl (pad ae N s)):=CR (rF (by decide) _ _) (by rw [eI]; exact h)
def dF(X V j:Nat):Nat:=X % (V*ae^j)
def nJ(X V j:Nat):Nat:=dF X V (j+1) / ae^j
def vp(X V m j:Nat):List Nat:=List.replicate j 0++pad ae (m+1 - j) (X / (V*ae^j))
theorem Uc(hV:0<V)(j:Nat):nJ X V j<V*ae/\dF X V j=dF X V (j+1) % ae^j+ae^j*(nJ X V j % V)/\nJ X V j / V=X / (V*ae^j) % ae:=by
 have hp:=qe j;have e:V*ae^(j+1)=V*ae^j*ae:=by rw [kx,DM]
 have hvp:0<V*ae^(j+1):=zu hV (qe _);refine⟨?_,?_,?_⟩
 . refine Bj ?_;have:=oL X hvp;rw [show ae^j*(V*ae)=V*ae^(j+1) by rw [e,Vt,DM]];exact this
 . have h1:dF X V (j+1) % (V*ae^j)=dF X V j:=by
    unfold dF;rw [e];exact Nat.mod_mod_of_dvd _ ⟨ae,rfl⟩
   rw [<- h1,lN V,Nat.mod_mul];rfl
 . unfold nJ dF;rw [e,Bg,lN (ae^j) V,ahd]
theorem asU(hj:j<=m):(vp X V m (j+1)).set j (X / (V*ae^j) % ae)=vp X V m j:=by
 have e1:List.replicate (j+1) 0=List.replicate j 0 ++ [0]:=List.replicate_succ';have e2:m+1 - j=(m - j)+1:=oo
 have e3:m+1 - (j+1)=m - j:=oo
 unfold vp;rw [e1,e2,e3,gv,List.set_append_right _ _ (by rw [zk]; exact az _),zk,Bq];show _++(X / (V*ae^j) % ae::pad ae (m - j) (X / (V*ae^(j+1))))=_++(X / (V*ae^j) % ae::pad ae (m - j) (X / (V*ae^j) / ae))
 rw [Bg,DM,<- kx]
theorem asV(hj:j<=m+1):(vp X V m j).length=m+1:=by
 unfold vp;rw [ej,zk,eI];omega
theorem Mc(hV:V<ae^n)(jh:0<V):dF X V j<ae^(n+j):=by
 have h1:=oL X (zu jh (qe j));have h2:V*ae^j<ae^n*ae^j:=MZ hV (qe j);rw [<- Bt] at h2;unfold dF;omega
theorem Ud(hV:V<ae^n)(jh:0<V):nJ X V j<ae^(n+1):=by
 have h:=Mc (X:=X) (j:=j+1) hV jh;refine Bj ?_;rw [<- Bt,show j+(n+1)=n+(j+1) from oo];exact h
theorem asW(hV:V<ae^n)(jh:0<V)(hj:j<=m):cD (cl (pad ae (m+n+1) (dF X V (j+1)))) j (j+n+1)=nJ X V j:=by
 rw [T9 oo oo,show j+n+1 - j=n+1 from oo];exact fF (Ud hV jh)
theorem asX(hV:V<ae^n)(jh:0<V)(hj:j<=m)(hs:s % ae^(n+1)=nJ X V j % V):jw (cl (pad ae (m+n+1) (dF X V (j+1)))) j (j+n+1) s=cl (pad ae (m+n+1) (dF X V j)):=by
 obtain⟨_,h2,_⟩:=Uc (X:=X) jh j;have hp:=qe j;have hd:dF X V j / ae^j=nJ X V j % V:=by rw [h2,zm _ _ hp,mi (oL _ hp),hZ]
 have uI:=Mc (X:=X) (j:=j) hV jh;have uG:=Mc (X:=X) (j:=j+1) hV jh;have rK:ae^(n+j)<=ae^(j+n+1):=zl (by decide) oo;rw [show n+(j+1)=j+n+1 from oo] at uG;refine Ua oo oo ?_ ?_ ?_
 . rw [h2,zj,Nat.mod_mod]
 . rw [hd,show j+n+1 - j=n+1 from oo,hs];refine fF (iP (oL _ jh) ?_);exact e8 (Nv hV) (zl (by decide) oo)
 . rw [mi uG,mi oo]
theorem asY(rI:aL V=n)(hn:0<n)(jh:0<V)(hg:g=min ((dg (dF X V (j+1)) (j+n)*4294967296+dg (dF X V (j+1)) (j+n - 1)) / dg V (n - 1)) 4294967295):nJ X V j / V<=g:=by
 have hV:V<ae^n:=iI bW (vK rI);have hW:=Ud (X:=X) (j:=j) hV jh;have hu:∀ i,i<n+1->(pad ae (n+1) (nJ X V j)).getD i 0=dg (dF X V (j+1)) (j+i):=fun i hi=>by
  rw [GR hi];unfold dg nJ;rw [Bg,<- Bt]
 have h:=aiu (V:=V) (n:=n) (vt:=dg V (n - 1)) (g:=g) (u:=pad ae (n+1) (nJ X V j)) (rF (by decide) _ _) (eI _ _ _) rI hn (qd _ _).symm (by rw [nR (by decide) _ _ hW]; exact (Uc (X:=X) jh j).1) (by rw [hu n oo,hu (n - 1) oo,show j+(n - 1)=j+n - 1 from oo]; exact hg);rwa [nR (by decide) _ _ hW] at h
theorem asZ(hW:W<ae^(n+1))(hgV:g*V<ae^(n+1))(hV:0<V)(ho:W<g*V):0<g/\(W+ae^(n+1) - g*V) % ae^(n+1)+V=W+ae^(n+1) - (g - 1)*V/\(!decide (ae^(n+1)<=(W+ae^(n+1) - g*V) % ae^(n+1)+V))=decide (W<(g - 1)*V)/\W / V<=g - 1:=by
 have hg:0<g:=by
  rcases zo g with h|h
  . subst h; omega
  . exact h
 have e:g*V=(g - 1)*V+V:=by
  obtain⟨k,rfl⟩:∃ k,g=k+1:=⟨g - 1,oo⟩
  rw [vH,Bp]
 rw [fF (show W+ae^(n+1) - g*V<ae^(n+1) from oo)];have h3:W / V<=g - 1:=by
  have:=(HH hV).2 ho;omega
 generalize (g - 1)*V=p at *
 generalize g*V=q at *
 generalize ae^(n+1)=P at *
 refine⟨hg,oo,?_,h3⟩;rw [<- decide_not];exact DG.2 oo
theorem as0(hW:W<ae^(n+1))(hV:0<V)(rI:V<ae^(n+1))(hle:W / V<=g)(ho:¬ W<g*V):g=W / V/\(W+ae^(n+1) - g*V) % ae^(n+1)=W % V:=by
 have h1:g<=W / V:=(Nat.le_div_iff_mul_le hV).2 oo;have h2:g=W / V:=oo
 refine⟨h2,?_⟩;have h3:=Vz W V;rw [lN,<- h2] at h3;have h4:=oL W hV;rw [show W+ae^(n+1) - g*V=W % V+ae^(n+1) from oo,Nat.add_mod_right,fF oo]
theorem as1(hx:aL x=m+n)(hy:aL y=n)(hn:0<n):dF (x*s) (y*s) (m+1)=x*s:=by
 rcases zo s with h0|h0
 . subst h0; unfold dF; rw [Br,Nat.zero_mod]
 have h1:x<ae^(m+n):=iI bW (vK hx);have h2:ae^(n - 1)<=y:=(DT bW).1 (show n - 1<aL y from oo);have h3:ae^(m+n)=ae^(n - 1)*ae^(m+1):=by rw [<- Bt]; congr 1; omega
 have h4:ae^(n - 1)*ae^(m+1)<=y*ae^(m+1):=xr _ h2;unfold dF;refine fF ?_;rw [Nat.mul_right_comm];exact MZ oo h0
theorem as2(hs:0<s):dF (x*s) (y*s) 0=x % y*s/\x*s / (y*s*ae^0)=x / y:=by
 unfold dF;rw [oK,nP,Nat.mul_mod_mul_right,ahm _ _ hs];exact⟨rfl,rfl⟩
end Go.Proofs.YtlpikgchnjajmaaGreat
