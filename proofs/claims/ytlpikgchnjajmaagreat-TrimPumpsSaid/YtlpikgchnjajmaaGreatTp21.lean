/-
  Plain laws: a stable sort by a key is unique; what swapping, inserting and rotating keep.
-/
import Derived.Test.YtlpikgchnjajmaaGreatTp20
set_option linter.all false
set_option maxRecDepth 100000
set_option maxHeartbeats 4000000
namespace Go.Proofs.YtlpikgchnjajmaaGreat
open Go.RowKit
variable{N a a' b b' c e i j k m mid s x:Nat}
theorem SX{α:Type}(d)(l:List α)(j i)(hj:j+1<l.length):(swapAt d l j).getD i d=if i=j then l.getD (j+1) d else if i=j+1 then l.getD j d else l.getD i d:=by
 unfold swapAt;rw [ba,ru,ru];by_cases h1:i=j
 . subst h1;simp [show i<l.length from oo]
 . rw [ar (fun e=>h1 e.symm),ar h1];by_cases h2:i=j+1
   . subst h2;simp [hj]
   . rw [ar (fun e=>h2 e.symm),ar h2,ba]
theorem LC(a b):jR a b=decide (a.aF<b.aF):=by
 unfold jR sj;by_cases h:a.aF<b.aF
 . simp [h]
 . by_cases h2:b.aF<a.aF<;>simp [h,h2]
section
variable{α:Type}(key : α->Int)(d : α)
def keyed(t:Int)(l:List α):List α:=l.filter fun x=>decide (key x=t)
structure Ren (a b:Nat) (l m:List α):Prop where
 len:m.length=l.length
 out:∀ i,i<a\/b<=i->m[i]? = l[i]?
 Gu:∀ t,keyed key t m=keyed key t l
def eh(a b:Nat)(l:List α):Prop:=∀ i k,a<=i->i<k->k<b->key (l.getD i d)<=key (l.getD k d)
theorem Ren.refl(a b)(l):Ren key a b l l:=⟨rfl,fun _ _=>rfl,fun _=>rfl⟩
variable{key}
theorem Ren.trans{l m n:List α}(h:Ren key a b l m)(g:Ren key a b m n):Ren key a b l n :=
 ⟨g.len.trans h.len,fun i hi=>(g.out i hi).trans (h.out i hi),fun t=>(g.Gu t).trans (h.Gu t)⟩
theorem Ren.wide{l m:List α}(h:Ren key a b l m)(ha:a'<=a)(hb:b<=b'):Ren key a' b' l m :=
 ⟨h.len,fun i hi=>h.out i oo,h.Gu⟩
variable{d}
theorem Ren.get{l m:List α}(h:Ren key a b l m)(hi:i<a\/b<=i):m.getD i d=l.getD i d:=by
 rw [ba,h.out i hi,<- ba]
theorem eh.le{l:List α}(h:eh key d a b l)(hi:a<=i)(ju:i<=k)(hk:k<b):key (l.getD i d)<=key (l.getD k d):=by
 rcases cw i k with g|g
 . exact h i k hi g hk
 . rw [show i=k from oo]; exact j3 _
theorem acu:∀ {l m:List α},l.Pairwise (fun x y=>key x<=key y)->m.Pairwise (fun x y=>key x<=key y)->(∀ t,keyed key t l=keyed key t m)->l=m
 | [],[],_,_,_=>rfl
 | [],y::m,_,_,h=>by
  have:=h (key y);simp [keyed] at this
 | x::l,[],_,_,h=>by
  have:=h (key x);simp [keyed] at this
 | x::l,y::m,h1,h2,h=>by
  have hx:x∈keyed key (key x) (y::m):=by rw [<- h]; simp [keyed]
  have hy:y∈keyed key (key y) (x::l):=by rw [h]; simp [keyed]
  have SY:=(H8.1 hx).1;have qN:=(H8.1 hy).1;have e1:key y<=key x:=by
   rcases fZ.1 SY with g|g
   . rw [g]; exact j3 _
   . exact (tU.1 h2).1 x g
  have e2:key x<=key y:=by
   rcases fZ.1 qN with g|g
   . rw [g]; exact j3 _
   . exact (tU.1 h1).1 y g
  have e:key x=key y:=oo
  have h3:=h (key x);simp only [keyed,H7,qm,eH,e,sB] at h3;obtain⟨rfl,h4⟩:=h3;have h5:∀ t,keyed key t l=keyed key t m:=fun t=>by
   have:=h t;simp only [keyed,H7] at this;split at this
   . exact (List.cons.inj this).2
   . exact this
  rw [acu (tU.1 h1).2 (tU.1 h2).2 h5]
theorem CT{l:List α}(bm:a<=b):l=l.take a++((l.take b).drop a++l.drop b):=by
 rw [<- gv]
 conv=>lhs; rw [<- jg b l]
 congr 1
 conv=>lhs; rw [<- jg a (l.take b)]
 rw [DK,DI bm]
theorem acv{l:List α}(hb:b<=l.length)(h:eh key d a b l):((l.take b).drop a).Pairwise fun x y=>key x<=key y:=by
 rw [xq];intro i j hi hj jF;simp only [iH,c6] at hi hj;have:=h (a+i) (a+j) oo oo oo;rw [ba,ba,bp oo,bp oo] at this;simpa [List.getElem_drop,List.getElem_take] using this
theorem aqe{l m n:List α}(bm:a<=b)(hb:b<=l.length)(h1:Ren key a b l m)(h2:Ren key a b l n)(s1:eh key d a b m)(s2:eh key d a b n):m=n:=by
 have ht:m.take a=n.take a:=vG fun i=>by
  rw [eC,eC];split
  . rw [h1.out i (.inl oo),h2.out i (.inl oo)]
  . rfl
 have hd:m.drop b=n.drop b:=vG fun i=>by
  rw [lM,lM,h1.out _ (.inr oo),h2.out _ (.inr oo)]
 rw [CT (l:=m) bm,CT (l:=n) bm,ht,hd];congr 2;refine acu (key:=key) (acv (by rw [h1.len]; exact hb) s1) (acv (by rw [h2.len]; exact hb) s2) fun t => ?_;have h:=(h1.Gu t).trans (h2.Gu t).symm;rw [CT (l:=m) bm,CT (l:=n) bm,ht,hd] at h;simp only [keyed,HV] at h;exact List.append_cancel_right (List.append_cancel_left h)
def pf(key : α->Int)(x : α):List α->List α
 | [] => [x]
 | y::l=>if key x<=key y then x::y::l else y::pf key x l
def nF(key : α->Int)(l:List α):List α:=l.foldr (pf key) []
theorem acw(t)(x):∀ l,keyed key t (pf key x l)=keyed key t (x::l)
 | []=>rfl
 | y::l=>by
  unfold pf;split
  . rfl
  . have:=acw t x l;simp only [keyed,H7] at this ⊢;rw [this];by_cases h1:key x=t<;>by_cases h2:key y=t<;>simp [h1,h2]
    omega
theorem acx(t):∀ l,keyed key t (nF key l)=keyed key t l
 | []=>rfl
 | x::l=>by
  have h:=acw (key:=key) t x (nF key l);have ih:=acx t l;simp only [keyed,H7] at h ih ⊢;rw [show nF key (x::l)=pf key x (nF key l) from rfl,h,ih]
theorem acy(x):∀ l,(pf key x l).length=l.length+1
 | []=>rfl
 | y::l=>by
  unfold pf;split
  . rfl
  . rw [c9,acy x l,c9]
theorem LD:∀ l,(nF key l).length=l.length
 | []=>rfl
 | x::l=>by
  rw [show nF key (x::l)=pf key x (nF key l) from rfl,acy,LD l,c9]
theorem SZ(x):∀ {l} {y},y∈pf key x l->y=x\/y∈l
 | [],y,h => .inl (by simpa [pf] using h)
 | z::l,y,h=>by
  unfold pf at h;split at h
  . simpa using h
  . rcases fZ.1 h with g|g
    . exact .inr (by simp [g])
    . rcases SZ x g with g|g
      . exact .inl g
      . exact .inr (by simp [g])
theorem acz(x):∀ {l:List α},l.Pairwise (fun x y=>key x<=key y)->(pf key x l).Pairwise fun x y=>key x<=key y
 | [],_=>by simp [pf]
 | y::l,h=>by
  obtain⟨h1,h2⟩:=tU.1 h;unfold pf;split
  . rename_i g;exact tU.2 ⟨fun z hz=>by
     rcases fZ.1 hz with e|e
     . rw [e]; exact g
     . exact Int.le_trans g (h1 z e),h⟩
  . rename_i g;exact tU.2 ⟨fun z hz=>by
     rcases SZ x hz with e|e
     . rw [e]; omega
     . exact h1 z e,acz x h2⟩
theorem acA:∀ l,(nF key l).Pairwise fun x y=>key x<=key y
 | []=>List.Pairwise.nil
 | x::l=>acz x (acA l)
def cJ(key : α->Int)(a b:Nat)(l:List α):List α:=l.take a++(nF key ((l.take b).drop a)++l.drop b)
theorem p9{l:List α}(bm:a<=b)(hb:b<=l.length):Ren key a b l (cJ key a b l):=by
 have hn:(nF key ((l.take b).drop a)).length=b - a:=by rw [LD,iH,c6]; omega
 refine⟨?_,fun i hi => ?_,fun t => ?_⟩
 . unfold cJ;simp only [ej,hn,c6,iH];omega
 . unfold cJ;rw [Bf];simp only [c6];rcases hi with hi|hi
   . rw [aw oo,eC,aw hi]
   . rw [ar oo,Bf,hn,ar oo,lM];congr 1;omega
 . unfold cJ;have h:=acx (key:=key) t ((l.take b).drop a)
   conv=>rhs; rw [CT (l:=l) bm]
   simp only [keyed,HV] at h ⊢;rw [h]
theorem xc{l:List α}(bm:a<=b)(hb:b<=l.length):eh key d a b (cJ key a b l):=by
 have hn:(nF key ((l.take b).drop a)).length=b - a:=by rw [LD,iH,c6]; omega
 intro i k hi ju hk;have hg:∀ j,a<=j->(hj:j<b)->(cJ key a b l).getD j d=(nF key ((l.take b).drop a))[j - a]'oo:=fun j h1 h2=>by
  exact acB
 rw [hg i hi oo,hg k oo hk];exact xq.1 (acA _) _ _ _ _ oo
theorem CU{l m:List α}(bm:a<=b)(hb:b<=l.length)(h:Ren key a b l m)(s:eh key d a b m):m=cJ key a b l :=
 aqe bm hb h (p9 bm hb) s (xc bm hb)
theorem acC:∀ {l:List α} {y},y∈nF key l->y∈l
 | [],y,h=>h
 | x::l,y,h=>by
  rcases SZ x (show y∈pf key x (nF key l) from h) with g|g
  . rw [g]; exact ahr
  . exact M6 _ (acC g)
theorem acD{l:List α}(bm:a<=b)(hb:b<=l.length)(h1:a<=x)(h2:x<b):∃ i,a<=i/\i<b/\(cJ key a b l).getD x d=l.getD i d:=by
 have hn:(nF key ((l.take b).drop a)).length=b - a:=by rw [LD,iH,c6]; omega
 have hg:(cJ key a b l).getD x d=(nF key ((l.take b).drop a))[x - a]'oo:=by
  exact acB
 obtain⟨i,hi⟩:=kW.1 (acC (mj (show x - a<(nF key ((l.take b).drop a)).length from oo)));rw [lM,eC] at hi;split at hi
 . exact⟨a+i,oo,oo,by rw [hg,ba,hi]; rfl⟩
 . cases hi
/- two XZ lie side by side -/
theorem acE{l:List α}(hj:j+1<l.length)(ha:a<=j)(hb:j+1<b)(h:key (l.getD (j+1) d)≠key (l.getD j d)):Ren key a b l (swapAt d l j):=by
 refine⟨yV d l j,fun i hi => ?_,fun t => ?_⟩
 . unfold swapAt;rw [M7 oo,M7 oo]
 . have e1:l.getD j d=l[j]:=by rw [ba,bp oo,gZ]
   have e2:l.getD (j+1) d=l[j+1]:=by rw [ba,bp hj,gZ]
   have h1:l=l.take j++l[j]::l[j+1]::l.drop (j+2):=by
    rw [Vn,Vn,jg]
   have h2:swapAt d l j=l.take j++l[j+1]::l[j]::l.drop (j+2):=by
    unfold swapAt;rw [e1,e2];exact acF
   rw [h2]
   conv=>rhs; rw [h1]
   rw [e1,e2] at h;simp only [keyed,HV,H7];congr 1;by_cases g1:key l[j]=t<;>by_cases g2:key l[j+1]=t<;>simp [g1,g2]
   omega
/- one aqf up,one aqf down -/
def vg(d : α)(l:List α)(a:Nat):Nat->List α
 | 0=>l
 | n+1=>swapAt d (vg d l a n) (a+n)
theorem LF(l)(a):∀ n,(vg d l a n).length=l.length
 | 0=>rfl
 | n+1=>by unfold vg; rw [yV,LF l a n]
theorem Gv(l)(a):∀ n,a+n<l.length->∀ i,(vg d l a n).getD i d=if a<=i/\i<a+n then l.getD (i+1) d else if i=a+n then l.getD a d else l.getD i d
 | 0,hn,i=>by
  unfold vg;rw [ar oo];split
  . rename_i h; rw [h]; rfl
  . rfl
 | n+1,hn,i=>by
  have ih:=Gv l a n oo;unfold vg;rw [SX _ _ _ _ (by rw [LF]; omega),ih,ih,ih];grind
theorem acG{l:List α}{a b:Nat}:∀ n,a+n<l.length->a+n<b->(∀ i,a<i->i<=a+n->key (l.getD i d)<key (l.getD a d))->Ren key a b l (vg d l a n)
 | 0,_,_,_=>Ren.refl key a b l
 | n+1,hn,hb,h=>by
  refine (acG n oo oo fun i h1 h2=>h i h1 oo).trans (acE (by rw [LF]; omega) oo oo ?_);rw [Gv l a n oo,Gv l a n oo,ar oo,ar oo,ar oo,aw rfl];have:=h (a+n+1) oo oo;omega
theorem aqg{l:List α}(hb:b<=l.length)(hi:a+1<=i/\i<=b)(s:eh key d (a+1) b l)(h1:∀ k,a+1<=k->k<i->key (l.getD k d)<key (l.getD a d))(h2:∀ k,i<=k->k<b->key (l.getD a d)<=key (l.getD k d)):vg d l a (i - 1 - a)=cJ key a b l:=by
 refine CU (d:=d) oo hb (acG _ oo oo fun k g1 g2=>h1 k oo oo) fun x y g1 g2 g3 => ?_;rw [Gv l a _ oo,Gv l a _ oo];have e:a+(i - 1 - a)=i - 1:=oo
 rw [e];by_cases c1:x<i - 1
 . rw [aw ⟨g1,c1⟩];by_cases c2:y<i - 1
   . rw [aw ⟨oo,c2⟩];exact CV
   . rw [ar oo];split
     . exact Nx (h1 _ oo oo)
     . exact CV
 . rw [ar (show ¬ (a<=x/\x<i - 1) from oo),ar (show ¬ (a<=y/\y<i - 1) from oo),ar (show ¬ y=i - 1 from oo)];split
   . exact h2 _ oo oo
   . exact CV
def nG(d : α)(l:List α)(m:Nat):Nat->List α
 | 0=>l
 | n+1=>swapAt d (nG d l m n) (m - n - 1)
theorem LG(l)(m):∀ n,(nG d l m n).length=l.length
 | 0=>rfl
 | n+1=>by unfold nG; rw [yV,LG l m n]
theorem AQ(l)(m)(hm:m<l.length):∀ n,n<=m->∀ i,(nG d l m n).getD i d=if m - n<i/\i<=m then l.getD (i - 1) d else if i=m - n then l.getD m d else l.getD i d
 | 0,hn,i=>by
  unfold nG;rw [ar oo];split
  . rename_i h; rw [h]; rfl
  . rfl
 | n+1,hn,i=>by
  have ih:=AQ l m hm n oo;unfold nG;rw [SX _ _ _ _ (by rw [LG]; omega),ih,ih,ih];grind
theorem acH{l:List α}{a b m:Nat}(hm:m<l.length)(hb:m<b):∀ n,a+n<=m->(∀ i,m - n<=i->i<m->key (l.getD m d)<key (l.getD i d))->Ren key a b l (nG d l m n)
 | 0,_,_=>Ren.refl key a b l
 | n+1,hn,h=>by
  refine (acH hm hb n oo fun i h1 h2=>h i oo oo).trans (acE (by rw [LG]; omega) oo oo ?_);rw [AQ l m hm n oo,AQ l m hm n oo,ar oo,aw oo,ar oo,ar oo];have:=h (m - n - 1) oo oo;omega
theorem S4{l:List α}(hm:m<l.length)(hi:a<=i/\i<=m)(s:eh key d a m l)(h1:∀ k,a<=k->k<i->key (l.getD k d)<=key (l.getD m d))(h2:∀ k,i<=k->k<m->key (l.getD m d)<key (l.getD k d)):nG d l m (m - i)=cJ key a (m+1) l:=by
 refine CU (d:=d) oo oo (acH hm oo _ oo fun k g1 g2=>h2 k oo oo) fun x y g1 g2 g3 => ?_;rw [AQ l m hm _ oo,AQ l m hm _ oo];have e:m - (m - i)=i:=oo
 rw [e];by_cases c1:x<i
 . rw [ar oo,ar oo];by_cases c2:y<i
   . rw [ar oo,ar oo];exact CV
   . by_cases c3:y=i
     . rw [ar oo,aw c3];exact h1 _ oo oo
     . rw [aw oo];exact CV
 . rw [aw (show i<y/\y<=m from oo)];by_cases c2:x=i
   . rw [ar oo,aw c2];exact Nx (h2 _ oo oo)
   . rw [aw oo];exact CV
/- blocks -/
def Gw(d : α)(l:List α)(i j:Nat):List α:=(l.set i (l.getD j d)).set j (l.getD i d)
def qa(d : α)(l:List α)(a b:Nat):Nat->List α
 | 0=>l
 | n+1=>Gw d (qa d l a b n) (a+n) (b+n)
theorem aqh(l)(i j):(Gw d l i j).length=l.length:=by unfold Gw; simp
theorem aqi(l)(hi:i<l.length)(hj:j<l.length)(k):(Gw d l i j)[k]? = if k=j then l[i]? else if k=i then l[j]? else l[k]? := by
 unfold Gw;rw [ru,ru,mZ,ba,ba,bp hi,bp hj];by_cases h1:j=k
 . subst h1; simp [hj]
 . rw [ar h1,ar (show ¬ k=j from fun e=>h1 e.symm)];by_cases h2:i=k
   . subst h2; simp [hi]
   . rw [ar h2,ar (show ¬ k=i from fun e=>h2 e.symm)]
theorem yW(l)(a b):∀ n,(qa d l a b n).length=l.length
 | 0=>rfl
 | n+1=>by unfold qa; rw [aqh,yW l a b n]
theorem yX(l)(a b):∀ n,a+n<=b->b+n<=l.length->∀ k,(qa d l a b n)[k]? = if a<=k/\k<a+n then l[b+(k - a)]? else if b<=k/\k<b+n then l[a+(k - b)]? else l[k]?
 | 0,h1,h2,k=>by unfold qa; rw [ar oo,ar oo]
 | n+1,h1,h2,k=>by
  have ih:=yX l a b n oo oo;unfold qa;rw [aqi _ (by rw [yW]; omega) (by rw [yW]; omega),ih,ih,ih];grind
def il(a m b:Nat)(l:List α):List α:=l.take a++((l.take b).drop m++((l.take m).drop a++l.drop b))
theorem S5{l:List α}(h1:a<=m)(h2:m<=b)(h3:b<=l.length):(il a m b l).length=l.length:=by
 unfold il;simp only [ej,iH,c6];omega
theorem yY{l:List α}(h1:a<=m)(h2:m<=b)(h3:b<=l.length)(k):(il a m b l)[k]? = if a<=k/\k<a+(b - m) then l[m+(k - a)]? else if a+(b - m)<=k/\k<b then l[k - (b - m)]? else l[k]? := by
 unfold il;rw [Bf];simp only [c6,show min a l.length=a from oo];by_cases c1:k<a
 . rw [aw c1,ar oo,ar oo,eC,aw c1]
 . rw [ar c1,Bf];simp only [iH,c6,show min b l.length=b from oo];by_cases c2:k - a<b - m
   . rw [aw c2,aw (show a<=k/\k<a+(b - m) from oo),lM,eC,aw oo]
   . rw [ar c2,ar (show ¬ (a<=k/\k<a+(b - m)) from oo),Bf];simp only [iH,c6,show min m l.length=m from oo];by_cases c3:k - a - (b - m)<m - a
     . rw [aw c3,aw oo,lM,eC,aw oo];congr 1;omega
     . rw [ar c3,ar oo,lM];congr 1;omega
theorem aqj{l:List α}(h1:a<m)(h3:b<=l.length)(hj:b=m+j)(aj:j<m - a):il (a+j) m b (qa d l a m j)=il a m b l:=by
 apply vG;intro k;rw [yY oo oo (by rw [yW]; omega),yY oo oo h3,yX l a m j oo oo,yX l a m j oo oo,yX l a m j oo oo];grind
theorem aqk{l:List α}(h3:b<=l.length)(hm:m=a+i)(aj:i<b - m):il a m (b - i) (qa d l a (b - i) i)=il a m b l:=by
 apply vG;intro k;rw [yY oo oo (by rw [yW]; omega),yY oo oo h3,yX l a _ i oo oo,yX l a _ i oo oo,yX l a _ i oo oo]
 repeat' split
 all_goals first|(exfalso; omega)|(congr 1; omega)|rfl
theorem aql{l:List α}(h1:a<=m)(h3:b<=l.length)(he:m - a=b - m)(h2:m<=b):qa d l a m (m - a)=il a m b l:=by
 apply vG;intro k;rw [yY oo oo h3,yX l a m _ oo oo];grind
theorem aqm{l:List α}{A B:Nat}(h1:a<=m)(h2:m<=b)(h3:b<=l.length)(hA:A<=a)(hB:b<=B)(h:∀ i k,a<=i->i<m->m<=k->k<b->key (l.getD k d)<key (l.getD i d)):Ren key A B l (il a m b l):=by
 refine⟨S5 h1 h2 h3,fun i hi=>by rw [yY h1 h2 h3,ar oo,ar oo],fun t => ?_⟩;have e:l=l.take a++((l.take m).drop a++((l.take b).drop m++l.drop b)):=by
  conv=>lhs; rw [CT (l:=l) (a:=a) (b:=b) oo]
  congr 1;rw [<- gv];congr 1
  conv=>lhs; rw [<- jg (m - a) ((l.take b).drop a)]
  rw [tX,show a+(m - a)=m from oo,<- List.drop_take,DK,show min m b=m from oo]
 conv=>rhs; rw [e]
 unfold il;simp only [keyed,HV];congr 1;rw [<- gv,<- gv];congr 1;have hx:∀ x∈(l.take m).drop a,∃ i,a<=i/\i<m/\l.getD i d=x:=fun x hx=>by
  obtain⟨i,hi⟩:=kW.1 hx;rw [lM,eC] at hi;split at hi
  . exact⟨a+i,oo,oo,by rw [ba,hi]; rfl⟩
  . cases hi
 have hy:∀ y∈(l.take b).drop m,∃ k,m<=k/\k<b/\l.getD k d=y:=fun x hx=>by
  obtain⟨i,hi⟩:=kW.1 hx;rw [lM,eC] at hi;split at hi
  . exact⟨m+i,oo,oo,by rw [ba,hi]; rfl⟩
  . cases hi
 by_cases g:∃ x∈(l.take m).drop a,key x=t
 . obtain⟨x,SY,hxt⟩:=g;obtain⟨i,i1,i2,i3⟩:=hx x SY;have:((l.take b).drop m).filter (fun x=>decide (key x=t)) = []:=by
    rw [ahl];intro y S6;obtain⟨k,k1,k2,k3⟩:=hy y S6;have:=h i k i1 i2 k1 k2;rw [i3,k3] at this;simp only [aI];omega
   rw [this,rv,qk]
 . have:((l.take m).drop a).filter (fun x=>decide (key x=t)) = []:=by
    rw [ahl];intro y S6 D4;exact g ⟨y,S6,tW D4⟩
   rw [this,rv,qk]
theorem aqn{l l1 l2 l3:List α}(hb:b<=l.length)(h:a<=s/\s<=m/\m<=e/\e<=b)(hc:c=s+(e - m))(sa:eh key d a m l)(sb:eh key d m b l)(ug:s=a\/e=b\/key (l.getD (s - 1) d)<=key (l.getD e d))(yb:s=m\/e=m\/key (l.getD (e - 1) d)<key (l.getD s d))(h1:l1=il s m e l)(h2:l2=cJ key a c l1)(h3:l3=cJ key c b l2):l3=cJ key a b l:=by
 have acI:∀ i k,s<=i->i<m->m<=k->k<e->key (l.getD k d)<key (l.getD i d):=fun i k i1 i2 k1 k2=>by
  have q:key (l.getD (e - 1) d)<key (l.getD s d):=by rcases yb with g|g|g<;>first|exact g|omega
  have q1:=sb.le k1 (show k<=e - 1 from oo) oo;have q2:=sa.le (show a<=s from oo) i1 i2;omega
 have r1:Ren key a b l l1:=by rw [h1]; exact aqm oo oo oo oo oo acI
 have n1:=r1.len;have r2:Ren key a c l1 l2:=by rw [h2]; exact p9 oo oo
 have n2:=r2.len;have r3:Ren key c b l2 l3:=by rw [h3]; exact p9 oo oo
 refine CU (d:=d) oo hb ((r1.trans (r2.wide oo oo)).trans (r3.wide oo oo)) fun x y g1 g2 g3 => ?_;have s2:eh key d a c l2:=by rw [h2]; exact xc oo oo
 have s3:eh key d c b l3:=by rw [h3]; exact xc oo oo
 by_cases c1:c<=x
 . exact s3 x y c1 g2 g3
 by_cases c2:y<c
 . rw [r3.get (.inl oo),r3.get (.inl oo)];exact s2 x y g1 g2 c2
 obtain⟨i,i1,i2,i3⟩:=acD (key:=key) (d:=d) (l:=l1) (a:=a) (b:=c) oo oo g1 (show x<c from oo);obtain⟨k,k1,k2,k3⟩:=acD (key:=key) (d:=d) (l:=l2) (a:=c) (b:=b) oo oo (show c<=y from oo) g3;rw [r3.get (.inl oo),h2,i3,h3,k3,r2.get (.inr oo),h1];have hr:∀ q,(il s m e l).getD q d=if s<=q/\q<s+(e - m) then l.getD (m+(q - s)) d else if s+(e - m)<=q/\q<e then l.getD (q - (e - m)) d else l.getD q d:=fun q=>by
  exact acJ
 rw [hr,hr];by_cases q1:i<s
 . rw [ar oo,ar oo,ar oo];by_cases q2:k<e
   . rw [aw oo];exact S7
   . rw [ar oo];have p1:key (l.getD (s - 1) d)<=key (l.getD e d):=by rcases ug with g|g|g<;>first|exact g|omega
     have p2:=sa.le (show a<=i from oo) (show i<=s - 1 from oo) oo;have p3:=sb.le (show m<=e from oo) (show e<=k from oo) k2;omega
 . rw [aw oo,ar oo];by_cases q2:k<e
   . rw [aw oo];exact Nx (acI _ _ oo oo oo oo)
   . rw [ar oo];exact S8
theorem aqo{l:List α}(h1:s<=m)(h2:m<=e)(h3:e<=l.length)(h:s=m\/m=e):il s m e l=l:=by
 apply vG;intro k;rw [yY h1 h2 h3];grind
theorem Gx{l:List α}(bm:a<=b)(hb:b<=l.length)(h:eh key d a b l):cJ key a b l=l:=(CU bm hb (Ren.refl key a b l) h).symm
theorem aqp{l:List α}(hb:b<=l.length)(h:a<=s/\s<=m/\m<=e/\e<=b)(sa:eh key d a m l)(sb:eh key d m b l) :
 (eh key d a s (il s m e l)/\eh key d s (s+(e - m)) (il s m e l))/\eh key d (s+(e - m)) e (il s m e l)/\eh key d e b (il s m e l):=by
 have hr:∀ q,(il s m e l).getD q d=if s<=q/\q<s+(e - m) then l.getD (m+(q - s)) d else if s+(e - m)<=q/\q<e then l.getD (q - (e - m)) d else l.getD q d:=fun q=>by
  exact acJ
 refine⟨⟨fun i k h1 h2 h3 => ?_,fun i k h1 h2 h3 => ?_⟩,fun i k h1 h2 h3 => ?_,fun i k h1 h2 h3 => ?_⟩<;>rw [hr,hr]
 . rw [ar oo,ar oo,ar oo,ar oo];exact S7
 . rw [aw oo,aw oo];exact S8
 . rw [ar oo,aw oo,ar oo,aw oo];exact S7
 . rw [ar oo,ar oo,ar oo,ar oo];exact S8
theorem eh.out{l n:List α}(h:eh key d a b l)(hr:Ren key a' b' l n)(hd:b<=a'\/b'<=a):eh key d a b n:=fun i k h1 h2 h3=>by
 rw [hr.get oo,hr.get oo];exact h i k h1 h2 h3
def Gy(key : α->Int)(d : α)(b e mid N:Nat)(Y G:List α):Prop :=
 (mid<(e:Int)->(e<(b:Int)->((0<=(mid:Int)/\mid<(e:Int)/\e<(b:Int))/\(b<=(Y.length:Int)/\b - mid<=(N:Int))/\Y.length<=1000000/\eh key d mid e Y/\eh key d e b Y)/\cJ key mid b Y=G)/\(¬ e<(b:Int)->Y=G))/\(¬ mid<(e:Int)->Y=G)
def acK(key : α->Int)(d : α)(a b s e mid N:Nat)(X G:List α):Prop :=
 (a<(s:Int)->(s<(mid:Int)->((0<=(a:Int)/\a<(s:Int)/\s<(mid:Int))/\(mid<=(X.length:Int)/\mid - a<=(N:Int))/\X.length<=1000000/\eh key d a s X/\eh key d s mid X)/\Gy key d b e mid N (cJ key a mid X) G)/\(¬ s<(mid:Int)->Gy key d b e mid N X G))/\(¬ a<(s:Int)->Gy key d b e mid N X G)
theorem acL{Y G:List α}(hb:b<=Y.length)(hY:Y.length<=1000000)(hN:b<=mid+N)(he:mid<=e/\e<=b)(h3:eh key d mid e Y)(h4:eh key d e b Y)(hG:cJ key mid b Y=G):Gy key d b e mid N Y G:=by
 have hid:e=b\/mid=e->Y=G:=fun h=>by
  rw [<- hG];refine (Gx (d:=d) oo hb ?_).symm;rcases h with h|h
  . rw [<- h]; exact h3
  . rw [h]; exact h4
 exact⟨fun g1=>⟨fun g2=>⟨⟨⟨oo,g1,g2⟩,⟨oo,oo⟩,hY,h3,h4⟩,hG⟩,fun g2=>hid (.inl oo)⟩,fun g1=>hid (.inr oo)⟩
theorem acM{l:List α}(hb:b<=l.length)(hl:l.length<=1000000)(hN:b<=mid+N/\mid<=a+N)(h:a<=s/\s<=m/\m<=e/\e<=b)(hc:mid=s+(e - m))(bm:a<=mid)(sa:eh key d a m l)(sb:eh key d m b l)(ug:s=a\/e=b\/key (l.getD (s - 1) d)<=key (l.getD e d))(yb:s=m\/e=m\/key (l.getD (e - 1) d)<key (l.getD s d)):acK key d a b s e mid N (il s m e l) (cJ key a b l):=by
 have hW:=aqn (key:=key) (d:=d) hb h hc sa sb ug yb rfl rfl rfl;obtain⟨⟨p1,p2⟩,p3,p4⟩:=aqp (key:=key) (d:=d) hb h sa sb;rw [<- hc] at p2 p3;have n1:(il s m e l).length=l.length:=S5 oo oo oo;generalize il s m e l=X at *
 have r2:Ren key a mid X (cJ key a mid X):=p9 bm oo;have hid:s=a\/s=mid->cJ key a mid X=X:=fun g=>Gx (d:=d) bm oo (by
  rcases g with g|g
  . rw [<- g]; exact p2
  . rw [<- g]; exact p1)
 have hY:s=a\/s=mid->Gy key d b e mid N X (cJ key a b l):=fun g=>acL oo oo hN.1 oo p3 p4 (by rw [<- hW,hid g]);exact⟨fun g1=>⟨fun g2=>⟨⟨⟨oo,g1,g2⟩,⟨oo,oo⟩,oo,p1,p2⟩,acL (by rw [r2.len]; omega) (by rw [r2.len]; omega) hN.1 oo (p3.out r2 (.inr (az _))) (p4.out r2 (.inr oo)) hW⟩,fun g2=>hY (.inr oo)⟩,fun g1=>hY (.inl oo)⟩
theorem aqq{l:List α}(h1:a<=c)(h2:c<=b)(hb:b<=l.length)(d : α):cJ key a b (cJ key a c l)=cJ key a b l:=by
 have r1:Ren key a c l (cJ key a c l):=p9 h1 oo;exact CU (d:=d) oo hb ((r1.wide (az _) h2).trans (p9 oo (by rw [r1.len]; exact hb))) (xc oo (by rw [r1.len]; exact hb))
theorem acN{lt : α -> α->Bool}(aj:∀ x y,lt x y=decide (key x<key y)){l:List α}{a m:Nat}(ham:a<=m)(hm:m<l.length)(s:eh key d a m l):∀ r n,m - n=a+r->n<=m->(∀ k,m - n<=k->k<m->key (l.getD m d)<key (l.getD k d))->kO lt d a (m - n) (nG d l m n)=cJ key a (m+1) l
 | 0,n,hr,hn,h=>by
  have gD:=S4 (key:=key) (d:=d) (a:=a) (i:=a) hm ⟨az _,ham⟩ s (fun k k1 k2=>absurd k2 oo) (fun k k1 k2=>h k oo k2);rw [show m - a=n from oo] at gD;rw [<- gD]
  cases hj:m - n with
  | zero=>rfl
  | succ j =>
   unfold kO;rw [gw oo,vJ,fG]
 | r+1,n,hr,hn,h=>by
  obtain⟨j,hj⟩:∃ j,m - n=j+1:=⟨m - n - 1,oo⟩
  have e1:(nG d l m n).getD (j+1) d=l.getD m d:=by rw [AQ l m hm n hn,ar oo,aw oo]
  have e2:(nG d l m n).getD j d=l.getD j d:=by rw [AQ l m hm n hn,ar oo,ar oo]
  rw [hj];unfold kO;rw [e1,e2,aj,c8 (show a<j+1 from oo),dL];by_cases hk:key (l.getD m d)<key (l.getD j d)
  . rw [c8 hk,eG];have ih:=acN aj ham hm s r (n+1) oo oo fun k k1 k2=>by
     by_cases e:k=j
     . rw [e]; exact hk
     . exact h k oo k2
    rw [show m - (n+1)=j from oo] at ih;rw [<- ih];show kO lt d a j (swapAt d (nG d l m n) j)=kO lt d a j (swapAt d (nG d l m n) (m - n - 1))
    rw [show m - n - 1=j from oo]
  . rw [gw hk,fG];have gD:=S4 (key:=key) (d:=d) (a:=a) (i:=m - n) hm ⟨oo,oo⟩ s (fun k k1 k2=>by
     have:=s.le k1 (show k<=j from oo) oo
     omega) h
    rw [show m - (m - n)=n from oo] at gD;exact gD
theorem acP{lt : α -> α->Bool}(aj:∀ x y,lt x y=decide (key x<key y)){l:List α}{a:Nat}:∀ n,a+1+n<=l.length->oy lt d a l n=cJ key a (a+1+n) l
 | 0,h=>(Gx (d:=d) oo h fun i k h1 h2 h3=>oo).symm
 | n+1,h=>by
  have ih:oy lt d a l n=cJ key a (a+1+n) l:=acP aj n oo;have r1:Ren key a (a+1+n) l (cJ key a (a+1+n) l):=p9 oo oo;unfold oy;rw [ih];have:=acN (key:=key) (d:=d) aj (l:=cJ key a (a+1+n) l) (a:=a) (m:=a+1+n) oo (by rw [r1.len]; omega) (xc (l:=l) (a:=a) (b:=a+1+n) oo oo) (n+1) 0 oo oo (fun k h1 h2=>oo);rw [show a+1+n - 0=a+1+n from oo] at this;rw [show nG d (cJ key a (a+1+n) l) (a+1+n) 0=cJ key a (a+1+n) l from rfl] at this;rw [this];exact aqq (l:=l) (a:=a) (c:=a+1+n) (b:=a+1+n+1) oo oo oo d
theorem S9{lt : α -> α->Bool}(aj:∀ x y,lt x y=decide (key x<key y)){l:List α}(bm:a<=b)(hb:b<=l.length):AP lt d a b l=cJ key a b l:=by
 unfold AP;by_cases h:b<=a+1
 . rw [show b - (a+1)=0 from oo];exact (Gx (d:=d) bm hb fun i k h1 h2 h3=>oo).symm
 . rw [acP (l:=l) (a:=a) aj (b - (a+1)) oo,show a+1+(b - (a+1))=b from oo]
end
def Ta:fk:=⟨350,[.zH .aq,.int .i64,.int .i64,.int .i64,.fn []],1,fun ai es=>match ai,es with
 | [.own 0,.int .i64 a,.int .i64 b,.int .i64 n,.fn f []],[(0,.row false .aq T l)]=>some ⟨fun _=>(0<=a ()/\0<=n ()/\0<=b ())/\a ()+n ()<=((l ()).length:Int)/\b ()+n ()<=((l ()).length:Int)/\(l ()).length<=1000000,.aU [],[(0,.row false .aq T fun _=>qa Tc.aq.aa (l ()) (a ()).toNat (b ()).toNat (n ()).toNat)]⟩
 | _,_=>none,true⟩
def aqr(T:Nat)(l:List ay)(a b n:Nat):Lp where
 X:=Nat
 ov k := [(10,.int .i64 fun _=>(k:Int)),(0,.own 0)]
 oe k := [(0,.row false .aq T fun _=>qa Tc.aq.aa l a b k)]
 I k:=k<=n
 μ k _:=n - k
 x0:=0
 nx:=some fun k=>k+1
theorem aqs:gp Tryz.prog Ta:=by
 refine AA [] trivial [] trivial Tryz.func350 (by kernel_rfl) fun ai es res h hp => ?_;simp only [Ta] at h;split at h
 case h_2=>cases h
 rename_i a b n f T l;cases h;obtain⟨l,rfl⟩:=eta (α:=List ay) l;obtain⟨a,rfl⟩:=eta (α:=Int) a;obtain⟨b,rfl⟩:=eta (α:=Int) b;obtain⟨n,rfl⟩:=eta (α:=Int) n;obtain⟨⟨h1,h2,h3⟩,h4,h5,h6⟩:(0<=a/\0<=n/\0<=b)/\a+n<=(l.length:Int)/\b+n<=(l.length:Int)/\l.length<=1000000:=hp;obtain⟨a,rfl⟩:=oI h1;obtain⟨b,rfl⟩:=oI h3;obtain⟨n,rfl⟩:=oI h2;refine⟨[(1,aqr T l a b n)],?_⟩
 conv=>arg 1; cbv
 refine⟨?_,fun (k:Nat) hk => ?_⟩
 . exact xb
 have fP:k<=n:=hk
 conv=>arg 1; cbv
 refine cL (qa Tc.aq.aa l a b k) fun L hL => ?_;have hlen:L.length=l.length:=by rw [<- hL,yW]
 simp (maxSteps:=4000000) only [aB];simp only [hL];refine⟨fun g => ?_,fun g => ?_⟩
 . refine⟨ii,ii,ii,⟨oo,oo⟩,ii,⟨oo,oo⟩,⟨oo,oo⟩,⟨oo,by rw [mZ]; omega⟩,ii,⟨oo,oo⟩,oo,?_⟩;rw [show ((a:Int)+(k:Int)).toNat=a+k from oo,show ((b:Int)+(k:Int)).toNat=b+k from oo,<- hL];rfl
 . rw [<- hL,show k=n from oo]
def Tb:fk:=⟨342,[.zH .aq,.int .i64,.int .i64,.int .i64,.fn []],1,fun ai es=>match ai,es with
 | [.own 0,.int .i64 a,.int .i64 m,.int .i64 b,.fn f []],[(0,.row false .aq T l)]=>some ⟨fun _=>(0<=a ()/\a ()<m ()/\m ()<b ())/\b ()<=((l ()).length:Int)/\(l ()).length<=1000000,.aU [],[(0,.row false .aq T fun _=>il (a ()).toNat (m ()).toNat (b ()).toNat (l ()))]⟩
 | _,_=>none,true⟩
def aqt(T:Nat)(l R:List ay)(m i j:Nat):Lp where
 X:=Nat×Nat×List ay
 ov p := [(10,.int .i64 fun _=>(p.1:Int)),(11,.int .i64 fun _=>(p.2.1:Int)),(0,.own 0)]
 oe p := [(0,.row false .aq T fun _=>p.2.2)]
 I p:=(1<=p.1/\p.1<=i)/\(1<=p.2.1/\p.2.1<=j)/\p.2.2.length=R.length/\il (m - p.1) m (m+p.2.1) p.2.2=R
 μ p _:=p.1+p.2.1
 x0:=(i,j,l)
 nx:=none
theorem aqu:gp Tryz.prog Tb:=by
 refine AA [] trivial [Ta] ⟨aqs,trivial⟩ Tryz.func342 (by kernel_rfl) fun ai es res h hp => ?_;simp only [Tb] at h;split at h
 case h_2=>cases h
 rename_i a m b f T l;cases h;obtain⟨l,rfl⟩:=eta (α:=List ay) l;obtain⟨a,rfl⟩:=eta (α:=Int) a;obtain⟨b,rfl⟩:=eta (α:=Int) b;obtain⟨m,rfl⟩:=eta (α:=Int) m;obtain⟨⟨h1,h2,h3⟩,h4,h5⟩:(0<=a/\a<m/\m<b)/\b<=(l.length:Int)/\l.length<=1000000:=hp;obtain⟨a,rfl⟩:=oI h1;obtain⟨b,rfl⟩:=oI (show 0<=b from oo);obtain⟨m,rfl⟩:=oI (show 0<=m from oo);refine cL (il a m b l) fun R hR => ?_;have hlR:R.length=l.length:=by rw [<- hR]; exact S5 oo oo oo
 refine cL (m - a) fun i0 sI => ?_;refine cL (b - m) fun j0 hj0 => ?_;refine⟨[(2,aqt T l R m i0 j0)],?_⟩
 conv=>arg 1; cbv
 simp only [KY,Rx,wV,CG,gV];refine⟨ii,ii,?_,fun (p:Nat×Nat×List ay) hp => ?_⟩
 . simp (maxSteps:=4000000) only [aB];refine⟨⟨⟨oo,oo⟩,⟨oo,oo⟩,oo,?_⟩,oo,oo,trivial⟩;rw [show m - i0=a from oo,show m+j0=b from oo];exact hR
 obtain⟨p1,p2,L⟩:=p;have cf:(1<=p1/\p1<=i0)/\(1<=p2/\p2<=j0)/\L.length=R.length/\il (m - p1) m (m+p2) L=R:=hp;have q1:=cf.1;have q2:=cf.2.1;have q3:=cf.2.2.1;have q4:=cf.2.2.2;clear hp cf
 conv=>arg 1; cbv
 simp (maxSteps:=4000000) only [aB];refine⟨fun g=>⟨fun g2 => ?_,fun g2 => ?_⟩,fun g => ?_⟩
 . have g1:p2<p1:=oo
   refine cL (p1 - p2) fun i hi => ?_;refine cL (qa Tc.aq.aa L (m - p1) m p2) fun L2 qJ => ?_;have Td:L2.length=R.length:=by rw [<- qJ,yW]; exact q3
   have hI:(1<=i/\i<=i0)/\(1<=p2/\p2<=j0)/\L2.length=R.length/\il (m - i) m (m+p2) L2=R:=by
    refine⟨⟨oo,oo⟩,q2,Td,?_⟩;rw [<- q4,<- qJ,<- hi,show m - (p1 - p2)=m - p1+p2 from oo];exact aqj oo oo rfl oo
   refine⟨ii,⟨⟨oo,oo,oo⟩,oo,oo,oo⟩,ii,⟨(i,p2,L2),⟨hI,by show i+p2<p1+p2; omega⟩,?_⟩⟩
   conv=>arg 1; cbv
   simp (maxSteps:=4000000) only [aB];refine⟨oo,trivial,?_⟩;rw [show ((m:Int) - (p1:Int)).toNat=m - p1 from oo,qJ]
 . have g1:p1<p2:=by
    simp only [iG,fR] at g;omega
   refine cL (p2 - p1) fun j hj => ?_;refine cL (qa Tc.aq.aa L (m - p1) (m+p2 - p1) p1) fun L2 qJ => ?_;have Td:L2.length=R.length:=by rw [<- qJ,yW]; exact q3
   have hI:(1<=p1/\p1<=i0)/\(1<=j/\j<=j0)/\L2.length=R.length/\il (m - p1) m (m+j) L2=R:=by
    refine⟨q1,⟨oo,oo⟩,Td,?_⟩;rw [<- q4,<- qJ,<- hj,show m+(p2 - p1)=m+p2 - p1 from oo];exact aqk oo oo oo
   refine⟨ii,ii,ii,⟨⟨oo,oo,oo⟩,oo,oo,oo⟩,ii,⟨(p1,j,L2),⟨hI,by show p1+j<p1+p2; omega⟩,?_⟩⟩
   conv=>arg 1; cbv
   simp (maxSteps:=4000000) only [aB];refine⟨trivial,oo,?_⟩;rw [show ((m:Int) - (p1:Int)).toNat=m - p1 from oo,show ((m:Int)+(p2:Int) - (p1:Int)).toNat=m+p2 - p1 from oo,qJ]
 . have g1:p1=p2:=by
    simp only [jY,aI] at g;omega
   refine⟨ii,⟨⟨oo,oo,oo⟩,oo,oo,oo⟩,?_⟩;rw [show ((m:Int) - (p1:Int)).toNat=m - p1 from oo,hR,<- q4];have:=aql (d:=Tc.aq.aa) (l:=L) (a:=m - p1) (m:=m) (b:=m+p2) oo oo oo oo;rw [<- this,show m - (m - p1)=p1 from oo]
end Go.Proofs.YtlpikgchnjajmaaGreat
