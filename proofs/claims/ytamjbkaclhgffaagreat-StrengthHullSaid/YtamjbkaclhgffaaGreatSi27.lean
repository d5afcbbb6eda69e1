/-
  Plain laws: a stable sort by a key is unique; what swapping, inserting and rotating keep.
-/
import Derived.Test.YtamjbkaclhgffaaGreatSi26
set_option linter.all false
set_option maxRecDepth 100000
set_option maxHeartbeats 4000000
namespace Go.Proofs.YtamjbkaclhgffaaGreat
open Go.RowKit
variable{N a a' b b' c e i j m s x:Nat}
theorem UW{α:Type}(d)(l:List α)(j i)(hj:j+1<l.length):(swapAt d l j).getD i d=if i=j then l.getD (j+1) d else if i=j+1 then l.getD j d else l.getD i d:=by
 unfold swapAt;rw [aX,ru,ru];by_cases h1:i=j
 . subst h1;simp [show i<l.length from oo]
 . rw [aw (fun e=>h1 e.symm),aw h1];by_cases h2:i=j+1
   . subst h2;simp [hj]
   . rw [aw (fun e=>h2 e.symm),aw h2,aX]
theorem MV(a b):jS a b=decide (a.aH<b.aH):=by
 unfold jS BC;by_cases h:a.aH<b.aH
 . simp [h]
 . by_cases h2:b.aH<a.aH<;>simp [h,h2]
section
variable{α:Type}(key : α->Int)(d : α)
def keyed(t:Int)(l:List α):List α:=l.filter fun x=>decide (key x=t)
structure Ren (a b:Nat) (l m:List α):Prop where
 len:m.length=l.length
 out:∀ i,i<a\/b<=i->m[i]? = l[i]?
 Hv:∀ t,keyed key t m=keyed key t l
def dU(a b:Nat)(l:List α):Prop:=∀ i k,a<=i->i<k->k<b->key (l.getD i d)<=key (l.getD k d)
theorem Ren.refl(a b)(l):Ren key a b l l:=⟨rfl,fun _ _=>rfl,fun _=>rfl⟩
variable{key}
theorem Ren.trans{l m n:List α}(h:Ren key a b l m)(g:Ren key a b m n):Ren key a b l n :=
 ⟨g.len.trans h.len,fun i hi=>(g.out i hi).trans (h.out i hi),fun t=>(g.Hv t).trans (h.Hv t)⟩
theorem Ren.wide{l m:List α}(h:Ren key a b l m)(ha:a'<=a)(hb:b<=b'):Ren key a' b' l m :=
 ⟨h.len,fun i hi=>h.out i oo,h.Hv⟩
variable{d}
theorem Ren.get{l m:List α}(h:Ren key a b l m)(hi:i<a\/b<=i):m.getD i d=l.getD i d:=by
 rw [aX,h.out i hi,<- aX]
theorem dU.le{l:List α}(h:dU key d a b l){k:Nat}(hi:a<=i)(kJ:i<=k)(hk:k<b):key (l.getD i d)<=key (l.getD k d):=by
 rcases b9 i k with g|g
 . exact h i k hi g hk
 . rw [show i=k from oo]; exact rD _
theorem afO:∀ {l m:List α},l.Pairwise (fun x y=>key x<=key y)->m.Pairwise (fun x y=>key x<=key y)->(∀ t,keyed key t l=keyed key t m)->l=m
 | [],[],_,_,_=>rfl
 | [],y::m,_,_,h=>by
  have:=h (key y);simp [keyed] at this
 | x::l,[],_,_,h=>by
  have:=h (key x);simp [keyed] at this
 | x::l,y::m,h1,h2,h=>by
  have hx:x∈keyed key (key x) (y::m):=by rw [<- h]; simp [keyed]
  have hy:y∈keyed key (key y) (x::l):=by rw [h]; simp [keyed]
  have UX:=(Eo.1 hx).1;have qP:=(Eo.1 hy).1;have e1:key y<=key x:=by
   rcases fM.1 UX with g|g
   . rw [g]; exact rD _
   . exact (ui.1 h2).1 x g
  have e2:key x<=key y:=by
   rcases fM.1 qP with g|g
   . rw [g]; exact rD _
   . exact (ui.1 h1).1 y g
  have e:key x=key y:=oo
  have h3:=h (key x);simp only [keyed,IN,rB,eO,e,ry] at h3;obtain⟨rfl,h4⟩:=h3;have h5:∀ t,keyed key t l=keyed key t m:=fun t=>by
   have:=h t;simp only [keyed,IN] at this;split at this
   . exact (List.cons.inj this).2
   . exact this
  rw [afO (ui.1 h1).2 (ui.1 h2).2 h5]
theorem DS{l:List α}(bk:a<=b):l=l.take a++((l.take b).drop a++l.drop b):=by
 rw [<- fR]
 conv=>lhs; rw [<- jB b l]
 congr 1
 conv=>lhs; rw [<- jB a (l.take b)]
 rw [Es,xA bk]
theorem afP{l:List α}(hb:b<=l.length)(h:dU key d a b l):((l.take b).drop a).Pairwise fun x y=>key x<=key y:=by
 rw [xw];intro i j hi hj iu;simp only [iD,cL] at hi hj;have:=h (a+i) (a+j) oo oo oo;rw [aX,aX,bc oo,bc oo] at this;simpa [ajm,ajl] using this
theorem auN{l m n:List α}(bk:a<=b)(hb:b<=l.length)(h1:Ren key a b l m)(h2:Ren key a b l n)(s1:dU key d a b m)(s2:dU key d a b n):m=n:=by
 have ht:m.take a=n.take a:=vL fun i=>by
  rw [eh,eh];split
  . rw [h1.out i (.inl oo),h2.out i (.inl oo)]
  . rfl
 have hd:m.drop b=n.drop b:=vL fun i=>by
  rw [lG,lG,h1.out _ (.inr oo),h2.out _ (.inr oo)]
 rw [DS (l:=m) bk,DS (l:=n) bk,ht,hd];congr 2;refine afO (key:=key) (afP (by rw [h1.len]; exact hb) s1) (afP (by rw [h2.len]; exact hb) s2) fun t => ?_;have h:=(h1.Hv t).trans (h2.Hv t).symm;rw [DS (l:=m) bk,DS (l:=n) bk,ht,hd] at h;simp only [keyed,BZ] at h;exact List.append_cancel_right (List.append_cancel_left h)
def pa(key : α->Int)(x : α):List α->List α
 | [] => [x]
 | y::l=>if key x<=key y then x::y::l else y::pa key x l
def nF(key : α->Int)(l:List α):List α:=l.foldr (pa key) []
theorem afQ(t)(x):∀ l,keyed key t (pa key x l)=keyed key t (x::l)
 | []=>rfl
 | y::l=>by
  unfold pa;split
  . rfl
  . have:=afQ t x l;simp only [keyed,IN] at this ⊢;rw [this];by_cases h1:key x=t<;>by_cases h2:key y=t<;>simp [h1,h2]
    omega
theorem afR(t):∀ l,keyed key t (nF key l)=keyed key t l
 | []=>rfl
 | x::l=>by
  have h:=afQ (key:=key) t x (nF key l);have ih:=afR t l;simp only [keyed,IN] at h ih ⊢;rw [show nF key (x::l)=pa key x (nF key l) from rfl,h,ih]
theorem afS(x):∀ l,(pa key x l).length=l.length+1
 | []=>rfl
 | y::l=>by
  unfold pa;split
  . rfl
  . rw [cB,afS x l,cB]
theorem MW:∀ l,(nF key l).length=l.length
 | []=>rfl
 | x::l=>by
  rw [show nF key (x::l)=pa key x (nF key l) from rfl,afS,MW l,cB]
theorem UY(x):∀ {l} {y},y∈pa key x l->y=x\/y∈l
 | [],y,h => .inl (by simpa [pa] using h)
 | z::l,y,h=>by
  unfold pa at h;split at h
  . simpa using h
  . rcases fM.1 h with g|g
    . exact .inr (by simp [g])
    . rcases UY x g with g|g
      . exact .inl g
      . exact .inr (by simp [g])
theorem afT(x):∀ {l:List α},l.Pairwise (fun x y=>key x<=key y)->(pa key x l).Pairwise fun x y=>key x<=key y
 | [],_=>by simp [pa]
 | y::l,h=>by
  obtain⟨h1,h2⟩:=ui.1 h;unfold pa;split
  . rename_i g;exact ui.2 ⟨fun z hz=>by
     rcases fM.1 hz with e|e
     . rw [e]; exact g
     . exact Int.le_trans g (h1 z e),h⟩
  . rename_i g;exact ui.2 ⟨fun z hz=>by
     rcases UY x hz with e|e
     . rw [e]; omega
     . exact h1 z e,afT x h2⟩
theorem afU:∀ l,(nF key l).Pairwise fun x y=>key x<=key y
 | []=>List.Pairwise.nil
 | x::l=>afT x (afU l)
def cK(key : α->Int)(a b:Nat)(l:List α):List α:=l.take a++(nF key ((l.take b).drop a)++l.drop b)
theorem qd{l:List α}(bk:a<=b)(hb:b<=l.length):Ren key a b l (cK key a b l):=by
 have hn:(nF key ((l.take b).drop a)).length=b - a:=by rw [MW,iD,cL]; omega
 refine⟨?_,fun i hi => ?_,fun t => ?_⟩
 . unfold cK;simp only [dp,hn,cL,iD];omega
 . unfold cK;rw [BT];simp only [cL];rcases hi with hi|hi
   . rw [aC oo,eh,aC hi]
   . rw [aw oo,BT,hn,aw oo,lG];congr 1;omega
 . unfold cK;have h:=afR (key:=key) t ((l.take b).drop a)
   conv=>rhs; rw [DS (l:=l) bk]
   simp only [keyed,BZ] at h ⊢;rw [h]
theorem xm{l:List α}(bk:a<=b)(hb:b<=l.length):dU key d a b (cK key a b l):=by
 have hn:(nF key ((l.take b).drop a)).length=b - a:=by rw [MW,iD,cL]; omega
 intro i k hi kJ hk;have hg:∀ j,a<=j->(hj:j<b)->(cK key a b l).getD j d=(nF key ((l.take b).drop a))[j - a]'oo:=fun j h1 h2=>by
  exact afV
 rw [hg i hi oo,hg k oo hk];exact xw.1 (afU _) _ _ _ _ oo
theorem DT{l m:List α}(bk:a<=b)(hb:b<=l.length)(h:Ren key a b l m)(s:dU key d a b m):m=cK key a b l :=
 auN bk hb h (qd bk hb) s (xm bk hb)
theorem afW:∀ {l:List α} {y},y∈nF key l->y∈l
 | [],y,h=>h
 | x::l,y,h=>by
  rcases UY x (show y∈pa key x (nF key l) from h) with g|g
  . rw [g]; exact WC
  . exact NR _ (afW g)
theorem afX{l:List α}(bk:a<=b)(hb:b<=l.length)(h1:a<=x)(h2:x<b):∃ i,a<=i/\i<b/\(cK key a b l).getD x d=l.getD i d:=by
 have hn:(nF key ((l.take b).drop a)).length=b - a:=by rw [MW,iD,cL]; omega
 have hg:(cK key a b l).getD x d=(nF key ((l.take b).drop a))[x - a]'oo:=by
  exact afV
 obtain⟨i,hi⟩:=kT.1 (afW (iT (show x - a<(nF key ((l.take b).drop a)).length from oo)));rw [lG,eh] at hi;split at hi
 . exact⟨a+i,oo,oo,by rw [hg,aX,hi]; rfl⟩
 . cases hi
/- two Y7 lie side by side -/
theorem afY{l:List α}(hj:j+1<l.length)(ha:a<=j)(hb:j+1<b)(h:key (l.getD (j+1) d)≠key (l.getD j d)):Ren key a b l (swapAt d l j):=by
 refine⟨zh d l j,fun i hi => ?_,fun t => ?_⟩
 . unfold swapAt;rw [NS oo,NS oo]
 . have e1:l.getD j d=l[j]:=by rw [aX,bc oo,ia]
   have e2:l.getD (j+1) d=l[j+1]:=by rw [aX,bc hj,ia]
   have h1:l=l.take j++l[j]::l[j+1]::l.drop (j+2):=by
    rw [Wz,Wz,jB]
   have h2:swapAt d l j=l.take j++l[j+1]::l[j]::l.drop (j+2):=by
    unfold swapAt;rw [e1,e2];exact afZ
   rw [h2]
   conv=>rhs; rw [h1]
   rw [e1,e2] at h;simp only [keyed,BZ,IN];congr 1;by_cases g1:key l[j]=t<;>by_cases g2:key l[j+1]=t<;>simp [g1,g2]
   omega
/- one auO up,one auO down -/
def vy(d : α)(l:List α)(a:Nat):Nat->List α
 | 0=>l
 | n+1=>swapAt d (vy d l a n) (a+n)
theorem MX(l)(a):∀ n,(vy d l a n).length=l.length
 | 0=>rfl
 | n+1=>by unfold vy; rw [zh,MX l a n]
theorem Hx(l)(a):∀ n,a+n<l.length->∀ i,(vy d l a n).getD i d=if a<=i/\i<a+n then l.getD (i+1) d else if i=a+n then l.getD a d else l.getD i d
 | 0,hn,i=>by
  unfold vy;rw [aw oo];split
  . rename_i h; rw [h]; rfl
  . rfl
 | n+1,hn,i=>by
  have ih:=Hx l a n oo;unfold vy;rw [UW _ _ _ _ (by rw [MX]; omega),ih,ih,ih];grind
theorem af0{l:List α}{a b:Nat}:∀ n,a+n<l.length->a+n<b->(∀ i,a<i->i<=a+n->key (l.getD i d)<key (l.getD a d))->Ren key a b l (vy d l a n)
 | 0,_,_,_=>Ren.refl key a b l
 | n+1,hn,hb,h=>by
  refine (af0 n oo oo fun i h1 h2=>h i h1 oo).trans (afY (by rw [MX]; omega) oo oo ?_);rw [Hx l a n oo,Hx l a n oo,aw oo,aw oo,aw oo,aC rfl];have:=h (a+n+1) oo oo;omega
theorem auP{l:List α}(hb:b<=l.length)(hi:a+1<=i/\i<=b)(s:dU key d (a+1) b l)(h1:∀ k,a+1<=k->k<i->key (l.getD k d)<key (l.getD a d))(h2:∀ k,i<=k->k<b->key (l.getD a d)<=key (l.getD k d)):vy d l a (i - 1 - a)=cK key a b l:=by
 refine DT (d:=d) oo hb (af0 _ oo oo fun k g1 g2=>h1 k oo oo) fun x y g1 g2 g3 => ?_;rw [Hx l a _ oo,Hx l a _ oo];have e:a+(i - 1 - a)=i - 1:=oo
 rw [e];by_cases c1:x<i - 1
 . rw [aC ⟨g1,c1⟩];by_cases c2:y<i - 1
   . rw [aC ⟨oo,c2⟩];exact DU
   . rw [aw oo];split
     . exact Oa (h1 _ oo oo)
     . exact DU
 . rw [aw (show ¬ (a<=x/\x<i - 1) from oo),aw (show ¬ (a<=y/\y<i - 1) from oo),aw (show ¬ y=i - 1 from oo)];split
   . exact h2 _ oo oo
   . exact DU
def nG(d : α)(l:List α)(m:Nat):Nat->List α
 | 0=>l
 | n+1=>swapAt d (nG d l m n) (m - n - 1)
theorem MY(l)(m):∀ n,(nG d l m n).length=l.length
 | 0=>rfl
 | n+1=>by unfold nG; rw [zh,MY l m n]
theorem BD(l)(m)(hm:m<l.length):∀ n,n<=m->∀ i,(nG d l m n).getD i d=if m - n<i/\i<=m then l.getD (i - 1) d else if i=m - n then l.getD m d else l.getD i d
 | 0,hn,i=>by
  unfold nG;rw [aw oo];split
  . rename_i h; rw [h]; rfl
  . rfl
 | n+1,hn,i=>by
  have ih:=BD l m hm n oo;unfold nG;rw [UW _ _ _ _ (by rw [MY]; omega),ih,ih,ih];grind
theorem af1{l:List α}{a b m:Nat}(hm:m<l.length)(hb:m<b):∀ n,a+n<=m->(∀ i,m - n<=i->i<m->key (l.getD m d)<key (l.getD i d))->Ren key a b l (nG d l m n)
 | 0,_,_=>Ren.refl key a b l
 | n+1,hn,h=>by
  refine (af1 hm hb n oo fun i h1 h2=>h i oo oo).trans (afY (by rw [MY]; omega) oo oo ?_);rw [BD l m hm n oo,BD l m hm n oo,aw oo,aC oo,aw oo,aw oo];have:=h (m - n - 1) oo oo;omega
theorem UZ{l:List α}(hm:m<l.length)(hi:a<=i/\i<=m)(s:dU key d a m l)(h1:∀ k,a<=k->k<i->key (l.getD k d)<=key (l.getD m d))(h2:∀ k,i<=k->k<m->key (l.getD m d)<key (l.getD k d)):nG d l m (m - i)=cK key a (m+1) l:=by
 refine DT (d:=d) oo oo (af1 hm oo _ oo fun k g1 g2=>h2 k oo oo) fun x y g1 g2 g3 => ?_;rw [BD l m hm _ oo,BD l m hm _ oo];have e:m - (m - i)=i:=oo
 rw [e];by_cases c1:x<i
 . rw [aw oo,aw oo];by_cases c2:y<i
   . rw [aw oo,aw oo];exact DU
   . by_cases c3:y=i
     . rw [aw oo,aC c3];exact h1 _ oo oo
     . rw [aC oo];exact DU
 . rw [aC (show i<y/\y<=m from oo)];by_cases c2:x=i
   . rw [aw oo,aC c2];exact Oa (h2 _ oo oo)
   . rw [aC oo];exact DU
/- blocks -/
def Hy(d : α)(l:List α)(i j:Nat):List α:=(l.set i (l.getD j d)).set j (l.getD i d)
def qe(d : α)(l:List α)(a b:Nat):Nat->List α
 | 0=>l
 | n+1=>Hy d (qe d l a b n) (a+n) (b+n)
theorem auQ(l)(i j):(Hy d l i j).length=l.length:=by unfold Hy; simp
theorem auR(l)(hi:i<l.length)(hj:j<l.length)(k):(Hy d l i j)[k]? = if k=j then l[i]? else if k=i then l[j]? else l[k]? := by
 unfold Hy;rw [ru,ru,nH,aX,aX,bc hi,bc hj];by_cases h1:j=k
 . subst h1; simp [hj]
 . rw [aw h1,aw (show ¬ k=j from fun e=>h1 e.symm)];by_cases h2:i=k
   . subst h2; simp [hi]
   . rw [aw h2,aw (show ¬ k=i from fun e=>h2 e.symm)]
theorem zi(l)(a b):∀ n,(qe d l a b n).length=l.length
 | 0=>rfl
 | n+1=>by unfold qe; rw [auQ,zi l a b n]
theorem zj(l)(a b):∀ n,a+n<=b->b+n<=l.length->∀ k,(qe d l a b n)[k]? = if a<=k/\k<a+n then l[b+(k - a)]? else if b<=k/\k<b+n then l[a+(k - b)]? else l[k]?
 | 0,h1,h2,k=>by unfold qe; rw [aw oo,aw oo]
 | n+1,h1,h2,k=>by
  have ih:=zj l a b n oo oo;unfold qe;rw [auR _ (by rw [zi]; omega) (by rw [zi]; omega),ih,ih,ih];grind
def iq(a m b:Nat)(l:List α):List α:=l.take a++((l.take b).drop m++((l.take m).drop a++l.drop b))
theorem U0{l:List α}(h1:a<=m)(h2:m<=b)(h3:b<=l.length):(iq a m b l).length=l.length:=by
 unfold iq;simp only [dp,iD,cL];omega
theorem zk{l:List α}(h1:a<=m)(h2:m<=b)(h3:b<=l.length)(k):(iq a m b l)[k]? = if a<=k/\k<a+(b - m) then l[m+(k - a)]? else if a+(b - m)<=k/\k<b then l[k - (b - m)]? else l[k]? := by
 unfold iq;rw [BT];simp only [cL,show min a l.length=a from oo];by_cases c1:k<a
 . rw [aC c1,aw oo,aw oo,eh,aC c1]
 . rw [aw c1,BT];simp only [iD,cL,show min b l.length=b from oo];by_cases c2:k - a<b - m
   . rw [aC c2,aC (show a<=k/\k<a+(b - m) from oo),lG,eh,aC oo]
   . rw [aw c2,aw (show ¬ (a<=k/\k<a+(b - m)) from oo),BT];simp only [iD,cL,show min m l.length=m from oo];by_cases c3:k - a - (b - m)<m - a
     . rw [aC c3,aC oo,lG,eh,aC oo];congr 1;omega
     . rw [aw c3,aw oo,lG];congr 1;omega
theorem auS{l:List α}(h1:a<m)(h3:b<=l.length)(hj:b=m+j)(ah:j<m - a):iq (a+j) m b (qe d l a m j)=iq a m b l:=by
 apply vL;intro k;rw [zk oo oo (by rw [zi]; omega),zk oo oo h3,zj l a m j oo oo,zj l a m j oo oo,zj l a m j oo oo];grind
theorem auT{l:List α}(h3:b<=l.length)(hm:m=a+i)(ah:i<b - m):iq a m (b - i) (qe d l a (b - i) i)=iq a m b l:=by
 apply vL;intro k;rw [zk oo oo (by rw [zi]; omega),zk oo oo h3,zj l a _ i oo oo,zj l a _ i oo oo,zj l a _ i oo oo]
 repeat' split
 all_goals first|(exfalso; omega)|(congr 1; omega)|rfl
theorem auU{l:List α}(h1:a<=m)(h3:b<=l.length)(he:m - a=b - m)(h2:m<=b):qe d l a m (m - a)=iq a m b l:=by
 apply vL;intro k;rw [zk oo oo h3,zj l a m _ oo oo];grind
theorem auV{l:List α}{A B:Nat}(h1:a<=m)(h2:m<=b)(h3:b<=l.length)(hA:A<=a)(hB:b<=B)(h:∀ i k,a<=i->i<m->m<=k->k<b->key (l.getD k d)<key (l.getD i d)):Ren key A B l (iq a m b l):=by
 refine⟨U0 h1 h2 h3,fun i hi=>by rw [zk h1 h2 h3,aw oo,aw oo],fun t => ?_⟩;have e:l=l.take a++((l.take m).drop a++((l.take b).drop m++l.drop b)):=by
  conv=>lhs; rw [DS (l:=l) (a:=a) (b:=b) oo]
  congr 1;rw [<- fR];congr 1
  conv=>lhs; rw [<- jB (m - a) ((l.take b).drop a)]
  rw [uo,show a+(m - a)=m from oo,<- List.drop_take,Es,show min m b=m from oo]
 conv=>rhs; rw [e]
 unfold iq;simp only [keyed,BZ];congr 1;rw [<- fR,<- fR];congr 1;have hx:∀ x∈(l.take m).drop a,∃ i,a<=i/\i<m/\l.getD i d=x:=fun x hx=>by
  obtain⟨i,hi⟩:=kT.1 hx;rw [lG,eh] at hi;split at hi
  . exact⟨a+i,oo,oo,by rw [aX,hi]; rfl⟩
  . cases hi
 have hy:∀ y∈(l.take b).drop m,∃ k,m<=k/\k<b/\l.getD k d=y:=fun x hx=>by
  obtain⟨i,hi⟩:=kT.1 hx;rw [lG,eh] at hi;split at hi
  . exact⟨m+i,oo,oo,by rw [aX,hi]; rfl⟩
  . cases hi
 by_cases g:∃ x∈(l.take m).drop a,key x=t
 . obtain⟨x,UX,hxt⟩:=g;obtain⟨i,i1,i2,i3⟩:=hx x UX;have:((l.take b).drop m).filter (fun x=>decide (key x=t)) = []:=by
    rw [NP];intro y U1;obtain⟨k,k1,k2,k3⟩:=hy y U1;have:=h i k i1 i2 k1 k2;rw [i3,k3] at this;simp only [aL];omega
   rw [this,pt,oz]
 . have:((l.take m).drop a).filter (fun x=>decide (key x=t)) = []:=by
    rw [NP];intro y U1 EJ;exact g ⟨y,U1,rv EJ⟩
   rw [this,pt,oz]
theorem auW{l l1 l2 l3:List α}(hb:b<=l.length)(h:a<=s/\s<=m/\m<=e/\e<=b)(hc:c=s+(e - m))(sa:dU key d a m l)(sb:dU key d m b l)(ux:s=a\/e=b\/key (l.getD (s - 1) d)<=key (l.getD e d))(ym:s=m\/e=m\/key (l.getD (e - 1) d)<key (l.getD s d))(h1:l1=iq s m e l)(h2:l2=cK key a c l1)(h3:l3=cK key c b l2):l3=cK key a b l:=by
 have af2:∀ i k,s<=i->i<m->m<=k->k<e->key (l.getD k d)<key (l.getD i d):=fun i k i1 i2 k1 k2=>by
  have q:key (l.getD (e - 1) d)<key (l.getD s d):=by rcases ym with g|g|g<;>first|exact g|omega
  have q1:=sb.le k1 (show k<=e - 1 from oo) oo;have q2:=sa.le (show a<=s from oo) i1 i2;omega
 have r1:Ren key a b l l1:=by rw [h1]; exact auV oo oo oo oo oo af2
 have n1:=r1.len;have r2:Ren key a c l1 l2:=by rw [h2]; exact qd oo oo
 have n2:=r2.len;have r3:Ren key c b l2 l3:=by rw [h3]; exact qd oo oo
 refine DT (d:=d) oo hb ((r1.trans (r2.wide oo oo)).trans (r3.wide oo oo)) fun x y g1 g2 g3 => ?_;have s2:dU key d a c l2:=by rw [h2]; exact xm oo oo
 have s3:dU key d c b l3:=by rw [h3]; exact xm oo oo
 by_cases c1:c<=x
 . exact s3 x y c1 g2 g3
 by_cases c2:y<c
 . rw [r3.get (.inl oo),r3.get (.inl oo)];exact s2 x y g1 g2 c2
 obtain⟨i,i1,i2,i3⟩:=afX (key:=key) (d:=d) (l:=l1) (a:=a) (b:=c) oo oo g1 (show x<c from oo);obtain⟨k,k1,k2,k3⟩:=afX (key:=key) (d:=d) (l:=l2) (a:=c) (b:=b) oo oo (show c<=y from oo) g3;rw [r3.get (.inl oo),h2,i3,h3,k3,r2.get (.inr oo),h1];have hr:∀ q,(iq s m e l).getD q d=if s<=q/\q<s+(e - m) then l.getD (m+(q - s)) d else if s+(e - m)<=q/\q<e then l.getD (q - (e - m)) d else l.getD q d:=fun q=>by
  exact af3
 rw [hr,hr];by_cases q1:i<s
 . rw [aw oo,aw oo,aw oo];by_cases q2:k<e
   . rw [aC oo];exact U2
   . rw [aw oo];have p1:key (l.getD (s - 1) d)<=key (l.getD e d):=by rcases ux with g|g|g<;>first|exact g|omega
     have p2:=sa.le (show a<=i from oo) (show i<=s - 1 from oo) oo;have p3:=sb.le (show m<=e from oo) (show e<=k from oo) k2;omega
 . rw [aC oo,aw oo];by_cases q2:k<e
   . rw [aC oo];exact Oa (af2 _ _ oo oo oo oo)
   . rw [aw oo];exact U3
theorem auX{l:List α}(h1:s<=m)(h2:m<=e)(h3:e<=l.length)(h:s=m\/m=e):iq s m e l=l:=by
 apply vL;intro k;rw [zk h1 h2 h3];grind
theorem Hz{l:List α}(bk:a<=b)(hb:b<=l.length)(h:dU key d a b l):cK key a b l=l:=(DT bk hb (Ren.refl key a b l) h).symm
theorem auY{l:List α}(hb:b<=l.length)(h:a<=s/\s<=m/\m<=e/\e<=b)(sa:dU key d a m l)(sb:dU key d m b l) :
 (dU key d a s (iq s m e l)/\dU key d s (s+(e - m)) (iq s m e l))/\dU key d (s+(e - m)) e (iq s m e l)/\dU key d e b (iq s m e l):=by
 have hr:∀ q,(iq s m e l).getD q d=if s<=q/\q<s+(e - m) then l.getD (m+(q - s)) d else if s+(e - m)<=q/\q<e then l.getD (q - (e - m)) d else l.getD q d:=fun q=>by
  exact af3
 refine⟨⟨fun i k h1 h2 h3 => ?_,fun i k h1 h2 h3 => ?_⟩,fun i k h1 h2 h3 => ?_,fun i k h1 h2 h3 => ?_⟩<;>rw [hr,hr]
 . rw [aw oo,aw oo,aw oo,aw oo];exact U2
 . rw [aC oo,aC oo];exact U3
 . rw [aw oo,aC oo,aw oo,aC oo];exact U2
 . rw [aw oo,aw oo,aw oo,aw oo];exact U3
theorem dU.out{l n:List α}(h:dU key d a b l)(hr:Ren key a' b' l n)(hd:b<=a'\/b'<=a):dU key d a b n:=fun i k h1 h2 h3=>by
 rw [hr.get oo,hr.get oo];exact h i k h1 h2 h3
def HG(key : α->Int)(d : α)(b e mid N:Nat)(Y G:List α):Prop :=
 (mid<(e:Int)->(e<(b:Int)->((0<=(mid:Int)/\mid<(e:Int)/\e<(b:Int))/\(b<=(Y.length:Int)/\b - mid<=(N:Int))/\Y.length<=1000000/\dU key d mid e Y/\dU key d e b Y)/\cK key mid b Y=G)/\(¬ e<(b:Int)->Y=G))/\(¬ mid<(e:Int)->Y=G)
def af4(key : α->Int)(d : α)(a b s e mid N:Nat)(X G:List α):Prop :=
 (a<(s:Int)->(s<(mid:Int)->((0<=(a:Int)/\a<(s:Int)/\s<(mid:Int))/\(mid<=(X.length:Int)/\mid - a<=(N:Int))/\X.length<=1000000/\dU key d a s X/\dU key d s mid X)/\HG key d b e mid N (cK key a mid X) G)/\(¬ s<(mid:Int)->HG key d b e mid N X G))/\(¬ a<(s:Int)->HG key d b e mid N X G)
theorem af5{mid:Nat}{Y G:List α}(hb:b<=Y.length)(hY:Y.length<=1000000)(hN:b<=mid+N)(he:mid<=e/\e<=b)(h3:dU key d mid e Y)(h4:dU key d e b Y)(hG:cK key mid b Y=G):HG key d b e mid N Y G:=by
 have hid:e=b\/mid=e->Y=G:=fun h=>by
  rw [<- hG];refine (Hz (d:=d) oo hb ?_).symm;rcases h with h|h
  . rw [<- h]; exact h3
  . rw [h]; exact h4
 exact⟨fun g1=>⟨fun g2=>⟨⟨⟨oo,g1,g2⟩,⟨oo,oo⟩,hY,h3,h4⟩,hG⟩,fun g2=>hid (.inl oo)⟩,fun g1=>hid (.inr oo)⟩
theorem af6{l:List α}{mid:Nat}(hb:b<=l.length)(hl:l.length<=1000000)(hN:b<=mid+N/\mid<=a+N)(h:a<=s/\s<=m/\m<=e/\e<=b)(hc:mid=s+(e - m))(bk:a<=mid)(sa:dU key d a m l)(sb:dU key d m b l)(ux:s=a\/e=b\/key (l.getD (s - 1) d)<=key (l.getD e d))(ym:s=m\/e=m\/key (l.getD (e - 1) d)<key (l.getD s d)):af4 key d a b s e mid N (iq s m e l) (cK key a b l):=by
 have hW:=auW (key:=key) (d:=d) hb h hc sa sb ux ym rfl rfl rfl;obtain⟨⟨p1,p2⟩,p3,p4⟩:=auY (key:=key) (d:=d) hb h sa sb;rw [<- hc] at p2 p3;have n1:(iq s m e l).length=l.length:=U0 oo oo oo;generalize iq s m e l=X at *
 have r2:Ren key a mid X (cK key a mid X):=qd bk oo;have hid:s=a\/s=mid->cK key a mid X=X:=fun g=>Hz (d:=d) bk oo (by
  rcases g with g|g
  . rw [<- g]; exact p2
  . rw [<- g]; exact p1)
 have hY:s=a\/s=mid->HG key d b e mid N X (cK key a b l):=fun g=>af5 oo oo hN.1 oo p3 p4 (by rw [<- hW,hid g]);exact⟨fun g1=>⟨fun g2=>⟨⟨⟨oo,g1,g2⟩,⟨oo,oo⟩,oo,p1,p2⟩,af5 (by rw [r2.len]; omega) (by rw [r2.len]; omega) hN.1 oo (p3.out r2 (.inr (aA _))) (p4.out r2 (.inr oo)) hW⟩,fun g2=>hY (.inr oo)⟩,fun g1=>hY (.inl oo)⟩
theorem auZ{l:List α}(h1:a<=c)(h2:c<=b)(hb:b<=l.length)(d : α):cK key a b (cK key a c l)=cK key a b l:=by
 have r1:Ren key a c l (cK key a c l):=qd h1 oo;exact DT (d:=d) oo hb ((r1.wide (aA _) h2).trans (qd oo (by rw [r1.len]; exact hb))) (xm oo (by rw [r1.len]; exact hb))
theorem af7{lt : α -> α->Bool}(ah:∀ x y,lt x y=decide (key x<key y)){l:List α}{a m:Nat}(ham:a<=m)(hm:m<l.length)(s:dU key d a m l):∀ r n,m - n=a+r->n<=m->(∀ k,m - n<=k->k<m->key (l.getD m d)<key (l.getD k d))->kN lt d a (m - n) (nG d l m n)=cK key a (m+1) l
 | 0,n,hr,hn,h=>by
  have gG:=UZ (key:=key) (d:=d) (a:=a) (i:=a) hm ⟨aA _,ham⟩ s (fun k k1 k2=>absurd k2 oo) (fun k k1 k2=>h k oo k2);rw [show m - a=n from oo] at gG;rw [<- gG]
  cases hj:m - n with
  | zero=>rfl
  | succ j =>
   unfold kN;rw [jW oo,B8,gj]
 | r+1,n,hr,hn,h=>by
  obtain⟨j,hj⟩:∃ j,m - n=j+1:=⟨m - n - 1,oo⟩
  have e1:(nG d l m n).getD (j+1) d=l.getD m d:=by rw [BD l m hm n hn,aw oo,aC oo]
  have e2:(nG d l m n).getD j d=l.getD j d:=by rw [BD l m hm n hn,aw oo,aw oo]
  rw [hj];unfold kN;rw [e1,e2,ah,dP (show a<j+1 from oo),eu];by_cases hk:key (l.getD m d)<key (l.getD j d)
  . rw [dP hk,eG];have ih:=af7 ah ham hm s r (n+1) oo oo fun k k1 k2=>by
     by_cases e:k=j
     . rw [e]; exact hk
     . exact h k oo k2
    rw [show m - (n+1)=j from oo] at ih;rw [<- ih];show kN lt d a j (swapAt d (nG d l m n) j)=kN lt d a j (swapAt d (nG d l m n) (m - n - 1))
    rw [show m - n - 1=j from oo]
  . rw [jW hk,gj];have gG:=UZ (key:=key) (d:=d) (a:=a) (i:=m - n) hm ⟨oo,oo⟩ s (fun k k1 k2=>by
     have:=s.le k1 (show k<=j from oo) oo
     omega) h
    rw [show m - (m - n)=n from oo] at gG;exact gG
theorem af9{lt : α -> α->Bool}(ah:∀ x y,lt x y=decide (key x<key y)){l:List α}{a:Nat}:∀ n,a+1+n<=l.length->og lt d a l n=cK key a (a+1+n) l
 | 0,h=>(Hz (d:=d) oo h fun i k h1 h2 h3=>oo).symm
 | n+1,h=>by
  have ih:og lt d a l n=cK key a (a+1+n) l:=af9 ah n oo;have r1:Ren key a (a+1+n) l (cK key a (a+1+n) l):=qd oo oo;unfold og;rw [ih];have:=af7 (key:=key) (d:=d) ah (l:=cK key a (a+1+n) l) (a:=a) (m:=a+1+n) oo (by rw [r1.len]; omega) (xm (l:=l) (a:=a) (b:=a+1+n) oo oo) (n+1) 0 oo oo (fun k h1 h2=>oo);rw [show a+1+n - 0=a+1+n from oo] at this;rw [show nG d (cK key a (a+1+n) l) (a+1+n) 0=cK key a (a+1+n) l from rfl] at this;rw [this];exact auZ (l:=l) (a:=a) (c:=a+1+n) (b:=a+1+n+1) oo oo oo d
theorem U4{lt : α -> α->Bool}(ah:∀ x y,lt x y=decide (key x<key y)){l:List α}(bk:a<=b)(hb:b<=l.length):BA lt d a b l=cK key a b l:=by
 unfold BA;by_cases h:b<=a+1
 . rw [show b - (a+1)=0 from oo];exact (Hz (d:=d) bk hb fun i k h1 h2 h3=>oo).symm
 . rw [af9 (l:=l) (a:=a) ah (b - (a+1)) oo,show a+1+(b - (a+1))=b from oo]
end
def U5:fO:=⟨257,[.zS .al,.int .i64,.int .i64,.int .i64,.fn []],1,fun ai es=>match ai,es with
 | [.own 0,.int .i64 a,.int .i64 b,.int .i64 n,.fn f []],[(0,.row false .al T l)]=>some ⟨fun _=>(0<=a ()/\0<=n ()/\0<=b ())/\a ()+n ()<=((l ()).length:Int)/\b ()+n ()<=((l ()).length:Int)/\(l ()).length<=1000000,.ba [],[(0,.row false .al T fun _=>qe Tc.al.aa (l ()) (a ()).toNat (b ()).toNat (n ()).toNat)]⟩
 | _,_=>none,true⟩
def au0(T:Nat)(l:List az)(a b n:Nat):Lp where
 X:=Nat
 ov k := [(10,.int .i64 fun _=>(k:Int)),(0,.own 0)]
 oe k := [(0,.row false .al T fun _=>qe Tc.al.aa l a b k)]
 I k:=k<=n
 μ k _:=n - k
 x0:=0
 nx:=some fun k=>k+1
theorem au1:ij Tryz.prog U5:=by
 refine Gz [] trivial [] trivial Tryz.func257 (by kernel_rfl) fun ai es res h hp => ?_;simp only [U5] at h;split at h
 case h_2=>cases h
 rename_i a b n f T l;cases h;obtain⟨l,rfl⟩:=eta (α:=List az) l;obtain⟨a,rfl⟩:=eta (α:=Int) a;obtain⟨b,rfl⟩:=eta (α:=Int) b;obtain⟨n,rfl⟩:=eta (α:=Int) n;obtain⟨⟨h1,h2,h3⟩,h4,h5,h6⟩:(0<=a/\0<=n/\0<=b)/\a+n<=(l.length:Int)/\b+n<=(l.length:Int)/\l.length<=1000000:=hp;obtain⟨a,rfl⟩:=pq h1;obtain⟨b,rfl⟩:=pq h3;obtain⟨n,rfl⟩:=pq h2;refine⟨[(1,au0 T l a b n)],?_⟩
 conv=>arg 1; cbv
 refine⟨?_,fun (k:Nat) hk => ?_⟩
 . exact xf
 have e9:k<=n:=hk
 conv=>arg 1; cbv
 refine bW (qe Tc.al.aa l a b k) fun L hL => ?_;have hlen:L.length=l.length:=by rw [<- hL,zi]
 simp (maxSteps:=4000000) only [aK];simp only [hL];refine⟨fun g => ?_,fun g => ?_⟩
 . refine⟨ii,ii,ii,⟨oo,oo⟩,ii,⟨oo,oo⟩,⟨oo,oo⟩,⟨oo,by rw [nH]; omega⟩,ii,⟨oo,oo⟩,oo,?_⟩;rw [show ((a:Int)+(k:Int)).toNat=a+k from oo,show ((b:Int)+(k:Int)).toNat=b+k from oo,<- hL];rfl
 . rw [<- hL,show k=n from oo]
def U6:fO:=⟨252,[.zS .al,.int .i64,.int .i64,.int .i64,.fn []],1,fun ai es=>match ai,es with
 | [.own 0,.int .i64 a,.int .i64 m,.int .i64 b,.fn f []],[(0,.row false .al T l)]=>some ⟨fun _=>(0<=a ()/\a ()<m ()/\m ()<b ())/\b ()<=((l ()).length:Int)/\(l ()).length<=1000000,.ba [],[(0,.row false .al T fun _=>iq (a ()).toNat (m ()).toNat (b ()).toNat (l ()))]⟩
 | _,_=>none,true⟩
def au2(T:Nat)(l R:List az)(m i j:Nat):Lp where
 X:=Nat×Nat×List az
 ov p := [(10,.int .i64 fun _=>(p.1:Int)),(11,.int .i64 fun _=>(p.2.1:Int)),(0,.own 0)]
 oe p := [(0,.row false .al T fun _=>p.2.2)]
 I p:=(1<=p.1/\p.1<=i)/\(1<=p.2.1/\p.2.1<=j)/\p.2.2.length=R.length/\iq (m - p.1) m (m+p.2.1) p.2.2=R
 μ p _:=p.1+p.2.1
 x0:=(i,j,l)
 nx:=none
theorem au3:ij Tryz.prog U6:=by
 refine Gz [] trivial [U5] ⟨au1,trivial⟩ Tryz.func252 (by kernel_rfl) fun ai es res h hp => ?_;simp only [U6] at h;split at h
 case h_2=>cases h
 rename_i a m b f T l;cases h;obtain⟨l,rfl⟩:=eta (α:=List az) l;obtain⟨a,rfl⟩:=eta (α:=Int) a;obtain⟨b,rfl⟩:=eta (α:=Int) b;obtain⟨m,rfl⟩:=eta (α:=Int) m;obtain⟨⟨h1,h2,h3⟩,h4,h5⟩:(0<=a/\a<m/\m<b)/\b<=(l.length:Int)/\l.length<=1000000:=hp;obtain⟨a,rfl⟩:=pq h1;obtain⟨b,rfl⟩:=pq (show 0<=b from oo);obtain⟨m,rfl⟩:=pq (show 0<=m from oo);refine bW (iq a m b l) fun R hR => ?_;have hlR:R.length=l.length:=by rw [<- hR]; exact U0 oo oo oo
 refine bW (m - a) fun i0 sY => ?_;refine bW (b - m) fun j0 hj0 => ?_;refine⟨[(2,au2 T l R m i0 j0)],?_⟩
 conv=>arg 1; cbv
 simp only [LD,R9,wV,Dj,gX];refine⟨ii,ii,?_,fun (p:Nat×Nat×List az) hp => ?_⟩
 . simp (maxSteps:=4000000) only [aK];refine⟨⟨⟨oo,oo⟩,⟨oo,oo⟩,oo,?_⟩,oo,oo,trivial⟩;rw [show m - i0=a from oo,show m+j0=b from oo];exact hR
 obtain⟨p1,p2,L⟩:=p;have cQ:(1<=p1/\p1<=i0)/\(1<=p2/\p2<=j0)/\L.length=R.length/\iq (m - p1) m (m+p2) L=R:=hp;have q1:=cQ.1;have q2:=cQ.2.1;have q3:=cQ.2.2.1;have q4:=cQ.2.2.2;clear hp cQ
 conv=>arg 1; cbv
 simp (maxSteps:=4000000) only [aK];refine⟨fun g=>⟨fun g2 => ?_,fun g2 => ?_⟩,fun g => ?_⟩
 . have g1:p2<p1:=oo
   refine bW (p1 - p2) fun i hi => ?_;refine bW (qe Tc.al.aa L (m - p1) m p2) fun L2 qL => ?_;have U7:L2.length=R.length:=by rw [<- qL,zi]; exact q3
   have hI:(1<=i/\i<=i0)/\(1<=p2/\p2<=j0)/\L2.length=R.length/\iq (m - i) m (m+p2) L2=R:=by
    refine⟨⟨oo,oo⟩,q2,U7,?_⟩;rw [<- q4,<- qL,<- hi,show m - (p1 - p2)=m - p1+p2 from oo];exact auS oo oo rfl oo
   refine⟨ii,⟨⟨oo,oo,oo⟩,oo,oo,oo⟩,ii,⟨(i,p2,L2),⟨hI,by show i+p2<p1+p2; omega⟩,?_⟩⟩
   conv=>arg 1; cbv
   simp (maxSteps:=4000000) only [aK];refine⟨oo,trivial,?_⟩;rw [show ((m:Int) - (p1:Int)).toNat=m - p1 from oo,qL]
 . have g1:p1<p2:=by
    simp only [jf,fQ] at g;omega
   refine bW (p2 - p1) fun j hj => ?_;refine bW (qe Tc.al.aa L (m - p1) (m+p2 - p1) p1) fun L2 qL => ?_;have U7:L2.length=R.length:=by rw [<- qL,zi]; exact q3
   have hI:(1<=p1/\p1<=i0)/\(1<=j/\j<=j0)/\L2.length=R.length/\iq (m - p1) m (m+j) L2=R:=by
    refine⟨q1,⟨oo,oo⟩,U7,?_⟩;rw [<- q4,<- qL,<- hj,show m+(p2 - p1)=m+p2 - p1 from oo];exact auT oo oo oo
   refine⟨ii,ii,ii,⟨⟨oo,oo,oo⟩,oo,oo,oo⟩,ii,⟨(p1,j,L2),⟨hI,by show p1+j<p1+p2; omega⟩,?_⟩⟩
   conv=>arg 1; cbv
   simp (maxSteps:=4000000) only [aK];refine⟨trivial,oo,?_⟩;rw [show ((m:Int) - (p1:Int)).toNat=m - p1 from oo,show ((m:Int)+(p2:Int) - (p1:Int)).toNat=m+p2 - p1 from oo,qL]
 . have g1:p1=p2:=by
    simp only [ke,aL] at g;omega
   refine⟨ii,⟨⟨oo,oo,oo⟩,oo,oo,oo⟩,?_⟩;rw [show ((m:Int) - (p1:Int)).toNat=m - p1 from oo,hR,<- q4];have:=auU (d:=Tc.al.aa) (l:=L) (a:=m - p1) (m:=m) (b:=m+p2) oo oo oo oo;rw [<- this,show m - (m - p1)=p1 from oo]
theorem MZ(a b):BC a b<0↔a<b:=by
 unfold BC;by_cases h:a<b
 . simp [h]
 . by_cases h2:b<a<;>simp [h,h2]
def HH(N:Nat):fO:=⟨233,[.zS .al,.int .i64,.int .i64,.int .i64,.fn []],1,fun ai es=>match ai,es with
 | [.own 0,.int .i64 a,.int .i64 m,.int .i64 b,.fn f []],[(0,.row false .al T l)]=>if f=115 then some ⟨fun _=>(0<=a ()/\a ()<m ()/\m ()<b ())/\(b ()<=((l ()).length:Int)/\b () - a ()<=(N:Int))/\(l ()).length<=1000000/\dU az.aH Tc.al.aa (a ()).toNat (m ()).toNat (l ())/\dU az.aH Tc.al.aa (m ()).toNat (b ()).toNat (l ()),.ba [],[(0,.row false .al T fun _=>cK az.aH (a ()).toNat (b ()).toNat (l ()))]⟩ else none
 | _,_=>none,true⟩
theorem HO(h:i+j<=4000000):lN BinOp.shr IntKind.u64 (IntKind.u64.wrap (i+j)) 1=((i+j) / 2:Nat):=by
 have e1:IntKind.u64.wrap ((i:Int)+(j:Int))=((i:Int)+(j:Int)) % 18446744073709551616:=rfl;have e2:lN BinOp.shr IntKind.u64 (((i:Int)+(j:Int)) % 18446744073709551616) 1=(((i:Int)+(j:Int)) % 18446744073709551616).fdiv (2^(min 1 64)):=rfl;rw [e1,e2,ai7 _ (by decide)];simp only [show min 1 64=1 from rfl,Int.pow_one];omega
def M1(s r:Nat)(lo hi:Nat)(P:Nat->Nat->Prop):Lp where
 X:=Nat×Nat
 ov p := [(s,.int .i64 fun _=>(p.1:Int)),(r,.int .i64 fun _=>(p.2:Int))]
 oe p := []
 I p:=(lo<=p.1/\p.1<=p.2/\p.2<=hi)/\P p.1 p.2
 μ p _:=p.2 - p.1
 x0:=(lo,hi)
 nx:=none
def au4(T:Nat)(l:List az)(a n:Nat):Lp where
 X:=Nat
 ov k := [(13,.int .i64 fun _=>((a+k:Nat):Int)),(0,.own 0)]
 oe k := [(0,.row false .al T fun _=>vy Tc.al.aa l a k)]
 I k:=k<=n
 μ k _:=n - k
 x0:=0
 nx:=some fun k=>k+1
def au5(T:Nat)(l:List az)(m n:Nat):Lp where
 X:=Nat
 ov k := [(17,.int .i64 fun _=>((m - k:Nat):Int)),(0,.own 0)]
 oe k := [(0,.row false .al T fun _=>nG Tc.al.aa l m k)]
 I k:=k<=n
 μ k _:=n - k
 x0:=0
 nx:=some fun k=>k+1
theorem aga:∀ N,ij Tryz.prog (HH N)
 | 0=>by
  refine Gz [] trivial [] trivial Tryz.func233 (by kernel_rfl) fun ai es res h hp => ?_;exfalso;simp only [HH] at h;split at h
  case h_2=>cases h
  split at h
  case isFalse=>cases h
  cases h;obtain⟨⟨h1,h2,h3⟩,h4,_⟩:=hp;omega
 | N+1=>by
  have ih:=aga N;refine Gy { kp := [(0,[0,1,2,3,4]),(1,[0,1,2,3,4]),(2,[0,1,3,4,10]),(3,[0,1,4,10,11]),(4,[0,1,4,10,11]),(5,[0,1,4,10,11,12]),(6,[0,1,4,11,12]),(7,[0,1,4,10,12]),(8,[0,1,10]),(9,[0,10,13]),(10,[0,10,13]),(11,[0,10,13]),(12,[0,1,2,3,4]),(13,[0,1,2,4]),(14,[0,2,4,14]),(15,[0,2,4,14,15]),(16,[0,2,4,14,15]),(17,[0,2,4,14,15,16]),(18,[0,2,4,15,16]),(19,[0,2,4,14,16]),(20,[0,2,14]),(21,[0,14,17]),(22,[0,14,17]),(23,[0,14,17]),(24,[0,1,2,3,4]),(25,[0,1,2,3,4,18]),(26,[0,1,2,3,4,18,19]),(27,[0,1,2,3,4,18,19]),(28,[0,1,2,3,4,18,19]),(29,[0,1,2,3,4,18,19,20]),(30,[0,1,2,3,4,18,19]),(31,[0,1,2,3,4,18,19,20]),(32,[0,1,2,3,4,18,19,20,21]),(33,[0,1,2,3,4,18,19,20,21,22]),(34,[0,1,2,3,4,18,19,20,21,22]),(35,[0,1,2,3,4,18,19,20,21,22,23]),(36,[0,1,2,3,4,18,19,21,22,23]),(37,[0,1,2,3,4,18,19,20,22,23]),(38,[0,1,2,3,4,18,19,20]),(39,[0,1,2,3,4,18,20,24]),(40,[0,1,2,3,4,18,20,24]),(41,[0,1,3,4,18,20,24]),(42,[0,1,3,4,18,20,24]),(43,[0,3,4,18,24]),(44,[0,3,4,18,24])] } [US] ⟨afN,trivial⟩ [U6,HH N] ⟨au3,ih,trivial⟩ Tryz.func233 (by kernel_rfl) fun ai es res h hp => ?_;simp only [HH] at h;split at h
  case h_2=>cases h
  split at h
  case isFalse=>cases h
  rename_i a m b f T l hf;subst hf;cases h;obtain⟨l,rfl⟩:=eta (α:=List az) l;obtain⟨a,rfl⟩:=eta (α:=Int) a;obtain⟨b,rfl⟩:=eta (α:=Int) b;obtain⟨m,rfl⟩:=eta (α:=Int) m;obtain⟨⟨h1,h2,h3⟩,⟨h4,h5⟩,h6,h7,h8⟩:(0<=a/\a<m/\m<b)/\(b<=(l.length:Int)/\b - a<=((N+1:Nat):Int))/\l.length<=1000000/\dU az.aH Tc.al.aa a.toNat m.toNat l/\dU az.aH Tc.al.aa m.toNat b.toNat l:=hp;obtain⟨a,rfl⟩:=pq h1;obtain⟨b,rfl⟩:=pq (show 0<=b from oo);obtain⟨m,rfl⟩:=pq (show 0<=m from oo);simp only [fE] at h7 h8;refine⟨[],?_⟩
  conv=>arg 1; cbv
  simp only [LD,R8,R9,wV,Dj,gX];refine⟨ii,fun g => ?_,fun g => ?_⟩
  . refine⟨M1 10 11 m b fun i j=>(∀ k,m<=k->k<i->(l.getD k Tc.al.aa).aH<(l.getD a Tc.al.aa).aH)/\∀ k,j<=k->k<b->(l.getD a Tc.al.aa).aH<=(l.getD k Tc.al.aa).aH,?_⟩
    conv=>arg 1; cbv
    refine⟨?_,fun (p:Nat×Nat) hp => ?_⟩
    . exact agb
    have cQ:(m<=p.1/\p.1<=p.2/\p.2<=b)/\(∀ k,m<=k->k<p.1->(l.getD k Tc.al.aa).aH<(l.getD a Tc.al.aa).aH)/\∀ k,p.2<=k->k<b->(l.getD a Tc.al.aa).aH<=(l.getD k Tc.al.aa).aH:=hp;have q1:=cQ.1;have q2:=cQ.2.1;have q3:=cQ.2.2;clear hp cQ
    conv=>arg 1; cbv
    simp (maxSteps:=4000000) only [aK];refine bW ((p.1+p.2) / 2) fun c hc => ?_;simp only [HO (show p.1+p.2<=4000000 from oo),hc,MZ,fE];refine⟨fun g1 => ?_,fun g1 => ?_⟩
    . have c1:p.1<=c/\c<p.2:=oo
      refine⟨ii,oo,ii,⟨oo,oo⟩,⟨oo,oo⟩,trivial,fun g2 => ?_,fun g2 => ?_⟩
      . refine bW (c+1) fun c' Cm => ?_;refine⟨ii,⟨(c',p.2),⟨⟨⟨oo,oo,oo⟩,fun k k1 k2 => ?_,q3⟩,by show p.2 - c'<p.2 - p.1; omega⟩,?_⟩⟩
        . have k2':k<c':=k2;have:(l.getD k Tc.al.aa).aH<=(l.getD c Tc.al.aa).aH:=h8.le k1 oo oo;omega
        . exact no_implicit_lambda% MD
      . refine⟨(p.1,c),⟨⟨⟨oo,oo,oo⟩,q2,fun k k1 k2 => ?_⟩,by show c - p.1<p.2 - p.1; omega⟩,?_⟩
        . have U8:c<=k:=k1;have:(l.getD c Tc.al.aa).aH<=(l.getD k Tc.al.aa).aH:=h8.le oo U8 k2;omega
        . exact no_implicit_lambda% ME
    . have iu:p.1=p.2:=oo
      rw [<- iu] at q3;refine bW (p.1 - 1 - a) fun n hn => ?_;have gG:=auP (key:=az.aH) (d:=Tc.al.aa) (l:=l) (a:=a) (b:=b) (i:=p.1) oo ⟨oo,oo⟩ (by rw [show a+1=m by simp only [aL] at g; omega]; exact h8) (fun k k1 k2=>q2 k (by simp only [aL] at g; omega) k2) q3;rw [hn] at gG;simp only [aL] at g;refine⟨au4 T l a n,?_⟩
      conv=>arg 1; cbv
      refine⟨?_,fun (k:Nat) hk => ?_⟩
      . exact xf
      have e9:k<=n:=hk
      conv=>arg 1; cbv
      simp (maxSteps:=4000000) only [aK];refine bW (vy Tc.al.aa l a k) fun L hL => ?_;have hlen:L.length=l.length:=by rw [<- hL,MX]
      simp only [hL];refine⟨ii,fun g2 => ?_,fun g2 => ?_⟩
      . have e1:((a+k:Nat):Int).toNat=a+k:=oo
        have e2:(((a+k:Nat):Int)+1).toNat=a+k+1:=oo
        refine⟨ii,ii,⟨oo,oo⟩,⟨oo,oo⟩,⟨oo,oo⟩,⟨oo,by rw [nH]; omega⟩,ii,⟨oo,oo⟩,oo,?_⟩;rw [List.set_comm _ _ oo,e2,<- hL];rfl
      . rw [<- hL,show k=n from oo];exact gG
  simp only [fQ] at g;refine⟨ii,fun g0 => ?_,fun g0 => ?_⟩
  . simp only [aL] at g0;refine⟨M1 14 15 a m fun i j=>(∀ k,a<=k->k<i->(l.getD k Tc.al.aa).aH<=(l.getD m Tc.al.aa).aH)/\∀ k,j<=k->k<m->(l.getD m Tc.al.aa).aH<(l.getD k Tc.al.aa).aH,?_⟩
    conv=>arg 1; cbv
    refine⟨?_,fun (p:Nat×Nat) hp => ?_⟩
    . exact agb
    have cQ:(a<=p.1/\p.1<=p.2/\p.2<=m)/\(∀ k,a<=k->k<p.1->(l.getD k Tc.al.aa).aH<=(l.getD m Tc.al.aa).aH)/\∀ k,p.2<=k->k<m->(l.getD m Tc.al.aa).aH<(l.getD k Tc.al.aa).aH:=hp;have q1:=cQ.1;have q2:=cQ.2.1;have q3:=cQ.2.2;clear hp cQ
    conv=>arg 1; cbv
    simp (maxSteps:=4000000) only [aK];refine bW ((p.1+p.2) / 2) fun c hc => ?_;simp only [HO (show p.1+p.2<=4000000 from oo),hc,MZ,fE];refine⟨fun g1 => ?_,fun g1 => ?_⟩
    . have c1:p.1<=c/\c<p.2:=oo
      refine⟨ii,oo,ii,⟨oo,oo⟩,⟨oo,oo⟩,trivial,fun g2 => ?_,fun g2 => ?_⟩
      . refine bW (c+1) fun c' Cm => ?_;simp only [jf,fQ] at g2;refine⟨ii,⟨(c',p.2),⟨⟨⟨oo,oo,oo⟩,fun k k1 k2 => ?_,q3⟩,by show p.2 - c'<p.2 - p.1; omega⟩,?_⟩⟩
        . have k2':k<c':=k2;have:(l.getD k Tc.al.aa).aH<=(l.getD c Tc.al.aa).aH:=h7.le k1 oo oo;omega
        . exact no_implicit_lambda% MD
      . simp only [ke,aL] at g2;refine⟨(p.1,c),⟨⟨⟨oo,oo,oo⟩,q2,fun k k1 k2 => ?_⟩,by show c - p.1<p.2 - p.1; omega⟩,?_⟩
        . have U8:c<=k:=k1;have:(l.getD c Tc.al.aa).aH<=(l.getD k Tc.al.aa).aH:=h7.le oo U8 k2;omega
        . exact no_implicit_lambda% ME
    . have iu:p.1=p.2:=oo
      rw [<- iu] at q3;refine bW (m - p.1) fun n hn => ?_;have gG:=UZ (key:=az.aH) (d:=Tc.al.aa) (l:=l) (a:=a) (m:=m) (i:=p.1) oo ⟨oo,oo⟩ h7 q2 q3;rw [hn,show m+1=b from oo] at gG;refine⟨au5 T l m n,?_⟩
      conv=>arg 1; cbv
      refine⟨?_,fun (k:Nat) hk => ?_⟩
      . exact xf
      have e9:k<=n:=hk
      conv=>arg 1; cbv
      simp (maxSteps:=4000000) only [aK];refine bW (nG Tc.al.aa l m k) fun L hL => ?_;have hlen:L.length=l.length:=by rw [<- hL,MY]
      simp only [hL];refine⟨fun g2 => ?_,fun g2 => ?_⟩
      . have e1:m - k=m - k - 1+1:=oo
        refine⟨ii,ii,⟨oo,oo⟩,⟨oo,oo⟩,⟨oo,oo⟩,⟨oo,by rw [nH]; omega⟩,ii,⟨oo,oo⟩,oo,?_⟩;rw [<- hL];show _=swapAt Tc.al.aa (nG Tc.al.aa l m k) (m - k - 1)
        unfold swapAt;rw [<- e1]
      . rw [<- hL,show k=n from oo];exact gG
  simp only [fQ] at g0;have au7:=HO (i:=a) (j:=b) oo;simp only [au7];refine bW ((a+b) / 2) fun mid Mp => ?_;simp only [Mp];refine⟨ii,oo,ii,ii,fun gm=>⟨ii,ii,?_⟩,fun gm=>⟨ii,?_⟩⟩
  . simp only [aL] at gm;refine bW (mid+m - b) fun S hS => ?_;refine bW mid fun R hR => ?_;have hSR:∀ c,S<=c->c<R->m<=mid+m - 1 - c/\mid+m - 1 - c<b:=fun c h1 h2=>oo
    refine⟨M1 20 21 S R fun i j=>(i=S\/(l.getD (i - 1) Tc.al.aa).aH<=(l.getD (mid+m - i) Tc.al.aa).aH)/\(j=R\/(l.getD (mid+m - 1 - j) Tc.al.aa).aH<(l.getD j Tc.al.aa).aH),?_⟩
    conv=>arg 1; cbv
    refine⟨?_,fun (p:Nat×Nat) hp => ?_⟩
    . exact agd
    have cQ:(S<=p.1/\p.1<=p.2/\p.2<=R)/\(p.1=S\/(l.getD (p.1 - 1) Tc.al.aa).aH<=(l.getD (mid+m - p.1) Tc.al.aa).aH)/\(p.2=R\/(l.getD (mid+m - 1 - p.2) Tc.al.aa).aH<(l.getD p.2 Tc.al.aa).aH):=hp;have q1:=cQ.1;have q2:=cQ.2.1;have q3:=cQ.2.2;clear hp cQ
    conv=>arg 1; cbv
    simp (maxSteps:=4000000) only [aK];simp only [HO (show p.1+p.2<=4000000 from oo),MZ,fE];refine bW ((p.1+p.2) / 2) fun c hc => ?_;simp only [hc];refine⟨fun g1 => ?_,fun g1 => ?_⟩
    . exact no_implicit_lambda% s_5
    have iu:p.1=p.2:=oo
    rw [<- iu] at q3;refine bW p.1 fun s hs => ?_;rw [hs] at q2 q3;have oL:a<=s/\s<=m/\m<=mid+m - s/\mid+m - s<=b:=oo
    simp only [hs];have hT:=af6 (key:=az.aH) (d:=Tc.al.aa) (l:=l) (a:=a) (m:=m) (b:=b) (s:=s) (e:=mid+m - s) (mid:=mid) (N:=N) oo h6 ⟨oo,oo⟩ oL oo oo h7 h8 (q2.elim (fun g => .inr (.inl oo)) fun g => .inr (.inr g)) (q3.elim (fun g => .inr (.inl oo)) fun g => .inr (.inr (by rw [show mid+m - s - 1=mid+m - 1 - s from oo]; exact g)));have he:(mid:Int)+(m:Int) - (s:Int)=((mid+m - s:Nat):Int):=oo
    exact agf
  . simp only [fQ] at gm;refine bW a fun S hS => ?_;refine bW m fun R hR => ?_;have hSR:∀ c,S<=c->c<R->m<=mid+m - 1 - c/\mid+m - 1 - c<b:=fun c h1 h2=>oo
    refine⟨M1 20 21 S R fun i j=>(i=S\/(l.getD (i - 1) Tc.al.aa).aH<=(l.getD (mid+m - i) Tc.al.aa).aH)/\(j=R\/(l.getD (mid+m - 1 - j) Tc.al.aa).aH<(l.getD j Tc.al.aa).aH),?_⟩
    conv=>arg 1; cbv
    refine⟨?_,fun (p:Nat×Nat) hp => ?_⟩
    . exact agd
    have cQ:(S<=p.1/\p.1<=p.2/\p.2<=R)/\(p.1=S\/(l.getD (p.1 - 1) Tc.al.aa).aH<=(l.getD (mid+m - p.1) Tc.al.aa).aH)/\(p.2=R\/(l.getD (mid+m - 1 - p.2) Tc.al.aa).aH<(l.getD p.2 Tc.al.aa).aH):=hp;have q1:=cQ.1;have q2:=cQ.2.1;have q3:=cQ.2.2;clear hp cQ
    conv=>arg 1; cbv
    simp (maxSteps:=4000000) only [aK];simp only [HO (show p.1+p.2<=4000000 from oo),MZ,fE];refine bW ((p.1+p.2) / 2) fun c hc => ?_;simp only [hc];refine⟨fun g1 => ?_,fun g1 => ?_⟩
    . exact no_implicit_lambda% s_5
    have iu:p.1=p.2:=oo
    rw [<- iu] at q3;refine bW p.1 fun s hs => ?_;rw [hs] at q2 q3;have oL:a<=s/\s<=m/\m<=mid+m - s/\mid+m - s<=b:=oo
    simp only [hs];have hT:=af6 (key:=az.aH) (d:=Tc.al.aa) (l:=l) (a:=a) (m:=m) (b:=b) (s:=s) (e:=mid+m - s) (mid:=mid) (N:=N) oo h6 ⟨oo,oo⟩ oL oo oo h7 h8 (q2.elim (fun g => .inl oo) fun g => .inr (.inr g)) (q3.elim (fun g => .inl oo) fun g => .inr (.inr (by rw [show mid+m - s - 1=mid+m - 1 - s from oo]; exact g)));have he:(mid:Int)+(m:Int) - (s:Int)=((mid+m - s:Nat):Int):=oo
    exact agf
end Go.Proofs.YtamjbkaclhgffaaGreat
