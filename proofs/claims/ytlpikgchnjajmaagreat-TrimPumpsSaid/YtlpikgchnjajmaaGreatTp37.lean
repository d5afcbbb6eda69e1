/-
  hydro by the abstract run: which tables are right; the values at a weight.
-/
import Derived.Test.YtlpikgchnjajmaaGreatTp35
set_option linter.all false
set_option maxRecDepth 100000
set_option maxHeartbeats 4000000
namespace Go.Proofs.YtlpikgchnjajmaaGreat
open Go.RowKit
variable{a b n:Int}{u v:bH}
theorem cz(e:v=fH){P:Prop}(h:P):false=v.neg/\0=al v.num 0/\0=al v.num 1/\0=al v.num 2/\0=al v.num 3/\0=al v.num 4/\0=al v.num 5/\0=al v.num 6/\0=al v.num 7/\0=al v.den 0/\0=al v.den 1/\0=al v.den 2/\0=al v.den 3/\0=al v.den 4/\0=al v.den 5/\0=al v.den 6/\0=al v.den 7/\P:=by
 subst e;exact⟨rfl,(fW 0 (by decide)).symm,(fW 1 (by decide)).symm,(fW 2 (by decide)).symm,(fW 3 (by decide)).symm,(fW 4 (by decide)).symm,(fW 5 (by decide)).symm,(fW 6 (by decide)).symm,(fW 7 (by decide)).symm,(fW 0 (by decide)).symm,(fW 1 (by decide)).symm,(fW 2 (by decide)).symm,(fW 3 (by decide)).symm,(fW 4 (by decide)).symm,(fW 5 (by decide)).symm,(fW 6 (by decide)).symm,(fW 7 (by decide)).symm,h⟩
theorem cq(e:u=v){P:Prop}(h:P):u.neg=v.neg/\al u.num 0=al v.num 0/\al u.num 1=al v.num 1/\al u.num 2=al v.num 2/\al u.num 3=al v.num 3/\al u.num 4=al v.num 4/\al u.num 5=al v.num 5/\al u.num 6=al v.num 6/\al u.num 7=al v.num 7/\al u.den 0=al v.den 0/\al u.den 1=al v.den 1/\al u.den 2=al v.den 2/\al u.den 3=al v.den 3/\al u.den 4=al v.den 4/\al u.den 5=al v.den 5/\al u.den 6=al v.den 6/\al u.den 7=al v.den 7/\P:=by
 subst e;exact⟨rfl,rfl,rfl,rfl,rfl,rfl,rfl,rfl,rfl,rfl,rfl,rfl,rfl,rfl,rfl,rfl,rfl,h⟩
def U2:aH:=lE 166 kI kI kI (fun _ _ _=>True) (fun n low high => .bool fun _=>jV (n ()) (low ()) (high ()))
theorem af5:aK Tryz.prog U2:=by
 refine cd [] trivial Tryz.func166 (by kernel_rfl) fun ai res h hp => ?_;obtain⟨(n:Int),(low:Int),(high:Int),rfl,rfl⟩:=mO h;clear h;refine⟨[],?_⟩
 exact no_implicit_lambda% ae3
theorem tO(h:(!jV n a b)=false):a<=n/\n<=b:=by
 unfold jV at h;simpa using h
theorem Du(h:(!jV n a b)=true):¬(a<=n/\n<=b):=fun q=>by
 unfold jV at h;simp [q.1,q.2] at h
def U3:aH:=dU 91 La (fun l=>(l ()).length<=1000000000000) (fun l => .bool fun _=>gL (l ()))
theorem af6:aK Tryz.prog U3:=by
 refine eE { kp := [(0,[0]),(1,[0]),(2,[0,5,6,7]),(3,[0,5,6,7]),(4,[0,3,4,5,6,7]),(5,[]),(6,[0,3,4,5,6,7]),(7,[]),(8,[0,5,6,7]),(9,[0])],lt := [(6,⟨[0,1,2,3,4,5,6,7,8,9,10,11,12,13,14,15,16,17,18,19,20,21,22,23],[0,1,2,3,4,5,6,7,8,9,10,11,12,13,14,15,16,17,18,19,20,21,22,23],[],[],[]⟩)] } [U2] ⟨af5,trivial⟩ [] trivial Tryz.func91 (by kernel_rfl) fun ai res h hp => ?_;obtain⟨(l:List cX),rfl,rfl⟩:=eu h;clear h;have hl:l.length<=1000000000000:=hp;have hI:=za l;have hF:(gL l=true->False)->false=gL l:=fun h=>by
  cases hB:gL l with
  | false=>rfl
  | true=>exact (h hB).elim
 refine⟨[(2,Mn 7 l fun j=>A8 l j)],?_⟩;refine fm ?_;refine⟨⟨⟨cm _,fun j hj=>absurd hj (oJ _)⟩,rfl⟩,fun (i:Nat) hi => ?_⟩;have af7:i<=l.length/\∀ j,j<i->A8 l j:=hi;have BK:=af7.1;have vX:=af7.2;clear hi;refine fm ?_;have hq:i<l.length->gL l=true->A8 l i:=fun h q=>(hI.1 q).2 i h;refine⟨fun g => ?_,fun g => ?_⟩
 . have aj:i<l.length:=oo
   have hq:=hq aj;refine⟨⟨oo,oo⟩,fun c=>hF fun q=>Du c (hq q).1.1,fun a1=>⟨fun c=>hF fun q=>Du c (hq q).1.2.1,fun a2=>⟨fun c=>hF fun q=>Du c (hq q).1.2.2.1,fun a3=>⟨fun c=>hF fun q=>Du c (hq q).1.2.2.2.1,fun a4=>⟨fun c=>hF fun q=>Du c (hq q).1.2.2.2.2,fun a5=>⟨fun h0 => ?_,fun h0 => ?_⟩⟩⟩⟩⟩⟩
   . refine⟨ii,⟨oo,oo⟩,fun c=>hF fun q=>(by have:=(hq q).2 oo; omega),fun b1=>⟨ii,⟨oo,oo⟩,fun c=>hF fun q=>(by have:=(hq q).2 oo; omega),fun b2 => ?_⟩⟩;exact Uv hl aj vX ⟨⟨tO a1,tO a2,tO a3,tO a4,tO a5⟩,fun _=>⟨oo,oo⟩⟩
   . exact Uv hl aj vX ⟨⟨tO a1,tO a2,tO a3,tO a4,tO a5⟩,fun h=>absurd h oo⟩
 . have xB:i=l.length:=oo
   unfold gL jV;rw [dK.2 fun j hj=>c8 (vX j (by have:=gP.1 hj; omega)),ga,sD,au,aI,aI,aI];omega
def af8:aH:=dU 316 F9 (fun _=>True) (fun r => .int .i64 fun _=>(r ()).nW)
theorem avm:aK Tryz.prog af8:=by
 refine cd [] trivial Tryz.func316 (by kernel_rfl) fun ai res h hp => ?_;obtain⟨(r:cX),rfl,rfl⟩:=eu h;clear h;refine⟨[],?_⟩
 exact no_implicit_lambda% Bc
def af9:aH:=dU 317 F9 (fun _=>True) (fun r => .int .i64 fun _=>(r ()).mr)
theorem avn:aK Tryz.prog af9:=by
 refine cd [] trivial Tryz.func317 (by kernel_rfl) fun ai res h hp => ?_;obtain⟨(r:cX),rfl,rfl⟩:=eu h;clear h;refine⟨[],?_⟩
 exact no_implicit_lambda% Bc
def aga:aH:=dU 318 F9 (fun _=>True) (fun r => .int .i64 fun _=>(r ()).mc)
theorem avo:aK Tryz.prog aga:=by
 refine cd [] trivial Tryz.func318 (by kernel_rfl) fun ai res h hp => ?_;obtain⟨(r:cX),rfl,rfl⟩:=eu h;clear h;refine⟨[],?_⟩
 exact no_implicit_lambda% Bc
def agb:aH:=dU 319 F9 (fun _=>True) (fun r => .int .i64 fun _=>(r ()).jE)
theorem avp:aK Tryz.prog agb:=by
 refine cd [] trivial Tryz.func319 (by kernel_rfl) fun ai res h hp => ?_;obtain⟨(r:cX),rfl,rfl⟩:=eu h;clear h;refine⟨[],?_⟩
 exact no_implicit_lambda% Bc
def agc:aH:=CH 254 (True) (.agg [.fn 316 [],.fn 317 [],.fn 318 [],.fn 319 []])
theorem avq:aK Tryz.prog agc:=by
 refine cd [] trivial Tryz.func254 (by kernel_rfl) fun ai res h hp => ?_;obtain⟨rfl,rfl⟩:=KZ h;clear h;refine⟨[],?_⟩
 exact no_implicit_lambda% Bc
def agd:aH:=df 253 F9 kI (fun _ _=>True) (fun r k => .int .i64 fun _=>sj (r ()).af (k ()))
theorem avr:aK Tryz.prog agd:=by
 refine cd [SS] ⟨acr,trivial⟩ Tryz.func253 (by kernel_rfl) fun ai res h hp => ?_;obtain⟨(r:cX),(k:Int),rfl,rfl⟩:=dz h;clear h;refine⟨[],?_⟩
 exact no_implicit_lambda% Bc
def age:aH:=dU 251 La (fun l=>(l ()).length<=1000000000000) (fun l => .aU [.int .i64 fun _=>cond (gL (l ())) (zb (l ())) 0,.int .i64 fun _=>cond (gL (l ())) (zc (l ())) 0,.int .i64 fun _=>cond (gL (l ())) 0 2])
theorem avt:aK Tryz.prog age:=by
 refine eE { kp := [(0,[0]),(1,[0]),(2,[]),(3,[0])],lt := [(3,⟨[0,1,2,3,4,5,6,7,8,9,10,11,12,13],[0,1,2,3,4,5,6,7,8,9,10,11,12,13],[],[],[]⟩)] } [U3] ⟨af6,trivial⟩ [] trivial Tryz.func251 (by kernel_rfl) fun ai res h hp => ?_;obtain⟨(l:List cX),rfl,rfl⟩:=eu h;clear h;have hl:l.length<=1000000000000:=hp;refine⟨[],?_⟩;refine fm ?_;refine⟨hl,fun c => ?_,fun c => ?_⟩
 . have h:gL l=false:=by simpa using c
   rw [h];exact⟨rfl,rfl,rfl⟩
 . have h:gL l=true:=by simpa using c
   have hn:=((za l).1 h).1;rw [h];exact⟨⟨oo,oo⟩,ii,⟨oo,oo⟩,rfl,rfl,rfl⟩
theorem avu{p q:Nat}(h:p+q<=2000):lV .shr .u64 (IntKind.u64.wrap (p+q)) 1=((p+q) / 2:Nat):=by
 rw [wrap_u64 oo oo];show ((p:Int)+(q:Int)).fdiv 2=_
 rw [ahf _ (by decide)];omega
theorem agf(a b:Int):sj a b<0↔a<b:=by
 unfold sj;by_cases h:a<b
 . rw [c8 h];exact⟨fun _=>h,fun _=>(by decide:(-1:Int)<0)⟩
 . rw [gw h];refine⟨fun q => ?_,fun q=>absurd q h⟩;cases hd:decide (b<a)<;>rw [hd] at q<;>exact absurd q (by decide)
theorem avv(a b:Int):sj a b=0↔a=b:=by
 unfold sj;by_cases h:a<b
 . rw [c8 h];exact⟨fun q=>absurd q (by decide:¬(-1:Int)=0),fun q=>oo⟩
 . rw [gw h];by_cases h2:b<a
   . rw [c8 h2];exact⟨fun q=>absurd q (by decide),fun q=>oo⟩
   . rw [gw h2];exact⟨fun _=>oo,fun _=>rfl⟩
def avw(l:List cX)(k:Int)(n:Nat):Lp where
 X:=Nat×Nat
 ov p := [(9,.int .i64 fun _=>(p.1:Int)),(10,.int .i64 fun _=>(p.2:Int))]
 oe _ := []
 I p:=p.1<=p.2/\p.2<=n/\(∀ j,j<p.1->(l.getD j Tc.bE.aa).af<k)/\(p.2<n->k<=(l.getD p.2 Tc.bE.aa).af)
 μ p _:=p.2 - p.1
 x0:=(0,n)
 nx:=none
def agh:aH:=lE 252 La kI (F7 253) (fun l _ _=>gL (l ())=true) (fun l k _ => .aU [.int .i64 fun _=>(km (l ()) (k ()):Int),.bool fun _=>decide (km (l ()) (k ())<(l ()).length)&&decide (((l ()).getD (km (l ()) (k ())) Tc.bE.aa).af=k ())])
theorem avx:aK Tryz.prog agh:=by
 refine eE { kp := [(0,[0,1,2]),(1,[0,1,2]),(2,[0,1,2,8]),(3,[0,1,2,8,9,10]),(4,[0,1,2,8,9,10]),(5,[0,1,2,8,9,10,11]),(6,[0,1,2,8,10,11]),(7,[0,1,2,8,9,11]),(8,[0,1,2,8,9])] } [agd] ⟨avr,trivial⟩ [] trivial Tryz.func252 (by kernel_rfl) fun ai res h hp => ?_;obtain⟨(l:List cX),(k:Int),(f:Unit),rfl,rfl⟩:=mO h;clear h;have hB:gL l=true:=hp;have hl:=((za l).1 hB).1.2;refine cL l.length fun n hn => ?_;rw [hn] at hl;refine⟨[(3,avw l k n)],?_⟩;refine fm ?_;rw [hn];refine⟨⟨⟨cm _,az _,fun j hj=>absurd hj (oJ _),fun h=>absurd h (Nat.lt_irrefl _)⟩,rfl,rfl⟩,fun (p:Nat×Nat) hp => ?_⟩;have dZ:p.1<=p.2/\p.2<=n/\(∀ j,j<p.1->(l.getD j Tc.bE.aa).af<k)/\(p.2<n->k<=(l.getD p.2 Tc.bE.aa).af):=hp;have h1:=dZ.1;have h2:=dZ.2.1;have h3:=dZ.2.2.1;have h4:=dZ.2.2.2;clear hp;refine fm ?_;have hP:p.1<p.2->p.1+p.2<=2000:=fun h=>oo
 refine⟨fun g => ?_,fun g => ?_⟩
 . have aj:p.1<p.2:=oo
   rw [avu (hP aj)];refine cL ((p.1+p.2) / 2) fun m hm => ?_;rw [hm,dV,hn];have m1:p.1<=m:=oo
   have m2:m<p.2:=oo
   simp only [aY];refine⟨oo,by decide,oo,⟨oo,oo⟩,fun c=>⟨oo,?_⟩,fun c => ?_⟩
   . have hx:(l.getD m Tc.bE.aa).af<k:=(agf _ _).1 c;refine⟨(m+1,p.2),⟨⟨by show m+1<=p.2; omega,h2,fun j hj => ?_,h4⟩,by show p.2 - (m+1)<p.2 - p.1; omega⟩,?_⟩
     . have gQ:j<m+1:=hj;have:=Mp hB (i:=j) (j:=m) oo oo;omega
     . exact no_implicit_lambda% LJ
   . have hx:k<=(l.getD m Tc.bE.aa).af:=by
      have:=mt (agf (l.getD m Tc.bE.aa).af k).2 c;omega
     refine⟨(p.1,m),⟨⟨m1,by show m<=n; omega,h3,fun _=>hx⟩,by show m - p.1<p.2 - p.1; omega⟩,?_⟩
     exact no_implicit_lambda% LB
 . have he:p.1=p.2:=oo
   have hP:km l k=p.1:=Mo l k p.1 oo h3 fun h=>by rw [he]; exact h4 oo
   rw [hP];refine⟨fun c=>⟨⟨oo,oo⟩,rfl,?_⟩,fun c=>⟨rfl,?_⟩⟩
   . rw [c8 (show p.1<n from oo),dL,sD,aI,aI];exact avv _ _
   . rw [gw (show ¬p.1<n from oo),vJ]
def avy(v:Unit->Df):List AV:=kj (fun _=>(v ()).dr)++(kj (fun _=>(v ()).bu)++(kj (fun _=>(v ()).mc)++kj fun _=>(v ()).tu))
def agi:aH:=df 153 La kI (fun l _=>(l ()).length<=1000000000000) (fun l k => .aU [.agg (avy fun _=>(fQ (l ()) (k ())).1),.int .i64 fun _=>(fQ (l ()) (k ())).2])
theorem avz:aK Tryz.prog agi:=by
 refine eE { kp := [(0,[0,1]),(1,[0,1,4]),(2,[0,1,4,6,7,8]),(3,[4,8]),(4,[0,1,4,6,7]),(5,[4]),(6,[0,1,4]),(7,[0,1,4,9]),(8,[0,1,4,9]),(9,[1,4,11,12]),(10,[1,4,11,12,13]),(11,[1,4,11,12,13,49,50]),(12,[1,4,11,12,13,49,50]),(13,[1,4,11,12,13,14,15,49,50]),(14,[1,4,11,12,13,49,50]),(15,[4,13])],lt := [(8,⟨[0,1,2,3,5,6,7,4,8,9,10,11,12],[0,1,2,3,5,6,7],[],[⟨[0,1,2,3,4,5,6],[1,4,11,12,43,44,47,48],(0,0),[(7,4,1),(8,8,2),(9,9,3),(10,10,4)]⟩,⟨[0,1,2,3,4,5,6,7],[1,4,11,12,44,47,48],(0,4),[(8,8,5),(9,9,6),(10,10,7)]⟩,⟨[0,1,2,3,4,5,6,8],[1,4,11,12,43,44,48],(0,8),[(7,4,5),(9,9,8),(10,10,9)]⟩,⟨[0,1,2,3,4,5,6,9],[1,4,11,12,43,44,47,48],(0,9),[(7,4,6),(8,8,8),(10,10,10)]⟩,⟨[0,1,2,3,4,5,6,10],[1,4,11,12,43,44,47,48],(0,10),[(7,4,7),(8,8,9),(9,9,10)]⟩,⟨[0,1,2,3,4,5,6,7,8],[1,4,11,12,44,48],(1,8),[(9,9,11),(10,10,12)]⟩,⟨[0,1,2,3,4,5,6,7,9],[1,4,11,12,44,47,48],(1,9),[(8,8,11),(10,10,13)]⟩,⟨[0,1,2,3,4,5,6,7,10],[1,4,11,12,44,47,48],(1,10),[(8,8,12),(9,9,13)]⟩,⟨[0,1,2,3,4,5,6,8,9],[1,4,11,12,43,44,48],(2,9),[(7,4,11),(10,10,14)]⟩,⟨[0,1,2,3,4,5,6,8,10],[1,4,11,12,43,44,48],(2,10),[(7,4,12),(9,9,14)]⟩,⟨[0,1,2,3,4,5,6,9,10],[1,4,11,12,43,44,47,48],(3,10),[(7,4,13)]⟩,⟨[0,1,2,3,4,5,6,7,8,9],[1,4,11,12,44,48],(5,9),[(10,10,15)]⟩,⟨[0,1,2,3,4,5,6,7,8,10],[1,4,11,12,44,48],(5,10),[(9,9,15)]⟩,⟨[0,1,2,3,4,5,6,7,9,10],[1,4,11,12,44,47,48],(6,10),[(8,8,15),(11,11,16)]⟩,⟨[0,1,2,3,4,5,6,8,9,10],[1,4,11,12,43,44,48],(8,10),[(7,4,15)]⟩,⟨[0,1,2,3,4,5,6,7,8,9,10],[1,4,11,12,44,48],(11,10),[(11,11,17)]⟩,⟨[0,1,2,3,4,5,6,7,9,10,11],[1,4,11,12,47,48],(13,11),[(8,8,17)]⟩,⟨[0,1,2,3,4,5,6,7,8,9,10,11],[1,4,11,12,48],(15,11),[]⟩],[12]⟩),(13,⟨[0,1,2,3,4,5,6,7,8,9,10,11,12,13,14,15,16,17,18,19,20,21,22,23,24,25,26,27,28],[0,1,2,3,4,5,6,7,8,9,10,11,12,13,14,15,16,17,18,19,20,21,22,23,24,25,26,27],[28],[],[]⟩)],ul := [11] } [age,U2,agh,agc,af8,af9,aga,agb,G6] ⟨avt,af5,avx,avq,avm,avn,avo,avp,Mf,trivial⟩ [] trivial Tryz.func153 (by kernel_rfl) fun ai res h hp => ?_;obtain⟨(l:List cX),(k:Int),rfl,rfl⟩:=dz h;clear h;have hl:l.length<=1000000000000:=hp;refine⟨[],?_⟩;refine fm ?_;have hz:∀ e,fQ l k=(Uw,e)->(fQ l k).1.dr=fH/\(fQ l k).1.bu=fH/\(fQ l k).1.mc=fH/\(fQ l k).1.tu=fH/\(fQ l k).2=e:=fun e h=>by
  rw [h];exact⟨rfl,rfl,rfl,rfl,rfl⟩
 refine⟨hl,fun c => ?_,fun c1 => ?_⟩
 . have hB:gL l=false:=by
    cases h:gL l with
    | false=>rfl
    | true=>rw [h] at c; cases c
   obtain⟨z1,z2,z3,z4,z5⟩:=hz 2 (by unfold fQ; rw [hB]; rfl);rw [hB];exact cz z1 (cz z2 (cz z3 (cz z4 z5.symm)))
 have hB:gL l=true:=by
  cases h:gL l with
  | true=>rfl
  | false=>rw [h] at c1; cases c1
 rw [hB];simp only [eG];refine⟨fun c => ?_,fun c2 => ?_⟩
 . obtain⟨z1,z2,z3,z4,z5⟩:=hz 6 (by unfold fQ; rw [hB,aw rfl,ar (Du c)]);exact cz z1 (cz z2 (cz z3 (cz z4 z5.symm)))
 have hk:=tO c2;have yr:=aeX hB hk.1 hk.2;have hb:=aeY hB hk.1 hk.2;have hi:(bif decide ((km l k:Int)<1) then 1 else (km l k:Int))=(jx l k:Int):=by
  unfold jx;by_cases h:(km l k:Int)<1
  . rw [c8 h,eG]; omega
  . exact LV
 have hA:fQ l k=(vv (l.getD (jx l k - 1) Tc.bE.aa) (l.getD (jx l k) Tc.bE.aa) k,0):=by
  unfold fQ;rw [hB,aw rfl,aw hk]
 simp only [hi,dV,show ((jx l k:Int) - 1).toNat=jx l k - 1 from oo,hA];have hn:=((za l).1 hB).1.2;generalize jx l k=i at *
 generalize l.getD (i - 1) Tc.bE.aa=a at *
 generalize l.getD i Tc.bE.aa=b at *
 have d0:=hb.lt;have d1:=hb.le;have d2:=hb.ka;have d3:=hb.kb;have mm:∀ {x y M:Int},(-M<=x/\x<=M)->0<=y->y<=500000000->0<=M->M<=10000000000->aY (x*y):=fun {x y M} h h0 h1 h2 h3=>by
  have q1:=tS h.2 h0;have q2:=tS h.1 h0;have q3:=ahK h3 h1 h0 (by decide);rw [Ia] at q2;simp only [aY];omega
 have m3:∀ {x y M:Int},(-M<=x/\x<=M)->(-M<=y/\y<=M)->0<=M->M<=10000000000->aY (x*(b.af - k))/\aY (y*(k - a.af))/\aY (x*(b.af - k)+y*(k - a.af)):=fun {x y M} h h' h2 h3=>by
  refine⟨mm h oo oo h2 h3,mm h' oo oo h2 h3,?_⟩;have q:=Hd d1.1 d1.2 h h';have q3:=ahK h3 (show b.af - a.af<=500000000 from oo) oo (by decide);unfold sr at q;rw [Ia] at q;simp only [aY];omega
 have i1:aY (b.af - k):=ii
 have i2:aY (k - a.af):=ii
 have i3:aY (b.af - a.af):=ii
 obtain⟨a1,a2,a3⟩:=m3 (M:=50000) (x:=a.nW) (y:=b.nW) (by have:=hb.dr; omega) (by have:=hb.dr; omega) (by decide) (by decide);obtain⟨b1,b2,b3⟩:=m3 (M:=500000) (x:=a.mr) (y:=b.mr) (by have:=hb.bu; omega) (by have:=hb.bu; omega) (by decide) (by decide);obtain⟨e1,e2,e3⟩:=m3 (M:=500000) (x:=a.mc) (y:=b.mc) (by have:=hb.mc; omega) (by have:=hb.mc; omega) (by decide) (by decide);obtain⟨f1,f2,f3⟩:=m3 (M:=10000000000) (x:=a.jE) (y:=b.jE) (by have:=hb.tu; omega) (by have:=hb.tu; omega) (by decide) (by decide);refine⟨trivial,ii,⟨oo,oo⟩,⟨oo,oo⟩,i1,a1,i2,a2,a3,i3,⟨a3,i3⟩,i1,b1,i2,b2,b3,i3,⟨b3,i3⟩,i1,e1,i2,e2,e3,i3,⟨e3,i3⟩,i1,f1,i2,f2,f3,i3,⟨f3,i3⟩,?_⟩;exact cq rfl (cq rfl (cq rfl (cq rfl trivial)))
end Go.Proofs.YtlpikgchnjajmaaGreat
