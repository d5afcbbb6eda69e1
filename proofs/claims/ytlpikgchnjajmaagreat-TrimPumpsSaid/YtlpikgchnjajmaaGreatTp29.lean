/-
  frac by the abstract run: common, size64.
-/
import Derived.Test.YtlpikgchnjajmaaGreatTp28
set_option linter.all false
set_option maxRecDepth 100000
set_option maxHeartbeats 4000000
namespace Go.Proofs.YtlpikgchnjajmaaGreat
open Go.RowKit
theorem Db{x y:Nat}(h:x<=y):aL x<=aL y:=uf bW (Vr h (iI bW (az _)))
def ate(x y:Nat):Lp where
 X:=Nat×Nat
 ov p := [(0,.sl false .u32 fun _=>bL p.1),(1,.sl false .u32 fun _=>bL p.2)]
 oe _ := []
 I p:=Nat.gcd p.1 p.2=Nat.gcd x y/\aL p.1<=900/\aL p.2<=900
 μ p _:=p.2
 x0:=(x,y)
 nx:=some fun p=>(p.2,p.1 % p.2)
def Uf:aH:=df 159 kN kN (fun a b=>(ev (a ())/\(a ()).length<=900)/\ev (b ())/\(b ()).length<=900) (fun a b => .sl false .u32 fun _=>bL (Nat.gcd (dN (a ())) (dN (b ()))))
theorem aee:aK Tryz.prog Uf:=by
 refine eE { kp := [(0,[0,1]),(1,[0,1]),(2,[0,1]),(3,[1,6]),(4,[0])] } [Ue] ⟨ad5,trivial⟩ [] trivial Tryz.func159 (by kernel_rfl) fun ai res h hp => ?_;obtain⟨(a:List Int),(b:List Int),rfl,rfl⟩:=dz h;clear h;obtain⟨⟨ha,qH⟩,hb,iV⟩:(ev a/\a.length<=900)/\ev b/\b.length<=900:=hp;obtain⟨x,rfl,hx⟩:=mT ha;obtain⟨y,rfl,hy⟩:=mT hb;rw [ew] at qH iV;clear ha hb;refine⟨[(1,ate x y)],?_⟩;refine fm ?_;refine⟨⟨qH,iV⟩,fun (p:Nat×Nat) hq => ?_⟩;have Ug:Nat.gcd p.1 p.2=Nat.gcd x y/\aL p.1<=900/\aL p.2<=900:=hq;have hg:=Ug.1;have h1:=Ug.2.1;have h2:=Ug.2.2;clear hq;refine fm ?_;have mU:(bL p.2).length=aL p.2:=ew p.2;have qf:(bL p.1).length=aL p.1:=ew p.1;simp only [ik,qf,mU];refine⟨fun yr => ?_,fun hz => ?_⟩
 . have h0:0<p.2:=by
    rcases zo p.2 with h|h
    . rw [D8.2 h] at yr; omega
    . exact h
   have h3:aL (p.1 % p.2)<=900:=e8 (Db (Nv (oL _ h0))) h2;exact⟨⟨⟨dE oo,h1⟩,⟨dE oo,h2⟩,h0⟩,⟨⟨(Nat.gcd_comm _ _).trans ((Nat.gcd_rec p.2 p.1).symm.trans ((Nat.gcd_comm _ _).trans hg)),h2,h3⟩,oL _ h0⟩,trivial⟩
 . have h0:p.2=0:=D8.1 oo;rw [<- hg,h0,Nat.gcd_zero_right]
def Uh:aH:=dU 83 kI (fun n=>aY (n ())) (fun n => .sl false .u32 fun _=>bL (n ()).natAbs)
theorem aef:aK Tryz.prog Uh:=by
 refine cd [L0] ⟨TN,trivial⟩ Tryz.func83 (by kernel_rfl) fun ai res h hp => ?_;obtain⟨(n:Int),rfl,rfl⟩:=eu h;clear h;refine⟨[],?_⟩;refine fm ?_;simp only [Ly];have GO : -9223372036854775808<=n/\n<=9223372036854775807:=hp;have h0:=GO.1;have h1:=GO.2;refine⟨fun h=>⟨⟨oo,oo⟩,?_⟩,fun h=>⟨⟨oo,oo⟩,?_⟩⟩<;>congr 1<;>omega
end Go.Proofs.YtlpikgchnjajmaaGreat
