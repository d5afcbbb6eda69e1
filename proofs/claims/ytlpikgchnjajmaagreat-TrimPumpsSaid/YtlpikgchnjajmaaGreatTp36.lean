/-
  trim by the abstract run: what is computed with fractions; the faults.
-/
import Derived.Test.YtlpikgchnjajmaaGreatTp35
set_option linter.all false
set_option maxRecDepth 100000
set_option maxHeartbeats 4000000
namespace Go.Proofs.YtlpikgchnjajmaaGreat
open Go.RowKit
def UY:aH:=df 156 ma kI (fun _ _=>True) (fun f _ => .agg (aO false .iu f))
theorem afX:aK Tryz.prog UY:=by
 refine cd [] trivial Tryz.func156 (by kernel_rfl) fun ai res h hp => ?_;obtain⟨(f:bj),(e:Int),rfl,rfl⟩:=dz h;clear h;refine⟨[],?_⟩
 exact no_implicit_lambda% Bc
def kU(f:bj):bj:=⟨false,f.n0,f.n1,f.n2,f.n3,f.n4,f.n5,f.n6,f.n7,f.d0,f.d1,f.d2,f.d3,f.d4,f.d5,f.d6,f.d7⟩
theorem UZ{f:bj}(h:gK f):gK (kU f):=h
theorem MK(f:bj):bn (kU f)=vw (bn f):=rfl
def ML:aH:=dU 157 ma (fun _=>True) (fun f => .agg (aO false .iu fun _=>kU (f ())))
theorem U0:aK Tryz.prog ML:=by
 refine cd [] trivial Tryz.func157 (by kernel_rfl) fun ai res h hp => ?_;obtain⟨(f:bj),rfl,rfl⟩:=eu h;clear h;refine⟨[],?_⟩
 conv=>arg 1; cbv
 simp (maxSteps:=4000000) only [aB]
 first|done|trivial|exact⟨rfl,rfl⟩|rfl
def Ho:aH:=df 257 ma ma (fun f g=>gK (f ())/\gK (g ())) (fun f g => .bool fun _=>Hh (bn (f ())) (bn (g ())))
theorem MM:aK Tryz.prog Ho:=by
 refine cd [Ul] ⟨aeu,trivial⟩ Tryz.func257 (by kernel_rfl) fun ai res h hp => ?_;obtain⟨(f:bj),(g:bj),rfl,rfl⟩:=dz h;clear h;refine⟨[],?_⟩
 conv=>arg 1; cbv
 simp (maxSteps:=4000000) only [aB,aR,aS,bw];simp only [qY];exact⟨hp,rfl⟩
def tN(f:px):mg:=⟨f.af,bn f.dr,bn f.tr,bn f.de,bn f.y,bn f.st⟩
def afY(f:px):Prop:=gK f.dr/\gK f.tr/\gK f.de/\gK f.y/\gK f.st
def Dt(f:px)(l:Ld)(d:Int):Prop:=afY f/\aY l.x/\aY l.y/\aY l.z/\aY d
def afZ:aH:=lE 256 Hn yO kI (fun f l d=>Dt (f ()) (l ()) (d ())) (fun f l d => .bool fun _=>sy (tN (f ())) (l ()).x (l ()).y (l ()).z (d ()) 0)
theorem avh:aK Tryz.prog afZ:=by
 refine cd [Ho,A7] ⟨MM,De,trivial⟩ Tryz.func256 (by kernel_rfl) fun ai res h hp => ?_;obtain⟨(f:px),(l:Ld),(d:Int),rfl,rfl⟩:=mO h;clear h;refine⟨[],?_⟩
 conv=>arg 1; cbv
 simp (maxSteps:=4000000) only [aB,aR,aS,bw];simp only [qY,pn,mf,y6 hp.2.2.2.2,aS];exact⟨hp.2.2.2.2,hp.1.2.2.1,rfl⟩
def af0:aH:=lE 258 Hn yO kI (fun f l d=>Dt (f ()) (l ()) (d ())) (fun f l d => .bool fun _=>sy (tN (f ())) (l ()).x (l ()).y (l ()).z (d ()) 1)
theorem avi:aK Tryz.prog af0:=by
 refine cd [Ho,ML,A7] ⟨MM,U0,De,trivial⟩ Tryz.func258 (by kernel_rfl) fun ai res h hp => ?_;obtain⟨(f:px),(l:Ld),(d:Int),rfl,rfl⟩:=mO h;clear h;refine⟨[],?_⟩
 conv=>arg 1; cbv
 simp (maxSteps:=4000000) only [aB,aR,aS,bw];simp only [qY,pn,mf,y6 hp.2.1,MK,aS];exact⟨hp.2.1,UZ hp.1.2.1,rfl⟩
def af1:aH:=lE 259 Hn yO kI (fun f l d=>Dt (f ()) (l ()) (d ())) (fun f l d => .bool fun _=>sy (tN (f ())) (l ()).x (l ()).y (l ()).z (d ()) 2)
theorem avj:aK Tryz.prog af1:=by
 refine cd [Ho,A7] ⟨MM,De,trivial⟩ Tryz.func259 (by kernel_rfl) fun ai res h hp => ?_;obtain⟨(f:px),(l:Ld),(d:Int),rfl,rfl⟩:=mO h;clear h;refine⟨[],?_⟩
 conv=>arg 1; cbv
 simp (maxSteps:=4000000) only [aB,aR,aS,bw];simp only [qY,pn,mf,y6 hp.2.2.2.1,MK,aR];exact⟨hp.2.2.2.1,hp.1.2.2.2.2,rfl⟩
def af2:aH:=lE 260 Hn yO kI (fun f l d=>Dt (f ()) (l ()) (d ())) (fun f l d => .bool fun _=>sy (tN (f ())) (l ()).x (l ()).y (l ()).z (d ()) 3)
theorem avk:aK Tryz.prog af2:=by
 refine cd [Ho,ML,UY,Uk,A7] ⟨MM,U0,afX,aes,De,trivial⟩ Tryz.func260 (by kernel_rfl) fun ai res h hp => ?_;obtain⟨(f:px),(l:Ld),(d:Int),rfl,rfl⟩:=mO h;clear h;refine⟨[],?_⟩
 conv=>arg 1; cbv
 simp (maxSteps:=4000000) only [aB,aR,aS,bw];have i0:aY 10000:=⟨by decide,by decide⟩
 simp only [qY,pn,mf,y6 i0,y6 hp.2.2.1,adz,MK,aR,aS];exact⟨i0,UZ hp.1.2.2.2.1,hp.2.2.1,hp.1.2.2.2.2,rfl⟩
def af3:aH:=CH 164 (True) (.agg [.fn 256 [],.fn 258 [],.fn 259 [],.fn 260 []])
theorem avl:aK Tryz.prog af3:=by
 refine cd [] trivial Tryz.func164 (by kernel_rfl) fun ai res h hp => ?_;obtain⟨rfl,rfl⟩:=KZ h;clear h;refine⟨[],?_⟩
 exact no_implicit_lambda% L4
def U1:aH:=lE 88 Hn yO kI (fun f l d=>Dt (f ()) (l ()) (d ())) (fun f l d => .int .u8 fun _=>Dk (tN (f ())) (l ()).x (l ()).y (l ()).z (d ()))
theorem af4:aK Tryz.prog U1:=by
 refine eE { kp := [(0,[0,1,2]),(1,[2,3,4]),(2,[2,3,4,7]),(3,[2,3,4,7,10,11]),(4,[2,3,4,7,10,11]),(5,[2,3,4,7,8,9,10,11]),(6,[2,3,4,7,8,10,11]),(7,[2,3,4,7,10,11]),(8,[7])],lt := [],ul := [3] } [af3,afZ,af0,af1,af2] ⟨avl,avh,avi,avj,avk,trivial⟩ [] trivial Tryz.func88 (by kernel_rfl) fun ai res h hp => ?_;obtain⟨(f:px),(l:Ld),(d:Int),rfl,rfl⟩:=mO h;clear h;refine⟨[],?_⟩
 conv=>arg 1; cbv
 simp (maxSteps:=4000000) only [aB,aR,aS,bw];have e:(⟨f.af,f.dr,f.tr,f.de,f.y,f.st⟩:px)=f:=rfl;have e2:(⟨l.af,l.x,l.y,l.z⟩:Ld)=l:=rfl;simp only [qY,e,e2];have hF:Dt f l d:=hp;unfold Dk;generalize sy (tN f) l.x l.y l.z d 0=b0;generalize sy (tN f) l.x l.y l.z d 1=b1;generalize sy (tN f) l.x l.y l.z d 2=b2;generalize sy (tN f) l.x l.y l.z d 3=b3;simp only [hF,aR];clear hF hp e e2;cases b0<;>cases b1<;>cases b2<;>cases b3<;>(repeat' first|(intro h; cases h)|apply And.intro)<;>first|rfl|decide
end Go.Proofs.YtlpikgchnjajmaaGreat
