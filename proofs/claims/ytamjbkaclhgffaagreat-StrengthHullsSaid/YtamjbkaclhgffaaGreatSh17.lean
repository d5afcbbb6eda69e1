/-
  Kinds of arguments of strength: weights, sections, fractions, stresses.
-/
import Derived.Test.YtamjbkaclhgffaaGreatSh16
set_option linter.all false
set_option maxRecDepth 100000
set_option maxHeartbeats 4000000
namespace Go.Proofs.YtamjbkaclhgffaaGreat
open Go.RowKit
variable{f:FuncId}{R o:List Nat}{B N S S' T a b base by_ c d e i j m n owed owed' p q r s t x y:Nat}{ρ:Nat->Option Rl}{ra ro:Nat->Prop}{A:Option Addr}{w w':World}
def NO:List Sg := .bool::List.replicate 16 (.int .u32)
def AV.NP:AV->Option (Unit->List Int)
 | .sl false .u32 l=>some l
 | _=>none
theorem AV.aeG{x:AV}{n:Unit->List Int}(h:x.NP=some n):x = .sl false .u32 n:=by
 unfold AV.NP at h;split at h<;>cases h
 rfl
abbrev l7:Kd:=⟨List Int,.sl .u32,fun n => .sl false .u32 n,AV.NP,AV.aeG⟩
def AV.UB:AV->Option (Unit->Int)
 | .int .u64 n=>some n
 | _=>none
theorem AV.at0{x:AV}{n:Unit->Int}(h:x.UB=some n):x = .int .u64 n:=by
 unfold AV.UB at h;split at h<;>cases h
 rfl
abbrev aeH:Kd:=⟨Int,.int .u64,fun n => .int .u64 n,AV.UB,AV.at0⟩
def AV.UC:AV->Option (Unit->List Wt)
 | .sl false .wx l=>some l
 | _=>none
theorem AV.at1{x:AV}{n:Unit->List Wt}(h:x.UC=some n):x = .sl false .wx n:=by
 unfold AV.UC at h;split at h<;>cases h
 rfl
abbrev Cm:Kd:=⟨List Wt,.sl .wx,fun n => .sl false .wx n,AV.UC,AV.at1⟩
def AV.UD:AV->Option (Unit->List lB)
 | .sl false .cE l=>some l
 | _=>none
theorem AV.at2{x:AV}{n:Unit->List lB}(h:x.UD=some n):x = .sl false .cE n:=by
 unfold AV.UD at h;split at h<;>cases h
 rfl
abbrev Iz:Kd:=⟨List lB,.sl .cE,fun n => .sl false .cE n,AV.UD,AV.at2⟩
def wtL(x:Unit->Wt):List AV:=bf false .wx x
def AV.UE:AV->Option (Unit->Wt)
 | .agg [.int .i64 a,.int .i64 b]=>some fun _=>⟨a (),b ()⟩
 | _=>none
theorem AV.at3{x:AV}{n:Unit->Wt}(h:x.UE=some n):x = .agg (wtL n):=by
 unfold AV.UE at h;split at h<;>cases h
 rfl
abbrev kWt:Kd:=⟨Wt,.agg [.int .i64,.int .i64],fun n => .agg (wtL n),AV.UE,AV.at3⟩
def IA(x:Unit->au):List AV:=bf false .sy x
def AV.UF:AV->Option (Unit->au)
 | .agg [.int .i64 a,.int .i64 b,.int .i64 c,.int .i64 d,.int .i64 e,.int .i64 f]=>some fun _=>⟨a (),b (),c (),d (),e (),f ()⟩
 | _=>none
theorem AV.at5{x:AV}{n:Unit->au}(h:x.UF=some n):x = .agg (IA n):=by
 unfold AV.UF at h;split at h<;>cases h
 rfl
abbrev aeJ:Kd:=⟨au,.agg [.int .i64,.int .i64,.int .i64,.int .i64,.int .i64,.int .i64],fun n => .agg (IA n),AV.UF,AV.at5⟩
def AV.UG:AV->Option (Unit->bh)
 | .agg l=>xK l
 | _=>none
theorem AV.at6{x:AV}{n:Unit->bh}(h:x.UG=some n):x = .agg (bf false .jm n):=by
 unfold AV.UG at h;split at h
 . rw [(By h).1]
 . cases h
abbrev gn:Kd:=⟨bh,.agg NO,fun n => .agg (bf false .jm n),AV.UG,AV.at6⟩
def AV.UH:AV->Option (Unit->bh)
 | .bP l 0=>xK l
 | _=>none
theorem AV.at7{x:AV}{n:Unit->bh}(h:x.UH=some n):x = .bP (bf false .jm n) 0:=by
 unfold AV.UH at h;split at h
 . rw [(By h).1]
 . cases h
abbrev at8:Kd:=⟨bh,.bP NO,fun n => .bP (bf false .jm n) 0,AV.UH,AV.at7⟩
def UI(K:Kd):Kd:=⟨K.T,.bP [K.sg],fun f => .bP [K.av f] 0,fun
 | .bP [x] 0=>K.to x
 | _=>none,fun {x f} h=>by
  split at h
  . rw [K.ok h]
  . cases h⟩
def UJ(f:FuncId)(A:Kd)(pre:(Unit->A.T)->Prop)(n:(Unit->A.T)->Nat)(el:(Unit->A.T)->(Unit->Nat)->List AV):It:=⟨f,[A.sg],fun
 | [x0]=>(A.to x0).bind fun a=>some ⟨fun _=>pre a,fun _=>n a,el a⟩
 | _=>none⟩
theorem at9{A:Kd}{pre:(Unit->A.T)->Prop}{n:(Unit->A.T)->Nat}{el:(Unit->A.T)->(Unit->Nat)->List AV}{ah:List AV}{r:Lf}(h:(UJ f A pre n el).go ah=some r):∃ (a:A.T),ah = [A.av fun _=>a]/\r=⟨fun _=>pre (fun _=>a),fun _=>n (fun _=>a),el (fun _=>a)⟩:=by
 simp only [UJ] at h;exact aeh
def UK(f:FuncId)(A B:Kd)(pre:(Unit->A.T)->(Unit->B.T)->Prop)(n:(Unit->A.T)->(Unit->B.T)->Nat)(el:(Unit->A.T)->(Unit->B.T)->(Unit->Nat)->List AV):It:=⟨f,[A.sg,B.sg],fun
 | [x0,x1]=>(A.to x0).bind fun a=>(B.to x1).bind fun b=>some ⟨fun _=>pre a b,fun _=>n a b,el a b⟩
 | _=>none⟩
theorem aua{A B:Kd}{pre:(Unit->A.T)->(Unit->B.T)->Prop}{n:(Unit->A.T)->(Unit->B.T)->Nat}{el:(Unit->A.T)->(Unit->B.T)->(Unit->Nat)->List AV}{ah:List AV}{r:Lf}(h:(UK f A B pre n el).go ah=some r):∃ (a:A.T) (b:B.T),ah = [A.av fun _=>a,B.av fun _=>b]/\r=⟨fun _=>pre (fun _=>a) (fun _=>b),fun _=>n (fun _=>a) (fun _=>b),el (fun _=>a) (fun _=>b)⟩:=by
 simp only [UK] at h;exact aei
theorem aub(hB:2<=B){l:List Nat}(hl:cz B l)(h:l.length<=(aq B (aZ B l)).length):aq B (aZ B l)=l:=by
 rw [Zq hB hl,ez h]
theorem auc{a b:List Nat}(hV:aZ B o+B^o.length*c=aZ B (a.take o.length)+aZ B (b.take o.length)) :
 aZ B (o ++ [(c+a.getD o.length 0+b.getD o.length 0) % B])+B^(o.length+1)*((c+a.getD o.length 0+b.getD o.length 0) / B)=aZ B (a.take (o.length+1))+aZ B (b.take (o.length+1)):=by
 rw [KD,yS,yS,iE];generalize a.getD o.length 0=p at *
 generalize b.getD o.length 0=q at *
 generalize B^o.length=P at *
 have h:=F6 (c+p+q) B;generalize (c+p+q) % B=r at *
 generalize (c+p+q) / B=d at *
 grind
theorem aud{a b:List Nat}(h:aZ B o+aZ B (b.take o.length)=aZ B (a.take o.length)+B^o.length*owed)(hr:r+owed+b.getD o.length 0=a.getD o.length 0+B*owed') :
 aZ B (o ++ [r])+aZ B (b.take (o.length+1))=aZ B (a.take (o.length+1))+B^(o.length+1)*owed':=by
 rw [KD,yS,yS,iE];generalize a.getD o.length 0=p at *
 generalize b.getD o.length 0=q at *
 generalize B^o.length=P at *
 grind
theorem aue{a:List Nat}(h:aZ B o+B^o.length*c=aZ B (a.take o.length)*by_) :
 aZ B (o ++ [(c+a.getD o.length 0*by_) % B])+B^(o.length+1)*((c+a.getD o.length 0*by_) / B)=aZ B (a.take (o.length+1))*by_:=by
 rw [KD,yS,iE];generalize a.getD o.length 0=p at *
 generalize B^o.length=P at *
 have h1:=F6 (c+p*by_) B;generalize (c+p*by_) % B=r at *
 generalize (c+p*by_) / B=d at *
 grind
theorem aeK(hl:cK x=cK y)(hj:j<cK x)(hd:(aq ak x).drop (j+1)=(aq ak y).drop (j+1))(af:(aq ak x).getD j 0<(aq ak y).getD j 0):x<y:=by
 have DB:j<(aq ak y).length:=by
  have:j<cK y:=oo
  exact this
 have h:=Y8 (B:=ak) (a:=aq ak x) (b:=aq ak y) (cz.aq bT x) hl hj (by
  rw [aY,bq hj,aY,bq DB] at af;exact af) hd
 rwa [kH bT,kH bT] at h
theorem auf(h:cK x=1):aq ak x = [x]:=by
 have af:=eC bT (n:=x) (k:=1) (mU h);rw [Qb] at af;have h0:x≠0:=by
  intro h0;subst h0;cases h
 rw [sk bT h0,er af,jA af];rfl
theorem aug{R:Nat}(hR:R<b)(hx:x<B):(x+B*R) / b<B:=by
 rw [AH oo];have h1:B*R+B<=B*b:=by
  have:=j7 B (show R+1<=b from oo);rw [ow,lX] at this;exact this
 omega
theorem aeL(hn:n+1=cK b):0<(aq ak b).getD n 0/\b=aZ ak ((aq ak b).take n)+ak^n*(aq ak b).getD n 0/\aZ ak ((aq ak b).take n)<ak^n:=by
 have hlen:(aq ak b).length=n+1:=hn.symm;have oD:n<(aq ak b).length:=oo
 refine⟨?_,?_,?_⟩
 . refine FW (Y6 bT (n:=b) ?_);rw [YA,hlen,pf,aY,bq oD];rfl
 . have h1:=yS ak (aq ak b) n;rw [ez oo,kH bT] at h1;exact h1
 . have h1:=sj ((aq ak b).take n) ((cz.aq bT b).take n);rwa [cy,hlen,tf oo] at h1
theorem UL(W n:Nat):W=aZ ak ((aq ak W).take n)+ak^n*aZ ak ((aq ak W).drop n)/\aZ ak ((aq ak W).take n)<ak^n:=by
 have h1:=Gg ak (aq ak W) n;have h2:=sj ((aq ak W).take n) ((cz.aq bT W).take n);rw [kH bT] at h1;by_cases h:n<=(aq ak W).length
 . rw [cy,tf h] at h1 h2;exact⟨h1,h2⟩
 . rw [yI oo,Y2,uq] at h1 ⊢;exact⟨h1,iT h2 (ui (by decide) (by rw [cy]; omega))⟩
theorem auh{W:Nat}(hn:n+1=cK b) :
 aZ ak ((aq ak W).drop n) / ((aq ak b).getD n 0+1)<=W / b/\W / b<=aZ ak ((aq ak W).drop n) / (aq ak b).getD n 0:=by
 obtain⟨h1,h2,h3⟩:=aeL hn;obtain⟨h4,h5⟩:=UL W n;have hp:0<ak^n:=yN (by decide);have hb:0<b:=by
  rw [h2];have:=uu hp h1;omega
 refine⟨anG (B:=ak) (n:=n) ?_ h4 hb,Za (by decide) h2 h4 h5 h1⟩;rw [ow,lX];omega
theorem aui{W:Nat}(hn:n+1=cK b)(h:W<ak*b):aZ ak ((aq ak W).drop n)<4294967296:=by
 obtain⟨h4,_⟩:=UL W n;have hb:=eC bT (n:=b) (k:=n+1) (mU hn.symm);have h1:ak^n*aZ ak ((aq ak W).drop n)<ak^n*4294967296:=by
  have e:ak^n*4294967296=ak*ak^(n+1):=by
   rw [iE];have:(4294967296:Nat)=ak*ak:=rfl;rw [this];grind
  have:=Nat.mul_lt_mul_of_pos_left hb (show 0<ak by decide);omega
 exact aD2 h1
theorem auj{W mid:Nat}(hb:0<b)(hq:q=W / b)(h:W<b*mid):q<=mid - 1/\0<mid:=by
 have h1:q<mid:=by rw [hq,AH hb,j8]; exact h
 omega
theorem auk{W mid:Nat}(hb:0<b)(hq:q=W / b)(h:¬ W<b*mid):mid<=q:=by
 rw [hq,PY hb,j8];omega
def cl(l:List Nat):List Int:=l.map fun (n:Nat)=>(n:Int)
theorem UM(l:List Nat):(cl l).map Int.toNat=l:=by
 unfold cl;rw [xz]
 conv=>rhs; rw [<- Qc l]
 exact FU fun x _=>rfl
theorem iN(l:List Nat):(cl l).length=l.length:=di _
theorem qw(l:List Nat)(i:Nat):(cl l).getD i 0=(l.getD i 0:Nat):=by
 unfold cl;rw [aY,gC,aY];cases l[i]? <;> rfl
theorem wJ(l m:List Nat):cl (l++m)=cl l++cl m:=ot
theorem yd(l:List Nat)(k:Nat):(cl l).take k=cl (l.take k):=List.map_take.symm
theorem Cn(l:List Nat)(k:Nat):(cl l).drop k=cl (l.drop k):=List.map_drop.symm
theorem zS(l:List Nat)(k x:Nat):(cl l).set k x=cl (l.set k x):=List.map_set.symm
theorem IB(k:Nat):List.replicate k (0:Int)=cl (List.replicate k 0):=by unfold cl; rw [List.map_replicate]; rfl
theorem Co{l:List Nat}(h:l.length<=i):l.getD i 0=0:=by rw [aY,vF h]; rfl
theorem IC{l:List Int}(h:∀ d∈l,0<=d/\d<B):∃ m,l=cl m/\cz B m:=by
 refine⟨l.map Int.toNat,?_,fun d hd => ?_⟩
 . unfold cl;rw [xz]
   conv=>lhs; rw [<- Qc l]
   exact FU fun x hx=>by have:=h x hx; show x=((x.toNat:Nat):Int); omega
 . obtain⟨x,hx,rfl⟩:=lW.1 hd;have:=h x hx;omega
theorem aeM(h:cz B o):∀ d∈cl o,0<=d/\d<B:=fun d hd=>by
 obtain⟨x,hx,rfl⟩:=lW.1 hd;have:=h x hx;omega
def ca(n:Nat):List Int:=cl (aq ae n)
def dX(l:List Int):Nat:=aZ ae (l.map Int.toNat)
def eX(l:List Int):Prop:=l=ca (dX l)/\l.length<=1000
def d32(l:List Int):Prop:=(∀ d∈l,0<=d/\d<4294967296)/\l.length<=1000000
theorem rF(l:List Nat):dX (cl l)=aZ ae l:=by unfold dX; rw [UM]
theorem jd(n:Nat):dX (ca n)=n:=by unfold ca; rw [rF,kH cw]
theorem eY(n:Nat):(ca n).length=aX n:=iN _
theorem dI(h:aX n<=1000):eX (ca n):=⟨by rw [jd],by rw [eY]; exact h⟩
theorem n9{l:List Int}(h:eX l):∃ n,l=ca n/\aX n<=1000:=⟨dX l,h.1,by rw [<- eY,<- h.1]; exact h.2⟩
theorem EK(h:cz ae o)(hl:o.length<=1000000):d32 (cl o):=⟨aeM h,by rw [iN]; exact hl⟩
theorem aul(h:aX n<=1000):d32 (ca n):=EK (cz.aq cw n) (cd h (by decide))
theorem tK(n i:Nat):(ca n).getD i 0=((aq ae n).getD i 0:Nat):=qw _ _
theorem aeN(n k:Nat)(hk:k<=64):qa .shr .u64 (n:Int) (k:Int)=((n / 2^k:Nat):Int):=by
 unfold qa;rw [show min (Int.toNat (k:Int)) IntKind.u64.bits=k by rw [fB]; exact tf hk];show (n:Int).fdiv (2^k)=_
 rw [amO _ (by exact_mod_cast bw (2^k))]
 exact_mod_cast rfl
theorem ID(n:Nat):qa .shr .u64 (n:Int) 32=((n / 4294967296:Nat):Int):=aeN n 32 (by decide)
theorem aum(n:Nat):qa .shr .u64 (n:Int) 63=((n / 9223372036854775808:Nat):Int):=aeN n 63 (by decide)
theorem gJ(h:n<18446744073709551616):IntKind.u64.wrap (n:Int)=(n:Int):=wrap_u64 oo oo
theorem aeO(ha:a<4294967296):qa .shl .u64 (a:Int) 32=((a*4294967296:Nat):Int):=by
 unfold qa;show IntKind.u64.wrap ((a:Int)*4294967296)=_
 rw [wrap_u64 oo oo];omega
theorem aeP(ha:a<4294967296)(hd:d<4294967296):Bl .or .u64 ((a*4294967296:Nat):Int) (d:Int)=((a*4294967296+d:Nat):Int):=by
 have h:=bits_join .u64 64 (by decide) (fun n h0 h1=>wrap_u64 h0 h1) 32 ((a*4294967296:Nat):Int) (d:Int) oo oo oo oo oo oo;exact h.trans oo
theorem IE(n:Int):IntKind.u64.wrap n=n % 18446744073709551616:=by
 unfold IntKind.wrap;simp [IntKind.bits,IntKind.signed]
theorem aeQ{z:Int}(h:z=(m:Int))(hm:m=r+18446744069414584320/\r<4294967296\/m+4294967296=r/\r<8589934592):qa .shr .u64 z 63=((1 - r / 4294967296:Nat):Int)/\IntKind.u32.wrap z=((r % 4294967296:Nat):Int):=by
 rw [h,aum,wrap_u32];constructor
 . congr 1;omega
 . congr 1;omega
theorem aeR{o:Nat}(hd:d<4294967296)(hr:r+e+o=d+4294967296):qa .shr .u64 (IntKind.u64.wrap (IntKind.u64.wrap ((d:Int) - (o:Int)) - (e:Int))) 63=((1 - r / 4294967296:Nat):Int)/\IntKind.u32.wrap (IntKind.u64.wrap (IntKind.u64.wrap ((d:Int) - (o:Int)) - (e:Int)))=((r % 4294967296:Nat):Int) :=
 aeQ (m:=(d+18446744073709551616 - e - o) % 18446744073709551616) (by rw [IE,IE]; omega) oo
theorem aun{o:Nat}(hd:d<4294967296)(hr:r+o=d+4294967296):qa .shr .u64 (IntKind.u64.wrap ((d:Int) - (o:Int))) 63=((1 - r / 4294967296:Nat):Int)/\IntKind.u32.wrap (IntKind.u64.wrap ((d:Int) - (o:Int)))=((r % 4294967296:Nat):Int) :=
 aeQ (m:=(d+18446744073709551616 - o) % 18446744073709551616) (by rw [IE]; omega) oo
def giveUp(f:FuncId):fi:=⟨f,[],0,fun _ _=>none,false⟩
theorem UN{fn : Func}(hf : Tryz.prog.funcs[f]? = some fn)(hb : (fn.body.isNone || fn.name == "runtime.NumGoroutine") = false) : jb Tryz.prog (giveUp f) := by
 simp only [lU] at hb;exact⟨fun args w=>zP hf hb.1 hb.2 args w,fun ah es res h=>by cases h⟩
theorem eight{l:List Nat}(hl:l.length=8):∃ a0 a1 a2 a3 a4 a5 a6 a7:Nat,l = [a0,a1,a2,a3,a4,a5,a6,a7]:=by
 match l,hl with
 | [a0,a1,a2,a3,a4,a5,a6,a7],_=>exact⟨_,_,_,_,_,_,_,_,rfl⟩
def az(n i:Nat):Int:=(((pad ae 8 n).getD i 0:Nat):Int)
theorem ku:∀ i,i<8->az 0 i=0:=by decide
def gp(f:Unit->ba):List AV := [.bool fun _=>(f ()).neg,.int .u32 fun _=>az (f ()).num 0,.int .u32 fun _=>az (f ()).num 1,.int .u32 fun _=>az (f ()).num 2,.int .u32 fun _=>az (f ()).num 3,.int .u32 fun _=>az (f ()).num 4,.int .u32 fun _=>az (f ()).num 5,.int .u32 fun _=>az (f ()).num 6,.int .u32 fun _=>az (f ()).num 7,.int .u32 fun _=>az (f ()).den 0,.int .u32 fun _=>az (f ()).den 1,.int .u32 fun _=>az (f ()).den 2,.int .u32 fun _=>az (f ()).den 3,.int .u32 fun _=>az (f ()).den 4,.int .u32 fun _=>az (f ()).den 5,.int .u32 fun _=>az (f ()).den 6,.int .u32 fun _=>az (f ()).den 7]
theorem NQ(n:Nat) : [az n 0,az n 1,az n 2,az n 3,az n 4,az n 5,az n 6,az n 7]=(pad ae 8 n).map fun (k:Nat)=>(k:Int):=by
 obtain⟨a0,a1,a2,a3,a4,a5,a6,a7,h⟩:=eight (fg ae 8 n);unfold az;rw [h];rfl
theorem NR:ae^8=cA:=by decide
def ye(n:Nat):List Kx := [.i .u32 (az n 0),.i .u32 (az n 1),.i .u32 (az n 2),.i .u32 (az n 3),.i .u32 (az n 4),.i .u32 (az n 5),.i .u32 (az n 6),.i .u32 (az n 7)]
theorem NS(hm:m<cA)(hn:n<cA)(h:ye m=ye n):m=n:=by
 have h1 : [az m 0,az m 1,az m 2,az m 3,az m 4,az m 5,az m 6,az m 7] = [az n 0,az n 1,az n 2,az n 3,az n 4,az n 5,az n 6,az n 7]:=by
  unfold ye at h;simp only [vL,Kx.i.injEq,aJ,aH] at h ⊢;exact h
 rw [NQ,NQ] at h1;have h2:pad ae 8 m=pad ae 8 n:=(List.map_inj_right (f:=fun (k:Nat)=>(k:Int)) (fun a b h=>Int.ofNat.inj h)).1 h1;rw [<- ox (B:=ae) (by decide) 8 m (by rw [NR]; exact hm),<- ox (B:=ae) (by decide) 8 n (by rw [NR]; exact hn),h2]
def IF(f:ba):List Kx := .f f.neg::(ye f.num++ye f.den)
theorem auo{f g:ba}(hf:f.fits)(hg:g.fits)(h:IF f=IF g):f=g:=by
 unfold IF at h;have h1:=List.cons.inj h;have h2:=List.append_inj h1.2 rfl;obtain⟨a,b,c⟩:=f;obtain⟨a',b',c'⟩:=g;have e1:a=a':=by have:=h1.1; simpa using this
 have e2:b=b':=NS hf.1 hg.1 h2.1;have e3:c=c':=NS hf.2 hg.2 h2.2;rw [e1,e2,e3]
section
variable{w:World}{ρ:Nat->Option Rl}{base:Nat}{ro:Nat->Prop}{v:Value}
end
def dD(v:ba):bh:=⟨v.neg,az v.num 0,az v.num 1,az v.num 2,az v.num 3,az v.num 4,az v.num 5,az v.num 6,az v.num 7,az v.den 0,az v.den 1,az v.den 2,az v.den 3,az v.den 4,az v.den 5,az v.den 6,az v.den 7⟩
theorem jJ(v:ba):(⟨v.neg,az v.num 0,az v.num 1,az v.num 2,az v.num 3,az v.num 4,az v.num 5,az v.num 6,az v.num 7,az v.den 0,az v.den 1,az v.den 2,az v.den 3,az v.den 4,az v.den 5,az v.den 6,az v.den 7⟩:bh)=dD v:=rfl
theorem oT(c:bh):(⟨c.neg,c.n0,c.n1,c.n2,c.n3,c.n4,c.n5,c.n6,c.n7,c.d0,c.d1,c.d2,c.d3,c.d4,c.d5,c.d6,c.d7⟩:bh)=c:=rfl
def bh.mu(c:bh):List Int := [c.n0,c.n1,c.n2,c.n3,c.n4,c.n5,c.n6,c.n7]
def bh.aeS(c:bh):List Int := [c.d0,c.d1,c.d2,c.d3,c.d4,c.d5,c.d6,c.d7]
def aB(c:bh):ba:=⟨c.neg,aZ ae (c.mu.map Int.toNat),aZ ae (c.aeS.map Int.toNat)⟩
def Cp(l:List Int):Prop:=l.length=8/\∀ n∈l,0<=n/\n<4294967296
def eh(c:bh):Prop:=Cp c.mu/\Cp c.aeS
theorem aeT(n:Nat):Cp [az n 0,az n 1,az n 2,az n 3,az n 4,az n 5,az n 6,az n 7]:=by
 refine⟨rfl,fun x hx => ?_⟩;rw [NQ] at hx;obtain⟨k,hk,rfl⟩:=lW.1 hx;have:=sm (B:=ae) (by decide) 8 n k hk;unfold ae at this;omega
theorem jK(v:ba):eh (dD v):=⟨aeT _,aeT _⟩
theorem aeU(n:Nat)(h:n<cA):aZ ae ([az n 0,az n 1,az n 2,az n 3,az n 4,az n 5,az n 6,az n 7].map Int.toNat)=n:=by
 rw [NQ,xz];have:(Int.toNat∘fun (k:Nat)=>(k:Int))=id:=by funext k; simp
 rw [this,Qc];exact ox (by decide) 8 n (by rw [NR]; exact h)
theorem pI{v:ba}(h:v.fits):aB (dD v)=v:=by
 show (⟨v.neg,aZ ae ([az v.num 0,az v.num 1,az v.num 2,az v.num 3,az v.num 4,az v.num 5,az v.num 6,az v.num 7].map Int.toNat),aZ ae ([az v.den 0,az v.den 1,az v.den 2,az v.den 3,az v.den 4,az v.den 5,az v.den 6,az v.den 7].map Int.toNat)⟩:ba)=v
 rw [aeU _ h.1,aeU _ h.2]
theorem jL{c:bh}(h:eh c):(bf false .jm fun _=>c).map AV.valOf=(aB c).cells/\(aB c).fits/\dD (aB c)=c:=by
 have key:∀ {l:List Int},Cp l->pad ae 8 (aZ ae (l.map Int.toNat))=l.map Int.toNat/\aZ ae (l.map Int.toNat)<cA:=by
  intro l hl;have hd:cz ae (l.map Int.toNat):=fun k hk=>by
   obtain⟨x,hx,rfl⟩:=lW.1 hk;have:=hl.2 x hx;unfold ae;omega
  have hp:=Dw (B:=ae) (by decide) _ hd;rw [di,hl.1] at hp;refine⟨hp,?_⟩;rw [<- NR];have:=sj (B:=ae) _ hd;rwa [di,hl.1] at this
 obtain⟨k1,k2⟩:=key h.1;obtain⟨m1,m2⟩:=key h.2;have e:∀ {l:List Int},Cp l->(l.map Int.toNat).map (fun (n:Nat)=>Value.int .u32 (n:Int))=l.map (Value.int .u32):=by
  intro l hl;rw [xz];refine FU fun x hx => ?_;have:=(hl.2 x hx).1;show Value.int .u32 ((x.toNat:Nat):Int)=_
  rw [Int.toNat_of_nonneg this]
 refine⟨?_,⟨k2,m2⟩,?_⟩
 . unfold ba.cells aB;dsimp only;rw [k1,m1,e h.1,e h.2];rfl
 . have g:∀ {l:List Int},Cp l->∀ i,i<8->az (aZ ae (l.map Int.toNat)) i=l.getD i 0:=by
    intro l hl i hi;unfold az;rw [(key hl).1,aY,gC,aY];have af:i<l.length:=by rw [hl.1]; exact hi
    rw [bq af];have:=(hl.2 _ (lV af)).1;show (((l[i]).toNat:Nat):Int)=l[i]
    omega
   have g1 := @g _ h.1;have g2 := @g _ h.2;obtain⟨s,a0,a1,a2,a3,a4,a5,a6,a7,b0,b1,b2,b3,b4,b5,b6,b7⟩:=c;show dD ⟨s,_,_⟩=_
   unfold dD;dsimp only;rw [g1 0 (by decide),g1 1 (by decide),g1 2 (by decide),g1 3 (by decide),g1 4 (by decide),g1 5 (by decide),g1 6 (by decide),g1 7 (by decide),g2 0 (by decide),g2 1 (by decide),g2 2 (by decide),g2 3 (by decide),g2 4 (by decide),g2 5 (by decide),g2 6 (by decide),g2 7 (by decide)];rfl
theorem wK(f g:ba):aB (dD (fW f g).1)=(fW f g).1:=pI (DA f g)
theorem wL(f g:ba):aB (dD (gG f g).1)=(gG f g).1:=pI (KH f g)
theorem u7(f g:ba):aB (dD (mulL f g).1)=(mulL f g).1:=pI (anO f g)
theorem wM(f g:ba):aB (dD (gM f g).1)=(gM f g).1:=pI (anP f g)
theorem aeV(a b:Int):aB (dD (kJ a b).1)=(kJ a b).1:=pI (anN a b)
theorem jM{n:Int}(h:aP n):aB (dD (cr n))=cr n:=pI ⟨by have h1:=h.1; have h2:=h.2; show n.natAbs<cA; unfold cA; omega,by show 1<cA; decide⟩
theorem aeW(h:Qu w A n)(hc:aX n<=c)(ck:∀ a,A=some a->ro a.block):aj w ρ base ro (.sl false .u32 fun _=>ca n) (.slice A (aX n) c):=by
 rw [<- eY n] at hc ⊢;refine .sl false .u32 (fun _=>ca n) A c (mu .u32 (aq ae n)) (by rw [Qs,eY]) (by rw [Qs]; rw [eY] at hc; exact hc) h (fun a ha _=>ck a ha) (fun h=>by cases h) fun k cs j x v hk hx hv => ?_;have af:k<(aq ae n).length:=by
  have:=(c8.1 hk).1;rwa [Qs] at this
 rw [Zi af] at hk;injection hk with hk;subst hk
 match j,hx,hv with
 | 0,hx,hv =>
  cases hx;cases hv;refine aj.int_eq ?_;show (ca n).getD k 0=_
  rw [tK,aY,bq af];rfl
def UO(w:World)(g:Nat)(f:ba):Prop:=w.heap[g]? = some (.cells f.cells.toArray 52 (0,0))
theorem aup(f:ba)(hf:f.fits)(w:World):Calls Tryz.prog 126 #[f.val] w fun e w'=>e = .returned (.tuple #[.slice (some ⟨w.heap.size,1,none⟩) (aX f.num) 8,.slice (some ⟨w.heap.size,9,none⟩) (aX f.den) 8])/\Qu w' (some ⟨w.heap.size,1,none⟩) f.num/\Qu w' (some ⟨w.heap.size,9,none⟩) f.den/\dL w w':=by
 have xW:f.num<ae^8:=by rw [Gq]; exact hf.1
 have iJ:f.den<ae^8:=by rw [Gq]; exact hf.2
 have UP:=bt (fun (w1:World) (h:UO w1 w.heap.size f)=>Zx (some ⟨w.heap.size,1,none⟩) 8 8 (pad ae 8 f.num) (fg _ _ _).symm w1 (KJ h).1 (sm (by decide) _ _) wN (by rw [fg]; omega));have UQ:=bt (fun (w1:World) (h:UO w1 w.heap.size f)=>Zx (some ⟨w.heap.size,9,none⟩) 8 8 (pad ae 8 f.den) (fg _ _ _).symm w1 (KJ h).2 (sm (by decide) _ _) (by rw [fg]; omega) (by rw [fg]; omega));rw [ox (by decide) _ _ xW] at UP;rw [ox (by decide) _ _ iJ] at UQ;have hmo:Tryz.prog.follows .mixedOrders=true:=by kernel_rfl
 have HF:Hid (∀ n,UO ((w.alloc (.cells f.cells.toArray 52)).drewN n) w.heap.size f):=fun n=>(show ((w.alloc (.cells f.cells.toArray 52)).drewN n).heap[w.heap.size]? = (w.alloc (.cells f.cells.toArray 52)).heap[w.heap.size]? by simp).trans (AM w _);obtain⟨ln,oE⟩:∃ ln,ln=aX f.num:=⟨_,rfl⟩
 obtain⟨ld,mW⟩:∃ ld,ld=aX f.den:=⟨_,rfl⟩
 rw [<- oE] at UP;rw [<- mW] at UQ;have HL:=bt (And.intro oE mW);clear xW iJ oE mW;unfold ba.val
 go_enter Tryz.func126,Tryz.ntmps126
 go_wp2
 go_quiet (first
  | (go_at_call_of 105 (Value.slice (some ⟨w.heap.size,1,none⟩) 8 8); exact Calls.quiet_of_same (UP.out _ (HF.out _)))
  | (go_at_call_of 105 (Value.slice (some ⟨w.heap.size,9,none⟩) 8 8); exact Calls.quiet_of_same (UQ.out _ (HF.out _))))
 go_wp2
 go_ret2
 have sB:=HF.out nq;have r1:=Zr cw (KJ sB).1 (sm (by decide) _ _);have r2:=Zr cw (KJ sB).2 (sm (by decide) _ _);rw [ox (by decide) _ _ (by rw [Gq]; exact hf.1)] at r1;rw [ox (by decide) _ _ (by rw [Gq]; exact hf.2)] at r2;exact⟨by rw [<- HL.out.1,<- HL.out.2]; rfl,r1,r2,below_drewN ((dU _ _).alloc (aN _) _) nq⟩
def EL:aC:=cL 126 gn (fun f=>eh (f ())) (fun f => .bp [.sl false .u32 fun _=>ca (aB (f ())).num,.sl false .u32 fun _=>ca (aB (f ())).den])
theorem IG:aE Tryz.prog EL:=by
 refine EF Tryz.func126 (by kernel_rfl) fun ah res h w ra eu hE hp => ?_;obtain⟨(f:bh),rfl,rfl⟩:=cS h;clear h;obtain⟨v0,zT,rfl,nj,h0⟩:=hE.head;obtain rfl:=h0.none;obtain⟨hf,rD,_⟩:=jL hp;obtain rfl:=nj.aef rfl;rw [hf];exact (aup (aB f) rD w).mono fun e w' ⟨k1,k2,k3,k4⟩=>⟨_,k1,k4,Uc (aeW k2 (gV rD.1) fun a h=>by cases h; exact .inr (aN _)) (aeW k3 (gV rD.2) fun a h=>by cases h; exact .inr (aN _))⟩
def aur(l:List Nat)(n:Nat):Lp where
 X:=Nat
 ov k := [(0,.sl false .u32 fun _=>cl (l.take k))]
 oe _ := []
 I k:=k<=l.length/\∀ d∈l.drop k,d=0
 μ k _:=k
 x0:=n
 nx:=some fun k=>k - 1
def EM:aC:=cL 105 l7 (fun a=>d32 (a ())) (fun a => .sl false .u32 fun _=>ca (dX (a ())))
theorem IH:aE Tryz.prog EM:=by
 refine bD [] trivial Tryz.func105 (by kernel_rfl) fun ah res h hp => ?_;obtain⟨(a:List Int),rfl,rfl⟩:=cS h;clear h;obtain⟨l,rfl,hd⟩:=IC (B:=ae) hp.1;have hl:l.length<=1000000:=by have:=hp.2; rwa [iN] at this
 clear hp;refine bk l.length fun n Cq => ?_;refine⟨[(1,aur l n)],?_⟩
 conv=>arg 1; cbv
 refine⟨?_,fun (k:Nat) hk => ?_⟩
 . exact aeX
 have bu:k<=l.length/\∀ d∈l.drop k,d=0:=hk;have bM:=bu.1;have bm:=bu.2;refine fm ?_;have hn:(cl (l.take k)).length=k:=by rw [iN,cy]; omega
 have dr:Tc.u32.aa=0:=rfl;simp only [hn,rF,dr];refine⟨fun g=>⟨ii,⟨oo,oo⟩,fun z=>⟨ii,⟨oo,oo⟩,⟨⟨oo,fun d hd => ?_⟩,oo⟩,?_⟩,fun z => ?_⟩,fun g => ?_⟩
 . exact aeY
 . exact aeZ
 . unfold ca;rw [Dv cw hd bM bm (.inr ⟨k - 1,oo,fun e=>z ?_⟩)];exact ae0
 . have tq:k=0:=oo
   unfold ca;rw [Dv cw hd bM bm (.inl tq)]
theorem II:jb Tryz.prog (giveUp 105):=UN Tryz.func105 (by kernel_rfl)
def NT:aC:=cL 46 aeH (fun a=>0<=a ()/\a ()<18446744073709551616) (fun a => .sl false .u32 fun _=>ca (a ()).toNat)
theorem UR:aE Tryz.prog NT:=by
 refine bZ {} [EM] ⟨IH,trivial⟩ [giveUp 105] ⟨II,trivial⟩ Tryz.func46 (by kernel_rfl) fun ah res h hp => ?_;obtain⟨(a:Int),rfl,rfl⟩:=cS h;clear h;have u9:0<=a/\a<18446744073709551616:=hp;have h0:=u9.1;have h1:=u9.2;obtain⟨n,rfl⟩:=om h0;have hn:n<18446744073709551616:=oo
 refine⟨[],?_⟩;refine fm ?_;rw [ID,wrap_u32,wrap_u32,er (show n / 4294967296<4294967296 from oo)];have hds:cz ae [n % 4294967296,n / 4294967296]:=by
  intro d hd;simp only [gD,ani,or_false] at hd;rcases hd with rfl|rfl<;>(show _<4294967296; omega)
 refine⟨oo,EK hds (show 2<=1000000 by decide),?_⟩;have e:dX (cl [n % 4294967296,n / 4294967296])=n:=by
  rw [rF];show n % 4294967296+4294967296*(n / 4294967296+4294967296*0)=n
  omega
 exact congrArg ca e
def US:aC:=cL 103 l7 (fun a=>eX (a ())) (fun a => .bool fun _=>decide (dX (a ())=1))
theorem ae1:aE Tryz.prog US:=by
 refine bD [] trivial Tryz.func103 (by kernel_rfl) fun ah res h hp => ?_;obtain⟨(a:List Int),rfl,rfl⟩:=cS h;clear h;obtain⟨x,rfl,hx⟩:=n9 hp;refine⟨[],?_⟩;refine fm ?_;rw [jd];have dr:Tc.u32.aa=0:=rfl;simp only [eY,dr];refine⟨fun g=>⟨⟨oo,oo⟩,?_⟩,fun g => ?_⟩
 . have e:=an4 (x:=x) oo;have e2:(ca x).getD (Int.toNat 0) 0=(x:Int):=by unfold ca; rw [e]; rfl
   rw [e2];exact vM.2 oo
 . rw [yQ,ew]
   rintro rfl
   exact g (by unfold aX; rw [Y7 cw]; rfl)
def Cr(x m k:Nat):Nat:=aZ ae (((aq ae x).drop k).take (m - k))
theorem ae2{k:Nat}(hm:m<=2)(hk:0<k):Cr x m k<4294967296:=by
 have h:=sj (B:=ae) (((aq ae x).drop k).take (m - k)) (((cz.aq cw x).drop k).take _);have h2:ae^(((aq ae x).drop k).take (m - k)).length<=ae^1:=ui (by decide) (by rw [cy]; omega);exact iT h h2
theorem aut{k:Nat}(hm:m<=2)(hk:0<k)(NU:k<=m)(hx:m<=(aq ae x).length):Bl .or .u64 (qa .shl .u64 (Cr x m k:Int) 32) (((aq ae x).getD (k - 1) 0:Nat):Int)=(Cr x m (k - 1):Nat):=by
 rw [aeO (ae2 hm hk),aeP (ae2 hm hk) ((cz.aq cw x).getD (by decide) _)];have af:k - 1<(aq ae x).length:=oo
 congr 1;unfold Cr;rw [QA af,show m - (k - 1)=(m - k)+1 from oo,Kl,show k - 1+1=k from oo,uv];show _*4294967296+_=_+4294967296*_
 omega
def auu(x m:Nat):Lp where
 X:=Nat
 ov k := [(4,.int .i64 fun _=>(k:Int) - 1),(3,.int .u64 fun _=>(Cr x m k:Nat))]
 oe _ := []
 I k:=k<=m
 μ k _:=k
 x0:=m
 nx:=some fun k=>k - 1
def ae3:aC:=cL 164 l7 (fun a=>eX (a ())) (fun a => .int .u64 fun _=>((dX (a ()) % 18446744073709551616:Nat):Int))
theorem auv:aE Tryz.prog ae3:=by
 refine bD [] trivial Tryz.func164 (by kernel_rfl) fun ah res h hp => ?_;obtain⟨(a:List Int),rfl,rfl⟩:=cS h;clear h;obtain⟨x,rfl,hx⟩:=n9 hp;refine bk (min (aX x) 2) fun m hm => ?_;refine⟨[(3,auu x m)],?_⟩;refine fm ?_;have hl:(ca x).length=aX x:=eY x;have e1:(bif decide (2<((ca x).length:Int)) then 2 else ((ca x).length:Int))=(m:Int):=by
  cases h:decide (2<((ca x).length:Int)) with
  | true=>have:=r8 h; simp only [pg]; omega
  | false=>have:=FV h; simp only [qP]; omega
 rw [e1];have e2:Cr x m m=0:=by unfold Cr; rw [vS,F9]; rfl
 refine⟨ii,⟨aN _,rfl,by rw [e2]; rfl⟩,fun (k:Nat) hk => ?_⟩;have bM:k<=m:=hk;clear hk hp;refine fm ?_;have dr:Tc.u32.aa=0:=rfl;simp only [dr,tK,hl];refine⟨fun g=>⟨oo,⟨oo,oo⟩,ii,⟨oo,oo⟩,oo,?_⟩,fun g => ?_⟩
 . rw [gJ (YV ((cz.aq cw x).getD (by decide) _) (by decide))];exact aut oo oo bM (show m<=aX x from oo)
 . have tq:k=0:=oo
   subst tq;rw [jd,<- an5,hm];rfl
theorem ae4{t:Tc}{l:Unit->List t.el}(f:t.el->List Value)(ht:∀ x:t.el,(bf true t fun _=>x).all AV.flat=true)(hf:∀ x:t.el,(bf true t fun _=>x).map AV.valOf=f x)(hρ:∀ l,ρ l=none)(jv:∀ b,ra b->b<w.heap.size)(hb:dL w w')(ho:dc w' w.heap.size T t.size A c ((l ()).map f)):∃ ρ1 fP,Left w w' ρ ρ1 ra fP [(0,.row true t T l)] false/\aj w' ρ1 w.heap.size fP (.own 0) (.slice A (l ()).length c):=by
 have hr:∀ l' r,fK ρ 0 (.row A (l ()).length c) l'=some r->l'=0/\r = .row A (l ()).length c:=by
  intro l' r h;unfold fK at h;split at h
  . rename_i e;cases h;exact⟨e,rfl⟩
  . rw [hρ] at h;cases h
 have GS:∀ b,(Rl.row A (l ()).length c).cH=some b->w.heap.size<=b/\b<w'.heap.size:=by
  intro b h;simp only [Rl.cH] at h;obtain⟨a,ha,rfl⟩:=nH.1 h;exact ho.lt ha
 refine⟨fK ρ 0 (.row A (l ()).length c),ra,⟨?_,fun l' e he => ?_,fun l1 l2 r r' b bg h1 h2 _ _ => ?_,fun l' cQ => ?_,fun l' r b h uK => ?_,fun b bo => ?_,fun l' r h _=>by rw [hρ] at h; cases h⟩,.own 0 A _ c (jH _ _ _)⟩
 . exact⟨hb.os,hb.tape,hb.output,hb.size,fun k hk _=>hb.block k hk⟩
 . simp only [al] at he;split at he
   . rename_i e0;have:l'=0:=by simpa using (cC.1 e0).symm
     subst this;cases he;refine⟨A,c,(l ()).map f,jH _ _ _,ho,by simp,fun k cs j x v hk hx hv => ?_⟩;rw [gC] at hk
     cases tl:(l ())[k]? with
     | none=>rw [tl] at hk; cases hk
     | some y =>
      rw [tl] at hk;injection hk with hk;subst hk;have hy:(l ()).getD k t.aa=y:=by rw [aY,tl]; rfl
      rw [hy] at hx;have hE:bn w' (fK ρ 0 (.row A (l ()).length c)) w.heap.size ra (bf true t fun _=>y) (f y):=by
       rw [<- hf];exact Nq (ht y)
      exact hE.2 j x v hx hv
   . cases he
 . exact absurd ((hr _ _ h1).1.trans (hr _ _ h2).1.symm) bg
 . have:l'≠0:=by
    rintro rfl
    simp [dS,bV] at cQ
   unfold fK;rw [ax this,hρ]
 . obtain⟨rfl,rfl⟩:=hr _ _ h;have h3:=GS b uK;exact⟨h3.2,fun h4=>by have:=jv b h4; omega,.inl h3.1⟩
 . exact⟨iT (jv b bo) hb.size,fun _=>bo⟩
def oU.cells(x:Int):List Value := [.int .u32 x]
theorem aj.auw{v:Value}{fr:Bool}{l:Unit->List Int}(h:aj w ρ base ro (.sl fr .u32 l) v):∃ A c,v = .slice A (l ()).length c/\(l ()).length<=c/\Rd w w.heap.size 1 A ((l ()).map oU.cells):=aj.Nr (t := .u32) (l:=l) oU.cells (fun _=>rfl) (fun _=>rfl) h
theorem oU.ei:EI Tryz.prog 114 49 1 4:=EI.mk Tryz.underlying114 anW rfl (by decide)
theorem oU.QI(l:List Int):∀ cs∈l.map oU.cells,∀ u∈cs,u.oneCell'=true:=by
 intro cs hc u hu;obtain⟨x,_,rfl⟩:=lW.1 hc;simp only [oU.cells,gD,ani,or_false] at hu;subst hu;rfl
theorem auy(A:Option Addr)(c:Nat)(l:List Int)(n:Nat)(hn:n=l.length)(w:World)(hA:Rd w w.heap.size 1 A (l.map oU.cells))(hl:l.length<=1000000) :
 Calls Tryz.prog 163 #[.slice A n c] w fun e w'=>∃ A' c',e = .returned (.slice A' l.length c')/\dc w' w.heap.size 49 1 A' c' (l.map oU.cells)/\Below w.heap.size w w':=by
 subst hn
 cases A with
 | none =>
  have p6:l = []:=by
   rcases l with _|⟨x,l⟩
   . rfl
   . obtain⟨_,_,h,_⟩:=hA 0 (oU.cells x) rfl;cases h
  subst p6;have heq:=fun w=>Go.Lib.run_eql_slice_nil (P:=Tryz.prog) w 114 49 none 0 c 0 0 Tryz.underlying114
  go_enter Tryz.func163,Tryz.ntmps163
  go_wp2
  go_ret
  exact⟨none,0,rfl,dc.nil _ _ _ _,dU _ _⟩
 | some ad =>
  have heq:=fun w=>Go.Lib.run_eql_slice_nil (P:=Tryz.prog) w 114 49 (some ad) l.length c 0 0 Tryz.underlying114;have c6:Below w.heap.size w (w.alloc (Obj.cells #[] 49)):=(dU _ _).alloc (aN _) _;have UT:=bt ((hA.below c6 (aN _)).more c6.size);have UU:=bt (dc.ZA w w.heap.size 49 1 (aN _));have IJ:=bt c6;clear hA c6
  go_enter Tryz.func163,Tryz.ntmps163
  go_wp2_with (first
   | (at_builtin; go_loud (refine Zc rfl _ _ rfl oU.ei 0 rfl rfl UU.out rfl _ UT.out (by simp) (oU.QI l) (by unfold maxLen; simp; omega) (by simp; omega) IJ.out.size ?_); intro A4 c4 w4 UW hg4 IK))
  go_ret
  exact⟨A4,c4,by simp,by simpa using UW,IJ.out.trans IK⟩
def NV:fi:=⟨163,[.sl .u32],0,fun ah es=>match ah,es with
 | [x],[]=>x.NP.bind fun l=>some ⟨fun _=>(l ()).length<=1000000,.own 0,[(0,.row true .u32 49 l)]⟩
 | _,_=>none,false⟩
theorem ae5:jb Tryz.prog NV:=by
 refine⟨fun args w=>zP Tryz.func163 (by kernel_rfl) (by kernel_rfl) args w,fun ah es res h w ρ ra eu jv hE mG kj df bS hp => ?_⟩;simp only [NV] at h;split at h
 case h_2=>cases h
 rename_i x;simp only [mm,bU] at h;obtain⟨l,e0,rfl⟩:=h;obtain rfl:=AV.aeG e0;obtain⟨v0,zT,rfl,nj,h0⟩:=hE.head;obtain rfl:=h0.none;obtain⟨A0,q0,rfl,qd,wO⟩:=nj.auw;refine (auy A0 q0 (l ()) _ rfl w wO hp).mono fun e w' ⟨A',c',k1,k2,k3⟩ => ?_;obtain⟨ρ1,fP,hL,hv⟩:=ae4 (t := .u32) (l:=l) oU.cells (fun _=>rfl) (fun _=>rfl) (fun l=>df l (bw _)) jv k3 k2;exact⟨_,ρ1,fP,k1,hL,hv⟩
theorem ae6{B:Nat}(hB:0<B):∀ (k x j:Nat),j<k->(pad B k x)[j]? = some (x / B^j % B)
 | 0,_,_,h=>oo
 | k+1,x,0,_=>by simp [pad]
 | k+1,x,j+1,h=>by
  have ih:=ae6 hB k (x / B) j oo;unfold pad;rw [PW,ih,vE,iE,j8 B]
theorem UX(hB:2<=B)(x:Nat):∀ j,(aq B x).getD j 0=x / B^j % B:=by
 induction x using Nat.strongRecOn with
 | ind x ih =>
  intro j;by_cases h0:x=0
  . subst h0;rw [vV hB];simp
  . rw [sk hB h0]
    cases j with
    | zero=>simp
    | succ j =>
     have h1:=ih (x / B) (Nat.div_lt_self oo oo) j;rw [am1,h1,vE,iE,j8 B]
theorem UY(B:Nat):∀ (k s:Nat),pad B (k+1) s=pad B k s ++ [s / B^k % B]
 | 0,s=>by simp [pad]
 | k+1,s=>by
  have h:=UY B k (s / B);show s % B::pad B (k+1) (s / B)=s % B::pad B k (s / B) ++ [s / B^(k+1) % B]
  rw [h,iE,j8,<- vE];rfl
theorem IL{B:Nat}:∀ {k s t:Nat},s % B^k=t % B^k->pad B k s=pad B k t
 | 0,_,_,_=>rfl
 | k+1,s,t,h=>by
  have e:B^(k+1)=B*B^k:=by rw [iE,j8]
  have h1:s % B=t % B:=by rw [<- Nat.mod_mul_right_mod s B (B^k),<- Nat.mod_mul_right_mod t B (B^k),<- e,h]
  have h2:s / B % B^k=t / B % B^k:=by rw [<- amM,<- amM,<- e,h]
  show s % B::pad B k (s / B)=t % B::pad B k (t / B)
  rw [h1,IL h2]
def gw(k S:Nat)(R:List Nat):List Nat:=pad ae k S++R.drop k
theorem EN{k:Nat}(h:k<=R.length):(gw k S R).length=R.length:=by
 unfold gw;rw [c9,fg,iU];omega
theorem UZ(S:Nat)(R:List Nat):gw 0 S R=R:=rfl
theorem U0(S:Nat)(R:List Nat):gw R.length S R=pad ae R.length S:=by
 unfold gw;rw [amT,th]
theorem U1{k:Nat}:(gw k S R).getD k 0=R.getD k 0:=by
 unfold gw;rw [aY,r6 U2,fg,vS,mo,aY,jD]
theorem EO{k z:Nat}(hk:k<R.length)(h:S' % ae^k=S % ae^k)(hz:z=S' / ae^k % ae):(gw k S R).set k z=gw (k+1) S' R:=by
 unfold gw;rw [rZ hk,YI _ _ U2,fg,vS,AJ,UY,hz,IL h,fl];rfl
theorem Cs(x k:Nat):x % ae^(k+1)=x % ae^k+ae^k*(x / ae^k % ae):=by rw [iE,Nat.mod_mul]
def dg(x k:Nat):Nat:=x / ae^k % ae
theorem rG(x k:Nat):(aq ae x).getD k 0=dg x k:=UX cw x k
theorem l8(x k:Nat):dg x k<ae:=jk _ (by decide)
theorem IM{k:Nat}(h:aX x<=k):dg x k=0:=by
 rw [<- rG,aY,vF h];rfl
theorem NW{k:Nat}(h:aX x<=k):x % ae^k=x:=er (eC cw h)
theorem rH(k:Nat):0<ae^k:=yN (by decide)
theorem Ct(x k:Nat):x % ae^k<ae^k:=jk _ (rH k)
theorem Cu(s k:Nat):s / ae^k / ae=s / ae^(k+1):=by rw [iE,vE]
def fS(x y k:Nat):Nat:=x % ae^k+y % ae^k
theorem ae7(x y k:Nat):fS x y (k+1) / ae^k=fS x y k / ae^k+dg x k+dg y k/\fS x y (k+1) % ae^k=fS x y k % ae^k:=by
 have e:fS x y (k+1)=fS x y k+ae^k*(dg x k+dg y k):=by
  unfold fS dg;rw [Cs,Cs,ow];omega
 rw [e];exact⟨by rw [xr _ _ (rH k),pZ],xq _ _ _⟩
theorem ae8(x y k:Nat):fS x y k / ae^k<=1:=by
 have h1:=Ct x k;have h2:=Ct y k;have h3:fS x y k<ae^k*2:=by unfold fS; omega
 have:=AI h3;omega
theorem auA(hx:aX x<=n)(hy:aX y<=n):(gw n (fS x y n) (List.replicate (n+1) 0)).set n (fS x y n / ae^n % ae)=pad ae (n+1) (x+y)/\x+y<ae^(n+1):=by
 have hS:fS x y n=x+y:=by unfold fS; rw [NW hx,NW hy]
 have hR:(List.replicate (n+1) 0).length=n+1:=td;constructor
 . rw [hS,EO (S':=x+y) oo rfl rfl];have:=U0 (x+y) (List.replicate (n+1) 0);rwa [hR] at this
 . have h1:=eC cw hx;have h2:=eC cw hy;have h3:ae^(n+1)=ae^n*4294967296:=iE ..;omega
def eZ(x y k:Nat):Nat:=x % ae^k+ae^k - y % ae^k
theorem auB{P a1 b1 P1 Pd Pe Pq Pm:Nat}(e1:a1=a+Pd)(e2:b1=b+Pe)(e3:P1=Pm+P)(e4:Pq+Pe=Pd+Pm)(h1:b<P)(hb:b1<P1):a1+P1 - b1=a+P - b+Pq:=oo
theorem auC{P:Nat}(h:a<P):a+P - b<P*2:=oo
theorem ae9(x y k:Nat):eZ x y (k+1) / ae^k+dg y k=eZ x y k / ae^k+dg x k+4294967295/\eZ x y (k+1) % ae^k=eZ x y k % ae^k/\eZ x y (k+1) / ae^(k+1)<=1:=by
 have hp:=rH k;have h1:=Ct y k;have h2:=l8 y k;have hy:=Ct y (k+1);have hx:=Ct x (k+1);obtain⟨q,hq⟩:∃ q,q+dg y k=dg x k+4294967295:=⟨dg x k+4294967295 - dg y k,by have:ae=4294967296:=rfl; omega⟩
 have e:eZ x y (k+1)=eZ x y k+ae^k*q:=by
  have e3:ae^(k+1)=ae^k*4294967295+ae^k:=by rw [iE]; show ae^k*4294967296=_; omega
  have e4:ae^k*q+ae^k*dg y k=ae^k*dg x k+ae^k*4294967295:=by rw [<- ow,hq,ow]
  exact auB (Cs x k) (Cs y k) e3 e4 h1 hy
 refine⟨?_,by rw [e]; exact xq _ _ _,?_⟩
 . rw [e,xr _ _ hp,pZ,hq,pZ]
 . have:=AI (auC (b:=y % ae^(k+1)) hx);exact anm.1 this
theorem auD(hx:aX x<=n)(h:y<=x):eZ x y n % ae^n=x - y/\x - y<ae^n:=by
 have h1:=eC cw hx;unfold eZ;rw [er h1,er (show y<ae^n from oo),show x+ae^n - y=x - y+ae^n from oo,Nat.add_mod_right,er (show x - y<ae^n from oo)];exact⟨rfl,oo⟩
theorem auE(x:Nat)(h:aX x=n):pad ae n x=aq ae x:=by rw [KE cw (eC cw (mU h)),show n - (aq ae x).length=0 by show n - aX x=0; omega]; exact th _
theorem Cv(B:Nat):∀ (k N s:Nat),k<=N->(pad B N s).take k=pad B k s
 | 0,_,_,_=>rfl
 | k+1,0,_,h=>oo
 | k+1,N+1,s,h=>by
  show s % B::(pad B N (s / B)).take k=s % B::pad B k (s / B)
  rw [Cv B k N _ oo]
theorem zU(B:Nat):∀ (k N s:Nat),k<=N->(pad B N s).drop k=pad B (N - k) (s / B^k)
 | 0,_,_,_=>by rw [mT,sf,sd]; rfl
 | k+1,0,_,h=>oo
 | k+1,N+1,s,h=>by
  show (pad B N (s / B)).drop k=_
  rw [zU B k N _ oo,vE,iE,j8 B,Nat.add_sub_add_right]
theorem afa{k:Nat}(hk:k<=N)(h:t / ae^k=S / ae^k):gw k S (pad ae N t)=pad ae N S:=by
 unfold gw;rw [zU _ _ _ _ hk,h,<- zU _ _ _ _ hk,<- Cv ae k N S hk,lT]
theorem EP{k:Nat}(h:k<N):(pad ae N s).getD k 0=dg s k:=by
 rw [aY,ae6 (by decide) N s k h];rfl
def fE(x y i:Nat):Nat:=x % ae^i*y
def kY(x y i k:Nat):Nat:=fE x y i+ae^i*(dg x i*(y % ae^k))
def l9(x y i k:Nat):Nat:=kY x y i k / ae^(i+k) - fE x y i / ae^(i+k)
theorem afb(x y i:Nat):kY x y i 0=fE x y i:=by
 unfold kY;rw [mT,qO,uq,uq,jD]
theorem afc(x y i:Nat):l9 x y i 0=0:=by
 unfold l9;rw [afb,vS]
theorem auF{A:Nat}(hB:0<B):(A+c+p) % B=(c+p+A % B) % B/\(A+c+p) / B - A / B=(c+p+A % B) / B:=by
 have e:A+c+p=(c+p+A % B)+B*(A / B):=by have:=Dm A B; omega
 rw [e,xq,xr _ _ hB,pf];exact⟨rfl,rfl⟩
theorem afd(ha:a<ae)(hb:b<ae):a*b<=4294967295*4294967295:=vP (anm.1 ha) (anm.1 hb)
theorem auG{k:Nat}(hc:l9 x y i k<ae):kY x y i (k+1) / ae^(i+k) % ae=(l9 x y i k+dg x i*dg y k+dg (fE x y i) (i+k)) % ae/\kY x y i (k+1) % ae^(i+k)=kY x y i k % ae^(i+k)/\l9 x y i (k+1)=(l9 x y i k+dg x i*dg y k+dg (fE x y i) (i+k)) / ae/\l9 x y i k+dg x i*dg y k+dg (fE x y i) (i+k)<18446744073709551616:=by
 have hp:=rH (i+k);have e1:kY x y i (k+1)=kY x y i k+ae^(i+k)*(dg x i*dg y k):=by
  unfold kY;rw [Cs,vT,ow,ow,pZ,show y / ae^k % ae=dg y k from rfl,Kp (dg x i),Ga]
 have e2:kY x y i k / ae^(i+k)=fE x y i / ae^(i+k)+l9 x y i k:=by
  have:fE x y i / ae^(i+k)<=kY x y i k / ae^(i+k):=Nat.div_le_div_right (anh _ _);unfold l9;omega
 have e3:kY x y i (k+1) / ae^(i+k)=fE x y i / ae^(i+k)+l9 x y i k+dg x i*dg y k:=by rw [e1,xr _ _ hp,e2]
 obtain⟨a1,a2⟩:=auF (A:=fE x y i / ae^(i+k)) (c:=l9 x y i k) (p:=dg x i*dg y k) (B:=ae) (by decide);refine⟨by rw [e3,a1]; rfl,by rw [e1]; exact xq _ _ _,?_,?_⟩
 . show kY x y i (k+1) / ae^(i+(k+1)) - fE x y i / ae^(i+(k+1))=_
   rw [<- pZ,<- Cu,<- Cu,e3,a2];rfl
 . have h1:=afd (l8 x i) (l8 y k);have h2:=l8 (fE x y i) (i+k);have hB:ae=4294967296:=rfl;omega
theorem IN(hy:aX y<=m)(x i:Nat):fE x y i<ae^(i+m):=by
 have h1:=eC cw hy;have h2:=Ct x i;unfold fE;rw [vT];exact YR h2 h1
theorem auH(hy:aX y<=m)(i:Nat):kY x y i m=fE x y (i+1)/\l9 x y i m=fE x y (i+1) / ae^(i+m) % ae:=by
 have e:kY x y i m=fE x y (i+1):=by
  unfold kY fE;rw [NW hy,Cs,mV,show x / ae^i % ae=dg x i from rfl,Ga]
 refine⟨e,?_⟩;have h1:=IN hy x (i+1);rw [show i+1+m=i+m+1 from oo,iE] at h1;unfold l9;rw [e,jA (IN hy x i),sd,er (AI h1)]
theorem auI(hy:aX y<=m)(hi:i<n):(gw (i+m) (kY x y i m) (pad ae (n+m) (fE x y i))).set (i+m) (l9 x y i m)=pad ae (n+m) (fE x y (i+1)):=by
 obtain⟨e1,e2⟩:=auH (x:=x) hy i;have h1:=IN hy x (i+1);rw [e1,e2,EO (S':=fE x y (i+1)) wN rfl rfl];have h2:=IN hy x i;have h3:ae^(i+m)<=ae^(i+m+1):=ui (by decide) oo;exact afa oo (by rw [jA (iT h2 h3),jA (by rw [show i+m+1=i+1+m from oo]; exact h1)])
theorem auJ(hx:x<ae^m)(hy:y<ae^m):eZ x y m=x+ae^m - y/\1 - eZ x y m / ae^m=if x<y then 1 else 0:=by
 have e:eZ x y m=x+ae^m - y:=by unfold eZ; rw [er hx,er hy]
 refine⟨e,?_⟩;rw [e];by_cases h:x<y
 . rw [aG h,jA oo]
 . rw [ax h,show x+ae^m - y=x - y+ae^m from oo,Nat.add_div_right _ (rH m),jA oo]
theorem auK(hx:x<ae^m)(hy:y<ae^m):fS x y m=x+y:=by unfold fS; rw [er hx,er hy]
def mulC(t v k:Nat):Nat:=t*(v % ae^k) / ae^k
theorem auL(t v:Nat):mulC t v 0=0:=by
 unfold mulC;rw [mT,qO,uq]
theorem auM{v k:Nat}(ht:t<ae):mulC t v k<ae:=by
 have h:=Ct v k;refine AI ?_;have h1:t*(v % ae^k)<=t*ae^k:=j7 _ (AO h);have h2:t*ae^k<ae*ae^k:=PU ht (rH k);rw [j8 (ae^k)];omega
theorem auN(t v k:Nat):mulC t v (k+1)=(mulC t v k+t*dg v k) / ae/\dg (t*v) k=(mulC t v k+t*dg v k) % ae:=by
 have hp:=rH k;have e1:t*(v % ae^(k+1))=t*(v % ae^k)+ae^k*(t*dg v k):=by
  rw [Cs,ow,show v / ae^k % ae=dg v k from rfl,Kp]
 have e2:t*(v % ae^(k+1)) / ae^k=mulC t v k+t*dg v k:=by rw [e1,xr _ _ hp]; rfl
 refine⟨by unfold mulC; rw [<- Cu,e2]; rfl,?_⟩;have e3:t*v=t*(v % ae^(k+1))+ae^k*(ae*(t*(v / ae^(k+1)))):=by
  have h:=F6 v (ae^(k+1))
  conv=>lhs; rw [<- h]
  rw [ow,Kp t,iE,Ga]
 unfold dg;rw [e3,xr _ _ hp,e2,xq];rfl
theorem afe{v:Nat}(ht:t<ae)(hv:aX v<=n)(hm:n<m):t*v<ae^m:=by
 have h1:=eC cw hv;have h2:t*v<=t*ae^n:=j7 _ (AO h1);have h3:t*ae^n<ae*ae^n:=PU ht (rH n);have h4:ae*ae^n<=ae^m:=by rw [j8,<- iE]; exact ui (by decide) hm
 omega
open Go.RowKit
def auO(x y n T:Nat):Lp where
 X:=Nat
 ov k := [(22,.int .i64 fun _=>(k:Int)),(6,.int .u64 fun _=>(fS x y k / ae^k:Nat)),(5,.own 0)]
 oe k := [(0,.row true .u32 T fun _=>cl (gw k (fS x y k) (List.replicate (n+1) 0)))]
 I k:=k<=n
 μ k _:=n - k
 x0:=0
 nx:=some fun k=>k+1
def aff:aC:=bE 187 l7 l7 (fun a b=>eX (a ())/\eX (b ())) (fun a b => .sl false .u32 fun _=>ca (dX (a ())+dX (b ())))
theorem auP:aE Tryz.prog aff:=by
 refine bZ { kp := [(0,[0,1]),(1,[0,1]),(2,[0,1]),(3,[0,1]),(4,[0,1,5]),(5,[0,1,5,6]),(6,[0,1,5,6,20,21,22]),(7,[0,1,5,6,20,21,22]),(8,[0,1,5,6,7,8,20,21,22]),(9,[0,1,5,6,7,20,21,22]),(10,[0,1,5,6,7,20,21,22]),(11,[0,1,5,6,7,20,21,22]),(12,[0,1,5,6,20,21,22]),(13,[0,1,5,6,20,21,22]),(14,[0,5,6]),(15,[5])] } [EM] ⟨IH,trivial⟩ [giveUp 105] ⟨II,trivial⟩ Tryz.func187 (by kernel_rfl) fun ah res h hp => ?_;obtain⟨(a:List Int),(b:List Int),rfl,rfl⟩:=bG h;clear h;have ma:eX a/\eX b:=hp;have ha:=ma.1;have hb:=ma.2;obtain⟨x,rfl,hx⟩:=n9 ha;obtain⟨y,rfl,hy⟩:=n9 hb;clear ha hb;rcases cv (aX x) (aX y) with hc|hc
 case' inl=>generalize hX:y=X at *; generalize hY:x=Y at *
 case' inr=>generalize hX:x=X at *; generalize hY:y=Y at *
 all_goals
  refine bk (aX X) fun n hn => ?_;refine⟨[(6,auO X Y n 49)],?_⟩;refine fm ?_;have pJ:(ca X).length=aX X:=eY X;have mM:(ca Y).length=aX Y:=eY Y;have yf:fS X Y 0 / 4294967296^0=0:=by unfold fS; rw [mT,qO,qO]
  simp only [pJ,mM,yf,UZ,<- IB];refine⟨fun g => ?_,fun g => ?_⟩<;>first|(exfalso; omega)|skip
  refine⟨ii,⟨oo,oo⟩,⟨⟨bw _,rfl,rfl,by rw [show ((aX X:Int)+1).toNat=n+1 from oo]⟩,fun (k:Nat) hk => ?_⟩⟩;have bM:k<=n:=hk;clear hk hp;refine fm ?_;have dr:Tc.u32.aa=0:=rfl;have rE:(aq 4294967296 X).length=n:=hn;have hR:(List.replicate (n+1) 0).length=n+1:=td;have dO:(cl (gw k (fS X Y k) (List.replicate (n+1) 0))).length=n+1:=by rw [iN,EN oo,hR]
  have hX1:=l8 X k;have U3:=l8 Y k;have yg:aX Y<=k->dg Y k=0:=IM;have iw:=ae8 X Y k;obtain⟨m9,qX⟩:=ae7 X Y k;have vd:=Cu (fS X Y (k+1)) k;have hB:ae=4294967296:=rfl;simp only [dr,tK,rG,dO,rE,pJ,mM,hn];have qm:=fun (hk:k<n) z hz=>zS (gw k (fS X Y k) (List.replicate (n+1) 0)) k z▸congrArg cl (EO (z:=z) (R:=List.replicate (n+1) 0) oo qX hz);have gH:k=n->ca (dX ((cl (gw k (fS X Y k) (List.replicate (n+1) 0))).set n (IntKind.u32.wrap ((fS X Y k / 4294967296^k:Nat):Int))))=ca (X+Y)/\d32 ((cl (gw k (fS X Y k) (List.replicate (n+1) 0))).set n (IntKind.u32.wrap ((fS X Y k / 4294967296^k:Nat):Int))):=by
   rintro rfl
   obtain⟨e1,e2⟩:=auA (x:=X) (y:=Y) (n:=k) oo oo;rw [wrap_u32,zS,e1,rF,ox (by decide) _ _ e2];exact⟨rfl,EK (sm (by decide) _ _) wN⟩
  clear qX;generalize fS X Y k / 4294967296^k=c at *
  have w1:IntKind.u64.wrap (dg X k:Int)=(dg X k:Int):=gJ oo;have w2:IntKind.u64.wrap (dg Y k:Int)=(dg Y k:Int):=gJ oo;have w3:IntKind.u64.wrap ((c:Int)+(dg X k:Int))=((c+dg X k:Nat):Int):=by rw [<- F8]; exact gJ oo
  have w4:IntKind.u64.wrap (((c+dg X k:Nat):Int)+(dg Y k:Int))=((c+dg X k+dg Y k:Nat):Int):=by rw [<- F8]; exact gJ oo
  simp only [w1,w2,w3,w4,ID,wrap_u32,jd];refine⟨fun g1=>⟨⟨oo,oo⟩,fun g2=>⟨⟨oo,oo⟩,⟨oo,oo⟩,oo,ii,⟨oo,oo⟩,oo,?_,qm oo _ (by rw [m9])⟩,fun g2=>⟨⟨oo,oo⟩,oo,ii,⟨oo,oo⟩,oo,?_,qm oo _ (by rw [m9,yg oo,jD])⟩⟩,fun g1=>⟨⟨oo,oo⟩,?_,?_⟩⟩
  . rw [<- vd,m9]
  . rw [<- vd,m9,yg oo,jD]
  . have:=(gH oo).2; rwa [wrap_u32] at this
  . have:=(gH oo).1; rw [wrap_u32] at this; exact this.trans (congrArg ca oo)
def auR(x y n T:Nat):Lp where
 X:=Nat
 ov k := [(13,.int .i64 fun _=>(k:Int)),(6,.int .u64 fun _=>(1 - eZ x y k / ae^k:Nat)),(5,.own 0)]
 oe k := [(0,.row true .u32 T fun _=>cl (gw k (eZ x y k) (aq ae x)))]
 I k:=k<=n/\eZ x y k / ae^k<=1
 μ k _:=n - k
 x0:=0
 nx:=some fun k=>k+1
def afg:aC:=bE 188 l7 l7 (fun a b=>(eX (a ())/\eX (b ()))/\dX (b ())<=dX (a ())) (fun a b => .sl false .u32 fun _=>ca (dX (a ()) - dX (b ())))
theorem auS:aE Tryz.prog afg:=by
 refine bZ { kp := [(0,[0,1]),(1,[0,1]),(2,[1,5]),(3,[1,5,6]),(4,[1,5,6,12,13]),(5,[1,5,6,12,13]),(6,[1,5,6,7,12,13]),(7,[1,5,7,8,12,13]),(8,[1,5,7,8,12,13]),(9,[1,5,7,8,12,13]),(10,[1,5,8,12,13]),(11,[1,5,6,12,13]),(12,[5])] } [EM] ⟨IH,trivial⟩ [giveUp 105,NV] ⟨II,ae5,trivial⟩ Tryz.func188 (by kernel_rfl) fun ah res h hp => ?_;obtain⟨(a:List Int),(b:List Int),rfl,rfl⟩:=bG h;clear h;obtain⟨⟨ha,hb⟩,hle⟩:(eX a/\eX b)/\dX b<=dX a:=hp;obtain⟨x,rfl,hx⟩:=n9 ha;obtain⟨y,rfl,hy⟩:=n9 hb;clear ha hb;rw [jd,jd] at hle;refine bk (aX x) fun n hn => ?_;refine⟨[(4,auR x y n 49)],?_⟩;refine fm ?_;have pJ:(ca x).length=n:=(eY x).trans hn;have mM:(ca y).length=aX y:=eY y;have yf:eZ x y 0 / 4294967296^0=1:=by unfold eZ; rw [mT,qO,qO]
 simp only [pJ,mM,yf,UZ];refine⟨oo,⟨⟨⟨bw _,aN _⟩,rfl,rfl,rfl⟩,fun (k:Nat) hk => ?_⟩⟩;have bu:k<=n/\eZ x y k / ae^k<=1:=hk;have bM:=bu.1;have bm:=bu.2;clear hk;refine fm ?_;have dr:Tc.u32.aa=0:=rfl;have rE:(aq ae x).length=n:=hn;have dO:(cl (gw k (eZ x y k) (aq ae x))).length=n:=by rw [iN,EN oo,rE]
 have lF:(cl (gw k (eZ x y k) (aq ae x))).getD k 0=(dg x k:Nat):=by rw [qw,U1,rG]
 have hX1:=l8 x k;have U3:=l8 y k;have yg:aX y<=k->dg y k=0:=IM;obtain⟨m9,qX,IP⟩:=ae9 x y k;have vd:=Cu (eZ x y (k+1)) k;have hB:ae=4294967296:=rfl;simp only [dr,tK,rG,dO,lF,pJ,mM,jd];have qm:=fun (hk:k<n) z hz=>zS (gw k (eZ x y k) (aq ae x)) k z▸congrArg cl (EO (z:=z) (R:=aq ae x) oo qX hz);have gH:k=n->ca (dX (cl (gw k (eZ x y k) (aq ae x))))=ca (x - y)/\d32 (cl (gw k (eZ x y k) (aq ae x))):=by
  rintro rfl
  obtain⟨e1,e2⟩:=auD (x:=x) (y:=y) (n:=k) oo hle;have e3:gw k (eZ x y k) (aq ae x)=pad ae k (x - y):=by
   have:=U0 (eZ x y k) (aq ae x);rw [rE] at this;rw [this];exact IL (by rw [e1,er e2])
  rw [e3,rF,ox (by decide) _ _ e2];exact⟨rfl,EK (sm (by decide) _ _) wN⟩
 clear qX;generalize eZ x y k / 4294967296^k=c at *
 have w1:IntKind.u64.wrap (dg x k:Int)=(dg x k:Int):=gJ oo;have w2:IntKind.u64.wrap (dg y k:Int)=(dg y k:Int):=gJ oo;obtain⟨o1,o2⟩:=aeR (d:=dg x k) (e:=dg y k) (o:=1 - c) (r:=eZ x y (k+1) / ae^k) oo oo;have Em:=fun (h:dg y k=0)=>aun (d:=dg x k) (o:=1 - c) (r:=eZ x y (k+1) / ae^k) oo oo;simp only [w1,w2,o1,o2];refine⟨fun g1=>⟨⟨oo,oo⟩,fun g2=>⟨⟨oo,oo⟩,⟨oo,oo⟩,oo,ii,⟨⟨oo,IP⟩,oo⟩,oo,by rw [<- vd],qm oo _ rfl⟩,fun g2 => ?_⟩,fun g1=>⟨(gH oo).2,(gH oo).1⟩⟩;obtain⟨p1,p2⟩:=Em (yg oo);rw [p1,p2];exact⟨⟨oo,oo⟩,oo,ii,⟨⟨oo,IP⟩,oo⟩,oo,by rw [<- vd],qm oo _ rfl⟩
end Go.Proofs.YtamjbkaclhgffaaGreat
