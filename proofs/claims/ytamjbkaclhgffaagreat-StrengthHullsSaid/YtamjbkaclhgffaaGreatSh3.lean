/-
  Keys of maps: flat ones (a number, a text, an array or a struct of numbers and bools); they are found by what they hold.
-/
import Derived.Test.YtamjbkaclhgffaaGreatSh2
import Derived.Maps.Keyed
import Derived.Maps.RangeRun
set_option linter.all false
namespace Go.Proofs.YtamjbkaclhgffaaGreat
open Go.MapKept
variable{m z:Int}{k' kk:IntKind}{vs:List Value}{T j:Nat}{x y:Operand}{e kt t':TypeId}
inductive Kx where
 | i (k:IntKind) (n:Int)
 | f (p:Bool)
 | s (x:ByteArray)
deriving DecidableEq
def Kx.val:Kx->Value
 | .i k n => .int k n
 | .f p => .bool p
 | .s x => .string x
inductive Lk where
 | int (k:IntKind)|bool|str
deriving DecidableEq
def Lk.desc:Lk->TypeDesc
 | .int k => .int k
 | .bool => .bool
 | .str => .string
def Lk.fits:Lk->Kx->Bool
 | .int k,.i k' _=>decide (k=k')
 | .bool,.f _=>true
 | .str,.s _=>true
 | _,_=>false
def dP:List Lk->List Kx->Bool
 | [],[]=>true
 | l::ls,x::xs=>l.fits x&&dP ls xs
 | _,_=>false
inductive Kc where
 | one (l:Lk)
 | arr (n:Nat) (l:Lk)
 | st (ls:List Lk)
deriving DecidableEq
def Kc.ls:Kc->List Lk
 | .one l => [l]
 | .arr n l=>List.replicate n l
 | .st ls=>ls
def Kc.val(c:Kc)(l:List Kx):Value:=match c,l with
 | .one _,[x]=>x.val
 | _,l => .agg (l.map Kx.val).toArray
def uG(P:Program)(e:TypeId)(l:Lk):Bool:=match P.underlying e,l with
 | some (.int k),.int k'=>decide (k=k')
 | some .bool,.bool=>true
 | some .string,.str=>true
 | _,_=>false
def uH(P:Program):Nat->List Field->List Lk->Bool
 | _,[],[]=>true
 | n, f :: fs, l :: ls => f.offset == n && f.name != "_" && uG P f.type l && uH P (n + 1) fs ls
 | _,_,_=>false
def v7(P:Program)(kt:TypeId):Kc->Bool
 | .one l=>uG P kt l
 | .arr n l=>match P.underlying kt with
  | some (.array n' e)=>n==n'&&uG P e l&&(match P.info? e with|some i=>i.size==1&&P.cellsOf e==1|none=>false)
  | _=>false
 | .st ls=>match P.underlying kt with
  | some (.struct fs)=>uH P 0 fs.toList ls && !P.stoodInHeld kt
  | _=>false
section
variable{P:Program}{w:World}
theorem QS{n:Nat}{l:Lk}(h:v7 P kt (.arr n l)=true):∃ e i,P.underlying kt=some (.array n e)/\uG P e l=true/\P.info? e=some i/\P.cellsOf e=1:=by
 simp only [v7] at h;split at h
 . rename_i n' e hu;simp only [aD,cC] at h;obtain⟨⟨rfl,hl⟩,h⟩:=h;split at h
   . rename_i i hi;simp only [aD,cC] at h;exact⟨e,i,hu,hl,hi,h.2⟩
   . cases h
 . cases h
theorem QT{ls:List Lk}(h:v7 P kt (.st ls)=true):∃ fs,P.underlying kt=some (.struct fs)/\uH P 0 fs.toList ls=true/\P.stoodInHeld kt=false:=by
 simp only [v7] at h;split at h
 . rename_i fs hu;simp only [aD,fG] at h;exact⟨fs,hu,h⟩
 . cases h
theorem Gx{l:Lk}(h:uG P e l=true):P.underlying e=some l.desc:=by
 unfold uG at h;split at h<;>simp_all [Lk.desc]
theorem DJ{l:Lk}(h:uG P e l=true):P.plainKey e=true:=by
 have:=Gx h;unfold Program.plainKey;rw [this];cases l<;>rfl
theorem K1{l:Lk}{x y:Kx}(h:uG P e l=true)(hx:l.fits x=true)(hy:l.fits y=true)(d:Nat):(Op.equalIn (d+1) e x.val y.val).run P w = .ok (decide (x=y)) w:=by
 have hd:=Gx h;cases l<;>cases x<;>simp only [Lk.fits,fk,aU] at hx<;>cases y<;>simp only [Lk.fits,fk,aU] at hy
 . rename_i k _ m _ n;subst hx; subst hy;show (Op.equalIn (d+1) e (.int _ m) (.int _ n)).run P w=_
   rw [run_equalIn_int w d e _ _ m n hd];congr 1;rw [vO];simp
 . rename_i a b;show (Op.equalIn (d+1) e (.bool a) (.bool b)).run P w=_
   rw [run_equalIn_bool' w d e a b hd];congr 1;rw [vO];simp
 . rename_i a b;show (Op.equalIn (d+1) e (.string a) (.string b)).run P w=_
   rw [run_equalIn_string w d e a b hd];congr 1;rw [<- beq_toListBytes,vO,bytes_beq];simp
theorem QU{l:Lk}{x:Kx}(h:uG P e l=true)(hx:l.fits x=true)(em:Bool)(n:Nat):(Instr.checkKey em (n+1) e x.val).run P w = .ok () w:=by
 have hd:=Gx h;cases l<;>cases x<;>simp only [Lk.fits,fk,aU] at hx<;>simp [Instr.checkKey,qM hd,Lk.desc,Kx.val]
theorem DK{l:List Kx}{n:Nat}{x:Kx}(h:l[n]? = some x):(l.map Kx.val).toArray[n]? = some x.val:=by simp [h]
theorem drop_cons{l:List Kx}{n:Nat}{x:Kx}{r:List Kx}(h:l.drop n=x::r):l[n]? = some x/\l.drop (n+1)=r:=by
 refine⟨?_,?_⟩
 . have:=congrArg (·[0]?) h;simpa using this
 . have:=congrArg (List.drop 1) h;simpa [vN,Gb] using this
theorem mA{l:Lk}{ls:List Lk}{xs:List Kx}(h:dP (l::ls) xs=true):∃ x r,xs=x::r/\l.fits x=true/\dP ls r=true:=by
 cases xs with
 | nil=>simp [dP] at h
 | cons x r =>
  simp only [dP,aD] at h;exact⟨x,r,rfl,h⟩
theorem lC{xs:List Kx}(h:dP [] xs=true):xs = []:=by
 cases xs with
 | nil=>rfl
 | cons x r=>simp [dP] at h
theorem ZP(d:Nat)(a b:List Kx):∀ (fs:List Field) (ls:List Lk) (n:Nat),uH P n fs ls=true->dP ls (a.drop n)=true->dP ls (b.drop n)=true ->
 (Op.eqFields (d+1) (a.map Kx.val).toArray (b.map Kx.val).toArray fs).run P w = .ok (decide (a.drop n=b.drop n)) w
 | [],[],n,_,ha,hb=>by
  rw [lC ha,lC hb];simp [Op.eqFields]
 | f::fs,l::ls,n,h,ha,hb=>by
  simp only [uH,aD,cC,bne_iff_ne,ne_eq] at h;obtain⟨⟨⟨h1,h2⟩,h3⟩,h4⟩:=h;obtain⟨x,r,ex,hx,hr⟩:=mA ha;obtain⟨y,s,ey,hy,hs⟩:=mA hb;obtain⟨gx,dx⟩:=drop_cons ex;obtain⟨gy,dy⟩:=drop_cons ey;have p1:(part f.type (a.map Kx.val).toArray f.offset).run P w = .ok x.val w:=run_part_plain w (DJ h3) (DK (by rw [h1]; exact gx));have p2:(part f.type (b.map Kx.val).toArray f.offset).run P w = .ok y.val w:=run_part_plain w (DJ h3) (DK (by rw [h1]; exact gy));have ih:=ZP d a b fs ls (n+1) h4 (by rw [dx]; exact hr) (by rw [dy]; exact hs);simp only [Op.eqFields,h2,ne_eq,Ko,fH,bQ,p1,p2,cg,K1 h3 hx hy d,ex,ey];exact ZQ
 | [],_::_,_,h,_,_=>by simp [uH] at h
 | _::_,[],_,h,_,_=>by simp [uH] at h
theorem ZR(d:Nat){e:TypeId}{l:Lk}(hl:uG P e l=true)(hc:P.cellsOf e=1)(a b:List Kx):∀ (m n:Nat),dP (List.replicate m l) (a.drop n)=true->dP (List.replicate m l) (b.drop n)=true ->
 (Op.eqItems (d+1) e (P.cellsOf e) (a.map Kx.val).toArray (b.map Kx.val).toArray (List.range' n m)).run P w = .ok (decide (a.drop n=b.drop n)) w
 | 0,n,ha,hb=>by
  rw [lC ha,lC hb];simp [Op.eqItems]
 | m+1,n,ha,hb=>by
  obtain⟨x,r,ex,hx,hr⟩:=mA ha;obtain⟨y,s,ey,hy,hs⟩:=mA hb;obtain⟨gx,dx⟩:=drop_cons ex;obtain⟨gy,dy⟩:=drop_cons ey;have p1:(part e (a.map Kx.val).toArray (n*P.cellsOf e)).run P w = .ok x.val w:=run_part_plain w (DJ hl) (DK (by rw [hc,lX]; exact gx));have p2:(part e (b.map Kx.val).toArray (n*P.cellsOf e)).run P w = .ok y.val w:=run_part_plain w (DJ hl) (DK (by rw [hc,lX]; exact gy));have ih:=ZR d hl hc a b m (n+1) (by rw [dx]; exact hr) (by rw [dy]; exact hs);rw [P5];simp only [Op.eqItems,bQ,p1,p2,cg,K1 hl hx hy d,ex,ey];exact ZQ
theorem ZS(em:Bool)(d:Nat)(a:List Kx):∀ (fs:List Field) (ls:List Lk) (n:Nat),uH P n fs ls=true->dP ls (a.drop n)=true ->
 (forIn fs PUnit.unit fun f _ => (if f.name ≠ "_" then do
  let v <- part f.type (a.map Kx.val).toArray f.offset
  Instr.checkKey em (d+1) f.type v
  pure (ForInStep.yield PUnit.unit)
  else pure (ForInStep.yield PUnit.unit):Sem (ForInStep PUnit))).run P w = .ok PUnit.unit w
 | [],[],n,_,ha=>by simp
 | f::fs,l::ls,n,h,ha=>by
  simp only [uH,aD,cC,bne_iff_ne,ne_eq] at h;obtain⟨⟨⟨h1,h2⟩,h3⟩,h4⟩:=h;obtain⟨x,r,ex,hx,hr⟩:=mA ha;obtain⟨gx,dx⟩:=drop_cons ex;have p1:(part f.type (a.map Kx.val).toArray f.offset).run P w = .ok x.val w:=run_part_plain w (DJ h3) (DK (by rw [h1]; exact gx));have ih:=ZS em d a fs ls (n+1) h4 (by rw [dx]; exact hr);simp only [List.forIn_cons,h2,ne_eq,Ko,fH,bQ,p1,cg,QU h3 hx em d,cq];exact ih
 | [],_::_,_,h,_=>by simp [uH] at h
 | _::_,[],_,h,_=>by simp [uH] at h
theorem K3{c:Kc}{a:List Kx}(h:v7 P kt c=true)(ha:dP c.ls a=true)(em:Bool):(Instr.checkKey em 10000 kt (c.val a)).run P w = .ok () w:=by
 cases c with
 | one l =>
  obtain⟨x,r,rfl,hx,hr⟩:=mA ha;cases lC hr;exact QU h hx em 9999
 | arr n l =>
  obtain⟨e,i,hu,hl,hi,hc⟩:=QS h;show (Instr.checkKey em (9999+1) kt (.agg (a.map Kx.val).toArray)).run P w = .ok () w
  rw [Instr.checkKey];simp only [bQ,qM hu,cg];simp only [Std.Legacy.Range.forIn_eq_forIn_range',Std.Legacy.Range.size,sd,Nat.add_one_sub_one,sf];have H:∀ (m k:Nat),dP (List.replicate m l) (a.drop k)=true->(forIn (List.range' k m) PUnit.unit fun j _=>(do
   let sz <- sizeOf e
   let v <- part e (a.map Kx.val).toArray (j*sz)
   Instr.checkKey em 9999 e v
   pure (ForInStep.yield PUnit.unit):Sem (ForInStep PUnit))).run P w = .ok PUnit.unit w:=by
   intro m
   induction m with
   | zero=>intro k _; simp
   | succ m ih =>
    intro k hk;obtain⟨x,r,ex,hx,hr⟩:=mA hk;obtain⟨gx,dx⟩:=drop_cons ex;have p1:(part e (a.map Kx.val).toArray (k*P.cellsOf e)).run P w = .ok x.val w:=run_part_plain w (DJ hl) (DK (by rw [hc,lX]; exact gx));rw [P5];simp only [List.forIn_cons,bQ,run_sizeOf w hi,cg,p1,QU hl hx em 9998,cq];exact ih (k+1) (by rw [dx]; exact hr)
  rw [H n 0 K4];rfl
 | st ls =>
  obtain⟨fs,hu,hf,hst⟩:=QT h;show (Instr.checkKey em (9999+1) kt (.agg (a.map Kx.val).toArray)).run P w = .ok () w
  rw [Instr.checkKey];simp only [bQ,qM hu,cg];rw [<- Array.forIn_toList];rw [ZS em 9998 a fs.toList ls 0 hf K4];rfl
theorem aoA{c:Kc}{a b:List Kx}(h:v7 P kt c=true)(ha:dP c.ls a=true)(hb:dP c.ls b=true):(Op.equal kt (c.val a) (c.val b)).run P w = .ok (decide (a=b)) w:=by
 cases c with
 | one l =>
  obtain⟨x,r,rfl,hx,hr⟩:=mA ha;cases lC hr;obtain⟨y,s,rfl,hy,hs⟩:=mA hb;cases lC hs;refine (K1 h hx hy 9999).trans ?_;simp
 | arr n l =>
  obtain⟨e,i,hu,hl,hi,hc⟩:=QS h;refine (run_equalIn_array w 9999 _ _ hu hi).trans ?_;rw [List.range_eq_range'];exact ZR 9998 hl hc a b n 0 K4 (by simpa [Kc.ls] using hb)
 | st ls =>
  obtain⟨fs,hu,hf,hst⟩:=QT h;have jo:P.fieldsOf kt=fs:=by simp [Program.fieldsOf,hu]
  refine (run_equalIn_struct w 9999 kt _ _ (by rw [jo]; exact hu) hst).trans ?_;rw [jo];exact ZP 9998 a b fs.toList ls 0 hf K4 (by simpa [Kc.ls] using hb)
theorem ZT{x y:Kx}(h:x.val=y.val):x=y:=by cases x<;>cases y<;>simp_all [Kx.val]
theorem key_inj{c:Kc}{a b:List Kx}(ha:dP c.ls a=true)(hb:dP c.ls b=true)(h:c.val a=c.val b):a=b:=by
 have hm:∀ {a b:List Kx},a.map Kx.val=b.map Kx.val->a=b:=by
  intro a
  induction a with
  | nil=>intro b h; cases b with
   | nil=>rfl
   | cons y b=>simp at h
  | cons x a ih =>
   intro b h
   cases b with
   | nil=>simp at h
   | cons y b =>
    simp only [jj,vL] at h;rw [ZT h.1,ih h.2]
 cases c with
 | one l =>
  obtain⟨x,r,rfl,hx,hr⟩:=mA ha;cases lC hr;obtain⟨y,s,rfl,hy,hs⟩:=mA hb;cases lC hs;rw [ZT h]
 | arr n l =>
  simp only [Kc.val,Value.agg.injEq] at h;exact hm (P4 h)
 | st ls =>
  simp only [Kc.val,Value.agg.injEq] at h;exact hm (P4 h)
theorem ZU(x:Kx)(n:Nat):Instr.sameBits n x.val x.val=true:=by
 have hb:∀ y:ByteArray,(y==y)=true:=fun y=>(bytes_beq y y).2 rfl;cases x<;>cases n<;>simp [Kx.val,Instr.sameBits,hb]
theorem ZV{c:Kc}{a:List Kx}(ha:dP c.ls a=true):(Instr.keyThatStays (c.val a) (c.val a)).run P w = .ok (c.val a) w:=by
 have hb:Instr.sameBits (9999+1) (c.val a) (c.val a)=true:=by
  have hg:Instr.sameBits (9999+1) (.agg (a.map Kx.val).toArray) (.agg (a.map Kx.val).toArray)=true:=by
   simp only [Instr.sameBits,BEq.rfl,fe,fc];intro p hp;obtain⟨i,hi⟩:=List.getElem?_of_mem hp;simp only [List.getElem?_zip_eq_some] at hi;obtain⟨h1,h2⟩:=hi;rw [h1] at h2;injection h2 with h2;have hm:=gK h1;simp only [lW] at hm;obtain⟨x,_,hx⟩:=hm;obtain⟨p1,p2⟩:=p;simp only at h2 hx ⊢;subst h2; subst hx;exact ZU x 9999
  cases c with
  | one l =>
   obtain⟨x,r,rfl,hx,hr⟩:=mA ha;cases lC hr;exact ZU x _
  | arr n l=>exact hg
  | st ls=>exact hg
 unfold Instr.keyThatStays;rw [aG hb];rfl
def ic(c:Kc)(v:Value)(a:List Kx):Prop:=v=c.val a/\dP c.ls a=true
theorem aoB{c:Kc}{a:List Kx}(h:v7 P kt c=true)(ha:dP c.ls a=true)(es:List MapEntry)(m8:∀ e∈es,∃ b,ic c e.key b) :
 ((Instr.findKey kt (c.val a) es).run P w = .ok none w/\∀ e∈es,¬ ic c e.key a) \/
 ∃ j e,(Instr.findKey kt (c.val a) es).run P w = .ok (some (j,e.val)) w/\es[j]? = some e/\ic c e.key a:=by
 have ask:∀ (es:List MapEntry) (i:Nat),(∀ e∈es,∃ b,ic c e.key b)->((Instr.findAsking kt (c.val a) es i).run P w = .ok none w/\∀ e∈es,¬ ic c e.key a) \/
  ∃ j e,(Instr.findAsking kt (c.val a) es i).run P w = .ok (some (i+j,e.val)) w/\es[j]? = some e/\ic c e.key a:=by
  intro es
  induction es with
  | nil=>intro i _; exact .inl ⟨by simp [Instr.findAsking],by simp⟩
  | cons e es ih =>
   intro i m8;obtain⟨b,hb,sB⟩:=m8 e (by simp);have hr:=aoA (w:=w) h ha sB;by_cases bJ:a=b
   . subst bJ;refine .inr ⟨0,e,?_,rfl,hb,sB⟩;simp only [Instr.findAsking,bQ,hb,hr,cg,qN,fH,cq,jD]
   . have bg:¬ ic c e.key a:=fun h2=>bJ (key_inj ha sB (h2.1.symm.trans hb));have mB:decide (a=b)=false:=by simp [bJ]
     rcases ih (i+1) (fun y hy=>m8 y (by simp [hy])) with ⟨h1,h2⟩|⟨j,e',h1,h2,h3⟩
     . refine .inl ⟨?_,fun y hy => ?_⟩
       . simp only [Instr.findAsking,bQ,hb,hr,cg,mB,fk,dK,h1]
       . rcases gD.1 hy with rfl|hy
         . exact bg
         . exact h2 y hy
     . refine .inr ⟨j+1,e',?_,by simpa using h2,h3⟩;simp only [Instr.findAsking,bQ,hb,hr,cg,mB,fk,dK,h1];rw [pZ,Gb 1 j]
 have hu:∃ d,P.underlying kt=some d:=by
  cases c with
  | one l=>exact⟨_,Gx h⟩
  | arr n l=>obtain⟨e,i,hu,_⟩:=QS h; exact⟨_,hu⟩
  | st ls=>obtain⟨fs,hu,_⟩:=QT h; exact⟨_,hu⟩
 obtain⟨d,hd⟩:=hu;have hs:∀ b,dP c.ls b=true->Instr.sameNow d (c.val a) (c.val b)=none\/Instr.sameNow d (c.val a) (c.val b)=some (decide (a=b)):=by
  intro b hb
  cases c with
  | one l =>
   obtain⟨x,r,rfl,hx,hr⟩:=mA ha;cases lC hr;obtain⟨y,s,rfl,hy,hs⟩:=mA hb;cases lC hs;right;have:=Gx (P:=P) (e:=kt) (l:=l) h;rw [hd] at this;cases this;cases l<;>cases x<;>simp only [Lk.fits,fk,aU] at hx<;>cases y<;>simp only [Lk.fits,fk,aU] at hy
   . subst hx; subst hy;simp only [Lk.desc,Kc.val,Kx.val,Instr.sameNow,fH,bU];rw [vO];simp
   . simp only [Lk.desc,Kc.val,Kx.val,Instr.sameNow,bU];rw [vO];simp
   . simp only [Lk.desc,Kc.val,Kx.val,Instr.sameNow,bU];rw [vO,bytes_beq];simp
  | arr n l=>left; simp only [Kc.val]; unfold Instr.sameNow; split<;>simp_all
  | st ls=>left; simp only [Kc.val]; unfold Instr.sameNow; split<;>simp_all
 have now:∀ (es:List MapEntry) (i:Nat),(∀ e∈es,∃ b,ic c e.key b)->Instr.findNow d (c.val a) es i=none\/(Instr.findNow d (c.val a) es i=some none/\∀ e∈es,¬ ic c e.key a) \/
  ∃ j e,Instr.findNow d (c.val a) es i=some (some (i+j,e.val))/\es[j]? = some e/\ic c e.key a:=by
  intro es
  induction es with
  | nil=>intro i _; exact .inr (.inl ⟨rfl,by simp⟩)
  | cons e es ih =>
   intro i m8;obtain⟨b,hb,sB⟩:=m8 e (by simp);rcases hs b sB with h1|h1
   . left;simp only [Instr.findNow,hb,h1]
   . by_cases bJ:a=b
     . subst bJ;refine .inr (.inr ⟨0,e,?_,rfl,hb,sB⟩);simp only [Instr.findNow,hb,h1,qN,jD]
     . have bg:¬ ic c e.key a:=fun h2=>bJ (key_inj ha sB (h2.1.symm.trans hb));have mB:decide (a=b)=false:=by simp [bJ]
       rw [mB] at h1;rcases ih (i+1) (fun y hy=>m8 y (by simp [hy])) with h2|⟨h2,h3⟩|⟨j,e',h2,h3,h4⟩
       . left;simp only [Instr.findNow,hb,h1,h2]
       . refine .inr (.inl ⟨?_,fun y hy => ?_⟩)
         . simp only [Instr.findNow,hb,h1,h2]
         . rcases gD.1 hy with rfl|hy
           . exact bg
           . exact h3 y hy
       . refine .inr (.inr ⟨j+1,e',?_,by simpa using h3,h4⟩);simp only [Instr.findNow,hb,h1,h2];rw [pZ,Gb 1 j]
 unfold Instr.findKey;simp only [bQ,qM hd,cg];rcases now es 0 m8 with h1|⟨h1,h2⟩|⟨j,e,h1,h2,h3⟩
 . rw [h1];rcases ask es 0 m8 with h2|⟨j,e,h2,h3,h4⟩
   . exact .inl h2
   . exact .inr ⟨j,e,by rw [ia] at h2; exact h2,h3,h4⟩
 . rw [h1];exact .inl ⟨rfl,h2⟩
 . rw [h1];exact .inr ⟨j,e,by rw [ia]; rfl,h2,h3⟩
end
open Go.RowKit
inductive AV where
 | un
 | int (k:IntKind) (n:Unit->Int)
 | lit (k:IntKind) (n:Int)
 | bool (b:Unit->Bool)
 | aV (b:Bool)
 | str (s:Unit->ByteArray)
 | nil
 | sl (fr:Bool) (t:Tc) (l:Unit->List t.el)
 | wide (fr:Bool) (t:Tc) (l:Unit->List t.el) (n:Unit->Nat)
 | bP (cells:List AV) (off:Nat)
 | ptr (loc off:Nat)
 | fX (loc off n:Nat)
 | own (loc:Nat)
 | dv (t:Tc) (loc:Nat) (k:Unit->Int) (off:Nat)
 | cW (t:Tc) (loc:Nat) (a b:Unit->Nat)
 | mp (loc:Nat)
 | bL (loc:Nat)
 | it (loc l2:Nat)
 | agg (cells:List AV)
 | bp (l:List AV)
 | fn (f:FuncId) (dV:List AV)
 | gv (l:Unit->Nat)
inductive Rl where
 | box (b:Nat)
 | row (A:Option Addr) (n c:Nat)
 | mp (b:Nat)
 | bL (s:Nat)
 | it (b:Nat)
def Rl.cH:Rl->Option Nat
 | .box b=>some b
 | .row A _ _=>A.map (·.block)
 | .mp b=>some b
 | .bL _=>none
 | .it b=>some b
def Rl.dH:Rl->Bool
 | .row _ _ _=>false
 | _=>true
-- QV
def bf(fr:Bool):(t:Tc)->(Unit->t.el)->List AV
 | .int,x => [.int .i64 x]
 | .u8,x => [.int .u8 x]
 | .u32,x => [.int .u32 x]
 | .box,x => [.int .i64 (fun _=>(x ()).id),.str (fun _=>(x ()).num),.int .u8 (fun _=>(x ()).size),.bool (fun _=>(x ()).high),.int .i64 (fun _=>(x ()).aI),.int .i64 (fun _=>(x ()).load),.int .i64 (fun _=>(x ()).jT),.int .u8 (fun _=>(x ()).cls),.bool (fun _=>(x ()).xB)]
 | .ai,x => [.int .i64 (fun _=>(x ()).box),.int .i64 (fun _=>(x ()).ar),.int .i64 (fun _=>(x ()).aK),.int .u8 (fun _=>(x ()).half)]
 | .slot,x => [.int .i64 (fun _=>(x ()).ar),.int .i64 (fun _=>(x ()).aK),.int .u8 (fun _=>(x ()).half)]
 | .ld,x => [.int .i64 (fun _=>(x ()).aI),.int .i64 (fun _=>(x ()).x),.int .i64 (fun _=>(x ()).y),.int .i64 (fun _=>(x ()).z)]
 | .qW,x => [.int .i64 (fun _=>(x ()).n),.int .i64 (fun _=>(x ()).low),.int .i64 (fun _=>(x ()).high)]
 | .ar,x => [.int .i64 (fun _=>(x ()).fI),.int .i64 (fun _=>(x ()).row),.bool (fun _=>(x ()).mv),.int .i64 (fun _=>(x ()).dC),.int .i64 (fun _=>(x ()).mZ),.int .i64 (fun _=>(x ()).uA),.int .i64 (fun _=>(x ()).uB),.int .i64 (fun _=>(x ()).uC),.sl fr .int (fun _=>(x ()).cf),.int .i64 (fun _=>(x ()).x),.int .i64 (fun _=>(x ()).y),.int .i64 (fun _=>(x ()).z)]
 | .cD,x => [.int .i64 (fun _=>(x ()).fI),.sl fr .int (fun _=>(x ()).rows)]
 | .mid,x => [.int .i64 (fun _=>(x ()).box.id),.str (fun _=>(x ()).box.num),.int .u8 (fun _=>(x ()).box.size),.bool (fun _=>(x ()).box.high),.int .i64 (fun _=>(x ()).box.aI),.int .i64 (fun _=>(x ()).box.load),.int .i64 (fun _=>(x ()).box.jT),.int .u8 (fun _=>(x ()).box.cls),.bool (fun _=>(x ()).box.xB),.int .i64 (fun _=>(x ()).x),.int .i64 (fun _=>(x ()).y),.int .i64 (fun _=>(x ()).h)]
 | .dO,x => [.int .i64 (fun _=>(x ()).aos),.int .i64 (fun _=>(x ()).aI),.int .i64 (fun _=>(x ()).aot),.int .i64 (fun _=>(x ()).mc),.int .i64 (fun _=>(x ()).v5)]
 | .cu,x => [.int .i64 (fun _=>(x ()).x),.int .i64 (fun _=>(x ()).iG),.int .i64 (fun _=>(x ()).share),.int .i64 (fun _=>(x ()).dk),.int .i64 (fun _=>(x ()).cV)]
 | .dW,x => [.int .i64 (fun _=>(x ()).aI),.int .i64 (fun _=>(x ()).x),.int .i64 (fun _=>(x ()).y),.int .i64 (fun _=>(x ()).z),.int .i64 (fun _=>(x ()).uD),.sl fr .int (fun _=>(x ()).steps)]
 | .kK,x => [.int .i64 (fun _=>(x ()).fI),.int .i64 (fun _=>(x ()).row),.bool (fun _=>(x ()).mv),.int .i64 (fun _=>(x ()).dC),.int .i64 (fun _=>(x ()).mZ),.int .i64 (fun _=>(x ()).uA),.int .i64 (fun _=>(x ()).uB),.int .i64 (fun _=>(x ()).uC),.wide fr .int (fun _=>(x ()).cf) (fun _=>(x ()).KP),.int .i64 (fun _=>(x ()).x),.int .i64 (fun _=>(x ()).y),.int .i64 (fun _=>(x ()).z)]
 | .kL,x => [.int .i64 (fun _=>(x ()).fI),.wide fr .int (fun _=>(x ()).rows) (fun _=>(x ()).A7)]
 | .kM,x => [.int .i64 (fun _=>(x ()).aI),.int .i64 (fun _=>(x ()).x),.int .i64 (fun _=>(x ()).y),.int .i64 (fun _=>(x ()).z),.int .i64 (fun _=>(x ()).uD),.wide fr .int (fun _=>(x ()).steps) (fun _=>(x ()).KR)]
 | .A9,x => [.int .u8 (fun _=>(x ()).fI),.int .u8 (fun _=>(x ()).row),.int .u8 (fun _=>(x ()).dC),.bool (fun _=>(x ()).mv)]
 | .Ba,x => [.int .u8 (fun _=>(x ()).ar),.int .u8 (fun _=>(x ()).aI),.bool (fun _=>(x ()).small),.bool (fun _=>(x ()).high)]
 | .DG,x => [.int .u16 (fun _=>(x ()).aI),.int .i16 (fun _=>(x ()).x),.int .i16 (fun _=>(x ()).y),.int .i16 (fun _=>(x ()).z)]
 | .wx,x => [.int .i64 (fun _=>(x ()).x),.int .i64 (fun _=>(x ()).aI)]
 | .sy,x => [.int .i64 (fun _=>(x ()).a0),.int .i64 (fun _=>(x ()).a1),.int .i64 (fun _=>(x ()).a2),.int .i64 (fun _=>(x ()).a3),.int .i64 (fun _=>(x ()).a4),.int .i64 (fun _=>(x ()).a5)]
 | .jm,x => [.bool (fun _=>(x ()).neg),.int .u32 (fun _=>(x ()).n0),.int .u32 (fun _=>(x ()).n1),.int .u32 (fun _=>(x ()).n2),.int .u32 (fun _=>(x ()).n3),.int .u32 (fun _=>(x ()).n4),.int .u32 (fun _=>(x ()).n5),.int .u32 (fun _=>(x ()).n6),.int .u32 (fun _=>(x ()).n7),.int .u32 (fun _=>(x ()).d0),.int .u32 (fun _=>(x ()).d1),.int .u32 (fun _=>(x ()).d2),.int .u32 (fun _=>(x ()).d3),.int .u32 (fun _=>(x ()).d4),.int .u32 (fun _=>(x ()).d5),.int .u32 (fun _=>(x ()).d6),.int .u32 (fun _=>(x ()).d7)]
 | .cE,x => [.bool (fun _=>(x ()).dk.neg),.int .u32 (fun _=>(x ()).dk.n0),.int .u32 (fun _=>(x ()).dk.n1),.int .u32 (fun _=>(x ()).dk.n2),.int .u32 (fun _=>(x ()).dk.n3),.int .u32 (fun _=>(x ()).dk.n4),.int .u32 (fun _=>(x ()).dk.n5),.int .u32 (fun _=>(x ()).dk.n6),.int .u32 (fun _=>(x ()).dk.n7),.int .u32 (fun _=>(x ()).dk.d0),.int .u32 (fun _=>(x ()).dk.d1),.int .u32 (fun _=>(x ()).dk.d2),.int .u32 (fun _=>(x ()).dk.d3),.int .u32 (fun _=>(x ()).dk.d4),.int .u32 (fun _=>(x ()).dk.d5),.int .u32 (fun _=>(x ()).dk.d6),.int .u32 (fun _=>(x ()).dk.d7),.bool (fun _=>(x ()).cV.neg),.int .u32 (fun _=>(x ()).cV.n0),.int .u32 (fun _=>(x ()).cV.n1),.int .u32 (fun _=>(x ()).cV.n2),.int .u32 (fun _=>(x ()).cV.n3),.int .u32 (fun _=>(x ()).cV.n4),.int .u32 (fun _=>(x ()).cV.n5),.int .u32 (fun _=>(x ()).cV.n6),.int .u32 (fun _=>(x ()).cV.n7),.int .u32 (fun _=>(x ()).cV.d0),.int .u32 (fun _=>(x ()).cV.d1),.int .u32 (fun _=>(x ()).cV.d2),.int .u32 (fun _=>(x ()).cV.d3),.int .u32 (fun _=>(x ()).cV.d4),.int .u32 (fun _=>(x ()).cV.d5),.int .u32 (fun _=>(x ()).cV.d6),.int .u32 (fun _=>(x ()).cV.d7)]
theorem QW(fr:Bool)(t:Tc)(x:Unit->t.el):(bf fr t x).length=t.size:=by cases t<;>rfl
def Gy:(t t2:Tc)->Option (t.el->t2.el)
 | .kK,.ar=>some fun x=>⟨x.fI,x.row,x.mv,x.dC,x.mZ,x.uA,x.uB,x.uC,x.cf.take x.KP,x.x,x.y,x.z⟩
 | .kL,.cD=>some fun x=>⟨x.fI,x.rows.take x.A7⟩
 | .kM,.dW=>some fun x=>⟨x.aI,x.x,x.y,x.z,x.uD,x.steps.take x.KR⟩
 | _,_=>none
-- END QV
def fh(ag fr:Bool)(t:Tc)(x:Unit->t.el):AV:=if ag then .agg (bf fr t x) else match bf fr t x with
 | [c]=>c
 | _ => .un
inductive aj (w:World) (ρ:Nat->Option Rl) (base:Nat) (ro:Nat->Prop):AV->Value->Prop
 | un (v):aj w ρ base ro .un v
 | int (k n):aj w ρ base ro (.int k n) (.int k (n ()))
 | lit (k n):aj w ρ base ro (.lit k n) (.int k n)
 | bool (b):aj w ρ base ro (.bool b) (.bool (b ()))
 | aV (b):aj w ρ base ro (.aV b) (.bool b)
 | str (s):aj w ρ base ro (.str s) (.string (s ()))
 | nil:aj w ρ base ro .nil (.slice none 0 0)
 | sl (fr t l A c) (css:List (List Value)) (hl:css.length=(l ()).length) (hc:css.length<=c) (hr:Rd w w.heap.size t.size A css) (ck:∀ a,A=some a->css ≠ []->ro a.block) (df:fr=true->∀ a,A=some a->css ≠ []->base<=a.block)
  (h:∀ (k:Nat) (cs:List Value) (j:Nat) (x:AV) (v:Value),css[k]? = some cs->(bf fr t fun _=>(l ()).getD k t.aa)[j]? = some x->cs[j]? = some v->aj w ρ base ro x v):aj w ρ base ro (.sl fr t l) (.slice A (l ()).length c)
 | wide (fr t l n A c) (hn:n ()<=(l ()).length) (h:aj w ρ base ro (.sl fr t l) (.slice A (l ()).length c)):aj w ρ base ro (.wide fr t l n) (.slice A (n ()) c)
 | bP (cells:List AV) (off b o) (cs:List Value) (ck:ro b) (af:b<w.heap.size) (hl:cells.length=cs.length) (hc:∀ (j:Nat) u,cs[j]? = some u->w.cell? ⟨b,o+j,none⟩=some u) (h:∀ (j:Nat) x v,cells[j]? = some x->cs[j]? = some v->aj w ρ base ro x v):aj w ρ base ro (.bP cells off) (.pointer (some ⟨b,o+off,none⟩))
 | ptr (loc off b) (h : ρ loc=some (.box b)):aj w ρ base ro (.ptr loc off) (.pointer (some ⟨b,off,none⟩))
 | fX (loc off n b) (h : ρ loc=some (.box b)):aj w ρ base ro (.fX loc off n) (.slice (some ⟨b,off,none⟩) n n)
 | own (loc A n c) (h : ρ loc=some (.row A n c)):aj w ρ base ro (.own loc) (.slice A n c)
 | dv (t loc k off A) (n:Nat) (c b) (h : ρ loc=some (.row A n c)) (hA:A=some ⟨b,0,none⟩) (h0:0<=k ()) (hn:k ()<(n:Int)):aj w ρ base ro (.dv t loc k off) (.pointer (some ⟨b,(k ()).toNat*t.size+off,none⟩))
 | cW (t loc a b A) (n c:Nat) (h : ρ loc=some (.row A n c)) (bJ:a ()<=b ()/\b ()<=n):aj w ρ base ro (.cW t loc a b) (sliced A (a ()) (b ()) c t.size)
 | mp (loc b) (h : ρ loc=some (.mp b)):aj w ρ base ro (.mp loc) (.map (some b))
 | bL (loc s) (h : ρ loc=some (.bL s)):aj w ρ base ro (.bL loc) (goInt s)
 | it (loc l2 b) (h : ρ l2=some (.it b)):aj w ρ base ro (.it loc l2) (.pointer (some ⟨b,0,none⟩))
 | agg (l:List AV) (vs:List Value) (hl:l.length=vs.length) (h:∀ (j:Nat) x v,l[j]? = some x->vs[j]? = some v->aj w ρ base ro x v):aj w ρ base ro (.agg l) (.agg vs.toArray)
 | bp (l:List AV) (vs:List Value) (hl:l.length=vs.length) (h:∀ (j:Nat) x v,l[j]? = some x->vs[j]? = some v->aj w ρ base ro x v):aj w ρ base ro (.bp l) (.tuple vs.toArray)
 | fn (f) (dV:List AV) (vs:List Value) (hl:dV.length=vs.length) (h:∀ (j:Nat) x v,dV[j]? = some x->vs[j]? = some v->aj w ρ base ro x v):aj w ρ base ro (.fn f dV) (.func (.func f) #[] vs.toArray)
 | gv (l):aj w ρ base ro (.gv l) (.func (.yield (l ())) #[] #[])
def bn(w:World)(ρ:Nat->Option Rl)(base:Nat)(ro:Nat->Prop)(l:List AV)(vs:List Value):Prop:=l.length=vs.length/\∀ (j:Nat) x v,l[j]? = some x->vs[j]? = some v->aj w ρ base ro x v
section
variable{w w':World}{ρ ρ':Nat->Option Rl}{base lD:Nat}{ro ro':Nat->Prop}
theorem bn.nil:bn w ρ base ro [] []:=⟨rfl,fun j x v h=>by simp at h⟩
theorem bn.cons{x:AV}{v:Value}{l:List AV}(h:aj w ρ base ro x v)(hs:bn w ρ base ro l vs):bn w ρ base ro (x::l) (v::vs):=by
 refine⟨by simp [hs.1],fun j y u hy hu => ?_⟩
 cases j with
 | zero =>
  simp only [pW,bU] at hy hu;subst hy; subst hu;exact h
 | succ j=>exact hs.2 j y u Bg (by simpa using hu)
theorem bn.head{x:AV}{l:List AV}(h:bn w ρ base ro (x::l) vs):∃ v us,vs=v::us/\aj w ρ base ro x v/\bn w ρ base ro l us:=by
 cases vs with
 | nil=>exact absurd h.1 (by simp)
 | cons v us=>exact⟨v,us,rfl,h.2 0 x v rfl rfl,by simpa using h.1,fun j y u hy hu=>h.2 (j+1) y u Bg (by simpa using hu)⟩
theorem bn.none(h:bn w ρ base ro [] vs):vs = []:=by
 cases vs with
 | nil=>rfl
 | cons v us=>exact absurd h.1 (by simp)
theorem bn.get{l:List AV}(h:bn w ρ base ro l vs){x:AV}(hx:l[j]? = some x):∃ v,vs[j]? = some v/\aj w ρ base ro x v:=by
 have hj:=(c8.1 hx).1;exact⟨vs[j]'(by rw [<- h.1]; exact hj),bq _,h.2 j x _ hx (bq _)⟩
def Ext(ρ ρ':Nat->Option Rl):Prop:=∀ loc r,ρ loc=some r -> ρ' loc=some r
theorem Ext.refl(ρ:Nat->Option Rl):Ext ρ ρ:=fun _ _ h=>h
theorem aj.mono{x:AV}{v:Value}(h:aj w ρ base ro x v)(hw:∀ b,ro b->b<w.heap.size->w'.heap[b]? = w.heap[b]?)(hρ:Ext ρ ρ')(hb:lD<=base)(ck:∀ b,ro b->ro' b):aj w' ρ' lD ro' x v:=by
 induction h with
 | un=>exact .un _
 | gv=>exact .gv _
 | int=>exact .int _ _
 | lit=>exact .lit _ _
 | bool=>exact .bool _
 | aV=>exact .aV _
 | str=>exact .str _
 | nil=>exact .nil
 | sl fr t l A c css hl hc hr mC df h ih =>
  refine .sl fr t l A c css hl hc ?_ (fun a ha hn=>ck _ (mC a ha hn)) (fun hf a ha hn=>cd hb (df hf a ha hn)) ih;by_cases hn:css = []
  . subst hn;exact Rd.nil _ _ _ _
  . exact Rd.lu hr fun a ha=>hw _ (mC a ha hn) (Rd.bound hr hn a ha)
 | wide fr t l n A c hn h ih=>exact .wide fr t l n A c hn ih
 | bP cells off b o cs hr af hl hc h ih =>
  have v8:=hw b hr af;refine .bP cells off b o cs (ck _ hr) ?_ hl (fun j u hu => ?_) ih
  . rcases cv b w'.heap.size with h2|h2
    . exact h2
    . rw [FR h2,qJ af] at v8;cases v8
  . rw [QQ v8];exact hc j u hu
 | ptr loc off b h=>exact .ptr _ _ _ (hρ _ _ h)
 | fX loc off n b h=>exact .fX _ _ _ _ (hρ _ _ h)
 | own loc A n c h=>exact .own _ _ _ _ (hρ _ _ h)
 | dv t loc k off A n c b h hA h0 hn=>exact .dv _ _ _ _ _ _ _ _ (hρ _ _ h) hA h0 hn
 | cW t loc a b A n c h bJ=>exact .cW _ _ _ _ _ _ _ (hρ _ _ h) bJ
 | mp loc b h=>exact .mp _ _ (hρ _ _ h)
 | bL loc s h=>exact .bL _ _ (hρ _ _ h)
 | it loc l2 b h=>exact .it _ _ _ (hρ _ _ h)
 | agg l vs hl h ih=>exact .agg _ _ hl ih
 | bp l vs hl h ih=>exact .bp _ _ hl ih
 | fn f dV vs hl h ih=>exact .fn _ _ _ hl ih
theorem bn.mono{l:List AV}(h:bn w ρ base ro l vs)(hw:∀ b,ro b->b<w.heap.size->w'.heap[b]? = w.heap[b]?)(hρ:Ext ρ ρ')(hb:lD<=base)(ck:∀ b,ro b->ro' b):bn w' ρ' lD ro' l vs :=
 ⟨h.1,fun j x v hx hv=>(h.2 j x v hx hv).mono hw hρ hb ck⟩
/- y0 a tree names -/
mutual
def AV.has(loc:Nat):AV->Bool
 | .own l=>l==loc
 | .dv _ l _ _=>l==loc
 | .cW _ l _ _=>l==loc
 | .bP cs _=>AV.mD loc cs
 | .agg cs=>AV.mD loc cs
 | .bp cs=>AV.mD loc cs
 | .fn _ cs=>AV.mD loc cs
 | _=>false
def AV.mD(loc:Nat):List AV->Bool
 | []=>false
 | x::l=>AV.has loc x||AV.mD loc l
end
/- no place of Bh aEc own,and y0 is in it is new if 'aEd is asked -/
mutual
def AV.plain(fresh:Bool):AV->Bool
 | .own _=>false
 | .dv _ _ _ _=>false
 | .cW _ _ _ _=>false
 | .ptr _ _=>false
 | .fX _ _ _=>false
 | .mp _=>false
 | .bL _=>false
 | .it _ _=>false
 | .bP cs _ => !fresh&&AV.eE fresh cs
 | .agg cs=>AV.eE fresh cs
 | .bp cs=>AV.eE fresh cs
 | .fn _ cs=>AV.eE fresh cs
 | .sl fr _ _=>fr || !fresh
 | .wide fr _ _ _=>fr || !fresh
 | _=>true
def AV.eE(fresh:Bool):List AV->Bool
 | []=>true
 | x::l=>AV.plain fresh x&&AV.eE fresh l
end
theorem nN{loc:Nat}:∀ {l:List AV} {j:Nat} {x:AV},AV.mD loc l=false->l[j]? = some x->AV.has loc x=false
 | y::l,0,x,h,hx=>by
  simp only [pW,bU] at hx;subst hx;simp only [AV.mD,lU] at h;exact h.1
 | y::l,j+1,x,h,hx=>by
  simp only [AV.mD,lU] at h;exact nN h.2 (by simpa using hx)
 | [],j,x,_,hx=>by simp at hx
theorem xD{fresh:Bool}:∀ {l:List AV} {j:Nat} {x:AV},AV.eE fresh l=true->l[j]? = some x->AV.plain fresh x=true
 | y::l,0,x,h,hx=>by
  simp only [pW,bU] at hx;subst hx;simp only [AV.eE,aD] at h;exact h.1
 | y::l,j+1,x,h,hx=>by
  simp only [AV.eE,aD] at h;exact xD h.2 (by simpa using hx)
 | [],j,x,_,hx=>by simp at hx
theorem xE(fr:Bool)(t:Tc)(x:Unit->t.el)(loc:Nat):AV.mD loc (bf fr t x)=false:=by cases t<;>rfl
theorem aoD(t:Tc)(x:Unit->t.el)(fresh:Bool):AV.eE fresh (bf true t x)=true:=by cases t<;>cases fresh<;>rfl
theorem Gz(fr:Bool)(t:Tc)(x:Unit->t.el):AV.eE false (bf fr t x)=true:=by cases t<;>cases fr<;>rfl
theorem aj.move{x:AV}{v:Value}{loc:Nat}(h:aj w ρ base ro x v)(hx:AV.has loc x=false)(hρ:∀ l r,ρ l=some r->(l≠loc\/r.dH=true) -> ρ' l=some r):aj w ρ' base ro x v:=by
 induction h with
 | un=>exact .un _
 | gv=>exact .gv _
 | int=>exact .int _ _
 | lit=>exact .lit _ _
 | bool=>exact .bool _
 | aV=>exact .aV _
 | str=>exact .str _
 | nil=>exact .nil
 | sl fr t l A c css hl hc hr mC df h ih =>
  exact .sl fr t l A c css hl hc hr mC df fun k cs j y v h1 h2 h3=>ih k cs j y v h1 h2 h3 (nN (xE _ _ _ _) h2)
 | wide fr t l n A c hn h ih=>exact .wide fr t l n A c hn (ih rfl)
 | bP cells off b o cs hr af hl hc h ih =>
  exact .bP cells off b o cs hr af hl hc fun j y v h1 h2=>ih j y v h1 h2 (nN K5 h1)
 | ptr l off b h=>exact .ptr _ _ _ (hρ _ _ h (.inr rfl))
 | fX l off n b h=>exact .fX _ _ _ _ (hρ _ _ h (.inr rfl))
 | mp l b h=>exact .mp _ _ (hρ _ _ h (.inr rfl))
 | bL l s h=>exact .bL _ _ (hρ _ _ h (.inr rfl))
 | it l l2 b h=>exact .it _ _ _ (hρ _ _ h (.inr rfl))
 | own l A n c h =>
  have h1:l≠loc:=by simpa [AV.has] using hx
  exact .own _ _ _ _ (hρ _ _ h (.inl h1))
 | dv t l k off A n c b h hA h0 hn =>
  have h1:l≠loc:=by simpa [AV.has] using hx
  exact .dv _ _ _ _ _ _ _ _ (hρ _ _ h (.inl h1)) hA h0 hn
 | cW t l a b A n c h bJ =>
  have h1:l≠loc:=by simpa [AV.has] using hx
  exact .cW _ _ _ _ _ _ _ (hρ _ _ h (.inl h1)) bJ
 | agg l vs hl h ih=>exact .agg _ _ hl fun j y v h1 h2=>ih j y v h1 h2 (nN K5 h1)
 | bp l vs hl h ih=>exact .bp _ _ hl fun j y v h1 h2=>ih j y v h1 h2 (nN K5 h1)
 | fn f dV vs hl h ih=>exact .fn _ _ _ hl fun j y v h1 h2=>ih j y v h1 h2 (nN K5 h1)
theorem aj.plain{x:AV}{v:Value}{fresh:Bool}(h:aj w ρ base ro x v)(hx:AV.plain fresh x=true)(ck:∀ b,(fresh=true->base<=b)->ro b->ro' b):aj w ρ' base ro' x v:=by
 induction h with
 | un=>exact .un _
 | gv=>exact .gv _
 | int=>exact .int _ _
 | lit=>exact .lit _ _
 | bool=>exact .bool _
 | aV=>exact .aV _
 | str=>exact .str _
 | nil=>exact .nil
 | sl fr t l A c css hl hc hr mC df h ih =>
  have DL:fresh=true->fr=true:=by
   intro hf;simpa [AV.plain,hf] using hx
  refine .sl fr t l A c css hl hc hr (fun a ha hn=>ck _ (fun hf=>df (DL hf) a ha hn) (mC a ha hn)) df fun k cs j y v h1 h2 h3=>ih k cs j y v h1 h2 h3 (xD ?_ h2)
  cases fresh with
  | true=>rw [DL rfl]; exact aoD _ _ _
  | false=>exact Gz _ _ _
 | wide fr t l n A c hn h ih=>exact .wide fr t l n A c hn (ih K6)
 | bP cells off b o cs hr af hl hc h ih =>
  simp only [AV.plain,aD,fG] at hx;exact .bP cells off b o cs (ck _ (by rw [hx.1]; simp) hr) af hl hc fun j y v h1 h2=>ih j y v h1 h2 (xD hx.2 h1)
 | ptr l off b h=>simp [AV.plain] at hx
 | fX l off n b h=>simp [AV.plain] at hx
 | own l A n c h=>simp [AV.plain] at hx
 | dv t l k off A n c b h hA h0 hn=>simp [AV.plain] at hx
 | cW t l a b A n c h bJ=>simp [AV.plain] at hx
 | mp l b h=>simp [AV.plain] at hx
 | bL l s h=>simp [AV.plain] at hx
 | it l l2 b h=>simp [AV.plain] at hx
 | agg l vs hl h ih=>exact .agg _ _ hl fun j y v h1 h2=>ih j y v h1 h2 (xD K6 h1)
 | bp l vs hl h ih=>exact .bp _ _ hl fun j y v h1 h2=>ih j y v h1 h2 (xD K6 h1)
 | fn f dV vs hl h ih=>exact .fn _ _ _ hl fun j y v h1 h2=>ih j y v h1 h2 (xD K6 h1)
end
open Go.MapKept
def il(P:Program)(T:TypeId):Bool:=match P.underlying T with
 | some (.struct _)=>true
 | some (.array _ _)=>true
 | _=>false
def DM(a:Bool)(xs:List Kx):Value:=match a,xs with
 | false,[x]=>x.val
 | _,xs => .agg (xs.map Kx.val).toArray
def K7(P:Program)(g:TypeId->List Lk->Bool):List Field->Nat->List Lk->Bool
 | [],_,ls=>ls.isEmpty
 | f :: fs, o, ls => f.offset == o && f.name != "_" && (P.underlying f.type).isSome && match P.info? f.type with
  | some i=>(decide (i.size<=ls.length)&&decide (0<i.size))&&(il P f.type||i.size==1)&&g f.type (ls.take i.size)&&K7 P g fs (o+i.size) (ls.drop i.size)
  | none=>false
def K8(g:List Lk->Bool)(s:Nat):Nat->List Lk->Bool
 | 0,ls=>ls.isEmpty
 | n+1,ls=>(decide (s<=ls.length)&&decide (0<s))&&g (ls.take s)&&K8 g s n (ls.drop s)
def GA(P:Program):Nat->TypeId->List Lk->Bool
 | 0,_,_=>false
 | k+1,T,ls=>match P.underlying T with
  | some (.struct fs) => !P.stoodInHeld T&&K7 P (GA P k) fs.toList 0 ls
  | some (.array n e)=>(P.underlying e).isSome&&match P.info? e with
   | some i=>P.cellsOf e==i.size&&(il P e||i.size==1)&&K8 (GA P k e) i.size n ls
   | none=>false
  | some _=>(match ls with
   | [l]=>uG P T l
   | _=>false)
  | none=>false
section
variable{P:Program}{w:World}
theorem GB:∀ {ls:List Lk} {xs:List Kx},dP ls xs=true->xs.length=ls.length
 | [],xs,h=>by rw [lC h]; rfl
 | l::ls,xs,h=>by
  obtain⟨x,r,rfl,_,hr⟩:=mA h;simp [GB hr]
theorem GC:∀ {ls:List Lk} {xs:List Kx} (n:Nat),dP ls xs=true->dP (ls.take n) (xs.take n)=true/\dP (ls.drop n) (xs.drop n)=true
 | [],xs,n,h=>by rw [lC h]; simp [dP]
 | l::ls,xs,0,h=>by simp only [F9,yK]; exact⟨rfl,h⟩
 | l::ls,xs,n+1,h=>by
  obtain⟨x,r,rfl,hx,hr⟩:=mA h;simp only [Kl,List.drop_succ_cons];obtain⟨h1,h2⟩:=GC n hr;exact⟨by simp only [dP,hx,h1,P8],h2⟩
theorem aoE{o s:Nat}(ha:∃ j,P.info? T=some j/\j.size=s)(hd:∃ ds,P.underlying T=some ds)(hlen:il P T=true->o+s<=vs.length){v:Value}(hv:il P T=false->vs[o]? = some v)(p8:il P T=true->v = .agg ((vs.drop o).take s).toArray):(part T vs.toArray o).run P w = .ok v w:=by
 exact ZW
theorem K9{o s:Nat}{a:List Kx}{i:TypeInfo}(hi:P.info? T=some i)(hs:i.size=s)(hd:(P.underlying T).isSome=true)(h1:(il P T||s==1)=true)(hl:o+s<=a.length):(part T (a.map Kx.val).toArray o).run P w = .ok (DM (il P T) ((a.drop o).take s)) w:=by
 refine aoE ⟨i,hi,hs⟩ (YB.1 hd) (fun _=>by simpa using hl) (fun hb => ?_) fun hb => ?_
 . rw [hb,uo,cC] at h1;subst h1;have h2:(a.drop o).take 1 = [a[o]]:=by
    rw [rZ oo];rfl
   rw [h2,hb];show (a.map Kx.val)[o]? = some a[o].val
   rw [gC,bq oo];rfl
 . rw [hb];unfold DM;simp [List.map_drop,Ku]
def QX(P:Program)(d:Nat)(a:Bool)(T:TypeId)(ls:List Lk):Prop:=∀ (w:World) (xs ys:List Kx),dP ls xs=true->dP ls ys=true->(Op.equalIn d T (DM a xs) (DM a ys)).run P w = .ok (decide (xs=ys)) w
theorem ZX{α:Type}[DecidableEq α](a b:List α)(s:Nat):decide (a=b)=(decide (a.take s=b.take s)&&decide (a.drop s=b.drop s)):=by
 rw [vO];simp only [aD,aU];constructor
 . rintro rfl; exact⟨rfl,rfl⟩
 . rintro⟨h1,h2⟩
   rw [<- lT s a,h1,h2,lT]
theorem ZY{g:TypeId->List Lk->Bool}{d:Nat}(hg:∀ T ls,g T ls=true->QX P d (il P T) T ls)(a b:List Kx):∀ (fs:List Field) (o:Nat) (ls:List Lk),K7 P g fs o ls=true->dP ls (a.drop o)=true->dP ls (b.drop o)=true ->
 (Op.eqFields d (a.map Kx.val).toArray (b.map Kx.val).toArray fs).run P w = .ok (decide (a.drop o=b.drop o)) w
 | [],o,ls,h,ha,hb=>by
  have hl:ls = []:=FZ.1 h;subst hl;rw [lC ha,lC hb];simp [Op.eqFields]
 | f::fs,o,ls,h,ha,hb=>by
  simp only [K7,aD,cC,bne_iff_ne,ne_eq] at h;obtain⟨⟨⟨h1,h2⟩,La⟩,h3⟩:=h
  cases hi:P.info? f.type with
  | none=>rw [hi] at h3; cases h3
  | some i =>
   rw [hi] at h3;simp only [aD,aU] at h3;obtain⟨⟨⟨⟨hs,h0⟩,y3⟩,DN⟩,tt⟩:=h3;have la:=GB ha;have lb:=GB hb;rw [iU] at la lb;obtain⟨ta,da⟩:=GC i.size ha;obtain⟨tb,db⟩:=GC i.size hb;rw [vN] at da db;have p1:=K9 (w:=w) hi rfl La y3 (o:=o) (a:=a) oo;have p2:=K9 (w:=w) hi rfl La y3 (o:=o) (a:=b) oo;have ih:=ZY hg a b fs (o+i.size) _ tt da db;have he:=hg _ _ DN w _ _ ta tb;simp only [Op.eqFields,h2,ne_eq,Ko,fH,bQ,h1,p1,p2,cg,he];rw [ZX (a.drop o) (b.drop o) i.size,vN,vN]
   cases hd:decide ((a.drop o).take i.size=(b.drop o).take i.size) with
   | true=>simp only [jC,fk,dK,ih,fe]
   | false=>simp
theorem ZZ{g:List Lk->Bool}{d s:Nat}{e:TypeId}{i:TypeInfo}(hi:P.info? e=some i)(hs:i.size=s)(hd:(P.underlying e).isSome=true)(y3:(il P e||s==1)=true)(hg:∀ ls,g ls=true->QX P d (il P e) e ls)(a b:List Kx):∀ (n o:Nat) (ls:List Lk),K8 g s n ls=true->dP ls (a.drop (o*s))=true->dP ls (b.drop (o*s))=true ->
 (Op.eqItems d e s (a.map Kx.val).toArray (b.map Kx.val).toArray (List.range' o n)).run P w = .ok (decide (a.drop (o*s)=b.drop (o*s))) w
 | 0,o,ls,h,ha,hb=>by
  have hl:ls = []:=FZ.1 h;subst hl;rw [lC ha,lC hb];simp [Op.eqItems]
 | n+1,o,ls,h,ha,hb=>by
  simp only [K8,aD,aU] at h;obtain⟨⟨⟨Z0,h0⟩,DN⟩,tt⟩:=h;have la:=GB ha;have lb:=GB hb;rw [iU] at la lb;obtain⟨ta,da⟩:=GC s ha;obtain⟨tb,db⟩:=GC s hb;rw [vN,show o*s+s=(o+1)*s by rw [Dn]] at da db;have p1:=K9 (w:=w) hi hs hd y3 (o:=o*s) (a:=a) oo;have p2:=K9 (w:=w) hi hs hd y3 (o:=o*s) (a:=b) oo;have ih:=ZZ hi hs hd y3 hg a b n (o+1) _ tt da db;have he:=hg _ DN w _ _ ta tb;rw [P5];simp only [Op.eqItems,bQ,p1,p2,cg,he];rw [ZX (a.drop (o*s)) (b.drop (o*s)) s,vN,vN,show o*s+s=(o+1)*s by rw [Dn]]
  cases hd:decide ((a.drop (o*s)).take s=(b.drop (o*s)).take s) with
  | true=>simp only [jC,fk,dK,ih,fe]
  | false=>simp
theorem QY:∀ (k d:Nat),k<=d->∀ T ls,GA P k T ls=true->QX P d (il P T) T ls
 | 0,d,_,T,ls,h=>by cases h
 | k+1,0,hd,T,ls,h=>oo
 | k+1,d+1,hd,T,ls,h=>by
  intro w xs ys hx hy;unfold GA at h;split at h
  . rename_i fs hu;simp only [aD,fG] at h;have p9:il P T=true:=by unfold il; rw [hu]
    rw [p9];have jo:P.fieldsOf T=fs:=by simp [Program.fieldsOf,hu]
    have e1:∀ l:List Kx,DM true l = .agg (l.map Kx.val).toArray:=fun l=>rfl;rw [e1,e1];refine (run_equalIn_struct w d T _ _ (by rw [jo]; exact hu) h.1).trans ?_;rw [jo];exact ZY (fun T ls h=>QY k d oo T ls h) xs ys fs.toList 0 ls h.2 (by simpa using hx) Bg
  . rename_i n e hu;simp only [aD] at h;obtain⟨La,h⟩:=h;have p9:il P T=true:=by unfold il; rw [hu]
    rw [p9]
    cases hi:P.info? e with
    | none=>rw [hi] at h; cases h
    | some i =>
     rw [hi] at h;simp only [aD,cC] at h;obtain⟨⟨hc,y3⟩,QZ⟩:=h;have e1:∀ l:List Kx,DM true l = .agg (l.map Kx.val).toArray:=fun l=>rfl;rw [e1,e1];refine (run_equalIn_array w d _ _ hu hi).trans ?_;rw [List.range_eq_range',hc];have:=ZZ (w:=w) (d:=d) hi rfl La y3 (fun ls h=>QY k d oo e ls h) xs ys n 0 ls QZ (by simpa using hx) Bg;simpa using this
  . rename_i ds m9 qX hu;split at h
    . rename_i l;obtain⟨x,r,rfl,nM,hr⟩:=mA hx;cases lC hr;obtain⟨y,s,rfl,A3,hs⟩:=mA hy;cases lC hs;have p9:il P T=false:=by
       unfold il;rw [hu];cases ds<;>first|rfl|exact absurd rfl (m9 _)|exact absurd rfl (qX _ _)
      rw [p9];refine (K1 h nM A3 d).trans ?_;simp
    . cases h
  . cases h
end
open Go.RowKit
theorem Lb:yZ Tryz.prog 3=true:=by kernel_rfl
theorem ct5:yZ Tryz.prog 5=true:=by kernel_rfl
section
variable{P:Program}{ρ:Operand->Value}{d:Option Nat}{ty:TypeId}{pos:String}{aft:Array Edge}{gd:Option (Nat×Bool)}{v:Value}{w:World}
theorem aoG{e n sz k b o:Nat}(hx : ρ x = .pointer (some ⟨b,o,none⟩))(hy : ρ y = .int kk (k:Int))(ht:P.underlying T=some (.array n e))(hi:(P.info? e).map (·.size)=some sz)(hk:(k:Int)<(n:Int))(hv:v = .pointer (some ⟨b,o+k*sz,none⟩)):(execOp ρ ⟨d,.indexAddr T x y,ty,pos,aft,gd⟩).run P w = .ok (.value v) w:=by
 subst hv
 cases he:P.info? e with
 | none=>rw [he] at hi; cases hi
 | some i =>
  rw [he] at hi;simp only [dG,bU] at hi;have h3:0<=(k:Int)/\(k:Int)<(n:Int):=⟨oo,hk⟩
  unfold execOp;simp only [hx,hy,Instr.indexAt,asIntOf,Instr.sureAddr,underlying,bQ,cq,cg,ht,ou];simp only [h3,Qd,fH,sizeOf,typeInfo,bQ,cq,cg,ou,he,hi,fB,KT]
theorem Z1{k:IntKind}{n:Int}{t:TypeId}(hx : ρ x = .int k m)(hy : ρ y = .int k n)(hn:n≠0)(hz:m.tmod n=z)(hv:v = .int k z):(execOp ρ ⟨d,.binOp .rem t x y t',ty,pos,aft,gd⟩).run P w = .ok (.value v) w:=by
 exact Z2
theorem Z3{k:IntKind}{n:Int}{t:TypeId}(hx : ρ x = .int k m)(hy : ρ y = .int k n)(hn:n≠0)(hz:k.wrap (m.tdiv n)=z)(hv:v = .int k z):(execOp ρ ⟨d,.binOp .quo t x y t',ty,pos,aft,gd⟩).run P w = .ok (.value v) w:=by
 exact Z2
theorem DO{k:IntKind}{s t:Nat}{ds:TypeDesc}(hx : ρ x = .int k m)(hs:P.underlying s=some ds)(ht:P.underlying t=some (.int k'))(hz:k'.wrap m=z)(hv:v = .int k' z):(execOp ρ ⟨d,.convert s t x,ty,pos,aft,gd⟩).run P w = .ok (.value v) w:=by
 subst hv hz;unfold execOp;simp only [hx,convert,underlying,bQ,cq,cg,ou,hs,ht,Conv.intToInt]
end
end Go.Proofs.YtamjbkaclhgffaaGreat
