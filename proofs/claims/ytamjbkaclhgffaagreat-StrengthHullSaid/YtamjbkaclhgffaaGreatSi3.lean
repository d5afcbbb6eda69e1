/-
  Keys of maps: flat ones (a number, a text, an array or a struct of numbers and bools); they are found by what they hold.
-/
import Derived.Test.YtamjbkaclhgffaaGreatSi2
import Derived.Maps.Keyed
import Derived.Maps.RangeRun
set_option linter.all false
namespace Go.Proofs.YtamjbkaclhgffaaGreat
open Go.MapKept
variable{m z:Int}{k' kk:IntKind}{vs:List Value}{T j:Nat}{x y:Operand}{e kt t':TypeId}
inductive Kx where
 | i (k:IntKind) (n:Int)
 | f (p:Bool)
 | s (x:ByteArray)
deriving DecidableEq
def Kx.val:Kx->Value
 | .i k n => .int k n
 | .f p => .bool p
 | .s x => .string x
inductive Lk where
 | int (k:IntKind)|bool|str
deriving DecidableEq
def Lk.desc:Lk->TypeDesc
 | .int k => .int k
 | .bool => .bool
 | .str => .string
def Lk.fits:Lk->Kx->Bool
 | .int k,.i k' _=>decide (k=k')
 | .bool,.f _=>true
 | .str,.s _=>true
 | _,_=>false
def dC:List Lk->List Kx->Bool
 | [],[]=>true
 | l::ls,x::xs=>l.fits x&&dC ls xs
 | _,_=>false
inductive Kc where
 | one (l:Lk)
 | arr (n:Nat) (l:Lk)
 | st (ls:List Lk)
deriving DecidableEq
def Kc.ls:Kc->List Lk
 | .one l => [l]
 | .arr n l=>List.replicate n l
 | .st ls=>ls
def Kc.val(c:Kc)(l:List Kx):Value:=match c,l with
 | .one _,[x]=>x.val
 | _,l => .agg (l.map Kx.val).toArray
def s9(P:Program)(e:TypeId)(l:Lk):Bool:=match P.underlying e,l with
 | some (.int k),.int k'=>decide (k=k')
 | some .bool,.bool=>true
 | some .string,.str=>true
 | _,_=>false
def td(P:Program):Nat->List Field->List Lk->Bool
 | _,[],[]=>true
 | n, f :: fs, l :: ls => f.offset == n && f.name != "_" && s9 P f.type l && td P (n + 1) fs ls
 | _,_,_=>false
def uE(P:Program)(kt:TypeId):Kc->Bool
 | .one l=>s9 P kt l
 | .arr n l=>match P.underlying kt with
  | some (.array n' e)=>n==n'&&s9 P e l&&(match P.info? e with|some i=>i.size==1&&P.cellsOf e==1|none=>false)
  | _=>false
 | .st ls=>match P.underlying kt with
  | some (.struct fs)=>td P 0 fs.toList ls && !P.stoodInHeld kt
  | _=>false
section
variable{P:Program}{w:World}
theorem OY{n:Nat}{l:Lk}(h:uE P kt (.arr n l)=true):∃ e i,P.underlying kt=some (.array n e)/\s9 P e l=true/\P.info? e=some i/\P.cellsOf e=1:=by
 simp only [uE] at h;split at h
 . rename_i n' e hu;simp only [ax,cb] at h;obtain⟨⟨rfl,hl⟩,h⟩:=h;split at h
   . rename_i i hi;simp only [ax,cb] at h;exact⟨e,i,hu,hl,hi,h.2⟩
   . cases h
 . cases h
theorem OZ{ls:List Lk}(h:uE P kt (.st ls)=true):∃ fs,P.underlying kt=some (.struct fs)/\td P 0 fs.toList ls=true/\P.stoodInHeld kt=false:=by
 simp only [uE] at h;split at h
 . rename_i fs hu;simp only [ax,jf] at h;exact⟨fs,hu,h⟩
 . cases h
theorem ET{l:Lk}(h:s9 P e l=true):P.underlying e=some l.desc:=by
 unfold s9 at h;split at h<;>simp_all [Lk.desc]
theorem Cs{l:Lk}(h:s9 P e l=true):P.plainKey e=true:=by
 have:=ET h;unfold Program.plainKey;rw [this];cases l<;>rfl
theorem Ji{l:Lk}{x y:Kx}(h:s9 P e l=true)(hx:l.fits x=true)(hy:l.fits y=true)(d):(Op.equalIn (d+1) e x.val y.val).run P w = .ok (decide (x=y)) w:=by
 have hd:=ET h;cases l<;>cases x<;>simp only [Lk.fits,dV,aL] at hx<;>cases y<;>simp only [Lk.fits,dV,aL] at hy
 . rename_i k _ m _ n;subst hx; subst hy;show (Op.equalIn (d+1) e (.int _ m) (.int _ n)).run P w=_
   rw [run_equalIn_int w d e _ _ m n hd];congr 1;rw [vN];simp
 . rename_i a b;show (Op.equalIn (d+1) e (.bool a) (.bool b)).run P w=_
   rw [run_equalIn_bool' w d e a b hd];congr 1;rw [vN];simp
 . rename_i a b;show (Op.equalIn (d+1) e (.string a) (.string b)).run P w=_
   rw [run_equalIn_string w d e a b hd];congr 1;rw [<- beq_toListBytes,vN,bytes_beq];simp
theorem O0{l:Lk}{x:Kx}(h:s9 P e l=true)(hx:l.fits x=true)(em)(n):(Instr.checkKey em (n+1) e x.val).run P w = .ok () w:=by
 have hd:=ET h;cases l<;>cases x<;>simp only [Lk.fits,dV,aL] at hx<;>simp [Instr.checkKey,qm hd,Lk.desc,Kx.val]
theorem Ct{l:List Kx}{n:Nat}{x:Kx}(h:l[n]? = some x):(l.map Kx.val).toArray[n]? = some x.val:=by simp [h]
theorem drop_cons{l:List Kx}{n:Nat}{x:Kx}{r:List Kx}(h:l.drop n=x::r):l[n]? = some x/\l.drop (n+1)=r:=by
 refine⟨?_,?_⟩
 . have:=congrArg (·[0]?) h;simpa using this
 . have:=congrArg (List.drop 1) h;simpa [uo,N8] using this
theorem lf{l:Lk}{ls:List Lk}{xs:List Kx}(h:dC (l::ls) xs=true):∃ x r,xs=x::r/\l.fits x=true/\dC ls r=true:=by
 cases xs with
 | nil=>simp [dC] at h
 | cons x r =>
  simp only [dC,ax] at h;exact⟨x,r,rfl,h⟩
theorem j6{xs:List Kx}(h:dC [] xs=true):xs = []:=by
 cases xs with
 | nil=>rfl
 | cons x r=>simp [dC] at h
theorem XN(d)(a b:List Kx):∀ (fs) (ls) (n),td P n fs ls=true->dC ls (a.drop n)=true->dC ls (b.drop n)=true ->
 (Op.eqFields (d+1) (a.map Kx.val).toArray (b.map Kx.val).toArray fs).run P w = .ok (decide (a.drop n=b.drop n)) w
 | [],[],n,_,ha,hb=>by
  rw [j6 ha,j6 hb];simp [Op.eqFields]
 | f::fs,l::ls,n,h,ha,hb=>by
  simp only [td,ax,cb,bne_iff_ne,ne_eq] at h;obtain⟨⟨⟨h1,h2⟩,h3⟩,h4⟩:=h;obtain⟨x,r,ex,hx,hr⟩:=lf ha;obtain⟨y,s,ey,hy,hs⟩:=lf hb;obtain⟨gx,dx⟩:=drop_cons ex;obtain⟨gy,dy⟩:=drop_cons ey;have p1:(part f.type (a.map Kx.val).toArray f.offset).run P w = .ok x.val w:=run_part_plain w (Cs h3) (Ct (by rw [h1]; exact gx));have p2:(part f.type (b.map Kx.val).toArray f.offset).run P w = .ok y.val w:=run_part_plain w (Cs h3) (Ct (by rw [h1]; exact gy));have ih:=XN d a b fs ls (n+1) h4 (by rw [dx]; exact hr) (by rw [dy]; exact hs);simp only [Op.eqFields,h2,ne_eq,NQ,eO,bp,p1,p2,bI,Ji h3 hx hy d,ex,ey];exact XO
 | [],_::_,_,h,_,_=>by simp [td] at h
 | _::_,[],_,h,_,_=>by simp [td] at h
theorem XP(d){e:TypeId}{l:Lk}(hl:s9 P e l=true)(hc:P.cellsOf e=1)(a b:List Kx):∀ (m n),dC (List.replicate m l) (a.drop n)=true->dC (List.replicate m l) (b.drop n)=true ->
 (Op.eqItems (d+1) e (P.cellsOf e) (a.map Kx.val).toArray (b.map Kx.val).toArray (List.range' n m)).run P w = .ok (decide (a.drop n=b.drop n)) w
 | 0,n,ha,hb=>by
  rw [j6 ha,j6 hb];simp [Op.eqItems]
 | m+1,n,ha,hb=>by
  obtain⟨x,r,ex,hx,hr⟩:=lf ha;obtain⟨y,s,ey,hy,hs⟩:=lf hb;obtain⟨gx,dx⟩:=drop_cons ex;obtain⟨gy,dy⟩:=drop_cons ey;have p1:(part e (a.map Kx.val).toArray (n*P.cellsOf e)).run P w = .ok x.val w:=run_part_plain w (Cs hl) (Ct (by rw [hc,mS]; exact gx));have p2:(part e (b.map Kx.val).toArray (n*P.cellsOf e)).run P w = .ok y.val w:=run_part_plain w (Cs hl) (Ct (by rw [hc,mS]; exact gy));have ih:=XP d hl hc a b m (n+1) (by rw [dx]; exact hr) (by rw [dy]; exact hs);rw [N2];simp only [Op.eqItems,bp,p1,p2,bI,Ji hl hx hy d,ex,ey];exact XO
theorem XQ(em)(d)(a:List Kx):∀ (fs) (ls) (n),td P n fs ls=true->dC ls (a.drop n)=true ->
 (forIn fs PUnit.unit fun f _ => (if f.name ≠ "_" then do
  let v <- part f.type (a.map Kx.val).toArray f.offset
  Instr.checkKey em (d+1) f.type v
  pure (ForInStep.yield PUnit.unit)
  else pure (ForInStep.yield PUnit.unit):Sem (ForInStep PUnit))).run P w = .ok PUnit.unit w
 | [],[],n,_,ha=>by simp
 | f::fs,l::ls,n,h,ha=>by
  simp only [td,ax,cb,bne_iff_ne,ne_eq] at h;obtain⟨⟨⟨h1,h2⟩,h3⟩,h4⟩:=h;obtain⟨x,r,ex,hx,hr⟩:=lf ha;obtain⟨gx,dx⟩:=drop_cons ex;have p1:(part f.type (a.map Kx.val).toArray f.offset).run P w = .ok x.val w:=run_part_plain w (Cs h3) (Ct (by rw [h1]; exact gx));have ih:=XQ em d a fs ls (n+1) h4 (by rw [dx]; exact hr);simp only [List.forIn_cons,h2,ne_eq,NQ,eO,bp,p1,bI,O0 h3 hx em d,bL];exact ih
 | [],_::_,_,h,_=>by simp [td] at h
 | _::_,[],_,h,_=>by simp [td] at h
theorem Jj{c:Kc}{a:List Kx}(h:uE P kt c=true)(ha:dC c.ls a=true)(em):(Instr.checkKey em 10000 kt (c.val a)).run P w = .ok () w:=by
 cases c with
 | one l =>
  obtain⟨x,r,rfl,hx,hr⟩:=lf ha;cases j6 hr;exact O0 h hx em 9999
 | arr n l =>
  obtain⟨e,i,hu,hl,hi,hc⟩:=OY h;show (Instr.checkKey em (9999+1) kt (.agg (a.map Kx.val).toArray)).run P w = .ok () w
  rw [Instr.checkKey];simp only [bp,qm hu,bI];simp only [Std.Legacy.Range.forIn_eq_forIn_range',Std.Legacy.Range.size,rC,Nat.add_one_sub_one,vR];have H:∀ (m k:Nat),dC (List.replicate m l) (a.drop k)=true->(forIn (List.range' k m) PUnit.unit fun j _=>(do
   let sz <- sizeOf e
   let v <- part e (a.map Kx.val).toArray (j*sz)
   Instr.checkKey em 9999 e v
   pure (ForInStep.yield PUnit.unit):Sem (ForInStep PUnit))).run P w = .ok PUnit.unit w:=by
   intro m
   induction m with
   | zero=>intro k _; simp
   | succ m ih =>
    intro k hk;obtain⟨x,r,ex,hx,hr⟩:=lf hk;obtain⟨gx,dx⟩:=drop_cons ex;have p1:(part e (a.map Kx.val).toArray (k*P.cellsOf e)).run P w = .ok x.val w:=run_part_plain w (Cs hl) (Ct (by rw [hc,mS]; exact gx));rw [N2];simp only [List.forIn_cons,bp,run_sizeOf w hi,bI,p1,O0 hl hx em 9998,bL];exact ih (k+1) (by rw [dx]; exact hr)
  rw [H n 0 Jk];rfl
 | st ls =>
  obtain⟨fs,hu,hf,hst⟩:=OZ h;show (Instr.checkKey em (9999+1) kt (.agg (a.map Kx.val).toArray)).run P w = .ok () w
  rw [Instr.checkKey];simp only [bp,qm hu,bI];rw [<- Array.forIn_toList];rw [XQ em 9998 a fs.toList ls 0 hf Jk];rfl
theorem akI{c:Kc}{a b:List Kx}(h:uE P kt c=true)(ha:dC c.ls a=true)(hb:dC c.ls b=true):(Op.equal kt (c.val a) (c.val b)).run P w = .ok (decide (a=b)) w:=by
 cases c with
 | one l =>
  obtain⟨x,r,rfl,hx,hr⟩:=lf ha;cases j6 hr;obtain⟨y,s,rfl,hy,hs⟩:=lf hb;cases j6 hs;refine (Ji h hx hy 9999).trans ?_;simp
 | arr n l =>
  obtain⟨e,i,hu,hl,hi,hc⟩:=OY h;refine (run_equalIn_array w 9999 _ _ hu hi).trans ?_;rw [List.range_eq_range'];exact XP 9998 hl hc a b n 0 Jk (by simpa [Kc.ls] using hb)
 | st ls =>
  obtain⟨fs,hu,hf,hst⟩:=OZ h;have ir:P.fieldsOf kt=fs:=by simp [Program.fieldsOf,hu]
  refine (run_equalIn_struct w 9999 kt _ _ (by rw [ir]; exact hu) hst).trans ?_;rw [ir];exact XN 9998 a b fs.toList ls 0 hf Jk (by simpa [Kc.ls] using hb)
theorem XR{x y:Kx}(h:x.val=y.val):x=y:=by cases x<;>cases y<;>simp_all [Kx.val]
theorem key_inj{c:Kc}{a b:List Kx}(ha:dC c.ls a=true)(hb:dC c.ls b=true)(h:c.val a=c.val b):a=b:=by
 have hm:∀ {a b:List Kx},a.map Kx.val=b.map Kx.val->a=b:=by
  intro a
  induction a with
  | nil=>intro b h; cases b with
   | nil=>rfl
   | cons y b=>simp at h
  | cons x a ih =>
   intro b h
   cases b with
   | nil=>simp at h
   | cons y b =>
    simp only [gz,ry] at h;rw [XR h.1,ih h.2]
 cases c with
 | one l =>
  obtain⟨x,r,rfl,hx,hr⟩:=lf ha;cases j6 hr;obtain⟨y,s,rfl,hy,hs⟩:=lf hb;cases j6 hs;rw [XR h]
 | arr n l =>
  simp only [Kc.val,Value.agg.injEq] at h;exact hm (N1 h)
 | st ls =>
  simp only [Kc.val,Value.agg.injEq] at h;exact hm (N1 h)
theorem XS(x:Kx)(n):Instr.sameBits n x.val x.val=true:=by
 have hb:∀ y:ByteArray,(y==y)=true:=fun y=>(bytes_beq y y).2 rfl;cases x<;>cases n<;>simp [Kx.val,Instr.sameBits,hb]
theorem XT{c:Kc}{a:List Kx}(ha:dC c.ls a=true):(Instr.keyThatStays (c.val a) (c.val a)).run P w = .ok (c.val a) w:=by
 have hb:Instr.sameBits (9999+1) (c.val a) (c.val a)=true:=by
  have hg:Instr.sameBits (9999+1) (.agg (a.map Kx.val).toArray) (.agg (a.map Kx.val).toArray)=true:=by
   simp only [Instr.sameBits,BEq.rfl,eu,dL];intro p hp;obtain⟨i,hi⟩:=List.getElem?_of_mem hp;simp only [List.getElem?_zip_eq_some] at hi;obtain⟨h1,h2⟩:=hi;rw [h1] at h2;injection h2 with h2;have hm:=eY h1;simp only [gi] at hm;obtain⟨x,_,hx⟩:=hm;obtain⟨p1,p2⟩:=p;simp only at h2 hx ⊢;subst h2; subst hx;exact XS x 9999
  cases c with
  | one l =>
   obtain⟨x,r,rfl,hx,hr⟩:=lf ha;cases j6 hr;exact XS x _
  | arr n l=>exact hg
  | st ls=>exact hg
 unfold Instr.keyThatStays;rw [aC hb];rfl
def gH(c:Kc)(v:Value)(a:List Kx):Prop:=v=c.val a/\dC c.ls a=true
theorem akJ{c:Kc}{a:List Kx}(h:uE P kt c=true)(ha:dC c.ls a=true)(es)(lL:∀ e∈es,∃ b,gH c e.key b) :
 ((Instr.findKey kt (c.val a) es).run P w = .ok none w/\∀ e∈es,¬ gH c e.key a) \/
 ∃ j e,(Instr.findKey kt (c.val a) es).run P w = .ok (some (j,e.val)) w/\es[j]? = some e/\gH c e.key a:=by
 have ask:∀ (es:List MapEntry) (i:Nat),(∀ e∈es,∃ b,gH c e.key b)->((Instr.findAsking kt (c.val a) es i).run P w = .ok none w/\∀ e∈es,¬ gH c e.key a) \/
  ∃ j e,(Instr.findAsking kt (c.val a) es i).run P w = .ok (some (i+j,e.val)) w/\es[j]? = some e/\gH c e.key a:=by
  intro es
  induction es with
  | nil=>intro i _; exact .inl ⟨by simp [Instr.findAsking],by simp⟩
  | cons e es ih =>
   intro i lL;obtain⟨b,hb,qy⟩:=lL e (by simp);have hr:=akI (w:=w) h ha qy;by_cases bk:a=b
   . subst bk;refine .inr ⟨0,e,?_,rfl,hb,qy⟩;simp only [Instr.findAsking,bp,hb,hr,bI,rB,eO,bL,jE]
   . have aT:¬ gH c e.key a:=fun h2=>bk (key_inj ha qy (h2.1.symm.trans hb));have lg:decide (a=b)=false:=by simp [bk]
     rcases ih (i+1) (fun y hy=>lL y (by simp [hy])) with ⟨h1,h2⟩|⟨j,e',h1,h2,h3⟩
     . refine .inl ⟨?_,fun y hy => ?_⟩
       . simp only [Instr.findAsking,bp,hb,hr,bI,lg,dV,dw,h1]
       . rcases fM.1 hy with rfl|hy
         . exact aT
         . exact h2 y hy
     . refine .inr ⟨j+1,e',?_,by simpa using h2,h3⟩;simp only [Instr.findAsking,bp,hb,hr,bI,lg,dV,dw,h1];rw [oA,N8 1 j]
 have hu:∃ d,P.underlying kt=some d:=by
  cases c with
  | one l=>exact⟨_,ET h⟩
  | arr n l=>obtain⟨e,i,hu,_⟩:=OY h; exact⟨_,hu⟩
  | st ls=>obtain⟨fs,hu,_⟩:=OZ h; exact⟨_,hu⟩
 obtain⟨d,hd⟩:=hu;have hs:∀ b,dC c.ls b=true->Instr.sameNow d (c.val a) (c.val b)=none\/Instr.sameNow d (c.val a) (c.val b)=some (decide (a=b)):=by
  intro b hb
  cases c with
  | one l =>
   obtain⟨x,r,rfl,hx,hr⟩:=lf ha;cases j6 hr;obtain⟨y,s,rfl,hy,hs⟩:=lf hb;cases j6 hs;right;have:=ET (P:=P) (e:=kt) (l:=l) h;rw [hd] at this;cases this;cases l<;>cases x<;>simp only [Lk.fits,dV,aL] at hx<;>cases y<;>simp only [Lk.fits,dV,aL] at hy
   . subst hx; subst hy;simp only [Lk.desc,Kc.val,Kx.val,Instr.sameNow,eO,bF];rw [vN];simp
   . simp only [Lk.desc,Kc.val,Kx.val,Instr.sameNow,bF];rw [vN];simp
   . simp only [Lk.desc,Kc.val,Kx.val,Instr.sameNow,bF];rw [vN,bytes_beq];simp
  | arr n l=>left; simp only [Kc.val]; unfold Instr.sameNow; split<;>simp_all
  | st ls=>left; simp only [Kc.val]; unfold Instr.sameNow; split<;>simp_all
 have now:∀ (es:List MapEntry) (i:Nat),(∀ e∈es,∃ b,gH c e.key b)->Instr.findNow d (c.val a) es i=none\/(Instr.findNow d (c.val a) es i=some none/\∀ e∈es,¬ gH c e.key a) \/
  ∃ j e,Instr.findNow d (c.val a) es i=some (some (i+j,e.val))/\es[j]? = some e/\gH c e.key a:=by
  intro es
  induction es with
  | nil=>intro i _; exact .inr (.inl ⟨rfl,by simp⟩)
  | cons e es ih =>
   intro i lL;obtain⟨b,hb,qy⟩:=lL e (by simp);rcases hs b qy with h1|h1
   . left;simp only [Instr.findNow,hb,h1]
   . by_cases bk:a=b
     . subst bk;refine .inr (.inr ⟨0,e,?_,rfl,hb,qy⟩);simp only [Instr.findNow,hb,h1,rB,jE]
     . have aT:¬ gH c e.key a:=fun h2=>bk (key_inj ha qy (h2.1.symm.trans hb));have lg:decide (a=b)=false:=by simp [bk]
       rw [lg] at h1;rcases ih (i+1) (fun y hy=>lL y (by simp [hy])) with h2|⟨h2,h3⟩|⟨j,e',h2,h3,h4⟩
       . left;simp only [Instr.findNow,hb,h1,h2]
       . refine .inr (.inl ⟨?_,fun y hy => ?_⟩)
         . simp only [Instr.findNow,hb,h1,h2]
         . rcases fM.1 hy with rfl|hy
           . exact aT
           . exact h3 y hy
       . refine .inr (.inr ⟨j+1,e',?_,by simpa using h3,h4⟩);simp only [Instr.findNow,hb,h1,h2];rw [oA,N8 1 j]
 unfold Instr.findKey;simp only [bp,qm hd,bI];rcases now es 0 lL with h1|⟨h1,h2⟩|⟨j,e,h1,h2,h3⟩
 . rw [h1];rcases ask es 0 lL with h2|⟨j,e,h2,h3,h4⟩
   . exact .inl h2
   . exact .inr ⟨j,e,by rw [gC] at h2; exact h2,h3,h4⟩
 . rw [h1];exact .inl ⟨rfl,h2⟩
 . rw [h1];exact .inr ⟨j,e,by rw [gC]; rfl,h2,h3⟩
end
open Go.RowKit
inductive AV where
 | un
 | int (k:IntKind) (n:Unit->Int)
 | lit (k:IntKind) (n:Int)
 | bool (b:Unit->Bool)
 | aR (b:Bool)
 | str (s:Unit->ByteArray)
 | nil
 | sl (fr:Bool) (t:Tc) (l:Unit->List t.el)
 | wide (fr:Bool) (t:Tc) (l:Unit->List t.el) (n:Unit->Nat)
 | bh (cells:List AV) (off:Nat)
 | ptr (loc off:Nat)
 | fq (loc off n:Nat)
 | own (loc:Nat)
 | cZ (t:Tc) (loc:Nat) (k:Unit->Int) (off:Nat)
 | cG (t:Tc) (loc:Nat) (a b:Unit->Nat)
 | mp (loc:Nat)
 | bo (loc:Nat)
 | it (loc l2:Nat)
 | agg (cells:List AV)
 | ba (l:List AV)
 | fn (f:FuncId) (dH:List AV)
 | fG (l:Unit->Nat)
inductive Rl where
 | box (b:Nat)
 | row (A:Option Addr) (n c:Nat)
 | mp (b:Nat)
 | bo (s:Nat)
 | it (b:Nat)
def Rl.b8:Rl->Option Nat
 | .box b=>some b
 | .row A _ _=>A.map (·.block)
 | .mp b=>some b
 | .bo _=>none
 | .it b=>some b
def Rl.dz:Rl->Bool
 | .row _ _ _=>false
 | _=>true
-- O1
def aP(fr:Bool):(t:Tc)->(Unit->t.el)->List AV
 | .int,x => [.int .i64 x]
 | .u8,x => [.int .u8 x]
 | .u32,x => [.int .u32 x]
 | .box,x => [.int .i64 (fun _=>(x ()).id),.str (fun _=>(x ()).num),.int .u8 (fun _=>(x ()).size),.bool (fun _=>(x ()).high),.int .i64 (fun _=>(x ()).aq),.int .i64 (fun _=>(x ()).load),.int .i64 (fun _=>(x ()).km),.int .u8 (fun _=>(x ()).cls),.bool (fun _=>(x ()).vZ)]
 | .al,x => [.int .i64 (fun _=>(x ()).box),.int .i64 (fun _=>(x ()).au),.int .i64 (fun _=>(x ()).aH),.int .u8 (fun _=>(x ()).half)]
 | .slot,x => [.int .i64 (fun _=>(x ()).au),.int .i64 (fun _=>(x ()).aH),.int .u8 (fun _=>(x ()).half)]
 | .ld,x => [.int .i64 (fun _=>(x ()).aq),.int .i64 (fun _=>(x ()).x),.int .i64 (fun _=>(x ()).y),.int .i64 (fun _=>(x ()).z)]
 | .pA,x => [.int .i64 (fun _=>(x ()).n),.int .i64 (fun _=>(x ()).low),.int .i64 (fun _=>(x ()).high)]
 | .au,x => [.int .i64 (fun _=>(x ()).cX),.int .i64 (fun _=>(x ()).row),.bool (fun _=>(x ()).fl),.int .i64 (fun _=>(x ()).cY),.int .i64 (fun _=>(x ()).ma),.int .i64 (fun _=>(x ()).xP),.int .i64 (fun _=>(x ()).xQ),.int .i64 (fun _=>(x ()).xR),.sl fr .int (fun _=>(x ()).fT),.int .i64 (fun _=>(x ()).x),.int .i64 (fun _=>(x ()).y),.int .i64 (fun _=>(x ()).z)]
 | .eQ,x => [.int .i64 (fun _=>(x ()).cX),.sl fr .int (fun _=>(x ()).rows)]
 | .mid,x => [.int .i64 (fun _=>(x ()).box.id),.str (fun _=>(x ()).box.num),.int .u8 (fun _=>(x ()).box.size),.bool (fun _=>(x ()).box.high),.int .i64 (fun _=>(x ()).box.aq),.int .i64 (fun _=>(x ()).box.load),.int .i64 (fun _=>(x ()).box.km),.int .u8 (fun _=>(x ()).box.cls),.bool (fun _=>(x ()).box.vZ),.int .i64 (fun _=>(x ()).x),.int .i64 (fun _=>(x ()).y),.int .i64 (fun _=>(x ()).h)]
 | .fU,x => [.int .i64 (fun _=>(x ()).akz),.int .i64 (fun _=>(x ()).aq),.int .i64 (fun _=>(x ()).akA),.int .i64 (fun _=>(x ()).mc),.int .i64 (fun _=>(x ()).uC)]
 | .bZ,x => [.int .i64 (fun _=>(x ()).x),.int .i64 (fun _=>(x ()).ch),.int .i64 (fun _=>(x ()).share),.int .i64 (fun _=>(x ()).cM),.int .i64 (fun _=>(x ()).cy)]
 | .di,x => [.int .i64 (fun _=>(x ()).aq),.int .i64 (fun _=>(x ()).x),.int .i64 (fun _=>(x ()).y),.int .i64 (fun _=>(x ()).z),.int .i64 (fun _=>(x ()).wb),.sl fr .int (fun _=>(x ()).steps)]
 | .xT,x => [.int .i64 (fun _=>(x ()).cX),.int .i64 (fun _=>(x ()).row),.bool (fun _=>(x ()).fl),.int .i64 (fun _=>(x ()).cY),.int .i64 (fun _=>(x ()).ma),.int .i64 (fun _=>(x ()).xP),.int .i64 (fun _=>(x ()).xQ),.int .i64 (fun _=>(x ()).xR),.wide fr .int (fun _=>(x ()).fT) (fun _=>(x ()).Xy),.int .i64 (fun _=>(x ()).x),.int .i64 (fun _=>(x ()).y),.int .i64 (fun _=>(x ()).z)]
 | .xU,x => [.int .i64 (fun _=>(x ()).cX),.wide fr .int (fun _=>(x ()).rows) (fun _=>(x ()).XA)]
 | .xV,x => [.int .i64 (fun _=>(x ()).aq),.int .i64 (fun _=>(x ()).x),.int .i64 (fun _=>(x ()).y),.int .i64 (fun _=>(x ()).z),.int .i64 (fun _=>(x ()).wb),.wide fr .int (fun _=>(x ()).steps) (fun _=>(x ()).XC)]
 | .fp,x => [.int .u8 (fun _=>(x ()).cX),.int .u8 (fun _=>(x ()).row),.int .u8 (fun _=>(x ()).cY),.bool (fun _=>(x ()).fl)]
 | .gq,x => [.int .u8 (fun _=>(x ()).au),.int .u8 (fun _=>(x ()).aq),.bool (fun _=>(x ()).small),.bool (fun _=>(x ()).high)]
 | .Cp,x => [.int .u16 (fun _=>(x ()).aq),.int .i16 (fun _=>(x ()).x),.int .i16 (fun _=>(x ()).y),.int .i16 (fun _=>(x ()).z)]
 | .wx,x => [.int .i64 (fun _=>(x ()).x),.int .i64 (fun _=>(x ()).aq)]
 | .qw,x => [.int .i64 (fun _=>(x ()).a0),.int .i64 (fun _=>(x ()).a1),.int .i64 (fun _=>(x ()).a2),.int .i64 (fun _=>(x ()).a3),.int .i64 (fun _=>(x ()).a4),.int .i64 (fun _=>(x ()).a5)]
 | .kZ,x => [.bool (fun _=>(x ()).neg),.int .u32 (fun _=>(x ()).n0),.int .u32 (fun _=>(x ()).n1),.int .u32 (fun _=>(x ()).n2),.int .u32 (fun _=>(x ()).n3),.int .u32 (fun _=>(x ()).n4),.int .u32 (fun _=>(x ()).n5),.int .u32 (fun _=>(x ()).n6),.int .u32 (fun _=>(x ()).n7),.int .u32 (fun _=>(x ()).d0),.int .u32 (fun _=>(x ()).d1),.int .u32 (fun _=>(x ()).d2),.int .u32 (fun _=>(x ()).d3),.int .u32 (fun _=>(x ()).d4),.int .u32 (fun _=>(x ()).d5),.int .u32 (fun _=>(x ()).d6),.int .u32 (fun _=>(x ()).d7)]
 | .cr,x => [.bool (fun _=>(x ()).cM.neg),.int .u32 (fun _=>(x ()).cM.n0),.int .u32 (fun _=>(x ()).cM.n1),.int .u32 (fun _=>(x ()).cM.n2),.int .u32 (fun _=>(x ()).cM.n3),.int .u32 (fun _=>(x ()).cM.n4),.int .u32 (fun _=>(x ()).cM.n5),.int .u32 (fun _=>(x ()).cM.n6),.int .u32 (fun _=>(x ()).cM.n7),.int .u32 (fun _=>(x ()).cM.d0),.int .u32 (fun _=>(x ()).cM.d1),.int .u32 (fun _=>(x ()).cM.d2),.int .u32 (fun _=>(x ()).cM.d3),.int .u32 (fun _=>(x ()).cM.d4),.int .u32 (fun _=>(x ()).cM.d5),.int .u32 (fun _=>(x ()).cM.d6),.int .u32 (fun _=>(x ()).cM.d7),.bool (fun _=>(x ()).cy.neg),.int .u32 (fun _=>(x ()).cy.n0),.int .u32 (fun _=>(x ()).cy.n1),.int .u32 (fun _=>(x ()).cy.n2),.int .u32 (fun _=>(x ()).cy.n3),.int .u32 (fun _=>(x ()).cy.n4),.int .u32 (fun _=>(x ()).cy.n5),.int .u32 (fun _=>(x ()).cy.n6),.int .u32 (fun _=>(x ()).cy.n7),.int .u32 (fun _=>(x ()).cy.d0),.int .u32 (fun _=>(x ()).cy.d1),.int .u32 (fun _=>(x ()).cy.d2),.int .u32 (fun _=>(x ()).cy.d3),.int .u32 (fun _=>(x ()).cy.d4),.int .u32 (fun _=>(x ()).cy.d5),.int .u32 (fun _=>(x ()).cy.d6),.int .u32 (fun _=>(x ()).cy.d7)]
 | .iF,x => [.int .u8 (fun _=>(x ()).aq),.int .u8 (fun _=>(x ()).steps),.int .i16 (fun _=>(x ()).x),.int .i16 (fun _=>(x ()).y),.int .i16 (fun _=>(x ()).z),.int .u16 (fun _=>(x ()).xS)]
 | .j5,x => [.int .u16 (fun _=>(x ()).step),.int .u16 (fun _=>(x ()).ch),.int .u16 (fun _=>(x ()).at_),.int .u16 (fun _=>(x ()).aq),.int .u8 (fun _=>(x ()).share)]
theorem O2(fr:Bool)(t:Tc)(x:Unit->t.el):(aP fr t x).length=t.size:=by cases t<;>rfl
def EU:(t t2:Tc)->Option (t.el->t2.el)
 | .xT,.au=>some fun x=>⟨x.cX,x.row,x.fl,x.cY,x.ma,x.xP,x.xQ,x.xR,x.fT.take x.Xy,x.x,x.y,x.z⟩
 | .xU,.eQ=>some fun x=>⟨x.cX,x.rows.take x.XA⟩
 | .xV,.di=>some fun x=>⟨x.aq,x.x,x.y,x.z,x.wb,x.steps.take x.XC⟩
 | _,_=>none
-- END O1
def eo(ag fr:Bool)(t:Tc)(x:Unit->t.el):AV:=if ag then .agg (aP fr t x) else match aP fr t x with
 | [c]=>c
 | _ => .un
inductive af (w:World) (ρ:Nat->Option Rl) (base:Nat) (ro:Nat->Prop):AV->Value->Prop
 | un (v):af w ρ base ro .un v
 | int (k n):af w ρ base ro (.int k n) (.int k (n ()))
 | lit (k n):af w ρ base ro (.lit k n) (.int k n)
 | bool (b):af w ρ base ro (.bool b) (.bool (b ()))
 | aR (b):af w ρ base ro (.aR b) (.bool b)
 | str (s):af w ρ base ro (.str s) (.string (s ()))
 | nil:af w ρ base ro .nil (.slice none 0 0)
 | sl (fr t l A c) (css:List (List Value)) (hl:css.length=(l ()).length) (hc:css.length<=c) (hr:Rd w w.heap.size t.size A css) (bt:∀ a,A=some a->css ≠ []->ro a.block) (cP:fr=true->∀ a,A=some a->css ≠ []->base<=a.block)
  (h:∀ (k:Nat) (cs:List Value) (j:Nat) (x:AV) (v:Value),css[k]? = some cs->(aP fr t fun _=>(l ()).getD k t.aa)[j]? = some x->cs[j]? = some v->af w ρ base ro x v):af w ρ base ro (.sl fr t l) (.slice A (l ()).length c)
 | wide (fr t l n A c) (hn:n ()<=(l ()).length) (h:af w ρ base ro (.sl fr t l) (.slice A (l ()).length c)):af w ρ base ro (.wide fr t l n) (.slice A (n ()) c)
 | bh (cells:List AV) (off b o) (cs:List Value) (bt:ro b) (ah:b<w.heap.size) (hl:cells.length=cs.length) (hc:∀ (j:Nat) u,cs[j]? = some u->w.cell? ⟨b,o+j,none⟩=some u) (h:∀ (j:Nat) x v,cells[j]? = some x->cs[j]? = some v->af w ρ base ro x v):af w ρ base ro (.bh cells off) (.pointer (some ⟨b,o+off,none⟩))
 | ptr (loc off b) (h : ρ loc=some (.box b)):af w ρ base ro (.ptr loc off) (.pointer (some ⟨b,off,none⟩))
 | fq (loc off n b) (h : ρ loc=some (.box b)):af w ρ base ro (.fq loc off n) (.slice (some ⟨b,off,none⟩) n n)
 | own (loc A n c) (h : ρ loc=some (.row A n c)):af w ρ base ro (.own loc) (.slice A n c)
 | cZ (t loc k off A) (n:Nat) (c b) (h : ρ loc=some (.row A n c)) (hA:A=some ⟨b,0,none⟩) (h0:0<=k ()) (hn:k ()<(n:Int)):af w ρ base ro (.cZ t loc k off) (.pointer (some ⟨b,(k ()).toNat*t.size+off,none⟩))
 | cG (t loc a b A) (n c:Nat) (h : ρ loc=some (.row A n c)) (bk:a ()<=b ()/\b ()<=n):af w ρ base ro (.cG t loc a b) (sliced A (a ()) (b ()) c t.size)
 | mp (loc b) (h : ρ loc=some (.mp b)):af w ρ base ro (.mp loc) (.map (some b))
 | bo (loc s) (h : ρ loc=some (.bo s)):af w ρ base ro (.bo loc) (goInt s)
 | it (loc l2 b) (h : ρ l2=some (.it b)):af w ρ base ro (.it loc l2) (.pointer (some ⟨b,0,none⟩))
 | agg (l:List AV) (vs:List Value) (hl:l.length=vs.length) (h:∀ (j:Nat) x v,l[j]? = some x->vs[j]? = some v->af w ρ base ro x v):af w ρ base ro (.agg l) (.agg vs.toArray)
 | ba (l:List AV) (vs:List Value) (hl:l.length=vs.length) (h:∀ (j:Nat) x v,l[j]? = some x->vs[j]? = some v->af w ρ base ro x v):af w ρ base ro (.ba l) (.tuple vs.toArray)
 | fn (f) (dH:List AV) (vs:List Value) (hl:dH.length=vs.length) (h:∀ (j:Nat) x v,dH[j]? = some x->vs[j]? = some v->af w ρ base ro x v):af w ρ base ro (.fn f dH) (.func (.func f) #[] vs.toArray)
 | fG (l):af w ρ base ro (.fG l) (.func (.yield (l ())) #[] #[])
def aV(w:World)(ρ:Nat->Option Rl)(base:Nat)(ro:Nat->Prop)(l:List AV)(vs:List Value):Prop:=l.length=vs.length/\∀ (j:Nat) x v,l[j]? = some x->vs[j]? = some v->af w ρ base ro x v
section
variable{w w':World}{ρ ρ':Nat->Option Rl}{base j7:Nat}{ro ro':Nat->Prop}
theorem aV.nil:aV w ρ base ro [] []:=⟨rfl,fun j x v h=>by simp at h⟩
theorem aV.cons{x:AV}{v:Value}{l:List AV}(h:af w ρ base ro x v)(hs:aV w ρ base ro l vs):aV w ρ base ro (x::l) (v::vs):=by
 refine⟨by simp [hs.1],fun j y u hy hu => ?_⟩
 cases j with
 | zero =>
  simp only [ox,bF] at hy hu;subst hy; subst hu;exact h
 | succ j=>exact hs.2 j y u zQ (by simpa using hu)
theorem aV.head{x:AV}{l:List AV}(h:aV w ρ base ro (x::l) vs):∃ v us,vs=v::us/\af w ρ base ro x v/\aV w ρ base ro l us:=by
 cases vs with
 | nil=>exact absurd h.1 (by simp)
 | cons v us=>exact⟨v,us,rfl,h.2 0 x v rfl rfl,by simpa using h.1,fun j y u hy hu=>h.2 (j+1) y u zQ (by simpa using hu)⟩
theorem aV.none(h:aV w ρ base ro [] vs):vs = []:=by
 cases vs with
 | nil=>rfl
 | cons v us=>exact absurd h.1 (by simp)
theorem aV.get{l:List AV}(h:aV w ρ base ro l vs){x:AV}(hx:l[j]? = some x):∃ v,vs[j]? = some v/\af w ρ base ro x v:=by
 have hj:=(cF.1 hx).1;exact⟨vs[j]'(by rw [<- h.1]; exact hj),bc _,h.2 j x _ hx (bc _)⟩
def Ext(ρ ρ':Nat->Option Rl):Prop:=∀ loc r,ρ loc=some r -> ρ' loc=some r
theorem Ext.refl(ρ):Ext ρ ρ:=fun _ _ h=>h
theorem af.mono{x:AV}{v:Value}(h:af w ρ base ro x v)(hw:∀ b,ro b->b<w.heap.size->w'.heap[b]? = w.heap[b]?)(hρ:Ext ρ ρ')(hb:j7<=base)(bt:∀ b,ro b->ro' b):af w' ρ' j7 ro' x v:=by
 induction h with
 | un=>exact .un _
 | fG=>exact .fG _
 | int=>exact .int _ _
 | lit=>exact .lit _ _
 | bool=>exact .bool _
 | aR=>exact .aR _
 | str=>exact .str _
 | nil=>exact .nil
 | sl fr t l A c css hl hc hr lh cP h ih =>
  refine .sl fr t l A c css hl hc ?_ (fun a ha hn=>bt _ (lh a ha hn)) (fun hf a ha hn=>dQ hb (cP hf a ha hn)) ih;by_cases hn:css = []
  . subst hn;exact Rd.nil _ _ _ _
  . exact Rd.jF hr fun a ha=>hw _ (lh a ha hn) (Rd.bound hr hn a ha)
 | wide fr t l n A c hn h ih=>exact .wide fr t l n A c hn ih
 | bh cells off b o cs hr ah hl hc h ih =>
  have uF:=hw b hr ah;refine .bh cells off b o cs (bt _ hr) ?_ hl (fun j u hu => ?_) ih
  . rcases b9 b w'.heap.size with h2|h2
    . exact h2
    . rw [Ef h2,po ah] at uF;cases uF
  . rw [Jg uF];exact hc j u hu
 | ptr loc off b h=>exact .ptr _ _ _ (hρ _ _ h)
 | fq loc off n b h=>exact .fq _ _ _ _ (hρ _ _ h)
 | own loc A n c h=>exact .own _ _ _ _ (hρ _ _ h)
 | cZ t loc k off A n c b h hA h0 hn=>exact .cZ _ _ _ _ _ _ _ _ (hρ _ _ h) hA h0 hn
 | cG t loc a b A n c h bk=>exact .cG _ _ _ _ _ _ _ (hρ _ _ h) bk
 | mp loc b h=>exact .mp _ _ (hρ _ _ h)
 | bo loc s h=>exact .bo _ _ (hρ _ _ h)
 | it loc l2 b h=>exact .it _ _ _ (hρ _ _ h)
 | agg l vs hl h ih=>exact .agg _ _ hl ih
 | ba l vs hl h ih=>exact .ba _ _ hl ih
 | fn f dH vs hl h ih=>exact .fn _ _ _ hl ih
theorem aV.mono{l:List AV}(h:aV w ρ base ro l vs)(hw:∀ b,ro b->b<w.heap.size->w'.heap[b]? = w.heap[b]?)(hρ:Ext ρ ρ')(hb:j7<=base)(bt:∀ b,ro b->ro' b):aV w' ρ' j7 ro' l vs :=
 ⟨h.1,fun j x v hx hv=>(h.2 j x v hx hv).mono hw hρ hb bt⟩
/- xX a tree names -/
mutual
def AV.has(loc:Nat):AV->Bool
 | .own l=>l==loc
 | .cZ _ l _ _=>l==loc
 | .cG _ l _ _=>l==loc
 | .bh cs _=>AV.lq loc cs
 | .agg cs=>AV.lq loc cs
 | .ba cs=>AV.lq loc cs
 | .fn _ cs=>AV.lq loc cs
 | _=>false
def AV.lq(loc:Nat):List AV->Bool
 | []=>false
 | x::l=>AV.has loc x||AV.lq loc l
end
/- no place of zR azr own,and xX is in it is new if 'azs is asked -/
mutual
def AV.plain(fresh:Bool):AV->Bool
 | .own _=>false
 | .cZ _ _ _ _=>false
 | .cG _ _ _ _=>false
 | .ptr _ _=>false
 | .fq _ _ _=>false
 | .mp _=>false
 | .bo _=>false
 | .it _ _=>false
 | .bh cs _ => !fresh&&AV.dJ fresh cs
 | .agg cs=>AV.dJ fresh cs
 | .ba cs=>AV.dJ fresh cs
 | .fn _ cs=>AV.dJ fresh cs
 | .sl fr _ _=>fr || !fresh
 | .wide fr _ _ _=>fr || !fresh
 | _=>true
def AV.dJ(fresh:Bool):List AV->Bool
 | []=>true
 | x::l=>AV.plain fresh x&&AV.dJ fresh l
end
theorem mg{loc:Nat}:∀ {l:List AV} {j:Nat} {x:AV},AV.lq loc l=false->l[j]? = some x->AV.has loc x=false
 | y::l,0,x,h,hx=>by
  simp only [ox,bF] at hx;subst hx;simp only [AV.lq,kf] at h;exact h.1
 | y::l,j+1,x,h,hx=>by
  simp only [AV.lq,kf] at h;exact mg h.2 (by simpa using hx)
 | [],j,x,_,hx=>by simp at hx
theorem we{fresh:Bool}:∀ {l:List AV} {j:Nat} {x:AV},AV.dJ fresh l=true->l[j]? = some x->AV.plain fresh x=true
 | y::l,0,x,h,hx=>by
  simp only [ox,bF] at hx;subst hx;simp only [AV.dJ,ax] at h;exact h.1
 | y::l,j+1,x,h,hx=>by
  simp only [AV.dJ,ax] at h;exact we h.2 (by simpa using hx)
 | [],j,x,_,hx=>by simp at hx
theorem wg(fr)(t)(x)(loc):AV.lq loc (aP fr t x)=false:=by cases t<;>rfl
theorem akL(t)(x)(fresh):AV.dJ fresh (aP true t x)=true:=by cases t<;>cases fresh<;>rfl
theorem EV(fr)(t)(x):AV.dJ false (aP fr t x)=true:=by cases t<;>cases fr<;>rfl
theorem af.move{x:AV}{v:Value}{loc:Nat}(h:af w ρ base ro x v)(hx:AV.has loc x=false)(hρ:∀ l r,ρ l=some r->l≠loc\/r.dz=true -> ρ' l=some r):af w ρ' base ro x v:=by
 induction h with
 | un=>exact .un _
 | fG=>exact .fG _
 | int=>exact .int _ _
 | lit=>exact .lit _ _
 | bool=>exact .bool _
 | aR=>exact .aR _
 | str=>exact .str _
 | nil=>exact .nil
 | sl fr t l A c css hl hc hr lh cP h ih =>
  exact .sl fr t l A c css hl hc hr lh cP fun k cs j y v h1 h2 h3=>ih k cs j y v h1 h2 h3 (mg (wg _ _ _ _) h2)
 | wide fr t l n A c hn h ih=>exact .wide fr t l n A c hn (ih rfl)
 | bh cells off b o cs hr ah hl hc h ih =>
  exact .bh cells off b o cs hr ah hl hc fun j y v h1 h2=>ih j y v h1 h2 (mg Jl h1)
 | ptr l off b h=>exact .ptr _ _ _ (hρ _ _ h (.inr rfl))
 | fq l off n b h=>exact .fq _ _ _ _ (hρ _ _ h (.inr rfl))
 | mp l b h=>exact .mp _ _ (hρ _ _ h (.inr rfl))
 | bo l s h=>exact .bo _ _ (hρ _ _ h (.inr rfl))
 | it l l2 b h=>exact .it _ _ _ (hρ _ _ h (.inr rfl))
 | own l A n c h =>
  have h1:l≠loc:=by simpa [AV.has] using hx
  exact .own _ _ _ _ (hρ _ _ h (.inl h1))
 | cZ t l k off A n c b h hA h0 hn =>
  have h1:l≠loc:=by simpa [AV.has] using hx
  exact .cZ _ _ _ _ _ _ _ _ (hρ _ _ h (.inl h1)) hA h0 hn
 | cG t l a b A n c h bk =>
  have h1:l≠loc:=by simpa [AV.has] using hx
  exact .cG _ _ _ _ _ _ _ (hρ _ _ h (.inl h1)) bk
 | agg l vs hl h ih=>exact .agg _ _ hl fun j y v h1 h2=>ih j y v h1 h2 (mg Jl h1)
 | ba l vs hl h ih=>exact .ba _ _ hl fun j y v h1 h2=>ih j y v h1 h2 (mg Jl h1)
 | fn f dH vs hl h ih=>exact .fn _ _ _ hl fun j y v h1 h2=>ih j y v h1 h2 (mg Jl h1)
theorem af.plain{x:AV}{v:Value}{fresh:Bool}(h:af w ρ base ro x v)(hx:AV.plain fresh x=true)(bt:∀ b,(fresh=true->base<=b)->ro b->ro' b):af w ρ' base ro' x v:=by
 induction h with
 | un=>exact .un _
 | fG=>exact .fG _
 | int=>exact .int _ _
 | lit=>exact .lit _ _
 | bool=>exact .bool _
 | aR=>exact .aR _
 | str=>exact .str _
 | nil=>exact .nil
 | sl fr t l A c css hl hc hr lh cP h ih =>
  have Cu:fresh=true->fr=true:=by
   intro hf;simpa [AV.plain,hf] using hx
  refine .sl fr t l A c css hl hc hr (fun a ha hn=>bt _ (fun hf=>cP (Cu hf) a ha hn) (lh a ha hn)) cP fun k cs j y v h1 h2 h3=>ih k cs j y v h1 h2 h3 (we ?_ h2)
  cases fresh with
  | true=>rw [Cu rfl]; exact akL _ _ _
  | false=>exact EV _ _ _
 | wide fr t l n A c hn h ih=>exact .wide fr t l n A c hn (ih Jm)
 | bh cells off b o cs hr ah hl hc h ih =>
  simp only [AV.plain,ax,jf] at hx;exact .bh cells off b o cs (bt _ (by rw [hx.1]; simp) hr) ah hl hc fun j y v h1 h2=>ih j y v h1 h2 (we hx.2 h1)
 | ptr l off b h=>simp [AV.plain] at hx
 | fq l off n b h=>simp [AV.plain] at hx
 | own l A n c h=>simp [AV.plain] at hx
 | cZ t l k off A n c b h hA h0 hn=>simp [AV.plain] at hx
 | cG t l a b A n c h bk=>simp [AV.plain] at hx
 | mp l b h=>simp [AV.plain] at hx
 | bo l s h=>simp [AV.plain] at hx
 | it l l2 b h=>simp [AV.plain] at hx
 | agg l vs hl h ih=>exact .agg _ _ hl fun j y v h1 h2=>ih j y v h1 h2 (we Jm h1)
 | ba l vs hl h ih=>exact .ba _ _ hl fun j y v h1 h2=>ih j y v h1 h2 (we Jm h1)
 | fn f dH vs hl h ih=>exact .fn _ _ _ hl fun j y v h1 h2=>ih j y v h1 h2 (we Jm h1)
end
open Go.MapKept
def gI(P:Program)(T:TypeId):Bool:=match P.underlying T with
 | some (.struct _)=>true
 | some (.array _ _)=>true
 | _=>false
def Cv(a:Bool)(xs:List Kx):Value:=match a,xs with
 | false,[x]=>x.val
 | _,xs => .agg (xs.map Kx.val).toArray
def Jn(P:Program)(g:TypeId->List Lk->Bool):List Field->Nat->List Lk->Bool
 | [],_,ls=>ls.isEmpty
 | f :: fs, o, ls => f.offset == o && f.name != "_" && (P.underlying f.type).isSome && match P.info? f.type with
  | some i=>(decide (i.size<=ls.length)&&decide (0<i.size))&&(gI P f.type||i.size==1)&&g f.type (ls.take i.size)&&Jn P g fs (o+i.size) (ls.drop i.size)
  | none=>false
def Jo(g:List Lk->Bool)(s:Nat):Nat->List Lk->Bool
 | 0,ls=>ls.isEmpty
 | n+1,ls=>(decide (s<=ls.length)&&decide (0<s))&&g (ls.take s)&&Jo g s n (ls.drop s)
def EW(P:Program):Nat->TypeId->List Lk->Bool
 | 0,_,_=>false
 | k+1,T,ls=>match P.underlying T with
  | some (.struct fs) => !P.stoodInHeld T&&Jn P (EW P k) fs.toList 0 ls
  | some (.array n e)=>(P.underlying e).isSome&&match P.info? e with
   | some i=>P.cellsOf e==i.size&&(gI P e||i.size==1)&&Jo (EW P k e) i.size n ls
   | none=>false
  | some _=>(match ls with
   | [l]=>s9 P T l
   | _=>false)
  | none=>false
section
variable{P:Program}{w:World}
theorem EX:∀ {ls:List Lk} {xs:List Kx},dC ls xs=true->xs.length=ls.length
 | [],xs,h=>by rw [j6 h]; rfl
 | l::ls,xs,h=>by
  obtain⟨x,r,rfl,_,hr⟩:=lf h;simp [EX hr]
theorem EY:∀ {ls:List Lk} {xs:List Kx} (n),dC ls xs=true->dC (ls.take n) (xs.take n)=true/\dC (ls.drop n) (xs.drop n)=true
 | [],xs,n,h=>by rw [j6 h]; simp [dC]
 | l::ls,xs,0,h=>by simp only [Er,zA]; exact⟨rfl,h⟩
 | l::ls,xs,n+1,h=>by
  obtain⟨x,r,rfl,hx,hr⟩:=lf h;simp only [IF,List.drop_succ_cons];obtain⟨h1,h2⟩:=EY n hr;exact⟨by simp only [dC,hx,h1,N6],h2⟩
theorem akM{o s:Nat}(ha:∃ j,P.info? T=some j/\j.size=s)(hd:∃ ds,P.underlying T=some ds)(hlen:gI P T=true->o+s<=vs.length){v:Value}(hv:gI P T=false->vs[o]? = some v)(rN:gI P T=true->v = .agg ((vs.drop o).take s).toArray):(part T vs.toArray o).run P w = .ok v w:=by
 exact XU
theorem Jp{o s:Nat}{a:List Kx}{i:TypeInfo}(hi:P.info? T=some i)(hs:i.size=s)(hd:(P.underlying T).isSome=true)(h1:(gI P T||s==1)=true)(hl:o+s<=a.length):(part T (a.map Kx.val).toArray o).run P w = .ok (Cv (gI P T) ((a.drop o).take s)) w:=by
 refine akM ⟨i,hi,hs⟩ (Ww.1 hd) (fun _=>by simpa using hl) (fun hb => ?_) fun hb => ?_
 . rw [hb,sV,cb] at h1;subst h1;have h2:(a.drop o).take 1 = [a[o]]:=by
    rw [sP oo];rfl
   rw [h2,hb];show (a.map Kx.val)[o]? = some a[o].val
   rw [ga,bc oo];rfl
 . rw [hb];unfold Cv;simp [List.map_drop,IP]
def O3(P:Program)(d:Nat)(a:Bool)(T:TypeId)(ls:List Lk):Prop:=∀ (w) (xs ys),dC ls xs=true->dC ls ys=true->(Op.equalIn d T (Cv a xs) (Cv a ys)).run P w = .ok (decide (xs=ys)) w
theorem XV{α:Type}[DecidableEq α](a b:List α)(s):decide (a=b)=(decide (a.take s=b.take s)&&decide (a.drop s=b.drop s)):=by
 rw [vN];simp only [ax,aL];constructor
 . rintro rfl; exact⟨rfl,rfl⟩
 . rintro⟨h1,h2⟩
   rw [<- jB s a,h1,h2,jB]
theorem XW{g:TypeId->List Lk->Bool}{d:Nat}(hg:∀ T ls,g T ls=true->O3 P d (gI P T) T ls)(a b:List Kx):∀ (fs) (o) (ls),Jn P g fs o ls=true->dC ls (a.drop o)=true->dC ls (b.drop o)=true ->
 (Op.eqFields d (a.map Kx.val).toArray (b.map Kx.val).toArray fs).run P w = .ok (decide (a.drop o=b.drop o)) w
 | [],o,ls,h,ha,hb=>by
  have hl:ls = []:=B4.1 h;subst hl;rw [j6 ha,j6 hb];simp [Op.eqFields]
 | f::fs,o,ls,h,ha,hb=>by
  simp only [Jn,ax,cb,bne_iff_ne,ne_eq] at h;obtain⟨⟨⟨h1,h2⟩,Jq⟩,h3⟩:=h
  cases hi:P.info? f.type with
  | none=>rw [hi] at h3; cases h3
  | some i =>
   rw [hi] at h3;simp only [ax,aL] at h3;obtain⟨⟨⟨⟨hs,h0⟩,xY⟩,Cw⟩,rO⟩:=h3;have la:=EX ha;have lb:=EX hb;rw [iD] at la lb;obtain⟨ta,da⟩:=EY i.size ha;obtain⟨tb,db⟩:=EY i.size hb;rw [uo] at da db;have p1:=Jp (w:=w) hi rfl Jq xY (o:=o) (a:=a) oo;have p2:=Jp (w:=w) hi rfl Jq xY (o:=o) (a:=b) oo;have ih:=XW hg a b fs (o+i.size) _ rO da db;have he:=hg _ _ Cw w _ _ ta tb;simp only [Op.eqFields,h2,ne_eq,NQ,eO,bp,h1,p1,p2,bI,he];rw [XV (a.drop o) (b.drop o) i.size,uo,uo]
   cases hd:decide ((a.drop o).take i.size=(b.drop o).take i.size) with
   | true=>simp only [gg,dV,dw,ih,eu]
   | false=>simp
theorem XX{g:List Lk->Bool}{d s:Nat}{e:TypeId}{i:TypeInfo}(hi:P.info? e=some i)(hs:i.size=s)(hd:(P.underlying e).isSome=true)(xY:(gI P e||s==1)=true)(hg:∀ ls,g ls=true->O3 P d (gI P e) e ls)(a b:List Kx):∀ (n o) (ls),Jo g s n ls=true->dC ls (a.drop (o*s))=true->dC ls (b.drop (o*s))=true ->
 (Op.eqItems d e s (a.map Kx.val).toArray (b.map Kx.val).toArray (List.range' o n)).run P w = .ok (decide (a.drop (o*s)=b.drop (o*s))) w
 | 0,o,ls,h,ha,hb=>by
  have hl:ls = []:=B4.1 h;subst hl;rw [j6 ha,j6 hb];simp [Op.eqItems]
 | n+1,o,ls,h,ha,hb=>by
  simp only [Jo,ax,aL] at h;obtain⟨⟨⟨Jr,h0⟩,Cw⟩,rO⟩:=h;have la:=EX ha;have lb:=EX hb;rw [iD] at la lb;obtain⟨ta,da⟩:=EY s ha;obtain⟨tb,db⟩:=EY s hb;rw [uo,show o*s+s=(o+1)*s by rw [B9]] at da db;have p1:=Jp (w:=w) hi hs hd xY (o:=o*s) (a:=a) oo;have p2:=Jp (w:=w) hi hs hd xY (o:=o*s) (a:=b) oo;have ih:=XX hi hs hd xY hg a b n (o+1) _ rO da db;have he:=hg _ Cw w _ _ ta tb;rw [N2];simp only [Op.eqItems,bp,p1,p2,bI,he];rw [XV (a.drop (o*s)) (b.drop (o*s)) s,uo,uo,show o*s+s=(o+1)*s by rw [B9]]
  cases hd:decide ((a.drop (o*s)).take s=(b.drop (o*s)).take s) with
  | true=>simp only [gg,dV,dw,ih,eu]
  | false=>simp
theorem O4:∀ (k d),k<=d->∀ T ls,EW P k T ls=true->O3 P d (gI P T) T ls
 | 0,d,_,T,ls,h=>by cases h
 | k+1,0,hd,T,ls,h=>oo
 | k+1,d+1,hd,T,ls,h=>by
  intro w xs ys hx hy;unfold EW at h;split at h
  . rename_i fs hu;simp only [ax,jf] at h;have oI:gI P T=true:=by unfold gI; rw [hu]
    rw [oI];have ir:P.fieldsOf T=fs:=by simp [Program.fieldsOf,hu]
    have e1:∀ l:List Kx,Cv true l = .agg (l.map Kx.val).toArray:=fun l=>rfl;rw [e1,e1];refine (run_equalIn_struct w d T _ _ (by rw [ir]; exact hu) h.1).trans ?_;rw [ir];exact XW (fun T ls h=>O4 k d oo T ls h) xs ys fs.toList 0 ls h.2 (by simpa using hx) zQ
  . rename_i n e hu;simp only [ax] at h;obtain⟨Jq,h⟩:=h;have oI:gI P T=true:=by unfold gI; rw [hu]
    rw [oI]
    cases hi:P.info? e with
    | none=>rw [hi] at h; cases h
    | some i =>
     rw [hi] at h;simp only [ax,cb] at h;obtain⟨⟨hc,xY⟩,O5⟩:=h;have e1:∀ l:List Kx,Cv true l = .agg (l.map Kx.val).toArray:=fun l=>rfl;rw [e1,e1];refine (run_equalIn_array w d _ _ hu hi).trans ?_;rw [List.range_eq_range',hc];have:=XX (w:=w) (d:=d) hi rfl Jq xY (fun ls h=>O4 k d oo e ls h) xs ys n 0 ls O5 (by simpa using hx) zQ;simpa using this
  . rename_i ds j8 mY hu;split at h
    . rename_i l;obtain⟨x,r,rfl,xL,hr⟩:=lf hx;cases j6 hr;obtain⟨y,s,rfl,EK,hs⟩:=lf hy;cases j6 hs;have oI:gI P T=false:=by
       unfold gI;rw [hu];cases ds<;>first|rfl|exact absurd rfl (j8 _)|exact absurd rfl (mY _ _)
      rw [oI];refine (Ji h xL EK d).trans ?_;simp
    . cases h
  . cases h
end
open Go.RowKit
theorem EZ:uD Tryz.prog 3=true:=by kernel_rfl
theorem ct5:uD Tryz.prog 5=true:=by kernel_rfl
section
variable{P:Program}{ρ:Operand->Value}{d:Option Nat}{ty:TypeId}{pos:String}{aft:Array Edge}{gd:Option (Nat×Bool)}{v:Value}{w:World}
theorem akO{e n sz k b o:Nat}(hx : ρ x = .pointer (some ⟨b,o,none⟩))(hy : ρ y = .int kk (k:Int))(ht:P.underlying T=some (.array n e))(hi:(P.info? e).map (·.size)=some sz)(hk:(k:Int)<(n:Int))(hv:v = .pointer (some ⟨b,o+k*sz,none⟩)):(execOp ρ ⟨d,.indexAddr T x y,ty,pos,aft,gd⟩).run P w = .ok (.value v) w:=by
 subst hv
 cases he:P.info? e with
 | none=>rw [he] at hi; cases hi
 | some i =>
  rw [he] at hi;simp only [du,bF] at hi;have h3:0<=(k:Int)/\(k:Int)<(n:Int):=⟨oo,hk⟩
  unfold execOp;simp only [hx,hy,Instr.indexAt,asIntOf,Instr.sureAddr,underlying,bp,bL,bI,ht,mR];simp only [h3,IS,eO,sizeOf,typeInfo,bp,bL,bI,mR,he,hi,fE,ER]
theorem XY{k:IntKind}{n:Int}{t:TypeId}(hx : ρ x = .int k m)(hy : ρ y = .int k n)(hn:n≠0)(hz:m.tmod n=z)(hv:v = .int k z):(execOp ρ ⟨d,.binOp .rem t x y t',ty,pos,aft,gd⟩).run P w = .ok (.value v) w:=by
 exact XZ
theorem X0{k:IntKind}{n:Int}{t:TypeId}(hx : ρ x = .int k m)(hy : ρ y = .int k n)(hn:n≠0)(hz:k.wrap (m.tdiv n)=z)(hv:v = .int k z):(execOp ρ ⟨d,.binOp .quo t x y t',ty,pos,aft,gd⟩).run P w = .ok (.value v) w:=by
 exact XZ
theorem Cy{k:IntKind}{s t:Nat}{ds:TypeDesc}(hx : ρ x = .int k m)(hs:P.underlying s=some ds)(ht:P.underlying t=some (.int k'))(hz:k'.wrap m=z)(hv:v = .int k' z):(execOp ρ ⟨d,.convert s t x,ty,pos,aft,gd⟩).run P w = .ok (.value v) w:=by
 subst hv hz;unfold execOp;simp only [hx,convert,underlying,bp,bL,bI,mR,hs,ht,Conv.intToInt]
end
end Go.Proofs.YtamjbkaclhgffaaGreat
