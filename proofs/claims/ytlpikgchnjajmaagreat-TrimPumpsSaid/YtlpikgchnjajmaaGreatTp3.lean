/-
  Keys of maps: flat ones (a number, a text, an array or a struct of numbers and bools); they are found by what they hold.
-/
import Derived.Test.YtlpikgchnjajmaaGreatTp2
import Derived.Maps.Keyed
import Derived.Maps.RangeRun
set_option linter.all false
namespace Go.Proofs.YtlpikgchnjajmaaGreat
open Go.MapKept
variable{m z:Int}{k' kk:IntKind}{vs:List Value}{T j:Nat}{x y:Operand}{e kt t':TypeId}
inductive Kx where
 | i (k:IntKind) (n:Int)
 | f (p:Bool)
 | s (x:ByteArray)
deriving DecidableEq
def Kx.val:Kx->Value
 | .i k n => .int k n
 | .f p => .bool p
 | .s x => .string x
inductive Lk where
 | int (k:IntKind)|bool|str
deriving DecidableEq
def Lk.desc:Lk->TypeDesc
 | .int k => .int k
 | .bool => .bool
 | .str => .string
def Lk.fits:Lk->Kx->Bool
 | .int k,.i k' _=>decide (k=k')
 | .bool,.f _=>true
 | .str,.s _=>true
 | _,_=>false
def dG:List Lk->List Kx->Bool
 | [],[]=>true
 | l::ls,x::xs=>l.fits x&&dG ls xs
 | _,_=>false
inductive Kc where
 | one (l:Lk)
 | arr (n:Nat) (l:Lk)
 | st (ls:List Lk)
deriving DecidableEq
def Kc.ls:Kc->List Lk
 | .one l => [l]
 | .arr n l=>List.replicate n l
 | .st ls=>ls
def Kc.val(c:Kc)(l:List Kx):Value:=match c,l with
 | .one _,[x]=>x.val
 | _,l => .agg (l.map Kx.val).toArray
def sN(P:Program)(e:TypeId)(l:Lk):Bool:=match P.underlying e,l with
 | some (.int k),.int k'=>decide (k=k')
 | some .bool,.bool=>true
 | some .string,.str=>true
 | _,_=>false
def sO(P:Program):Nat->List Field->List Lk->Bool
 | _,[],[]=>true
 | n, f :: fs, l :: ls => f.offset == n && f.name != "_" && sN P f.type l && sO P (n + 1) fs ls
 | _,_,_=>false
def uu(P:Program)(kt:TypeId):Kc->Bool
 | .one l=>sN P kt l
 | .arr n l=>match P.underlying kt with
  | some (.array n' e)=>n==n'&&sN P e l&&(match P.info? e with|some i=>i.size==1&&P.cellsOf e==1|none=>false)
  | _=>false
 | .st ls=>match P.underlying kt with
  | some (.struct fs)=>sO P 0 fs.toList ls && !P.stoodInHeld kt
  | _=>false
section
variable{P:Program}{w:World}
theorem Ol{n:Nat}{l:Lk}(h:uu P kt (.arr n l)=true):∃ e i,P.underlying kt=some (.array n e)/\sN P e l=true/\P.info? e=some i/\P.cellsOf e=1:=by
 simp only [uu] at h;split at h
 . rename_i n' e hu;simp only [au,b9] at h;obtain⟨⟨rfl,hl⟩,h⟩:=h;split at h
   . rename_i i hi;simp only [au,b9] at h;exact⟨e,i,hu,hl,hi,h.2⟩
   . cases h
 . cases h
theorem Om{ls:List Lk}(h:uu P kt (.st ls)=true):∃ fs,P.underlying kt=some (.struct fs)/\sO P 0 fs.toList ls=true/\P.stoodInHeld kt=false:=by
 simp only [uu] at h;split at h
 . rename_i fs hu;simp only [au,iG] at h;exact⟨fs,hu,h⟩
 . cases h
theorem Ee{l:Lk}(h:sN P e l=true):P.underlying e=some l.desc:=by
 unfold sN at h;split at h<;>simp_all [Lk.desc]
theorem BN{l:Lk}(h:sN P e l=true):P.plainKey e=true:=by
 have:=Ee h;unfold Program.plainKey;rw [this];cases l<;>rfl
theorem IE{l:Lk}{x y:Kx}(h:sN P e l=true)(hx:l.fits x=true)(hy:l.fits y=true)(d):(Op.equalIn (d+1) e x.val y.val).run P w = .ok (decide (x=y)) w:=by
 have hd:=Ee h;cases l<;>cases x<;>simp only [Lk.fits,dS,aI] at hx<;>cases y<;>simp only [Lk.fits,dS,aI] at hy
 . rename_i k _ m _ n;subst hx; subst hy;show (Op.equalIn (d+1) e (.int _ m) (.int _ n)).run P w=_
   rw [run_equalIn_int w d e _ _ m n hd];congr 1;rw [sD];simp
 . rename_i a b;show (Op.equalIn (d+1) e (.bool a) (.bool b)).run P w=_
   rw [run_equalIn_bool' w d e a b hd];congr 1;rw [sD];simp
 . rename_i a b;show (Op.equalIn (d+1) e (.string a) (.string b)).run P w=_
   rw [run_equalIn_string w d e a b hd];congr 1;rw [<- beq_toListBytes,sD,bytes_beq];simp
theorem On{l:Lk}{x:Kx}(h:sN P e l=true)(hx:l.fits x=true)(em)(n):(Instr.checkKey em (n+1) e x.val).run P w = .ok () w:=by
 have hd:=Ee h;cases l<;>cases x<;>simp only [Lk.fits,dS,aI] at hx<;>simp [Instr.checkKey,ql hd,Lk.desc,Kx.val]
theorem BO{l:List Kx}{n:Nat}{x:Kx}(h:l[n]? = some x):(l.map Kx.val).toArray[n]? = some x.val:=by simp [h]
theorem drop_cons{l:List Kx}{n:Nat}{x:Kx}{r:List Kx}(h:l.drop n=x::r):l[n]? = some x/\l.drop (n+1)=r:=by
 refine⟨?_,?_⟩
 . have:=congrArg (·[0]?) h;simpa using this
 . have:=congrArg (List.drop 1) h;simpa [tX,VD] using this
theorem lh{l:Lk}{ls:List Lk}{xs:List Kx}(h:dG (l::ls) xs=true):∃ x r,xs=x::r/\l.fits x=true/\dG ls r=true:=by
 cases xs with
 | nil=>simp [dG] at h
 | cons x r =>
  simp only [dG,au] at h;exact⟨x,r,rfl,h⟩
theorem j9{xs:List Kx}(h:dG [] xs=true):xs = []:=by
 cases xs with
 | nil=>rfl
 | cons x r=>simp [dG] at h
theorem WB(d)(a b:List Kx):∀ (fs) (ls) (n),sO P n fs ls=true->dG ls (a.drop n)=true->dG ls (b.drop n)=true ->
 (Op.eqFields (d+1) (a.map Kx.val).toArray (b.map Kx.val).toArray fs).run P w = .ok (decide (a.drop n=b.drop n)) w
 | [],[],n,_,ha,hb=>by
  rw [j9 ha,j9 hb];simp [Op.eqFields]
 | f::fs,l::ls,n,h,ha,hb=>by
  simp only [sO,au,b9,Nz,ne_eq] at h;obtain⟨⟨⟨h1,h2⟩,h3⟩,h4⟩:=h;obtain⟨x,r,ex,hx,hr⟩:=lh ha;obtain⟨y,s,ey,hy,hs⟩:=lh hb;obtain⟨gx,dx⟩:=drop_cons ex;obtain⟨gy,dy⟩:=drop_cons ey;have p1:(part f.type (a.map Kx.val).toArray f.offset).run P w = .ok x.val w:=run_part_plain w (BN h3) (BO (by rw [h1]; exact gx));have p2:(part f.type (b.map Kx.val).toArray f.offset).run P w = .ok y.val w:=run_part_plain w (BN h3) (BO (by rw [h1]; exact gy));have ih:=WB d a b fs ls (n+1) h4 (by rw [dx]; exact hr) (by rw [dy]; exact hs);simp only [Op.eqFields,h2,ne_eq,Bk,eH,bt,p1,p2,bM,IE h3 hx hy d,ex,ey];exact WC
 | [],_::_,_,h,_,_=>by simp [sO] at h
 | _::_,[],_,h,_,_=>by simp [sO] at h
theorem WD(d){e:TypeId}{l:Lk}(hl:sN P e l=true)(hc:P.cellsOf e=1)(a b:List Kx):∀ (m n),dG (List.replicate m l) (a.drop n)=true->dG (List.replicate m l) (b.drop n)=true ->
 (Op.eqItems (d+1) e (P.cellsOf e) (a.map Kx.val).toArray (b.map Kx.val).toArray (List.range' n m)).run P w = .ok (decide (a.drop n=b.drop n)) w
 | 0,n,ha,hb=>by
  rw [j9 ha,j9 hb];simp [Op.eqItems]
 | m+1,n,ha,hb=>by
  obtain⟨x,r,ex,hx,hr⟩:=lh ha;obtain⟨y,s,ey,hy,hs⟩:=lh hb;obtain⟨gx,dx⟩:=drop_cons ex;obtain⟨gy,dy⟩:=drop_cons ey;have p1:(part e (a.map Kx.val).toArray (n*P.cellsOf e)).run P w = .ok x.val w:=run_part_plain w (BN hl) (BO (by rw [hc,nP]; exact gx));have p2:(part e (b.map Kx.val).toArray (n*P.cellsOf e)).run P w = .ok y.val w:=run_part_plain w (BN hl) (BO (by rw [hc,nP]; exact gy));have ih:=WD d hl hc a b m (n+1) (by rw [dx]; exact hr) (by rw [dy]; exact hs);rw [Nn];simp only [Op.eqItems,bt,p1,p2,bM,IE hl hx hy d,ex,ey];exact WC
theorem WE(em)(d)(a:List Kx):∀ (fs) (ls) (n),sO P n fs ls=true->dG ls (a.drop n)=true ->
 (forIn fs PUnit.unit fun f _ => (if f.name ≠ "_" then do
  let v <- part f.type (a.map Kx.val).toArray f.offset
  Instr.checkKey em (d+1) f.type v
  pure (ForInStep.yield PUnit.unit)
  else pure (ForInStep.yield PUnit.unit):Sem (ForInStep PUnit))).run P w = .ok PUnit.unit w
 | [],[],n,_,ha=>by simp
 | f::fs,l::ls,n,h,ha=>by
  simp only [sO,au,b9,Nz,ne_eq] at h;obtain⟨⟨⟨h1,h2⟩,h3⟩,h4⟩:=h;obtain⟨x,r,ex,hx,hr⟩:=lh ha;obtain⟨gx,dx⟩:=drop_cons ex;have p1:(part f.type (a.map Kx.val).toArray f.offset).run P w = .ok x.val w:=run_part_plain w (BN h3) (BO (by rw [h1]; exact gx));have ih:=WE em d a fs ls (n+1) h4 (by rw [dx]; exact hr);simp only [List.forIn_cons,h2,ne_eq,Bk,eH,bt,p1,bM,On h3 hx em d,bU];exact ih
 | [],_::_,_,h,_=>by simp [sO] at h
 | _::_,[],_,h,_=>by simp [sO] at h
theorem IF{c:Kc}{a:List Kx}(h:uu P kt c=true)(ha:dG c.ls a=true)(em):(Instr.checkKey em 10000 kt (c.val a)).run P w = .ok () w:=by
 cases c with
 | one l =>
  obtain⟨x,r,rfl,hx,hr⟩:=lh ha;cases j9 hr;exact On h hx em 9999
 | arr n l =>
  obtain⟨e,i,hu,hl,hi,hc⟩:=Ol h;show (Instr.checkKey em (9999+1) kt (.agg (a.map Kx.val).toArray)).run P w = .ok () w
  rw [Instr.checkKey];simp only [bt,ql hu,bM];simp only [Std.Legacy.Range.forIn_eq_forIn_range',Std.Legacy.Range.size,rC,Nat.add_one_sub_one,vL];have H:∀ (m k:Nat),dG (List.replicate m l) (a.drop k)=true->(forIn (List.range' k m) PUnit.unit fun j _=>(do
   let sz <- sizeOf e
   let v <- part e (a.map Kx.val).toArray (j*sz)
   Instr.checkKey em 9999 e v
   pure (ForInStep.yield PUnit.unit):Sem (ForInStep PUnit))).run P w = .ok PUnit.unit w:=by
   intro m
   induction m with
   | zero=>intro k _; simp
   | succ m ih =>
    intro k hk;obtain⟨x,r,ex,hx,hr⟩:=lh hk;obtain⟨gx,dx⟩:=drop_cons ex;have p1:(part e (a.map Kx.val).toArray (k*P.cellsOf e)).run P w = .ok x.val w:=run_part_plain w (BN hl) (BO (by rw [hc,nP]; exact gx));rw [Nn];simp only [List.forIn_cons,bt,run_sizeOf w hi,bM,p1,On hl hx em 9998,bU];exact ih (k+1) (by rw [dx]; exact hr)
  rw [H n 0 IG];rfl
 | st ls =>
  obtain⟨fs,hu,hf,hst⟩:=Om h;show (Instr.checkKey em (9999+1) kt (.agg (a.map Kx.val).toArray)).run P w = .ok () w
  rw [Instr.checkKey];simp only [bt,ql hu,bM];rw [<- Array.forIn_toList];rw [WE em 9998 a fs.toList ls 0 hf IG];rfl
theorem aiW{c:Kc}{a b:List Kx}(h:uu P kt c=true)(ha:dG c.ls a=true)(hb:dG c.ls b=true):(Op.equal kt (c.val a) (c.val b)).run P w = .ok (decide (a=b)) w:=by
 cases c with
 | one l =>
  obtain⟨x,r,rfl,hx,hr⟩:=lh ha;cases j9 hr;obtain⟨y,s,rfl,hy,hs⟩:=lh hb;cases j9 hs;refine (IE h hx hy 9999).trans ?_;simp
 | arr n l =>
  obtain⟨e,i,hu,hl,hi,hc⟩:=Ol h;refine (run_equalIn_array w 9999 _ _ hu hi).trans ?_;rw [List.range_eq_range'];exact WD 9998 hl hc a b n 0 IG (by simpa [Kc.ls] using hb)
 | st ls =>
  obtain⟨fs,hu,hf,hst⟩:=Om h;have iw:P.fieldsOf kt=fs:=by simp [Program.fieldsOf,hu]
  refine (run_equalIn_struct w 9999 kt _ _ (by rw [iw]; exact hu) hst).trans ?_;rw [iw];exact WB 9998 a b fs.toList ls 0 hf IG (by simpa [Kc.ls] using hb)
theorem WG{x y:Kx}(h:x.val=y.val):x=y:=by cases x<;>cases y<;>simp_all [Kx.val]
theorem key_inj{c:Kc}{a b:List Kx}(ha:dG c.ls a=true)(hb:dG c.ls b=true)(h:c.val a=c.val b):a=b:=by
 have hm:∀ {a b:List Kx},a.map Kx.val=b.map Kx.val->a=b:=by
  intro a
  induction a with
  | nil=>intro b h; cases b with
   | nil=>rfl
   | cons y b=>simp at h
  | cons x a ih =>
   intro b h
   cases b with
   | nil=>simp at h
   | cons y b =>
    simp only [kX,sB] at h;rw [WG h.1,ih h.2]
 cases c with
 | one l =>
  obtain⟨x,r,rfl,hx,hr⟩:=lh ha;cases j9 hr;obtain⟨y,s,rfl,hy,hs⟩:=lh hb;cases j9 hs;rw [WG h]
 | arr n l =>
  simp only [Kc.val,Value.agg.injEq] at h;exact hm (Nm h)
 | st ls =>
  simp only [Kc.val,Value.agg.injEq] at h;exact hm (Nm h)
theorem WH(x:Kx)(n):Instr.sameBits n x.val x.val=true:=by
 have hb:∀ y:ByteArray,(y==y)=true:=fun y=>(bytes_beq y y).2 rfl;cases x<;>cases n<;>simp [Kx.val,Instr.sameBits,hb]
theorem WI{c:Kc}{a:List Kx}(ha:dG c.ls a=true):(Instr.keyThatStays (c.val a) (c.val a)).run P w = .ok (c.val a) w:=by
 have hb:Instr.sameBits (9999+1) (c.val a) (c.val a)=true:=by
  have hg:Instr.sameBits (9999+1) (.agg (a.map Kx.val).toArray) (.agg (a.map Kx.val).toArray)=true:=by
   simp only [Instr.sameBits,BEq.rfl,dL,dK];intro p hp;obtain⟨i,hi⟩:=List.getElem?_of_mem hp;simp only [List.getElem?_zip_eq_some] at hi;obtain⟨h1,h2⟩:=hi;rw [h1] at h2;injection h2 with h2;have hm:=gX h1;simp only [iq] at hm;obtain⟨x,_,hx⟩:=hm;obtain⟨p1,p2⟩:=p;simp only at h2 hx ⊢;subst h2; subst hx;exact WH x 9999
  cases c with
  | one l =>
   obtain⟨x,r,rfl,hx,hr⟩:=lh ha;cases j9 hr;exact WH x _
  | arr n l=>exact hg
  | st ls=>exact hg
 unfold Instr.keyThatStays;rw [aw hb];rfl
def gE(c:Kc)(v:Value)(a:List Kx):Prop:=v=c.val a/\dG c.ls a=true
theorem aiX{c:Kc}{a:List Kx}(h:uu P kt c=true)(ha:dG c.ls a=true)(es)(lS:∀ e∈es,∃ b,gE c e.key b) :
 ((Instr.findKey kt (c.val a) es).run P w = .ok none w/\∀ e∈es,¬ gE c e.key a) \/
 ∃ j e,(Instr.findKey kt (c.val a) es).run P w = .ok (some (j,e.val)) w/\es[j]? = some e/\gE c e.key a:=by
 have ask:∀ (es:List MapEntry) (i:Nat),(∀ e∈es,∃ b,gE c e.key b)->((Instr.findAsking kt (c.val a) es i).run P w = .ok none w/\∀ e∈es,¬ gE c e.key a) \/
  ∃ j e,(Instr.findAsking kt (c.val a) es i).run P w = .ok (some (i+j,e.val)) w/\es[j]? = some e/\gE c e.key a:=by
  intro es
  induction es with
  | nil=>intro i _; exact .inl ⟨by simp [Instr.findAsking],by simp⟩
  | cons e es ih =>
   intro i lS;obtain⟨b,hb,qw⟩:=lS e (by simp);have hr:=aiW (w:=w) h ha qw;by_cases bm:a=b
   . subst bm;refine .inr ⟨0,e,?_,rfl,hb,qw⟩;simp only [Instr.findAsking,bt,hb,hr,bM,qm,eH,bU,kY]
   . have aT:¬ gE c e.key a:=fun h2=>bm (key_inj ha qw (h2.1.symm.trans hb));have lq:decide (a=b)=false:=by simp [bm]
     rcases ih (i+1) (fun y hy=>lS y (by simp [hy])) with ⟨h1,h2⟩|⟨j,e',h1,h2,h3⟩
     . refine .inl ⟨?_,fun y hy => ?_⟩
       . simp only [Instr.findAsking,bt,hb,hr,bM,lq,dS,dB,h1]
       . rcases fZ.1 hy with rfl|hy
         . exact aT
         . exact h2 y hy
     . refine .inr ⟨j+1,e',?_,by simpa using h2,h3⟩;simp only [Instr.findAsking,bt,hb,hr,bM,lq,dS,dB,h1];rw [rA,VD 1 j]
 have hu:∃ d,P.underlying kt=some d:=by
  cases c with
  | one l=>exact⟨_,Ee h⟩
  | arr n l=>obtain⟨e,i,hu,_⟩:=Ol h; exact⟨_,hu⟩
  | st ls=>obtain⟨fs,hu,_⟩:=Om h; exact⟨_,hu⟩
 obtain⟨d,hd⟩:=hu;have hs:∀ b,dG c.ls b=true->Instr.sameNow d (c.val a) (c.val b)=none\/Instr.sameNow d (c.val a) (c.val b)=some (decide (a=b)):=by
  intro b hb
  cases c with
  | one l =>
   obtain⟨x,r,rfl,hx,hr⟩:=lh ha;cases j9 hr;obtain⟨y,s,rfl,hy,hs⟩:=lh hb;cases j9 hs;right;have:=Ee (P:=P) (e:=kt) (l:=l) h;rw [hd] at this;cases this;cases l<;>cases x<;>simp only [Lk.fits,dS,aI] at hx<;>cases y<;>simp only [Lk.fits,dS,aI] at hy
   . subst hx; subst hy;simp only [Lk.desc,Kc.val,Kx.val,Instr.sameNow,eH,bI];rw [sD];simp
   . simp only [Lk.desc,Kc.val,Kx.val,Instr.sameNow,bI];rw [sD];simp
   . simp only [Lk.desc,Kc.val,Kx.val,Instr.sameNow,bI];rw [sD,bytes_beq];simp
  | arr n l=>left; simp only [Kc.val]; unfold Instr.sameNow; split<;>simp_all
  | st ls=>left; simp only [Kc.val]; unfold Instr.sameNow; split<;>simp_all
 have now:∀ (es:List MapEntry) (i:Nat),(∀ e∈es,∃ b,gE c e.key b)->Instr.findNow d (c.val a) es i=none\/(Instr.findNow d (c.val a) es i=some none/\∀ e∈es,¬ gE c e.key a) \/
  ∃ j e,Instr.findNow d (c.val a) es i=some (some (i+j,e.val))/\es[j]? = some e/\gE c e.key a:=by
  intro es
  induction es with
  | nil=>intro i _; exact .inr (.inl ⟨rfl,by simp⟩)
  | cons e es ih =>
   intro i lS;obtain⟨b,hb,qw⟩:=lS e (by simp);rcases hs b qw with h1|h1
   . left;simp only [Instr.findNow,hb,h1]
   . by_cases bm:a=b
     . subst bm;refine .inr (.inr ⟨0,e,?_,rfl,hb,qw⟩);simp only [Instr.findNow,hb,h1,qm,kY]
     . have aT:¬ gE c e.key a:=fun h2=>bm (key_inj ha qw (h2.1.symm.trans hb));have lq:decide (a=b)=false:=by simp [bm]
       rw [lq] at h1;rcases ih (i+1) (fun y hy=>lS y (by simp [hy])) with h2|⟨h2,h3⟩|⟨j,e',h2,h3,h4⟩
       . left;simp only [Instr.findNow,hb,h1,h2]
       . refine .inr (.inl ⟨?_,fun y hy => ?_⟩)
         . simp only [Instr.findNow,hb,h1,h2]
         . rcases fZ.1 hy with rfl|hy
           . exact aT
           . exact h3 y hy
       . refine .inr (.inr ⟨j+1,e',?_,by simpa using h3,h4⟩);simp only [Instr.findNow,hb,h1,h2];rw [rA,VD 1 j]
 unfold Instr.findKey;simp only [bt,ql hd,bM];rcases now es 0 lS with h1|⟨h1,h2⟩|⟨j,e,h1,h2,h3⟩
 . rw [h1];rcases ask es 0 lS with h2|⟨j,e,h2,h3,h4⟩
   . exact .inl h2
   . exact .inr ⟨j,e,by rw [hZ] at h2; exact h2,h3,h4⟩
 . rw [h1];exact .inl ⟨rfl,h2⟩
 . rw [h1];exact .inr ⟨j,e,by rw [hZ]; rfl,h2,h3⟩
end
open Go.RowKit
inductive AV where
 | un
 | int (k:IntKind) (n:Unit->Int)
 | lit (k:IntKind) (n:Int)
 | bool (b:Unit->Bool)
 | aG (b:Bool)
 | str (s:Unit->ByteArray)
 | nil
 | sl (fr:Bool) (t:Tc) (l:Unit->List t.el)
 | wide (fr:Bool) (t:Tc) (l:Unit->List t.el) (n:Unit->Nat)
 | bg (cells:List AV) (off:Nat)
 | ptr (loc off:Nat)
 | fw (loc off n:Nat)
 | own (loc:Nat)
 | cY (t:Tc) (loc:Nat) (k:Unit->Int) (off:Nat)
 | cE (t:Tc) (loc:Nat) (a b:Unit->Nat)
 | mp (loc:Nat)
 | bq (loc:Nat)
 | it (loc l2:Nat)
 | agg (cells:List AV)
 | aU (l:List AV)
 | fn (f:FuncId) (dw:List AV)
 | fJ (l:Unit->Nat)
inductive Rl where
 | box (b:Nat)
 | row (A:Option Addr) (n c:Nat)
 | mp (b:Nat)
 | bq (s:Nat)
 | it (b:Nat)
def Rl.ca:Rl->Option Nat
 | .box b=>some b
 | .row A _ _=>A.map (·.block)
 | .mp b=>some b
 | .bq _=>none
 | .it b=>some b
def Rl.dC:Rl->Bool
 | .row _ _ _=>false
 | _=>true
-- Oo
def aO(fr:Bool):(t:Tc)->(Unit->t.el)->List AV
 | .int,x => [.int .i64 x]
 | .u8,x => [.int .u8 x]
 | .u32,x => [.int .u32 x]
 | .box,x => [.int .i64 (fun _=>(x ()).id),.str (fun _=>(x ()).num),.int .u8 (fun _=>(x ()).size),.bool (fun _=>(x ()).high),.int .i64 (fun _=>(x ()).af),.int .i64 (fun _=>(x ()).load),.int .i64 (fun _=>(x ()).kz),.int .u8 (fun _=>(x ()).cls),.bool (fun _=>(x ()).vU)]
 | .aq,x => [.int .i64 (fun _=>(x ()).box),.int .i64 (fun _=>(x ()).ax),.int .i64 (fun _=>(x ()).aF),.int .u8 (fun _=>(x ()).half)]
 | .slot,x => [.int .i64 (fun _=>(x ()).ax),.int .i64 (fun _=>(x ()).aF),.int .u8 (fun _=>(x ()).half)]
 | .ld,x => [.int .i64 (fun _=>(x ()).af),.int .i64 (fun _=>(x ()).x),.int .i64 (fun _=>(x ()).y),.int .i64 (fun _=>(x ()).z)]
 | .pE,x => [.int .i64 (fun _=>(x ()).n),.int .i64 (fun _=>(x ()).low),.int .i64 (fun _=>(x ()).high)]
 | .ax,x => [.int .i64 (fun _=>(x ()).cV),.int .i64 (fun _=>(x ()).row),.bool (fun _=>(x ()).fv),.int .i64 (fun _=>(x ()).cW),.int .i64 (fun _=>(x ()).mq),.int .i64 (fun _=>(x ()).xG),.int .i64 (fun _=>(x ()).xH),.int .i64 (fun _=>(x ()).xI),.sl fr .int (fun _=>(x ()).fS),.int .i64 (fun _=>(x ()).x),.int .i64 (fun _=>(x ()).y),.int .i64 (fun _=>(x ()).z)]
 | .e9,x => [.int .i64 (fun _=>(x ()).cV),.sl fr .int (fun _=>(x ()).rows)]
 | .mid,x => [.int .i64 (fun _=>(x ()).box.id),.str (fun _=>(x ()).box.num),.int .u8 (fun _=>(x ()).box.size),.bool (fun _=>(x ()).box.high),.int .i64 (fun _=>(x ()).box.af),.int .i64 (fun _=>(x ()).box.load),.int .i64 (fun _=>(x ()).box.kz),.int .u8 (fun _=>(x ()).box.cls),.bool (fun _=>(x ()).box.vU),.int .i64 (fun _=>(x ()).x),.int .i64 (fun _=>(x ()).y),.int .i64 (fun _=>(x ()).h)]
 | .bE,x => [.int .i64 (fun _=>(x ()).nW),.int .i64 (fun _=>(x ()).af),.int .i64 (fun _=>(x ()).mr),.int .i64 (fun _=>(x ()).mc),.int .i64 (fun _=>(x ()).jE)]
 | .sM,x => [.int .i64 (fun _=>(x ()).x),.int .i64 (fun _=>(x ()).lf),.int .i64 (fun _=>(x ()).share),.int .i64 (fun _=>(x ()).lP),.int .i64 (fun _=>(x ()).lQ)]
 | .bD,x => [.int .i64 (fun _=>(x ()).af),.int .i64 (fun _=>(x ()).x),.int .i64 (fun _=>(x ()).y),.int .i64 (fun _=>(x ()).z),.int .i64 (fun _=>(x ()).sL),.sl fr .int (fun _=>(x ()).steps)]
 | .xK,x => [.int .i64 (fun _=>(x ()).cV),.int .i64 (fun _=>(x ()).row),.bool (fun _=>(x ()).fv),.int .i64 (fun _=>(x ()).cW),.int .i64 (fun _=>(x ()).mq),.int .i64 (fun _=>(x ()).xG),.int .i64 (fun _=>(x ()).xH),.int .i64 (fun _=>(x ()).xI),.wide fr .int (fun _=>(x ()).fS) (fun _=>(x ()).Wj),.int .i64 (fun _=>(x ()).x),.int .i64 (fun _=>(x ()).y),.int .i64 (fun _=>(x ()).z)]
 | .xL,x => [.int .i64 (fun _=>(x ()).cV),.wide fr .int (fun _=>(x ()).rows) (fun _=>(x ()).Wl)]
 | .xM,x => [.int .i64 (fun _=>(x ()).af),.int .i64 (fun _=>(x ()).x),.int .i64 (fun _=>(x ()).y),.int .i64 (fun _=>(x ()).z),.int .i64 (fun _=>(x ()).sL),.wide fr .int (fun _=>(x ()).steps) (fun _=>(x ()).Wn)]
 | .fc,x => [.int .u8 (fun _=>(x ()).cV),.int .u8 (fun _=>(x ()).row),.int .u8 (fun _=>(x ()).cW),.bool (fun _=>(x ()).fv)]
 | .fO,x => [.int .u8 (fun _=>(x ()).ax),.int .u8 (fun _=>(x ()).af),.bool (fun _=>(x ()).small),.bool (fun _=>(x ()).high)]
 | .BH,x => [.int .u16 (fun _=>(x ()).af),.int .i16 (fun _=>(x ()).x),.int .i16 (fun _=>(x ()).y),.int .i16 (fun _=>(x ()).z)]
 | .wx,x => [.int .i64 (fun _=>(x ()).x),.int .i64 (fun _=>(x ()).af)]
 | .BI,x => [.int .i64 (fun _=>(x ()).a0),.int .i64 (fun _=>(x ()).a1),.int .i64 (fun _=>(x ()).a2),.int .i64 (fun _=>(x ()).a3),.int .i64 (fun _=>(x ()).a4),.int .i64 (fun _=>(x ()).a5)]
 | .iu,x => [.bool (fun _=>(x ()).neg),.int .u32 (fun _=>(x ()).n0),.int .u32 (fun _=>(x ()).n1),.int .u32 (fun _=>(x ()).n2),.int .u32 (fun _=>(x ()).n3),.int .u32 (fun _=>(x ()).n4),.int .u32 (fun _=>(x ()).n5),.int .u32 (fun _=>(x ()).n6),.int .u32 (fun _=>(x ()).n7),.int .u32 (fun _=>(x ()).d0),.int .u32 (fun _=>(x ()).d1),.int .u32 (fun _=>(x ()).d2),.int .u32 (fun _=>(x ()).d3),.int .u32 (fun _=>(x ()).d4),.int .u32 (fun _=>(x ()).d5),.int .u32 (fun _=>(x ()).d6),.int .u32 (fun _=>(x ()).d7)]
 | .eJ,x => [.bool (fun _=>(x ()).lP.neg),.int .u32 (fun _=>(x ()).lP.n0),.int .u32 (fun _=>(x ()).lP.n1),.int .u32 (fun _=>(x ()).lP.n2),.int .u32 (fun _=>(x ()).lP.n3),.int .u32 (fun _=>(x ()).lP.n4),.int .u32 (fun _=>(x ()).lP.n5),.int .u32 (fun _=>(x ()).lP.n6),.int .u32 (fun _=>(x ()).lP.n7),.int .u32 (fun _=>(x ()).lP.d0),.int .u32 (fun _=>(x ()).lP.d1),.int .u32 (fun _=>(x ()).lP.d2),.int .u32 (fun _=>(x ()).lP.d3),.int .u32 (fun _=>(x ()).lP.d4),.int .u32 (fun _=>(x ()).lP.d5),.int .u32 (fun _=>(x ()).lP.d6),.int .u32 (fun _=>(x ()).lP.d7),.bool (fun _=>(x ()).lQ.neg),.int .u32 (fun _=>(x ()).lQ.n0),.int .u32 (fun _=>(x ()).lQ.n1),.int .u32 (fun _=>(x ()).lQ.n2),.int .u32 (fun _=>(x ()).lQ.n3),.int .u32 (fun _=>(x ()).lQ.n4),.int .u32 (fun _=>(x ()).lQ.n5),.int .u32 (fun _=>(x ()).lQ.n6),.int .u32 (fun _=>(x ()).lQ.n7),.int .u32 (fun _=>(x ()).lQ.d0),.int .u32 (fun _=>(x ()).lQ.d1),.int .u32 (fun _=>(x ()).lQ.d2),.int .u32 (fun _=>(x ()).lQ.d3),.int .u32 (fun _=>(x ()).lQ.d4),.int .u32 (fun _=>(x ()).lQ.d5),.int .u32 (fun _=>(x ()).lQ.d6),.int .u32 (fun _=>(x ()).lQ.d7)]
 | .ij,x => [.int .u8 (fun _=>(x ()).af),.int .u8 (fun _=>(x ()).steps),.int .i16 (fun _=>(x ()).x),.int .i16 (fun _=>(x ()).y),.int .i16 (fun _=>(x ()).z),.int .u16 (fun _=>(x ()).xJ)]
 | .BJ,x => [.int .u16 (fun _=>(x ()).step),.int .u16 (fun _=>(x ()).lf),.int .u16 (fun _=>(x ()).at_),.int .u16 (fun _=>(x ()).af),.int .u8 (fun _=>(x ()).share)]
theorem Oq(fr:Bool)(t:Tc)(x:Unit->t.el):(aO fr t x).length=t.size:=by cases t<;>rfl
def Ef:(t t2:Tc)->Option (t.el->t2.el)
 | .xK,.ax=>some fun x=>⟨x.cV,x.row,x.fv,x.cW,x.mq,x.xG,x.xH,x.xI,x.fS.take x.Wj,x.x,x.y,x.z⟩
 | .xL,.e9=>some fun x=>⟨x.cV,x.rows.take x.Wl⟩
 | .xM,.bD=>some fun x=>⟨x.af,x.x,x.y,x.z,x.sL,x.steps.take x.Wn⟩
 | _,_=>none
-- END Oo
def eD(ag fr:Bool)(t:Tc)(x:Unit->t.el):AV:=if ag then .agg (aO fr t x) else match aO fr t x with
 | [c]=>c
 | _ => .un
inductive ah (w:World) (ρ:Nat->Option Rl) (base:Nat) (ro:Nat->Prop):AV->Value->Prop
 | un (v):ah w ρ base ro .un v
 | int (k n):ah w ρ base ro (.int k n) (.int k (n ()))
 | lit (k n):ah w ρ base ro (.lit k n) (.int k n)
 | bool (b):ah w ρ base ro (.bool b) (.bool (b ()))
 | aG (b):ah w ρ base ro (.aG b) (.bool b)
 | str (s):ah w ρ base ro (.str s) (.string (s ()))
 | nil:ah w ρ base ro .nil (.slice none 0 0)
 | sl (fr t l A c) (css:List (List Value)) (hl:css.length=(l ()).length) (hc:css.length<=c) (hr:Rd w w.heap.size t.size A css) (bB:∀ a,A=some a->css ≠ []->ro a.block) (cK:fr=true->∀ a,A=some a->css ≠ []->base<=a.block)
  (h:∀ (k:Nat) (cs:List Value) (j:Nat) (x:AV) (v:Value),css[k]? = some cs->(aO fr t fun _=>(l ()).getD k t.aa)[j]? = some x->cs[j]? = some v->ah w ρ base ro x v):ah w ρ base ro (.sl fr t l) (.slice A (l ()).length c)
 | wide (fr t l n A c) (hn:n ()<=(l ()).length) (h:ah w ρ base ro (.sl fr t l) (.slice A (l ()).length c)):ah w ρ base ro (.wide fr t l n) (.slice A (n ()) c)
 | bg (cells:List AV) (off b o) (cs:List Value) (bB:ro b) (aj:b<w.heap.size) (hl:cells.length=cs.length) (hc:∀ (j:Nat) u,cs[j]? = some u->w.cell? ⟨b,o+j,none⟩=some u) (h:∀ (j:Nat) x v,cells[j]? = some x->cs[j]? = some v->ah w ρ base ro x v):ah w ρ base ro (.bg cells off) (.pointer (some ⟨b,o+off,none⟩))
 | ptr (loc off b) (h : ρ loc=some (.box b)):ah w ρ base ro (.ptr loc off) (.pointer (some ⟨b,off,none⟩))
 | fw (loc off n b) (h : ρ loc=some (.box b)):ah w ρ base ro (.fw loc off n) (.slice (some ⟨b,off,none⟩) n n)
 | own (loc A n c) (h : ρ loc=some (.row A n c)):ah w ρ base ro (.own loc) (.slice A n c)
 | cY (t loc k off A) (n:Nat) (c b) (h : ρ loc=some (.row A n c)) (hA:A=some ⟨b,0,none⟩) (h0:0<=k ()) (hn:k ()<(n:Int)):ah w ρ base ro (.cY t loc k off) (.pointer (some ⟨b,(k ()).toNat*t.size+off,none⟩))
 | cE (t loc a b A) (n c:Nat) (h : ρ loc=some (.row A n c)) (bm:a ()<=b ()/\b ()<=n):ah w ρ base ro (.cE t loc a b) (sliced A (a ()) (b ()) c t.size)
 | mp (loc b) (h : ρ loc=some (.mp b)):ah w ρ base ro (.mp loc) (.map (some b))
 | bq (loc s) (h : ρ loc=some (.bq s)):ah w ρ base ro (.bq loc) (goInt s)
 | it (loc l2 b) (h : ρ l2=some (.it b)):ah w ρ base ro (.it loc l2) (.pointer (some ⟨b,0,none⟩))
 | agg (l:List AV) (vs:List Value) (hl:l.length=vs.length) (h:∀ (j:Nat) x v,l[j]? = some x->vs[j]? = some v->ah w ρ base ro x v):ah w ρ base ro (.agg l) (.agg vs.toArray)
 | aU (l:List AV) (vs:List Value) (hl:l.length=vs.length) (h:∀ (j:Nat) x v,l[j]? = some x->vs[j]? = some v->ah w ρ base ro x v):ah w ρ base ro (.aU l) (.tuple vs.toArray)
 | fn (f) (dw:List AV) (vs:List Value) (hl:dw.length=vs.length) (h:∀ (j:Nat) x v,dw[j]? = some x->vs[j]? = some v->ah w ρ base ro x v):ah w ρ base ro (.fn f dw) (.func (.func f) #[] vs.toArray)
 | fJ (l):ah w ρ base ro (.fJ l) (.func (.yield (l ())) #[] #[])
def aQ(w:World)(ρ:Nat->Option Rl)(base:Nat)(ro:Nat->Prop)(l:List AV)(vs:List Value):Prop:=l.length=vs.length/\∀ (j:Nat) x v,l[j]? = some x->vs[j]? = some v->ah w ρ base ro x v
section
variable{w w':World}{ρ ρ':Nat->Option Rl}{base kc:Nat}{ro ro':Nat->Prop}
theorem aQ.nil:aQ w ρ base ro [] []:=⟨rfl,fun j x v h=>by simp at h⟩
theorem aQ.cons{x:AV}{v:Value}{l:List AV}(h:ah w ρ base ro x v)(hs:aQ w ρ base ro l vs):aQ w ρ base ro (x::l) (v::vs):=by
 refine⟨by simp [hs.1],fun j y u hy hu => ?_⟩
 cases j with
 | zero =>
  simp only [oH,bI] at hy hu;subst hy; subst hu;exact h
 | succ j=>exact hs.2 j y u zF (by simpa using hu)
theorem aQ.head{x:AV}{l:List AV}(h:aQ w ρ base ro (x::l) vs):∃ v us,vs=v::us/\ah w ρ base ro x v/\aQ w ρ base ro l us:=by
 cases vs with
 | nil=>exact absurd h.1 (by simp)
 | cons v us=>exact⟨v,us,rfl,h.2 0 x v rfl rfl,by simpa using h.1,fun j y u hy hu=>h.2 (j+1) y u zF (by simpa using hu)⟩
theorem aQ.none(h:aQ w ρ base ro [] vs):vs = []:=by
 cases vs with
 | nil=>rfl
 | cons v us=>exact absurd h.1 (by simp)
theorem aQ.get{l:List AV}(h:aQ w ρ base ro l vs){x:AV}(hx:l[j]? = some x):∃ v,vs[j]? = some v/\ah w ρ base ro x v:=by
 have hj:=(cM.1 hx).1;exact⟨vs[j]'(by rw [<- h.1]; exact hj),bp _,h.2 j x _ hx (bp _)⟩
def Ext(ρ ρ':Nat->Option Rl):Prop:=∀ loc r,ρ loc=some r -> ρ' loc=some r
theorem Ext.refl(ρ):Ext ρ ρ:=fun _ _ h=>h
theorem ah.mono{x:AV}{v:Value}(h:ah w ρ base ro x v)(hw:∀ b,ro b->b<w.heap.size->w'.heap[b]? = w.heap[b]?)(hρ:Ext ρ ρ')(hb:kc<=base)(bB:∀ b,ro b->ro' b):ah w' ρ' kc ro' x v:=by
 induction h with
 | un=>exact .un _
 | fJ=>exact .fJ _
 | int=>exact .int _ _
 | lit=>exact .lit _ _
 | bool=>exact .bool _
 | aG=>exact .aG _
 | str=>exact .str _
 | nil=>exact .nil
 | sl fr t l A c css hl hc hr lr cK h ih =>
  refine .sl fr t l A c css hl hc ?_ (fun a ha hn=>bB _ (lr a ha hn)) (fun hf a ha hn=>e8 hb (cK hf a ha hn)) ih;by_cases hn:css = []
  . subst hn;exact Rd.nil _ _ _ _
  . exact Rd.jA hr fun a ha=>hw _ (lr a ha hn) (Rd.bound hr hn a ha)
 | wide fr t l n A c hn h ih=>exact .wide fr t l n A c hn ih
 | bg cells off b o cs hr aj hl hc h ih =>
  have uv:=hw b hr aj;refine .bg cells off b o cs (bB _ hr) ?_ hl (fun j u hu => ?_) ih
  . rcases cw b w'.heap.size with h2|h2
    . exact h2
    . rw [DC h2,pA aj] at uv;cases uv
  . rw [IC uv];exact hc j u hu
 | ptr loc off b h=>exact .ptr _ _ _ (hρ _ _ h)
 | fw loc off n b h=>exact .fw _ _ _ _ (hρ _ _ h)
 | own loc A n c h=>exact .own _ _ _ _ (hρ _ _ h)
 | cY t loc k off A n c b h hA h0 hn=>exact .cY _ _ _ _ _ _ _ _ (hρ _ _ h) hA h0 hn
 | cE t loc a b A n c h bm=>exact .cE _ _ _ _ _ _ _ (hρ _ _ h) bm
 | mp loc b h=>exact .mp _ _ (hρ _ _ h)
 | bq loc s h=>exact .bq _ _ (hρ _ _ h)
 | it loc l2 b h=>exact .it _ _ _ (hρ _ _ h)
 | agg l vs hl h ih=>exact .agg _ _ hl ih
 | aU l vs hl h ih=>exact .aU _ _ hl ih
 | fn f dw vs hl h ih=>exact .fn _ _ _ hl ih
theorem aQ.mono{l:List AV}(h:aQ w ρ base ro l vs)(hw:∀ b,ro b->b<w.heap.size->w'.heap[b]? = w.heap[b]?)(hρ:Ext ρ ρ')(hb:kc<=base)(bB:∀ b,ro b->ro' b):aQ w' ρ' kc ro' l vs :=
 ⟨h.1,fun j x v hx hv=>(h.2 j x v hx hv).mono hw hρ hb bB⟩
/- xP a tree names -/
mutual
def AV.has(loc:Nat):AV->Bool
 | .own l=>l==loc
 | .cY _ l _ _=>l==loc
 | .cE _ l _ _=>l==loc
 | .bg cs _=>AV.lu loc cs
 | .agg cs=>AV.lu loc cs
 | .aU cs=>AV.lu loc cs
 | .fn _ cs=>AV.lu loc cs
 | _=>false
def AV.lu(loc:Nat):List AV->Bool
 | []=>false
 | x::l=>AV.has loc x||AV.lu loc l
end
/- no place of zG axe own,and xP is in it is new if 'axf is asked -/
mutual
def AV.plain(fresh:Bool):AV->Bool
 | .own _=>false
 | .cY _ _ _ _=>false
 | .cE _ _ _ _=>false
 | .ptr _ _=>false
 | .fw _ _ _=>false
 | .mp _=>false
 | .bq _=>false
 | .it _ _=>false
 | .bg cs _ => !fresh&&AV.dO fresh cs
 | .agg cs=>AV.dO fresh cs
 | .aU cs=>AV.dO fresh cs
 | .fn _ cs=>AV.dO fresh cs
 | .sl fr _ _=>fr || !fresh
 | .wide fr _ _ _=>fr || !fresh
 | _=>true
def AV.dO(fresh:Bool):List AV->Bool
 | []=>true
 | x::l=>AV.plain fresh x&&AV.dO fresh l
end
theorem mv{loc:Nat}:∀ {l:List AV} {j:Nat} {x:AV},AV.lu loc l=false->l[j]? = some x->AV.has loc x=false
 | y::l,0,x,h,hx=>by
  simp only [oH,bI] at hx;subst hx;simp only [AV.lu,jZ] at h;exact h.1
 | y::l,j+1,x,h,hx=>by
  simp only [AV.lu,jZ] at h;exact mv h.2 (by simpa using hx)
 | [],j,x,_,hx=>by simp at hx
theorem vY{fresh:Bool}:∀ {l:List AV} {j:Nat} {x:AV},AV.dO fresh l=true->l[j]? = some x->AV.plain fresh x=true
 | y::l,0,x,h,hx=>by
  simp only [oH,bI] at hx;subst hx;simp only [AV.dO,au] at h;exact h.1
 | y::l,j+1,x,h,hx=>by
  simp only [AV.dO,au] at h;exact vY h.2 (by simpa using hx)
 | [],j,x,_,hx=>by simp at hx
theorem vZ(fr)(t)(x)(loc):AV.lu loc (aO fr t x)=false:=by cases t<;>rfl
theorem aiZ(t)(x)(fresh):AV.dO fresh (aO true t x)=true:=by cases t<;>cases fresh<;>rfl
theorem Eg(fr)(t)(x):AV.dO false (aO fr t x)=true:=by cases t<;>cases fr<;>rfl
theorem ah.move{x:AV}{v:Value}{loc:Nat}(h:ah w ρ base ro x v)(hx:AV.has loc x=false)(hρ:∀ l r,ρ l=some r->l≠loc\/r.dC=true -> ρ' l=some r):ah w ρ' base ro x v:=by
 induction h with
 | un=>exact .un _
 | fJ=>exact .fJ _
 | int=>exact .int _ _
 | lit=>exact .lit _ _
 | bool=>exact .bool _
 | aG=>exact .aG _
 | str=>exact .str _
 | nil=>exact .nil
 | sl fr t l A c css hl hc hr lr cK h ih =>
  exact .sl fr t l A c css hl hc hr lr cK fun k cs j y v h1 h2 h3=>ih k cs j y v h1 h2 h3 (mv (vZ _ _ _ _) h2)
 | wide fr t l n A c hn h ih=>exact .wide fr t l n A c hn (ih rfl)
 | bg cells off b o cs hr aj hl hc h ih =>
  exact .bg cells off b o cs hr aj hl hc fun j y v h1 h2=>ih j y v h1 h2 (mv IH h1)
 | ptr l off b h=>exact .ptr _ _ _ (hρ _ _ h (.inr rfl))
 | fw l off n b h=>exact .fw _ _ _ _ (hρ _ _ h (.inr rfl))
 | mp l b h=>exact .mp _ _ (hρ _ _ h (.inr rfl))
 | bq l s h=>exact .bq _ _ (hρ _ _ h (.inr rfl))
 | it l l2 b h=>exact .it _ _ _ (hρ _ _ h (.inr rfl))
 | own l A n c h =>
  have h1:l≠loc:=by simpa [AV.has] using hx
  exact .own _ _ _ _ (hρ _ _ h (.inl h1))
 | cY t l k off A n c b h hA h0 hn =>
  have h1:l≠loc:=by simpa [AV.has] using hx
  exact .cY _ _ _ _ _ _ _ _ (hρ _ _ h (.inl h1)) hA h0 hn
 | cE t l a b A n c h bm =>
  have h1:l≠loc:=by simpa [AV.has] using hx
  exact .cE _ _ _ _ _ _ _ (hρ _ _ h (.inl h1)) bm
 | agg l vs hl h ih=>exact .agg _ _ hl fun j y v h1 h2=>ih j y v h1 h2 (mv IH h1)
 | aU l vs hl h ih=>exact .aU _ _ hl fun j y v h1 h2=>ih j y v h1 h2 (mv IH h1)
 | fn f dw vs hl h ih=>exact .fn _ _ _ hl fun j y v h1 h2=>ih j y v h1 h2 (mv IH h1)
theorem ah.plain{x:AV}{v:Value}{fresh:Bool}(h:ah w ρ base ro x v)(hx:AV.plain fresh x=true)(bB:∀ b,(fresh=true->base<=b)->ro b->ro' b):ah w ρ' base ro' x v:=by
 induction h with
 | un=>exact .un _
 | fJ=>exact .fJ _
 | int=>exact .int _ _
 | lit=>exact .lit _ _
 | bool=>exact .bool _
 | aG=>exact .aG _
 | str=>exact .str _
 | nil=>exact .nil
 | sl fr t l A c css hl hc hr lr cK h ih =>
  have BP:fresh=true->fr=true:=by
   intro hf;simpa [AV.plain,hf] using hx
  refine .sl fr t l A c css hl hc hr (fun a ha hn=>bB _ (fun hf=>cK (BP hf) a ha hn) (lr a ha hn)) cK fun k cs j y v h1 h2 h3=>ih k cs j y v h1 h2 h3 (vY ?_ h2)
  cases fresh with
  | true=>rw [BP rfl]; exact aiZ _ _ _
  | false=>exact Eg _ _ _
 | wide fr t l n A c hn h ih=>exact .wide fr t l n A c hn (ih II)
 | bg cells off b o cs hr aj hl hc h ih =>
  simp only [AV.plain,au,iG] at hx;exact .bg cells off b o cs (bB _ (by rw [hx.1]; simp) hr) aj hl hc fun j y v h1 h2=>ih j y v h1 h2 (vY hx.2 h1)
 | ptr l off b h=>simp [AV.plain] at hx
 | fw l off n b h=>simp [AV.plain] at hx
 | own l A n c h=>simp [AV.plain] at hx
 | cY t l k off A n c b h hA h0 hn=>simp [AV.plain] at hx
 | cE t l a b A n c h bm=>simp [AV.plain] at hx
 | mp l b h=>simp [AV.plain] at hx
 | bq l s h=>simp [AV.plain] at hx
 | it l l2 b h=>simp [AV.plain] at hx
 | agg l vs hl h ih=>exact .agg _ _ hl fun j y v h1 h2=>ih j y v h1 h2 (vY II h1)
 | aU l vs hl h ih=>exact .aU _ _ hl fun j y v h1 h2=>ih j y v h1 h2 (vY II h1)
 | fn f dw vs hl h ih=>exact .fn _ _ _ hl fun j y v h1 h2=>ih j y v h1 h2 (vY II h1)
end
open Go.MapKept
def gF(P:Program)(T:TypeId):Bool:=match P.underlying T with
 | some (.struct _)=>true
 | some (.array _ _)=>true
 | _=>false
def BQ(a:Bool)(xs:List Kx):Value:=match a,xs with
 | false,[x]=>x.val
 | _,xs => .agg (xs.map Kx.val).toArray
def IJ(P:Program)(g:TypeId->List Lk->Bool):List Field->Nat->List Lk->Bool
 | [],_,ls=>ls.isEmpty
 | f :: fs, o, ls => f.offset == o && f.name != "_" && (P.underlying f.type).isSome && match P.info? f.type with
  | some i=>(decide (i.size<=ls.length)&&decide (0<i.size))&&(gF P f.type||i.size==1)&&g f.type (ls.take i.size)&&IJ P g fs (o+i.size) (ls.drop i.size)
  | none=>false
def IK(g:List Lk->Bool)(s:Nat):Nat->List Lk->Bool
 | 0,ls=>ls.isEmpty
 | n+1,ls=>(decide (s<=ls.length)&&decide (0<s))&&g (ls.take s)&&IK g s n (ls.drop s)
def Eh(P:Program):Nat->TypeId->List Lk->Bool
 | 0,_,_=>false
 | k+1,T,ls=>match P.underlying T with
  | some (.struct fs) => !P.stoodInHeld T&&IJ P (Eh P k) fs.toList 0 ls
  | some (.array n e)=>(P.underlying e).isSome&&match P.info? e with
   | some i=>P.cellsOf e==i.size&&(gF P e||i.size==1)&&IK (Eh P k e) i.size n ls
   | none=>false
  | some _=>(match ls with
   | [l]=>sN P T l
   | _=>false)
  | none=>false
section
variable{P:Program}{w:World}
theorem Ei:∀ {ls:List Lk} {xs:List Kx},dG ls xs=true->xs.length=ls.length
 | [],xs,h=>by rw [j9 h]; rfl
 | l::ls,xs,h=>by
  obtain⟨x,r,rfl,_,hr⟩:=lh h;simp [Ei hr]
theorem Ej:∀ {ls:List Lk} {xs:List Kx} (n),dG ls xs=true->dG (ls.take n) (xs.take n)=true/\dG (ls.drop n) (xs.drop n)=true
 | [],xs,n,h=>by rw [j9 h]; simp [dG]
 | l::ls,xs,0,h=>by simp only [DJ,zr]; exact⟨rfl,h⟩
 | l::ls,xs,n+1,h=>by
  obtain⟨x,r,rfl,hx,hr⟩:=lh h;simp only [Nb,List.drop_succ_cons];obtain⟨h1,h2⟩:=Ej n hr;exact⟨by simp only [dG,hx,h1,zs],h2⟩
theorem ai0{o s:Nat}(ha:∃ j,P.info? T=some j/\j.size=s)(hd:∃ ds,P.underlying T=some ds)(hlen:gF P T=true->o+s<=vs.length){v:Value}(hv:gF P T=false->vs[o]? = some v)(rM:gF P T=true->v = .agg ((vs.drop o).take s).toArray):(part T vs.toArray o).run P w = .ok v w:=by
 exact WJ
theorem IL{o s:Nat}{a:List Kx}{i:TypeInfo}(hi:P.info? T=some i)(hs:i.size=s)(hd:(P.underlying T).isSome=true)(h1:(gF P T||s==1)=true)(hl:o+s<=a.length):(part T (a.map Kx.val).toArray o).run P w = .ok (BQ (gF P T) ((a.drop o).take s)) w:=by
 refine ai0 ⟨i,hi,hs⟩ (Vk.1 hd) (fun _=>by simpa using hl) (fun hb => ?_) fun hb => ?_
 . rw [hb,rB,b9] at h1;subst h1;have h2:(a.drop o).take 1 = [a[o]]:=by
    rw [vD oo];rfl
   rw [h2,hb];show (a.map Kx.val)[o]? = some a[o].val
   rw [gY,bp oo];rfl
 . rw [hb];unfold BQ;simp [List.map_drop,Nt]
def Ot(P:Program)(d:Nat)(a:Bool)(T:TypeId)(ls:List Lk):Prop:=∀ (w) (xs ys),dG ls xs=true->dG ls ys=true->(Op.equalIn d T (BQ a xs) (BQ a ys)).run P w = .ok (decide (xs=ys)) w
theorem WK{α:Type}[DecidableEq α](a b:List α)(s):decide (a=b)=(decide (a.take s=b.take s)&&decide (a.drop s=b.drop s)):=by
 rw [sD];simp only [au,aI];constructor
 . rintro rfl; exact⟨rfl,rfl⟩
 . rintro⟨h1,h2⟩
   rw [<- jg s a,h1,h2,jg]
theorem WL{g:TypeId->List Lk->Bool}{d:Nat}(hg:∀ T ls,g T ls=true->Ot P d (gF P T) T ls)(a b:List Kx):∀ (fs) (o) (ls),IJ P g fs o ls=true->dG ls (a.drop o)=true->dG ls (b.drop o)=true ->
 (Op.eqFields d (a.map Kx.val).toArray (b.map Kx.val).toArray fs).run P w = .ok (decide (a.drop o=b.drop o)) w
 | [],o,ls,h,ha,hb=>by
  have hl:ls = []:=Bl.1 h;subst hl;rw [j9 ha,j9 hb];simp [Op.eqFields]
 | f::fs,o,ls,h,ha,hb=>by
  simp only [IJ,au,b9,Nz,ne_eq] at h;obtain⟨⟨⟨h1,h2⟩,IM⟩,h3⟩:=h
  cases hi:P.info? f.type with
  | none=>rw [hi] at h3; cases h3
  | some i =>
   rw [hi] at h3;simp only [au,aI] at h3;obtain⟨⟨⟨⟨hs,h0⟩,xQ⟩,BR⟩,rN⟩:=h3;have la:=Ei ha;have lb:=Ei hb;rw [iH] at la lb;obtain⟨ta,da⟩:=Ej i.size ha;obtain⟨tb,db⟩:=Ej i.size hb;rw [tX] at da db;have p1:=IL (w:=w) hi rfl IM xQ (o:=o) (a:=a) oo;have p2:=IL (w:=w) hi rfl IM xQ (o:=o) (a:=b) oo;have ih:=WL hg a b fs (o+i.size) _ rN da db;have he:=hg _ _ BR w _ _ ta tb;simp only [Op.eqFields,h2,ne_eq,Bk,eH,bt,h1,p1,p2,bM,he];rw [WK (a.drop o) (b.drop o) i.size,tX,tX]
   cases hd:decide ((a.drop o).take i.size=(b.drop o).take i.size) with
   | true=>simp only [gA,dS,dB,ih,dL]
   | false=>simp
theorem WM{g:List Lk->Bool}{d s:Nat}{e:TypeId}{i:TypeInfo}(hi:P.info? e=some i)(hs:i.size=s)(hd:(P.underlying e).isSome=true)(xQ:(gF P e||s==1)=true)(hg:∀ ls,g ls=true->Ot P d (gF P e) e ls)(a b:List Kx):∀ (n o) (ls),IK g s n ls=true->dG ls (a.drop (o*s))=true->dG ls (b.drop (o*s))=true ->
 (Op.eqItems d e s (a.map Kx.val).toArray (b.map Kx.val).toArray (List.range' o n)).run P w = .ok (decide (a.drop (o*s)=b.drop (o*s))) w
 | 0,o,ls,h,ha,hb=>by
  have hl:ls = []:=Bl.1 h;subst hl;rw [j9 ha,j9 hb];simp [Op.eqItems]
 | n+1,o,ls,h,ha,hb=>by
  simp only [IK,au,aI] at h;obtain⟨⟨⟨BS,h0⟩,BR⟩,rN⟩:=h;have la:=Ei ha;have lb:=Ei hb;rw [iH] at la lb;obtain⟨ta,da⟩:=Ej s ha;obtain⟨tb,db⟩:=Ej s hb;rw [tX,show o*s+s=(o+1)*s by rw [Bp]] at da db;have p1:=IL (w:=w) hi hs hd xQ (o:=o*s) (a:=a) oo;have p2:=IL (w:=w) hi hs hd xQ (o:=o*s) (a:=b) oo;have ih:=WM hi hs hd xQ hg a b n (o+1) _ rN da db;have he:=hg _ BR w _ _ ta tb;rw [Nn];simp only [Op.eqItems,bt,p1,p2,bM,he];rw [WK (a.drop (o*s)) (b.drop (o*s)) s,tX,tX,show o*s+s=(o+1)*s by rw [Bp]]
  cases hd:decide ((a.drop (o*s)).take s=(b.drop (o*s)).take s) with
  | true=>simp only [gA,dS,dB,ih,dL]
  | false=>simp
theorem Ou:∀ (k d),k<=d->∀ T ls,Eh P k T ls=true->Ot P d (gF P T) T ls
 | 0,d,_,T,ls,h=>by cases h
 | k+1,0,hd,T,ls,h=>oo
 | k+1,d+1,hd,T,ls,h=>by
  intro w xs ys hx hy;unfold Eh at h;split at h
  . rename_i fs hu;simp only [au,iG] at h;have oQ:gF P T=true:=by unfold gF; rw [hu]
    rw [oQ];have iw:P.fieldsOf T=fs:=by simp [Program.fieldsOf,hu]
    have e1:∀ l:List Kx,BQ true l = .agg (l.map Kx.val).toArray:=fun l=>rfl;rw [e1,e1];refine (run_equalIn_struct w d T _ _ (by rw [iw]; exact hu) h.1).trans ?_;rw [iw];exact WL (fun T ls h=>Ou k d oo T ls h) xs ys fs.toList 0 ls h.2 (by simpa using hx) zF
  . rename_i n e hu;simp only [au] at h;obtain⟨IM,h⟩:=h;have oQ:gF P T=true:=by unfold gF; rw [hu]
    rw [oQ]
    cases hi:P.info? e with
    | none=>rw [hi] at h; cases h
    | some i =>
     rw [hi] at h;simp only [au,b9] at h;obtain⟨⟨hc,xQ⟩,Ov⟩:=h;have e1:∀ l:List Kx,BQ true l = .agg (l.map Kx.val).toArray:=fun l=>rfl;rw [e1,e1];refine (run_equalIn_array w d _ _ hu hi).trans ?_;rw [List.range_eq_range',hc];have:=WM (w:=w) (d:=d) hi rfl IM xQ (fun ls h=>Ou k d oo e ls h) xs ys n 0 ls Ov (by simpa using hx) zF;simpa using this
  . rename_i ds jG lT hu;split at h
    . rename_i l;obtain⟨x,r,rfl,D7,hr⟩:=lh hx;cases j9 hr;obtain⟨y,s,rfl,D5,hs⟩:=lh hy;cases j9 hs;have oQ:gF P T=false:=by
       unfold gF;rw [hu];cases ds<;>first|rfl|exact absurd rfl (jG _)|exact absurd rfl (lT _ _)
      rw [oQ];refine (IE h D7 D5 d).trans ?_;simp
    . cases h
  . cases h
end
open Go.RowKit
theorem Ek:ur Tryz.prog 3=true:=by kernel_rfl
theorem ct5:ur Tryz.prog 5=true:=by kernel_rfl
section
variable{P:Program}{ρ:Operand->Value}{d:Option Nat}{ty:TypeId}{pos:String}{aft:Array Edge}{gd:Option (Nat×Bool)}{v:Value}{w:World}
theorem ai2{e n sz k b o:Nat}(hx : ρ x = .pointer (some ⟨b,o,none⟩))(hy : ρ y = .int kk (k:Int))(ht:P.underlying T=some (.array n e))(hi:(P.info? e).map (·.size)=some sz)(hk:(k:Int)<(n:Int))(hv:v = .pointer (some ⟨b,o+k*sz,none⟩)):(execOp ρ ⟨d,.indexAddr T x y,ty,pos,aft,gd⟩).run P w = .ok (.value v) w:=by
 subst hv
 cases he:P.info? e with
 | none=>rw [he] at hi; cases hi
 | some i =>
  rw [he] at hi;simp only [dv,bI] at hi;have h3:0<=(k:Int)/\(k:Int)<(n:Int):=⟨oo,hk⟩
  unfold execOp;simp only [hx,hy,Instr.indexAt,asIntOf,Instr.sureAddr,underlying,bt,bU,bM,ht,m5];simp only [h3,DP,eH,sizeOf,typeInfo,bt,bU,bM,m5,he,hi,dV,Ed]
theorem WN{k:IntKind}{n:Int}{t:TypeId}(hx : ρ x = .int k m)(hy : ρ y = .int k n)(hn:n≠0)(hz:m.tmod n=z)(hv:v = .int k z):(execOp ρ ⟨d,.binOp .rem t x y t',ty,pos,aft,gd⟩).run P w = .ok (.value v) w:=by
 exact WO
theorem WQ{k:IntKind}{n:Int}{t:TypeId}(hx : ρ x = .int k m)(hy : ρ y = .int k n)(hn:n≠0)(hz:k.wrap (m.tdiv n)=z)(hv:v = .int k z):(execOp ρ ⟨d,.binOp .quo t x y t',ty,pos,aft,gd⟩).run P w = .ok (.value v) w:=by
 exact WO
theorem BT{k:IntKind}{s t:Nat}{ds:TypeDesc}(hx : ρ x = .int k m)(hs:P.underlying s=some ds)(ht:P.underlying t=some (.int k'))(hz:k'.wrap m=z)(hv:v = .int k' z):(execOp ρ ⟨d,.convert s t x,ty,pos,aft,gd⟩).run P w = .ok (.value v) w:=by
 subst hv hz;unfold execOp;simp only [hx,convert,underlying,bt,bU,bM,m5,hs,ht,Conv.intToInt]
end
end Go.Proofs.YtlpikgchnjajmaaGreat
