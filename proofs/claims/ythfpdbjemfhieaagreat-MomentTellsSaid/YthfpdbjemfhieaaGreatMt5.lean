/-
  Keys of maps: flat ones (a number, a text, an array or a struct of numbers and bools); they are found by what they hold.
-/
import Derived.Test.YthfpdbjemfhieaaGreatMt4
import Derived.Maps.Keyed
import Derived.Maps.RangeRun
set_option linter.unusedVariables false
set_option linter.unusedSimpArgs false
namespace Go.Proofs.YthfpdbjemfhieaaGreat
open Go.MapKept
inductive Kx where
 | i (k:IntKind) (n:Int)
 | f (p:Bool)
 | s (x:ByteArray)
deriving DecidableEq
def Kx.val:Kx->Value
 | .i k n => .int k n
 | .f p => .bool p
 | .s x => .string x
inductive Lk where
 | int (k:IntKind)|bool|str
deriving DecidableEq
def Lk.desc:Lk->TypeDesc
 | .int k => .int k
 | .bool => .bool
 | .str => .string
def Lk.fits:Lk->Kx->Bool
 | .int k,.i k' _=>decide (k=k')
 | .bool,.f _=>true
 | .str,.s _=>true
 | _,_=>false
def fitsL:List Lk->List Kx->Bool
 | [],[]=>true
 | l::ls,x::xs=>l.fits x&&fitsL ls xs
 | _,_=>false
inductive Kc where
 | one (l:Lk)
 | arr (n:Nat) (l:Lk)
 | st (ls:List Lk)
deriving DecidableEq
def Kc.ls:Kc->List Lk
 | .one l => [l]
 | .arr n l=>List.replicate n l
 | .st ls=>ls
def Kc.val (c:Kc) (l:List Kx):Value:=match c,l with
 | .one _,[x]=>x.val
 | _,l => .agg (l.map Kx.val).toArray
def leafB (P:Program) (e:TypeId) (l:Lk):Bool:=match P.underlying e,l with
 | some (.int k),.int k'=>decide (k=k')
 | some .bool,.bool=>true
 | some .string,.str=>true
 | _,_=>false
def kfB (P:Program):Nat->List Field->List Lk->Bool
 | _,[],[]=>true
 | n, f :: fs, l :: ls => f.offset == n && f.name != "_" && leafB P f.type l && kfB P (n + 1) fs ls
 | _,_,_=>false
def kcB (P:Program) (kt:TypeId):Kc->Bool
 | .one l=>leafB P kt l
 | .arr n l=>match P.underlying kt with
  | some (.array n' e)=>n==n'&&leafB P e l&&(match P.info? e with|some i=>i.size==1&&P.cellsOf e==1|none=>false)
  | _=>false
 | .st ls=>match P.underlying kt with
  | some (.struct fs)=>kfB P 0 fs.toList ls && !P.stoodInHeld kt
  | _=>false
section
variable {P:Program} {w:World}
theorem kc_arr {kt:TypeId} {n:Nat} {l:Lk} (h:kcB P kt (.arr n l)=true):∃ e i,P.underlying kt=some (.array n e)/\leafB P e l=true/\P.info? e=some i/\P.cellsOf e=1:=by
 simp only [kcB] at h;split at h
 . rename_i n' e hu;simp only [Bool.and_eq_true,beq_iff_eq] at h;obtain⟨⟨rfl,hl⟩,h⟩:=h;split at h
   . rename_i i hi;simp only [Bool.and_eq_true,beq_iff_eq] at h;exact⟨e,i,hu,hl,hi,h.2⟩
   . cases h
 . cases h
theorem kc_st {kt:TypeId} {ls:List Lk} (h:kcB P kt (.st ls)=true):∃ fs,P.underlying kt=some (.struct fs)/\kfB P 0 fs.toList ls=true/\P.stoodInHeld kt=false:=by
 simp only [kcB] at h;split at h
 . rename_i fs hu;simp only [Bool.and_eq_true,Bool.not_eq_true'] at h;exact⟨fs,hu,h⟩
 . cases h
theorem leaf_desc {e:TypeId} {l:Lk} (h:leafB P e l=true):P.underlying e=some l.desc:=by
 unfold leafB at h;split at h<;>simp_all [Lk.desc]
theorem leaf_plain {e:TypeId} {l:Lk} (h:leafB P e l=true):P.plainKey e=true:=by
 have:=leaf_desc h;unfold Program.plainKey;rw [this];cases l<;>rfl
theorem leaf_eq {e:TypeId} {l:Lk} {x y:Kx} (h:leafB P e l=true) (hx:l.fits x=true) (hy:l.fits y=true) (d:Nat):(Op.equalIn (d+1) e x.val y.val).run P w = .ok (decide (x=y)) w:=by
 have hd:=leaf_desc h;cases l<;>cases x<;>simp only [Lk.fits,Bool.false_eq_true,decide_eq_true_eq] at hx<;>cases y<;>simp only [Lk.fits,Bool.false_eq_true,decide_eq_true_eq] at hy
 . rename_i k _ m _ n;subst hx; subst hy;show (Op.equalIn (d+1) e (.int _ m) (.int _ n)).run P w=_
   rw [run_equalIn_int w d e _ _ m n hd];congr 1;rw [Bool.eq_iff_iff];simp
 . rename_i a b;show (Op.equalIn (d+1) e (.bool a) (.bool b)).run P w=_
   rw [run_equalIn_bool' w d e a b hd];congr 1;rw [Bool.eq_iff_iff];simp
 . rename_i a b;show (Op.equalIn (d+1) e (.string a) (.string b)).run P w=_
   rw [run_equalIn_string w d e a b hd];congr 1;rw [<- beq_toListBytes,Bool.eq_iff_iff,bytes_beq];simp
theorem leaf_check {e:TypeId} {l:Lk} {x:Kx} (h:leafB P e l=true) (hx:l.fits x=true) (em:Bool) (n:Nat):(Instr.checkKey em (n+1) e x.val).run P w = .ok () w:=by
 have hd:=leaf_desc h;cases l<;>cases x<;>simp only [Lk.fits,Bool.false_eq_true,decide_eq_true_eq] at hx<;>simp [Instr.checkKey,run_underlying hd,Lk.desc,Kx.val]
theorem getL {l:List Kx} {n:Nat} {x:Kx} (h:l[n]? = some x):(l.map Kx.val).toArray[n]? = some x.val:=by simp [h]
theorem drop_cons {l:List Kx} {n:Nat} {x:Kx} {r:List Kx} (h:l.drop n=x::r):l[n]? = some x/\l.drop (n+1)=r:=by
 refine⟨?_,?_⟩
 . have:=congrArg (·[0]?) h;simpa using this
 . have:=congrArg (List.drop 1) h;simpa [List.drop_drop,Nat.add_comm] using this
theorem fitsL_cons {l:Lk} {ls:List Lk} {xs:List Kx} (h:fitsL (l::ls) xs=true):∃ x r,xs=x::r/\l.fits x=true/\fitsL ls r=true:=by
 cases xs with
 | nil=>simp [fitsL] at h
 | cons x r =>
  simp only [fitsL,Bool.and_eq_true] at h;exact⟨x,r,rfl,h⟩
theorem fitsL_nil {xs:List Kx} (h:fitsL [] xs=true):xs = []:=by
 cases xs with
 | nil=>rfl
 | cons x r=>simp [fitsL] at h
theorem eq_fields (d:Nat) (a b:List Kx):∀ (fs:List Field) (ls:List Lk) (n:Nat),kfB P n fs ls=true->fitsL ls (a.drop n)=true->fitsL ls (b.drop n)=true ->
 (Op.eqFields (d+1) (a.map Kx.val).toArray (b.map Kx.val).toArray fs).run P w = .ok (decide (a.drop n=b.drop n)) w
 | [],[],n,_,ha,hb=>by
  rw [fitsL_nil ha,fitsL_nil hb];simp [Op.eqFields]
 | f::fs,l::ls,n,h,ha,hb=>by
  simp only [kfB,Bool.and_eq_true,beq_iff_eq,bne_iff_ne,ne_eq] at h;obtain⟨⟨⟨h1,h2⟩,h3⟩,h4⟩:=h;obtain⟨x,r,ex,hx,hr⟩:=fitsL_cons ha;obtain⟨y,s,ey,hy,hs⟩:=fitsL_cons hb;obtain⟨gx,dx⟩:=drop_cons ex;obtain⟨gy,dy⟩:=drop_cons ey;have p1:(part f.type (a.map Kx.val).toArray f.offset).run P w = .ok x.val w:=run_part_plain w (leaf_plain h3) (getL (by rw [h1]; exact gx));have p2:(part f.type (b.map Kx.val).toArray f.offset).run P w = .ok y.val w:=run_part_plain w (leaf_plain h3) (getL (by rw [h1]; exact gy));have ih:=eq_fields d a b fs ls (n+1) h4 (by rw [dx]; exact hr) (by rw [dy]; exact hs);simp only [Op.eqFields,h2,ne_eq,not_false_eq_true,if_true,Sem.run_bind,p1,p2,Result.andThen_ok,leaf_eq h3 hx hy d,ex,ey];rw [dx,dy] at ih;by_cases hxy:x=y
  . subst hxy;simp only [decide_true,Bool.not_true,Bool.false_eq_true,if_false,ih,List.cons.injEq,true_and]
  . simp [hxy]
 | [],_::_,_,h,_,_=>by simp [kfB] at h
 | _::_,[],_,h,_,_=>by simp [kfB] at h
theorem eq_items (d:Nat) {e:TypeId} {l:Lk} (hl:leafB P e l=true) (hc:P.cellsOf e=1) (a b:List Kx):∀ (m n:Nat),fitsL (List.replicate m l) (a.drop n)=true->fitsL (List.replicate m l) (b.drop n)=true ->
 (Op.eqItems (d+1) e (P.cellsOf e) (a.map Kx.val).toArray (b.map Kx.val).toArray (List.range' n m)).run P w = .ok (decide (a.drop n=b.drop n)) w
 | 0,n,ha,hb=>by
  rw [fitsL_nil ha,fitsL_nil hb];simp [Op.eqItems]
 | m+1,n,ha,hb=>by
  obtain⟨x,r,ex,hx,hr⟩:=fitsL_cons ha;obtain⟨y,s,ey,hy,hs⟩:=fitsL_cons hb;obtain⟨gx,dx⟩:=drop_cons ex;obtain⟨gy,dy⟩:=drop_cons ey;have p1:(part e (a.map Kx.val).toArray (n*P.cellsOf e)).run P w = .ok x.val w:=run_part_plain w (leaf_plain hl) (getL (by rw [hc,Nat.mul_one]; exact gx));have p2:(part e (b.map Kx.val).toArray (n*P.cellsOf e)).run P w = .ok y.val w:=run_part_plain w (leaf_plain hl) (getL (by rw [hc,Nat.mul_one]; exact gy));have ih:=eq_items d hl hc a b m (n+1) (by rw [dx]; exact hr) (by rw [dy]; exact hs);rw [List.range'_succ];simp only [Op.eqItems,Sem.run_bind,p1,p2,Result.andThen_ok,leaf_eq hl hx hy d,ex,ey];rw [dx,dy] at ih;by_cases hxy:x=y
  . subst hxy;simp only [decide_true,Bool.not_true,Bool.false_eq_true,if_false,ih,List.cons.injEq,true_and]
  . simp [hxy]
theorem check_fields (em:Bool) (d:Nat) (a:List Kx):∀ (fs:List Field) (ls:List Lk) (n:Nat),kfB P n fs ls=true->fitsL ls (a.drop n)=true ->
 (forIn fs PUnit.unit fun f _ => (if f.name ≠ "_" then do
  let v <- part f.type (a.map Kx.val).toArray f.offset
  Instr.checkKey em (d+1) f.type v
  pure (ForInStep.yield PUnit.unit)
  else pure (ForInStep.yield PUnit.unit):Sem (ForInStep PUnit))).run P w = .ok PUnit.unit w
 | [],[],n,_,ha=>by simp
 | f::fs,l::ls,n,h,ha=>by
  simp only [kfB,Bool.and_eq_true,beq_iff_eq,bne_iff_ne,ne_eq] at h;obtain⟨⟨⟨h1,h2⟩,h3⟩,h4⟩:=h;obtain⟨x,r,ex,hx,hr⟩:=fitsL_cons ha;obtain⟨gx,dx⟩:=drop_cons ex;have p1:(part f.type (a.map Kx.val).toArray f.offset).run P w = .ok x.val w:=run_part_plain w (leaf_plain h3) (getL (by rw [h1]; exact gx));have ih:=check_fields em d a fs ls (n+1) h4 (by rw [dx]; exact hr);simp only [List.forIn_cons,h2,ne_eq,not_false_eq_true,if_true,Sem.run_bind,p1,Result.andThen_ok,leaf_check h3 hx em d,Sem.run_pure];exact ih
 | [],_::_,_,h,_=>by simp [kfB] at h
 | _::_,[],_,h,_=>by simp [kfB] at h
theorem key_check {kt:TypeId} {c:Kc} {a:List Kx} (h:kcB P kt c=true) (ha:fitsL c.ls a=true) (em:Bool):(Instr.checkKey em 10000 kt (c.val a)).run P w = .ok () w:=by
 cases c with
 | one l =>
  obtain⟨x,r,rfl,hx,hr⟩:=fitsL_cons ha;cases fitsL_nil hr;exact leaf_check h hx em 9999
 | arr n l =>
  obtain⟨e,i,hu,hl,hi,hc⟩:=kc_arr h;show (Instr.checkKey em (9999+1) kt (.agg (a.map Kx.val).toArray)).run P w = .ok () w
  rw [Instr.checkKey];simp only [Sem.run_bind,run_underlying hu,Result.andThen_ok];simp only [Std.Legacy.Range.forIn_eq_forIn_range',Std.Legacy.Range.size,Nat.sub_zero,Nat.add_one_sub_one,Nat.div_one];have H:∀ (m k:Nat),fitsL (List.replicate m l) (a.drop k)=true->(forIn (List.range' k m) PUnit.unit fun j _=>(do
   let sz <- sizeOf e
   let v <- part e (a.map Kx.val).toArray (j*sz)
   Instr.checkKey em 9999 e v
   pure (ForInStep.yield PUnit.unit):Sem (ForInStep PUnit))).run P w = .ok PUnit.unit w:=by
   intro m
   induction m with
   | zero=>intro k _; simp
   | succ m ih =>
    intro k hk;obtain⟨x,r,ex,hx,hr⟩:=fitsL_cons hk;obtain⟨gx,dx⟩:=drop_cons ex;have p1:(part e (a.map Kx.val).toArray (k*P.cellsOf e)).run P w = .ok x.val w:=run_part_plain w (leaf_plain hl) (getL (by rw [hc,Nat.mul_one]; exact gx));rw [List.range'_succ];simp only [List.forIn_cons,Sem.run_bind,run_sizeOf w hi,Result.andThen_ok,p1,leaf_check hl hx em 9998,Sem.run_pure];exact ih (k+1) (by rw [dx]; exact hr)
  rw [H n 0 (by simpa [Kc.ls] using ha)];rfl
 | st ls =>
  obtain⟨fs,hu,hf,hst⟩:=kc_st h;show (Instr.checkKey em (9999+1) kt (.agg (a.map Kx.val).toArray)).run P w = .ok () w
  rw [Instr.checkKey];simp only [Sem.run_bind,run_underlying hu,Result.andThen_ok];rw [<- Array.forIn_toList];rw [check_fields em 9998 a fs.toList ls 0 hf (by simpa [Kc.ls] using ha)];rfl
theorem key_equal {kt:TypeId} {c:Kc} {a b:List Kx} (h:kcB P kt c=true) (ha:fitsL c.ls a=true) (hb:fitsL c.ls b=true):(Op.equal kt (c.val a) (c.val b)).run P w = .ok (decide (a=b)) w:=by
 cases c with
 | one l =>
  obtain⟨x,r,rfl,hx,hr⟩:=fitsL_cons ha;cases fitsL_nil hr;obtain⟨y,s,rfl,hy,hs⟩:=fitsL_cons hb;cases fitsL_nil hs;refine (leaf_eq h hx hy 9999).trans ?_;simp
 | arr n l =>
  obtain⟨e,i,hu,hl,hi,hc⟩:=kc_arr h;refine (run_equalIn_array w 9999 _ _ hu hi).trans ?_;rw [List.range_eq_range'];exact eq_items 9998 hl hc a b n 0 (by simpa [Kc.ls] using ha) (by simpa [Kc.ls] using hb)
 | st ls =>
  obtain⟨fs,hu,hf,hst⟩:=kc_st h;have hfs:P.fieldsOf kt=fs:=by simp [Program.fieldsOf,hu]
  refine (run_equalIn_struct w 9999 kt _ _ (by rw [hfs]; exact hu) hst).trans ?_;rw [hfs];exact eq_fields 9998 a b fs.toList ls 0 hf (by simpa [Kc.ls] using ha) (by simpa [Kc.ls] using hb)
theorem kval_inj {x y:Kx} (h:x.val=y.val):x=y:=by cases x<;>cases y<;>simp_all [Kx.val]
theorem key_inj {c:Kc} {a b:List Kx} (ha:fitsL c.ls a=true) (hb:fitsL c.ls b=true) (h:c.val a=c.val b):a=b:=by
 have hm:∀ {a b:List Kx},a.map Kx.val=b.map Kx.val->a=b:=by
  intro a
  induction a with
  | nil=>intro b h; cases b with
   | nil=>rfl
   | cons y b=>simp at h
  | cons x a ih =>
   intro b h
   cases b with
   | nil=>simp at h
   | cons y b =>
    simp only [List.map_cons,List.cons.injEq] at h;rw [kval_inj h.1,ih h.2]
 cases c with
 | one l =>
  obtain⟨x,r,rfl,hx,hr⟩:=fitsL_cons ha;cases fitsL_nil hr;obtain⟨y,s,rfl,hy,hs⟩:=fitsL_cons hb;cases fitsL_nil hs;rw [kval_inj h]
 | arr n l =>
  simp only [Kc.val,Value.agg.injEq] at h;exact hm (List.toArray_inj h)
 | st ls =>
  simp only [Kc.val,Value.agg.injEq] at h;exact hm (List.toArray_inj h)
theorem bits_self (x:Kx) (n:Nat):Instr.sameBits n x.val x.val=true:=by
 have hb:∀ y:ByteArray,(y==y)=true:=fun y=>(bytes_beq y y).2 rfl;cases x<;>cases n<;>simp [Kx.val,Instr.sameBits,hb]
theorem key_stays {c:Kc} {a:List Kx} (ha:fitsL c.ls a=true):(Instr.keyThatStays (c.val a) (c.val a)).run P w = .ok (c.val a) w:=by
 have hb:Instr.sameBits (9999+1) (c.val a) (c.val a)=true:=by
  have hg:Instr.sameBits (9999+1) (.agg (a.map Kx.val).toArray) (.agg (a.map Kx.val).toArray)=true:=by
   simp only [Instr.sameBits,BEq.rfl,Bool.true_and,List.all_eq_true];intro p hp;obtain⟨i,hi⟩:=List.getElem?_of_mem hp;simp only [List.getElem?_zip_eq_some] at hi;obtain⟨h1,h2⟩:=hi;rw [h1] at h2;injection h2 with h2;have hm:=List.mem_of_getElem? h1;simp only [List.mem_map] at hm;obtain⟨x,_,hx⟩:=hm;obtain⟨p1,p2⟩:=p;simp only at h2 hx ⊢;subst h2; subst hx;exact bits_self x 9999
  cases c with
  | one l =>
   obtain⟨x,r,rfl,hx,hr⟩:=fitsL_cons ha;cases fitsL_nil hr;exact bits_self x _
  | arr n l=>exact hg
  | st ls=>exact hg
 unfold Instr.keyThatStays;rw [if_pos hb];rfl
def keyIs (c:Kc) (v:Value) (a:List Kx):Prop:=v=c.val a/\fitsL c.ls a=true
theorem key_find {kt:TypeId} {c:Kc} {a:List Kx} (h:kcB P kt c=true) (ha:fitsL c.ls a=true) (es:List MapEntry) (hes:∀ e∈es,∃ b,keyIs c e.key b) :
 ((Instr.findKey kt (c.val a) es).run P w = .ok none w/\∀ e∈es,¬ keyIs c e.key a) \/
 ∃ j e,(Instr.findKey kt (c.val a) es).run P w = .ok (some (j,e.val)) w/\es[j]? = some e/\keyIs c e.key a:=by
 have ask:∀ (es:List MapEntry) (i:Nat),(∀ e∈es,∃ b,keyIs c e.key b)->((Instr.findAsking kt (c.val a) es i).run P w = .ok none w/\∀ e∈es,¬ keyIs c e.key a) \/
  ∃ j e,(Instr.findAsking kt (c.val a) es i).run P w = .ok (some (i+j,e.val)) w/\es[j]? = some e/\keyIs c e.key a:=by
  intro es
  induction es with
  | nil=>intro i _; exact .inl ⟨by simp [Instr.findAsking],by simp⟩
  | cons e es ih =>
   intro i hes;obtain⟨b,hb,hfb⟩:=hes e (by simp);have hr:=key_equal (w:=w) h ha hfb;by_cases hab:a=b
   . subst hab;refine .inr ⟨0,e,?_,rfl,hb,hfb⟩;simp only [Instr.findAsking,Sem.run_bind,hb,hr,Result.andThen_ok,decide_true,if_true,Sem.run_pure,Nat.add_zero]
   . have hne:¬ keyIs c e.key a:=fun h2=>hab (key_inj ha hfb (h2.1.symm.trans hb));have hdec:decide (a=b)=false:=by simp [hab]
     rcases ih (i+1) (fun y hy=>hes y (by simp [hy])) with ⟨h1,h2⟩|⟨j,e',h1,h2,h3⟩
     . refine .inl ⟨?_,fun y hy => ?_⟩
       . simp only [Instr.findAsking,Sem.run_bind,hb,hr,Result.andThen_ok,hdec,Bool.false_eq_true,if_false,h1]
       . rcases List.mem_cons.1 hy with rfl|hy
         . exact hne
         . exact h2 y hy
     . refine .inr ⟨j+1,e',?_,by simpa using h2,h3⟩;simp only [Instr.findAsking,Sem.run_bind,hb,hr,Result.andThen_ok,hdec,Bool.false_eq_true,if_false,h1];rw [Nat.add_assoc,Nat.add_comm 1 j]
 have hu:∃ d,P.underlying kt=some d:=by
  cases c with
  | one l=>exact⟨_,leaf_desc h⟩
  | arr n l=>obtain⟨e,i,hu,_⟩:=kc_arr h; exact⟨_,hu⟩
  | st ls=>obtain⟨fs,hu,_⟩:=kc_st h; exact⟨_,hu⟩
 obtain⟨d,hd⟩:=hu;have hs:∀ b,fitsL c.ls b=true->Instr.sameNow d (c.val a) (c.val b)=none\/Instr.sameNow d (c.val a) (c.val b)=some (decide (a=b)):=by
  intro b hb
  cases c with
  | one l =>
   obtain⟨x,r,rfl,hx,hr⟩:=fitsL_cons ha;cases fitsL_nil hr;obtain⟨y,s,rfl,hy,hs⟩:=fitsL_cons hb;cases fitsL_nil hs;right;have:=leaf_desc (P:=P) (e:=kt) (l:=l) h;rw [hd] at this;cases this;cases l<;>cases x<;>simp only [Lk.fits,Bool.false_eq_true,decide_eq_true_eq] at hx<;>cases y<;>simp only [Lk.fits,Bool.false_eq_true,decide_eq_true_eq] at hy
   . subst hx; subst hy;simp only [Lk.desc,Kc.val,Kx.val,Instr.sameNow,if_true,Option.some.injEq];rw [Bool.eq_iff_iff];simp
   . simp only [Lk.desc,Kc.val,Kx.val,Instr.sameNow,Option.some.injEq];rw [Bool.eq_iff_iff];simp
   . simp only [Lk.desc,Kc.val,Kx.val,Instr.sameNow,Option.some.injEq];rw [Bool.eq_iff_iff,bytes_beq];simp
  | arr n l=>left; simp only [Kc.val]; unfold Instr.sameNow; split<;>simp_all
  | st ls=>left; simp only [Kc.val]; unfold Instr.sameNow; split<;>simp_all
 have now:∀ (es:List MapEntry) (i:Nat),(∀ e∈es,∃ b,keyIs c e.key b)->Instr.findNow d (c.val a) es i=none\/(Instr.findNow d (c.val a) es i=some none/\∀ e∈es,¬ keyIs c e.key a) \/
  ∃ j e,Instr.findNow d (c.val a) es i=some (some (i+j,e.val))/\es[j]? = some e/\keyIs c e.key a:=by
  intro es
  induction es with
  | nil=>intro i _; exact .inr (.inl ⟨rfl,by simp⟩)
  | cons e es ih =>
   intro i hes;obtain⟨b,hb,hfb⟩:=hes e (by simp);rcases hs b hfb with h1|h1
   . left;simp only [Instr.findNow,hb,h1]
   . by_cases hab:a=b
     . subst hab;refine .inr (.inr ⟨0,e,?_,rfl,hb,hfb⟩);simp only [Instr.findNow,hb,h1,decide_true,Nat.add_zero]
     . have hne:¬ keyIs c e.key a:=fun h2=>hab (key_inj ha hfb (h2.1.symm.trans hb));have hdec:decide (a=b)=false:=by simp [hab]
       rw [hdec] at h1;rcases ih (i+1) (fun y hy=>hes y (by simp [hy])) with h2|⟨h2,h3⟩|⟨j,e',h2,h3,h4⟩
       . left;simp only [Instr.findNow,hb,h1,h2]
       . refine .inr (.inl ⟨?_,fun y hy => ?_⟩)
         . simp only [Instr.findNow,hb,h1,h2]
         . rcases List.mem_cons.1 hy with rfl|hy
           . exact hne
           . exact h3 y hy
       . refine .inr (.inr ⟨j+1,e',?_,by simpa using h3,h4⟩);simp only [Instr.findNow,hb,h1,h2];rw [Nat.add_assoc,Nat.add_comm 1 j]
 unfold Instr.findKey;simp only [Sem.run_bind,run_underlying hd,Result.andThen_ok];rcases now es 0 hes with h1|⟨h1,h2⟩|⟨j,e,h1,h2,h3⟩
 . rw [h1];rcases ask es 0 hes with h2|⟨j,e,h2,h3,h4⟩
   . exact .inl h2
   . exact .inr ⟨j,e,by rw [Nat.zero_add] at h2; exact h2,h3,h4⟩
 . rw [h1];exact .inl ⟨rfl,h2⟩
 . rw [h1];exact .inr ⟨j,e,by rw [Nat.zero_add]; rfl,h2,h3⟩
end
end Go.Proofs.YthfpdbjemfhieaaGreat
namespace Go.Proofs.YthfpdbjemfhieaaGreat
open Go.RowKit
inductive AV where
 | un
 | int (k:IntKind) (n:Unit->Int)
 | lit (k:IntKind) (n:Int)
 | bool (b:Unit->Bool)
 | blit (b:Bool)
 | str (s:Unit->ByteArray)
 | nil
 | sl (fr:Bool) (t:Tc) (l:Unit->List t.el)
 | wide (fr:Bool) (t:Tc) (l:Unit->List t.el) (n:Unit->Nat)
 | pto (cells:List AV) (off:Nat)
 | ptr (loc off:Nat)
 | own (loc:Nat)
 | orp (t:Tc) (loc:Nat) (k:Unit->Int) (off:Nat)
 | mp (loc:Nat)
 | stamp (loc:Nat)
 | it (loc l2:Nat)
 | agg (cells:List AV)
 | tup (l:List AV)
 | fn (f:FuncId) (caps:List AV)
inductive Rl where
 | box (b:Nat)
 | row (A:Option Addr) (n c:Nat)
 | mp (b:Nat)
 | stamp (s:Nat)
 | it (b:Nat)
def Rl.blk:Rl->Option Nat
 | .box b=>some b
 | .row A _ _=>A.map (·.block)
 | .mp b=>some b
 | .stamp _=>none
 | .it b=>some b
def Rl.solid:Rl->Bool
 | .row _ _ _=>false
 | _=>true
-- CELLS
def cellsAV (fr:Bool):(t:Tc)->(Unit->t.el)->List AV
 | .int,x => [.int .i64 x]
 | .u8,x => [.int .u8 x]
 | .u32,x => [.int .u32 x]
 | .box,x => [.int .i64 (fun _=>(x ()).id),.str (fun _=>(x ()).num),.int .u8 (fun _=>(x ()).size),.bool (fun _=>(x ()).high),.int .i64 (fun _=>(x ()).kilos),.int .i64 (fun _=>(x ()).load),.int .i64 (fun _=>(x ()).dis),.int .u8 (fun _=>(x ()).cls),.bool (fun _=>(x ()).reefer)]
 | .stowed,x => [.int .i64 (fun _=>(x ()).box),.int .i64 (fun _=>(x ()).col),.int .i64 (fun _=>(x ()).tier),.int .u8 (fun _=>(x ()).half)]
 | .slot,x => [.int .i64 (fun _=>(x ()).col),.int .i64 (fun _=>(x ()).tier),.int .u8 (fun _=>(x ()).half)]
 | .ld,x => [.int .i64 (fun _=>(x ()).kilos),.int .i64 (fun _=>(x ()).x),.int .i64 (fun _=>(x ()).y),.int .i64 (fun _=>(x ()).z)]
 | .spn,x => [.int .i64 (fun _=>(x ()).n),.int .i64 (fun _=>(x ()).low),.int .i64 (fun _=>(x ()).high)]
 | .col,x => [.int .i64 (fun _=>(x ()).bay),.int .i64 (fun _=>(x ()).row),.bool (fun _=>(x ()).deck),.int .i64 (fun _=>(x ()).tiers),.int .i64 (fun _=>(x ()).height),.int .i64 (fun _=>(x ()).k20),.int .i64 (fun _=>(x ()).k40),.int .i64 (fun _=>(x ()).lash),.sl fr .int (fun _=>(x ()).plugs),.int .i64 (fun _=>(x ()).x),.int .i64 (fun _=>(x ()).y),.int .i64 (fun _=>(x ()).z)]
 | .cov,x => [.int .i64 (fun _=>(x ()).bay),.sl fr .int (fun _=>(x ()).rows)]
 | .mid,x => [.int .i64 (fun _=>(x ()).box.id),.str (fun _=>(x ()).box.num),.int .u8 (fun _=>(x ()).box.size),.bool (fun _=>(x ()).box.high),.int .i64 (fun _=>(x ()).box.kilos),.int .i64 (fun _=>(x ()).box.load),.int .i64 (fun _=>(x ()).box.dis),.int .u8 (fun _=>(x ()).box.cls),.bool (fun _=>(x ()).box.reefer),.int .i64 (fun _=>(x ()).x),.int .i64 (fun _=>(x ()).y),.int .i64 (fun _=>(x ()).h)]
 | .hrow,x => [.int .i64 (fun _=>(x ()).draught),.int .i64 (fun _=>(x ()).kilos),.int .i64 (fun _=>(x ()).buoy),.int .i64 (fun _=>(x ()).mc),.int .i64 (fun _=>(x ()).turn)]
 | .frm,x => [.int .i64 (fun _=>(x ()).x),.int .i64 (fun _=>(x ()).light),.int .i64 (fun _=>(x ()).share),.int .i64 (fun _=>(x ()).shear),.int .i64 (fun _=>(x ()).bend)]
 | .tnk,x => [.int .i64 (fun _=>(x ()).kilos),.int .i64 (fun _=>(x ()).x),.int .i64 (fun _=>(x ()).y),.int .i64 (fun _=>(x ()).z),.int .i64 (fun _=>(x ()).surface),.sl fr .int (fun _=>(x ()).steps)]
 | .colq,x => [.int .i64 (fun _=>(x ()).bay),.int .i64 (fun _=>(x ()).row),.bool (fun _=>(x ()).deck),.int .i64 (fun _=>(x ()).tiers),.int .i64 (fun _=>(x ()).height),.int .i64 (fun _=>(x ()).k20),.int .i64 (fun _=>(x ()).k40),.int .i64 (fun _=>(x ()).lash),.wide fr .int (fun _=>(x ()).plugs) (fun _=>(x ()).plugsN),.int .i64 (fun _=>(x ()).x),.int .i64 (fun _=>(x ()).y),.int .i64 (fun _=>(x ()).z)]
 | .covq,x => [.int .i64 (fun _=>(x ()).bay),.wide fr .int (fun _=>(x ()).rows) (fun _=>(x ()).rowsN)]
 | .tnkq,x => [.int .i64 (fun _=>(x ()).kilos),.int .i64 (fun _=>(x ()).x),.int .i64 (fun _=>(x ()).y),.int .i64 (fun _=>(x ()).z),.int .i64 (fun _=>(x ()).surface),.wide fr .int (fun _=>(x ()).steps) (fun _=>(x ()).stepsN)]
 | .plc,x => [.int .u8 (fun _=>(x ()).bay),.int .u8 (fun _=>(x ()).row),.int .u8 (fun _=>(x ()).tiers),.bool (fun _=>(x ()).deck)]
 | .drp,x => [.int .u8 (fun _=>(x ()).col),.int .u8 (fun _=>(x ()).kilos),.bool (fun _=>(x ()).small),.bool (fun _=>(x ()).high)]
 | .wgt,x => [.int .u16 (fun _=>(x ()).kilos),.int .i16 (fun _=>(x ()).x),.int .i16 (fun _=>(x ()).y),.int .i16 (fun _=>(x ()).z)]
theorem cellsAV_len (fr:Bool) (t:Tc) (x:Unit->t.el):(cellsAV fr t x).length=t.size:=by cases t<;>rfl
def cvT:(t t2:Tc)->Option (t.el->t2.el)
 | .colq,.col=>some fun x=>⟨x.bay,x.row,x.deck,x.tiers,x.height,x.k20,x.k40,x.lash,x.plugs.take x.plugsN,x.x,x.y,x.z⟩
 | .covq,.cov=>some fun x=>⟨x.bay,x.rows.take x.rowsN⟩
 | .tnkq,.tnk=>some fun x=>⟨x.kilos,x.x,x.y,x.z,x.surface,x.steps.take x.stepsN⟩
 | _,_=>none
-- END CELLS
def elAV (ag fr:Bool) (t:Tc) (x:Unit->t.el):AV:=if ag then .agg (cellsAV fr t x) else match cellsAV fr t x with
 | [c]=>c
 | _ => .un
inductive AVR (w:World) (ρ:Nat->Option Rl) (base:Nat) (ro:Nat->Prop):AV->Value->Prop
 | un (v):AVR w ρ base ro .un v
 | int (k n):AVR w ρ base ro (.int k n) (.int k (n ()))
 | lit (k n):AVR w ρ base ro (.lit k n) (.int k n)
 | bool (b):AVR w ρ base ro (.bool b) (.bool (b ()))
 | blit (b):AVR w ρ base ro (.blit b) (.bool b)
 | str (s):AVR w ρ base ro (.str s) (.string (s ()))
 | nil:AVR w ρ base ro .nil (.slice none 0 0)
 | sl (fr t l A c) (css:List (List Value)) (hl:css.length=(l ()).length) (hc:css.length<=c) (hr:Rd w w.heap.size t.size A css) (hro:∀ a,A=some a->css ≠ []->ro a.block) (hfr:fr=true->∀ a,A=some a->css ≠ []->base<=a.block)
  (h:∀ (k:Nat) (cs:List Value) (j:Nat) (x:AV) (v:Value),css[k]? = some cs->(cellsAV fr t fun _=>(l ()).getD k t.dflt)[j]? = some x->cs[j]? = some v->AVR w ρ base ro x v):AVR w ρ base ro (.sl fr t l) (.slice A (l ()).length c)
 | wide (fr t l n A c) (hn:n ()<=(l ()).length) (h:AVR w ρ base ro (.sl fr t l) (.slice A (l ()).length c)):AVR w ρ base ro (.wide fr t l n) (.slice A (n ()) c)
 | pto (cells:List AV) (off b o) (cs:List Value) (hro:ro b) (hlt:b<w.heap.size) (hl:cells.length=cs.length) (hc:∀ (j:Nat) u,cs[j]? = some u->w.cell? ⟨b,o+j,none⟩=some u) (h:∀ (j:Nat) x v,cells[j]? = some x->cs[j]? = some v->AVR w ρ base ro x v):AVR w ρ base ro (.pto cells off) (.pointer (some ⟨b,o+off,none⟩))
 | ptr (loc off b) (h : ρ loc=some (.box b)):AVR w ρ base ro (.ptr loc off) (.pointer (some ⟨b,off,none⟩))
 | own (loc A n c) (h : ρ loc=some (.row A n c)):AVR w ρ base ro (.own loc) (.slice A n c)
 | orp (t loc k off A) (n:Nat) (c b) (h : ρ loc=some (.row A n c)) (hA:A=some ⟨b,0,none⟩) (h0:0<=k ()) (hn:k ()<(n:Int)):AVR w ρ base ro (.orp t loc k off) (.pointer (some ⟨b,(k ()).toNat*t.size+off,none⟩))
 | mp (loc b) (h : ρ loc=some (.mp b)):AVR w ρ base ro (.mp loc) (.map (some b))
 | stamp (loc s) (h : ρ loc=some (.stamp s)):AVR w ρ base ro (.stamp loc) (goInt s)
 | it (loc l2 b) (h : ρ l2=some (.it b)):AVR w ρ base ro (.it loc l2) (.pointer (some ⟨b,0,none⟩))
 | agg (l:List AV) (vs:List Value) (hl:l.length=vs.length) (h:∀ (j:Nat) x v,l[j]? = some x->vs[j]? = some v->AVR w ρ base ro x v):AVR w ρ base ro (.agg l) (.agg vs.toArray)
 | tup (l:List AV) (vs:List Value) (hl:l.length=vs.length) (h:∀ (j:Nat) x v,l[j]? = some x->vs[j]? = some v->AVR w ρ base ro x v):AVR w ρ base ro (.tup l) (.tuple vs.toArray)
 | fn (f) (caps:List AV) (vs:List Value) (hl:caps.length=vs.length) (h:∀ (j:Nat) x v,caps[j]? = some x->vs[j]? = some v->AVR w ρ base ro x v):AVR w ρ base ro (.fn f caps) (.func (.func f) #[] vs.toArray)
def Each (w:World) (ρ:Nat->Option Rl) (base:Nat) (ro:Nat->Prop) (l:List AV) (vs:List Value):Prop:=l.length=vs.length/\∀ (j:Nat) x v,l[j]? = some x->vs[j]? = some v->AVR w ρ base ro x v
section
variable {w w':World} {ρ ρ':Nat->Option Rl} {base base':Nat} {ro ro':Nat->Prop}
theorem Each.nil:Each w ρ base ro [] []:=⟨rfl,fun j x v h=>by simp at h⟩
theorem Each.cons {x:AV} {v:Value} {l:List AV} {vs:List Value} (h:AVR w ρ base ro x v) (hs:Each w ρ base ro l vs):Each w ρ base ro (x::l) (v::vs):=by
 refine⟨by simp [hs.1],fun j y u hy hu => ?_⟩
 cases j with
 | zero =>
  simp only [List.getElem?_cons_zero,Option.some.injEq] at hy hu;subst hy; subst hu;exact h
 | succ j=>exact hs.2 j y u (by simpa using hy) (by simpa using hu)
theorem Each.head {x:AV} {l:List AV} {vs:List Value} (h:Each w ρ base ro (x::l) vs):∃ v us,vs=v::us/\AVR w ρ base ro x v/\Each w ρ base ro l us:=by
 cases vs with
 | nil=>exact absurd h.1 (by simp)
 | cons v us=>exact⟨v,us,rfl,h.2 0 x v rfl rfl,by simpa using h.1,fun j y u hy hu=>h.2 (j+1) y u (by simpa using hy) (by simpa using hu)⟩
theorem Each.none {vs:List Value} (h:Each w ρ base ro [] vs):vs = []:=by
 cases vs with
 | nil=>rfl
 | cons v us=>exact absurd h.1 (by simp)
theorem Each.get {l:List AV} {vs:List Value} (h:Each w ρ base ro l vs) {j:Nat} {x:AV} (hx:l[j]? = some x):∃ v,vs[j]? = some v/\AVR w ρ base ro x v:=by
 have hj:=(List.getElem?_eq_some_iff.1 hx).1;exact⟨vs[j]'(by rw [<- h.1]; exact hj),List.getElem?_eq_getElem _,h.2 j x _ hx (List.getElem?_eq_getElem _)⟩
def Ext (ρ ρ':Nat->Option Rl):Prop:=∀ loc r,ρ loc=some r -> ρ' loc=some r
theorem Ext.refl (ρ:Nat->Option Rl):Ext ρ ρ:=fun _ _ h=>h
theorem AVR.mono {x:AV} {v:Value} (h:AVR w ρ base ro x v) (hw:∀ b,ro b->b<w.heap.size->w'.heap[b]? = w.heap[b]?) (hρ:Ext ρ ρ') (hb:base'<=base) (hro:∀ b,ro b->ro' b):AVR w' ρ' base' ro' x v:=by
 induction h with
 | un=>exact .un _
 | int=>exact .int _ _
 | lit=>exact .lit _ _
 | bool=>exact .bool _
 | blit=>exact .blit _
 | str=>exact .str _
 | nil=>exact .nil
 | sl fr t l A c css hl hc hr hro1 hfr h ih =>
  refine .sl fr t l A c css hl hc ?_ (fun a ha hn=>hro _ (hro1 a ha hn)) (fun hf a ha hn=>Nat.le_trans hb (hfr hf a ha hn)) ih;by_cases hn:css = []
  . subst hn;exact Rd.nil _ _ _ _
  . exact Rd.keep hr fun a ha=>hw _ (hro1 a ha hn) (Rd.bound hr hn a ha)
 | wide fr t l n A c hn h ih=>exact .wide fr t l n A c hn ih
 | pto cells off b o cs hr hlt hl hc h ih =>
  have hsame:=hw b hr hlt;refine .pto cells off b o cs (hro _ hr) ?_ hl (fun j u hu => ?_) ih
  . rcases Nat.lt_or_ge b w'.heap.size with h2|h2
    . exact h2
    . rw [Array.getElem?_eq_none h2,Array.getElem?_eq_getElem hlt] at hsame;cases hsame
  . rw [cell_same hsame];exact hc j u hu
 | ptr loc off b h=>exact .ptr _ _ _ (hρ _ _ h)
 | own loc A n c h=>exact .own _ _ _ _ (hρ _ _ h)
 | orp t loc k off A n c b h hA h0 hn=>exact .orp _ _ _ _ _ _ _ _ (hρ _ _ h) hA h0 hn
 | mp loc b h=>exact .mp _ _ (hρ _ _ h)
 | stamp loc s h=>exact .stamp _ _ (hρ _ _ h)
 | it loc l2 b h=>exact .it _ _ _ (hρ _ _ h)
 | agg l vs hl h ih=>exact .agg _ _ hl ih
 | tup l vs hl h ih=>exact .tup _ _ hl ih
 | fn f caps vs hl h ih=>exact .fn _ _ _ hl ih
theorem Each.mono {l:List AV} {vs:List Value} (h:Each w ρ base ro l vs) (hw:∀ b,ro b->b<w.heap.size->w'.heap[b]? = w.heap[b]?) (hρ:Ext ρ ρ') (hb:base'<=base) (hro:∀ b,ro b->ro' b):Each w' ρ' base' ro' l vs :=
 ⟨h.1,fun j x v hx hv=>(h.2 j x v hx hv).mono hw hρ hb hro⟩
/- what a tree names -/
mutual
def AV.has (loc:Nat):AV->Bool
 | .own l=>l==loc
 | .orp _ l _ _=>l==loc
 | .pto cs _=>AV.hasL loc cs
 | .agg cs=>AV.hasL loc cs
 | .tup cs=>AV.hasL loc cs
 | .fn _ cs=>AV.hasL loc cs
 | _=>false
def AV.hasL (loc:Nat):List AV->Bool
 | []=>false
 | x::l=>AV.has loc x||AV.hasL loc l
end
/- no place of the run's own,and what is in it is new if 'fresh' is asked -/
mutual
def AV.plain (fresh:Bool):AV->Bool
 | .own _=>false
 | .orp _ _ _ _=>false
 | .ptr _ _=>false
 | .mp _=>false
 | .stamp _=>false
 | .it _ _=>false
 | .pto cs _ => !fresh&&AV.plainL fresh cs
 | .agg cs=>AV.plainL fresh cs
 | .tup cs=>AV.plainL fresh cs
 | .fn _ cs=>AV.plainL fresh cs
 | .sl fr _ _=>fr || !fresh
 | .wide fr _ _ _=>fr || !fresh
 | _=>true
def AV.plainL (fresh:Bool):List AV->Bool
 | []=>true
 | x::l=>AV.plain fresh x&&AV.plainL fresh l
end
theorem hasL_get {loc:Nat}:∀ {l:List AV} {j:Nat} {x:AV},AV.hasL loc l=false->l[j]? = some x->AV.has loc x=false
 | y::l,0,x,h,hx=>by
  simp only [List.getElem?_cons_zero,Option.some.injEq] at hx;subst hx;simp only [AV.hasL,Bool.or_eq_false_iff] at h;exact h.1
 | y::l,j+1,x,h,hx=>by
  simp only [AV.hasL,Bool.or_eq_false_iff] at h;exact hasL_get h.2 (by simpa using hx)
 | [],j,x,_,hx=>by simp at hx
theorem plainL_get {fresh:Bool}:∀ {l:List AV} {j:Nat} {x:AV},AV.plainL fresh l=true->l[j]? = some x->AV.plain fresh x=true
 | y::l,0,x,h,hx=>by
  simp only [List.getElem?_cons_zero,Option.some.injEq] at hx;subst hx;simp only [AV.plainL,Bool.and_eq_true] at h;exact h.1
 | y::l,j+1,x,h,hx=>by
  simp only [AV.plainL,Bool.and_eq_true] at h;exact plainL_get h.2 (by simpa using hx)
 | [],j,x,_,hx=>by simp at hx
theorem cellsAV_has (fr:Bool) (t:Tc) (x:Unit->t.el) (loc:Nat):AV.hasL loc (cellsAV fr t x)=false:=by cases t<;>rfl
theorem cellsAV_plain (t:Tc) (x:Unit->t.el) (fresh:Bool):AV.plainL fresh (cellsAV true t x)=true:=by cases t<;>cases fresh<;>rfl
theorem cellsAV_plain0 (fr:Bool) (t:Tc) (x:Unit->t.el):AV.plainL false (cellsAV fr t x)=true:=by cases t<;>cases fr<;>rfl
theorem AVR.move {x:AV} {v:Value} {loc:Nat} (h:AVR w ρ base ro x v) (hx:AV.has loc x=false) (hρ:∀ l r,ρ l=some r->(l≠loc\/r.solid=true) -> ρ' l=some r):AVR w ρ' base ro x v:=by
 induction h with
 | un=>exact .un _
 | int=>exact .int _ _
 | lit=>exact .lit _ _
 | bool=>exact .bool _
 | blit=>exact .blit _
 | str=>exact .str _
 | nil=>exact .nil
 | sl fr t l A c css hl hc hr hro1 hfr h ih =>
  exact .sl fr t l A c css hl hc hr hro1 hfr fun k cs j y v h1 h2 h3=>ih k cs j y v h1 h2 h3 (hasL_get (cellsAV_has _ _ _ _) h2)
 | wide fr t l n A c hn h ih=>exact .wide fr t l n A c hn (ih rfl)
 | pto cells off b o cs hr hlt hl hc h ih =>
  exact .pto cells off b o cs hr hlt hl hc fun j y v h1 h2=>ih j y v h1 h2 (hasL_get (by simpa only [AV.has] using hx) h1)
 | ptr l off b h=>exact .ptr _ _ _ (hρ _ _ h (.inr rfl))
 | mp l b h=>exact .mp _ _ (hρ _ _ h (.inr rfl))
 | stamp l s h=>exact .stamp _ _ (hρ _ _ h (.inr rfl))
 | it l l2 b h=>exact .it _ _ _ (hρ _ _ h (.inr rfl))
 | own l A n c h =>
  have h1:l≠loc:=by simpa [AV.has] using hx
  exact .own _ _ _ _ (hρ _ _ h (.inl h1))
 | orp t l k off A n c b h hA h0 hn =>
  have h1:l≠loc:=by simpa [AV.has] using hx
  exact .orp _ _ _ _ _ _ _ _ (hρ _ _ h (.inl h1)) hA h0 hn
 | agg l vs hl h ih=>exact .agg _ _ hl fun j y v h1 h2=>ih j y v h1 h2 (hasL_get (by simpa only [AV.has] using hx) h1)
 | tup l vs hl h ih=>exact .tup _ _ hl fun j y v h1 h2=>ih j y v h1 h2 (hasL_get (by simpa only [AV.has] using hx) h1)
 | fn f caps vs hl h ih=>exact .fn _ _ _ hl fun j y v h1 h2=>ih j y v h1 h2 (hasL_get (by simpa only [AV.has] using hx) h1)
theorem AVR.plain {x:AV} {v:Value} {fresh:Bool} (h:AVR w ρ base ro x v) (hx:AV.plain fresh x=true) (hro:∀ b,(fresh=true->base<=b)->ro b->ro' b):AVR w ρ' base ro' x v:=by
 induction h with
 | un=>exact .un _
 | int=>exact .int _ _
 | lit=>exact .lit _ _
 | bool=>exact .bool _
 | blit=>exact .blit _
 | str=>exact .str _
 | nil=>exact .nil
 | sl fr t l A c css hl hc hr hro1 hfr h ih =>
  have hff:fresh=true->fr=true:=by
   intro hf;simpa [AV.plain,hf] using hx
  refine .sl fr t l A c css hl hc hr (fun a ha hn=>hro _ (fun hf=>hfr (hff hf) a ha hn) (hro1 a ha hn)) hfr fun k cs j y v h1 h2 h3=>ih k cs j y v h1 h2 h3 (plainL_get ?_ h2)
  cases fresh with
  | true=>rw [hff rfl]; exact cellsAV_plain _ _ _
  | false=>exact cellsAV_plain0 _ _ _
 | wide fr t l n A c hn h ih=>exact .wide fr t l n A c hn (ih (by simpa only [AV.plain] using hx))
 | pto cells off b o cs hr hlt hl hc h ih =>
  simp only [AV.plain,Bool.and_eq_true,Bool.not_eq_true'] at hx;exact .pto cells off b o cs (hro _ (by rw [hx.1]; simp) hr) hlt hl hc fun j y v h1 h2=>ih j y v h1 h2 (plainL_get hx.2 h1)
 | ptr l off b h=>simp [AV.plain] at hx
 | own l A n c h=>simp [AV.plain] at hx
 | orp t l k off A n c b h hA h0 hn=>simp [AV.plain] at hx
 | mp l b h=>simp [AV.plain] at hx
 | stamp l s h=>simp [AV.plain] at hx
 | it l l2 b h=>simp [AV.plain] at hx
 | agg l vs hl h ih=>exact .agg _ _ hl fun j y v h1 h2=>ih j y v h1 h2 (plainL_get (by simpa only [AV.plain] using hx) h1)
 | tup l vs hl h ih=>exact .tup _ _ hl fun j y v h1 h2=>ih j y v h1 h2 (plainL_get (by simpa only [AV.plain] using hx) h1)
 | fn f caps vs hl h ih=>exact .fn _ _ _ hl fun j y v h1 h2=>ih j y v h1 h2 (plainL_get (by simpa only [AV.plain] using hx) h1)
end
end Go.Proofs.YthfpdbjemfhieaaGreat
namespace Go.Proofs.YthfpdbjemfhieaaGreat
open Go.MapKept
def aggB (P:Program) (T:TypeId):Bool:=match P.underlying T with
 | some (.struct _)=>true
 | some (.array _ _)=>true
 | _=>false
def flV (a:Bool) (xs:List Kx):Value:=match a,xs with
 | false,[x]=>x.val
 | _,xs => .agg (xs.map Kx.val).toArray
def flFs (P:Program) (g:TypeId->List Lk->Bool):List Field->Nat->List Lk->Bool
 | [],_,ls=>ls.isEmpty
 | f :: fs, o, ls => f.offset == o && f.name != "_" && (P.underlying f.type).isSome && match P.info? f.type with
  | some i=>(decide (i.size<=ls.length)&&decide (0<i.size))&&(aggB P f.type||i.size==1)&&g f.type (ls.take i.size)&&flFs P g fs (o+i.size) (ls.drop i.size)
  | none=>false
def flIs (g:List Lk->Bool) (s:Nat):Nat->List Lk->Bool
 | 0,ls=>ls.isEmpty
 | n+1,ls=>(decide (s<=ls.length)&&decide (0<s))&&g (ls.take s)&&flIs g s n (ls.drop s)
def flB (P:Program):Nat->TypeId->List Lk->Bool
 | 0,_,_=>false
 | k+1,T,ls=>match P.underlying T with
  | some (.struct fs) => !P.stoodInHeld T&&flFs P (flB P k) fs.toList 0 ls
  | some (.array n e)=>(P.underlying e).isSome&&match P.info? e with
   | some i=>P.cellsOf e==i.size&&(aggB P e||i.size==1)&&flIs (flB P k e) i.size n ls
   | none=>false
  | some _=>(match ls with
   | [l]=>leafB P T l
   | _=>false)
  | none=>false
section
variable {P:Program} {w:World}
theorem fitsL_len:∀ {ls:List Lk} {xs:List Kx},fitsL ls xs=true->xs.length=ls.length
 | [],xs,h=>by rw [fitsL_nil h]; rfl
 | l::ls,xs,h=>by
  obtain⟨x,r,rfl,_,hr⟩:=fitsL_cons h;simp [fitsL_len hr]
theorem fitsL_take:∀ {ls:List Lk} {xs:List Kx} (n:Nat),fitsL ls xs=true->fitsL (ls.take n) (xs.take n)=true/\fitsL (ls.drop n) (xs.drop n)=true
 | [],xs,n,h=>by rw [fitsL_nil h]; simp [fitsL]
 | l::ls,xs,0,h=>by simp only [List.take_zero,List.drop_zero]; exact⟨rfl,h⟩
 | l::ls,xs,n+1,h=>by
  obtain⟨x,r,rfl,hx,hr⟩:=fitsL_cons h;simp only [List.take_succ_cons,List.drop_succ_cons];obtain⟨h1,h2⟩:=fitsL_take n hr;exact⟨by simp only [fitsL,hx,h1,Bool.and_self],h2⟩
theorem partK {T o s:Nat} {vs:List Value} (ha:∃ j,P.info? T=some j/\j.size=s) (hd:∃ ds,P.underlying T=some ds) (hlen:aggB P T=true->o+s<=vs.length) {v:Value} (hv:aggB P T=false->vs[o]? = some v) (hv2:aggB P T=true->v = .agg ((vs.drop o).take s).toArray):(part T vs.toArray o).run P w = .ok v w:=by
 obtain⟨j,hj,rfl⟩:=ha;obtain⟨ds,hd⟩:=hd;unfold part;have h1:(isAgg T).run P w = .ok (aggB P T) w:=by
  unfold isAgg aggB;simp only [underlying,Sem.run_bind,Sem.run_pure,Result.andThen_ok,run_program,hd];cases ds<;>rfl
 simp only [Sem.run_bind,h1,Result.andThen_ok]
 cases hb:aggB P T with
 | true =>
  have:=hlen hb;rw [hv2 hb];simp only [if_true,sizeOf,typeInfo,Sem.run_bind,Sem.run_pure,Result.andThen_ok,run_program,hj];congr 2;apply Array.ext';simp [List.extract_eq_take_drop,Nat.add_sub_cancel_left]
 | false =>
  simp only [Bool.false_eq_true,if_false,List.getElem?_toArray,hv hb,Sem.run_pure]
theorem part_fl {T o s:Nat} {a:List Kx} {i:TypeInfo} (hi:P.info? T=some i) (hs:i.size=s) (hd:(P.underlying T).isSome=true) (h1:(aggB P T||s==1)=true) (hl:o+s<=a.length):(part T (a.map Kx.val).toArray o).run P w = .ok (flV (aggB P T) ((a.drop o).take s)) w:=by
 refine partK ⟨i,hi,hs⟩ (Option.isSome_iff_exists.1 hd) (fun _=>by simpa using hl) (fun hb => ?_) fun hb => ?_
 . rw [hb,Bool.false_or,beq_iff_eq] at h1;subst h1;have h2:(a.drop o).take 1 = [a[o]]:=by
    rw [List.drop_eq_getElem_cons (by omega)];rfl
   rw [h2,hb];show (a.map Kx.val)[o]? = some a[o].val
   rw [List.getElem?_map,List.getElem?_eq_getElem (by omega)];rfl
 . rw [hb];unfold flV;simp [List.map_drop,List.map_take]
def EqGood (P:Program) (d:Nat) (a:Bool) (T:TypeId) (ls:List Lk):Prop:=∀ (w:World) (xs ys:List Kx),fitsL ls xs=true->fitsL ls ys=true->(Op.equalIn d T (flV a xs) (flV a ys)).run P w = .ok (decide (xs=ys)) w
theorem dec_cut {α:Type} [DecidableEq α] (a b:List α) (s:Nat):decide (a=b)=(decide (a.take s=b.take s)&&decide (a.drop s=b.drop s)):=by
 rw [Bool.eq_iff_iff];simp only [Bool.and_eq_true,decide_eq_true_eq];constructor
 . rintro rfl; exact⟨rfl,rfl⟩
 . rintro⟨h1,h2⟩
   rw [<- List.take_append_drop s a,h1,h2,List.take_append_drop]
theorem fl_fields {g:TypeId->List Lk->Bool} {d:Nat} (hg:∀ T ls,g T ls=true->EqGood P d (aggB P T) T ls) (a b:List Kx):∀ (fs:List Field) (o:Nat) (ls:List Lk),flFs P g fs o ls=true->fitsL ls (a.drop o)=true->fitsL ls (b.drop o)=true ->
 (Op.eqFields d (a.map Kx.val).toArray (b.map Kx.val).toArray fs).run P w = .ok (decide (a.drop o=b.drop o)) w
 | [],o,ls,h,ha,hb=>by
  have hl:ls = []:=List.isEmpty_iff.1 h;subst hl;rw [fitsL_nil ha,fitsL_nil hb];simp [Op.eqFields]
 | f::fs,o,ls,h,ha,hb=>by
  simp only [flFs,Bool.and_eq_true,beq_iff_eq,bne_iff_ne,ne_eq] at h;obtain⟨⟨⟨h1,h2⟩,hund⟩,h3⟩:=h
  cases hi:P.info? f.type with
  | none=>rw [hi] at h3; cases h3
  | some i =>
   rw [hi] at h3;simp only [Bool.and_eq_true,decide_eq_true_eq] at h3;obtain⟨⟨⟨⟨hs,h0⟩,h1s⟩,hg1⟩,hrest⟩:=h3;have la:=fitsL_len ha;have lb:=fitsL_len hb;rw [List.length_drop] at la lb;obtain⟨ta,da⟩:=fitsL_take i.size ha;obtain⟨tb,db⟩:=fitsL_take i.size hb;rw [List.drop_drop] at da db;have p1:=part_fl (w:=w) hi rfl hund h1s (o:=o) (a:=a) (by omega);have p2:=part_fl (w:=w) hi rfl hund h1s (o:=o) (a:=b) (by omega);have ih:=fl_fields hg a b fs (o+i.size) _ hrest da db;have he:=hg _ _ hg1 w _ _ ta tb;simp only [Op.eqFields,h2,ne_eq,not_false_eq_true,if_true,Sem.run_bind,h1,p1,p2,Result.andThen_ok,he];rw [dec_cut (a.drop o) (b.drop o) i.size,List.drop_drop,List.drop_drop]
   cases hd:decide ((a.drop o).take i.size=(b.drop o).take i.size) with
   | true=>simp only [Bool.not_true,Bool.false_eq_true,if_false,ih,Bool.true_and]
   | false=>simp
theorem fl_items {g:List Lk->Bool} {d s:Nat} {e:TypeId} {i:TypeInfo} (hi:P.info? e=some i) (hs:i.size=s) (hd:(P.underlying e).isSome=true) (h1s:(aggB P e||s==1)=true) (hg:∀ ls,g ls=true->EqGood P d (aggB P e) e ls) (a b:List Kx):∀ (n o:Nat) (ls:List Lk),flIs g s n ls=true->fitsL ls (a.drop (o*s))=true->fitsL ls (b.drop (o*s))=true ->
 (Op.eqItems d e s (a.map Kx.val).toArray (b.map Kx.val).toArray (List.range' o n)).run P w = .ok (decide (a.drop (o*s)=b.drop (o*s))) w
 | 0,o,ls,h,ha,hb=>by
  have hl:ls = []:=List.isEmpty_iff.1 h;subst hl;rw [fitsL_nil ha,fitsL_nil hb];simp [Op.eqItems]
 | n+1,o,ls,h,ha,hb=>by
  simp only [flIs,Bool.and_eq_true,decide_eq_true_eq] at h;obtain⟨⟨⟨hsl,h0⟩,hg1⟩,hrest⟩:=h;have la:=fitsL_len ha;have lb:=fitsL_len hb;rw [List.length_drop] at la lb;obtain⟨ta,da⟩:=fitsL_take s ha;obtain⟨tb,db⟩:=fitsL_take s hb;rw [List.drop_drop,show o*s+s=(o+1)*s by rw [Nat.succ_mul]] at da db;have p1:=part_fl (w:=w) hi hs hd h1s (o:=o*s) (a:=a) (by omega);have p2:=part_fl (w:=w) hi hs hd h1s (o:=o*s) (a:=b) (by omega);have ih:=fl_items hi hs hd h1s hg a b n (o+1) _ hrest da db;have he:=hg _ hg1 w _ _ ta tb;rw [List.range'_succ];simp only [Op.eqItems,Sem.run_bind,p1,p2,Result.andThen_ok,he];rw [dec_cut (a.drop (o*s)) (b.drop (o*s)) s,List.drop_drop,List.drop_drop,show o*s+s=(o+1)*s by rw [Nat.succ_mul]]
  cases hd:decide ((a.drop (o*s)).take s=(b.drop (o*s)).take s) with
  | true=>simp only [Bool.not_true,Bool.false_eq_true,if_false,ih,Bool.true_and]
  | false=>simp
theorem fl_equal:∀ (k d:Nat),k<=d->∀ T ls,flB P k T ls=true->EqGood P d (aggB P T) T ls
 | 0,d,_,T,ls,h=>by cases h
 | k+1,0,hd,T,ls,h=>by omega
 | k+1,d+1,hd,T,ls,h=>by
  intro w xs ys hx hy;unfold flB at h;split at h
  . rename_i fs hu;simp only [Bool.and_eq_true,Bool.not_eq_true'] at h;have hag:aggB P T=true:=by unfold aggB; rw [hu]
    rw [hag];have hfs:P.fieldsOf T=fs:=by simp [Program.fieldsOf,hu]
    have e1:∀ l:List Kx,flV true l = .agg (l.map Kx.val).toArray:=fun l=>rfl;rw [e1,e1];refine (run_equalIn_struct w d T _ _ (by rw [hfs]; exact hu) h.1).trans ?_;rw [hfs];exact fl_fields (fun T ls h=>fl_equal k d (by omega) T ls h) xs ys fs.toList 0 ls h.2 (by simpa using hx) (by simpa using hy)
  . rename_i n e hu;simp only [Bool.and_eq_true] at h;obtain⟨hund,h⟩:=h;have hag:aggB P T=true:=by unfold aggB; rw [hu]
    rw [hag]
    cases hi:P.info? e with
    | none=>rw [hi] at h; cases h
    | some i =>
     rw [hi] at h;simp only [Bool.and_eq_true,beq_iff_eq] at h;obtain⟨⟨hc,h1s⟩,hit⟩:=h;have e1:∀ l:List Kx,flV true l = .agg (l.map Kx.val).toArray:=fun l=>rfl;rw [e1,e1];refine (run_equalIn_array w d _ _ hu hi).trans ?_;rw [List.range_eq_range',hc];have:=fl_items (w:=w) (d:=d) hi rfl hund h1s (fun ls h=>fl_equal k d (by omega) e ls h) xs ys n 0 ls hit (by simpa using hx) (by simpa using hy);simpa using this
  . rename_i ds hn1 hn2 hu;split at h
    . rename_i l;obtain⟨x,r,rfl,hx1,hr⟩:=fitsL_cons hx;cases fitsL_nil hr;obtain⟨y,s,rfl,hy1,hs⟩:=fitsL_cons hy;cases fitsL_nil hs;have hag:aggB P T=false:=by
       unfold aggB;rw [hu];cases ds<;>first|rfl|exact absurd rfl (hn1 _)|exact absurd rfl (hn2 _ _)
      rw [hag];refine (leaf_eq h hx1 hy1 d).trans ?_;simp
    . cases h
  . cases h
end
end Go.Proofs.YthfpdbjemfhieaaGreat
namespace Go.Proofs.YthfpdbjemfhieaaGreat
open Go.RowKit
theorem ct3:cellT Tryz.prog 3=true:=by kernel_rfl
theorem ct5:cellT Tryz.prog 5=true:=by kernel_rfl
section
variable {P:Program} {ρ:Operand->Value} {d:Option Nat} {ty:TypeId} {pos:String} {aft:Array Edge} {gd:Option (Nat×Bool)} {v:Value} {w:World}
theorem ok_indexP {T e n sz k b o:Nat} {kk:IntKind} {x y:Operand} (hx : ρ x = .pointer (some ⟨b,o,none⟩)) (hy : ρ y = .int kk (k:Int)) (ht:P.underlying T=some (.array n e)) (hi:(P.info? e).map (·.size)=some sz) (hk:(k:Int)<(n:Int)) (hv:v = .pointer (some ⟨b,o+k*sz,none⟩)):(execOp ρ ⟨d,.indexAddr T x y,ty,pos,aft,gd⟩).run P w = .ok (.value v) w:=by
 subst hv
 cases he:P.info? e with
 | none=>rw [he] at hi; cases hi
 | some i =>
  rw [he] at hi;simp only [Option.map_some,Option.some.injEq] at hi;have h3:0<=(k:Int)/\(k:Int)<(n:Int):=⟨by omega,hk⟩
  unfold execOp;simp only [hx,hy,Instr.indexAt,asIntOf,Instr.sureAddr,underlying,Sem.run_bind,Sem.run_pure,Result.andThen_ok,ht,run_program];simp only [h3,and_self,if_true,sizeOf,typeInfo,Sem.run_bind,Sem.run_pure,Result.andThen_ok,run_program,he,hi,Int.toNat_natCast,add_none]
theorem ok_rem {k:IntKind} {m n z:Int} {t t':TypeId} {x y:Operand} (hx : ρ x = .int k m) (hy : ρ y = .int k n) (hn:n≠0) (hz:m.tmod n=z) (hv:v = .int k z):(execOp ρ ⟨d,.binOp .rem t x y t',ty,pos,aft,gd⟩).run P w = .ok (.value v) w:=by
 subst hv hz;unfold execOp;simp only [hx,hy,eqGuard,binOp,Op.intDiv,hn,ne_eq,not_true_eq_false,if_false,Sem.run_bind,Sem.run_pure];rfl
theorem ok_quo {k:IntKind} {m n z:Int} {t t':TypeId} {x y:Operand} (hx : ρ x = .int k m) (hy : ρ y = .int k n) (hn:n≠0) (hz:k.wrap (m.tdiv n)=z) (hv:v = .int k z):(execOp ρ ⟨d,.binOp .quo t x y t',ty,pos,aft,gd⟩).run P w = .ok (.value v) w:=by
 subst hv hz;unfold execOp;simp only [hx,hy,eqGuard,binOp,Op.intDiv,hn,ne_eq,not_true_eq_false,if_false,Sem.run_bind,Sem.run_pure];rfl
theorem ok_conv {k k':IntKind} {s t:Nat} {ds:TypeDesc} {m z:Int} {x:Operand} (hx : ρ x = .int k m) (hs:P.underlying s=some ds) (ht:P.underlying t=some (.int k')) (hz:k'.wrap m=z) (hv:v = .int k' z):(execOp ρ ⟨d,.convert s t x,ty,pos,aft,gd⟩).run P w = .ok (.value v) w:=by
 subst hv hz;unfold execOp;simp only [hx,convert,underlying,Sem.run_bind,Sem.run_pure,Result.andThen_ok,run_program,hs,ht,Conv.intToInt]
end
end Go.Proofs.YthfpdbjemfhieaaGreat
