/-
  What single operations give is as the abstract run says: numbers, comparisons, fields, elements, loads.
-/
import Derived.Test.YtffeegebohigdaaGreatMs6
set_option linter.unusedVariables false
set_option linter.unusedSimpArgs false
namespace Go.Proofs.YtffeegebohigdaaGreat
open Go.RowKit
section
variable {w w':World} {ρ ρ':Nat->Option Rl} {base base':Nat} {ro ro':Nat->Prop} {v:Value}
theorem AVR.int_ {k:IntKind} {n:Unit->Int} (h:AVR w ρ base ro (.int k n) v):v = .int k (n ()):=by cases h; rfl
theorem AVR.lit_ {k:IntKind} {n:Int} (h:AVR w ρ base ro (.lit k n) v):v = .int k n:=by cases h; rfl
theorem AVR.bool_ {b:Unit->Bool} (h:AVR w ρ base ro (.bool b) v):v = .bool (b ()):=by cases h; rfl
theorem AVR.blit_ {b:Bool} (h:AVR w ρ base ro (.blit b) v):v = .bool b:=by cases h; rfl
theorem AVR.str_ {s:Unit->ByteArray} (h:AVR w ρ base ro (.str s) v):v = .string (s ()):=by cases h; rfl
theorem AVR.nil_ (h:AVR w ρ base ro .nil v):v = .slice none 0 0:=by cases h; rfl
theorem AVR.agg_ {l:List AV} (h:AVR w ρ base ro (.agg l) v):∃ vs:List Value,v = .agg vs.toArray/\Qj w ρ base ro l vs:=by
 cases h with
 | agg _ vs hl h=>exact⟨vs,rfl,hl,h⟩
theorem AVR.tup_ {l:List AV} (h:AVR w ρ base ro (.tup l) v):∃ vs:List Value,v = .tuple vs.toArray/\Qj w ρ base ro l vs:=by
 cases h with
 | tup _ vs hl h=>exact⟨vs,rfl,hl,h⟩
theorem AVR.fn_ {f:FuncId} {l:List AV} (h:AVR w ρ base ro (.fn f l) v):∃ vs:List Value,v = .func (.func f) #[] vs.toArray/\Qj w ρ base ro l vs:=by
 cases h with
 | fn _ _ vs hl h=>exact⟨vs,rfl,hl,h⟩
theorem AVR.ptr_ {loc off:Nat} (h:AVR w ρ base ro (.ptr loc off) v):∃ b,ρ loc=some (.box b)/\v = .pointer (some ⟨b,off,none⟩):=by
 cases h with
 | ptr _ _ b h=>exact⟨b,h,rfl⟩
theorem AVR.own_ {loc:Nat} (h:AVR w ρ base ro (.own loc) v):∃ A n c,ρ loc=some (.row A n c)/\v = .slice A n c:=by
 cases h with
 | own _ A n c h=>exact⟨A,n,c,h,rfl⟩
theorem AVR.orp_ {t:Tc} {loc off:Nat} {k:Unit->Int} (h:AVR w ρ base ro (.orp t loc k off) v):∃ A,∃ n:Nat,∃ c b,ρ loc=some (.row A n c)/\A=some ⟨b,0,none⟩/\0<=k ()/\k ()<(n:Int)/\v = .pointer (some ⟨b,(k ()).toNat*t.size+off,none⟩):=by
 cases h with
 | orp _ _ _ _ A n c b h hA h0 hn=>exact⟨A,n,c,b,h,hA,h0,hn,rfl⟩
theorem AVR.osl_ {t:Tc} {loc:Nat} {a b:Unit->Nat} (h:AVR w ρ base ro (.osl t loc a b) v):∃ A,∃ n:Nat,∃ c,ρ loc=some (.row A n c)/\a ()<=b ()/\b ()<=n/\v=sliced A (a ()) (b ()) c t.size:=by
 cases h with
 | osl _ _ _ _ A n c h hab=>exact⟨A,n,c,h,hab.1,hab.2,rfl⟩
theorem AVR.pto_ {cells:List AV} {off:Nat} (h:AVR w ρ base ro (.pto cells off) v):∃ b o,∃ cs:List Value,ro b/\b<w.heap.size/\(∀ (j:Nat) u,cs[j]? = some u->w.cell? ⟨b,o+j,none⟩=some u)/\Qj w ρ base ro cells cs/\v = .pointer (some ⟨b,o+off,none⟩):=by
 cases h with
 | pto _ _ b o cs hro hlt hl hc h=>exact⟨b,o,cs,hro,hlt,hc,⟨hl,h⟩,rfl⟩
theorem AVR.sl_ {fr:Bool} {t:Tc} {l:Unit->List t.el} (h:AVR w ρ base ro (.sl fr t l) v):∃ A c,∃ css:List (List Value),css.length=(l ()).length/\css.length<=c/\Rd w w.heap.size t.size A css/\(∀ a,A=some a->css ≠ []->ro a.block)/\(fr=true->∀ a,A=some a->css ≠ []->base<=a.block) /\
 (∀ (k:Nat) (cs:List Value) (j:Nat) (x:AV) (v:Value),css[k]? = some cs->(Q8 fr t fun _=>(l ()).getD k t.dflt)[j]? = some x->cs[j]? = some v->AVR w ρ base ro x v)/\v = .slice A (l ()).length c:=by
 cases h with
 | sl _ _ _ A c css hl hc hr hro hfr h=>exact⟨A,c,css,hl,hc,hr,hro,hfr,h,rfl⟩
theorem AVR.mp_ {loc:Nat} (h:AVR w ρ base ro (.mp loc) v):∃ b,ρ loc=some (.mp b)/\v = .map (some b):=by
 cases h with
 | mp _ b h=>exact⟨b,h,rfl⟩
theorem AVR.stamp_ {loc:Nat} (h:AVR w ρ base ro (.stamp loc) v):∃ s,ρ loc=some (.stamp s)/\v=goInt s:=by
 cases h with
 | stamp _ s h=>exact⟨s,h,rfl⟩
theorem AVR.it_ {loc l2:Nat} (h:AVR w ρ base ro (.it loc l2) v):∃ b,ρ l2=some (.it b)/\v = .pointer (some ⟨b,0,none⟩):=by
 cases h with
 | it _ _ b h=>exact⟨b,h,rfl⟩
theorem Yn {x:AV} {k:IntKind} {n:Unit->Int} (hx:x.asInt=some (k,n)) (h:AVR w ρ base ro x v):v = .int k (n ()):=by
 cases x<;>simp only [AV.asInt] at hx<;>cases hx
 . exact h.int_
 . exact h.lit_
theorem Qa7 {x:AV} {b:Unit->Bool} (hx:x.asBool=some b) (h:AVR w ρ base ro x v):v = .bool (b ()):=by
 cases x<;>simp only [AV.asBool] at hx<;>cases hx
 . exact h.bool_
 . exact h.blit_
theorem Z1g (u:Value):AVR w ρ base ro (Qwh u) u:=by
 unfold Qwh;split
 . exact .lit _ _
 . exact .blit _
 . exact .str _
 . exact .nil
 . exact .un _
end
section
variable {P:Program} {r:Operand->Value} {d:Option Nat} {ty:TypeId} {pos:String} {aft:Array Edge} {gd:Option (Nat×Bool)} {u v:Value} {w:World}
variable {ρ:Nat->Option Rl} {base:Nat} {ro:Nat->Prop}
theorem Vk {n:Int} (h:Q1 n):IntKind.i64.wrap n=n:=Qk h.1 h.2
theorem Qrl {op:BinOp} {k:IntKind} {a b:Unit->Int} {av:AV} {vcs:List VC} {t t':TypeId} {x y:Operand} (h:Qes op k a b=some (av,vcs)) (hv:∀ c∈vcs,c ()) (hx:r x = .int k (a ())) (hy:r y = .int k (b ())) :
 ∃ v,(execOp r ⟨d,.binOp op t x y t',ty,pos,aft,gd⟩).run P w = .ok (.value v) w/\AVR w ρ base ro av v:=by
 cases op<;>simp only [Qes] at h
 case add =>
  split at h
  . rename_i hk;subst hk;cases h;exact⟨_,Qe3 hx hy (Vk (hv _ (.head _))) rfl,.int _ _⟩
  . cases h;exact⟨_,Qe3 hx hy rfl rfl,.int _ _⟩
 case sub =>
  split at h
  . rename_i hk;subst hk;cases h;exact⟨_,Qj4 hx hy (Vk (hv _ (.head _))) rfl,.int _ _⟩
  . cases h;exact⟨_,Qj4 hx hy rfl rfl,.int _ _⟩
 case mul =>
  split at h
  . rename_i hk;subst hk;cases h;exact⟨_,Qcd hx hy (Vk (hv _ (.head _))) rfl,.int _ _⟩
  . cases h;exact⟨_,Qcd hx hy rfl rfl,.int _ _⟩
 case quo =>
  cases h;exact⟨_,Qsu hx hy (hv _ (.head _)) rfl rfl,.int _ _⟩
 case rem =>
  cases h;exact⟨_,Z79 hx hy (hv _ (.head _)) rfl rfl,.int _ _⟩
 case eql=>cases h; exact⟨_,Q7s (op := .eql) hx hy rfl rfl,by rw [show (a ()==b ())=decide (a ()=b ()) by rw [Bool.eq_iff_iff]; simp]; exact .bool _⟩
 case neq=>cases h; exact⟨_,Q7s (op := .neq) hx hy rfl rfl,by rw [show (a () != b ()) = !decide (a ()=b ()) by rw [Bool.eq_iff_iff]; simp]; exact .bool _⟩
 case lss=>cases h; exact⟨_,Q7s (op := .lss) hx hy rfl rfl,.bool _⟩
 case leq=>cases h; exact⟨_,Q7s (op := .leq) hx hy rfl rfl,.bool _⟩
 case gtr=>cases h; exact⟨_,Q7s (op := .gtr) hx hy rfl rfl,.bool _⟩
 case geq=>cases h; exact⟨_,Q7s (op := .geq) hx hy rfl rfl,.bool _⟩
 case and =>
  cases h;refine⟨_,?_,.int k _⟩;unfold execOp;simp only [hx,hy,eqGuard,binOp,Op.intBits,ne_eq,not_true_eq_false,if_false,Sem.run_bind,Sem.run_pure];rfl
 case or =>
  cases h;refine⟨_,?_,.int k _⟩;unfold execOp;simp only [hx,hy,eqGuard,binOp,Op.intBits,ne_eq,not_true_eq_false,if_false,Sem.run_bind,Sem.run_pure];rfl
 case xor =>
  cases h;refine⟨_,?_,.int k _⟩;unfold execOp;simp only [hx,hy,eqGuard,binOp,Op.intBits,ne_eq,not_true_eq_false,if_false,Sem.run_bind,Sem.run_pure];rfl
 case andNot =>
  cases h;refine⟨_,?_,.int k _⟩;unfold execOp;simp only [hx,hy,eqGuard,binOp,Op.intBits,ne_eq,not_true_eq_false,if_false,Sem.run_bind,Sem.run_pure];rfl
 all_goals cases h
theorem Z68 {op:BinOp} {k:IntKind} {m n:Int} {av:AV} {t t':TypeId} {x y:Operand} (h:Qx4 op k m n=some av) (hx:r x = .int k m) (hy:r y = .int k n) :
 ∃ v,(execOp r ⟨d,.binOp op t x y t',ty,pos,aft,gd⟩).run P w = .ok (.value v) w/\AVR w ρ base ro av v:=by
 cases op<;>simp only [Qx4] at h<;>cases h
 . exact⟨_,Qe3 hx hy rfl rfl,.lit _ _⟩
 . exact⟨_,Qj4 hx hy rfl rfl,.lit _ _⟩
 . exact⟨_,Qcd hx hy rfl rfl,.lit _ _⟩
 all_goals exact⟨_,Q7s hx hy rfl rfl,.blit _⟩
theorem Z1k {op:BinOp} {a b:ByteArray} {t t':TypeId} {x y:Operand} (hx:r x = .string a) (hy:r y = .string b):(execOp r ⟨d,.binOp op t x y t',ty,pos,aft,gd⟩).run P w=((Op.stringOp op a b).run P w).andThen fun v w => .ok (.value v) w:=by
 unfold execOp;have h1:(eqGuard op t x y (r x) (r y)).run P w = .ok () w:=by
  rw [hx,hy];cases op<;>rfl
 have h2:binOp op t (r x) (r y)=Op.stringOp op a b:=by
  rw [hx,hy];cases op<;>rfl
 simp only [Sem.run_bind,h1,h2,Result.andThen_ok];cases (Op.stringOp op a b).run P w<;>rfl
theorem Z4b {op:BinOp} {a b:Unit->ByteArray} {av:AV} {vcs:List VC} {t t':TypeId} {x y:Operand} (h:Qq1 op a b=some (av,vcs)) (hx:r x = .string (a ())) (hy:r y = .string (b ())) :
 ∃ v,(execOp r ⟨d,.binOp op t x y t',ty,pos,aft,gd⟩).run P w = .ok (.value v) w/\AVR w ρ base ro av v:=by
 cases op<;>simp only [Qq1] at h<;>cases h
 . refine⟨_,(Z1k hx hy).trans (by simp only [Op.stringOp,Sem.run_pure,Result.andThen_ok]; rfl),?_⟩;rw [Qaq];exact .bool _
 . refine⟨_,(Z1k hx hy).trans (by simp only [Op.stringOp,Sem.run_pure,Result.andThen_ok]; rfl),?_⟩;rw [Qaq];exact .bool _
theorem Y7 {tb:Tab} {T:Nat} {ti:TI} (hty:Zw P tb) (h:Km tb T=some ti):∃ i,Q3 tb T=some i/\i.ti=ti/\tyB P T i=true:=by
 unfold Km at h
 cases hi:Q3 tb T with
 | none=>rw [hi] at h; cases h
 | some i =>
  rw [hi] at h;simp only [Option.map_some,Option.some.injEq] at h;exact⟨i,rfl,h,hty T i hi⟩
theorem Yu {T:Nat} {i:K5} (h:tyB P T i=true):∃ ds,P.underlying T=some ds/\Ko P ds i.ti=true:=by
 unfold tyB at h;simp only [Bool.and_eq_true] at h;have h2:=h.1.2
 cases hd:P.underlying T with
 | none=>rw [hd] at h2; cases h2
 | some ds =>
  rw [hd] at h2;exact⟨ds,rfl,h2⟩
theorem Z4j {T:Nat} {i:K5} (h:tyB P T i=true) (hi:i.ti = .bool):P.underlying T=some .bool:=by
 obtain⟨ds,hd,hm⟩:=Yu h;rw [hi] at hm;cases ds<;>first|exact hd|simp [Ko] at hm
theorem Q6x {T:Nat} {i:K5} {k:IntKind} (h:tyB P T i=true) (hi:i.ti = .int k):P.underlying T=some (.int k):=by
 obtain⟨ds,hd,hm⟩:=Yu h;rw [hi] at hm;cases ds<;>first|(simp [Ko] at hm; done)|skip
 simp only [Ko,decide_eq_true_eq] at hm;rw [hd,hm]
theorem Z54 {T:Nat} {i:K5} (h:tyB P T i=true) (hi:i.ti = .str):P.underlying T=some .string:=by
 obtain⟨ds,hd,hm⟩:=Yu h;rw [hi] at hm;cases ds<;>first|exact hd|simp [Ko] at hm
theorem Qxs {T:Nat} {a b:Bool} (hT:P.underlying T=some .bool):(Op.equal T (.bool a) (.bool b)).run P w = .ok (a==b) w:=by
 unfold Op.equal;rw [show Op.maxDepth=9999+1 from rfl];unfold Op.equalIn;simp only [underlying,Sem.run_bind,Sem.run_pure,Result.andThen_ok,run_program,hT]
theorem Z1v {op:BinOp} {a b:Unit->Bool} {av:AV} {vcs:List VC} {T t':TypeId} {x y:Operand} (hT:P.underlying T=some .bool) (h:Qkc op a b=some (av,vcs)) (hx:r x = .bool (a ())) (hy:r y = .bool (b ())) :
 ∃ v,(execOp r ⟨d,.binOp op T x y t',ty,pos,aft,gd⟩).run P w = .ok (.value v) w/\AVR w ρ base ro av v:=by
 cases op<;>simp only [Qkc] at h<;>cases h
 all_goals
  refine⟨_,?_,.bool _⟩;unfold execOp;simp only [hx,hy,eqGuard,binOp,Sem.run_bind,Sem.run_pure,Result.andThen_ok,Qxs hT];rfl
theorem Qiz {op:BinOp} (hop:op = .shl\/op = .shr) {a b av:AV} {vcs:List VC} {T t':TypeId} {x y:Operand} (h:Q74 op a b=some (av,vcs)) (hv:∀ c∈vcs,c ()) (hx:AVR w ρ base ro a (r x)) (hy:AVR w ρ base ro b (r y)) :
 ∃ v,(execOp r ⟨d,.binOp op T x y t',ty,pos,aft,gd⟩).run P w = .ok (.value v) w/\AVR w ρ base ro av v:=by
 unfold Q74 at h;split at h
 . rename_i k m k' n e1 e2;cases h;have h0:0<=n ():=hv _ (.head _);have h1:¬ n ()<0:=by omega
   refine⟨_,?_,.int k _⟩;unfold execOp;rcases hop with rfl|rfl
   . simp only [Yn e1 hx,Yn e2 hy,eqGuard,binOp,Op.shift,h1,if_false,Sem.run_bind,Sem.run_pure];rfl
   . simp only [Yn e1 hx,Yn e2 hy,eqGuard,binOp,Op.shift,h1,if_false,Sem.run_bind,Sem.run_pure];rfl
 . cases h
theorem Qo5 {ti:Option TI} {op:BinOp} {k:IntKind} {a b:Unit->Int} {av:AV} {vcs:List VC} {t t':TypeId} {x y:Operand} (h:Qa1 ti op k a b=some (av,vcs)) (hv:∀ c∈vcs,c ()) (hx:r x = .int k (a ())) (hy:r y = .int k (b ())) :
 ∃ v,(execOp r ⟨d,.binOp op t x y t',ty,pos,aft,gd⟩).run P w = .ok (.value v) w/\AVR w ρ base ro av v:=by
 unfold Qa1 at h;split at h
 . unfold Qsk at h;split at h
   . cases h;exact⟨_,Qe3 hx hy rfl rfl,.int _ _⟩
   . cases h;exact⟨_,Qj4 hx hy rfl rfl,.int _ _⟩
   . cases h;exact⟨_,Qcd hx hy rfl rfl,.int _ _⟩
   . exact Qrl h hv hx hy
 . exact Qrl h hv hx hy
theorem Qhh {tb:Tab} (hty:Zw P tb) {op:BinOp} {a b av:AV} {vcs:List VC} {T t':TypeId} {x y:Operand} (h:Qbr (Km tb T) op a b=some (av,vcs)) (hv:∀ c∈vcs,c ()) (hx:AVR w ρ base ro a (r x)) (hy:AVR w ρ base ro b (r y)) :
 ∃ v,(execOp r ⟨d,.binOp op T x y t',ty,pos,aft,gd⟩).run P w = .ok (.value v) w/\AVR w ρ base ro av v:=by
 unfold Qbr at h;split at h
 . exact Qiz (.inl rfl) h hv hx hy
 . exact Qiz (.inr rfl) h hv hx hy
 split at h
 . rename_i k m k' n;split at h
   . rename_i hk;subst hk;split at h
     . rename_i av' hf;cases h;exact Z68 hf hx.lit_ hy.lit_
     . exact Qo5 h hv hx.lit_ hy.lit_
   . cases h
 . exact Z4b h hx.str_ hy.str_
 . split at h
   . rename_i k m k' n e1 e2;split at h
     . rename_i hk;subst hk;exact Qo5 h hv (Yn e1 hx) (Yn e2 hy)
     . cases h
   . split at h
     . rename_i m n e1 e2;split at h
       . rename_i e3;obtain⟨i,_,hi,hb⟩:=Y7 hty e3;exact Z1v (Z4j hb hi) h (Qa7 e1 hx) (Qa7 e2 hy)
       . cases h
     . cases h
theorem Z1o {a b c av:AV} {x y z:Operand} (h:Qjr c a b=some av) (hz:AVR w ρ base ro c (r z)) (hx:AVR w ρ base ro a (r x)) (hy:AVR w ρ base ro b (r y)) :
 ∃ v,(execOp r ⟨d,.pick z x y,ty,pos,aft,gd⟩).run P w = .ok (.value v) w/\AVR w ρ base ro av v:=by
 unfold Qjr at h;split at h
 . rename_i b';cases h;refine⟨_,Qlr hz.blit_ rfl,?_⟩;cases b'
   . exact hy
   . exact hx
 . rename_i c';split at h
   . rename_i p q e1 e2;cases h;refine⟨_,Qlr hz.bool_ rfl,?_⟩;rw [Qa7 e1 hx,Qa7 e2 hy];rw [show (if c' ()=true then Value.bool (p ()) else Value.bool (q ()))=Value.bool ((fun _:Unit=>cond (c' ()) (p ()) (q ())) ()) by cases h:c' ()<;>simp];exact .bool _
   . split at h
     . rename_i k p k' q e1 e2;split at h
       . rename_i hk;subst hk;cases h;refine⟨_,Qlr hz.bool_ rfl,?_⟩;rw [Yn e1 hx,Yn e2 hy];rw [show (if c' ()=true then Value.int k (p ()) else Value.int k (q ()))=Value.int k ((fun _:Unit=>cond (c' ()) (p ()) (q ())) ()) by cases h:c' ()<;>simp];exact .int _ _
       . cases h
     . cases h
 . cases h
end
section
variable {P:Program} {r:Operand->Value} {d:Option Nat} {ty:TypeId} {pos:String} {aft:Array Edge} {gd:Option (Nat×Bool)} {u v:Value} {w:World}
variable {ρ:Nat->Option Rl} {base:Nat} {ro:Nat->Prop}
theorem Qbo {T:Nat} {i:K5} (h:tyB P T i=true):∃ j,P.info? T=some j/\j.size=i.sz/\(match j.zero with|some z=>Qer i.z z.cells.toList|none=>i.z.isEmpty)=true:=by
 unfold tyB at h;simp only [Bool.and_eq_true] at h
 cases hj:P.info? T with
 | none=>rw [hj] at h; simp at h
 | some j =>
  rw [hj] at h;simp only [Bool.and_eq_true,beq_iff_eq] at h;exact⟨j,rfl,h.1.1.1,h.1.1.2⟩
theorem Z63 {T:Nat} {i:K5} (h:tyB P T i=true) (ha:i.ti.agg=true):Q3k P T i.sz:=by
 obtain⟨j,hj,hs,_⟩:=Qbo h;obtain⟨ds,hd,hm⟩:=Yu h;refine⟨ds,hd,?_,by rw [hj]; simp [hs]⟩;generalize i.ti=ti at hm ha;cases ti<;>first|exact absurd ha Bool.false_ne_true|exact absurd ha.symm Bool.false_ne_true|(cases ds<;>first|rfl|simp [Ko] at hm)
theorem Z4i {T:Nat} {i:K5} (h:tyB P T i=true) (ha:i.ti.agg=false):Q6h P T=true:=by
 obtain⟨ds,hd,hm⟩:=Yu h;unfold Q6h;rw [hd];generalize i.ti=ti at hm ha;cases ti<;>first|exact absurd ha Bool.false_ne_true|exact absurd ha.symm Bool.false_ne_true|(cases ds<;>first|rfl|simp [Ko] at hm)
theorem Qj.drop {l:List AV} {vs:List Value} (h:Qj w ρ base ro l vs) (n:Nat):Qj w ρ base ro (l.drop n) (vs.drop n) :=
 ⟨by simp [h.1],fun j x v hx hv=>h.2 (n+j) x v (by simpa using hx) (by simpa using hv)⟩
theorem Qj.take {l:List AV} {vs:List Value} (h:Qj w ρ base ro l vs) (n:Nat):Qj w ρ base ro (l.take n) (vs.take n):=by
 refine⟨by simp [h.1],fun j x v hx hv => ?_⟩;rw [List.getElem?_take] at hx hv;split at hx
 . rename_i hj;rw [if_pos hj] at hv;exact h.2 j x v hx hv
 . cases hx
theorem Qj.append {l m:List AV} {vs us:List Value} (h:Qj w ρ base ro l vs) (h2:Qj w ρ base ro m us):Qj w ρ base ro (l++m) (vs++us):=by
 refine⟨by simp [h.1,h2.1],fun j x v hx hv => ?_⟩;rcases Nat.lt_or_ge j l.length with hj|hj
 . rw [List.getElem?_append_left hj] at hx;rw [List.getElem?_append_left (by rw [<- h.1]; exact hj)] at hv;exact h.2 j x v hx hv
 . rw [List.getElem?_append_right hj] at hx;rw [List.getElem?_append_right (by rw [<- h.1]; exact hj),<- h.1] at hv;exact h2.2 _ x v hx hv
theorem Qj.set {l:List AV} {vs:List Value} {x:AV} {v:Value} (h:Qj w ρ base ro l vs) (hv:AVR w ρ base ro x v) (n:Nat):Qj w ρ base ro (l.set n x) (vs.set n v):=by
 refine⟨by simp [h.1],fun j y u hy hu => ?_⟩;rw [List.getElem?_set] at hy hu;split at hy
 . rename_i hj;rw [if_pos hj] at hu;split at hy
   . split at hu
     . cases hy; cases hu; exact hv
     . cases hu
   . cases hy
 . rename_i hj;rw [if_neg hj] at hu;exact h.2 j y u hy hu
theorem Qrv {T b o off:Nat} {i:K5} {cells:List AV} {cs:List Value} {av:AV} (ht:tyB P T i=true) (hc:∀ (j:Nat) u,cs[j]? = some u->w.cell? ⟨b,o+j,none⟩=some u) (hE:Qj w ρ base ro cells cs) (h:cut i.ti.agg off i.sz cells=some av) :
 ∃ v,(loadVar T ⟨b,o+off,none⟩).run P w = .ok v w/\AVR w ρ base ro av v:=by
 unfold cut at h
 cases ha:i.ti.agg with
 | true =>
  rw [ha,if_pos rfl] at h;split at h
  . rename_i hlen;cases h;have hd:=(hE.drop off).take i.sz;refine⟨_,Q45 (Z63 ht ha) (cs:=(cs.drop off).take i.sz) (by rw [List.length_take,List.length_drop,<- hE.1]; omega) (fun j u hu => ?_),.agg _ _ hd.1 hd.2⟩;rw [List.getElem?_take] at hu;split at hu
    . rw [List.getElem?_drop] at hu;rw [Qbn,Nat.add_assoc];exact hc _ _ hu
    . cases hu
  . cases h
 | false =>
  rw [ha] at h;simp only [Bool.false_eq_true,if_false] at h;obtain⟨v,hv,hr⟩:=hE.get h;exact⟨v,Q78 (Z4i ht ha) (hc _ _ hv),hr⟩
theorem Qjt {b T:Nat} {cs:List Value} (h:w.heap[b]? = some (.cells cs.toArray T (0,0))):∀ (j:Nat) u,cs[j]? = some u->w.cell? ⟨b,0+j,none⟩=some u:=by
 intro j u hu;rw [Nat.zero_add,cell_of_row w b j _ _ _ h];simpa using hu
theorem Q02 {fr:Bool} {t:Tc} {x:Unit->t.el} {cs:List Value} (hl:cs.length=t.size) (h:∀ (j:Nat) (y:AV) (v:Value),(Q8 fr t x)[j]? = some y->cs[j]? = some v->AVR w ρ base ro y v):Qj w ρ base ro (Q8 fr t x) cs :=
 ⟨by rw [Q8v,hl],h⟩
theorem Qw8 {ge:Nat->Option En} (hge:∀ loc e,ge loc=some e->EnR w ρ base ro loc e) {T:Nat} {i:K5} {a av:AV} (ht:tyB P T i=true) (h:Qdu ge i.ti.agg i.sz a=some av) (ha:AVR w ρ base ro a u) :
 ∃ ad v,u = .pointer (some ad)/\(loadVar T ad).run P w = .ok v w/\AVR w ρ base ro av v:=by
 unfold Qdu at h;split at h
 . obtain⟨b,o,cs,_,_,hc,hE,rfl⟩:=ha.pto_;obtain⟨v,h1,h2⟩:=Qrv ht hc hE h;exact⟨_,v,rfl,h1,h2⟩
 . rename_i loc off;split at h
   . rename_i T' cells he;obtain⟨b,cs,hb,hh,hE⟩:=hge _ _ he;obtain⟨b',hb',rfl⟩:=ha.ptr_;rw [hb] at hb';injection hb' with hb';injection hb' with hb';subst hb';obtain⟨v,h1,h2⟩:=Qrv ht (Qjt hh) hE h;rw [Nat.zero_add] at h1;exact⟨_,v,rfl,h1,h2⟩
   . cases h
 . rename_i t loc k off;split at h
   . rename_i fr t' T' l he;split at h
     . rename_i htt;subst htt;obtain⟨A,c,css,hA,hown,hlen,hcell⟩:=hge _ _ he;obtain⟨A',n,c',b,hA',rfl,h0,hn,rfl⟩:=ha.orp_;rw [hA] at hA';injection hA' with hA';injection hA' with e1 e2 e3;subst e1; subst e2; subst e3;have hk:(k ()).toNat<css.length:=by omega
       obtain⟨b',o',e,hlt,hl,hcs⟩:=hown.rd _ _ (List.getElem?_eq_getElem hk);simp only [Option.some.injEq,Addr.mk.injEq,and_true] at e;obtain⟨rfl,rfl⟩:=e;have hE:Qj w ρ base ro (Q8 fr t fun _=>(l ()).getD (k ()).toNat t.dflt) css[(k ()).toNat]:=Q02 hl fun j y v h1 h2=>hcell _ _ j y v (List.getElem?_eq_getElem hk) h1 h2;obtain⟨v,h1,h2⟩:=Qrv ht (b:=b) (o:=(k ()).toNat*t.size) (fun j u hu=>by have:=hcs j u hu; rwa [Nat.zero_add] at this) hE h;exact⟨_,v,rfl,h1,h2⟩
     . cases h
   . cases h
 . cases h
theorem Qcl {a av:AV} {k:Nat} (h:Q7v a k=some av) (ha:AVR w ρ base ro a u):∃ b o,u = .pointer (some ⟨b,o,none⟩)/\AVR w ρ base ro av (.pointer (some ⟨b,o+k,none⟩)):=by
 unfold Q7v at h;split at h<;>cases h
 . cases ha with
   | pto _ _ b o cs hro hlt hl hc h=>exact⟨b,_,rfl,by rw [Nat.add_assoc]; exact .pto _ _ b o cs hro hlt hl hc h⟩
 . cases ha with
   | ptr _ _ b h=>exact⟨b,_,rfl,.ptr _ _ b h⟩
 . cases ha with
   | orp _ _ _ _ A n c b h hA h0 hn=>exact⟨b,_,rfl,by rw [Nat.add_assoc]; exact .orp _ _ _ _ A n c b h hA h0 hn⟩
theorem Qvk:∀ {fs:List Field} {l:List (Nat×Nat×Bool)},fsB P fs l=true->∀ {k o s:Nat} {a:Bool},l[k]? = some (o,s,a)->∃ f,fs[k]? = some f/\f.offset=o/\(∃ i,P.info? f.type=some i/\i.size=s)/\Kf P f.type=a/\∃ ds,P.underlying f.type=some ds
 | f::fs,(o',s',a')::l,h,0,o,s,a,hk=>by
  simp only [List.getElem?_cons_zero,Option.some.injEq,Prod.mk.injEq] at hk;obtain⟨rfl,rfl,rfl⟩:=hk;unfold fsB at h;simp only [Bool.and_eq_true,beq_iff_eq] at h;refine⟨f,rfl,h.1.1.1,?_,h.1.2.1,Option.isSome_iff_exists.1 h.1.2.2⟩
  cases hi:P.info? f.type with
  | none=>rw [hi] at h; simp at h
  | some i=>rw [hi] at h; exact⟨i,rfl,by simpa using h.1.1.2⟩
 | f::fs,(o',s',a')::l,h,k+1,o,s,a,hk=>by
  unfold fsB at h;simp only [Bool.and_eq_true] at h;obtain⟨g,h1,h2⟩:=Qvk h.2 (k:=k) (by simpa using hk);exact⟨g,by simpa using h1,h2⟩
 | [],[],_,k,o,s,a,hk=>by simp at hk
 | [],_::_,h,_,_,_,_,_=>by cases h
 | _::_,[],h,_,_,_,_,_=>by cases h
theorem Qis {T f o s:Nat} {a:Bool} {i:K5} (ht:tyB P T i=true) (h:fieldAt i f=some (o,s,a)):∃ fs fd,P.underlying T=some (.struct fs)/\fs[f]? = some fd/\fd.offset=o/\(∃ j,P.info? fd.type=some j/\j.size=s)/\Kf P fd.type=a/\∃ ds,P.underlying fd.type=some ds:=by
 unfold fieldAt at h;split at h
 . rename_i l hl;obtain⟨ds,hd,hm⟩:=Yu ht;rw [hl] at hm;cases ds<;>first|(simp [Ko] at hm; done)|skip
   rename_i fs;obtain⟨fd,h1,h2,h3,h4⟩:=Qvk hm h;exact⟨fs,fd,hd,by simpa using h1,h2,h3,h4⟩
 . cases h
theorem Qfz {T f o s:Nat} {a:Bool} {i:K5} (ht:tyB P T i=true) (h:fieldAt i f=some (o,s,a)) (hs:(s==0)=false):Qbg P T f=some o:=by
 obtain⟨fs,fd,h1,h2,rfl,⟨j,h3,rfl⟩,_⟩:=Qis ht h;have hs':¬ j.size=0:=by simpa using hs
 unfold Qbg;simp only [h1,h2,h3,if_neg hs']
theorem Q6y {T o s:Nat} {vs:List Value} (ha:∃ j,P.info? T=some j/\j.size=s) (hd:∃ ds,P.underlying T=some ds) (hlen:Kf P T=true->o+s<=vs.length) {v:Value} (hv:Kf P T=false->vs[o]? = some v) (hv2:Kf P T=true->v = .agg ((vs.drop o).take s).toArray):(part T vs.toArray o).run P w = .ok v w:=by
 obtain⟨j,hj,rfl⟩:=ha;obtain⟨ds,hd⟩:=hd;unfold part;have h1:(isAgg T).run P w = .ok (Kf P T) w:=by
  unfold isAgg Kf;simp only [underlying,Sem.run_bind,Sem.run_pure,Result.andThen_ok,run_program,hd];cases ds<;>rfl
 simp only [Sem.run_bind,h1,Result.andThen_ok]
 cases hb:Kf P T with
 | true =>
  have:=hlen hb;rw [hv2 hb];simp only [if_true,sizeOf,typeInfo,Sem.run_bind,Sem.run_pure,Result.andThen_ok,run_program,hj];congr 2;apply Array.ext';simp [List.extract_eq_take_drop,Nat.add_sub_cancel_left]
 | false =>
  simp only [Bool.false_eq_true,if_false,List.getElem?_toArray,hv hb,Sem.run_pure]
theorem Z46 {T f:Nat} {x:Operand} {i:K5} {o s:Nat} {a:Bool} {cells:List AV} {av:AV} (ht:tyB P T i=true) (hf:fieldAt i f=some (o,s,a)) (hc:cut a o s cells=some av) (hx:AVR w ρ base ro (.agg cells) (r x)) :
 ∃ v,(execOp r ⟨d,.field T x f,ty,pos,aft,gd⟩).run P w = .ok (.value v) w/\AVR w ρ base ro av v:=by
 obtain⟨fs,fd,h1,h2,rfl,h3,h4,hT⟩:=Qis ht hf;obtain⟨vs,hvs,hE⟩:=hx.agg_;have hrun:∀ v,(part fd.type vs.toArray fd.offset).run P w = .ok v w->(execOp r ⟨d,.field T x f,ty,pos,aft,gd⟩).run P w = .ok (.value v) w:=by
  intro v hv;unfold execOp;simp only [hvs,Instr.field,underlying,asAgg,Sem.run_bind,Sem.run_pure,Result.andThen_ok,run_program,h1,h2,hv]
 unfold cut at hc
 cases hb:a with
 | true =>
  rw [hb,if_pos rfl] at hc;split at hc
  . rename_i hlen;cases hc;have hd:=(hE.drop fd.offset).take s;exact⟨_,hrun _ (Q6y h3 hT (fun _=>by rw [<- hE.1]; exact hlen) (fun h=>by rw [h4,hb] at h; cases h) (fun _=>rfl)),.agg _ _ hd.1 hd.2⟩
  . cases hc
 | false =>
  rw [hb] at hc;simp only [Bool.false_eq_true,if_false] at hc;obtain⟨v,hv,hr⟩:=hE.get hc;exact⟨v,hrun _ (Q6y h3 hT (fun h=>by rw [h4,hb] at h; cases h) (fun _=>hv) (fun h=>by rw [h4,hb] at h; cases h)),hr⟩
end
section
variable {P:Program} {r:Operand->Value} {d:Option Nat} {ty:TypeId} {pos:String} {aft:Array Edge} {gd:Option (Nat×Bool)} {u v:Value} {w:World}
variable {ρ:Nat->Option Rl} {base:Nat} {ro ra:Nat->Prop}
theorem Z1w {x:AV} {v:Value} (h:Qrz x v=true):AVR w ρ base ro x v:=by
 unfold Qrz at h;split at h
 . simp only [Bool.and_eq_true,decide_eq_true_eq,beq_iff_eq] at h;obtain⟨rfl,rfl⟩:=h;exact .lit _ _
 . rw [eq_of_beq h];exact .blit _
 . rename_i s s';have h1:s ()=s':=by
    have h2:=eq_of_beq h
    cases hs:s () with
    | mk a =>
     rw [hs] at h2;cases s';simp only at h2;rw [h2]
   rw [<- h1];exact .str _
 . exact .nil
 . simp only [Bool.and_eq_true,decide_eq_true_eq,beq_iff_eq] at h;obtain⟨rfl,rfl⟩:=h;exact .int _ _
 . rw [<- eq_of_beq h];exact .bool _
 . rename_i fr t l;have e:Value.slice none 0 0=Value.slice none (l ()).length 0:=by rw [List.isEmpty_iff.1 h]; rfl
   rw [e];exact .sl _ _ _ none 0 [] (by rw [List.isEmpty_iff.1 h]; rfl) (Nat.le_refl _) (Rd.nil _ _ _ _) (fun _ h=>by cases h) (fun _ _ h=>by cases h) (fun k cs j x v h=>by simp at h)
 . exact .un _
 . cases h
theorem Qhb:∀ {l:List AV} {vs:List Value},Qer l vs=true->Qj w ρ base ro l vs
 | [],[],_ => .nil
 | x::l,v::vs,h=>by
  simp only [Qer,Bool.and_eq_true] at h;exact .cons (Z1w h.1) (Qhb h.2)
 | [],_::_,h=>by cases h
 | _::_,[],h=>by cases h
theorem Ql5 (off:Nat):∀ (l pre z post:List Value) (k:Nat),z.length=l.length->pre.length=off+k->(l.zipIdx k).foldl (fun (cs:Array Value) (p:Value×Nat)=>cs.setIfInBounds (off+p.2) p.1) (pre++z++post).toArray=(pre++l++post).toArray
 | [],pre,z,post,k,h,_=>by
  have:z = []:=List.eq_nil_of_length_eq_zero (by simpa using h);subst this;rfl
 | x::l,pre,[],post,k,h,_=>by simp at h
 | x::l,pre,y::z,post,k,h,hp=>by
  have h1:=Ql5 off l (pre ++ [x]) z post (k+1) (by simpa using h) (by simp; omega);simp only [List.zipIdx_cons,List.foldl_cons];have e:(pre++y::z++post).toArray.setIfInBounds (off+k) x=(pre ++ [x]++z++post).toArray:=by
   apply Array.ext';rw [<- hp];simp
  rw [e];rw [h1];simp
theorem Qdr {x:AV} {v:Value} (h:AVR w ρ base ro x v) (h1:∀ l,x ≠ .agg l) (h2:x ≠ .un):v.cells = #[v]:=by
 cases h<;>first|rfl|exact absurd rfl h2|exact absurd rfl (h1 _)
theorem Qi5 {place:Nat->Option (Nat×Nat)} {cs vs:List Value} {i off:Nat} {v:Value} {rest:List (Nat×Value)} (hp:place i=some (off,vs.length)) (hv:v.cells=vs.toArray) (hl:off+vs.length<=cs.length) :
 Instr.fill place cs.toArray ((i,v)::rest)=Instr.fill place (cs.take off++vs++cs.drop (off+vs.length)).toArray rest:=by
 rw [Instr.fill];simp only [hp,hv,List.size_toArray,ne_eq,not_true_eq_false,decide_false,Bool.false_or,gt_iff_lt,decide_eq_true_eq];rw [if_neg (by omega)];have h1:=Ql5 off vs (cs.take off) ((cs.drop off).take vs.length) (cs.drop (off+vs.length)) 0 (by simp; omega) (by simp; omega);have e:cs.take off++(cs.drop off).take vs.length++cs.drop (off+vs.length)=cs:=by
  rw [List.append_assoc,<- List.drop_drop,List.take_append_drop,List.take_append_drop]
 rw [e] at h1;rw [<- h1,<- Array.foldl_toList];simp only [Array.toList_zipIdx]
theorem Z5i (x:Value) (l:List Value) (n:Nat) (h:n<l.length):l.set n x=l.take n ++ [x]++l.drop (n+1):=by
 rw [List.set_eq_take_append_cons_drop,if_pos h];simp
theorem Qcc {place:Nat->Option (Nat×Nat)}:∀ {ps:List (Nat×AV)} {qs:List (Nat×Value)} {cells:List AV} {cs:List Value} {out:List AV},Qj w ρ base ro cells cs->ps.map (·.1)=qs.map (·.1)->Qj w ρ base ro (ps.map (·.2)) (qs.map (·.2))->Q29 place cells ps=some out ->
 ∃ cs':List Value,Instr.fill place cs.toArray qs=some cs'.toArray/\Qj w ρ base ro out cs'
 | [],[],cells,cs,out,hE,_,_,h=>by
  simp only [Q29,Option.some.injEq] at h;subst h;exact⟨cs,rfl,hE⟩
 | (i,x)::ps,(i',v)::qs,cells,cs,out,hE,hi,hp,h=>by
  simp only [List.map_cons,List.cons.injEq] at hi;obtain⟨rfl,hi⟩:=hi;obtain⟨v',us,e,hx,hp'⟩:=hp.head;simp only [List.map_cons,List.cons.injEq] at e;obtain⟨rfl,rfl⟩:=e;unfold Q29 at h;split at h
  . cases h
  . rename_i off size hpl;split at h
    . rename_i l;split at h
      . rename_i hs;simp only [Bool.and_eq_true,beq_iff_eq,decide_eq_true_eq] at hs;obtain⟨hs1,hs2⟩:=hs;obtain⟨vs,rfl,hl⟩:=hx.agg_;subst hs1;obtain⟨cs',h1,h2⟩:=Qcc (((hE.take off).append hl).append (hE.drop (off+l.length))) hi hp' h;refine⟨cs',?_,h2⟩;rw [hl.1] at h1 hpl hs2;rw [Qi5 hpl rfl (by rw [<- hE.1]; exact hs2)];exact h1
      . cases h
    . cases h
    . cases h
    . rename_i hx1 hx2 hx3;split at h
      . rename_i hs;simp only [Bool.and_eq_true,beq_iff_eq,decide_eq_true_eq] at hs;obtain⟨rfl,hs2⟩:=hs;have hc:=Qdr hx (fun l e=>hx1 l e) hx2;obtain⟨cs',h1,h2⟩:=Qcc (hE.set hx off) hi hp' h;refine⟨cs',?_,h2⟩;have hlt:off<cs.length:=by rw [<- hE.1]; omega
        rw [Qi5 (vs := [v]) hpl hc (by simp; omega)];rw [Z5i _ _ _ hlt] at h1;exact h1
      . cases h
 | [],_::_,_,_,_,_,hi,_,_=>by simp at hi
 | _::_,[],_,_,_,_,hi,_,_=>by simp at hi
theorem Qi8 {T:Nat} {i:K5} (h:tyB P T i=true) (hz:i.z.isEmpty=false):∃ j z,P.info? T=some j/\j.zero=some z/\Qj w ρ base ro i.z z.cells.toList:=by
 obtain⟨j,hj,_,h2⟩:=Qbo h
 cases hjz:j.zero with
 | none=>rw [hjz] at h2; simp only at h2; rw [hz] at h2; cases h2
 | some z=>rw [hjz] at h2; exact⟨j,z,hj,hjz,Qhb h2⟩
theorem Q2m {α:Type} {f : α->AV} {h : α->Value} {l:List α} (hl:∀ x∈l,AVR w ρ base ro (f x) (h x)):Qj w ρ base ro (l.map f) (l.map h):=by
 refine⟨by simp,fun j x v hx hv => ?_⟩;rw [List.getElem?_map] at hx hv
 cases hj:l[j]? with
 | none=>rw [hj] at hx; cases hx
 | some y =>
  rw [hj] at hx hv;simp only [Option.map_some,Option.some.injEq] at hx hv;subst hx; subst hv;exact hl y (List.mem_of_getElem? hj)
theorem Qjw:∀ {fs:List Field} {l:List (Nat×Nat×Bool)},fsB P fs l=true->fs.mapM (fun f=>(P.info? f.type).map fun i=>(f.offset,i.size))=some (l.map fun f=>(f.1,f.2.1))
 | [],[],_=>rfl
 | f::fs,(o,s,a)::l,h=>by
  unfold fsB at h;simp only [Bool.and_eq_true,beq_iff_eq] at h;have h1:=Qjw h.2;have h2:=h.1.1.2
  cases hi:P.info? f.type with
  | none=>rw [hi] at h2; simp at h2
  | some i =>
   rw [hi] at h2;simp only [beq_iff_eq] at h2;simp [List.mapM_cons,hi,h1,h.1.1.1,h2]
 | [],_::_,h=>by cases h
 | _::_,[],h=>by cases h
theorem Qst {g:Operand->AV} {T:Nat} {parts:Array (Nat×Operand)} {i:K5} {av:AV} {place:Nat->Option (Nat×Nat)} {out:List AV} (ht:tyB P T i=true) (hg:∀ p∈parts.toList,AVR w ρ base ro (g p.2) (r p.2)) (hz:i.z.isEmpty=false) (hpl:(∃ fs,i.ti = .struct fs/\place=fun k=>(fs[k]?).map fun f=>(f.1,f.2.1))\/∃ n e esz a,i.ti = .array n e esz a/\place=fun k=>some (k*esz,esz)) (h:Q29 place i.z (parts.toList.map fun p=>(p.1,g p.2))=some out) (hav:av = .agg out) :
 ∃ v,(execOp r ⟨d,.build T parts,ty,pos,aft,gd⟩).run P w = .ok (.value v) w/\AVR w ρ base ro av v:=by
 subst hav;obtain⟨j,z,hj,hjz,hE⟩:=Qi8 (w:=w) (ρ := ρ) (base:=base) (ro:=ro) ht hz;obtain⟨cs',h1,h2⟩:=Qcc (qs:=parts.toList.map fun p=>(p.1,r p.2)) hE (by simp) (by simp only [List.map_map]; exact Q2m hg) h;have hb:P.built T (parts.map fun (i,x)=>(i,r x)).toList=some cs'.toArray:=by
  obtain⟨ds,hd,hm⟩:=Yu ht;have e:(parts.map fun (i,x)=>(i,r x)).toList=parts.toList.map fun p=>(p.1,r p.2):=by simp
  rw [e];rcases hpl with ⟨fs,hti,rfl⟩|⟨n,e',esz,a,hti,rfl⟩
  . rw [hti] at hm;cases ds<;>first|(simp [Ko] at hm; done)|skip
    rename_i fields;have hm':fsB P fields.toList fs=true:=hm;unfold Program.built;simp only [hj,hd,hjz,Qjw hm'];rw [<- h1];congr 1;funext k;simp
  . rw [hti] at hm;cases ds<;>first|(simp [Ko] at hm; done)|skip
    rename_i n' e'';simp only [Ko,Bool.and_eq_true,beq_iff_eq] at hm;obtain⟨⟨⟨_,he⟩,hi⟩,_⟩:=hm
    cases hie:P.info? e'' with
    | none=>rw [hie] at hi; simp at hi
    | some ie =>
     rw [hie] at hi;simp only [beq_iff_eq] at hi;unfold Program.built;simp only [hj,hd,hjz,hie,hi];exact h1
 refine⟨.agg cs'.toArray,?_,.agg _ _ h2.1 h2.2⟩;unfold execOp;simp only [Sem.run_bind,run_build w T _ _ hb,Result.andThen_ok,Sem.run_pure]
theorem Qcg {T e sz b:Nat} {i:K5} (ht:tyB P T i=true) (hi:i.ti = .slice e sz b):Q9w P T=some (e,sz):=by
 obtain⟨ds,hd,hm⟩:=Yu ht;rw [hi] at hm;cases ds<;>first|(simp [Ko] at hm; done)|skip
 rename_i e';simp only [Ko,Bool.and_eq_true,beq_iff_eq] at hm;obtain⟨⟨he,_⟩,h3⟩:=hm;unfold Q9w;rw [hd];subst he
 cases hj:P.info? e' with
 | none=>rw [hj] at h3; simp at h3
 | some j =>
  rw [hj] at h3;simp only [Bool.and_eq_true,beq_iff_eq] at h3;simp [hj,h3.1.1]
theorem Qhm {T e sz b:Nat} {i:K5} {x y:Operand} {fr:Bool} {t:Tc} {l:Unit->List t.el} {kk:IntKind} {k:Unit->Int} (ht:tyB P T i=true) (hi:i.ti = .slice e sz b) (hs:t.size=sz) (hx:AVR w ρ base ro (.sl fr t l) (r x)) (hy:r y = .int kk (k ())) (hk:0<=k ()/\k ()<((l ()).length:Int)) :
 ∃ v,(∀ w',(execOp r ⟨d,.indexAddr T x y,ty,pos,aft,gd⟩).run P w' = .ok (.value v) w')/\AVR w ρ base ro (.pto (Q8 fr t fun _=>(l ()).getD (k ()).toNat t.dflt) 0) v:=by
 obtain⟨A,c,css,hl,hc,hr,hro,_,hcell,hv⟩:=hx.sl_;have hkk:(k ()).toNat<css.length:=by omega
 obtain⟨b',o,hA,hlt,hlen,hcs⟩:=hr _ _ (List.getElem?_eq_getElem hkk);have hne:css ≠ []:=by intro h; rw [h] at hkk; simp at hkk
 have hE:=Q02 hlen fun j y v h1 h2=>hcell _ _ j y v (List.getElem?_eq_getElem hkk) h1 h2;subst hs;rw [hA] at hv;have e:(((k ()).toNat:Nat):Int)=k ():=by omega
 refine⟨_,fun w'=>Qgy hv (by rw [hy,e]) (Qcg ht hi) (by rw [e]; exact hk.2) rfl,?_⟩;exact .pto _ 0 b' (o+(k ()).toNat*t.size) _ (hro _ hA hne) hlt hE.1 hcs hE.2
theorem Qoo {ge:Nat->Option En} (hge:∀ loc e,ge loc=some e->EnR w ρ base ro loc e) {T e sz b loc T':Nat} {i:K5} {x y:Operand} {fr:Bool} {t:Tc} {l:Unit->List t.el} {kk:IntKind} {k:Unit->Int} (ht:tyB P T i=true) (hi:i.ti = .slice e sz b) (hs:t.size=sz) (he:ge loc=some (.row fr t T' l)) (hx:AVR w ρ base ro (.own loc) (r x)) (hy:r y = .int kk (k ())) (hk:0<=k ()/\k ()<((l ()).length:Int)) :
 ∃ v,(∀ w',(execOp r ⟨d,.indexAddr T x y,ty,pos,aft,gd⟩).run P w' = .ok (.value v) w')/\AVR w ρ base ro (.orp t loc k 0) v:=by
 obtain⟨A,c,css,hA,hown,hlen,hcell⟩:=hge _ _ he;obtain⟨A',n,c',hA',hv⟩:=hx.own_;rw [hA] at hA';injection hA' with hA';injection hA' with e1 e2 e3;subst e1; subst e2; subst e3;have hkk:(k ()).toNat<css.length:=by omega
 rcases hown.block with ⟨_,_,h0⟩|⟨g,cur,rfl,_,_,_⟩
 . rw [h0] at hkk; simp at hkk
 . subst hs;have e:(((k ()).toNat:Nat):Int)=k ():=by omega
   refine⟨_,fun w'=>Qgy hv (by rw [hy,e]) (Qcg ht hi) (by rw [e]; exact hk.2) rfl,?_⟩;rw [Nat.zero_add];exact .orp t loc k 0 _ _ _ g hA rfl hk.1 hk.2
/- cells of what is not called new -/
def AV.loose:AV->AV
 | .sl _ t l => .sl false t l
 | .wide _ t l n => .wide false t l n
 | x=>x
theorem J4 (fr:Bool) (t:Tc) (x:Unit->t.el):Q8 false t x=(Q8 fr t x).map AV.loose:=by cases t<;>rfl
theorem AVR.loose_ {x:AV} {v:Value} (h:AVR w ρ base ro x v):AVR w ρ base ro x.loose v:=by
 induction h with
 | sl fr t l A c css hl hc hr hro hfr h ih =>
  refine .sl false t l A c css hl hc hr hro (fun h=>by cases h) fun k cs j x v h1 h2 h3 => ?_;rw [J4 fr,List.getElem?_map] at h2
  cases hj:(Q8 fr t fun _=>(l ()).getD k t.dflt)[j]? with
  | none=>rw [hj] at h2; cases h2
  | some y =>
   rw [hj] at h2;simp only [Option.map_some,Option.some.injEq] at h2;subst h2;exact ih k cs j y v h1 hj h3
 | un=>exact .un _
 | int=>exact .int _ _
 | lit=>exact .lit _ _
 | bool=>exact .bool _
 | blit=>exact .blit _
 | str=>exact .str _
 | nil=>exact .nil
 | wide fr t l n A c hn h ih=>exact .wide false t l n A c hn ih
 | pto cells off b o cs hro hlt hl hc h _=>exact .pto cells off b o cs hro hlt hl hc h
 | ptr loc off b h=>exact .ptr _ _ _ h
 | own loc A n c h=>exact .own _ _ _ _ h
 | orp t loc k off A n c b h hA h0 hn=>exact .orp _ _ _ _ _ _ _ _ h hA h0 hn
 | osl t loc a b A n c h hab=>exact .osl _ _ _ _ _ _ _ h hab
 | mp l b h=>exact .mp _ _ h
 | stamp l s h=>exact .stamp _ _ h
 | it l l2 b h=>exact .it _ _ _ h
 | agg l vs hl h _=>exact .agg _ _ hl h
 | tup l vs hl h _=>exact .tup _ _ hl h
 | fn f caps vs hl h _=>exact .fn _ _ _ hl h
end
section
variable {P:Program} {r:Operand->Value} {d:Option Nat} {ty:TypeId} {pos:String} {aft:Array Edge} {gd:Option (Nat×Bool)} {u v:Value} {w:World}
variable {ρ:Nat->Option Rl} {base:Nat} {ro ra:Nat->Prop}
theorem Qv5 {l:Lk} {x:AV} {k:Unit->Kx} (h:Qr0 l x=some k) (hx:AVR w ρ base ro x v):v=(k ()).val/\l.fits (k ())=true:=by
 unfold Qr0 at h;split at h
 . split at h<;>cases h
   rename_i hk;subst hk;exact⟨hx.int_,by simp [Lk.fits]⟩
 . split at h<;>cases h
   rename_i hk;subst hk;exact⟨hx.lit_,by simp [Lk.fits]⟩
 . cases h;exact⟨hx.bool_,rfl⟩
 . cases h;exact⟨hx.blit_,rfl⟩
 . cases h;exact⟨hx.str_,rfl⟩
 . cases h
theorem Qeh:∀ {ls:List Lk} {xs:List AV} {k:Unit->List Kx} {vs:List Value},kxL ls xs=some k->Qj w ρ base ro xs vs->vs=(k ()).map Kx.val/\Zd ls (k ())=true
 | [],[],k,vs,h,hE=>by
  cases h;exact⟨hE.none,rfl⟩
 | l::ls,x::xs,k,vs,h,hE=>by
  unfold kxL at h;split at h
  . rename_i a b h1 h2;cases h;obtain⟨v,us,rfl,hx,hE'⟩:=hE.head;obtain⟨h3,h4⟩:=Qv5 h1 hx;obtain⟨h5,h6⟩:=Qeh h2 hE';exact⟨by rw [h3,h5]; rfl,by simp [Zd,h4,h6]⟩
  . cases h
 | [],_::_,_,_,h,_=>by cases h
 | _::_,[],_,_,h,_=>by cases h
theorem Qhc {c:Kc} {x:AV} {k:Unit->List Kx} (h:Q6s c x=some k) (hx:AVR w ρ base ro x v):Yq c v (k ()):=by
 cases c with
 | one l =>
  simp only [Q6s] at h
  cases hk:Qr0 l x with
  | none=>rw [hk] at h; cases h
  | some a =>
   rw [hk] at h;cases h;obtain⟨h1,h2⟩:=Qv5 hk hx;exact⟨h1,by simp [Kc.ls,Zd,h2]⟩
 | arr n l =>
  simp only [Q6s] at h;split at h
  . obtain⟨vs,rfl,hE⟩:=hx.agg_;obtain⟨h1,h2⟩:=Qeh h hE;exact⟨by rw [h1]; rfl,h2⟩
  . cases h
 | st ls =>
  simp only [Q6s] at h;split at h
  . obtain⟨vs,rfl,hE⟩:=hx.agg_;obtain⟨h1,h2⟩:=Qeh h hE;exact⟨by rw [h1]; rfl,h2⟩
  . cases h
theorem Qj0 {l:Lk} {x:Unit->Kx} (h:l.fits (x ())=true):AVR w ρ base ro (Qey l x) (x ()).val:=by
 cases l<;>cases hx:x ()<;>rw [hx] at h<;>simp only [Lk.fits,Bool.false_eq_true,decide_eq_true_eq] at h
 . rename_i k k' n;subst h;have:Value.int k n=Value.int k ((x ()).num):=by rw [hx]; rfl
   show AVR w ρ base ro _ (Value.int k n)
   rw [this];exact .int _ _
 . rename_i p;have:Value.bool p=Value.bool ((x ()).flag):=by rw [hx]; rfl
   show AVR w ρ base ro _ (Value.bool p)
   rw [this];exact .bool _
 . rename_i s;have:Value.string s=Value.string ((x ()).txt):=by rw [hx]; rfl
   show AVR w ρ base ro _ (Value.string s)
   rw [this];exact .str _
theorem Q9b {k:Unit->List Kx}:∀ {ls:List Lk} {n:Nat},Zd ls ((k ()).drop n)=true->Qj w ρ base ro (Qbt ls n k) (((k ()).drop n).map Kx.val)
 | [],n,h=>by
  rw [Zs h];exact .nil
 | l::ls,n,h=>by
  obtain⟨x,q,e,hx,hq⟩:=Zn h;obtain⟨g,dq⟩:=Q0x e;have ih:=Q9b (k:=k) (ls:=ls) (n:=n+1) (by rw [dq]; exact hq);rw [dq] at ih;rw [e];have hv:(k ()).getD n (.i .i64 0)=x:=by simp [List.getD_eq_getElem?_getD,g]
  refine .cons ?_ ih;have h1:=Qj0 (w:=w) (ρ := ρ) (base:=base) (ro:=ro) (l:=l) (x:=fun _=>(k ()).getD n (.i .i64 0)) (by simp only [hv]; exact hx);simp only [hv] at h1 ⊢;exact h1
theorem Qzg {c:Kc} {k:Unit->List Kx} (h:Yq c v (k ())):AVR w ρ base ro (Qiu c k) v:=by
 obtain⟨h1,h2⟩:=h
 cases c with
 | one l =>
  obtain⟨x,q,e,hx,hq⟩:=Zn h2;cases Zs hq;rw [h1,e];have hv:(k ()).getD 0 (.i .i64 0)=x:=by rw [e]; rfl
  have h3:=Qj0 (w:=w) (ρ := ρ) (base:=base) (ro:=ro) (l:=l) (x:=fun _=>(k ()).getD 0 (.i .i64 0)) (by simp only [hv]; exact hx);simp only [hv] at h3;show AVR w ρ base ro (Qey l fun _=>(k ()).getD 0 (.i .i64 0)) x.val
  simp only [hv];exact h3
 | arr n l =>
  have h3:=Q9b (w:=w) (ρ := ρ) (base:=base) (ro:=ro) (k:=k) (ls:=List.replicate n l) (n:=0) (by simpa [Kc.ls] using h2);rw [h1];exact .agg _ _ h3.1 h3.2
 | st ls =>
  have h3:=Q9b (w:=w) (ρ := ρ) (base:=base) (ro:=ro) (k:=k) (ls:=ls) (n:=0) (by simpa [Kc.ls] using h2);rw [h1];exact .agg _ _ h3.1 h3.2
theorem Qto {l:List AV} {vs:List Value} (h:Qj w ρ base ro l vs):Qj w ρ base ro (l.map AV.loose) vs:=by
 refine⟨by simp [h.1],fun j x v hx hv => ?_⟩;rw [List.getElem?_map] at hx
 cases hj:l[j]? with
 | none=>rw [hj] at hx; cases hx
 | some y =>
  rw [hj] at hx;simp only [Option.map_some,Option.some.injEq] at hx;subst hx;exact (h.2 j y v hj hv).loose_
theorem Q5k {ag fr fr':Bool} {t:Tc} {x:Unit->t.el} (h:AVR w ρ base ro (Yh ag fr t x) v) (hf:fr'=true->fr=true):AVR w ρ base ro (Yh ag fr' t x) v:=by
 cases fr' with
 | true=>rw [hf rfl] at h; exact h
 | false =>
  unfold Yh at h ⊢
  cases ag with
  | true =>
   simp only [if_true] at h ⊢;obtain⟨vs,rfl,hE⟩:=h.agg_;rw [J4 fr];have:=Qto hE;exact .agg _ _ this.1 this.2
  | false =>
   simp only [Bool.false_eq_true,if_false] at h ⊢;rw [J4 fr]
   cases hc:Q8 fr t x with
   | nil=>exact .un _
   | cons c l =>
    rw [hc] at h
    cases l with
    | nil=>exact AVR.loose_ h
    | cons c2 l=>exact .un _
theorem Qew {T kt et:Nat} {i:K5} {c:Kc} {t:Tc} {ag:Bool} (h:tyB P T i=true) (hi:i.ti = .map kt et c t ag):P.underlying T=some (.map kt et)/\kcB P kt c=true/\(ag=true\/t.size=1)/\∃ j z,P.info? et=some j/\j.zero=some z/\AVR w ρ base ro (Yh ag true t fun _=>t.dflt) z:=by
 obtain⟨ds,hd,hm⟩:=Yu h;rw [hi] at hm;cases ds<;>first|(simp [Ko] at hm; done)|skip
 rename_i k e;simp only [Ko,Bool.and_eq_true,beq_iff_eq,Bool.or_eq_true] at hm;obtain⟨⟨⟨⟨rfl,rfl⟩,h1,h2⟩,h3⟩,h4⟩:=hm;refine⟨hd,h1,h3,?_⟩
 cases hj:P.info? e with
 | none=>rw [hj] at h4; cases h4
 | some j =>
  rw [hj] at h4;simp only at h4
  cases hz:j.zero with
  | none=>rw [hz] at h4; cases h4
  | some z =>
   rw [hz] at h4;simp only [Bool.and_eq_true] at h4;refine⟨j,z,rfl,hz,?_⟩;have hE:Qj w ρ base ro (Q8 true t fun _=>t.dflt) z.cells.toList:=Qhb h4.1;have hs:=h4.2;unfold Yh
   cases ag with
   | true =>
    simp only [if_true];cases z<;>simp [Qtj] at hs;rename_i cs;have:Qj w ρ base ro (Q8 true t fun _=>t.dflt) cs.toList:=hE;have h5:AVR w ρ base ro (.agg (Q8 true t fun _=>t.dflt)) (.agg cs.toList.toArray) := .agg _ _ this.1 this.2;simpa using h5
   | false =>
    simp only [Bool.false_eq_true,if_false];have hl:(Q8 true t fun _=>t.dflt).length=1:=by
     rw [Q8v];rcases h3 with h3|h3
     . cases h3
     . exact h3
    have hzc:z.cells = #[z]:=by cases z<;>first|rfl|simp [Qtj] at hs
    cases hc:Q8 true t fun _=>t.dflt with
    | nil=>rw [hc] at hl; cases hl
    | cons x l =>
     rw [hc] at hl hE
     cases l with
     | cons y l=>simp at hl
     | nil =>
      rw [hzc] at hE;exact hE.2 0 x z rfl rfl
theorem Qse {T:Nat} {j:TypeInfo} {z:Value} (hj:P.info? T=some j) (hz:j.zero=some z):(zeroValue T).run P w = .ok z w:=by
 unfold zeroValue;simp only [typeInfo,Sem.run_bind,Sem.run_pure,Result.andThen_ok,run_program,hj,hz]
theorem Q00.keys {fr ag:Bool} {c:Kc} {t:Tc} {m:List Kx->Option t.el} {es:Array MapEntry} (h:Q00 w ρ base ro fr ag c t m es):∀ e∈es.toList,∃ b,Yq c e.key b:=fun e he=>by
 obtain⟨key,x,h1,_⟩:=h.1 e he;exact⟨key,h1⟩
theorem Q84 {c:Kc} {a b:List Kx} (h1:Yq c v a) (h2:Yq c v b):a=b:=Qlg h1.2 h2.2 (h1.1.symm.trans h2.1)
theorem Q00.find {fr ag:Bool} {c:Kc} {t:Tc} {m:List Kx->Option t.el} {es:Array MapEntry} {kt:Nat} {key:List Kx} (h:Q00 w ρ base ro fr ag c t m es) (hk:kcB P kt c=true) (hv:Yq c v key) :
 ((Instr.findKey kt v es.toList).run P w = .ok none w/\m key=none/\∀ e∈es.toList,¬ Yq c e.key key)\/∃ j e x,(Instr.findKey kt v es.toList).run P w = .ok (some (j,e.val)) w/\es[j]? = some e/\Yq c e.key key/\m key=some x/\AVR w ρ base ro (Yh ag fr t fun _=>x) e.val:=by
 rw [hv.1];rcases Z32 (P:=P) (w:=w) hk hv.2 es.toList h.keys with ⟨h1,h2⟩|⟨j,e,h1,h2,h3⟩
 . refine .inl ⟨h1,?_,h2⟩
   cases hm:m key with
   | none=>rfl
   | some x =>
    obtain⟨e,he,h3⟩:=h.2 key x hv.2 hm;exact absurd h3 (h2 e he)
 . obtain⟨key',x,h4,h5,h6⟩:=h.1 e (List.mem_of_getElem? h2);cases Q84 h3 h4;exact .inr ⟨j,e,x,h1,by simpa using h2,h3,h5,h6⟩
theorem Z0q {T kt et:Nat} {i:K5} {c:Kc} {t:Tc} {ag fr ok:Bool} {x y:Operand} {loc T':Nat} {m:Unit->List Kx->Option t.el} {k:Unit->List Kx} (ht:tyB P T i=true) (hi:i.ti = .map kt et c t ag) (he:EnR w ρ base ro loc (.map fr ag c t T' m)) (hx:AVR w ρ base ro (.mp loc) (r x)) (hk:Yq c (r y) (k ())) :
 ∃ v,(execOp r ⟨d,.lookup T x y ok,ty,pos,aft,gd⟩).run P w = .ok (.value v) w/\AVR w ρ base ro (Qjk ag fr t (fun _=>m () (k ())) ok) v:=by
 obtain⟨hu,hkc,_,j,z,hj,hz,hzr⟩:=Qew (w:=w) (ρ := ρ) (base:=base) (ro:=ro) ht hi;obtain⟨b,es,clock,hb,hh,hst,hm⟩:=he;obtain⟨b',hb',hx'⟩:=hx.mp_;rw [hb] at hb';injection hb' with hb';injection hb' with hb';subst hb';have hgo:∀ (o:Option (Nat×Value)),(Instr.findKey kt (r y) es.toList).run P w = .ok o w->(execOp r ⟨d,.lookup T x y ok,ty,pos,aft,gd⟩).run P w = .ok (.value (if ok then .tuple #[(match o with|some (_,u)=>u|none=>z),.bool o.isSome] else match o with|some (_,u)=>u|none=>z)) w:=by
  intro o ho;unfold execOp;simp only [Instr.lookup,hx',Sem.run_bind,run_underlying hu,Result.andThen_ok,MapKept.run_getObj_map hh,Sem.run_pure];rw [hk.1] at ho ⊢;rw [Q80 (w:=w) hkc hk.2];simp only [Result.andThen_ok,ho]
  cases o with
  | none=>simp only [Sem.run_bind,Qse hj hz,Result.andThen_ok,Sem.run_pure]; rfl
  | some p=>obtain⟨n,u⟩:=p; simp only [Sem.run_bind,Result.andThen_ok,Sem.run_pure]; rfl
 have hfin:∀ (u:Value) (q:Bool),AVR w ρ base ro (Yh ag fr t fun _=>(m () (k ())).getD t.dflt) u->(m () (k ())).isSome=q->AVR w ρ base ro (Qjk ag fr t (fun _=>m () (k ())) ok) (if ok then .tuple #[u,.bool q] else u):=by
  intro u q h1 h2;unfold Qjk
  cases ok with
  | false=>exact h1
  | true =>
   simp only [if_true];have h3:Qj w ρ base ro [Yh ag fr t fun _=>(m () (k ())).getD t.dflt,.bool fun _=>(m () (k ())).isSome] [u,.bool q] := .cons h1 (.cons (by rw [<- h2]; exact .bool _) .nil);exact .tup _ _ h3.1 h3.2
 rcases hm.find (P:=P) hkc hk with ⟨h1,h2,_⟩|⟨n,e,x',h1,_,_,h3,h4⟩
 . refine⟨_,hgo _ h1,hfin z false ?_ (by rw [h2]; rfl)⟩;have:(fun _:Unit=>(m () (k ())).getD t.dflt)=fun _=>t.dflt:=by rw [h2]; rfl
   rw [this];exact Q5k hzr fun _=>rfl
 . refine⟨_,hgo _ h1,hfin e.val true ?_ (by rw [h3]; rfl)⟩;have:(fun _:Unit=>(m () (k ())).getD t.dflt)=fun _=>x':=by rw [h3]; rfl
   rw [this];exact h4
theorem Z4a {x:Operand} {ml l2 T:Nat} {c:Kc} {t:Tc} {ag fr:Bool} {m:Unit->List Kx->Option t.el} {seen:Unit->List (List Kx)} {left:Unit->Nat} (he:EnR w ρ base ro ml (.map fr ag c t T m)) (hi:EnR w ρ base ro l2 (.iter ml c seen left)) (hx:AVR w ρ base ro (.it ml l2) (r x)) (hs:seen () ≠ []) :
 ∃ v,(execOp r ⟨d,.entry x,ty,pos,aft,gd⟩).run P w = .ok (.value v) w/\AVR w ρ base ro (.tup [Qiu c fun _=>(seen ()).headD [],Yh ag fr t fun _=>(m () ((seen ()).headD [])).getD t.dflt]) v:=by
 obtain⟨b,es,clock,hb,hh,hst,hm⟩:=he;obtain⟨b',b2,es',clock',since,stamps,c0,h1,h2,h3,h4,h5,h6,h7,h8,h9⟩:=hi;rw [hb] at h2;injection h2 with h2;injection h2 with h2;subst h2;rw [hh] at h3;injection h3 with h3;injection h3 with e1 e2;subst e1; subst e2;obtain⟨b3,hb3,hx'⟩:=hx.it_;rw [h1] at hb3;injection hb3 with hb3;injection hb3 with hb3;subst hb3;obtain⟨key,rest,hkr⟩:∃ key rest,seen ()=key::rest:=by
  cases hse:seen () with
  | nil=>exact absurd hse hs
  | cons key rest=>exact⟨key,rest,rfl⟩
 obtain⟨rfl,e,heM,hback,hkey⟩:=h9 key rest hkr;have hst':=(MapKept.stamped_iff es c0).1 hst;have hf:es.find? (·.born==e.born)=some e:=by rw [<- Array.find?_toList]; exact find_born e es.toList hst'.2.1 heM
 obtain⟨key',x',k1,k2,k3⟩:=hm.1 e heM;cases Q84 hkey k1;refine⟨.tuple #[e.key,e.val],?_,?_⟩
 . unfold execOp;simp only [Instr.entry,hx',getObj,Sem.run_bind,Sem.run,h4,hh,Result.andThen,hback,bne_self_eq_false,Bool.false_eq_true,if_false,hf];rfl
 . have e3:(fun _:Unit=>(m () ((seen ()).headD [])).getD t.dflt)=fun _=>x':=by rw [hkr]; simp [k2]
   have h10:Qj w ρ base ro [Qiu c fun _=>(seen ()).headD [],Yh ag fr t fun _=>(m () ((seen ()).headD [])).getD t.dflt] [e.key,e.val] := .cons (Qzg (by simp only [hkr,List.headD_cons]; exact hkey)) (.cons (by rw [e3]; exact k3) .nil);exact .tup _ _ h10.1 h10.2
theorem Z47 {tb:Tab} (hty:Zw P tb) {T t':Nat} {i:K5} {x y:Operand} (hi:Q3 tb T=some i) (hne:i.eq.isEmpty=false) {cs ds:List AV} {a b:Unit->List Kx} (ha:kxL i.eq cs=some a) (hb:kxL i.eq ds=some b) (hx:AVR w ρ base ro (.agg cs) (r x)) (hy:AVR w ρ base ro (.agg ds) (r y)) (w':World) :
 (execOp r ⟨d,.binOp .eql T x y t',ty,pos,aft,gd⟩).run P w' = .ok (.value (.bool (decide (a ()=b ())))) w'/\(execOp r ⟨d,.binOp .neq T x y t',ty,pos,aft,gd⟩).run P w' = .ok (.value (.bool (!decide (a ()=b ())))) w':=by
 obtain⟨vs,hvs,hE⟩:=hx.agg_;obtain⟨us,hus,hF⟩:=hy.agg_;obtain⟨rfl,f1⟩:=Qeh ha hE;obtain⟨rfl,f2⟩:=Qeh hb hF;have ht:=hty T i hi;unfold tyB at ht;simp only [Bool.and_eq_true] at ht;have he:=ht.2;unfold Z4v at he;rw [hne,Bool.false_or] at he;simp only [Bool.and_eq_true,Bool.not_eq_true'] at he;obtain⟨⟨hag,hfl⟩,hg⟩:=he;have h3:=Qhd (P:=P) 20 10000 (by omega) T i.eq hfl;rw [hag] at h3;have h4:(Op.equalIn 10000 T (.agg ((a ()).map Kx.val).toArray) (.agg ((b ()).map Kx.val).toArray)).run P w' = .ok (decide (a ()=b ())) w':=h3 w' _ _ f1 f2;have g1:=run_eqGuard_agg (w:=w') .eql T x y ((a ()).map Kx.val).toArray ((b ()).map Kx.val).toArray hg;have g2:=run_eqGuard_agg (w:=w') .neq T x y ((a ()).map Kx.val).toArray ((b ()).map Kx.val).toArray hg;constructor
 . unfold execOp;simp only [hvs,hus,Sem.run_bind,g1,Result.andThen_ok,run_eql_struct,h4,Sem.run_pure]
 . unfold execOp;simp only [hvs,hus,Sem.run_bind,g2,Result.andThen_ok,run_neq_struct,h4,Sem.run_pure]
theorem Qo2 {tb:Tab} (hty:Zw P tb) {op:BinOp} {T t':Nat} {x y:Operand} {cs ds:List AV} {av:AV} {vcs:List VC} (h:Qjc (Q3 tb T) op (.agg cs) (.agg ds)=some (av,vcs)) (hx:AVR w ρ base ro (.agg cs) (r x)) (hy:AVR w ρ base ro (.agg ds) (r y)) :
 ∃ v,(∀ w',(execOp r ⟨d,.binOp op T x y t',ty,pos,aft,gd⟩).run P w' = .ok (.value v) w')/\AVR w ρ base ro av v:=by
 unfold Qjc at h;dsimp only at h;split at h
 . rename_i i hi;split at h
   . cases h
   . rename_i hne;split at h
     . rename_i a b ha hb;have h1:=fun w'=>Z47 (d:=d) (ty:=ty) (pos:=pos) (aft:=aft) (gd:=gd) (t':=t') hty hi (by simpa using hne) ha hb hx hy w';split at h
       . cases h;exact⟨_,fun w'=>(h1 w').1,.bool _⟩
       . cases h;exact⟨_,fun w'=>(h1 w').2,.bool fun _ => !decide (a ()=b ())⟩
       . cases h
     . cases h
 . cases h
theorem Qre {fr:Bool} {t:Tc} {l:Unit->List t.el} {a b:Nat} {A:Option Addr} {n c:Nat} (h:AVR w ρ base ro (.sl fr t l) (.slice A n c)) (hab:a<=b) (hb:b<=(l ()).length):AVR w ρ base ro (.sl fr t fun _=>((l ()).take b).drop a) (sliced A a b c t.size):=by
 obtain⟨A',c',css,hl,hc,hr,hro,hfr,hcs,hv⟩:=h.sl_;injection hv with e1 e2 e3;subst e1; subst e2; subst e3;have hlen:((css.take b).drop a).length=b - a:=by simp [hl]; omega
 have hlen2:(((l ()).take b).drop a).length=b - a:=by simp; omega
 have hget:∀ (k:Nat) cs,((css.take b).drop a)[k]? = some cs->css[a+k]? = some cs/\a+k<b:=by
  intro k cs hk;rw [List.getElem?_drop,List.getElem?_take] at hk;split at hk
  . exact⟨hk,by assumption⟩
  . cases hk
 have hne:∀ (x:Unit),(css.take b).drop a ≠ []->c≠a:=by
  intro _ hn;have:0<b - a:=by rw [<- hlen]; exact List.length_pos_iff.2 hn
  omega
 have hnon:(css.take b).drop a ≠ []->css ≠ []:=fun hn e=>hn (by rw [e]; simp);have hA:∀ ad,(if c=a then A else A.map (·.add (a*t.size)))=some ad->(css.take b).drop a ≠ []->∃ a0,A=some a0/\ad.block=a0.block:=by
  intro ad he hn;rw [if_neg (hne () hn)] at he;obtain⟨a0,h1,h2⟩:=Option.map_eq_some_iff.1 he;obtain⟨c0,rest,hc0⟩:=List.exists_cons_of_ne_nil (hnon hn);obtain⟨bl,off,h3,_⟩:=hr 0 c0 (by rw [hc0]; rfl);rw [h3] at h1;injection h1 with h1;subst h1;exact⟨_,h3,by rw [<- h2,Addr.add_lit]⟩
 show AVR w ρ base ro _ (.slice (if c=a then A else A.map (·.add (a*t.size))) (b - a) (c - a))
 rw [<- hlen2];refine .sl fr t (fun _=>((l ()).take b).drop a) _ _ ((css.take b).drop a) (by rw [hlen,hlen2]) (by rw [hlen]; omega) ?_ (fun ad he hn => ?_) (fun hf ad he hn => ?_) ?_
 . intro k cs hk;obtain⟨h1,h2⟩:=hget k cs hk;obtain⟨bl,off,h3,h4,h5,h6⟩:=hr (a+k) cs h1;refine⟨bl,off+a*t.size,?_,h4,h5,fun j u hu => ?_⟩
   . rw [if_neg (by omega),h3,Option.map_some,Addr.add_lit]
   . have:=h6 j u hu;rw [Nat.add_mul] at this;rw [show off+a*t.size+k*t.size+j=off+(a*t.size+k*t.size)+j by omega];exact this
 . obtain⟨a0,h1,h2⟩:=hA ad he hn;rw [h2];exact hro a0 h1 (hnon hn)
 . obtain⟨a0,h1,h2⟩:=hA ad he hn;rw [h2];exact hfr hf a0 h1 (hnon hn)
 . intro k cs j x v hk hx hv;obtain⟨h1,h2⟩:=hget k cs hk;refine hcs (a+k) cs j x v h1 ?_ hv;have e:(((l ()).take b).drop a).getD k t.dflt=(l ()).getD (a+k) t.dflt:=by
    rw [List.getD_eq_getElem?_getD,List.getD_eq_getElem?_getD,List.getElem?_drop,List.getElem?_take,if_pos h2]
   rw [<- e];exact hx
theorem Qsm {g:Operand->AV} {dd:Unit->Int} {o:Option Operand} {f:Unit->Int} (h:G5 g dd o=some f) (hg:∀ x,o=some x->AVR w ρ base ro (g x) (r x)):(o=none/\f=dd)\/∃ x k,o=some x/\r x = .int k (f ()):=by
 cases o with
 | none =>
  simp only [G5,Option.some.injEq] at h;exact .inl ⟨rfl,h.symm⟩
 | some x =>
  simp only [G5] at h
  cases hx:(g x).asInt with
  | none=>rw [hx] at h; cases h
  | some p =>
   obtain⟨k,n⟩:=p;rw [hx] at h;cases h;exact .inr ⟨x,k,rfl,Yn hx (hg x rfl)⟩
theorem Qja {tb:Tab} (hty:Zw P tb) {T e sz bb n c:Nat} {i:K5} {x:Operand} {lo hi:Option Operand} {a b:Unit->Int} {g:Operand->AV} {A:Option Addr} (hT:Q3 tb T=some i) (hi':i.ti = .slice e sz bb)
 (hrx:r x = .slice A n c) (hnc:n<=c) (ha:G5 g (fun _=>0) lo=some a) (hb:G5 g (fun _=>(n:Int)) hi=some b) (hgl:∀ y,lo=some y->AVR w ρ base ro (g y) (r y)) (hgh:∀ y,hi=some y->AVR w ρ base ro (g y) (r y)) (hv:0<=a ()/\a ()<=b ()/\b ()<=(n:Int)) :
 (execOp r ⟨d,.slice T x lo hi none,ty,pos,aft,gd⟩).run P w = .ok (.value (sliced A (a ()).toNat (b ()).toNat c sz)) w:=by
 have hu:P.underlying T=some (.slice (P.elem T))/\∀ w',(sizeOf (P.elem T)).run P w' = .ok sz w':=by
  obtain⟨ds,hd,hm⟩:=Yu (hty T i hT);rw [hi'] at hm;cases ds<;>first|(simp [Ko] at hm; done)|skip
  rename_i e';simp only [Ko,Bool.and_eq_true,beq_iff_eq] at hm;obtain⟨⟨he,_⟩,hm⟩:=hm;subst he
  cases hj:P.info? e' with
  | none=>rw [hj] at hm; cases hm
  | some j =>
   rw [hj] at hm;simp only [Bool.and_eq_true,beq_iff_eq] at hm;have he:P.elem T=e':=by simp [Program.elem,hd]
   rw [he];exact⟨hd,fun w'=>by rw [run_sizeOf w' hj]; simp [Program.cellsOf,hj,hm.1.1]⟩
 obtain⟨hu,hsz⟩:=hu;obtain⟨v0,v1,v2⟩:=hv;unfold execOp;simp only [hrx,run_sliceAt_slice _ _ _ _ _ _ hu,Sem.run_bind];have hbc:b ()<=(c:Int):=by omega
 rcases Qsm ha hgl with ⟨rfl,ea⟩|⟨yl,kl,rfl,ea⟩<;>rcases Qsm hb hgh with ⟨rfl,eb⟩|⟨yh,kh,rfl,eb⟩
 . subst ea; subst eb;simp only [Option.map_none,run_slice_all _ _ _ _ _ hu,hsz,Result.andThen_ok,Sem.run_pure,Int.toNat_natCast,Int.toNat_zero]
 . subst ea;simp only [Option.map_none,Option.map_some,eb,run_slice_h w T A n c hu kh (b ()) (Int.le_trans v0 v1) hbc,hsz,Result.andThen_ok,Sem.run_pure,Int.toNat_zero]
 . subst eb;simp only [Option.map_none,Option.map_some,ea,run_slice_l _ _ _ _ _ hu kl (a ()) (by omega) (by omega),hsz,Result.andThen_ok,Sem.run_pure,Int.toNat_natCast]
 . simp only [Option.map_none,Option.map_some,ea,eb,run_slice_lh w T A n c hu kl kh (a ()) (b ()) v0 v1 hbc,hsz,Result.andThen_ok,Sem.run_pure]
theorem Qwu {tb:Tab} (hty:Zw P tb) {T e sz bb:Nat} {i:K5} {x:Operand} {lo hi:Option Operand} {fr:Bool} {t:Tc} {l:Unit->List t.el} {a b:Unit->Int} {g:Operand->AV} (hT:Q3 tb T=some i) (hi':i.ti = .slice e sz bb) (hs:t.size=sz)
 (hx:AVR w ρ base ro (.sl fr t l) (r x)) (ha:G5 g (fun _=>0) lo=some a) (hb:G5 g (fun _=>((l ()).length:Int)) hi=some b) (hgl:∀ y,lo=some y->AVR w ρ base ro (g y) (r y)) (hgh:∀ y,hi=some y->AVR w ρ base ro (g y) (r y)) (hv:0<=a ()/\a ()<=b ()/\b ()<=((l ()).length:Int)) :
 ∃ v,(execOp r ⟨d,.slice T x lo hi none,ty,pos,aft,gd⟩).run P w = .ok (.value v) w/\AVR w ρ base ro (.sl fr t fun _=>((l ()).take (b ()).toNat).drop (a ()).toNat) v:=by
 obtain⟨A,c,css,h1,h2,h3,h4,h5,h6,hrx⟩:=hx.sl_;refine⟨_,Qja hty hT hi' hrx (by omega) ha hb hgl hgh hv,?_⟩;rw [hrx] at hx;rw [<- hs];exact Qre hx (by omega) (by omega)
theorem Qny {tb:Tab} (hty:Zw P tb) {ge:Nat->Option En} (hge:∀ loc e,ge loc=some e->EnR w ρ base ro loc e) {T e sz bb loc T':Nat} {i:K5} {x:Operand} {lo hi:Option Operand} {fr:Bool} {t:Tc} {l:Unit->List t.el} {a b:Unit->Int} {g:Operand->AV} (hT:Q3 tb T=some i) (hi':i.ti = .slice e sz bb) (hs:t.size=sz)
 (he:ge loc=some (.row fr t T' l)) (hx:AVR w ρ base ro (.own loc) (r x)) (ha:G5 g (fun _=>0) lo=some a) (hb:G5 g (fun _=>((l ()).length:Int)) hi=some b) (hgl:∀ y,lo=some y->AVR w ρ base ro (g y) (r y)) (hgh:∀ y,hi=some y->AVR w ρ base ro (g y) (r y)) (hv:0<=a ()/\a ()<=b ()/\b ()<=((l ()).length:Int)) :
 ∃ v,(execOp r ⟨d,.slice T x lo hi none,ty,pos,aft,gd⟩).run P w = .ok (.value v) w/\AVR w ρ base ro (.osl t loc (fun _=>(a ()).toNat) fun _=>(b ()).toNat) v:=by
 obtain⟨A,c,css,hA,hown,hlen,_⟩:=hge _ _ he;obtain⟨A',n,c',hA',hrx⟩:=hx.own_;rw [hA] at hA';injection hA' with hA';injection hA' with e1 e2 e3;subst e1; subst e2; subst e3;have hcap:=hown.cap.1;refine⟨_,Qja hty hT hi' hrx (by omega) ha hb hgl hgh hv,?_⟩;rw [<- hs];exact .osl t loc (fun _=>(a ()).toNat) (fun _=>(b ()).toNat) A _ c hA ⟨by omega,by omega⟩
theorem Qzk {B size c a b:Nat} {A:Option Addr} {css:List (List Value)} (hr:Rd w B size A css) (hab:a<=b) (hb:b<=css.length) (hc:css.length<=c):∃ X,sliced A a b c size = .slice X (b - a) (c - a)/\Rd w B size X ((css.take b).drop a):=by
 refine⟨_,rfl,fun k cs hk => ?_⟩;rw [List.getElem?_drop,List.getElem?_take] at hk;split at hk
 . rename_i hlt;obtain⟨bl,off,h3,h4,h5,h6⟩:=hr (a+k) cs hk;refine⟨bl,off+a*size,?_,h4,h5,fun j u hu => ?_⟩
   . rw [if_neg (by omega),h3,Option.map_some,Addr.add_lit]
   . have:=h6 j u hu;rw [Nat.add_mul] at this;rw [show off+a*size+k*size+j=off+(a*size+k*size)+j by omega];exact this
 . cases hk
end
end Go.Proofs.YtffeegebohigdaaGreat
