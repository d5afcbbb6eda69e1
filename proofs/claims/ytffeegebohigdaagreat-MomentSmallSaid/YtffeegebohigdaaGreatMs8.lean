/-
  Elements of arrays, bytes of texts.
-/
import Derived.Test.YtffeegebohigdaaGreatMs7
set_option linter.unusedVariables false
set_option linter.unusedSimpArgs false
namespace Go.Proofs.YtffeegebohigdaaGreat
open Go.RowKit
section
variable {P:Program} {r:Operand->Value} {d:Option Nat} {ty:TypeId} {pos:String} {aft:Array Edge} {gd:Option (Nat×Bool)} {u v:Value} {w:World}
variable {ρ:Nat->Option Rl} {base:Nat} {ro:Nat->Prop}
theorem AVR.wide_ {fr:Bool} {t:Tc} {l:Unit->List t.el} {n:Unit->Nat} (h:AVR w ρ base ro (.wide fr t l n) v):∃ A c,n ()<=(l ()).length/\AVR w ρ base ro (.sl fr t l) (.slice A (l ()).length c)/\v = .slice A (n ()) c:=by
 cases h with
 | wide _ _ _ _ A c hn h=>exact⟨A,c,hn,h,rfl⟩
theorem Q0y {fr:Bool} {t:Tc} {l:Unit->List t.el} {n:Unit->Nat} (h:AVR w ρ base ro (.wide fr t l n) v):AVR w ρ base ro (.sl fr t fun _=>(l ()).take (n ())) v:=by
 obtain⟨A,c,hn,h2,rfl⟩:=h.wide_;obtain⟨A',c',css,hl,hc,hr,hro,hfr,hcs,hv⟩:=h2.sl_;injection hv with e1 e2 e3;subst e1; subst e3;have hlen:((l ()).take (n ())).length=n ():=by rw [List.length_take]; omega
 have hnon:css.take (n ()) ≠ []->css ≠ []:=fun hn e=>hn (by rw [e]; simp);have key:AVR w ρ base ro (.sl fr t fun _=>(l ()).take (n ())) (.slice A ((l ()).take (n ())).length c):=by
  refine .sl fr t (fun _=>(l ()).take (n ())) A c (css.take (n ())) (by rw [List.length_take,hlen]; omega) (by rw [List.length_take]; omega) (fun k cs hk => ?_) (fun a ha hq=>hro a ha (hnon hq)) (fun hf a ha hq=>hfr hf a ha (hnon hq)) fun k cs j x v h1 h2 h3 => ?_
  . rw [List.getElem?_take] at hk;split at hk
    . exact hr k cs hk
    . cases hk
  . rw [List.getElem?_take] at h1;split at h1
    . rename_i hk;refine hcs k cs j x v h1 ?_ h3;have e:((l ()).take (n ())).getD k t.dflt=(l ()).getD k t.dflt:=by rw [List.getD_eq_getElem?_getD,List.getD_eq_getElem?_getD,List.getElem?_take,if_pos hk]
      rw [<- e];exact h2
    . cases h1
 rwa [hlen] at key
/- elements without what lies behind their slices -/
def AV.thin:AV->AV
 | .sl _ t l => .sl false t l
 | .wide _ t l n => .sl false t fun _=>(l ()).take (n ())
 | x=>x
theorem AVR.thin_ {x:AV} (h:AVR w ρ base ro x v):AVR w ρ base ro x.thin v:=by
 cases x<;>first|exact h.loose_|exact (Q0y h).loose_|exact h
theorem Z21 {t t':Tc} {f:t.el->t'.el} (h:cvT t t'=some f) (fr:Bool) (x:Unit->t.el):Q8 false t' (fun _=>f (x ()))=(Q8 fr t x).map AV.thin:=by
 unfold cvT at h;split at h<;>first|(cases h; rfl)|cases h
theorem Z2p {t t':Tc} {f:t.el->t'.el} (h:cvT t t'=some f):t'.size=t.size:=by
 unfold cvT at h;split at h<;>first|rfl|cases h
theorem Z7i {fr:Bool} {t t':Tc} {l:Unit->List t.el} {n:Unit->Nat} {av:AV} (h:cvW t t' l n=some av) (hx:AVR w ρ base ro (.wide fr t l n) v):AVR w ρ base ro av v/\AV.plain false av=true:=by
 unfold cvW at h;split at h
 . rename_i f hf;cases h;refine⟨?_,rfl⟩;have h1:=Q0y hx;generalize hL:(fun (_:Unit)=>(l ()).take (n ()))=L at h1;obtain⟨A,c,css,hl,hc,hr,hro,_,hcs,rfl⟩:=h1.sl_;have key:AVR w ρ base ro (.sl false t' fun _=>(L ()).map f) (.slice A ((L ()).map f).length c):=by
    refine .sl false t' (fun _=>(L ()).map f) A c css (by rw [List.length_map]; exact hl) hc (by rw [Z2p hf]; exact hr) hro (fun h=>by cases h) fun k cs j x v h1 h2 h3 => ?_;have hk:k<(L ()).length:=by rw [<- hl]; exact (List.getElem?_eq_some_iff.1 h1).1
    have e:((L ()).map f).getD k t'.dflt=f ((L ()).getD k t.dflt):=by simp [List.getD_eq_getElem?_getD,List.getElem?_eq_getElem hk]
    rw [e,Z21 hf fr fun _=>(L ()).getD k t.dflt,List.getElem?_map] at h2;obtain⟨y,h4,rfl⟩:=Option.map_eq_some_iff.1 h2;exact (hcs k cs j y v h1 h4 h3).thin_
   rw [List.length_map] at key;subst hL;exact key
 . cases h
theorem Qor {T e sz b:Nat} {i:K5} {x y:Operand} {fr:Bool} {t:Tc} {l:Unit->List t.el} {n:Unit->Nat} {kk:IntKind} {k:Unit->Int} (ht:tyB P T i=true) (hi:i.ti = .slice e sz b) (hs:t.size=sz) (hx:AVR w ρ base ro (.wide fr t l n) (r x)) (hy:r y = .int kk (k ())) (hk:0<=k ()/\k ()<(n ():Int)) :
 ∃ v,(∀ w',(execOp r ⟨d,.indexAddr T x y,ty,pos,aft,gd⟩).run P w' = .ok (.value v) w')/\AVR w ρ base ro (.pto (Q8 fr t fun _=>(l ()).getD (k ()).toNat t.dflt) 0) v:=by
 obtain⟨_,_,hnl,_⟩:=hx.wide_;have h1:=Q0y hx;have hlen:((l ()).take (n ())).length=n ():=by rw [List.length_take]; omega
 obtain⟨v,h2,h3⟩:=Qhm (d:=d) (ty:=ty) (pos:=pos) (aft:=aft) (gd:=gd) ht hi hs h1 hy (by rw [hlen]; exact hk);refine⟨v,h2,?_⟩;have e:((l ()).take (n ())).getD (k ()).toNat t.dflt=(l ()).getD (k ()).toNat t.dflt:=by rw [List.getD_eq_getElem?_getD,List.getD_eq_getElem?_getD,List.getElem?_take,if_pos (by omega)]
 rw [<- e];exact h3
theorem Qnx {tb:Tab} (hty:Zw P tb) {T e sz bb m c:Nat} {i:K5} {x hi:Operand} {fr:Bool} {t:Tc} {l:Unit->List t.el} {b:Unit->Int} {kk:IntKind} {A:Option Addr} (hT:Q3 tb T=some i) (hi':i.ti = .slice e sz bb) (hs:t.size=sz)
 (hx:r x = .slice A m c) (hl:AVR w ρ base ro (.sl fr t l) (.slice A (l ()).length c)) (hb:r hi = .int kk (b ())) (hv:0<=b ()/\b ()<=((l ()).length:Int)) :
 ∃ v,(execOp r ⟨d,.slice T x none (some hi) none,ty,pos,aft,gd⟩).run P w = .ok (.value v) w/\AVR w ρ base ro (.wide fr t l fun _=>(b ()).toNat) v:=by
 have hu:P.underlying T=some (.slice (P.elem T))/\∀ w',(sizeOf (P.elem T)).run P w' = .ok sz w':=by
  obtain⟨ds,hd,hm⟩:=Yu (hty T i hT);rw [hi'] at hm;cases ds<;>first|(simp [Ko] at hm; done)|skip
  rename_i e';simp only [Ko,Bool.and_eq_true,beq_iff_eq] at hm;obtain⟨⟨he,_⟩,hm⟩:=hm;subst he
  cases hj:P.info? e' with
  | none=>rw [hj] at hm; cases hm
  | some j =>
   rw [hj] at hm;simp only [Bool.and_eq_true,beq_iff_eq] at hm;have he:P.elem T=e':=by simp [Program.elem,hd]
   rw [he];exact⟨hd,fun w'=>by rw [run_sizeOf w' hj]; simp [Program.cellsOf,hj,hm.1.1]⟩
 obtain⟨hu,hsz⟩:=hu;obtain⟨A',c',css,h1,h2,_,_,_,_,hev⟩:=hl.sl_;injection hev with e1 e2 e3;subst e1; subst e3;have hbc:b ()<=(c:Int):=by omega
 refine⟨sliced A 0 (b ()).toNat c sz,?_,?_⟩
 . unfold execOp;simp only [hx,run_sliceAt_slice _ _ _ _ _ _ hu,Sem.run_bind,Option.map_none,Option.map_some,hb,run_slice_h w T A m c hu kk (b ()) hv.1 hbc,hsz,Result.andThen_ok,Sem.run_pure]
 . have h4:=Qre hl (Nat.zero_le (l ()).length) (Nat.le_refl _);have e:(fun (_:Unit)=>((l ()).take (l ()).length).drop 0)=l:=by funext u; simp
   rw [e,hs] at h4;exact .wide fr t l (fun _=>(b ()).toNat) _ _ (by omega) h4
theorem Z0g {T n e sz:Nat} {a:Bool} {i:K5} (ht:tyB P T i=true) (hi:i.ti = .array n e sz a):P.underlying T=some (.array n e)/\(∃ j,P.info? e=some j/\j.size=sz)/\Kf P e=a/\∃ ds,P.underlying e=some ds:=by
 obtain⟨ds,hd,hm⟩:=Yu ht;rw [hi] at hm;cases ds<;>first|(simp [Ko] at hm; done)|skip
 simp only [Ko,Bool.and_eq_true,beq_iff_eq] at hm;obtain⟨⟨⟨rfl,rfl⟩,h3⟩,h4,h5⟩:=hm;refine⟨hd,?_,h4,Option.isSome_iff_exists.1 h5⟩
 cases hj:P.info? _ with
 | none=>rw [hj] at h3; cases h3
 | some j=>rw [hj] at h3; exact⟨j,rfl,eq_of_beq h3⟩
theorem Qj2 {tb:Tab} (hty:Zw P tb) {T:Nat} {x y:Operand} {a b av:AV} {vcs:List VC} (h:Qli (Km tb T) a b=some (av,vcs)) (hx:AVR w ρ base ro a (r x)) (hy:AVR w ρ base ro b (r y)) :
 ∃ v,(∀ w',(execOp r ⟨d,.indexAddr T x y,ty,pos,aft,gd⟩).run P w' = .ok (.value v) w')/\AVR w ρ base ro av v:=by
 unfold Qli at h;split at h
 . rename_i n e sz ag kk m e1;split at h
   . rename_i hm;simp only [Bool.and_eq_true,decide_eq_true_eq] at hm;obtain⟨i,_,h1,h2⟩:=Y7 hty e1;obtain⟨k1,⟨j,k2,k3⟩,_⟩:=Z0g h2 h1
     cases ha:Q7v a (m.toNat*sz) with
     | none=>rw [ha] at h; cases h
     | some av' =>
      rw [ha] at h;cases h;obtain⟨b',o,q1,q2⟩:=Qcl ha hx;have em:((m.toNat:Nat):Int)=m:=by omega
      exact⟨_,fun w'=>Qec (k:=m.toNat) q1 (by rw [em]; exact hy.lit_) k1 (by rw [k2]; simp [k3]) (by rw [em]; exact hm.2) rfl,q2⟩
   . cases h
 . cases h
theorem Qmo {kk:IntKind} {k:Unit->Int}:∀ {l:List AV} {vs:List Value} {j m:Nat} {f:Unit->Int},Qdv kk k j l=some f->Qj w ρ base ro l vs->k ()=((j+m:Nat):Int)->m<l.length->vs[m]? = some (.int kk (f ()))
 | [],_,_,_,_,h,_,_,_=>by cases h
 | x::l,vs,j,m,f,h,hE,hk,hm=>by
  obtain⟨v,us,rfl,hx,hE'⟩:=hE.head;unfold Qdv at h;split at h
  . rename_i k' a ha;split at h
    . rename_i hkk;subst hkk;have hv:=Yn ha hx;split at h
      . cases h;have:m=0:=by simpa using hm
        subst this;rw [hv];rfl
      . cases hf:Qdv k' k (j+1) l with
        | none=>rw [hf] at h; cases h
        | some g =>
         rw [hf] at h;cases h
         cases m with
         | zero =>
          have:decide (k ()=(j:Int))=true:=by rw [decide_eq_true_eq,hk]; rfl
          rw [this,hv];rfl
         | succ m =>
          have:decide (k ()=(j:Int))=false:=by rw [decide_eq_false_iff_not]; omega
          rw [this,List.getElem?_cons_succ];exact Qmo hf hE' (by rw [hk]; congr 1; omega) (by simpa using hm)
    . cases h
  . cases h
theorem Qmy {k:Unit->Int}:∀ {l:List AV} {vs:List Value} {j m:Nat} {f:Unit->Bool},Qd7 k j l=some f->Qj w ρ base ro l vs->k ()=((j+m:Nat):Int)->m<l.length->vs[m]? = some (.bool (f ()))
 | [],_,_,_,_,h,_,_,_=>by cases h
 | x::l,vs,j,m,f,h,hE,hk,hm=>by
  obtain⟨v,us,rfl,hx,hE'⟩:=hE.head;unfold Qd7 at h;split at h
  . rename_i a ha;have hv:=Qa7 ha hx;split at h
    . cases h;have:m=0:=by simpa using hm
      subst this;rw [hv];rfl
    . cases hf:Qd7 k (j+1) l with
      | none=>rw [hf] at h; cases h
      | some g =>
       rw [hf] at h;cases h
       cases m with
       | zero =>
        have:decide (k ()=(j:Int))=true:=by rw [decide_eq_true_eq,hk]; rfl
        rw [this,hv];rfl
       | succ m =>
        have:decide (k ()=(j:Int))=false:=by rw [decide_eq_false_iff_not]; omega
        rw [this,List.getElem?_cons_succ];exact Qmy hf hE' (by rw [hk]; congr 1; omega) (by simpa using hm)
  . cases h
theorem Qs1 {k:Unit->Int} {l:List AV} {vs:List Value} {m:Nat} {av:AV} (h:Qkl k l=some av) (hE:Qj w ρ base ro l vs) (hk:k ()=(m:Int)) (hm:m<l.length):∃ v,vs[m]? = some v/\AVR w ρ base ro av v:=by
 unfold Qkl at h;have hk':k ()=((0+m:Nat):Int):=by rw [hk]; congr 1; omega
 split at h
 all_goals first|cases h; done|skip
 all_goals (rename_i kk _ l)
 . cases hf:Qdv kk k 0 _ with
   | none=>rw [hf] at h; cases h
   | some f=>rw [hf] at h; cases h; exact⟨_,Qmo hf hE hk' hm,.int _ _⟩
 . cases hf:Qdv kk k 0 _ with
   | none=>rw [hf] at h; cases h
   | some f=>rw [hf] at h; cases h; exact⟨_,Qmo hf hE hk' hm,.int _ _⟩
 . cases hf:Qd7 k 0 _ with
   | none=>rw [hf] at h; cases h
   | some f=>rw [hf] at h; cases h; exact⟨_,Qmy hf hE hk' hm,.bool _⟩
 . cases hf:Qd7 k 0 _ with
   | none=>rw [hf] at h; cases h
   | some f=>rw [hf] at h; cases h; exact⟨_,Qmy hf hE hk' hm,.bool _⟩
theorem Z11 {cells:List AV} {vs:List Value} {n esz c:Nat} (hE:Qj w ρ base ro cells vs) (hl:cells.length=n*esz) (hc:c<esz):Qj w ρ base ro (Qko cells n esz c) ((List.range n).map fun m=>vs.getD (m*esz+c) undef):=by
 unfold Qko;refine Q2m fun m hm => ?_;rw [List.mem_range] at hm;have hlt:m*esz+c<cells.length:=by
  rw [hl];have:(m+1)*esz<=n*esz:=Nat.mul_le_mul_right _ hm;rw [Nat.add_mul] at this;omega
 obtain⟨v,h1,h2⟩:=hE.get (List.getElem?_eq_getElem hlt);rw [List.getD_eq_getElem?_getD,List.getElem?_eq_getElem hlt,List.getD_eq_getElem?_getD,h1];exact h2
theorem Qgm {k:Unit->Int} {cells:List AV} {vs:List Value} {n esz m:Nat} (hE:Qj w ρ base ro cells vs) (hl:cells.length=n*esz) (hk:k ()=(m:Int)) (hm:m<n):∀ {cs:List Nat} {out:List AV},Q51 k cells n esz cs=some out->(∀ c∈cs,c<esz)->Qj w ρ base ro out (cs.map fun c=>vs.getD (m*esz+c) undef)
 | [],out,h,_=>by
  simp only [Q51,Option.some.injEq] at h;subst h;exact .nil
 | c::cs,out,h,hcs=>by
  unfold Q51 at h;split at h
  . rename_i x l h1 h2;cases h;obtain⟨v,h3,h4⟩:=Qs1 h1 (Z11 hE hl (hcs c (.head _))) hk (by unfold Qko; simpa using hm);rw [List.getElem?_map,List.getElem?_range hm,Option.map_some,Option.some.injEq] at h3;refine .cons ?_ (Qgm hE hl hk hm h2 fun c hc=>hcs c (.tail _ hc));show AVR w ρ base ro x (vs.getD (m*esz+c) undef)
    rw [h3];exact h4
  . cases h
theorem Qwm {tb:Tab} (hty:Zw P tb) {T:Nat} {x y:Operand} {a b av:AV} {vcs:List VC} (h:Qmm (Km tb T) a b=some (av,vcs)) (hv:∀ c∈vcs,c ()) (hx:AVR w ρ base ro a (r x)) (hy:AVR w ρ base ro b (r y)) :
 ∃ v,(execOp r ⟨d,.index T x y,ty,pos,aft,gd⟩).run P w = .ok (.value v) w/\AVR w ρ base ro av v:=by
 unfold Qmm at h;split at h
 . rename_i n e sz ag cells e1;obtain⟨i,_,h1,h2⟩:=Y7 hty e1;obtain⟨k1,⟨j,k2,k3⟩,k4,k5⟩:=Z0g h2 h1;obtain⟨vs,hvs,hE⟩:=hx.agg_;have hrun:∀ (kk:IntKind) (m:Nat) v,r y = .int kk (m:Int)->m<n->(part e vs.toArray (m*sz)).run P w = .ok v w->(execOp r ⟨d,.index T x y,ty,pos,aft,gd⟩).run P w = .ok (.value v) w:=by
    intro kk m v hyv hmn hp;have h0:(0:Int)<=(m:Int)/\(m:Int)<(n:Int):=by omega
    unfold execOp;simp only [hvs,hyv,Instr.index,asIntOf,underlying,sizeOf,typeInfo,Sem.run_bind,Sem.run_pure,Result.andThen_ok,run_program,k1,h0,if_true,and_self,k2,k3,Int.toNat_natCast,hp]
   split at h
   . rename_i kk m;split at h
     . rename_i hm;simp only [Bool.and_eq_true,decide_eq_true_eq] at hm;have em:((m.toNat:Nat):Int)=m:=by omega
       cases hc:cut ag (m.toNat*sz) sz cells with
       | none=>rw [hc] at h; cases h
       | some av' =>
        rw [hc] at h;cases h;have hr:=fun v=>hrun kk m.toNat v (by rw [em]; exact hy.lit_) (by omega);unfold cut at hc
        cases hb:ag with
        | true =>
         rw [hb,if_pos rfl] at hc;split at hc
         . rename_i hlen;cases hc;have hd:=(hE.drop (m.toNat*sz)).take sz;exact⟨_,hr _ (Q6y ⟨j,k2,k3⟩ k5 (fun _=>by rw [<- hE.1]; exact hlen) (fun h=>by rw [k4,hb] at h; cases h) (fun _=>rfl)),.agg _ _ hd.1 hd.2⟩
         . cases hc
        | false =>
         rw [hb] at hc;simp only [Bool.false_eq_true,if_false] at hc;obtain⟨v,hv1,hv2⟩:=hE.get hc;exact⟨v,hr _ (Q6y ⟨j,k2,k3⟩ k5 (fun h=>by rw [k4,hb] at h; cases h) (fun _=>hv1) (fun h=>by rw [k4,hb] at h; cases h)),hv2⟩
     . cases h
   . rename_i kk k;split at h
     . rename_i hl;have hl:=eq_of_beq hl;have hkv:vcs=Qas k (fun _=>(n:Int))->0<=k ()/\k ()<(n:Int):=fun e=>hv _ (by rw [e]; exact .head _);split at h
       . cases hs:Q51 k cells n sz (List.range sz) with
         | none=>rw [hs] at h; cases h
         | some out =>
          rw [hs] at h;cases h;have hk:=hkv rfl;have em:(((k ()).toNat:Nat):Int)=k ():=by omega
          have hmn:(k ()).toNat<n:=by omega
          have hlen:(k ()).toNat*sz+sz<=vs.length:=by
           rw [<- hE.1,hl,<- Nat.succ_mul];exact Nat.mul_le_mul_right _ hmn
          have hO:=Qgm hE hl em.symm hmn hs fun c hc=>List.mem_range.1 hc;have e3:((List.range sz).map fun c=>vs.getD ((k ()).toNat*sz+c) undef)=(vs.drop ((k ()).toNat*sz)).take sz:=by
           apply List.ext_getElem?;intro q;rw [List.getElem?_map,List.getElem?_take,List.getElem?_drop];rcases Nat.lt_or_ge q sz with hq|hq
           . rw [List.getElem?_range hq,if_pos hq,Option.map_some,List.getElem?_eq_getElem (by omega),List.getD_eq_getElem?_getD,List.getElem?_eq_getElem (by omega)];rfl
           . rw [if_neg (by omega),List.getElem?_eq_none (by simpa using hq)];rfl
          rw [e3] at hO;exact⟨_,hrun kk _ _ (by rw [em]; exact hy.int_) hmn (Q6y ⟨j,k2,k3⟩ k5 (fun _=>hlen) (fun h=>by rw [k4] at h; cases h) (fun _=>rfl)),.agg _ _ hO.1 hO.2⟩
       . split at h
         . rename_i hsz;have hsz:=eq_of_beq hsz;subst hsz
           cases hs:Qkl k cells with
           | none=>rw [hs] at h; cases h
           | some out =>
            rw [hs] at h;cases h;have hk:=hkv rfl;have em:(((k ()).toNat:Nat):Int)=k ():=by omega
            have hmn:(k ()).toNat<n:=by omega
            obtain⟨v,q1,q2⟩:=Qs1 hs hE em.symm (by rw [hl]; omega);exact⟨v,hrun kk _ _ (by rw [em]; exact hy.int_) hmn (Q6y ⟨j,k2,k3⟩ k5 (fun h=>by rw [k4] at h; cases h) (fun _=>by rw [Nat.mul_one]; exact q1) (fun h=>by rw [k4] at h; cases h)),q2⟩
         . cases h
     . cases h
   . cases h
 . rename_i s e1;split at h
   . rename_i kk k ek;cases h;obtain⟨i,_,h1,h2⟩:=Y7 hty e1;have hk:=hv _ (.head _);obtain⟨ds,hd,hm⟩:=Yu h2;rw [h1] at hm;cases ds<;>first|(simp [Ko] at hm; done)|skip
     have hk1:0<=k ():=hk.1;have hk2:k ()<((s ()).data.size:Int):=hk.2;have hlt:(k ()).toNat<(s ()).data.size:=by omega
     have hb:(s ())[(k ()).toNat]? = some ((s ()).data[(k ()).toNat]'hlt):=getElem?_pos (s ()) (k ()).toNat hlt;refine⟨_,?_,.int .u8 _⟩;unfold execOp;simp only [hx.str_,Yn ek hy,Instr.index,asIntOf,underlying,Sem.run_bind,Sem.run_pure,Result.andThen_ok,run_program,hd,hk1,if_true,hb];unfold Z1t;rw [getElem?_pos (s ()).data (k ()).toNat hlt];rfl
   . cases h
 . cases h
end
section
variable {P:Program} {r:Operand->Value} {d:Option Nat} {ty:TypeId} {pos:String} {aft:Array Edge} {gd:Option (Nat×Bool)} {u v:Value} {w:World}
variable {ρ:Nat->Option Rl} {base:Nat} {ro ra:Nat->Prop} {ge:Nat->Option En}
theorem AVR.give {x:AV} {v:Value} (h:AVR w ρ base ro x v) (hx:AV.plain false x=true) (hro:∀ b,ro b->ra b):AVR w (fun _=>none) 0 ra x v :=
 (h.plain (ρ':=fun _=>none) hx fun b _ hb=>hro b hb).mono (fun _ _ _=>rfl) (Ext.refl _) (Nat.zero_le _) fun _ h=>h
mutual
theorem Qn3 (hge:∀ loc e,ge loc=some e->EnR w ρ base ro loc e) (hro:∀ b,ro b->ra b):∀ (s:Sg) (x y:AV) (v:Value),Qdo ge s x=some y->AVR w ρ base ro x v->(AV.plain false x=true\/∀ b,b<w.heap.size->ra b)->AVR w (fun _=>none) 0 ra y v:=by
 intro s x y v h hx hp;unfold Qdo at h;split at h
 . split at h<;>cases h
   rename_i hk;subst hk;exact hx.give rfl hro
 . split at h<;>cases h
   rename_i hk;subst hk;rw [hx.lit_];exact .int _ _
 . cases h;exact hx.give rfl hro
 . cases h;rw [hx.blit_];exact .bool _
 . cases h;exact hx.give rfl hro
 . split at h<;>cases h
   exact hx.loose_.give rfl hro
 . cases h;rw [hx.nil_];exact .sl false _ _ none 0 [] rfl (Nat.le_refl _) (Rd.nil _ _ _ _) (fun _ h=>by cases h) (fun h=>by cases h) (fun k cs j x v h=>by simp at h)
 . split at h
   . cases h;exact (Q0y hx).loose_.give rfl hro
   . have h1:=Z7i h hx;exact h1.1.give h1.2 hro
 . split at h<;>cases h
   exact hx.loose_.give rfl hro
 . split at h
   . rename_i fr t' T l he;split at h<;>cases h
     obtain⟨A,c,css,hA,hown,hlen,hcell⟩:=hge _ _ he;obtain⟨A',n,c',hA',hv⟩:=hx.own_;rw [hA] at hA';injection hA' with hA';injection hA' with e1 e2 e3;subst e1; subst e2; subst e3;have hall:∀ b,b<w.heap.size->ra b:=by
      rcases hp with hp|hp
      . cases hp
      . exact hp
     rw [hv];refine .sl false t' l A c css hlen (hown.cap.1) hown.rd (fun a ha hn=>hall _ (hown.lt ha).2) (fun h=>by cases h) fun k cs j x v h1 h2 h3 => ?_;rw [J4 fr,List.getElem?_map] at h2
     cases hj:(Q8 fr t' fun _=>(l ()).getD k t'.dflt)[j]? with
     | none=>rw [hj] at h2; cases h2
     | some y =>
      rw [hj] at h2;simp only [Option.map_some,Option.some.injEq] at h2;subst h2;have h4:=(hcell k cs j y v h1 hj h3).loose_;refine h4.give ?_ hro;exact Gj (Ju false t' fun _=>(l ()).getD k t'.dflt) (j:=j) (by rw [J4 fr,List.getElem?_map,hj]; rfl)
   . cases h
 . rename_i l cs
   cases hc:Gt ge l cs with
   | none=>rw [hc] at h; cases h
   | some ys =>
    rw [hc] at h;cases h;obtain⟨vs,rfl,hE⟩:=hx.agg_;have h1:=J7 hge hro l cs ys vs hc hE (hp.imp (fun h=>by simpa only [AV.plain] using h) id);exact .agg _ _ h1.1 h1.2
 . rename_i l cs
   cases hc:Gt ge l cs with
   | none=>rw [hc] at h; cases h
   | some ys =>
    rw [hc] at h;cases h;obtain⟨b,o,vs,h1,h2,h3,hE,rfl⟩:=hx.pto_;have h4:=J7 hge hro l cs ys vs hc hE (hp.imp (fun h=>by simpa [AV.plain] using h) id);exact .pto _ 0 b o vs (hro _ h1) h2 h4.1 h3 h4.2
 . rename_i l loc;split at h
   . rename_i T cs he
     cases hc:Gt ge l cs with
     | none=>rw [hc] at h; cases h
     | some ys =>
      rw [hc] at h;cases h;obtain⟨b,vs,hb,hh,hE⟩:=hge _ _ he;obtain⟨b',hb',rfl⟩:=hx.ptr_;rw [hb] at hb';injection hb' with hb';injection hb' with hb';subst hb';have hall:∀ b,b<w.heap.size->ra b:=by
       rcases hp with hp|hp
       . cases hp
       . exact hp
      have hlt:=(Array.getElem?_eq_some_iff.1 hh).1;have h4:=J7 hge hro l cs ys vs hc hE (.inr hall);exact .pto _ 0 b 0 vs (hall _ hlt) hlt h4.1 (Qjt hh) h4.2
   . cases h
 . rename_i l f cs
   cases hc:Gt ge l cs with
   | none=>rw [hc] at h; cases h
   | some ys =>
    rw [hc] at h;cases h;obtain⟨vs,rfl,hE⟩:=hx.fn_;have h1:=J7 hge hro l cs ys vs hc hE (hp.imp (fun h=>by simpa only [AV.plain] using h) id);exact .fn _ _ _ h1.1 h1.2
 . cases h;exact .un _
 . cases h
theorem J7 (hge:∀ loc e,ge loc=some e->EnR w ρ base ro loc e) (hro:∀ b,ro b->ra b):∀ (ss:List Sg) (xs ys:List AV) (vs:List Value),Gt ge ss xs=some ys->Qj w ρ base ro xs vs->(AV.plainL false xs=true\/∀ b,b<w.heap.size->ra b)->Qj w (fun _=>none) 0 ra ys vs:=by
 intro ss xs ys vs h hE hp;unfold Gt at h;split at h
 . cases h;rw [hE.none];exact .nil
 . rename_i s ss x xs;split at h
   . rename_i y ys' h1 h2;cases h;obtain⟨v,us,rfl,hx,hE'⟩:=hE.head;refine .cons (Qn3 hge hro s x y v h1 hx (hp.imp (fun h => ?_) id)) (J7 hge hro ss xs ys' us h2 hE' (hp.imp (fun h => ?_) id))
     . simp only [AV.plainL,Bool.and_eq_true] at h;exact h.1
     . simp only [AV.plainL,Bool.and_eq_true] at h;exact h.2
   . cases h
 . cases h
end
theorem Qz7 {cs:List Con} {f:FuncId} {c:Con} (hcs:∀ c∈cs,Q7 P c) (h:Qf8 cs f=some c):Q7 P c/\c.f=f:=by
 induction cs with
 | nil=>cases h
 | cons c' cs ih =>
  unfold Qf8 at h;split at h
  . rename_i hf;injection h with h;subst h;exact⟨hcs _ (.head _),eq_of_beq hf⟩
  . exact ih (fun c hc=>hcs c (.tail _ hc)) h
theorem Qb9 {F:FuncId} {c:Operand} {xs:Array Operand} {ts:Array TypeId} {vs:List Value} (hf:r c = .func (.func F) #[] vs.toArray) (hcf:∀ args w,(callFunc F args).run P w = .ok (.enter F args) w) :
 (execOp r ⟨d,.call { callee := .value c,args:=xs,argTypes:=ts },ty,pos,aft,gd⟩).run P w = .ok (.enter F (xs.toList.map r++vs).toArray) w:=by
 unfold execOp;simp only [resolve,hf,Deferred.ofValue,Sem.run_bind,Sem.run_pure,Result.andThen_ok,invoke,hcf];congr 2;apply Array.ext';simp
def OpR (P:Program) (r:Operand->Value) (o:Oper) (w:World) (ρ:Nat->Option Rl) (base:Nat) (ro:Nat->Prop) (av:AV):Prop :=
 Qke P r o w fun v w'=>AVR w' ρ base (fun b=>ro b\/w.heap.size<=b) av v
theorem OpR.of {o:Oper} {av:AV} (h:∃ v,(execOp r o).run P w = .ok (.value v) w/\AVR w ρ base ro av v):OpR P r o w ρ base ro av:=by
 obtain⟨v,h1,h2⟩:=h;exact .inl ⟨v,w,h1,Below.refl _ _,h2.mono (fun _ _ _=>rfl) (Ext.refl _) (Nat.le_refl _) fun _ h => .inl h⟩
theorem Z58 {t:Nat} {s:ByteArray} {x:Operand} (hx:r x = .string s) (ht:P.underlying t=some .string):(execOp r ⟨d,.call { callee := .builtin .len,args := #[x],argTypes := #[t] },ty,pos,aft,gd⟩).run P w = .ok (.value (.int .i64 (s.size:Int))) w:=by
 unfold execOp;simp only [resolve,invoke,builtin,Builtin.len_,List.map_toArray,List.map_cons,List.map_nil,hx,underlying,Sem.run_bind,Sem.run_pure,Result.andThen_ok];simp only [ht,List.getElem?_toArray,List.getElem?_cons_zero,Sem.run_bind,Sem.run_pure,Result.andThen_ok,run_program];rfl
theorem Z4g {a av:AV} (hge:∀ loc e,ge loc=some e->EnR w ρ base ro loc e) (hs:∀ s,a ≠ .str s) (h:Qkm ge a=some av) (ha:AVR w ρ base ro a u):∃ A n c,u = .slice A n c/\AVR w ρ base ro av (.int .i64 (n:Int)):=by
 unfold Qkm at h;split at h
 . cases h;exact⟨none,0,0,ha.nil_,.lit _ _⟩
 . cases h;obtain⟨A,c,css,_,_,_,_,_,_,rfl⟩:=ha.sl_;exact⟨A,_,c,rfl,.int _ _⟩
 . cases h;obtain⟨A,c,_,_,rfl⟩:=ha.wide_;exact⟨A,_,c,rfl,.int _ _⟩
 . split at h
   . rename_i loc fr t T l he;cases h;obtain⟨A,c,css,hA,_,_,_⟩:=hge _ _ he;obtain⟨A',n,c',hA',rfl⟩:=ha.own_;rw [hA] at hA';injection hA' with hA';injection hA' with e1 e2 e3;subst e1; subst e2; subst e3;exact⟨A,_,c,rfl,.int _ _⟩
   . cases h
 . rename_i s;exact absurd rfl (hs s)
 . cases h
theorem Qnm {x y:Operand} {ts:Array TypeId} {k:IntKind} {m n:Int} (hx:r x = .int k m) (hy:r y = .int k n) :
 (execOp r ⟨d,.call { callee := .builtin .min,args := #[x,y],argTypes:=ts },ty,pos,aft,gd⟩).run P w = .ok (.value (.int k (cond (decide (n<m)) n m))) w/\(execOp r ⟨d,.call { callee := .builtin .max,args := #[x,y],argTypes:=ts },ty,pos,aft,gd⟩).run P w = .ok (.value (.int k (cond (decide (m<n)) n m))) w:=by
 have e:∀ (p:Prop) [Decidable p] (a b:Int),(if p then a else b)=cond (decide p) a b:=fun p _ a b=>by by_cases h:p<;>simp [h]
 constructor
 . unfold execOp;simp only [resolve,invoke,builtin,List.map_toArray,List.map_cons,List.map_nil,hx,hy,Sem.run_bind,run_min_int2,Result.andThen_ok,Sem.run_pure,e]
 . unfold execOp;simp only [resolve,invoke,builtin,List.map_toArray,List.map_cons,List.map_nil,hx,hy,Sem.run_bind,run_max_int2,Result.andThen_ok,Sem.run_pure,e]
theorem Qnb {tb:Tab} {cs:List Con} {g:Operand->AV} {op:Op} {av:AV} {vcs:List VC} (hty:Zw P tb) (hcs:∀ c∈cs,Q7 P c) (hge:∀ loc e,ge loc=some e->EnR w ρ base ro loc e) (hg:∀ x∈op.operands,AVR w ρ base ro (g x) (r x)) (hroB:∀ b,ro b->b<w.heap.size) (hbase:base<=w.heap.size)
 (h:Gz tb cs ge g op=some (av,vcs)) (hv:∀ c∈vcs,c ()):OpR P r ⟨d,op,ty,pos,aft,gd⟩ w ρ base ro av:=by
 unfold Gz at h;split at h
 . cases h;exact .of ⟨_,Q73 rfl,hg _ (by simp [Op.operands])⟩
 . cases h;exact .of ⟨_,Qn9 rfl,hg _ (by simp [Op.operands])⟩
 . rename_i c a b
   cases hp:Qjr (g c) (g a) (g b) with
   | none=>rw [hp] at h; cases h
   | some av' =>
    rw [hp] at h;cases h;exact .of (Z1o hp (hg _ (by simp [Op.operands])) (hg _ (by simp [Op.operands])) (hg _ (by simp [Op.operands])))
 . rename_i x;have hx:=hg x (by simp [Op.operands]);have hp:∀ ad,r x = .pointer (some ad)->(execOp r ⟨d,.nilCheck x,ty,pos,aft,gd⟩).run P w = .ok (.value (.pointer (some ad))) w:=by
    intro ad he;unfold execOp;simp only [he,Sem.run_pure]
   split at h
   . rename_i l o he;cases h;rw [he] at hx;obtain⟨b,_,hr⟩:=hx.ptr_;exact .of ⟨_,hp _ hr,hr▸hx⟩
   . rename_i l o he;cases h;rw [he] at hx;obtain⟨b,o',cs',_,_,_,_,hr⟩:=hx.pto_;exact .of ⟨_,hp _ hr,hr▸hx⟩
   . rename_i t l k o he;cases h;rw [he] at hx;obtain⟨A,n,c,b,_,_,_,_,hr⟩:=hx.orp_;exact .of ⟨_,hp _ hr,hr▸hx⟩
   . cases h
 . rename_i op T x y _;have hx:=hg x (by simp [Op.operands]);have hy:=hg y (by simp [Op.operands]);generalize g x=a at *
   generalize g y=b at *
   by_cases hag:(∃ cs,a = .agg cs)/\∃ ds,b = .agg ds
   . obtain⟨⟨cs,rfl⟩,ds,rfl⟩:=hag;obtain⟨v,h1,h2⟩:=Qo2 (d:=d) (ty:=ty) (pos:=pos) (aft:=aft) (gd:=gd) hty h hx hy;exact .of ⟨v,h1 w,h2⟩
   . have h':Qbr (Km tb T) op a b=some (av,vcs):=by
      unfold Qjc at h;split at h
      . exact (hag ⟨⟨_,rfl⟩,_,rfl⟩).elim
      . exact h
     exact .of (Qhh hty h' hv hx hy)
 . rename_i t x;have hx:=hg x (by simp [Op.operands]);split at h
   . rename_i b he;cases h;rw [he] at hx;exact .of ⟨_,Qkx hx.blit_ rfl,.blit _⟩
   . rename_i b he;cases h;rw [he] at hx;exact .of ⟨_,Qkx hx.bool_ rfl,.bool _⟩
   . cases h
 . rename_i t x;have hx:=hg x (by simp [Op.operands]);have hn:∀ k n,r x = .int k n->(execOp r ⟨d,.unOp .neg t x,ty,pos,aft,gd⟩).run P w = .ok (.value (.int k (k.wrap (-n)))) w:=by
    intro k n he;unfold execOp;simp only [he,Op.unary,Op.intArith,Sem.run_bind,Sem.run_pure,Result.andThen_ok,Int.zero_sub]
   split at h
   . rename_i k n he;cases h;rw [he] at hx;exact .of ⟨_,hn _ _ hx.lit_,.lit _ _⟩
   . rename_i n he;cases h;rw [he] at hx;refine .of ⟨_,hn _ _ hx.int_,?_⟩;rw [Vk (hv _ (.head _))];exact .int _ fun _ => -n ()
   . cases h
 . rename_i s t x;have hx:=hg x (by simp [Op.operands]);split at h
   . rename_i k0 k kk n e1 e2 he;cases h;rw [he] at hx;obtain⟨i1,_,h1,h2⟩:=Y7 hty e1;obtain⟨i2,_,h3,h4⟩:=Y7 hty e2;obtain⟨ds1,hd1,_⟩:=Yu h2;exact .of ⟨_,Q4b hx.lit_ hd1 (Q6x h4 h3) rfl rfl,.lit _ _⟩
   . rename_i k0 k kk n e1 e2 he;rw [he] at hx;obtain⟨i1,_,h1,h2⟩:=Y7 hty e1;obtain⟨i2,_,h3,h4⟩:=Y7 hty e2;obtain⟨ds1,hd1,_⟩:=Yu h2;split at h
     . rename_i hk;subst hk;cases h;exact .of ⟨_,Q4b hx.int_ hd1 (Q6x h4 h3) (Vk (hv _ (.head _))) rfl,.int _ _⟩
     . cases h;exact .of ⟨_,Q4b hx.int_ hd1 (Q6x h4 h3) rfl rfl,.int _ fun _=>k.wrap (n ())⟩
   . cases h
 . rename_i T x f;have hx:=hg x (by simp [Op.operands])
   cases hT:Q3 tb T with
   | none=>rw [hT] at h; cases h
   | some i =>
    rw [hT] at h;simp only [Option.bind_some] at h;split at h
    . rename_i off sz a hf;split at h
      . cases h
      . rename_i hsz
        cases ha:Q7v (g x) off with
        | none=>rw [ha] at h; cases h
        | some av' =>
         rw [ha] at h;cases h;obtain⟨b,o,h1,h2⟩:=Qcl ha hx;exact .of ⟨_,Qsa h1 (Qfz (hty T i hT) hf (by simpa using hsz)) rfl,h2⟩
    . cases h
 . rename_i T x f;have hx:=hg x (by simp [Op.operands])
   cases hT:Q3 tb T with
   | none=>rw [hT] at h; cases h
   | some i =>
    rw [hT] at h;simp only [Option.bind_some] at h;split at h
    . rename_i off sz a cells hf hc
      cases hcut:cut a off sz cells with
      | none=>rw [hcut] at h; cases h
      | some av' =>
       rw [hcut] at h;cases h;rw [hc] at hx;exact .of (Z46 (hty T i hT) hf hcut hx)
    . cases h
 . rename_i T x y;have hx:=hg x (by simp [Op.operands]);have hy:=hg y (by simp [Op.operands]);split at h
   . rename_i e sz b fr t l kk k e1 e2 e3;split at h
     . rename_i hs;cases h;rw [e2] at hx;obtain⟨i,_,h1,h2⟩:=Y7 hty e1;obtain⟨v,k1,k2⟩:=Qhm (d:=d) (ty:=ty) (pos:=pos) (aft:=aft) (gd:=gd) h2 h1 (eq_of_beq hs) hx (Yn e3 hy) (hv _ (.head _));exact .of ⟨v,k1 w,k2⟩
     . cases h
   . rename_i e sz b fr t l n kk k e1 e2 e3;split at h
     . rename_i hs;cases h;rw [e2] at hx;obtain⟨i,_,h1,h2⟩:=Y7 hty e1;obtain⟨v,k1,k2⟩:=Qor (d:=d) (ty:=ty) (pos:=pos) (aft:=aft) (gd:=gd) h2 h1 (eq_of_beq hs) hx (Yn e3 hy) (hv _ (.head _));exact .of ⟨v,k1 w,k2⟩
     . cases h
   . rename_i e sz b loc kk k e1 e2 e3;split at h
     . rename_i fr t T' l he;split at h
       . rename_i hs;cases h;rw [e2] at hx;obtain⟨i,_,h1,h2⟩:=Y7 hty e1;obtain⟨v,k1,k2⟩:=Qoo (d:=d) (ty:=ty) (pos:=pos) (aft:=aft) (gd:=gd) hge h2 h1 (eq_of_beq hs) he hx (Yn e3 hy) (hv _ (.head _));exact .of ⟨v,k1 w,k2⟩
       . cases h
     . cases h
   . obtain⟨v,k1,k2⟩:=Qj2 (d:=d) (ty:=ty) (pos:=pos) (aft:=aft) (gd:=gd) hty h hx hy;exact .of ⟨v,k1 w,k2⟩
 . rename_i T x i;exact .of (Qwm hty h hv (hg x (by simp [Op.operands])) (hg i (by simp [Op.operands])))
 . rename_i T x i ok;have hx:=hg x (by simp [Op.operands]);have hi:=hg i (by simp [Op.operands]);split at h
   . rename_i kt et c t ag loc e1 e2;split at h
     . rename_i fr ag' c' t' T' m k e3 e4;split at h
       . rename_i hc;obtain⟨rfl,rfl,rfl⟩:=hc;cases h;rw [e2] at hx;obtain⟨ti,_,h1,h2⟩:=Y7 hty e1;exact .of (Z0q h2 h1 (hge _ _ e3) hx (Qhc e4 hi))
       . cases h
     . cases h
   . cases h
 . rename_i x;have hx:=hg x (by simp [Op.operands]);split at h
   . rename_i ml l2 e1;split at h
     . rename_i fr ag c t T m ml' c' seen left e2 e3;split at h
       . rename_i hc;obtain⟨rfl,rfl⟩:=hc;cases h;rw [e1] at hx;exact .of (Z4a (hge _ _ e2) (hge _ _ e3) hx (hv _ (.head _)))
       . cases h
     . cases h
   . cases h
 . rename_i T x hi;have hx:=hg x (by simp [Op.operands]);have hhi:=hg hi (by simp [Op.operands]);split at h
   . rename_i e sz b fr t l e1 e2;split at h
     . rename_i hs;split at h
       . rename_i kk bb eb;cases h;rw [e2] at hx;obtain⟨i,hT,h1,h2⟩:=Y7 hty e1;obtain⟨A,c,css,_,_,_,_,_,_,hrx⟩:=hx.sl_;rw [hrx] at hx;exact .of (Qnx hty hT h1 (eq_of_beq hs) hrx hx (Yn eb hhi) (hv _ (.head _)))
       . cases h
     . cases h
   . rename_i e sz b fr t l n e1 e2;split at h
     . rename_i hs;split at h
       . rename_i kk bb eb;cases h;rw [e2] at hx;obtain⟨i,hT,h1,h2⟩:=Y7 hty e1;obtain⟨A,c,_,hl,hrx⟩:=hx.wide_;exact .of (Qnx hty hT h1 (eq_of_beq hs) hrx hl (Yn eb hhi) (hv _ (.head _)))
       . cases h
     . cases h
   . rename_i e sz b loc e1 e2;split at h
     . rename_i fr t T' l he;split at h
       . rename_i hs;split at h
         . rename_i kk bb eb;cases h;rw [e2] at hx;obtain⟨i,hT,h1,h2⟩:=Y7 hty e1;have hvv:=hv _ (.head _);exact .of (Qny (g:=g) (a:=fun _=>0) (b:=bb) hty hge hT h1 (eq_of_beq hs) he hx rfl (by simp only [G5,eb,Option.map_some]) (fun y hy=>by cases hy) (fun y hy=>by cases hy; exact hhi) ⟨Int.le_refl _,hvv.1,hvv.2⟩)
         . cases h
       . cases h
     . cases h
   . cases h
 . rename_i T x lo hi hno;have hx:=hg x (by simp [Op.operands]);split at h
   . rename_i e sz b fr t l e1 e2;split at h
     . rename_i hs;split at h
       . rename_i fa fb ha hb;cases h;rw [e2] at hx;obtain⟨i,hT,h1,h2⟩:=Y7 hty e1;exact .of (Qwu hty hT h1 (eq_of_beq hs) hx ha hb (fun y hy=>hg y (by subst hy; simp [Op.operands])) (fun y hy=>hg y (by subst hy; simp [Op.operands])) (hv _ (.head _)))
       . cases h
     . cases h
   . rename_i e sz b loc e1 e2;split at h
     . rename_i fr t T' l he;split at h
       . rename_i hs;split at h
         . rename_i fa fb ha hb;cases h;rw [e2] at hx;obtain⟨i,hT,h1,h2⟩:=Y7 hty e1;exact .of (Qny hty hge hT h1 (eq_of_beq hs) he hx ha hb (fun y hy=>hg y (by subst hy; simp [Op.operands])) (fun y hy=>hg y (by subst hy; simp [Op.operands])) (hv _ (.head _)))
         . cases h
       . cases h
     . cases h
   . cases h
 . rename_i x i;have hx:=hg x (by simp [Op.operands]);split at h
   . rename_i l he
     cases hl:l[i]? with
     | none=>rw [hl] at h; cases h
     | some av' =>
      rw [hl] at h;cases h;rw [he] at hx;obtain⟨vs,h1,hE⟩:=hx.tup_;obtain⟨v,h2,h3⟩:=hE.get hl;exact .of ⟨v,Qib h1 (by simpa using h2),h3⟩
   . cases h
 . rename_i f first caps
   split at h
   . rename_i hf;cases h;have hf':first = #[]:=by simpa using hf
     subst hf';have hE:Qj w ρ base ro (caps.toList.map g) (caps.toList.map r):=Q2m fun x hx=>hg x (by simpa [Op.operands] using hx);refine .of ⟨.func (.func f) #[] (caps.toList.map r).toArray,?_,.fn _ _ _ hE.1 hE.2⟩;unfold execOp;simp only [Instr.makeFunc,Sem.run_bind,Sem.run_pure,Result.andThen_ok];rw [show caps.map r=(caps.toList.map r).toArray by apply Array.ext'; simp,show (#[]:Array Operand).map r = #[] by simp]
   . cases h
 . rename_i T x;have hx:=hg x (by simp [Op.operands]);split at h
   . rename_i i hT
     cases hl:Qdu ge i.ti.agg i.sz (g x) with
     | none=>rw [hl] at h; cases h
     | some av' =>
      rw [hl] at h;cases h;obtain⟨ad,v,h1,h2,h3⟩:=Qw8 hge (hty T i hT) hl hx;exact .of ⟨v,Qma h1 h2,h3⟩
   . cases h
 . rename_i T parts;have hp:∀ p∈parts.toList,AVR w ρ base ro (g p.2) (r p.2):=fun p hp=>hg _ (by simp only [Op.operands]; simpa using ⟨p.1,by simpa using hp⟩);split at h
   . rename_i i hT;split at h
     . rename_i fs hti;split at h
       . cases h
       . rename_i hz
         cases hf:Q29 (fun k=>(fs[k]?).map fun f=>(f.1,f.2.1)) i.z (parts.toList.map fun p=>(p.1,g p.2)) with
         | none=>rw [hf] at h; cases h
         | some out =>
          rw [hf] at h;cases h;exact .of (Qst (hty T i hT) hp (by simpa using hz) (.inl ⟨fs,hti,rfl⟩) hf rfl)
     . rename_i n e esz a hti;split at h
       . cases h
       . rename_i hz
         cases hf:Q29 (fun k=>some (k*esz,esz)) i.z (parts.toList.map fun p=>(p.1,g p.2)) with
         | none=>rw [hf] at h; cases h
         | some out =>
          rw [hf] at h;cases h;exact .of (Qst (hty T i hT) hp (by simpa using hz) (.inr ⟨n,e,esz,a,hti,rfl⟩) hf rfl)
     . cases h
   . cases h
 . rename_i c;obtain⟨callee,cargs,cts⟩:=c;dsimp only at h;split at h
   . split at h
     . rename_i x y e1;have ha:cargs = #[x,y]:=by simpa using congrArg List.toArray e1
       subst ha;have hx:=hg x (by simp [Op.operands,Call.operands]);have hy:=hg y (by simp [Op.operands,Call.operands]);split at h
       . rename_i k fa k' fb e2 e3;split at h
         . rename_i hk;subst hk;cases h;exact .of ⟨_,(Qnm (Yn e2 hx) (Yn e3 hy)).1,.int k fun _=>cond (decide (fb ()<fa ())) (fb ()) (fa ())⟩
         . cases h
       . cases h
     . cases h
   . split at h
     . rename_i x y e1;have ha:cargs = #[x,y]:=by simpa using congrArg List.toArray e1
       subst ha;have hx:=hg x (by simp [Op.operands,Call.operands]);have hy:=hg y (by simp [Op.operands,Call.operands]);split at h
       . rename_i k fa k' fb e2 e3;split at h
         . rename_i hk;subst hk;cases h;exact .of ⟨_,(Qnm (Yn e2 hx) (Yn e3 hy)).2,.int k fun _=>cond (decide (fa ()<fb ())) (fb ()) (fa ())⟩
         . cases h
       . cases h
     . cases h
   . split at h
     . rename_i x T e1 e2;have ha:cargs = #[x]:=by simpa using congrArg List.toArray e1
       have ht:cts = #[T]:=by simpa using congrArg List.toArray e2
       subst ha; subst ht;have hx:=hg x (by simp [Op.operands,Call.operands]);split at h
       . cases h
       . rename_i e sz b y e3 hy
         cases hl:Qkm ge (g x) with
         | none=>rw [hl] at h; cases h
         | some av' =>
          rw [hl] at h;cases h;obtain⟨i,_,h1,h2⟩:=Y7 hty e3;obtain⟨A,n,c,h3,h4⟩:=Z4g hge (fun s hs=>by first|exact hy s hs|exact hy _ _ _ s rfl hs|simp_all) hl hx;exact .of ⟨_,Z7n h3 (Qft (Qcg h2 h1)).1 rfl,h4⟩
       . rename_i s e3 he;cases h;rw [he] at hx;obtain⟨i,_,h1,h2⟩:=Y7 hty e3;exact .of ⟨_,Z58 hx.str_ (Z54 h2 h1),.int _ fun _=>((s ()).size:Int)⟩
       . cases h
     . cases h
   . rename_i fo;split at h
     . rename_i f caps hfo;split at h
       . rename_i con hcon;split at h
         . rename_i avs havs;split at h
           . rename_i res hres;split at h
             . rename_i hcond;cases h;obtain⟨hok,rfl⟩:=Qz7 hcs hcon;have hx:=hg fo (by simp [Op.operands,Call.operands]);rw [hfo] at hx;obtain⟨vs,hvs,hE⟩:=hx.fn_;have hA:Qj w ρ base ro (cargs.toList.map g++caps) (cargs.toList.map r++vs):=(Q2m fun x hx=>hg x (by simp only [Op.operands,Call.operands]; simpa using .inr (by simpa using hx))).append hE;have hpre:=hv _ (.head _)
               cases hfr:AV.plain true res.av with
               | true =>
                have h1:=hok.2 avs res hres w (fun b=>b<w.heap.size) _ (fun _ h=>h) (J7 hge hroB _ _ _ _ havs hA (.inr fun _ h=>h)) hpre;refine .inr ⟨_,_,Qb9 hvs hok.1,h1.mono fun e w' ⟨v,h2,h3,h4⟩=>⟨v,h2,h3,?_⟩⟩;exact (h4.plain (ρ' := ρ) (ro':=fun b=>ro b\/w.heap.size<=b) hfr fun b h5 _ => .inr (h5 rfl)).mono (fun _ _ _=>rfl) (Ext.refl _) hbase fun _ h=>h
               | false =>
                rw [hfr,Bool.false_or,Bool.and_eq_true] at hcond;have h1:=hok.2 avs res hres w ro _ hroB (J7 hge (fun _ h=>h) _ _ _ _ havs hA (.inl hcond.1)) hpre;refine .inr ⟨_,_,Qb9 hvs hok.1,h1.mono fun e w' ⟨v,h2,h3,h4⟩=>⟨v,h2,h3,?_⟩⟩;exact (h4.plain (ρ' := ρ) (ro':=fun b=>ro b\/w.heap.size<=b) hcond.2 fun b _ h5=>h5).mono (fun _ _ _=>rfl) (Ext.refl _) hbase fun _ h=>h
             . cases h
           . cases h
         . cases h
       . cases h
     . cases h
   . cases h
 . cases h
end
structure Sx where
 t:List (Nat×AV)
 e:List (Nat×En)
 n:Nat
structure Bs where
 t:List (Nat×AV)
 e:List (Nat×En)
def Zh (B:Bs) (S:Sx) (d:Nat):Option AV:=match Q3 S.t d with
 | some x=>some x
 | none=>Q3 B.t d
def Qh (B:Bs) (S:Sx) (l:Nat):Option En:=match Q3 S.e l with
 | some x=>some x
 | none=>Q3 B.e l
def Q24 (B:Bs) (S:Sx) (d:Nat):AV:=match Zh B S d with
 | some x=>x
 | none => .un
def Z0 (B:Bs) (S:Sx):Operand->AV
 | .tmp d=>Q24 B S d
 | .const v=>Qwh v
 | .func f => .fn f []
 | .global _ => .un
structure Pm where
 rd:Nat->Prop
 pl:Nat->Option Rl
 fx:Bool
structure Gi (pl:Nat->Option Rl) (w w':World):Prop where
 os:w'.os=w.os
 tape:w'.tape=w.tape
 output:w'.output=w.output
 size:w.heap.size<=w'.heap.size
 block:∀ k,k<w.heap.size->(∀ l r,pl l=some r->r.blk≠some k)->w'.heap[k]? = w.heap[k]?
theorem Gi.refl (pl:Nat->Option Rl) (w:World):Gi pl w w:=⟨rfl,rfl,rfl,Nat.le_refl _,fun _ _ _=>rfl⟩
theorem Gi.grown {pl:Nat->Option Rl} {w0 w w':World} {row:Option Nat} (h:Gi pl w0 w) (hg:w.grownBy w' row) (hr:∀ k,row=some k->w0.heap.size<=k\/∃ l r,pl l=some r/\r.blk=some k):Gi pl w0 w' :=
 ⟨hg.os.trans h.os,hg.tape.trans h.tape,hg.output.trans h.output,Nat.le_trans h.size hg.size,fun k hk hn=>(hg.block k (Nat.lt_of_lt_of_le hk h.size) fun e=>by
  rcases hr k e.symm with h1|⟨l,r,h1,h2⟩
  . omega
  . exact hn l r h1 h2).trans (h.block k hk hn)⟩
theorem Qyd {w w':World} (h:Qe w w'):w.grownBy w' none:=⟨h.os,h.tape,h.output,h.size,fun i hi _=>h.block i hi⟩
theorem Gi.andThen {pl:Nat->Option Rl} {w0 w w':World} (h:Gi pl w0 w) (hb:Qe w w'):Gi pl w0 w':=h.grown (Qyd hb) fun k hk=>by cases hk
theorem Gi.alloc {pl:Nat->Option Rl} {w0 w:World} (h:Gi pl w0 w) (o:Obj):Gi pl w0 (w.alloc o):=h.grown (World.grownBy_alloc w o none) fun k hk=>by cases hk
theorem Gi.none_ {w w':World} (h:Gi (fun _=>none) w w'):Qe w w':=⟨h.os,h.tape,h.output,h.size,fun k hk=>h.block k hk fun _ _ h=>by cases h⟩
structure Zi (w0:World) (S0:Pm) (N:Nat) (B:Bs) (S:Sx) (a:Act) (w:World) (ρ:Nat->Option Rl) (ro:Nat->Prop):Prop where
 from_:Gi S0.pl w0 w
 size:a.tmps.size=N
 defers:a.defers = []
 roB:∀ b,ro b->b<w.heap.size
 tm:∀ d x,Zh B S d=some x->∃ u,a.tmps[d]? = some u/\AVR w ρ w0.heap.size ro x u
 en:∀ l e,Qh B S l=some e->EnR w ρ w0.heap.size ro l e
 apart:∀ l l' r r' b,l≠l' -> ρ l=some r -> ρ l'=some r'->r.blk=some b->r'.blk≠some b
 fresh:∀ l,S.n<=l -> ρ l=none
 own:∀ l r b,ρ l=some r->r.blk=some b->b<w.heap.size/\¬ ro b/\(w0.heap.size<=b\/∃ r0,S0.pl l=some r0/\r0.blk=some b)
 roS:∀ b,ro b->b<w0.heap.size->S0.rd b
 solid:∀ l r,S0.pl l=some r->(r.solid||S0.fx)=true -> ρ l=some r
 disT:∀ d x,Q3 B.t d=some x->Q3 S.t d=none
 disE:∀ l e,Q3 B.e l=some e->Q3 S.e l=none
def Sim (w0:World) (S0:Pm) (N:Nat) (B:Bs) (S:Sx) (a:Act) (w:World):Prop:=∃ ρ ro,Zi w0 S0 N B S a w ρ ro
section
variable {w w' w0:World} {ρ ρ':Nat->Option Rl} {base:Nat} {ro ro':Nat->Prop} {S0:Pm} {N:Nat} {B:Bs} {S:Sx} {a:Act}
theorem Zi.get (H:Zi w0 S0 N B S a w ρ ro) (x:Operand):AVR w ρ w0.heap.size ro (Z0 B S x) (a.eval x):=by
 cases x with
 | tmp d =>
  show AVR w ρ w0.heap.size ro (Q24 B S d) _
  unfold Q24
  cases h:Zh B S d with
  | none=>exact .un _
  | some y =>
   obtain⟨u,h1,h2⟩:=H.tm d y h;rw [V6 h1];exact h2
 | const v=>exact Z1g v
 | func f=>exact .fn f [] [] rfl fun j x v h=>by simp at h
 | global g=>exact .un _
theorem AVR.bound {x:AV} {v:Value} (h:AVR w ρ base ro x v):AVR w ρ base (fun b=>ro b/\b<w.heap.size) x v:=by
 induction h with
 | un=>exact .un _
 | int=>exact .int _ _
 | lit=>exact .lit _ _
 | bool=>exact .bool _
 | blit=>exact .blit _
 | str=>exact .str _
 | nil=>exact .nil
 | sl fr t l A c css hl hc hr hro hfr h ih=>exact .sl fr t l A c css hl hc hr (fun a ha hn=>⟨hro a ha hn,Rd.bound hr hn a ha⟩) hfr ih
 | wide fr t l n A c hn h ih=>exact .wide fr t l n A c hn ih
 | pto cells off b o cs hro hlt hl hc h ih=>exact .pto cells off b o cs ⟨hro,hlt⟩ hlt hl hc ih
 | ptr loc off b h=>exact .ptr _ _ _ h
 | own loc A n c h=>exact .own _ _ _ _ h
 | orp t loc k off A n c b h hA h0 hn=>exact .orp _ _ _ _ _ _ _ _ h hA h0 hn
 | osl t loc a b A n c h hab=>exact .osl _ _ _ _ _ _ _ h hab
 | mp l b h=>exact .mp _ _ h
 | stamp l s h=>exact .stamp _ _ h
 | it l l2 b h=>exact .it _ _ _ h
 | agg l vs hl h ih=>exact .agg _ _ hl ih
 | tup l vs hl h ih=>exact .tup _ _ hl ih
 | fn f caps vs hl h ih=>exact .fn _ _ _ hl ih
theorem Q00.map_ {fr ag:Bool} {c:Kc} {t:Tc} {m:List Kx->Option t.el} {es:Array MapEntry} {ρ ρ':Nat->Option Rl} {base base':Nat} {ro ro':Nat->Prop} (h:Q00 w ρ base ro fr ag c t m es) (hav:∀ x v,AVR w ρ base ro (Yh ag fr t fun _=>x) v->AVR w' ρ' base' ro' (Yh ag fr t fun _=>x) v):Q00 w' ρ' base' ro' fr ag c t m es :=
 ⟨fun e he=>by obtain⟨key,x,h1,h2,h3⟩:=h.1 e he; exact⟨key,x,h1,h2,hav x _ h3⟩,h.2⟩
theorem EnR.mono {l:Nat} {e:En} (h:EnR w ρ base ro l e) (hw:∀ b,ro b->b<w.heap.size->w'.heap[b]? = w.heap[b]?) (hown:∀ l r b,ρ l=some r->r.blk=some b->w'.heap[b]? = w.heap[b]?) (hρ:Ext ρ ρ') (hro:∀ b,ro b->ro' b):EnR w' ρ' base ro' l e:=by
 cases e with
 | box T cells =>
  obtain⟨b,cs,h1,h4,h5⟩:=h;exact⟨b,cs,hρ _ _ h1,(hown _ _ b h1 rfl).trans h4,h5.mono hw hρ (Nat.le_refl _) hro⟩
 | row fr t T m =>
  obtain⟨A,c,css,h1,h2,h3,h5⟩:=h;refine⟨A,c,css,hρ _ _ h1,h2.keep fun a ha=>hown _ _ a.block h1 (by simp [Rl.blk,ha]),h3,fun k cs j x v k1 k2 k3=>(h5 k cs j x v k1 k2 k3).mono hw hρ (Nat.le_refl _) hro⟩
 | map fr ag c t T m =>
  obtain⟨b,es,clock,h1,h2,h3,h4⟩:=h;exact⟨b,es,clock,hρ _ _ h1,(hown _ _ b h1 rfl).trans h2,h3,h4.map_ fun x v hx=>hx.mono hw hρ (Nat.le_refl _) hro⟩
 | iter ml c seen left =>
  obtain⟨b,b2,es,clock,since,stamps,c0,h1,h2,h3,h4,h5⟩:=h;exact⟨b,b2,es,clock,since,stamps,c0,hρ _ _ h1,hρ _ _ h2,(hown _ _ b h2 rfl).trans h3,(hown _ _ b2 h1 rfl).trans h4,h5⟩
 | stamp ml c key =>
  obtain⟨b,es,clock,s,e,h1,h2,h3,h4⟩:=h;exact⟨b,es,clock,s,e,hρ _ _ h1,hρ _ _ h2,(hown _ _ b h2 rfl).trans h3,h4⟩
 | dead=>obtain⟨r,h⟩:=h; exact⟨r,hρ _ _ h⟩
theorem EnR.none {l:Nat} {e:En} (h:EnR w ρ base ro l e):∃ r,ρ l=some r:=by
 cases e with
 | box T cells=>obtain⟨b,cs,h1,_⟩:=h; exact⟨_,h1⟩
 | row fr t T m=>obtain⟨A,c,css,h1,_⟩:=h; exact⟨_,h1⟩
 | map fr ag c t T m=>obtain⟨b,es,clock,h1,_⟩:=h; exact⟨_,h1⟩
 | iter ml c seen left=>obtain⟨b,b2,es,clock,since,stamps,c0,h1,_⟩:=h; exact⟨_,h1⟩
 | stamp ml c key=>obtain⟨b,es,clock,s,e,h1,_⟩:=h; exact⟨_,h1⟩
 | dead=>exact h
theorem Zi.calm (H:Zi w0 S0 N B S a w ρ ro) (hb:Qe w w'):Zi w0 S0 N B S a w' ρ (fun b=>(ro b\/w.heap.size<=b)/\b<w'.heap.size):=by
 have hw:∀ b,ro b->b<w.heap.size->w'.heap[b]? = w.heap[b]? := fun b _ h=>hb.block b h;have hro:∀ b,ro b->(ro b\/w.heap.size<=b)/\b<w'.heap.size:=fun b h=>⟨.inl h,Nat.lt_of_lt_of_le (H.roB b h) hb.size⟩
 have hown:∀ l r b,ρ l=some r->r.blk=some b->w'.heap[b]? = w.heap[b]? /\ ¬ ((ro b\/w.heap.size<=b)/\b<w'.heap.size):=by
  intro l r b h1 h2;have h3:=H.own l r b h1 h2;refine⟨hb.block b h3.1,?_⟩
  rintro⟨h4|h4,_⟩
  . exact h3.2.1 h4
  . omega
 refine⟨H.from_.andThen hb,H.size,H.defers,fun b h=>h.2,fun d x h => ?_,fun l e h=>(H.en l e h).mono hw (fun l r b h1 h2=>(hown l r b h1 h2).1) (Ext.refl _) hro,H.apart,H.fresh,fun l r b h1 h2 => ?_,fun b h hlt=>H.roS b (h.1.resolve_right fun h=>by have:=H.from_.size; omega) hlt,H.solid,H.disT,H.disE⟩
 . obtain⟨u,h1,h2⟩:=H.tm d x h;exact⟨u,h1,h2.mono hw (Ext.refl _) (Nat.le_refl _) hro⟩
 . have h3:=H.own l r b h1 h2;exact⟨Nat.lt_of_lt_of_le h3.1 hb.size,(hown l r b h1 h2).2,h3.2.2⟩
theorem AVR.calm {x:AV} {v:Value} (h:AVR w' ρ base (fun b=>ro b\/w.heap.size<=b) x v):AVR w' ρ base (fun b=>(ro b\/w.heap.size<=b)/\b<w'.heap.size) x v:=h.bound
def Qy (B:Bs) (S:Sx) (N d:Nat) (x:AV):Option Sx :=
 if (Q3 B.t d).isSome||decide (N<=d) then none else some ⟨(d,x)::S.t,S.e,S.n⟩
theorem Qb {α:Type} (k:Nat) (v : α) (l:List (Nat × α)) (d:Nat):Q3 ((k,v)::l) d=if k=d then some v else Q3 l d:=by
 show (if k==d then some v else Q3 l d)=_
 by_cases h:k=d
 . simp [h]
 . simp [h]
theorem Zi.put (H:Zi w0 S0 N B S a w ρ ro) {d:Nat} {x:AV} {S':Sx} {v:Value} (hp:Qy B S N d x=some S') (hv:AVR w ρ w0.heap.size ro x v):Zi w0 S0 N B S' (a.put (some d) v) w ρ ro:=by
 unfold Qy at hp;split at hp
 . cases hp
 . rename_i hc;simp only [Bool.or_eq_true,decide_eq_true_eq,not_or,Bool.not_eq_true,Option.isSome_eq_false_iff,Option.isNone_iff_eq_none] at hc;cases hp;have hlt:d<a.tmps.size:=by rw [H.size]; omega
   refine⟨H.from_,by rw [Z2s]; exact H.size,H.defers,H.roB,fun s y h => ?_,H.en,H.apart,H.fresh,H.own,H.roS,H.solid,fun s y h => ?_,H.disE⟩
   . unfold Zh at h;rw [Qb] at h;rw [Qeo hlt];by_cases hs:d=s
     . rw [if_pos hs] at h;rw [if_pos hs.symm];simp only [Option.some.injEq] at h;subst h;exact⟨v,rfl,hv⟩
     . rw [if_neg hs] at h;rw [if_neg (fun e=>hs e.symm)];exact H.tm s y h
   . rw [Qb,if_neg]
     . exact H.disT s y h
     . rintro rfl
       rw [hc.1] at h;cases h
/- no slot and no entry names a location -/
def Qju (loc:Nat):List (Nat×AV)->Bool
 | []=>true
 | (_,x)::l => !AV.has loc x&&Qju loc l
def Qvo (loc:Nat):En->Bool
 | .box _ cs => !AV.hasL loc cs
 | _=>true
def Qla (loc:Nat):List (Nat×En)->Bool
 | []=>true
 | (_,e)::l=>Qvo loc e&&Qla loc l
def quiet (loc:Nat) (B:Bs):Bool:=Qju loc B.t&&Qla loc B.e
def Qpx (loc:Nat):List (Nat×AV)->List (Nat×AV)
 | [] => []
 | (d,x)::l=>(d,if AV.has loc x then .un else x)::Qpx loc l
def Q6t (loc:Nat):List AV->List AV
 | [] => []
 | x::l=>(if AV.has loc x then .un else x)::Q6t loc l
def Qs6 (loc:Nat):En->En
 | .box T cs => .box T (Q6t loc cs)
 | e=>e
def Qps (loc:Nat):List (Nat×En)->List (Nat×En)
 | [] => []
 | (k,e)::l=>(k,Qs6 loc e)::Qps loc l
def Kh (loc:Nat) (S:Sx):Sx:=⟨Qpx loc S.t,Qps loc S.e,S.n⟩
theorem Qag {loc d:Nat} {x:AV}:∀ {l:List (Nat×AV)},Qju loc l=true->Q3 l d=some x->AV.has loc x=false
 | (k,y)::l,h,hx=>by
  unfold Qju at h;simp only [Bool.and_eq_true,Bool.not_eq_true'] at h;rw [Qb] at hx;split at hx
  . cases hx; exact h.1
  . exact Qag h.2 hx
 | [],_,hx=>by cases hx
theorem Qat {loc d T:Nat} {cs:List AV}:∀ {l:List (Nat×En)},Qla loc l=true->Q3 l d=some (.box T cs)->AV.hasL loc cs=false
 | (k,e)::l,h,hx=>by
  unfold Qla at h;simp only [Bool.and_eq_true] at h;rw [Qb] at hx;split at hx
  . cases hx; simpa [Qvo] using h.1
  . exact Qat h.2 hx
 | [],_,hx=>by cases hx
theorem Q27 {loc d:Nat}:∀ (l:List (Nat×AV)),Q3 (Qpx loc l) d=(Q3 l d).map fun x=>if AV.has loc x then .un else x
 | []=>rfl
 | (k,y)::l=>by
  unfold Qpx;rw [Qb,Qb,Q27 l];split<;>rfl
theorem Q28 {loc d:Nat}:∀ (l:List (Nat×En)),Q3 (Qps loc l) d=(Q3 l d).map (Qs6 loc)
 | []=>rfl
 | (k,e)::l=>by
  unfold Qps;rw [Qb,Qb,Q28 l];split<;>rfl
theorem Q8o {loc:Nat}:∀ (l:List AV) (j:Nat),(Q6t loc l)[j]? = (l[j]?).map fun x=>if AV.has loc x then .un else x
 | [],j=>by simp [Q6t]
 | x::l,0=>by simp [Q6t]
 | x::l,j+1=>by simpa [Q6t] using Q8o l j
theorem Qn6 {loc:Nat}:∀ (l:List AV),(Q6t loc l).length=l.length
 | []=>rfl
 | x::l=>by simp [Q6t,Qn6 l]
theorem Qk9 {loc:Nat} {x:AV}:AV.has loc (if AV.has loc x=true then .un else x)=false:=by
 split
 . rfl
 . rename_i h; simpa using h
theorem Qn0 {loc:Nat}:∀ {l:List AV},(∀ (j:Nat) x,l[j]? = some x->AV.has loc x=false)->AV.hasL loc l=false
 | [],_=>rfl
 | x::l,h=>by
  unfold AV.hasL;rw [h 0 x rfl,Qn0 fun j y hy=>h (j+1) y (by simpa using hy)];rfl
theorem Zi.killed (H:Zi w0 S0 N B S a w ρ ro) (loc:Nat):Zi w0 S0 N B (Kh loc S) a w ρ ro:=by
 refine⟨H.from_,H.size,H.defers,H.roB,fun d x h => ?_,fun l e h => ?_,H.apart,H.fresh,H.own,H.roS,H.solid,fun d x h=>by unfold Kh; rw [Q27,H.disT d x h]; rfl,fun l e h=>by unfold Kh; rw [Q28,H.disE l e h]; rfl⟩
 . unfold Zh Kh at h;rw [Q27] at h
   cases hd:Q3 S.t d with
   | none =>
    rw [hd] at h;exact H.tm d x (by unfold Zh; rw [hd]; exact h)
   | some y =>
    rw [hd] at h;simp only [Option.map_some,Option.some.injEq] at h;obtain⟨u,h1,h2⟩:=H.tm d y (by unfold Zh; rw [hd]);refine⟨u,h1,?_⟩;rw [<- h];split
    . exact .un _
    . exact h2
 . unfold Qh Kh at h;rw [Q28] at h
   cases hd:Q3 S.e l with
   | none =>
    rw [hd] at h;exact H.en l e (by unfold Qh; rw [hd]; exact h)
   | some y =>
    rw [hd] at h;simp only [Option.map_some,Option.some.injEq] at h;have h1:=H.en l y (by unfold Qh; rw [hd]);rw [<- h]
    cases y with
    | row fr t T m=>exact h1
    | map fr ag c t T m=>exact h1
    | iter ml c seen left=>exact h1
    | stamp ml c key=>exact h1
    | dead=>exact h1
    | box T cs =>
     obtain⟨b,us,k1,k4,k5⟩:=h1;refine⟨b,us,k1,k4,by rw [Qn6]; exact k5.1,fun j x v hx hv => ?_⟩;rw [Q8o] at hx
     cases hj:cs[j]? with
     | none=>rw [hj] at hx; cases hx
     | some z =>
      rw [hj] at hx;simp only [Option.map_some,Option.some.injEq] at hx;rw [<- hx];split
      . exact .un _
      . exact k5.2 j z v hj hv
theorem Qkj {loc:Nat} (hq:quiet loc B=true):(∀ d x,Zh B (Kh loc S) d=some x->AV.has loc x=false)/\∀ l T cs,Qh B (Kh loc S) l=some (.box T cs)->AV.hasL loc cs=false:=by
 unfold quiet at hq;simp only [Bool.and_eq_true] at hq;refine⟨fun d x h => ?_,fun l T cs h => ?_⟩
 . unfold Zh Kh at h;rw [Q27] at h
   cases hd:Q3 S.t d with
   | none=>rw [hd] at h; exact Qag hq.1 h
   | some y =>
    rw [hd] at h;simp only [Option.map_some,Option.some.injEq] at h;rw [<- h];exact Qk9
 . unfold Qh Kh at h;rw [Q28] at h
   cases hd:Q3 S.e l with
   | none=>rw [hd] at h; exact Qat hq.2 h
   | some y =>
    rw [hd] at h;simp only [Option.map_some,Option.some.injEq] at h
    cases y with
    | row fr t T' m=>cases h
    | map fr ag c t T' m=>cases h
    | iter ml c seen left=>cases h
    | stamp ml c key=>cases h
    | dead=>cases h
    | box T' cs' =>
     cases h;refine Qn0 fun j x hx => ?_;rw [Q8o] at hx
     cases hj:cs'[j]? with
     | none=>rw [hj] at hx; cases hx
     | some z =>
      rw [hj] at hx;simp only [Option.map_some,Option.some.injEq] at hx;rw [<- hx];exact Qk9
/- what tells of a map is forgotten as the map changes -/
def Jn (loc:Nat):En->Bool
 | .iter ml _ _ _=>ml==loc
 | .stamp ml _ _=>ml==loc
 | _=>false
def Q2e (loc:Nat):List (Nat×En)->Bool
 | []=>true
 | (_,e)::l => !Jn loc e&&Q2e loc l
def Yz (loc:Nat):List (Nat×En)->List (Nat×En)
 | [] => []
 | (k,e)::l=>(k,if Jn loc e then .dead else e)::Yz loc l
theorem Q2f {loc d:Nat}:∀ (l:List (Nat×En)),Q3 (Yz loc l) d=(Q3 l d).map fun e=>if Jn loc e then .dead else e
 | []=>rfl
 | (k,e)::l=>by
  unfold Yz;rw [Qb,Qb,Q2f l];split<;>rfl
theorem Qoz {loc d:Nat} {e:En}:∀ {l:List (Nat×En)},Q2e loc l=true->Q3 l d=some e->Jn loc e=false
 | (k,e')::l,h,hx=>by
  unfold Q2e at h;simp only [Bool.and_eq_true,Bool.not_eq_true'] at h;rw [Qb] at hx;split at hx
  . cases hx; exact h.1
  . exact Qoz h.2 hx
 | [],_,hx=>by cases hx
theorem Zi.dropped (H:Zi w0 S0 N B S a w ρ ro) {loc:Nat} (hB:Q2e loc B.e=true):Zi w0 S0 N B ⟨S.t,Yz loc S.e,S.n⟩ a w ρ ro/\∀ l e,Qh B ⟨S.t,Yz loc S.e,S.n⟩ l=some e->Jn loc e=false:=by
 have hl:∀ l e,Qh B ⟨S.t,Yz loc S.e,S.n⟩ l=some e->(Qh B S l=some e/\Jn loc e=false)\/(e = .dead/\∃ e',Qh B S l=some e'):=by
  intro l e h;unfold Qh at h ⊢;simp only [Q2f] at h
  cases hd:Q3 S.e l with
  | none =>
   rw [hd] at h;exact .inl ⟨h,Qoz hB h⟩
  | some y =>
   rw [hd] at h;simp only [Option.map_some,Option.some.injEq] at h;split at h
   . exact .inr ⟨h.symm,y,rfl⟩
   . subst h;rename_i hr;exact .inl ⟨rfl,by simpa using hr⟩
 refine⟨⟨H.from_,H.size,H.defers,H.roB,H.tm,fun l e h => ?_,H.apart,H.fresh,H.own,H.roS,H.solid,H.disT,fun l e h => ?_⟩,fun l e h => ?_⟩
 . rcases hl l e h with ⟨h1,_⟩|⟨rfl,e',h1⟩
   . exact H.en l e h1
   . exact (H.en l e' h1).none
 . show Q3 (Yz loc S.e) l=none
   rw [Q2f,H.disE l e h];rfl
 . rcases hl l e h with ⟨_,h2⟩|⟨rfl,_⟩
   . exact h2
   . rfl
theorem Qi6 (ag fr:Bool) (t:Tc) (x:Unit->t.el) (loc:Nat):AV.has loc (Yh ag fr t x)=false:=by
 unfold Yh;have h:=Vy fr t x loc
 cases ag with
 | true=>exact h
 | false =>
  simp only [Bool.false_eq_true,if_false]
  cases hc:Q8 fr t x with
  | nil=>rfl
  | cons c l =>
   rw [hc] at h
   cases l with
   | nil=>simpa [AV.hasL] using h
   | cons c2 l=>rfl
def Kq (ρ:Nat->Option Rl) (loc:Nat) (r:Rl):Nat->Option Rl:=fun l=>if l=loc then some r else ρ l
theorem Zi.upd (H:Zi w0 S0 N B S a w ρ ro) {loc n:Nat} {r:Rl} {e:En} (hf:Gi S0.pl w0 w') (hle:w.heap.size<=w'.heap.size) (hkeep:∀ b,b<w.heap.size->(∀ r',ρ loc=some r'->r'.blk≠some b)->w'.heap[b]? = w.heap[b]?)
 (hblk:∀ b,r.blk=some b->(∃ r',ρ loc=some r'/\r'.blk=some b)\/(w.heap.size<=b/\b<w'.heap.size)) (hB:Q3 B.e loc=none) (hn:S.n<=n) (hln:loc<n)
 (hmov:Ext ρ (Kq ρ loc r)\/((∀ d x,Zh B S d=some x->AV.has loc x=false)/\(∀ l T cs,Qh B S l=some (.box T cs)->AV.hasL loc cs=false)/\∀ r',ρ loc=some r'->(r'.solid||S0.fx)=false))
 (hmp:(∀ b,ρ loc≠some (.mp b))\/∀ l e,Qh B S l=some e->Jn loc e=false)
 (he:EnR w' (Kq ρ loc r) w0.heap.size ro loc e):Zi w0 S0 N B ⟨S.t,(loc,e)::S.e,n⟩ a w' (Kq ρ loc r) ro:=by
 have hw:∀ b,ro b->b<w.heap.size->w'.heap[b]? = w.heap[b]? := fun b hb hlt=>hkeep b hlt fun r' h1 h2=>(H.own loc r' b h1 h2).2.1 hb;have hold:∀ l,l≠loc->Kq ρ loc r l = ρ l:=fun l hl=>by unfold Kq; rw [if_neg hl]
 have hav:∀ x v,AVR w ρ w0.heap.size ro x v->(AV.has loc x=false\/Ext ρ (Kq ρ loc r))->(∀ r',ρ loc=some r'->r'.solid=false)\/Ext ρ (Kq ρ loc r)->AVR w' (Kq ρ loc r) w0.heap.size ro x v:=by
  intro x v h h1 h2;rcases h1 with h1|h1
  . rcases h2 with h2|h2
    . refine (h.move (ρ':=Kq ρ loc r) h1 fun l r' hl hc => ?_).mono hw (Ext.refl _) (Nat.le_refl _) fun _ h=>h;by_cases hll:l=loc
      . subst hll;rcases hc with hc|hc
        . exact absurd rfl hc
        . rw [h2 _ hl] at hc; cases hc
      . rw [hold l hll]; exact hl
    . exact h.mono hw h2 (Nat.le_refl _) fun _ h=>h
  . exact h.mono hw h1 (Nat.le_refl _) fun _ h=>h
 have hbx:(∀ r',ρ loc=some r'->r'.solid=false)\/Ext ρ (Kq ρ loc r):=hmov.elim .inr fun h => .inl fun r' q=>by have:=h.2.2 r' q; simp only [Bool.or_eq_false_iff] at this; exact this.1
 have hkeep':∀ l r' b,ρ l=some r'->r'.blk=some b->l≠loc->w'.heap[b]? = w.heap[b]? := fun l r' b h1 h2 hne=>hkeep b (H.own l r' b h1 h2).1 fun r2 h3 h4=>H.apart l loc r' r2 b hne h1 h3 h2 h4;refine⟨hf,H.size,H.defers,fun b hb=>Nat.lt_of_lt_of_le (H.roB b hb) hle,fun d x h => ?_,fun l e' h => ?_,fun l l' r1 r2 b hne h1 h2 h3 h4 => ?_,fun l hl => ?_,fun l r1 b h1 h2 => ?_,H.roS,fun l r1 h1 h2 => ?_,H.disT,fun l e' h=>by rw [Qb,if_neg (by rintro rfl; rw [hB] at h; cases h)]; exact H.disE l e' h⟩
 . obtain⟨u,h1,h2⟩:=H.tm d x h;exact⟨u,h1,hav x u h2 (hmov.elim .inr fun hm => .inl (hm.1 d x h)) hbx⟩
 . unfold Qh at h;rw [Qb] at h;by_cases hl:loc=l
   . rw [if_pos hl] at h;simp only [Option.some.injEq] at h;subst h; subst hl;exact he
   . rw [if_neg hl] at h;have h0:Qh B S l=some e':=h;have h1:=H.en l e' h0
     cases e' with
     | box T cs =>
      obtain⟨b,us,k1,k4,k5⟩:=h1;refine⟨b,us,by rw [hold l (fun e=>hl e.symm)]; exact k1,?_,k5.1,fun j x v hx hv=>hav x v (k5.2 j x v hx hv) (hmov.elim .inr fun hm => .inl (Yv (hm.2.1 l T cs h0) hx)) hbx⟩;rw [hkeep b (H.own l _ b k1 rfl).1 fun r' h3 h4=>H.apart l loc _ r' b (fun e=>hl e.symm) k1 h3 rfl h4];exact k4
     | row fr t T m =>
      obtain⟨A,c,css,k1,k2,k3,k5⟩:=h1;refine⟨A,c,css,by rw [hold l (fun e=>hl e.symm)]; exact k1,k2.keep fun ad ha => ?_,k3,fun k cs j x v q1 q2 q3=>hav x v (k5 k cs j x v q1 q2 q3) (.inl (Yv (Vy fr t _ loc) q2)) hbx⟩;have hbk:(Rl.row A (m ()).length c).blk=some ad.block:=by simp [Rl.blk,ha]
      exact hkeep ad.block (H.own l _ _ k1 hbk).1 fun r' h3 h4=>H.apart l loc _ r' _ (fun e=>hl e.symm) k1 h3 hbk h4
     | map fr ag c t T m =>
      obtain⟨b,es,clock,k1,k2,k3,k4⟩:=h1;refine⟨b,es,clock,by rw [hold l (fun e=>hl e.symm)]; exact k1,(hkeep' l _ b k1 rfl (fun e=>hl e.symm)).trans k2,k3,k4.map_ fun x v hx=>hav _ v hx (.inl (Qi6 _ _ _ _ _)) hbx⟩
     | iter ml c seen left =>
      obtain⟨b,b2,es,clock,since,stamps,c0,k1,k2,k3,k4,k5⟩:=h1;have hml:ml≠loc:=by
       rintro rfl
       rcases hmp with hmp|hmp
       . exact hmp b k2
       . have:=hmp l _ h0; simp [Jn] at this
      exact⟨b,b2,es,clock,since,stamps,c0,by rw [hold l (fun e=>hl e.symm)]; exact k1,by rw [hold ml hml]; exact k2,(hkeep' ml _ b k2 rfl hml).trans k3,(hkeep' l _ b2 k1 rfl (fun e=>hl e.symm)).trans k4,k5⟩
     | stamp ml c key =>
      obtain⟨b,es,clock,s,e,k1,k2,k3,k4⟩:=h1;have hml:ml≠loc:=by
       rintro rfl
       rcases hmp with hmp|hmp
       . exact hmp b k2
       . have:=hmp l _ h0; simp [Jn] at this
      exact⟨b,es,clock,s,e,by rw [hold l (fun e=>hl e.symm)]; exact k1,by rw [hold ml hml]; exact k2,(hkeep' ml _ b k2 rfl hml).trans k3,k4⟩
     | dead=>obtain⟨r1,k1⟩:=h1; exact⟨r1,by rw [hold l (fun e=>hl e.symm)]; exact k1⟩
 . have hcase:∀ l r1 b,Kq ρ loc r l=some r1->r1.blk=some b->(l=loc/\r1=r)\/(l≠loc /\ ρ l=some r1):=by
    intro l r1 b h1 _;by_cases hll:l=loc
    . subst hll;unfold Kq at h1;rw [if_pos rfl] at h1;injection h1 with h1;exact .inl ⟨rfl,h1.symm⟩
    . rw [hold l hll] at h1;exact .inr ⟨hll,h1⟩
   rcases hcase l r1 b h1 h3 with ⟨rfl,rfl⟩|⟨k1,k2⟩
   . rcases hcase l' r2 b h2 h4 with ⟨rfl,rfl⟩|⟨k3,k4⟩
     . exact hne rfl
     . rcases hblk b h3 with ⟨r',q1,q2⟩|q
       . exact H.apart l l' r' r2 b hne q1 k4 q2 h4
       . have:=(H.own l' r2 b k4 h4).1; omega
   . rcases hcase l' r2 b h2 h4 with ⟨rfl,rfl⟩|⟨k3,k4⟩
     . rcases hblk b h4 with ⟨r',q1,q2⟩|q
       . exact H.apart l l' r1 r' b hne k2 q1 h3 q2
       . have:=(H.own l r1 b k2 h3).1; omega
     . exact H.apart l l' r1 r2 b hne k2 k4 h3 h4
 . rw [hold l (by simp only at hl; omega)];exact H.fresh l (by simp only at hl; omega)
 . by_cases hll:l=loc
   . subst hll;unfold Kq at h1;rw [if_pos rfl] at h1;injection h1 with h1;subst h1;rcases hblk b h2 with ⟨r',q1,q2⟩|q
     . have h5:=H.own l r' b q1 q2;exact⟨Nat.lt_of_lt_of_le h5.1 hle,h5.2⟩
     . refine⟨q.2,fun hb => ?_,.inl (Nat.le_trans H.from_.size q.1)⟩;have:=H.roB b hb;omega
   . rw [hold l hll] at h1;have h5:=H.own l r1 b h1 h2;exact⟨Nat.lt_of_lt_of_le h5.1 hle,h5.2⟩
 . have h3:=H.solid l r1 h1 h2;rcases hmov with hm|hm
   . exact hm l r1 h3
   . rw [hold l (fun e=>by subst e; rw [hm.2.2 _ h3] at h2; cases h2)];exact h3
end
end Go.Proofs.YtffeegebohigdaaGreat
