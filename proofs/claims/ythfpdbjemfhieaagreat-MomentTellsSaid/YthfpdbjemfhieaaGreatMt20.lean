/-
  The library's stable sort, at Stowed by tiers: insertion sort.
-/
import Derived.Test.YthfpdbjemfhieaaGreatMt19
set_option linter.unusedVariables false
set_option linter.unusedSimpArgs false
namespace Go.Proofs.YthfpdbjemfhieaaGreat
open Go.RowKit
section
variable {α:Type}
def swapAt (d : α) (l:List α) (j:Nat):List α:=(l.set (j+1) (l.getD j d)).set j (l.getD (j+1) d)
def insDown (lt : α -> α->Bool) (d : α) (a:Nat):Nat->List α->List α
 | 0,l=>l
 | j+1,l=>cond (decide (a<j+1)&&lt (l.getD (j+1) d) (l.getD j d)) (insDown lt d a j (swapAt d l j)) l
def insUpto (lt : α -> α->Bool) (d : α) (a:Nat) (l:List α):Nat->List α
 | 0=>l
 | n+1=>insDown lt d a (a+1+n) (insUpto lt d a l n)
def insSort (lt : α -> α->Bool) (d : α) (a b:Nat) (l:List α):List α:=insUpto lt d a l (b - (a+1))
theorem swapAt_len (d : α) (l:List α) (j:Nat):(swapAt d l j).length=l.length:=by unfold swapAt; simp
theorem insDown_len (lt : α -> α->Bool) (d : α) (a:Nat):∀ (j:Nat) (l:List α),(insDown lt d a j l).length=l.length
 | 0,l=>rfl
 | j+1,l=>by
  unfold insDown
  cases decide (a<j+1)&&lt (l.getD (j+1) d) (l.getD j d) with
  | true=>rw [cond_true,insDown_len lt d a j,swapAt_len]
  | false=>rfl
theorem insUpto_len (lt : α -> α->Bool) (d : α) (a:Nat) (l:List α):∀ n,(insUpto lt d a l n).length=l.length
 | 0=>rfl
 | n+1=>by unfold insUpto; rw [insDown_len,insUpto_len lt d a l n]
end
def cmpI (a b:Int):Int:=cond (decide (a<b)) (-1) (cond (decide (b<a)) 1 0)
def conNan:Con:=con1 205 kI (fun _=>True) (fun _ => .blit false)
set_option maxRecDepth 100000 in
set_option maxHeartbeats 4000000 in
theorem conNan_ok:ConOk Tryz.prog conNan:=by
 refine fnOk [] trivial Tryz.func205 (by kernel_rfl) fun avs res h hp => ?_;obtain⟨(a:Int),rfl,rfl⟩:=gop1 h;clear h;refine⟨[],?_⟩
 conv=>arg 1; cbv
 simp [P_fin,V_one]
def conCmp:Con:=con2 138 kI kI (fun _ _=>True) (fun a b => .int .i64 fun _=>cmpI (a ()) (b ()))
set_option maxRecDepth 100000 in
set_option maxHeartbeats 4000000 in
theorem conCmp_ok:ConOk Tryz.prog conCmp:=by
 refine fnOk [conNan] ⟨conNan_ok,trivial⟩ Tryz.func138 (by kernel_rfl) fun avs res h hp => ?_;obtain⟨(a:Int),(b:Int),rfl,rfl⟩:=gop2 h;clear h;refine⟨[],?_⟩
 conv=>arg 1; cbv
 simp (maxSteps:=4000000) only [fms];unfold cmpI;grind
def conLess:Con:=con2 137 kSto kSto (fun _ _=>True) (fun x y => .int .i64 fun _=>cmpI (x ()).tier (y ()).tier)
set_option maxRecDepth 100000 in
set_option maxHeartbeats 4000000 in
theorem conLess_ok:ConOk Tryz.prog conLess:=by
 refine fnOk [conCmp] ⟨conCmp_ok,trivial⟩ Tryz.func137 (by kernel_rfl) fun avs res h hp => ?_;obtain⟨(x:Stowed),(y:Stowed),rfl,rfl⟩:=gop2 h;clear h;refine⟨[],?_⟩
 conv=>arg 1; cbv
 simp (maxSteps:=4000000) only [fms];exact⟨trivial,trivial⟩
def lessT (a b:Stowed):Bool:=decide (cmpI a.tier b.tier<0)
def fonIns:Fon:=⟨252,[.ownr .stowed,.int .i64,.int .i64,.fn []],1,fun avs es=>match avs,es with
 | [.own 0,.int .i64 a,.int .i64 b,.fn f []],[(0,.row false .stowed T l)]=>if f=137 then some ⟨fun _=>0<=a ()/\a ()<=b ()/\b ()<=((l ()).length:Int)/\(l ()).length<=1000000,.tup [],[(0,.row false .stowed T fun _=>insSort lessT Tc.stowed.dflt (a ()).toNat (b ()).toNat (l ()))]⟩ else none
 | _,_=>none,true⟩
def lpIns (T:Nat) (l:List Stowed) (a b:Nat):Lp where
 X:=Nat
 ov n := [(8,.int .i64 fun _=>((a+1+n:Nat):Int)),(0,.own 0)]
 oe n := [(0,.row false .stowed T fun _=>insUpto lessT Tc.stowed.dflt a l n)]
 I n:=n<=b - (a+1)
 μ n _:=b - (a+1) - n
 x0:=0
 nx:=some fun n=>n+1
def lpDown (T:Nat) (a i:Nat) (R L1:List Stowed):Lp where
 X:=Nat×List Stowed
 ov p := [(9,.int .i64 fun _=>(p.1:Int)),(0,.own 0)]
 oe p := [(0,.row false .stowed T fun _=>p.2)]
 I p:=a<=p.1/\p.1<=i/\p.2.length=R.length/\insDown lessT Tc.stowed.dflt a p.1 p.2=R
 μ p _:=p.1
 x0:=(i,L1)
 nx:=none
set_option maxRecDepth 100000 in
set_option maxHeartbeats 4000000 in
theorem fonIns_ok:FonOk Tryz.prog fonIns:=by
 refine fonOk [conLess] ⟨conLess_ok,trivial⟩ [] trivial Tryz.func252 (by kernel_rfl) fun avs es res h hp => ?_;simp only [fonIns] at h;split at h
 case h_2=>cases h
 split at h
 case isFalse=>cases h
 rename_i a b f T l hf;subst hf;cases h;obtain⟨l,rfl⟩:=eta (α:=List Stowed) l;obtain⟨a,rfl⟩:=eta (α:=Int) a;obtain⟨b,rfl⟩:=eta (α:=Int) b;have hZh1:0<=a/\a<=b/\b<=(l.length:Int)/\l.length<=1000000:=hp;have h1:=hZh1.1;have h2:=hZh1.2.1;have h3:=hZh1.2.2.1;have h4:=hZh1.2.2.2;obtain⟨a,rfl⟩:=Int.eq_ofNat_of_zero_le h1;obtain⟨b,rfl⟩:=Int.eq_ofNat_of_zero_le (show 0<=b by omega);refine⟨[(1,lpIns T l a b)],?_⟩
 conv=>arg 1; cbv
 refine⟨⟨by simp only [castK]; omega,by simp only [castK]; omega⟩,⟨?_,fun (n:Nat) hn => ?_⟩⟩
 . simp (maxSteps:=4000000) only [fms];exact⟨Nat.zero_le _,by omega,rfl⟩
 have hn':n<=b - (a+1):=hn
 conv=>arg 1; cbv
 refine⟨fun g1 => ?_,fun g1 => ?_⟩
 . have g1':a+1+n<b:=by simp only [decide_eq_true_eq,castK] at g1; omega
   refine nameIt (insUpto lessT Tc.stowed.dflt a l n) fun L1 hL1 => ?_;refine nameIt (a+1+n) fun i hi => ?_;refine nameIt (insDown lessT Tc.stowed.dflt a i L1) fun R hR => ?_;have hlen1:L1.length=l.length:=by rw [<- hL1,insUpto_len]
   have hlenR:R.length=l.length:=by rw [<- hR,insDown_len,hlen1]
   refine⟨lpDown T a i R L1,?_⟩
   conv=>arg 1; cbv
   refine⟨?_,fun (p:Nat×List Stowed) hp => ?_⟩
   . simp (maxSteps:=4000000) only [fms];refine⟨⟨by omega,Nat.le_refl _,by omega,hR⟩,by rw [hi],hL1⟩
   . have hp':a<=p.1/\p.1<=i/\p.2.length=R.length/\insDown lessT Tc.stowed.dflt a p.1 p.2=R:=hp;have p1:=hp'.1;have p2:=hp'.2.1;have p3:=hp'.2.2.1;have p4:=hp'.2.2.2;clear hn hp hp' hZh1;have hup:insUpto lessT Tc.stowed.dflt a l (n+1)=R:=by rw [<- hR,<- hi,<- hL1]; rfl
     have hlast:insDown lessT Tc.stowed.dflt a p.1 p.2=p.2->inI64 (((a+1+n:Nat):Int)+1)/\(n+1<=b - (a+1)/\b - (a+1) - (n+1)<b - (a+1) - n)/\((a+1+n:Nat):Int)+1=((a+1+(n+1):Nat):Int)/\p.2=insUpto lessT Tc.stowed.dflt a l (n+1):=fun h=>by
      rw [p4] at h;exact⟨⟨by omega,by omega⟩,⟨by omega,by omega⟩,by omega,by rw [hup,h]⟩
     conv=>arg 1; cbv
     refine nameIt (p.1 - 1) fun j hj => ?_;refine nameIt (swapAt Tc.stowed.dflt p.2 j) fun L2 hL2 => ?_;have h5:(p.2.length:Int)<=1000000:=by omega
     have hdown:insDown lessT Tc.stowed.dflt a p.1 p.2=cond (decide (p.1=0)) p.2 (cond (decide (a<p.1)&&lessT (p.2.getD p.1 Tc.stowed.dflt) (p.2.getD j Tc.stowed.dflt)) (insDown lessT Tc.stowed.dflt a j L2) p.2):=by
      rw [<- hL2]
      cases hc:p.1 with
      | zero=>rfl
      | succ m =>
       have:j=m:=by omega
       subst this;rfl
     have hlt:p.1<p.2.length:=by omega
     simp (maxSteps:=4000000) only [fms];refine⟨fun g2 => ?_,fun g2=>hlast ?_⟩
     . have g2':a<p.1:=by omega
       have hj2:p.1=j+1:=by omega
       have hne:decide (p.1=0)=false:=by simp; omega
       refine⟨⟨by omega,by omega⟩,⟨by omega,by omega⟩,⟨by omega,by omega⟩,trivial,fun g3 => ?_,fun g3=>hlast ?_⟩
       . refine⟨⟨by omega,by omega⟩,⟨by omega,by omega⟩,⟨by omega,by omega⟩,⟨by omega,by omega⟩,⟨by omega,by omega⟩,⟨by omega,by rw [List.length_set]; omega⟩,⟨by omega,by omega⟩,⟨(j,L2),⟨⟨by omega,by omega,?_,?_⟩,by omega⟩,?_⟩⟩
         . rw [<- hL2,swapAt_len]; exact p3
         . rw [hne,cond_false,decide_eq_true g2',Bool.true_and] at hdown;have g3':lessT (p.2.getD p.1 Tc.stowed.dflt) (p.2.getD j Tc.stowed.dflt)=true:=by rw [<- hj]; exact decide_eq_true g3
           rw [g3',cond_true] at hdown;rw [<- hdown];exact p4
         . conv=>arg 1; cbv
           simp (maxSteps:=4000000) only [fms];refine⟨by omega,?_⟩;rw [<- hL2,hj,hj2];rfl
       . rw [hdown,hne,cond_false];have g3':lessT (p.2.getD p.1 Tc.stowed.dflt) (p.2.getD j Tc.stowed.dflt)=false:=by rw [<- hj]; exact decide_eq_false g3
         rw [g3',Bool.and_false,cond_false]
     . have g2':decide (a<p.1)=false:=by simp; omega
       rw [hdown,g2',Bool.false_and,cond_false];cases decide (p.1=0)<;>rfl
 . simp (maxSteps:=4000000) only [fms];have g1':¬ a+1+n<b:=by simp only [decide_eq_false_iff_not,castK] at g1; omega
   unfold insSort;rw [show b - (a+1)=n by omega]
theorem swap_get {α:Type} (d : α) (l:List α) (j i:Nat) (hj:j+1<l.length):(swapAt d l j).getD i d=if i=j then l.getD (j+1) d else if i=j+1 then l.getD j d else l.getD i d:=by
 unfold swapAt;rw [List.getD_eq_getElem?_getD,List.getElem?_set,List.getElem?_set];by_cases h1:i=j
 . subst h1;simp [show i<l.length by omega]
 . rw [if_neg (fun e=>h1 e.symm),if_neg h1];by_cases h2:i=j+1
   . subst h2;simp [hj]
   . rw [if_neg (fun e=>h2 e.symm),if_neg h2,List.getD_eq_getElem?_getD]
theorem lessT_iff (a b:Stowed):lessT a b=decide (a.tier<b.tier):=by
 unfold lessT cmpI;by_cases h:a.tier<b.tier
 . simp [h]
 . by_cases h2:b.tier<a.tier<;>simp [h,h2]
section
variable {α:Type} (key : α->Int) (d : α)
def keyed (t:Int) (l:List α):List α:=l.filter fun x=>decide (key x=t)
structure Ren (a b:Nat) (l m:List α):Prop where
 len:m.length=l.length
 out:∀ i,i<a\/b<=i->m[i]? = l[i]?
 flt:∀ t,keyed key t m=keyed key t l
def Srt (a b:Nat) (l:List α):Prop:=∀ i k,a<=i->i<k->k<b->key (l.getD i d)<=key (l.getD k d)
theorem Ren.refl (a b:Nat) (l:List α):Ren key a b l l:=⟨rfl,fun _ _=>rfl,fun _=>rfl⟩
variable {key}
theorem Ren.trans {a b:Nat} {l m n:List α} (h:Ren key a b l m) (g:Ren key a b m n):Ren key a b l n :=
 ⟨g.len.trans h.len,fun i hi=>(g.out i hi).trans (h.out i hi),fun t=>(g.flt t).trans (h.flt t)⟩
theorem Ren.wide {a b a' b':Nat} {l m:List α} (h:Ren key a b l m) (ha:a'<=a) (hb:b<=b'):Ren key a' b' l m :=
 ⟨h.len,fun i hi=>h.out i (by omega),h.flt⟩
variable {d}
theorem Ren.get {a b:Nat} {l m:List α} (h:Ren key a b l m) {i:Nat} (hi:i<a\/b<=i):m.getD i d=l.getD i d:=by
 rw [List.getD_eq_getElem?_getD,h.out i hi,<- List.getD_eq_getElem?_getD]
theorem Srt.le {a b:Nat} {l:List α} (h:Srt key d a b l) {i k:Nat} (hi:a<=i) (hik:i<=k) (hk:k<b):key (l.getD i d)<=key (l.getD k d):=by
 rcases Nat.lt_or_ge i k with g|g
 . exact h i k hi g hk
 . rw [show i=k by omega]; exact Int.le_refl _
theorem sorted_uniq:∀ {l m:List α},l.Pairwise (fun x y=>key x<=key y)->m.Pairwise (fun x y=>key x<=key y)->(∀ t,keyed key t l=keyed key t m)->l=m
 | [],[],_,_,_=>rfl
 | [],y::m,_,_,h=>by
  have:=h (key y);simp [keyed] at this
 | x::l,[],_,_,h=>by
  have:=h (key x);simp [keyed] at this
 | x::l,y::m,h1,h2,h=>by
  have hx:x∈keyed key (key x) (y::m):=by rw [<- h]; simp [keyed]
  have hy:y∈keyed key (key y) (x::l):=by rw [h]; simp [keyed]
  have hxm:=(List.mem_filter.1 hx).1;have hyl:=(List.mem_filter.1 hy).1;have e1:key y<=key x:=by
   rcases List.mem_cons.1 hxm with g|g
   . rw [g]; exact Int.le_refl _
   . exact (List.pairwise_cons.1 h2).1 x g
  have e2:key x<=key y:=by
   rcases List.mem_cons.1 hyl with g|g
   . rw [g]; exact Int.le_refl _
   . exact (List.pairwise_cons.1 h1).1 y g
  have e:key x=key y:=by omega
  have h3:=h (key x);simp only [keyed,List.filter_cons,decide_true,if_true,e,List.cons.injEq] at h3;obtain⟨rfl,h4⟩:=h3;have h5:∀ t,keyed key t l=keyed key t m:=fun t=>by
   have:=h t;simp only [keyed,List.filter_cons] at this;split at this
   . exact (List.cons.inj this).2
   . exact this
  rw [sorted_uniq (List.pairwise_cons.1 h1).2 (List.pairwise_cons.1 h2).2 h5]
theorem three_parts {l:List α} {a b:Nat} (hab:a<=b):l=l.take a++((l.take b).drop a++l.drop b):=by
 rw [<- List.append_assoc]
 conv=>lhs; rw [<- List.take_append_drop b l]
 congr 1
 conv=>lhs; rw [<- List.take_append_drop a (l.take b)]
 rw [List.take_take,Nat.min_eq_left hab]
theorem win_sorted {l:List α} {a b:Nat} (hb:b<=l.length) (h:Srt key d a b l):((l.take b).drop a).Pairwise fun x y=>key x<=key y:=by
 rw [List.pairwise_iff_getElem];intro i j hi hj hij;simp only [List.length_drop,List.length_take] at hi hj;have:=h (a+i) (a+j) (by omega) (by omega) (by omega);rw [List.getD_eq_getElem?_getD,List.getD_eq_getElem?_getD,List.getElem?_eq_getElem (by omega),List.getElem?_eq_getElem (by omega)] at this;simpa [List.getElem_drop,List.getElem_take] using this
theorem ren_uniq {l m n:List α} {a b:Nat} (hab:a<=b) (hb:b<=l.length) (h1:Ren key a b l m) (h2:Ren key a b l n) (s1:Srt key d a b m) (s2:Srt key d a b n):m=n:=by
 have ht:m.take a=n.take a:=List.ext_getElem? fun i=>by
  rw [List.getElem?_take,List.getElem?_take];split
  . rw [h1.out i (.inl (by omega)),h2.out i (.inl (by omega))]
  . rfl
 have hd:m.drop b=n.drop b:=List.ext_getElem? fun i=>by
  rw [List.getElem?_drop,List.getElem?_drop,h1.out _ (.inr (by omega)),h2.out _ (.inr (by omega))]
 rw [three_parts (l:=m) hab,three_parts (l:=n) hab,ht,hd];congr 2;refine sorted_uniq (key:=key) (win_sorted (by rw [h1.len]; exact hb) s1) (win_sorted (by rw [h2.len]; exact hb) s2) fun t => ?_;have h:=(h1.flt t).trans (h2.flt t).symm;rw [three_parts (l:=m) hab,three_parts (l:=n) hab,ht,hd] at h;simp only [keyed,List.filter_append] at h;exact List.append_cancel_right (List.append_cancel_left h)
def insK (key : α->Int) (x : α):List α->List α
 | [] => [x]
 | y::l=>if key x<=key y then x::y::l else y::insK key x l
def srtK (key : α->Int) (l:List α):List α:=l.foldr (insK key) []
theorem insK_keyed (t:Int) (x : α):∀ l,keyed key t (insK key x l)=keyed key t (x::l)
 | []=>rfl
 | y::l=>by
  unfold insK;split
  . rfl
  . have:=insK_keyed t x l;simp only [keyed,List.filter_cons] at this ⊢;rw [this];by_cases h1:key x=t<;>by_cases h2:key y=t<;>simp [h1,h2]
    omega
theorem srtK_keyed (t:Int):∀ l,keyed key t (srtK key l)=keyed key t l
 | []=>rfl
 | x::l=>by
  have h:=insK_keyed (key:=key) t x (srtK key l);have ih:=srtK_keyed t l;simp only [keyed,List.filter_cons] at h ih ⊢;rw [show srtK key (x::l)=insK key x (srtK key l) from rfl,h,ih]
theorem insK_len (x : α):∀ l,(insK key x l).length=l.length+1
 | []=>rfl
 | y::l=>by
  unfold insK;split
  . rfl
  . rw [List.length_cons,insK_len x l,List.length_cons]
theorem srtK_len:∀ l,(srtK key l).length=l.length
 | []=>rfl
 | x::l=>by
  rw [show srtK key (x::l)=insK key x (srtK key l) from rfl,insK_len,srtK_len l,List.length_cons]
theorem insK_mem (x : α):∀ {l} {y},y∈insK key x l->y=x\/y∈l
 | [],y,h => .inl (by simpa [insK] using h)
 | z::l,y,h=>by
  unfold insK at h;split at h
  . simpa using h
  . rcases List.mem_cons.1 h with g|g
    . exact .inr (by simp [g])
    . rcases insK_mem x g with g|g
      . exact .inl g
      . exact .inr (by simp [g])
theorem insK_sorted (x : α):∀ {l:List α},l.Pairwise (fun x y=>key x<=key y)->(insK key x l).Pairwise fun x y=>key x<=key y
 | [],_=>by simp [insK]
 | y::l,h=>by
  obtain⟨h1,h2⟩:=List.pairwise_cons.1 h;unfold insK;split
  . rename_i g;exact List.pairwise_cons.2 ⟨fun z hz=>by
     rcases List.mem_cons.1 hz with e|e
     . rw [e]; exact g
     . exact Int.le_trans g (h1 z e),h⟩
  . rename_i g;exact List.pairwise_cons.2 ⟨fun z hz=>by
     rcases insK_mem x hz with e|e
     . rw [e]; omega
     . exact h1 z e,insK_sorted x h2⟩
theorem srtK_sorted:∀ l:List α,(srtK key l).Pairwise fun x y=>key x<=key y
 | []=>List.Pairwise.nil
 | x::l=>insK_sorted x (srtK_sorted l)
def srtW (key : α->Int) (a b:Nat) (l:List α):List α:=l.take a++(srtK key ((l.take b).drop a)++l.drop b)
theorem srtW_ren {l:List α} {a b:Nat} (hab:a<=b) (hb:b<=l.length):Ren key a b l (srtW key a b l):=by
 have hn:(srtK key ((l.take b).drop a)).length=b - a:=by rw [srtK_len,List.length_drop,List.length_take]; omega
 refine⟨?_,fun i hi => ?_,fun t => ?_⟩
 . unfold srtW;simp only [List.length_append,hn,List.length_take,List.length_drop];omega
 . unfold srtW;rw [List.getElem?_append];simp only [List.length_take];rcases hi with hi|hi
   . rw [if_pos (by omega),List.getElem?_take,if_pos hi]
   . rw [if_neg (by omega),List.getElem?_append,hn,if_neg (by omega),List.getElem?_drop];congr 1;omega
 . unfold srtW;have h:=srtK_keyed (key:=key) t ((l.take b).drop a)
   conv=>rhs; rw [three_parts (l:=l) hab]
   simp only [keyed,List.filter_append] at h ⊢;rw [h]
theorem srtW_srt {l:List α} {a b:Nat} (hab:a<=b) (hb:b<=l.length):Srt key d a b (srtW key a b l):=by
 have hn:(srtK key ((l.take b).drop a)).length=b - a:=by rw [srtK_len,List.length_drop,List.length_take]; omega
 intro i k hi hik hk;have hg:∀ j,a<=j->(hj:j<b)->(srtW key a b l).getD j d=(srtK key ((l.take b).drop a))[j - a]'(by omega):=fun j h1 h2=>by
  unfold srtW;rw [List.getD_eq_getElem?_getD,List.getElem?_append,if_neg (by rw [List.length_take]; omega),List.getElem?_append,if_pos (by rw [List.length_take]; omega),List.length_take,show min a l.length=a by omega,List.getElem?_eq_getElem (by omega)];rfl
 rw [hg i hi (by omega),hg k (by omega) hk];exact List.pairwise_iff_getElem.1 (srtK_sorted _) _ _ _ _ (by omega)
theorem srtW_is {l m:List α} {a b:Nat} (hab:a<=b) (hb:b<=l.length) (h:Ren key a b l m) (s:Srt key d a b m):m=srtW key a b l :=
 ren_uniq hab hb h (srtW_ren hab hb) s (srtW_srt hab hb)
theorem srtK_mem:∀ {l:List α} {y},y∈srtK key l->y∈l
 | [],y,h=>h
 | x::l,y,h=>by
  rcases insK_mem x (show y∈insK key x (srtK key l) from h) with g|g
  . rw [g]; exact List.mem_cons_self
  . exact List.mem_cons_of_mem _ (srtK_mem g)
theorem srtW_mem {l:List α} {a b x:Nat} (hab:a<=b) (hb:b<=l.length) (h1:a<=x) (h2:x<b):∃ i,a<=i/\i<b/\(srtW key a b l).getD x d=l.getD i d:=by
 have hn:(srtK key ((l.take b).drop a)).length=b - a:=by rw [srtK_len,List.length_drop,List.length_take]; omega
 have hg:(srtW key a b l).getD x d=(srtK key ((l.take b).drop a))[x - a]'(by omega):=by
  unfold srtW;rw [List.getD_eq_getElem?_getD,List.getElem?_append,if_neg (by rw [List.length_take]; omega),List.getElem?_append,if_pos (by rw [List.length_take]; omega),List.length_take,show min a l.length=a by omega,List.getElem?_eq_getElem (by omega)];rfl
 obtain⟨i,hi⟩:=List.mem_iff_getElem?.1 (srtK_mem (List.getElem_mem (show x - a<(srtK key ((l.take b).drop a)).length by omega)));rw [List.getElem?_drop,List.getElem?_take] at hi;split at hi
 . exact⟨a+i,by omega,by omega,by rw [hg,List.getD_eq_getElem?_getD,hi]; rfl⟩
 . cases hi
/- two that lie side by side -/
theorem swapAt_ren {l:List α} {j a b:Nat} (hj:j+1<l.length) (ha:a<=j) (hb:j+1<b) (h:key (l.getD (j+1) d)≠key (l.getD j d)):Ren key a b l (swapAt d l j):=by
 refine⟨swapAt_len d l j,fun i hi => ?_,fun t => ?_⟩
 . unfold swapAt;rw [List.getElem?_set_ne (by omega),List.getElem?_set_ne (by omega)]
 . have e1:l.getD j d=l[j]:=by rw [List.getD_eq_getElem?_getD,List.getElem?_eq_getElem (by omega),Option.getD_some]
   have e2:l.getD (j+1) d=l[j+1]:=by rw [List.getD_eq_getElem?_getD,List.getElem?_eq_getElem hj,Option.getD_some]
   have h1:l=l.take j++l[j]::l[j+1]::l.drop (j+2):=by
    rw [List.getElem_cons_drop,List.getElem_cons_drop,List.take_append_drop]
   have h2:swapAt d l j=l.take j++l[j+1]::l[j]::l.drop (j+2):=by
    unfold swapAt;rw [e1,e2];apply List.ext_getElem?;intro i;rw [List.getElem?_set,List.getElem?_set,List.getElem?_append];simp only [List.length_set,List.length_take];grind
   rw [h2]
   conv=>rhs; rw [h1]
   rw [e1,e2] at h;simp only [keyed,List.filter_append,List.filter_cons];congr 1;by_cases g1:key l[j]=t<;>by_cases g2:key l[j+1]=t<;>simp [g1,g2]
   omega
/- one goes up,one goes down -/
def swUp (d : α) (l:List α) (a:Nat):Nat->List α
 | 0=>l
 | n+1=>swapAt d (swUp d l a n) (a+n)
theorem swUp_len (l:List α) (a:Nat):∀ n,(swUp d l a n).length=l.length
 | 0=>rfl
 | n+1=>by unfold swUp; rw [swapAt_len,swUp_len l a n]
theorem swUp_get (l:List α) (a:Nat):∀ n,a+n<l.length->∀ i,(swUp d l a n).getD i d=if a<=i/\i<a+n then l.getD (i+1) d else if i=a+n then l.getD a d else l.getD i d
 | 0,hn,i=>by
  unfold swUp;rw [if_neg (by omega)];split
  . rename_i h; rw [h]; rfl
  . rfl
 | n+1,hn,i=>by
  have ih:=swUp_get l a n (by omega);unfold swUp;rw [swap_get _ _ _ _ (by rw [swUp_len]; omega),ih,ih,ih];grind
theorem swUp_ren {l:List α} {a b:Nat}:∀ n,a+n<l.length->a+n<b->(∀ i,a<i->i<=a+n->key (l.getD i d)<key (l.getD a d))->Ren key a b l (swUp d l a n)
 | 0,_,_,_=>Ren.refl key a b l
 | n+1,hn,hb,h=>by
  refine (swUp_ren n (by omega) (by omega) fun i h1 h2=>h i h1 (by omega)).trans (swapAt_ren (by rw [swUp_len]; omega) (by omega) (by omega) ?_);rw [swUp_get l a n (by omega),swUp_get l a n (by omega),if_neg (by omega),if_neg (by omega),if_neg (by omega),if_pos rfl];have:=h (a+n+1) (by omega) (by omega);omega
theorem swUp_srt {l:List α} {a b i:Nat} (hb:b<=l.length) (hi:a+1<=i/\i<=b) (s:Srt key d (a+1) b l) (h1:∀ k,a+1<=k->k<i->key (l.getD k d)<key (l.getD a d)) (h2:∀ k,i<=k->k<b->key (l.getD a d)<=key (l.getD k d)):swUp d l a (i - 1 - a)=srtW key a b l:=by
 refine srtW_is (d:=d) (by omega) hb (swUp_ren _ (by omega) (by omega) fun k g1 g2=>h1 k (by omega) (by omega)) fun x y g1 g2 g3 => ?_;rw [swUp_get l a _ (by omega),swUp_get l a _ (by omega)];have e:a+(i - 1 - a)=i - 1:=by omega
 rw [e];by_cases c1:x<i - 1
 . rw [if_pos ⟨g1,c1⟩];by_cases c2:y<i - 1
   . rw [if_pos ⟨by omega,c2⟩];exact s _ _ (by omega) (by omega) (by omega)
   . rw [if_neg (by omega)];split
     . exact Int.le_of_lt (h1 _ (by omega) (by omega))
     . exact s _ _ (by omega) (by omega) (by omega)
 . rw [if_neg (show ¬ (a<=x/\x<i - 1) by omega),if_neg (show ¬ (a<=y/\y<i - 1) by omega),if_neg (show ¬ y=i - 1 by omega)];split
   . exact h2 _ (by omega) (by omega)
   . exact s _ _ (by omega) (by omega) (by omega)
def swDn (d : α) (l:List α) (m:Nat):Nat->List α
 | 0=>l
 | n+1=>swapAt d (swDn d l m n) (m - n - 1)
theorem swDn_len (l:List α) (m:Nat):∀ n,(swDn d l m n).length=l.length
 | 0=>rfl
 | n+1=>by unfold swDn; rw [swapAt_len,swDn_len l m n]
theorem swDn_get (l:List α) (m:Nat) (hm:m<l.length):∀ n,n<=m->∀ i,(swDn d l m n).getD i d=if m - n<i/\i<=m then l.getD (i - 1) d else if i=m - n then l.getD m d else l.getD i d
 | 0,hn,i=>by
  unfold swDn;rw [if_neg (by omega)];split
  . rename_i h; rw [h]; rfl
  . rfl
 | n+1,hn,i=>by
  have ih:=swDn_get l m hm n (by omega);unfold swDn;rw [swap_get _ _ _ _ (by rw [swDn_len]; omega),ih,ih,ih];grind
theorem swDn_ren {l:List α} {a b m:Nat} (hm:m<l.length) (hb:m<b):∀ n,a+n<=m->(∀ i,m - n<=i->i<m->key (l.getD m d)<key (l.getD i d))->Ren key a b l (swDn d l m n)
 | 0,_,_=>Ren.refl key a b l
 | n+1,hn,h=>by
  refine (swDn_ren hm hb n (by omega) fun i h1 h2=>h i (by omega) (by omega)).trans (swapAt_ren (by rw [swDn_len]; omega) (by omega) (by omega) ?_);rw [swDn_get l m hm n (by omega),swDn_get l m hm n (by omega),if_neg (by omega),if_pos (by omega),if_neg (by omega),if_neg (by omega)];have:=h (m - n - 1) (by omega) (by omega);omega
theorem swDn_srt {l:List α} {a m i:Nat} (hm:m<l.length) (hi:a<=i/\i<=m) (s:Srt key d a m l) (h1:∀ k,a<=k->k<i->key (l.getD k d)<=key (l.getD m d)) (h2:∀ k,i<=k->k<m->key (l.getD m d)<key (l.getD k d)):swDn d l m (m - i)=srtW key a (m+1) l:=by
 refine srtW_is (d:=d) (by omega) (by omega) (swDn_ren hm (by omega) _ (by omega) fun k g1 g2=>h2 k (by omega) (by omega)) fun x y g1 g2 g3 => ?_;rw [swDn_get l m hm _ (by omega),swDn_get l m hm _ (by omega)];have e:m - (m - i)=i:=by omega
 rw [e];by_cases c1:x<i
 . rw [if_neg (by omega),if_neg (by omega)];by_cases c2:y<i
   . rw [if_neg (by omega),if_neg (by omega)];exact s _ _ (by omega) (by omega) (by omega)
   . by_cases c3:y=i
     . rw [if_neg (by omega),if_pos c3];exact h1 _ (by omega) (by omega)
     . rw [if_pos (by omega)];exact s _ _ (by omega) (by omega) (by omega)
 . rw [if_pos (show i<y/\y<=m by omega)];by_cases c2:x=i
   . rw [if_neg (by omega),if_pos c2];exact Int.le_of_lt (h2 _ (by omega) (by omega))
   . rw [if_pos (by omega)];exact s _ _ (by omega) (by omega) (by omega)
/- blocks -/
def swq (d : α) (l:List α) (i j:Nat):List α:=(l.set i (l.getD j d)).set j (l.getD i d)
def swR (d : α) (l:List α) (a b:Nat):Nat->List α
 | 0=>l
 | n+1=>swq d (swR d l a b n) (a+n) (b+n)
theorem swq_len (l:List α) (i j:Nat):(swq d l i j).length=l.length:=by unfold swq; simp
theorem swq_get (l:List α) {i j:Nat} (hi:i<l.length) (hj:j<l.length) (k:Nat):(swq d l i j)[k]? = if k=j then l[i]? else if k=i then l[j]? else l[k]? := by
 unfold swq;rw [List.getElem?_set,List.getElem?_set,List.length_set,List.getD_eq_getElem?_getD,List.getD_eq_getElem?_getD,List.getElem?_eq_getElem hi,List.getElem?_eq_getElem hj];by_cases h1:j=k
 . subst h1; simp [hj]
 . rw [if_neg h1,if_neg (show ¬ k=j from fun e=>h1 e.symm)];by_cases h2:i=k
   . subst h2; simp [hi]
   . rw [if_neg h2,if_neg (show ¬ k=i from fun e=>h2 e.symm)]
theorem swR_len (l:List α) (a b:Nat):∀ n,(swR d l a b n).length=l.length
 | 0=>rfl
 | n+1=>by unfold swR; rw [swq_len,swR_len l a b n]
theorem swR_get (l:List α) (a b:Nat):∀ n,a+n<=b->b+n<=l.length->∀ k,(swR d l a b n)[k]? = if a<=k/\k<a+n then l[b+(k - a)]? else if b<=k/\k<b+n then l[a+(k - b)]? else l[k]?
 | 0,h1,h2,k=>by unfold swR; rw [if_neg (by omega),if_neg (by omega)]
 | n+1,h1,h2,k=>by
  have ih:=swR_get l a b n (by omega) (by omega);unfold swR;rw [swq_get _ (by rw [swR_len]; omega) (by rw [swR_len]; omega),ih,ih,ih];grind
def rotW (a m b:Nat) (l:List α):List α:=l.take a++((l.take b).drop m++((l.take m).drop a++l.drop b))
theorem rotW_len {a m b:Nat} {l:List α} (h1:a<=m) (h2:m<=b) (h3:b<=l.length):(rotW a m b l).length=l.length:=by
 unfold rotW;simp only [List.length_append,List.length_drop,List.length_take];omega
theorem rotW_get {a m b:Nat} {l:List α} (h1:a<=m) (h2:m<=b) (h3:b<=l.length) (k:Nat):(rotW a m b l)[k]? = if a<=k/\k<a+(b - m) then l[m+(k - a)]? else if a+(b - m)<=k/\k<b then l[k - (b - m)]? else l[k]? := by
 unfold rotW;rw [List.getElem?_append];simp only [List.length_take,show min a l.length=a by omega];by_cases c1:k<a
 . rw [if_pos c1,if_neg (by omega),if_neg (by omega),List.getElem?_take,if_pos c1]
 . rw [if_neg c1,List.getElem?_append];simp only [List.length_drop,List.length_take,show min b l.length=b by omega];by_cases c2:k - a<b - m
   . rw [if_pos c2,if_pos (show a<=k/\k<a+(b - m) by omega),List.getElem?_drop,List.getElem?_take,if_pos (by omega)]
   . rw [if_neg c2,if_neg (show ¬ (a<=k/\k<a+(b - m)) by omega),List.getElem?_append];simp only [List.length_drop,List.length_take,show min m l.length=m by omega];by_cases c3:k - a - (b - m)<m - a
     . rw [if_pos c3,if_pos (by omega),List.getElem?_drop,List.getElem?_take,if_pos (by omega)];congr 1;omega
     . rw [if_neg c3,if_neg (by omega),List.getElem?_drop];congr 1;omega
theorem rot_more {l:List α} {a m b j:Nat} (h1:a<m) (h3:b<=l.length) (hj:b=m+j) (hlt:j<m - a):rotW (a+j) m b (swR d l a m j)=rotW a m b l:=by
 apply List.ext_getElem?;intro k;rw [rotW_get (by omega) (by omega) (by rw [swR_len]; omega),rotW_get (by omega) (by omega) h3,swR_get l a m j (by omega) (by omega),swR_get l a m j (by omega) (by omega),swR_get l a m j (by omega) (by omega)];grind
theorem rot_less {l:List α} {a m b i:Nat} (h3:b<=l.length) (hm:m=a+i) (hlt:i<b - m):rotW a m (b - i) (swR d l a (b - i) i)=rotW a m b l:=by
 apply List.ext_getElem?;intro k;rw [rotW_get (by omega) (by omega) (by rw [swR_len]; omega),rotW_get (by omega) (by omega) h3,swR_get l a _ i (by omega) (by omega),swR_get l a _ i (by omega) (by omega),swR_get l a _ i (by omega) (by omega)]
 repeat' split
 all_goals first|(exfalso; omega)|(congr 1; omega)|rfl
theorem rot_last {l:List α} {a m b:Nat} (h1:a<=m) (h3:b<=l.length) (he:m - a=b - m) (h2:m<=b):swR d l a m (m - a)=rotW a m b l:=by
 apply List.ext_getElem?;intro k;rw [rotW_get (by omega) (by omega) h3,swR_get l a m _ (by omega) (by omega)];grind
theorem rotW_ren {l:List α} {a m b A B:Nat} (h1:a<=m) (h2:m<=b) (h3:b<=l.length) (hA:A<=a) (hB:b<=B) (h:∀ i k,a<=i->i<m->m<=k->k<b->key (l.getD k d)<key (l.getD i d)):Ren key A B l (rotW a m b l):=by
 refine⟨rotW_len h1 h2 h3,fun i hi=>by rw [rotW_get h1 h2 h3,if_neg (by omega),if_neg (by omega)],fun t => ?_⟩;have e:l=l.take a++((l.take m).drop a++((l.take b).drop m++l.drop b)):=by
  conv=>lhs; rw [three_parts (l:=l) (a:=a) (b:=b) (by omega)]
  congr 1;rw [<- List.append_assoc];congr 1
  conv=>lhs; rw [<- List.take_append_drop (m - a) ((l.take b).drop a)]
  rw [List.drop_drop,show a+(m - a)=m by omega,<- List.drop_take,List.take_take,show min m b=m by omega]
 conv=>rhs; rw [e]
 unfold rotW;simp only [keyed,List.filter_append];congr 1;rw [<- List.append_assoc,<- List.append_assoc];congr 1;have hx:∀ x∈(l.take m).drop a,∃ i,a<=i/\i<m/\l.getD i d=x:=fun x hx=>by
  obtain⟨i,hi⟩:=List.mem_iff_getElem?.1 hx;rw [List.getElem?_drop,List.getElem?_take] at hi;split at hi
  . exact⟨a+i,by omega,by omega,by rw [List.getD_eq_getElem?_getD,hi]; rfl⟩
  . cases hi
 have hy:∀ y∈(l.take b).drop m,∃ k,m<=k/\k<b/\l.getD k d=y:=fun x hx=>by
  obtain⟨i,hi⟩:=List.mem_iff_getElem?.1 hx;rw [List.getElem?_drop,List.getElem?_take] at hi;split at hi
  . exact⟨m+i,by omega,by omega,by rw [List.getD_eq_getElem?_getD,hi]; rfl⟩
  . cases hi
 by_cases g:∃ x∈(l.take m).drop a,key x=t
 . obtain⟨x,hxm,hxt⟩:=g;obtain⟨i,i1,i2,i3⟩:=hx x hxm;have:((l.take b).drop m).filter (fun x=>decide (key x=t)) = []:=by
    rw [List.filter_eq_nil_iff];intro y hym;obtain⟨k,k1,k2,k3⟩:=hy y hym;have:=h i k i1 i2 k1 k2;rw [i3,k3] at this;simp only [decide_eq_true_eq];omega
   rw [this,List.nil_append,List.append_nil]
 . have:((l.take m).drop a).filter (fun x=>decide (key x=t)) = []:=by
    rw [List.filter_eq_nil_iff];intro y hym hyt;exact g ⟨y,hym,of_decide_eq_true hyt⟩
   rw [this,List.nil_append,List.append_nil]
theorem merge_whole {l l1 l2 l3:List α} {a m b s e c:Nat} (hb:b<=l.length) (h:a<=s/\s<=m/\m<=e/\e<=b) (hc:c=s+(e - m)) (sa:Srt key d a m l) (sb:Srt key d m b l)
 (hlo:s=a\/e=b\/key (l.getD (s - 1) d)<=key (l.getD e d)) (hhi:s=m\/e=m\/key (l.getD (e - 1) d)<key (l.getD s d))
 (h1:l1=rotW s m e l) (h2:l2=srtW key a c l1) (h3:l3=srtW key c b l2):l3=srtW key a b l:=by
 have hrot:∀ i k,s<=i->i<m->m<=k->k<e->key (l.getD k d)<key (l.getD i d):=fun i k i1 i2 k1 k2=>by
  have q:key (l.getD (e - 1) d)<key (l.getD s d):=by rcases hhi with g|g|g<;>first|exact g|omega
  have q1:=sb.le k1 (show k<=e - 1 by omega) (by omega);have q2:=sa.le (show a<=s by omega) i1 i2;omega
 have r1:Ren key a b l l1:=by rw [h1]; exact rotW_ren (by omega) (by omega) (by omega) (by omega) (by omega) hrot
 have n1:=r1.len;have r2:Ren key a c l1 l2:=by rw [h2]; exact srtW_ren (by omega) (by omega)
 have n2:=r2.len;have r3:Ren key c b l2 l3:=by rw [h3]; exact srtW_ren (by omega) (by omega)
 refine srtW_is (d:=d) (by omega) hb ((r1.trans (r2.wide (by omega) (by omega))).trans (r3.wide (by omega) (by omega))) fun x y g1 g2 g3 => ?_;have s2:Srt key d a c l2:=by rw [h2]; exact srtW_srt (by omega) (by omega)
 have s3:Srt key d c b l3:=by rw [h3]; exact srtW_srt (by omega) (by omega)
 by_cases c1:c<=x
 . exact s3 x y c1 g2 g3
 by_cases c2:y<c
 . rw [r3.get (.inl (by omega)),r3.get (.inl (by omega))];exact s2 x y g1 g2 c2
 obtain⟨i,i1,i2,i3⟩:=srtW_mem (key:=key) (d:=d) (l:=l1) (a:=a) (b:=c) (by omega) (by omega) g1 (show x<c by omega);obtain⟨k,k1,k2,k3⟩:=srtW_mem (key:=key) (d:=d) (l:=l2) (a:=c) (b:=b) (by omega) (by omega) (show c<=y by omega) g3;rw [r3.get (.inl (by omega)),h2,i3,h3,k3,r2.get (.inr (by omega)),h1];have hr:∀ q,(rotW s m e l).getD q d=if s<=q/\q<s+(e - m) then l.getD (m+(q - s)) d else if s+(e - m)<=q/\q<e then l.getD (q - (e - m)) d else l.getD q d:=fun q=>by
  rw [List.getD_eq_getElem?_getD,rotW_get (by omega) (by omega) (by omega)];split
  . rw [List.getD_eq_getElem?_getD]
  . split<;>rw [List.getD_eq_getElem?_getD]
 rw [hr,hr];by_cases q1:i<s
 . rw [if_neg (by omega),if_neg (by omega),if_neg (by omega)];by_cases q2:k<e
   . rw [if_pos (by omega)];exact sa _ _ (by omega) (by omega) (by omega)
   . rw [if_neg (by omega)];have p1:key (l.getD (s - 1) d)<=key (l.getD e d):=by rcases hlo with g|g|g<;>first|exact g|omega
     have p2:=sa.le (show a<=i by omega) (show i<=s - 1 by omega) (by omega);have p3:=sb.le (show m<=e by omega) (show e<=k by omega) k2;omega
 . rw [if_pos (by omega),if_neg (by omega)];by_cases q2:k<e
   . rw [if_pos (by omega)];exact Int.le_of_lt (hrot _ _ (by omega) (by omega) (by omega) (by omega))
   . rw [if_neg (by omega)];exact sb _ _ (by omega) (by omega) (by omega)
theorem rotW_none {l:List α} {s m e:Nat} (h1:s<=m) (h2:m<=e) (h3:e<=l.length) (h:s=m\/m=e):rotW s m e l=l:=by
 apply List.ext_getElem?;intro k;rw [rotW_get h1 h2 h3];grind
theorem srtW_id {l:List α} {a b:Nat} (hab:a<=b) (hb:b<=l.length) (h:Srt key d a b l):srtW key a b l=l:=(srtW_is hab hb (Ren.refl key a b l) h).symm
theorem rot_srt {l:List α} {a m b s e:Nat} (hb:b<=l.length) (h:a<=s/\s<=m/\m<=e/\e<=b) (sa:Srt key d a m l) (sb:Srt key d m b l) :
 (Srt key d a s (rotW s m e l)/\Srt key d s (s+(e - m)) (rotW s m e l))/\Srt key d (s+(e - m)) e (rotW s m e l)/\Srt key d e b (rotW s m e l):=by
 have hr:∀ q,(rotW s m e l).getD q d=if s<=q/\q<s+(e - m) then l.getD (m+(q - s)) d else if s+(e - m)<=q/\q<e then l.getD (q - (e - m)) d else l.getD q d:=fun q=>by
  rw [List.getD_eq_getElem?_getD,rotW_get (by omega) (by omega) (by omega)];split
  . rw [List.getD_eq_getElem?_getD]
  . split<;>rw [List.getD_eq_getElem?_getD]
 refine⟨⟨fun i k h1 h2 h3 => ?_,fun i k h1 h2 h3 => ?_⟩,fun i k h1 h2 h3 => ?_,fun i k h1 h2 h3 => ?_⟩<;>rw [hr,hr]
 . rw [if_neg (by omega),if_neg (by omega),if_neg (by omega),if_neg (by omega)];exact sa _ _ (by omega) (by omega) (by omega)
 . rw [if_pos (by omega),if_pos (by omega)];exact sb _ _ (by omega) (by omega) (by omega)
 . rw [if_neg (by omega),if_pos (by omega),if_neg (by omega),if_pos (by omega)];exact sa _ _ (by omega) (by omega) (by omega)
 . rw [if_neg (by omega),if_neg (by omega),if_neg (by omega),if_neg (by omega)];exact sb _ _ (by omega) (by omega) (by omega)
theorem Srt.out {l n:List α} {a b a' b':Nat} (h:Srt key d a b l) (hr:Ren key a' b' l n) (hd:b<=a'\/b'<=a):Srt key d a b n:=fun i k h1 h2 h3=>by
 rw [hr.get (by omega),hr.get (by omega)];exact h i k h1 h2 h3
def SymU (key : α->Int) (d : α) (b e mid N:Nat) (Y G:List α):Prop :=
 ((mid:Int)<(e:Int)->((e:Int)<(b:Int)->((0<=(mid:Int)/\(mid:Int)<(e:Int)/\(e:Int)<(b:Int))/\((b:Int)<=(Y.length:Int)/\(b:Int) - (mid:Int)<=(N:Int))/\Y.length<=1000000/\Srt key d mid e Y/\Srt key d e b Y)/\srtW key mid b Y=G)/\(¬ (e:Int)<(b:Int)->Y=G))/\(¬ (mid:Int)<(e:Int)->Y=G)
def SymT (key : α->Int) (d : α) (a b s e mid N:Nat) (X G:List α):Prop :=
 ((a:Int)<(s:Int)->((s:Int)<(mid:Int)->((0<=(a:Int)/\(a:Int)<(s:Int)/\(s:Int)<(mid:Int))/\((mid:Int)<=(X.length:Int)/\(mid:Int) - (a:Int)<=(N:Int))/\X.length<=1000000/\Srt key d a s X/\Srt key d s mid X)/\SymU key d b e mid N (srtW key a mid X) G)/\(¬ (s:Int)<(mid:Int)->SymU key d b e mid N X G))/\(¬ (a:Int)<(s:Int)->SymU key d b e mid N X G)
theorem sym_u {b e mid N:Nat} {Y G:List α} (hb:b<=Y.length) (hY:Y.length<=1000000) (hN:b<=mid+N) (he:mid<=e/\e<=b) (h3:Srt key d mid e Y) (h4:Srt key d e b Y) (hG:srtW key mid b Y=G):SymU key d b e mid N Y G:=by
 have hid:e=b\/mid=e->Y=G:=fun h=>by
  rw [<- hG];refine (srtW_id (d:=d) (by omega) hb ?_).symm;rcases h with h|h
  . rw [<- h]; exact h3
  . rw [h]; exact h4
 exact⟨fun g1=>⟨fun g2=>⟨⟨⟨by omega,g1,g2⟩,⟨by omega,by omega⟩,hY,h3,h4⟩,hG⟩,fun g2=>hid (.inl (by omega))⟩,fun g1=>hid (.inr (by omega))⟩
theorem sym_t {l:List α} {a m b s e mid N:Nat} (hb:b<=l.length) (hl:l.length<=1000000) (hN:b<=mid+N/\mid<=a+N) (h:a<=s/\s<=m/\m<=e/\e<=b) (hc:mid=s+(e - m)) (hab:a<=mid) (sa:Srt key d a m l) (sb:Srt key d m b l)
 (hlo:s=a\/e=b\/key (l.getD (s - 1) d)<=key (l.getD e d)) (hhi:s=m\/e=m\/key (l.getD (e - 1) d)<key (l.getD s d)):SymT key d a b s e mid N (rotW s m e l) (srtW key a b l):=by
 have hW:=merge_whole (key:=key) (d:=d) hb h hc sa sb hlo hhi rfl rfl rfl;obtain⟨⟨p1,p2⟩,p3,p4⟩:=rot_srt (key:=key) (d:=d) hb h sa sb;rw [<- hc] at p2 p3;have n1:(rotW s m e l).length=l.length:=rotW_len (by omega) (by omega) (by omega);generalize rotW s m e l=X at *
 have r2:Ren key a mid X (srtW key a mid X):=srtW_ren hab (by omega);have hid:s=a\/s=mid->srtW key a mid X=X:=fun g=>srtW_id (d:=d) hab (by omega) (by
  rcases g with g|g
  . rw [<- g]; exact p2
  . rw [<- g]; exact p1)
 have hY:s=a\/s=mid->SymU key d b e mid N X (srtW key a b l):=fun g=>sym_u (by omega) (by omega) hN.1 (by omega) p3 p4 (by rw [<- hW,hid g]);exact⟨fun g1=>⟨fun g2=>⟨⟨⟨by omega,g1,g2⟩,⟨by omega,by omega⟩,by omega,p1,p2⟩,sym_u (by rw [r2.len]; omega) (by rw [r2.len]; omega) hN.1 (by omega) (p3.out r2 (.inr (Nat.le_refl _))) (p4.out r2 (.inr (by omega))) hW⟩,fun g2=>hY (.inr (by omega))⟩,fun g1=>hY (.inl (by omega))⟩
theorem srtW_srtW {l:List α} {a c b:Nat} (h1:a<=c) (h2:c<=b) (hb:b<=l.length) (d : α):srtW key a b (srtW key a c l)=srtW key a b l:=by
 have r1:Ren key a c l (srtW key a c l):=srtW_ren h1 (by omega);exact srtW_is (d:=d) (by omega) hb ((r1.wide (Nat.le_refl _) h2).trans (srtW_ren (by omega) (by rw [r1.len]; exact hb))) (srtW_srt (by omega) (by rw [r1.len]; exact hb))
theorem insDown_at {lt : α -> α->Bool} (hlt:∀ x y,lt x y=decide (key x<key y)) {l:List α} {a m:Nat} (ham:a<=m) (hm:m<l.length) (s:Srt key d a m l):∀ r n,m - n=a+r->n<=m->(∀ k,m - n<=k->k<m->key (l.getD m d)<key (l.getD k d))->insDown lt d a (m - n) (swDn d l m n)=srtW key a (m+1) l
 | 0,n,hr,hn,h=>by
  have hend:=swDn_srt (key:=key) (d:=d) (a:=a) (i:=a) hm ⟨Nat.le_refl _,ham⟩ s (fun k k1 k2=>absurd k2 (by omega)) (fun k k1 k2=>h k (by omega) k2);rw [show m - a=n by omega] at hend;rw [<- hend]
  cases hj:m - n with
  | zero=>rfl
  | succ j =>
   unfold insDown;rw [decide_eq_false (by omega),Bool.false_and,cond_false]
 | r+1,n,hr,hn,h=>by
  obtain⟨j,hj⟩:∃ j,m - n=j+1:=⟨m - n - 1,by omega⟩
  have e1:(swDn d l m n).getD (j+1) d=l.getD m d:=by rw [swDn_get l m hm n hn,if_neg (by omega),if_pos (by omega)]
  have e2:(swDn d l m n).getD j d=l.getD j d:=by rw [swDn_get l m hm n hn,if_neg (by omega),if_neg (by omega)]
  rw [hj];unfold insDown;rw [e1,e2,hlt,decide_eq_true (show a<j+1 by omega),Bool.true_and];by_cases hk:key (l.getD m d)<key (l.getD j d)
  . rw [decide_eq_true hk,cond_true];have ih:=insDown_at hlt ham hm s r (n+1) (by omega) (by omega) fun k k1 k2=>by
     by_cases e:k=j
     . rw [e]; exact hk
     . exact h k (by omega) k2
    rw [show m - (n+1)=j by omega] at ih;rw [<- ih];show insDown lt d a j (swapAt d (swDn d l m n) j)=insDown lt d a j (swapAt d (swDn d l m n) (m - n - 1))
    rw [show m - n - 1=j by omega]
  . rw [decide_eq_false hk,cond_false];have hend:=swDn_srt (key:=key) (d:=d) (a:=a) (i:=m - n) hm ⟨by omega,by omega⟩ s (fun k k1 k2=>by
     have:=s.le k1 (show k<=j by omega) (by omega)
     omega) h
    rw [show m - (m - n)=n by omega] at hend;exact hend
theorem insUpto_srt {lt : α -> α->Bool} (hlt:∀ x y,lt x y=decide (key x<key y)) {l:List α} {a:Nat}:∀ n,a+1+n<=l.length->insUpto lt d a l n=srtW key a (a+1+n) l
 | 0,h=>(srtW_id (d:=d) (by omega) h fun i k h1 h2 h3=>by omega).symm
 | n+1,h=>by
  have ih:insUpto lt d a l n=srtW key a (a+1+n) l:=insUpto_srt hlt n (by omega);have r1:Ren key a (a+1+n) l (srtW key a (a+1+n) l):=srtW_ren (by omega) (by omega);unfold insUpto;rw [ih];have:=insDown_at (key:=key) (d:=d) hlt (l:=srtW key a (a+1+n) l) (a:=a) (m:=a+1+n) (by omega) (by rw [r1.len]; omega) (srtW_srt (l:=l) (a:=a) (b:=a+1+n) (by omega) (by omega)) (n+1) 0 (by omega) (by omega) (fun k h1 h2=>by omega);rw [show a+1+n - 0=a+1+n by omega] at this;rw [show swDn d (srtW key a (a+1+n) l) (a+1+n) 0=srtW key a (a+1+n) l from rfl] at this;rw [this];exact srtW_srtW (l:=l) (a:=a) (c:=a+1+n) (b:=a+1+n+1) (by omega) (by omega) (by omega) d
theorem insSort_srt {lt : α -> α->Bool} (hlt:∀ x y,lt x y=decide (key x<key y)) {l:List α} {a b:Nat} (hab:a<=b) (hb:b<=l.length):insSort lt d a b l=srtW key a b l:=by
 unfold insSort;by_cases h:b<=a+1
 . rw [show b - (a+1)=0 by omega];exact (srtW_id (d:=d) hab hb fun i k h1 h2 h3=>by omega).symm
 . rw [insUpto_srt (l:=l) (a:=a) hlt (b - (a+1)) (by omega),show a+1+(b - (a+1))=b by omega]
end
def fonSwap:Fon:=⟨276,[.ownr .stowed,.int .i64,.int .i64,.int .i64,.fn []],1,fun avs es=>match avs,es with
 | [.own 0,.int .i64 a,.int .i64 b,.int .i64 n,.fn f []],[(0,.row false .stowed T l)]=>some ⟨fun _=>(0<=a ()/\0<=n ()/\0<=b ())/\a ()+n ()<=((l ()).length:Int)/\b ()+n ()<=((l ()).length:Int)/\(l ()).length<=1000000,.tup [],[(0,.row false .stowed T fun _=>swR Tc.stowed.dflt (l ()) (a ()).toNat (b ()).toNat (n ()).toNat)]⟩
 | _,_=>none,true⟩
def lpSwap (T:Nat) (l:List Stowed) (a b n:Nat):Lp where
 X:=Nat
 ov k := [(10,.int .i64 fun _=>(k:Int)),(0,.own 0)]
 oe k := [(0,.row false .stowed T fun _=>swR Tc.stowed.dflt l a b k)]
 I k:=k<=n
 μ k _:=n - k
 x0:=0
 nx:=some fun k=>k+1
set_option maxRecDepth 100000 in
set_option maxHeartbeats 4000000 in
theorem fonSwap_ok:FonOk Tryz.prog fonSwap:=by
 refine fonOk [] trivial [] trivial Tryz.func276 (by kernel_rfl) fun avs es res h hp => ?_;simp only [fonSwap] at h;split at h
 case h_2=>cases h
 rename_i a b n f T l;cases h;obtain⟨l,rfl⟩:=eta (α:=List Stowed) l;obtain⟨a,rfl⟩:=eta (α:=Int) a;obtain⟨b,rfl⟩:=eta (α:=Int) b;obtain⟨n,rfl⟩:=eta (α:=Int) n;obtain⟨⟨h1,h2,h3⟩,h4,h5,h6⟩:(0<=a/\0<=n/\0<=b)/\a+n<=(l.length:Int)/\b+n<=(l.length:Int)/\l.length<=1000000:=hp;obtain⟨a,rfl⟩:=Int.eq_ofNat_of_zero_le h1;obtain⟨b,rfl⟩:=Int.eq_ofNat_of_zero_le h3;obtain⟨n,rfl⟩:=Int.eq_ofNat_of_zero_le h2;refine⟨[(1,lpSwap T l a b n)],?_⟩
 conv=>arg 1; cbv
 refine⟨?_,fun (k:Nat) hk => ?_⟩
 . simp (maxSteps:=4000000) only [fms];exact⟨Nat.zero_le _,rfl,rfl⟩
 have hk':k<=n:=hk
 conv=>arg 1; cbv
 refine nameIt (swR Tc.stowed.dflt l a b k) fun L hL => ?_;have hlen:L.length=l.length:=by rw [<- hL,swR_len]
 simp (maxSteps:=4000000) only [fms];simp only [hL];refine⟨fun g => ?_,fun g => ?_⟩
 . refine⟨by simp only [inI64]; omega,by simp only [inI64]; omega,by simp only [inI64]; omega,⟨by omega,by omega⟩,by simp only [inI64]; omega,⟨by omega,by omega⟩,⟨by omega,by omega⟩,⟨by omega,by rw [List.length_set]; omega⟩,by simp only [inI64]; omega,⟨by omega,by omega⟩,by omega,?_⟩;rw [show ((a:Int)+(k:Int)).toNat=a+k by omega,show ((b:Int)+(k:Int)).toNat=b+k by omega,<- hL];rfl
 . rw [<- hL,show k=n by omega]
def fonRot:Fon:=⟨272,[.ownr .stowed,.int .i64,.int .i64,.int .i64,.fn []],1,fun avs es=>match avs,es with
 | [.own 0,.int .i64 a,.int .i64 m,.int .i64 b,.fn f []],[(0,.row false .stowed T l)]=>some ⟨fun _=>(0<=a ()/\a ()<m ()/\m ()<b ())/\b ()<=((l ()).length:Int)/\(l ()).length<=1000000,.tup [],[(0,.row false .stowed T fun _=>rotW (a ()).toNat (m ()).toNat (b ()).toNat (l ()))]⟩
 | _,_=>none,true⟩
def lpRot (T:Nat) (l R:List Stowed) (m i j:Nat):Lp where
 X:=Nat×Nat×List Stowed
 ov p := [(10,.int .i64 fun _=>(p.1:Int)),(11,.int .i64 fun _=>(p.2.1:Int)),(0,.own 0)]
 oe p := [(0,.row false .stowed T fun _=>p.2.2)]
 I p:=(1<=p.1/\p.1<=i)/\(1<=p.2.1/\p.2.1<=j)/\p.2.2.length=R.length/\rotW (m - p.1) m (m+p.2.1) p.2.2=R
 μ p _:=p.1+p.2.1
 x0:=(i,j,l)
 nx:=none
set_option maxRecDepth 100000 in
set_option maxHeartbeats 4000000 in
theorem fonRot_ok:FonOk Tryz.prog fonRot:=by
 refine fonOk [] trivial [fonSwap] ⟨fonSwap_ok,trivial⟩ Tryz.func272 (by kernel_rfl) fun avs es res h hp => ?_;simp only [fonRot] at h;split at h
 case h_2=>cases h
 rename_i a m b f T l;cases h;obtain⟨l,rfl⟩:=eta (α:=List Stowed) l;obtain⟨a,rfl⟩:=eta (α:=Int) a;obtain⟨b,rfl⟩:=eta (α:=Int) b;obtain⟨m,rfl⟩:=eta (α:=Int) m;obtain⟨⟨h1,h2,h3⟩,h4,h5⟩:(0<=a/\a<m/\m<b)/\b<=(l.length:Int)/\l.length<=1000000:=hp;obtain⟨a,rfl⟩:=Int.eq_ofNat_of_zero_le h1;obtain⟨b,rfl⟩:=Int.eq_ofNat_of_zero_le (show 0<=b by omega);obtain⟨m,rfl⟩:=Int.eq_ofNat_of_zero_le (show 0<=m by omega);refine nameIt (rotW a m b l) fun R hR => ?_;have hlR:R.length=l.length:=by rw [<- hR]; exact rotW_len (by omega) (by omega) (by omega)
 refine nameIt (m - a) fun i0 hi0 => ?_;refine nameIt (b - m) fun j0 hj0 => ?_;refine⟨[(2,lpRot T l R m i0 j0)],?_⟩
 conv=>arg 1; cbv
 simp only [P_vc,P_and,V_one,V_cons,castK];refine⟨by simp only [inI64]; omega,by simp only [inI64]; omega,?_,fun (p:Nat×Nat×List Stowed) hp => ?_⟩
 . simp (maxSteps:=4000000) only [fms];refine⟨⟨⟨by omega,by omega⟩,⟨by omega,by omega⟩,by omega,?_⟩,by omega,by omega,trivial⟩;rw [show m - i0=a by omega,show m+j0=b by omega];exact hR
 obtain⟨p1,p2,L⟩:=p;have hp':(1<=p1/\p1<=i0)/\(1<=p2/\p2<=j0)/\L.length=R.length/\rotW (m - p1) m (m+p2) L=R:=hp;have q1:=hp'.1;have q2:=hp'.2.1;have q3:=hp'.2.2.1;have q4:=hp'.2.2.2;clear hp hp'
 conv=>arg 1; cbv
 simp (maxSteps:=4000000) only [fms];refine⟨fun g=>⟨fun g2 => ?_,fun g2 => ?_⟩,fun g => ?_⟩
 . have g1:p2<p1:=by omega
   refine nameIt (p1 - p2) fun i hi => ?_;refine nameIt (swR Tc.stowed.dflt L (m - p1) m p2) fun L2 hL2 => ?_;have hL3:L2.length=R.length:=by rw [<- hL2,swR_len]; exact q3
   have hI:(1<=i/\i<=i0)/\(1<=p2/\p2<=j0)/\L2.length=R.length/\rotW (m - i) m (m+p2) L2=R:=by
    refine⟨⟨by omega,by omega⟩,q2,hL3,?_⟩;rw [<- q4,<- hL2,<- hi,show m - (p1 - p2)=m - p1+p2 by omega];exact rot_more (by omega) (by omega) rfl (by omega)
   refine⟨by simp only [inI64]; omega,⟨⟨by omega,by omega,by omega⟩,by omega,by omega,by omega⟩,by simp only [inI64]; omega,⟨(i,p2,L2),⟨hI,by show i+p2<p1+p2; omega⟩,?_⟩⟩
   conv=>arg 1; cbv
   simp (maxSteps:=4000000) only [fms];refine⟨by omega,trivial,?_⟩;rw [show ((m:Int) - (p1:Int)).toNat=m - p1 by omega,hL2]
 . have g1:p1<p2:=by
    simp only [Bool.not_eq_true',decide_eq_false_iff_not] at g;omega
   refine nameIt (p2 - p1) fun j hj => ?_;refine nameIt (swR Tc.stowed.dflt L (m - p1) (m+p2 - p1) p1) fun L2 hL2 => ?_;have hL3:L2.length=R.length:=by rw [<- hL2,swR_len]; exact q3
   have hI:(1<=p1/\p1<=i0)/\(1<=j/\j<=j0)/\L2.length=R.length/\rotW (m - p1) m (m+j) L2=R:=by
    refine⟨q1,⟨by omega,by omega⟩,hL3,?_⟩;rw [<- q4,<- hL2,<- hj,show m+(p2 - p1)=m+p2 - p1 by omega];exact rot_less (by omega) (by omega) (by omega)
   refine⟨by simp only [inI64]; omega,by simp only [inI64]; omega,by simp only [inI64]; omega,⟨⟨by omega,by omega,by omega⟩,by omega,by omega,by omega⟩,by simp only [inI64]; omega,⟨(p1,j,L2),⟨hI,by show p1+j<p1+p2; omega⟩,?_⟩⟩
   conv=>arg 1; cbv
   simp (maxSteps:=4000000) only [fms];refine⟨trivial,by omega,?_⟩;rw [show ((m:Int) - (p1:Int)).toNat=m - p1 by omega,show ((m:Int)+(p2:Int) - (p1:Int)).toNat=m+p2 - p1 by omega,hL2]
 . have g1:p1=p2:=by
    simp only [Bool.not_eq_false',decide_eq_true_eq] at g;omega
   refine⟨by simp only [inI64]; omega,⟨⟨by omega,by omega,by omega⟩,by omega,by omega,by omega⟩,?_⟩;rw [show ((m:Int) - (p1:Int)).toNat=m - p1 by omega,hR,<- q4];have:=rot_last (d:=Tc.stowed.dflt) (l:=L) (a:=m - p1) (m:=m) (b:=m+p2) (by omega) (by omega) (by omega) (by omega);rw [<- this,show m - (m - p1)=p1 by omega]
end Go.Proofs.YthfpdbjemfhieaaGreat
