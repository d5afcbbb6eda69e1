/-
  copy onto numbers of the call's own; slices.Clone of digits with zeros ahead; a block's first numbers.
-/
import Derived.Test.YtffeegebohigdaaGreatMs3
import Derived.Laws.CopyOwn
import Derived.Deep.Cut
import Derived.LoopN
set_option linter.unusedVariables false
set_option linter.unusedSimpArgs false
set_option maxRecDepth 100000
set_option maxHeartbeats 4000000
namespace Go.Proofs.YtffeegebohigdaaGreat
open Go.RowKit
theorem Qsz {P:Program} {w:World} {ops:Array Oper} {rest:List Oper} {o:Oper} {a:Act} {Q:Exit->Act->World->Prop} (hgd:o.guard=none) (d s:Operand) (dT sT:TypeId)
 (ho:o.op = .call { callee := .builtin .copy,args := #[d,s],argTypes := #[dT,sT] }) (elem:TypeId) (hu:P.underlying dT=some (.slice elem)) (hsz:(P.info? elem).map (·.size)=some 1)
 {g E dl dc sl sc:Nat} {k:IntKind} {L l:List Nat} {A:Option Addr} (hd:a.eval d = .slice (some ⟨g,0,none⟩) dl dc) (hs:a.eval s = .slice A sl sc) (hdl:dl=L.length) (hsl:sl=l.length) (hle:l.length<=L.length) (hl0:0<l.length)
 (hnb:NB w g E k L) (hrd:Rd w w.heap.size 1 A (Zc k l))
 (h:∀ w',NB w' g E k (l++L.drop l.length)->w.grownBy w' (some g)->wpList P ops Q rest (a.put o.dst (.int .i64 (l.length:Int))) w'):wpList P ops Q (o::rest) a w:=by
 obtain⟨b,off,rfl,_,_,_⟩:=hrd 0 _ (Vu (k:=k) hl0);have hcl:(l.map fun (n:Nat)=>Value.int k (n:Int)).length=l.length:=by simp
 have hnb':w.heap[g]? = some (.cells (L.map fun (n:Nat)=>Value.int k (n:Int)).toArray E (0,0)):=hnb;refine wpList_copy_own hgd d s dT sT ho elem hu hsz g 0 dl dc ⟨b,off,none⟩ sl sc hd hs _ E hnb' (l.map fun (n:Nat)=>Value.int k (n:Int)) (by rw [hcl,hdl,hsl]; exact (Nat.min_eq_left hle).symm) ?_ (by simp; omega) (by simp [Value.oneCell']) ?_
 . intro j v hv;rw [List.getElem?_map] at hv;obtain⟨n,hn,rfl⟩:=Option.map_eq_some_iff.1 hv;have hjl:=(List.getElem?_eq_some_iff.1 hn).1;obtain⟨b',off',e,_,_,hc⟩:=hrd j _ (Vu (k:=k) hjl);injection e with e;injection e with e1 e2;subst e1; subst e2;have h1:=hc 0 _ rfl;rw [Addr.add_lit];simp only [Nat.mul_one,Nat.add_zero] at h1;rw [h1];have h2:=(List.getElem?_eq_some_iff.1 hn).2;rw [h2]
 . have h1:=h (w.setRow g (List.take 0 (L.map fun (n:Nat)=>Value.int k (n:Int)).toArray.toList++((l.map fun (n:Nat)=>Value.int k (n:Int))++List.drop (0+(l.map fun (n:Nat)=>Value.int k (n:Int)).length) (L.map fun (n:Nat)=>Value.int k (n:Int)).toArray.toList)).toArray) ?_ ⟨rfl,rfl,rfl,by simp,fun q _ hq=>setRow_other w g q _ (fun e=>hq (by rw [e]))⟩
   . rw [hcl];rw [hcl] at h1;exact h1
   . unfold NB;rw [setRow_heap w g _ _ E (0,0) hnb'];simp [List.map_append,List.map_drop]
theorem Qxo (b off c n:Nat) (l:List Nat) (hn:n=l.length) (w:World) (hA:Rd w w.heap.size 1 (some ⟨b,off,none⟩) (Zc .u32 l)) (hl:l.length<=1000) :
 Calls Tryz.prog 184 #[.slice (some ⟨b,off,none⟩) n c] w fun e w'=>∃ A' c',e = .returned (.slice A' n c')/\Z1 w' w.heap.size 63 1 A' c' (Zc .u32 l)/\n<=c'/\Below w.heap.size w w':=by
 subst hn;have heq:=fun w=>Go.Lib.run_eql_slice_nil (P:=Tryz.prog) w 145 63 (some ⟨b,off,none⟩) l.length c 0 0 Tryz.underlying145;have hb1:Below w.heap.size w (w.alloc (Obj.cells #[] 63)):=(Below.refl _ _).alloc (Nat.le_refl _) _;have HRD:=Lib.hid ((hA.below hb1 (Nat.le_refl _)).more hb1.size);have HOW:=Lib.hid (Z1.empty_new w w.heap.size 63 1 (Nat.le_refl _));have HB1:=Lib.hid hb1;clear hA hb1
 go_enter Tryz.func184,Tryz.ntmps184
 go_wp2_with (first
  | (at_builtin; go_loud (refine Q3e rfl _ _ rfl Z09 0 rfl rfl HOW.out rfl _ HRD.out (by rw [Ye]) (Qnk _ l) (by unfold maxLen; simp; omega) (by simp; omega) HB1.out.size ?_); intro A4 c4 w4 hown4 hg4 hb4))
 go_ret
 have hcap:=hown4.cap.1;rw [List.nil_append,Ye] at hcap;exact⟨A4,c4,by simp,by simpa using hown4,hcap,HB1.out.trans hb4⟩
theorem NB.nbx {w:World} {g E:Nat} {k:IntKind} {L:List Nat} (h:NB w g E k L) (n:Nat):NBx w g E k (L.take n):=by
 refine⟨Gw k (L.drop n),?_⟩;have e:Gw k (L.take n)++Gw k (L.drop n)=L.map fun (n:Nat)=>Value.int k (n:Int):=by
  unfold Gw;rw [<- List.map_append,List.take_append_drop]
 rw [e];exact h
def FB (w:World) (g:Nat) (f:Qd):Prop:=w.heap[g]? = some (.cells f.cells.toArray 66 (0,0))
theorem FB.lt {w:World} {g:Nat} {f:Qd} (h:FB w g f):g<w.heap.size:=(Array.getElem?_eq_some_iff.1 h).1
theorem FB.keep {w w':World} {g:Nat} {f:Qd} (h:FB w g f) (hg:w'.heap[g]? = w.heap[g]?):FB w' g f:=hg.trans h
theorem FB.below {w w':World} {B g:Nat} {f:Qd} (h:FB w g f) (hb:Below B w w') (hg:g<B):FB w' g f:=h.keep (hb.block g hg)
theorem FB.new (w:World) (f:Qd):FB (w.alloc (.cells f.cells.toArray 66)) w.heap.size f:=heap_alloc_new w _
theorem Qbf:Q3k Tryz.prog 66 17:=⟨_,Tryz.underlying66,by kernel_rfl,by kernel_rfl⟩
theorem Q8n:(Tryz.prog.info? 66).map (·.size)=some 17:=by kernel_rfl
theorem FB.ld {w:World} {g:Nat} {f:Qd} (h:FB w g f):(loadVar 66 ⟨g,0,none⟩).run Tryz.prog w = .ok f.val w :=
 Q45 (cs:=f.cells) Qbf f.cells_len (fun j x hx=>by
  rw [Addr.add_lit,cell_of_row w g (0+j) _ _ _ h];simpa using hx)
theorem Zm {w:World} {ops:Array Oper} {rest:List Oper} {o:Oper} {a:Act} {Q:Exit->Act->World->Prop} {g:Nat} {f f0:Qd} (hgd:o.guard=none) (x y:Operand) (ho:o.op = .store 66 x y) (hx:a.eval x = .pointer (some ⟨g,0,none⟩)) (hy:a.eval y=f.val) (hfb:FB w g f0)
 (h:∀ w',FB w' g f->w.grownBy w' (some g)->wpList Tryz.prog ops Q rest (a.put o.dst undef) w'):wpList Tryz.prog ops Q (o::rest) a w:=by
 refine Q37 (cs:=f.cells) hgd x y ho hx hy Q8n rfl f.cells_len hfb (by simp [f0.cells_len]) f.ones fun cur' w' hc hs hg hgr=>h w' ?_ hgr;have e:cur'=f.cells.toArray:=by
  apply Array.ext';rw [hc];simp [f0.cells_len]
 rw [e] at hg;exact hg
theorem Qnt {x:Nat} (h:Q4 x<=8):(pad B32 8 x).map (fun (n:Nat)=>Value.int .u32 (n:Int))=(dig B32 x).map (fun (n:Nat)=>Value.int .u32 (n:Int))++((pad B32 8 0).map fun (n:Nat)=>Value.int .u32 (n:Int)).drop (Q4 x):=by
 have hx:x<B32^8:=Qv Qn h;rw [Qvq Qn hx,Qhv,List.map_append,<- List.map_drop,List.drop_replicate]
theorem Ym {w:World} {ops:Array Oper} {rest:List Oper} {o:Oper} {a:Act} {Q:Exit->Act->World->Prop} (hgd:o.guard=none) (d s:Operand) (dT sT:TypeId)
 (ho:o.op = .call { callee := .builtin .copy,args := #[d,s],argTypes := #[dT,sT] }) (elem:TypeId) (hu:Tryz.prog.underlying dT=some (.slice elem)) (hsz:(Tryz.prog.info? elem).map (·.size)=some 1)
 {g off x sl sc:Nat} {A:Option Addr} (f f':Qd) (hd:a.eval d = .slice (some ⟨g,off,none⟩) 8 8) (hs:a.eval s = .slice A sl sc) (hsl:sl=Q4 x) (hle:Q4 x<=8)
 (hoff:off+8<=17) (hf:f'.cells=f.cells.take off++((dig B32 x).map (fun (n:Nat)=>Value.int .u32 (n:Int))++f.cells.drop (off+Q4 x))) (hfb:FB w g f) (hrd:Zk w A x)
 (h:∀ w',FB w' g f'->w.grownBy w' (some g)->wpList Tryz.prog ops Q rest (a.put o.dst (.int .i64 (sl:Int))) w'):wpList Tryz.prog ops Q (o::rest) a w:=by
 have hcl:((dig B32 x).map fun (n:Nat)=>Value.int .u32 (n:Int)).length=Q4 x:=by simp
 by_cases h0:Q4 x=0
 . have hd0:dig B32 x = []:=List.eq_nil_of_length_eq_zero h0;refine wpList_copy_nothing hgd d s dT sT ho elem hu hsz _ _ _ _ _ _ hd hs (by rw [hsl,h0]; rfl) ?_;have e:f'.cells=f.cells:=by
    rw [hf,hd0,h0];simp
   have h1:=h w (by unfold FB at *; rw [e]; exact hfb) ⟨rfl,rfl,rfl,Nat.le_refl _,fun _ _ _=>rfl⟩;rw [hsl,h0] at h1;exact h1
 . obtain⟨b,off',rfl,_,_,_⟩:=hrd 0 _ (Vu (k := .u32) (l:=dig B32 x) (show 0<Q4 x by omega));refine wpList_copy_own hgd d s dT sT ho elem hu hsz g off 8 8 ⟨b,off',none⟩ sl sc hd hs _ _ hfb ((dig B32 x).map fun (n:Nat)=>Value.int .u32 (n:Int)) (by rw [hcl,hsl]; exact (Nat.min_eq_left hle).symm) ?_ (by rw [hcl]; simp [f.cells_len]; omega) (by simp [Value.oneCell']) ?_
   . intro j v hv;rw [List.getElem?_map] at hv;obtain⟨n,hn,rfl⟩:=Option.map_eq_some_iff.1 hv;have hjl:=(List.getElem?_eq_some_iff.1 hn).1;obtain⟨b',off2,e,_,_,hc⟩:=hrd j _ (Vu (k := .u32) hjl);injection e with e;injection e with e1 e2;subst e1; subst e2;have h1:=hc 0 _ rfl;rw [Addr.add_lit];simp only [Nat.mul_one,Nat.add_zero] at h1;rw [h1];have h2:=(List.getElem?_eq_some_iff.1 hn).2;rw [h2]
   . have h1:=h (w.setRow g (f.cells.toArray.toList.take off++(((dig B32 x).map fun (n:Nat)=>Value.int .u32 (n:Int))++f.cells.toArray.toList.drop (off+((dig B32 x).map fun (n:Nat)=>Value.int .u32 (n:Int)).length))).toArray) ?_ ⟨rfl,rfl,rfl,by simp,fun q _ hq=>setRow_other w g q _ (fun e=>hq (by rw [e]))⟩
     . rw [hcl,<- hsl];rw [hcl,<- hsl] at h1;exact h1
     . unfold FB;rw [setRow_heap w g _ _ _ (0,0) hfb,hcl,hf]
theorem Q32 (b:Bool) (x d:Nat) (h:Q4 x<=8):(Qd.mk b x d).cells=(Qd.mk b 0 d).cells.take 1++((dig B32 x).map (fun (n:Nat)=>Value.int .u32 (n:Int))++(Qd.mk b 0 d).cells.drop (1+Q4 x)):=by
 unfold Qd.cells;rw [Qnt h];simp only [List.cons_append,List.nil_append,List.take_succ_cons,List.take_zero,List.append_assoc];rw [show 1+Q4 x=Q4 x+1 by omega,List.drop_succ_cons,List.drop_append_of_le_length (by rw [List.length_map,Qo]; exact h)]
theorem Q38 (b:Bool) (x d:Nat) (h:Q4 d<=8):(Qd.mk b x d).cells=(Qd.mk b x 0).cells.take 9++((dig B32 d).map (fun (n:Nat)=>Value.int .u32 (n:Int))++(Qd.mk b x 0).cells.drop (9+Q4 d)):=by
 unfold Qd.cells;rw [Qnt h];have hl:([Value.bool b]++(pad B32 8 x).map (fun (n:Nat)=>Value.int .u32 (n:Int))).length=9:=by simp [Qo]
 have e1:([Value.bool b]++(pad B32 8 x).map (fun (n:Nat)=>Value.int .u32 (n:Int))++(pad B32 8 0).map (fun (n:Nat)=>Value.int .u32 (n:Int))).take 9 = [Value.bool b]++(pad B32 8 x).map (fun (n:Nat)=>Value.int .u32 (n:Int)):=List.take_left' hl;have e2:([Value.bool b]++(pad B32 8 x).map (fun (n:Nat)=>Value.int .u32 (n:Int))++(pad B32 8 0).map (fun (n:Nat)=>Value.int .u32 (n:Int))).drop (9+Q4 d)=((pad B32 8 0).map (fun (n:Nat)=>Value.int .u32 (n:Int))).drop (Q4 d):=by
  rw [<- List.drop_drop,List.drop_left' hl]
 simp only [] at *
 rw [e1,e2]
theorem Zq {fn:Func} {p t:Tmp} (h:fn.results = #[.cell p 66,.tmp t]) (tmps:Array Value) {w:World} {g:Nat} {f:Qd} (hp:tmps.getD p undef = .pointer (some ⟨g,0,none⟩)) (hfb:FB w g f) :
 (results fn tmps).run Tryz.prog w = .ok (.tuple #[f.val,tmps.getD t undef]) w:=by
 have hl:=hfb.ld;have hp':tmps[p]?.getD undef = .pointer (some ⟨g,0,none⟩):=by simpa using hp
 simp [results,h,hp',asAddr,hl]
theorem Qrx {fn:Func} {p:Tmp} (h:fn.results = #[.cell p 66]) (tmps:Array Value) {w:World} {g:Nat} {f:Qd} (hp:tmps.getD p undef = .pointer (some ⟨g,0,none⟩)) (hfb:FB w g f) :
 (results fn tmps).run Tryz.prog w = .ok f.val w:=by
 have hl:=hfb.ld;have hp':tmps[p]?.getD undef = .pointer (some ⟨g,0,none⟩):=by simpa using hp
 simp [results,h,hp',asAddr,hl]
end Go.Proofs.YtffeegebohigdaaGreat
namespace Go.Proofs.YtffeegebohigdaaGreat
def Z9z:Frm:=⟨0,0,0,0,0⟩
def Z74 (l:List Frm) (i:Nat):Int:=(l.getD i Z9z).x
def hX (l:List Frm) (i:Nat):Int:=Z74 l i+Z74 l (i+1)
open Go.RowKit
def Z4t {α:Type} (P:Program) (w:World) (fn:FuncId) (caps:Array Value) (val : α->Value) (p : α->Bool) (l:List α):Prop :=
 ∀ x∈l,∀ w',Below w.heap.size w w'->Calls P fn (#[val x]++caps) w' fun e w2=>e = .returned (.bool (p x))/\Below w'.heap.size w' w2
def idx {α:Type} (p : α->Bool) (l:List α):Int:=match l.findIdx? p with|some i=>i|none => -1
theorem Qdz {α:Type} {p : α->Bool} {l:List α} {k:Nat} (hk:k<l.length) (hj:∀ j,(h:j<k)->p l[j]=false) (hx:p l[k]=true):idx p l=k:=by
 have:l.findIdx? p=some k:=by
  rw [List.findIdx?_eq_some_iff_getElem];exact⟨hk,hx,fun j hjk=>by simp [hj j hjk]⟩
 unfold idx;rw [this]
theorem Qar {α:Type} {p : α->Bool} {l:List α} (hj:∀ j,(h:j<l.length)->p l[j]=false):idx p l = -1:=by
 have:l.findIdx? p=none:=by
  rw [List.findIdx?_eq_none_iff];intro x hx;obtain⟨j,hj',rfl⟩:=List.mem_iff_getElem.1 hx;exact hj j hj'
 unfold idx;rw [this]
theorem Q33 {α:Type} (p : α->Bool) (l:List α):(idx p l = -1/\∀ x∈l,p x=false)\/∃ k,∃ h:k<l.length,idx p l=k/\p l[k]=true/\l.find? p=some l[k]:=by
 unfold idx
 cases hf:l.findIdx? p with
 | none=>exact .inl ⟨rfl,by simpa using hf⟩
 | some k =>
  rw [List.findIdx?_eq_some_iff_getElem] at hf;obtain⟨h,h1,h2⟩:=hf;refine .inr ⟨k,h,rfl,h1,?_⟩;rw [List.find?_eq_some_iff_getElem];exact⟨h1,k,h,rfl,fun j hj=>by have:=h2 j hj; simpa using this⟩
structure Box where
 id:Int
 num:ByteArray
 size:Int
 high:Bool
 kilos:Int
 load:Int
 dis:Int
 cls:Int
 reefer:Bool
deriving DecidableEq
def Box.cells (b:Box):List Value := [.int .i64 b.id,.string b.num,.int .u8 b.size,.bool b.high,.int .i64 b.kilos,.int .i64 b.load,.int .i64 b.dis,.int .u8 b.cls,.bool b.reefer]
abbrev Box.val (b:Box):Value := .agg #[.int .i64 b.id,.string b.num,.int .u8 b.size,.bool b.high,.int .i64 b.kilos,.int .i64 b.load,.int .i64 b.dis,.int .u8 b.cls,.bool b.reefer]
structure Q0 where
 box:Int
 col:Int
 tier:Int
 half:Int
deriving DecidableEq
def Q0.cells (b:Q0):List Value := [.int .i64 b.box,.int .i64 b.col,.int .i64 b.tier,.int .u8 b.half]
theorem Q0.one (b:Q0):∀ u∈b.cells,u.oneCell'=true:=by simp [Q0.cells,Value.oneCell']
theorem Q0.ones (l:List Q0):∀ cs∈l.map Q0.cells,∀ u∈cs,u.oneCell'=true:=by
 intro cs h;obtain⟨b,_,rfl⟩:=List.mem_map.1 h;exact b.one
theorem Q0.ei:EI Tryz.prog 34 40 4 32:=EI.mk (z := .agg #[.int .i64 0,.int .i64 0,.int .i64 0,.int .u8 0]) Tryz.underlying34 (by kernel_rfl) rfl (by omega)
structure Za where
 col:Int
 tier:Int
 half:Int
deriving DecidableEq
structure Ld where
 kilos:Int
 x:Int
 y:Int
 z:Int
deriving DecidableEq
def Ld.cells (b:Ld):List Value := [.int .i64 b.kilos,.int .i64 b.x,.int .i64 b.y,.int .i64 b.z]
abbrev Ld.val (b:Ld):Value := .agg #[.int .i64 b.kilos,.int .i64 b.x,.int .i64 b.y,.int .i64 b.z]
theorem Ld.len (b:Ld):b.cells.length=4:=rfl
theorem Ld.one (b:Ld):∀ u∈b.cells,u.oneCell'=true:=by simp [Ld.cells,Value.oneCell']
theorem Ld.row:Q3k Tryz.prog 47 4:=⟨_,Tryz.underlying47,by kernel_rfl,by kernel_rfl⟩
theorem Ld.ld {w:World} {B:Nat} {A:Option Addr} {css:List (List Value)} (h:Rd w B 4 A css) {k:Nat} {b:Ld} (hk:css[k]? = some b.cells) :
 ∃ g off,A=some ⟨g,off,none⟩/\g<B/\∀ w',Below B w w'->(loadVar 47 ⟨g,off+k*4,none⟩).run Tryz.prog w' = .ok b.val w':=h.ld Ld.row hk
structure Spn where
 n:Int
 low:Int
 high:Int
deriving DecidableEq
def G7 (b:Int):Bool:=decide (65<=b)&&decide (b<=90)
def Qa6 (b:Int):Bool:=b==85||b==74||b==90
def Vo (b:Int):Bool:=decide (48<=b)&&decide (b<=57)
def Qb8 (i:Nat) (b:Int):Bool:=if i<3 then G7 b else if i=3 then Qa6 b else Vo b
def V9 (s:ByteArray) (i:Nat):Int:=((s.data[i]?.map fun c=>(c.toNat:Int)).getD 0)
def Q1e (s:ByteArray) (i:Nat):Bool:=decide (i<11)&&Qb8 i (V9 s i)
def Q0j (s:ByteArray):Bool:=decide (∀ i,i<s.size->Q1e s i=true)
def Y3 (b:Int):Int:=if Vo b then b - 48 else if G7 b then 10+(b - 65)+(b - 65+9) / 10 else 0
def Qhg (b:Int):Bool:=Vo b||G7 b
def Vr (s:ByteArray):Nat->Int
 | 0=>0
 | n+1=>Vr s n+Y3 (V9 s n)*2^n
theorem Q1k {s:ByteArray} {i:Nat} (h:i<s.size):V9 s i=(s[i].toNat:Int):=by
 unfold V9;have:s.data[i]? = some s[i]:=Array.getElem?_eq_getElem h;rw [this];rfl
theorem Qd9 (s:ByteArray) (i:Nat):0<=V9 s i/\V9 s i<=255:=by
 unfold V9
 cases s.data[i]? with
 | none=>simp
 | some c=>have:=c.toNat_lt; simp; omega
theorem Qmg {b:Int} (_h0:0<=b) (h:b<=255):0<=Y3 b/\Y3 b<=38:=by
 unfold Y3 Vo G7;split
 . rename_i hd;simp at hd;omega
 . split
   . rename_i hl;simp at hl;omega
   . omega
theorem Z0x (b:Int) (w:World) (h0:0<=b) (h1:b<=255) :
 Calls Tryz.prog 277 #[.int .u8 b] w fun e w'=>e = .returned (.tuple #[.int .i64 (Y3 b),.bool (Qhg b)])/\w=w':=by
 by_cases hd:48<=b/\b<=57
 . obtain⟨d1,d2⟩:=hd;have e:Y3 b=b - 48:=by unfold Y3 Vo; simp [d1,d2]
   have e2:Qhg b=true:=by unfold Qhg Vo; simp [d1,d2]
   have E:=Lib.hid e;have E2:=Lib.hid e2;clear e e2
   go_enter Tryz.func277,Tryz.ntmps277
   go_wp2
   go_ret2
   exact⟨by rw [E.out,E2.out]; rfl,rfl⟩
 . by_cases hl:65<=b/\b<=90
   . obtain⟨d1,d2⟩:=hl;have e:Y3 b=10+(b - 65)+(b - 65+9) / 10:=by
      unfold Y3 Vo G7;rw [if_neg (by simp; omega),if_pos (by simp; omega)]
     have e2:Qhg b=true:=by unfold Qhg Vo G7; simp [d1,d2]
     have E:=Lib.hid e;have E2:=Lib.hid e2;clear e e2 hd;have hd:decide (b<=57)=false:=by simp; omega
     go_enter Tryz.func277,Tryz.ntmps277
     go_wp2
     go_ret2
     exact⟨by rw [E.out,E2.out]; rfl,rfl⟩
   . have e:Y3 b=0:=by
      unfold Y3 Vo G7;rw [if_neg (by simp; omega),if_neg (by simp; omega)]
     have e2:Qhg b=false:=by unfold Qhg Vo G7; simp; omega
     have E:=Lib.hid e;have E2:=Lib.hid e2;clear e e2;rcases Int.lt_or_le b 48 with h48|h48
     . clear hd hl
       go_enter Tryz.func277,Tryz.ntmps277
       go_wp2
       go_ret2
       exact⟨by rw [E.out,E2.out]; rfl,rfl⟩
     . have h57:57<b:=by omega
       rcases Int.lt_or_le b 65 with h65|h65
       . clear hd hl
         go_enter Tryz.func277,Tryz.ntmps277
         go_wp2
         go_ret2
         exact⟨by rw [E.out,E2.out]; rfl,rfl⟩
       . have h90:90<b:=by omega
         clear hd hl
         go_enter Tryz.func277,Tryz.ntmps277
         go_wp2
         go_ret2
         exact⟨by rw [E.out,E2.out]; rfl,rfl⟩
theorem Za0 (b:Int) (w:World) (h0:0<=b) (h1:b<=255):Calls Tryz.prog 278 #[.int .u8 b] w fun e w'=>e = .returned (.bool (G7 b))/\w=w':=by
 have HL:Hid (G7 b=(decide (65<=b)&&decide (b<=90))):=rfl
 go_enter Tryz.func278,Tryz.ntmps278
 rcases Int.lt_or_le b 65 with h|h
 . have hd:decide (65<=b)=false:=by simp; omega
   have HD:=Lib.hid hd
   go_wp2
   go_ret
   exact⟨by rw [HL.out,HD.out]; rfl,rfl⟩
 . have hd:decide (65<=b)=true:=by simp; omega
   have HD:=Lib.hid hd
   go_wp2
   go_ret
   exact⟨by rw [HL.out,HD.out]; rfl,rfl⟩
theorem Z9o (b:Int) (w:World) (h0:0<=b) (h1:b<=255):Calls Tryz.prog 280 #[.int .u8 b] w fun e w'=>e = .returned (.bool (Vo b))/\w=w':=by
 have HL:Hid (Vo b=(decide (48<=b)&&decide (b<=57))):=rfl
 go_enter Tryz.func280,Tryz.ntmps280
 rcases Int.lt_or_le b 48 with h|h
 . have hd:decide (48<=b)=false:=by simp; omega
   have HD:=Lib.hid hd
   go_wp2
   go_ret
   exact⟨by rw [HL.out,HD.out]; rfl,rfl⟩
 . have hd:decide (48<=b)=true:=by simp; omega
   have HD:=Lib.hid hd
   go_wp2
   go_ret
   exact⟨by rw [HL.out,HD.out]; rfl,rfl⟩
theorem Z9w (b:Int) (w:World) (h0:0<=b) (h1:b<=255):Calls Tryz.prog 279 #[.int .u8 b] w fun e w'=>e = .returned (.bool (Qa6 b))/\w=w':=by
 have HL:Hid (Qa6 b=((b==85||b==74)||b==90)):=rfl
 go_enter Tryz.func279,Tryz.ntmps279
 cases ha:(b==85) with
 | true =>
  have HD:=Lib.hid ha
  go_wp2
  go_ret
  exact⟨by rw [HL.out,HD.out]; rfl,rfl⟩
 | false =>
  have HD:=Lib.hid ha
  cases hb:(b==74) with
  | true =>
   have HB:=Lib.hid hb
   go_wp2
   go_ret
   exact⟨by rw [HL.out,HD.out,HB.out]; rfl,rfl⟩
  | false =>
   have HB:=Lib.hid hb
   go_wp2
   go_ret
   exact⟨by rw [HL.out,HD.out,HB.out]; rfl,rfl⟩
def Ji:List Value := [.func (.func 278) #[] #[],.func (.func 278) #[] #[],.func (.func 278) #[] #[],.func (.func 279) #[] #[],.func (.func 280) #[] #[],.func (.func 280) #[] #[],.func (.func 280) #[] #[],.func (.func 280) #[] #[],.func (.func 280) #[] #[],.func (.func 280) #[] #[],.func (.func 280) #[] #[]]
theorem Qvr:∀ u∈Ji,u.oneCell'=true:=by simp [Ji,Value.oneCell']
theorem Z6u (w:World):Calls Tryz.prog 276 #[] w fun e w'=>e = .returned (.agg Ji.toArray)/\Below w.heap.size w w':=by
 go_enter Tryz.func276,Tryz.ntmps276
 go_wp2_with (refine Q37 rfl _ _ rfl rfl rfl (n:=11) (cs:=Ji) (by kernel_rfl) rfl rfl (heap_alloc_new w _) (by simp) Qvr ?_; intro cur' w2 hl hs hg hgr)
 have hcur:cur'=Ji.toArray:=by
  apply Array.ext';rw [hl];rfl
 subst hcur;refine bodyPost_ret (v := .agg Ji.toArray) (results_cell_row rfl _ w2 w.heap.size _ _ _ _ rfl hg Tryz.underlying341 rfl (by kernel_rfl)) rfl ⟨rfl,?_⟩;exact ((Below.refl _ _).alloc (Nat.le_refl _) _).grown hgr (by simp) (fun k hk=>by injection hk with hk; omega)
theorem Qlw (w:World) (args:Array Value):(callFunc 278 args).run Tryz.prog w = .ok (.enter 278 args) w:=by go_simp
theorem Z62 (w:World) (args:Array Value):(callFunc 279 args).run Tryz.prog w = .ok (.enter 279 args) w:=by go_simp
theorem Z6m (w:World) (args:Array Value):(callFunc 280 args).run Tryz.prog w = .ok (.enter 280 args) w:=by go_simp
theorem Z7l (k:Nat) (h:k<11):∃ f,Ji[k]? = some (.func (.func f) #[] #[])/\(∀ w args,(callFunc f args).run Tryz.prog w = .ok (.enter f args) w) /\
 ∀ (b:Int) (w:World),0<=b->b<=255->Calls Tryz.prog f #[.int .u8 b] w fun e w'=>e = .returned (.bool (Qb8 k b))/\Below w.heap.size w w':=by
 have hk:k=0\/k=1\/k=2\/k=3\/k=4\/k=5\/k=6\/k=7\/k=8\/k=9\/k=10:=by omega
 have c1:∀ (b:Int) (w:World),0<=b->b<=255->Calls Tryz.prog 278 #[.int .u8 b] w fun e w'=>e = .returned (.bool (G7 b))/\Below w.heap.size w w':=fun b w h0 h1=>(Za0 b w h0 h1).mono fun e w' ⟨he,hw⟩=>⟨he,hw▸Below.refl _ _⟩
 have c2:∀ (b:Int) (w:World),0<=b->b<=255->Calls Tryz.prog 279 #[.int .u8 b] w fun e w'=>e = .returned (.bool (Qa6 b))/\Below w.heap.size w w':=fun b w h0 h1=>(Z9w b w h0 h1).mono fun e w' ⟨he,hw⟩=>⟨he,hw▸Below.refl _ _⟩
 have c3:∀ (b:Int) (w:World),0<=b->b<=255->Calls Tryz.prog 280 #[.int .u8 b] w fun e w'=>e = .returned (.bool (Vo b))/\Below w.heap.size w w':=fun b w h0 h1=>(Z9o b w h0 h1).mono fun e w' ⟨he,hw⟩=>⟨he,hw▸Below.refl _ _⟩
 rcases hk with rfl|rfl|rfl|rfl|rfl|rfl|rfl|rfl|rfl|rfl|rfl
 . exact⟨_,rfl,Qlw,c1⟩
 . exact⟨_,rfl,Qlw,c1⟩
 . exact⟨_,rfl,Qlw,c1⟩
 . exact⟨_,rfl,Z62,c2⟩
 all_goals exact⟨_,rfl,Z6m,c3⟩
theorem Qv4 {s:ByteArray} {k:Nat} (h:k<s.size):Q1e s k=(decide (k<11)&&Qb8 k (s[k].toNat:Int)):=by
 unfold Q1e;rw [Q1k h]
set_option maxHeartbeats 1000000 in
theorem Qjl (s:ByteArray) (w:World) (hs:s.size<=140737488351232) :
 Calls Tryz.prog 273 #[.string s] w fun e w'=>e = .returned (.bool (Q0j s))/\Below w.heap.size w w':=by
 have hfb:(∀ i,i<s.size->Q1e s i=true)->Q0j s=true:=fun h=>by unfold Q0j; simp; exact h
 have hfn:∀ i,i<s.size->Q1e s i=false->Q0j s=false:=fun i h h2=>by
  unfold Q0j;rw [decide_eq_false_iff_not];intro hall;rw [hall i h] at h2;cases h2
 have HFB:=Lib.hid hfb;have HFN:=Lib.hid hfn;clear hfb hfn
 go_enter Tryz.func273,Tryz.ntmps273
 go_wp2_with (first
  | (go_at_call 276; refine (Z6u _).mono ?_; rintro e w1 ⟨rfl,hb1⟩)
  | (refine Q37 rfl _ _ rfl rfl rfl (n:=11) (cs:=Ji) (by kernel_rfl) rfl rfl (heap_alloc_new w1 _) (by simp) Qvr ?_; intro cur' w2 hl hs' hg hgr))
 have hcur:cur'=Ji.toArray:=by
  apply Array.ext';rw [hl];rfl
 subst hcur;have hb2:Below w.heap.size w w2:=(hb1.alloc hb1.size _).grown hgr (by simp; have:=hb1.size; omega) (fun k hk=>by injection hk with hk; have:=hb1.size; omega);have hlt2:w1.heap.size<w2.heap.size:=(Array.getElem?_eq_some_iff.1 hg).1;have hcell:∀ w',Qe w2 w'->∀ i v,Ji[i]? = some v->w'.cell? ⟨w1.heap.size,i,none⟩=some v:=fun w' hb i v hv=>by
  rw [cell_of_row w' w1.heap.size i _ _ _ ((hb.block _ hlt2).trans hg)];simpa using hv
 have HC:=Lib.hid hcell;have HB2:=Lib.hid hb2;clear hl hs' hg hgr hcell hb2
 go_loopw [4,8] (fun _ i wr=>∃ k:Nat,k<=s.size/\i = .int .i64 k/\(∀ j,j<k->Q1e s j=true)/\Qe w2 wr) (fun _ i _=>s.size - (intOf i).toNat)
 case atStart=>exact⟨0,by omega,rfl,by omega,Below.refl _ _⟩
 case round =>
  obtain⟨k,hk,rfl,hj,hb⟩:=hrel;have HJ:=Lib.hid hj;clear hj;by_cases hlt:k<s.size
  . have hok:=Qv4 hlt;have HOK:=Lib.hid hok;clear hok;by_cases h11:k<11
    . have hd:decide ((11:Int)<=(k:Int))=false:=by simp; omega
      obtain⟨f,hmf,hcf,hcall⟩:=Z7l k h11;have hle:Q1e s k=Qb8 k (s[k].toNat:Int):=by rw [HOK.out]; simp [h11]
      have HLE:=Lib.hid hle;have HLD:=Lib.hid (fun w' hb=>HC.out w' hb k _ hmf);have HCALL:=Lib.hid hcall;have hbd:(s[k].toNat:Int)<=255:=by have:=s[k].toNat_lt; omega
      clear hle hmf hcall
      go_wp2
      refine Q0p (by kernel_rfl) (by kernel_rfl) wr.heap.size ?_
      repeat (first|go_big_quiet_skip|(go_big_quiet_want; refine Qi3 _ _ rfl _ rfl _ (fun w' hC=>Gc Tryz.underlying312 rfl (HLD.out w' (hb.trans (hC.mono hb.size)))) ?_; simp only [Act.put,List.setIfInBounds_toArray,List.set_cons_succ,List.set_cons_zero]; go_big_quiet_on)|go_big_quiet_step (first|(intro hC; rfl)|(intro hC; exact⟨rfl,rfl⟩)|(intro hC; refine (HCALL.out _ _ (by omega) hbd).mono ?_; rintro e w' ⟨rfl,hb3⟩; exact⟨rfl,hC.trans (hb3.mono hC.size)⟩)))
      refine wpQuiet_nil ?_;intro w' hC
      cases hm:Qb8 k (s[k].toNat:Int) with
      | true =>
       have hok1:Q1e s k=true:=by rw [HLE.out,hm]
       have HOK1:=Lib.hid hok1;clear hok1
       go_wp2
       go_roundw
       case rel =>
        refine⟨k+1,by omega,by go_num,fun j h => ?_,hb.trans (hC.mono hb.size)⟩;rcases Nat.lt_or_ge j k with h3|h3
        . exact HJ.out j h3
        . obtain rfl:j=k:=by omega
          exact HOK1.out
       case measure=>simp [intOf]; omega
      | false =>
       have hok1:Q1e s k=false:=by rw [HLE.out,hm]
       have HBAD:=Lib.hid (HFN.out k hlt hok1);clear hok1
       go_wp2
       go_ret
       exact⟨by rw [HBAD.out]; rfl,HB2.out.trans ((hb.trans (hC.mono hb.size)).mono HB2.out.size)⟩
    . have hbad:Q1e s k=false:=by rw [HOK.out]; simp [h11]
      have HBAD:=Lib.hid (HFN.out k hlt hbad);clear hbad;have hd:decide ((11:Int)<=(k:Int))=true:=by simp; omega
      go_wp2
      refine Q0p (by kernel_rfl) (by kernel_rfl) wr.heap.size ?_
      repeat (first|go_big_quiet_skip|go_big_quiet_step (first|(intro hC; rfl)|(intro hC; exact⟨rfl,rfl⟩)))
      refine wpQuiet_nil ?_;intro w' hC
      go_wp2
      go_ret
      exact⟨by rw [HBAD.out]; rfl,HB2.out.trans ((hb.trans (hC.mono hb.size)).mono HB2.out.size)⟩
  . obtain rfl:k=s.size:=by omega
    have HF:=Lib.hid (HFB.out HJ.out)
    go_wp2
    go_ret
    exact⟨by rw [HF.out]; rfl,HB2.out.trans (hb.mono HB2.out.size)⟩
theorem Q9y (s:ByteArray):∀ n,0<=Vr s n/\Vr s n<=38*(2^n - 1)
 | 0=>by simp [Vr]
 | n+1=>by
  have ih:=Q9y s n;have hb:=Qd9 s n;have hv:=Qmg hb.1 hb.2;have hp:(0:Int)<2^n:=Int.pow_pos (by omega);have h1:Y3 (V9 s n)*2^n<=38*2^n:=Int.mul_le_mul_of_nonneg_right hv.2 (by omega);have h0:0<=Y3 (V9 s n)*2^n:=Int.mul_nonneg hv.1 (by omega);have e:(2:Int)^(n+1)=2*2^n:=by rw [Int.pow_succ]; omega
  unfold Vr;rw [e];omega
def Qkw (s:ByteArray):Int:=48+Vr s s.size % 11 % 10
theorem Q7t {k:Nat} (h:k<10):(1:Int)<=2^k/\(2:Int)^k<=512:=by
 have hk:k=0\/k=1\/k=2\/k=3\/k=4\/k=5\/k=6\/k=7\/k=8\/k=9:=by omega
 rcases hk with rfl|rfl|rfl|rfl|rfl|rfl|rfl|rfl|rfl|rfl<;>decide
theorem Qiw {s:ByteArray} {k:Nat} (h:k<s.size) (hk:k<10):wrap64 (Vr s k+wrap64 (Y3 (s[k].toNat:Int)*2^k))=Vr s (k+1):=by
 have hb:=Qd9 s k;have hv:=Qmg hb.1 hb.2;obtain⟨p1,p2⟩:=Q7t hk;have hs:=Q9y s k;have h1:Y3 (V9 s k)*2^k<=38*2^k:=Int.mul_le_mul_of_nonneg_right hv.2 (by omega);have h0:0<=Y3 (V9 s k)*2^k:=Int.mul_nonneg hv.1 (by omega);rw [<- Q1k h];rw [IntWalk.wrap64_in (Y3 (V9 s k)*2^k) ⟨by omega,by omega⟩,IntWalk.wrap64_in _ ⟨by omega,by omega⟩];rfl
set_option maxHeartbeats 1000000 in
theorem Qzt (s:ByteArray) (w:World) (hs:s.size<=10) :
 Calls Tryz.prog 274 #[.string s] w fun e w'=>e = .returned (.int .u8 (Qkw s))/\w=w':=by
 go_enter Tryz.func274,Tryz.ntmps274
 go_wp2
 go_loop [3,9] (fun u i=>∃ k:Nat,k<=s.size/\i = .int .i64 k/\u = .int .i64 (Vr s k)) (fun _ i=>s.size - (intOf i).toNat)
 case atStart=>exact⟨0,by omega,rfl,rfl⟩
 case round =>
  obtain⟨k,hk,rfl,rfl⟩:=hrel;have hsb:=Q9y s k;obtain⟨sb1,sb2⟩:=hsb;by_cases hlt:k<s.size
  . have hbd:(s[k].toNat:Int)<=255:=by have:=s[k].toNat_lt; omega
    have hv:=Qmg (b:=(s[k].toNat:Int)) (by omega) hbd;obtain⟨v1,v2⟩:=hv
    go_wp2_with (go_at_call 277; refine (Z0x _ _ (by omega) hbd).mono ?_; rintro e w' ⟨rfl,rfl⟩)
    go_round
    case rel=>exact⟨k+1,by omega,by go_num,by rw [Qiw hlt (by omega)]⟩
    case measure=>simp [intOf]; omega
  . obtain rfl:k=s.size:=by omega
    go_wp2
    go_ret
    exact⟨rfl,rfl⟩
theorem Qud (x y:Int):(!(x != y))=decide (x=y):=by by_cases h:x=y<;>simp [h]
def Jj (s:ByteArray):Bool:=decide (s.size=11)&&Q0j s&&decide (48+Vr s 10 % 11 % 10=V9 s 10)
theorem Qme (s:ByteArray) (i:Nat) (h:i<10) (hs:10<=s.size):V9 (s.extract 0 10) i=V9 s i:=by
 have h1:i<(s.extract 0 10).size:=by simp; omega
 rw [Q1k h1,Q1k (by omega)];simp [ByteArray.getElem_extract]
theorem Qdg (s:ByteArray) (hs:10<=s.size):∀ n,n<=10->Vr (s.extract 0 10) n=Vr s n
 | 0,_=>rfl
 | n+1,h=>by
  unfold Vr;rw [Qdg s hs n (by omega),Qme s n (by omega) hs]
set_option maxHeartbeats 1000000 in
theorem Z0t (s:ByteArray) (w:World) (hs:s.size<=140737488351232) :
 Calls Tryz.prog 269 #[.string s] w fun e w'=>∃ n,e = .returned (.int .i64 n)/\(n==0)=Jj s/\Below w.heap.size w w':=by
 by_cases h11:s.size=11
 . have hne:((s.size:Int) != 11)=false:=by simp [h11]
   have hle:s.size<=11:=by omega
   have hge:10<s.size:=by omega
   have H11:=Lib.hid h11;clear h11
   cases hf:Q0j s with
   | true =>
    have hx:(s.extract 0 10).size<=10:=by simp; omega
    have hres:∀ n:Int,(n==0) = !(Qkw (s.extract 0 10) != (s[10].toNat:Int))->(n==0)=Jj s:=by
     intro n hn;rw [hn];unfold Jj Qkw;have e1:(s.extract 0 10).size=10:=by simp; omega
     rw [e1,Qdg s (by omega) 10 (by omega),Q1k (s:=s) (i:=10) (by omega),hf,decide_eq_true H11.out];rw [Qud];simp
    have HR:=Lib.hid hres;clear hres;have hix:∀ w,(Instr.index 9 (.string s) (.int .i64 10)).run Tryz.prog w = .ok (.int .u8 (s[10].toNat:Int)) w:=fun w=>by
     simp [Instr.index,asIntOf,run_underlying Tryz.underlying9,hge]
    go_enter Tryz.func269,Tryz.ntmps269
    go_wp2_with (go_at_call 273; refine (Qjl s _ hs).mono ?_; rintro e w1 ⟨rfl,hb1⟩)
    refine Q0p (by kernel_rfl) (by kernel_rfl) w1.heap.size ?_
    repeat (first|go_big_quiet_skip|go_big_quiet_step (first|(intro hC; rfl)|(intro hC; exact⟨rfl,rfl⟩)|(intro hC; refine (Qzt _ _ hx).mono ?_; rintro e w' ⟨rfl,rfl⟩; exact⟨rfl,hC⟩)))
    refine wpQuiet_nil ?_;intro w' hC
    cases hq:(Qkw (s.extract 0 10) != (s[10].toNat:Int)) with
    | true =>
     have HQ:=Lib.hid hq
     go_wp2
     go_ret
     exact⟨31,rfl,HR.out 31 (by rw [HQ.out]; rfl),hb1.trans (hC.mono hb1.size)⟩
    | false =>
     have HQ:=Lib.hid hq
     go_wp2
     go_ret
     exact⟨0,rfl,HR.out 0 (by rw [HQ.out]; rfl),hb1.trans (hC.mono hb1.size)⟩
   | false =>
    have HI:Hid (Jj s=false):=by unfold Hid Jj; rw [hf]; simp
    go_enter Tryz.func269,Tryz.ntmps269
    go_wp2_with (go_at_call 273; refine (Qjl s _ hs).mono ?_; rintro e w1 ⟨rfl,hb1⟩)
    go_ret
    exact⟨30,rfl,by rw [HI.out]; rfl,hb1⟩
 . have hne:((s.size:Int) != 11)=true:=by simp; omega
   have HI:Hid (Jj s=false):=by unfold Hid Jj; simp [h11]
   go_enter Tryz.func269,Tryz.ntmps269
   go_wp2
   go_ret
   exact⟨30,rfl,by rw [HI.out]; rfl,Below.refl _ _⟩
theorem Z0e (s:ByteArray) (w:World) (hs:s.size<=140737488351232) :
 Calls Tryz.prog 243 #[.string s] w fun e w'=>e = .returned (.bool (Jj s))/\Below w.heap.size w w':=by
 go_enter Tryz.func243,Tryz.ntmps243
 go_wp2_with (go_at_call 269; refine (Z0t s _ hs).mono ?_; rintro e w' ⟨n,rfl,hn,hb⟩; have HN:=Lib.hid hn; clear hn)
 go_ret
 exact⟨by rw [<- HN.out]; rfl,hb⟩
def Q3n (k:Nat):Int:=10+(k:Int)+((k:Int)+9) / 10
set_option maxHeartbeats 1000000 in
theorem Q6n (b:Int) (w:World) (h0:65<=b) (h1:b<=90) :
 Calls Tryz.prog 272 #[.int .u8 b] w fun e w'=>e = .returned (.int .i64 (10+(b - 65)+(b - 65+9) / 10))/\w=w':=by
 go_enter Tryz.func272,Tryz.ntmps272
 go_wp2
 go_loop [3,4] (fun n c=>∃ k:Nat,(k:Int)<=b - 65/\c = .int .u8 (65+(k:Int))/\n = .int .i64 (Q3n k)) (fun _ c=>(b - intOf c).toNat)
 case atStart=>exact⟨0,by omega,rfl,rfl⟩
 case round =>
  obtain⟨k,hk,rfl,rfl⟩:=hrel;have hv:Q3n k=10+(k:Int)+((k:Int)+9) / 10:=rfl;have hv2:Q3n (k+1)=10+((k:Int)+1)+((k:Int)+10) / 10:=by unfold Q3n; omega
  have hb1:10<=Q3n k:=by omega
  have hb2:Q3n k<=40:=by omega
  by_cases hlt:65+(k:Int)<b
  . by_cases hm:(Q3n k+1) % 11=0
    . have hm':((Q3n k+1) % 11==0)=true:=by simp [hm]
      have e:Q3n (k+1)=Q3n k+1+1:=by omega
      have HE:=Lib.hid e;clear e hv hv2 hm
      go_wp2
      go_round
      case rel=>exact⟨k+1,by omega,by go_num,by rw [HE.out]⟩
      case measure=>simp [intOf]; omega
    . have hm':((Q3n k+1) % 11==0)=false:=by simp [hm]
      have e:Q3n (k+1)=Q3n k+1:=by omega
      have HE:=Lib.hid e;clear e hv hv2 hm
      go_wp2
      go_round
      case rel=>exact⟨k+1,by omega,by go_num,by rw [HE.out]⟩
      case measure=>simp [intOf]; omega
  . have e:Q3n k=10+(b - 65)+(b - 65+9) / 10:=by rw [hv]; omega
    have HE:=Lib.hid e;clear e hv hv2
    go_wp2
    go_ret
    exact⟨Z6c HE.out,rfl⟩
theorem Z38 {s:ByteArray} {k:Nat} (h11:s.size=11) (hk:k<s.size) (h:Q1e s k=false):Jj s=false:=by
 unfold Jj Q0j;have:¬ ∀ i,i<s.size->Q1e s i=true:=fun hall=>by rw [hall k hk] at h; cases h
 simp [this]
theorem Z2c {s:ByteArray} (h11:s.size=11) (h:∀ j,j<10->Q1e s j=true):Jj s=(V9 s 10 - 48==Vr s 10 % 11 % 10):=by
 have h10:=Q9y s 10;unfold Jj;by_cases he:V9 s 10 - 48=Vr s 10 % 11 % 10
 . have hf:Q0j s=true:=by
    unfold Q0j;rw [decide_eq_true_eq];intro i hi;rcases Nat.lt_or_ge i 10 with h1|h1
    . exact h i h1
    . obtain rfl:i=10:=by omega
      unfold Q1e Qb8 Vo;simp;omega
   rw [hf];simp [h11,he];omega
 . have:¬ 48+Vr s 10 % 11 % 10=V9 s 10:=by omega
   simp [this,he]
theorem Q56 {b:Int} (h:65<=b/\b<=90):Y3 b=10+(b - 65)+(b - 65+9) / 10:=by
 unfold Y3 Vo G7;rw [if_neg (by simp; omega),if_pos (by simp; omega)]
theorem Qxi {b:Int} (h:48<=b/\b<=57):Y3 b=b - 48:=by
 unfold Y3 Vo;rw [if_pos (by simp; omega)]
theorem Jf {x:Int} (h1 : -1000000<=x) (h2:x<=1000000):wrap64 x=x:=by unfold wrap64; omega
theorem Qyy (s:ByteArray) (w:World) (hs:s.size<=140737488351232) :
 Calls Tryz.prog 253 #[.string s] w fun e w'=>e = .returned (.bool (Jj s))/\w=w':=by
 by_cases h11:s.size=11
 . have hne:((s.size:Int) != 11)=false:=by simp [h11]
   have hge:10<s.size:=by omega
   have hle:s.size<=11:=by omega
   have H11:=Lib.hid h11;clear h11
   go_enter Tryz.func253,Tryz.ntmps253
   go_wp2
   clear hne
   go_loop [3,4] (fun u i=>∃ k:Nat,k<=10/\i = .int .i64 k/\u = .int .i64 (Vr s k)/\∀ j,j<k->Q1e s j=true) (fun _ i=>10 - (intOf i).toNat)
   case atStart=>exact⟨0,by omega,rfl,rfl,by omega⟩
   case round =>
    obtain⟨k,hk,rfl,rfl,hj⟩:=hrel;have HJ:=Lib.hid hj;have hsb:=Q9y s k;obtain⟨sb1,sb2⟩:=hsb;clear hj;by_cases hlt:k<10
    . have hok:=Qv4 (s:=s) (k:=k) (by omega);have hstep:=Qiw (s:=s) (k:=k) (by omega) hlt;obtain⟨c,hc⟩:∃ c:Int,c=(s[k].toNat:Int):=⟨_,rfl⟩
      have hc0:0<=c:=by omega
      have hc255:c<=255:=by have:=s[k].toNat_lt; omega
      rw [<- hc] at hok hstep;have HOK:=Lib.hid hok;have HST:=Lib.hid hstep;have hcs:=hc.symm;clear hok hstep hc
      cases hm:Qb8 k c with
      | true =>
       have hok1:Q1e s k=true:=by rw [HOK.out,hm]; simp; omega
       have HOK1:=Lib.hid hok1;have hcases:(k<3/\65<=c/\c<=90)\/(k=3/\c=85)\/(k=3/\c=74)\/(k=3/\c=90)\/(3<k/\48<=c/\c<=57):=by
        unfold Qb8 G7 Qa6 Vo at hm;split at hm
        . simp at hm; omega
        . split at hm
          . simp at hm; omega
          . simp at hm; omega
       clear hok1 hm;rcases hcases with ⟨a1,a2,a3⟩|⟨a1,a2⟩|⟨a1,a2⟩|⟨a1,a2⟩|⟨a1,a2,a3⟩
       . have b1:((k:Int)==3)=false:=by simp; omega
         have hv:10+(c - 65)+(c - 65+9) / 10=Y3 c:=(Q56 (by omega)).symm;have HV0:Hid (0<=Y3 c):=by unfold Hid; rw [<- hv]; omega
         have HV1:Hid (Y3 c<=38):=by unfold Hid; rw [<- hv]; omega
         have HV:=Lib.hid hv;clear hv
         go_wp2_with (go_at_call 272; refine (Q6n _ _ (by omega) (by omega)).mono ?_; rintro _ _ ⟨rfl,rfl⟩)
         go_loop [6,7] (fun v t=>∃ j:Nat,j<=k/\t = .int .i64 j/\v = .int .i64 (Y3 c*2^j)) (fun _ t=>k - (intOf t).toNat)
         case atStart=>exact⟨0,by omega,rfl,by rw [<- HV.out]; simp only [Int.pow_zero,Int.mul_one]⟩
         case round =>
          obtain⟨j,hjk,rfl,rfl⟩:=hrel;have hb1:0<=Y3 c*2^j:=Int.mul_nonneg HV0.out (by have:=(Q7t (k:=j) (by omega)).1; omega);have hb2:Y3 c*2^j<=38*512:=Int.mul_le_mul HV1.out (Q7t (k:=j) (by omega)).2 (by have:=(Q7t (k:=j) (by omega)).1; omega) (by omega);by_cases hj2:j<k
          . have he:2*(Y3 c*2^j)=Y3 c*2^(j+1):=by rw [Int.pow_succ]; ac_rfl
            have HE:=Lib.hid he;clear he
            go_wp2
            go_round
            case rel=>exact⟨j+1,by omega,by go_num,by rw [<- HE.out]⟩
            case measure=>simp [intOf]<;>omega
          . obtain rfl:j=k:=by omega
            have hx:wrap64 (Vr s j+Y3 c*2^j)=Vr s (j+1):=by
             have:=HST.out;rwa [Jf (x:=Y3 c*2^j) (by omega) (by omega)] at this
            have HX:=Lib.hid hx;clear hx
            go_wp2
            go_round
            case rel=>exact⟨j+1,by omega,by go_num,by rw [<- HX.out],fun i hi=>by
             rcases Nat.lt_or_ge i j with h1|h1
             . exact HJ.out i h1
             . obtain rfl:i=j:=by omega
               exact HOK1.out⟩
            case measure=>simp [intOf]<;>omega
       . subst a1;subst a2;have hx:Vr s (3+1)=Vr s 3+256:=by
          have h1:=HST.out;have h2:wrap64 (Y3 85*2^3)=256:=by rw [Q56 (by omega),Jf (by omega) (by omega)]; rfl
          rwa [h2,Jf (by omega) (by omega),eq_comm] at h1
         have HX:=Lib.hid hx;clear hx
         go_wp2_with (go_at_call 272; refine (Q6n _ _ (by omega) (by omega)).mono ?_; rintro _ _ ⟨rfl,rfl⟩)
         go_loop [6,7] (fun v t=>∃ j:Nat,j<=3/\t = .int .i64 j/\v = .int .i64 (32*2^j)) (fun _ t=>3 - (intOf t).toNat)
         case atStart=>exact⟨0,by omega,rfl,rfl⟩
         case round =>
          obtain⟨j,hjk,rfl,rfl⟩:=hrel;rcases (by omega:j=3\/j=0\/j=1\/j=2) with rfl|rfl|rfl|rfl
          . go_wp2
            go_round
            case rel=>exact⟨3+1,by omega,by go_num,by rw [HX.out],fun i hi=>by
             rcases Nat.lt_or_ge i 3 with h1|h1
             . exact HJ.out i h1
             . obtain rfl:i=3:=by omega
               exact HOK1.out⟩
            case measure=>simp [intOf]<;>omega
          . go_wp2
            go_round
            case rel=>exact⟨1,by omega,by go_num,by go_num⟩
            case measure=>simp [intOf]<;>omega
          . go_wp2
            go_round
            case rel=>exact⟨2,by omega,by go_num,by go_num⟩
            case measure=>simp [intOf]<;>omega
          . go_wp2
            go_round
            case rel=>exact⟨3,by omega,by go_num,by go_num⟩
            case measure=>simp [intOf]<;>omega
       . subst a1;subst a2;have hx:Vr s (3+1)=Vr s 3+160:=by
          have h1:=HST.out;have h2:wrap64 (Y3 74*2^3)=160:=by rw [Q56 (by omega),Jf (by omega) (by omega)]; rfl
          rwa [h2,Jf (by omega) (by omega),eq_comm] at h1
         have HX:=Lib.hid hx;clear hx
         go_wp2_with (go_at_call 272; refine (Q6n _ _ (by omega) (by omega)).mono ?_; rintro _ _ ⟨rfl,rfl⟩)
         go_loop [6,7] (fun v t=>∃ j:Nat,j<=3/\t = .int .i64 j/\v = .int .i64 (20*2^j)) (fun _ t=>3 - (intOf t).toNat)
         case atStart=>exact⟨0,by omega,rfl,rfl⟩
         case round =>
          obtain⟨j,hjk,rfl,rfl⟩:=hrel;rcases (by omega:j=3\/j=0\/j=1\/j=2) with rfl|rfl|rfl|rfl
          . go_wp2
            go_round
            case rel=>exact⟨3+1,by omega,by go_num,by rw [HX.out],fun i hi=>by
             rcases Nat.lt_or_ge i 3 with h1|h1
             . exact HJ.out i h1
             . obtain rfl:i=3:=by omega
               exact HOK1.out⟩
            case measure=>simp [intOf]<;>omega
          . go_wp2
            go_round
            case rel=>exact⟨1,by omega,by go_num,by go_num⟩
            case measure=>simp [intOf]<;>omega
          . go_wp2
            go_round
            case rel=>exact⟨2,by omega,by go_num,by go_num⟩
            case measure=>simp [intOf]<;>omega
          . go_wp2
            go_round
            case rel=>exact⟨3,by omega,by go_num,by go_num⟩
            case measure=>simp [intOf]<;>omega
       . subst a1;subst a2;have hx:Vr s (3+1)=Vr s 3+304:=by
          have h1:=HST.out;have h2:wrap64 (Y3 90*2^3)=304:=by rw [Q56 (by omega),Jf (by omega) (by omega)]; rfl
          rwa [h2,Jf (by omega) (by omega),eq_comm] at h1
         have HX:=Lib.hid hx;clear hx
         go_wp2_with (go_at_call 272; refine (Q6n _ _ (by omega) (by omega)).mono ?_; rintro _ _ ⟨rfl,rfl⟩)
         go_loop [6,7] (fun v t=>∃ j:Nat,j<=3/\t = .int .i64 j/\v = .int .i64 (38*2^j)) (fun _ t=>3 - (intOf t).toNat)
         case atStart=>exact⟨0,by omega,rfl,rfl⟩
         case round =>
          obtain⟨j,hjk,rfl,rfl⟩:=hrel;rcases (by omega:j=3\/j=0\/j=1\/j=2) with rfl|rfl|rfl|rfl
          . go_wp2
            go_round
            case rel=>exact⟨3+1,by omega,by go_num,by rw [HX.out],fun i hi=>by
             rcases Nat.lt_or_ge i 3 with h1|h1
             . exact HJ.out i h1
             . obtain rfl:i=3:=by omega
               exact HOK1.out⟩
            case measure=>simp [intOf]<;>omega
          . go_wp2
            go_round
            case rel=>exact⟨1,by omega,by go_num,by go_num⟩
            case measure=>simp [intOf]<;>omega
          . go_wp2
            go_round
            case rel=>exact⟨2,by omega,by go_num,by go_num⟩
            case measure=>simp [intOf]<;>omega
          . go_wp2
            go_round
            case rel=>exact⟨3,by omega,by go_num,by go_num⟩
            case measure=>simp [intOf]<;>omega
       . have b1:((k:Int)==3)=false:=by simp; omega
         have hv:c - 48=Y3 c:=(Qxi (by omega)).symm;have HV0:Hid (0<=Y3 c):=by unfold Hid; rw [<- hv]; omega
         have HV1:Hid (Y3 c<=38):=by unfold Hid; rw [<- hv]; omega
         have HV:=Lib.hid hv;clear hv
         go_wp2
         go_loop [6,7] (fun v t=>∃ j:Nat,j<=k/\t = .int .i64 j/\v = .int .i64 (Y3 c*2^j)) (fun _ t=>k - (intOf t).toNat)
         case atStart=>exact⟨0,by omega,rfl,by rw [<- HV.out]; simp only [Int.pow_zero,Int.mul_one]⟩
         case round =>
          obtain⟨j,hjk,rfl,rfl⟩:=hrel;have hb1:0<=Y3 c*2^j:=Int.mul_nonneg HV0.out (by have:=(Q7t (k:=j) (by omega)).1; omega);have hb2:Y3 c*2^j<=38*512:=Int.mul_le_mul HV1.out (Q7t (k:=j) (by omega)).2 (by have:=(Q7t (k:=j) (by omega)).1; omega) (by omega);by_cases hj2:j<k
          . have he:2*(Y3 c*2^j)=Y3 c*2^(j+1):=by rw [Int.pow_succ]; ac_rfl
            have HE:=Lib.hid he;clear he
            go_wp2
            go_round
            case rel=>exact⟨j+1,by omega,by go_num,by rw [<- HE.out]⟩
            case measure=>simp [intOf]<;>omega
          . obtain rfl:j=k:=by omega
            have hx:wrap64 (Vr s j+Y3 c*2^j)=Vr s (j+1):=by
             have:=HST.out;rwa [Jf (x:=Y3 c*2^j) (by omega) (by omega)] at this
            have HX:=Lib.hid hx;clear hx
            go_wp2
            go_round
            case rel=>exact⟨j+1,by omega,by go_num,by rw [<- HX.out],fun i hi=>by
             rcases Nat.lt_or_ge i j with h1|h1
             . exact HJ.out i h1
             . obtain rfl:i=j:=by omega
               exact HOK1.out⟩
            case measure=>simp [intOf]<;>omega
      | false =>
       have hok1:Q1e s k=false:=by rw [HOK.out,hm]; simp
       have HB:=Lib.hid (Z38 H11.out (by omega) hok1);have hcases:(k<3/\c<65)\/(k<3/\90<c)\/(k=3/\c<65)\/(k=3/\90<c)\/(k=3/\65<=c/\c<=90/\c≠85/\c≠74/\c≠90)\/(3<k/\c<48)\/(3<k/\57<c):=by
        unfold Qb8 G7 Qa6 Vo at hm;split at hm
        . simp at hm; omega
        . split at hm
          . simp at hm; omega
          . simp at hm; omega
       clear hok1 hm;rcases hcases with ⟨a1,a2⟩|⟨a1,a2⟩|⟨a1,a2⟩|⟨a1,a2⟩|⟨a1,a2,a3,a4,a5,a6⟩|⟨a1,a2⟩|⟨a1,a2⟩
       . go_wp2
         go_ret
         exact⟨by rw [HB.out]; rfl,rfl⟩
       . go_wp2
         go_ret
         exact⟨by rw [HB.out]; rfl,rfl⟩
       . subst a1
         go_wp2
         go_ret
         exact⟨by rw [HB.out]; rfl,rfl⟩
       . subst a1
         go_wp2
         go_ret
         exact⟨by rw [HB.out]; rfl,rfl⟩
       . subst a1;have b1:(c != 85)=true:=by simpa using a4
         have b2:(c != 74)=true:=by simpa using a5
         have b3:(c != 90)=true:=by simpa using a6
         clear a4 a5 a6
         go_wp2
         go_ret
         exact⟨by rw [HB.out]; rfl,rfl⟩
       . have b1:((k:Int)==3)=false:=by simp; omega
         go_wp2
         go_ret
         exact⟨by rw [HB.out]; rfl,rfl⟩
       . have b1:((k:Int)==3)=false:=by simp; omega
         go_wp2
         go_ret
         exact⟨by rw [HB.out]; rfl,rfl⟩
    . obtain rfl:k=10:=by omega
      have hend:=Z2c H11.out HJ.out;have hix:∀ w,(Instr.index 9 (.string s) (.int .i64 10)).run Tryz.prog w = .ok (.int .u8 (V9 s 10)) w:=fun w=>by
       rw [Q1k hge];simp [Instr.index,asIntOf,run_underlying Tryz.underlying9,hge]
      have HEND:=Lib.hid hend;have hbb:=Qd9 s 10;obtain⟨bb1,bb2⟩:=hbb;clear hend
      go_wp2
      go_ret
      exact⟨by rw [HEND.out]; rfl,rfl⟩
 . have hne:((s.size:Int) != 11)=true:=by simp; omega
   have HI:Hid (Jj s=false):=by unfold Hid Jj; simp [h11]
   go_enter Tryz.func253,Tryz.ntmps253
   go_wp2
   go_ret
   exact⟨by rw [HI.out]; rfl,rfl⟩
structure Mid where
 box:Box
 x:Int
 y:Int
 h:Int
deriving DecidableEq
theorem Qh7 {α β:Type} (f : α -> β) (l:List α) (k:Nat) (h:k<l.length):(l.map f)[k]? = some (f l[k]):=by simp [h]
set_option maxHeartbeats 1000000 in
theorem Z5g (A:Option Addr) (c:Nat) (l:List Ld) (n:Nat) (hn:n=l.length) (fn:FuncId) (caps:Array Value) (p:Ld->Bool) (w:World) (hA:Rd w w.heap.size 4 A (l.map Ld.cells)) (hl:l.length<=1000000000000) (hcf:∀ w args,(callFunc fn args).run Tryz.prog w = .ok (.enter fn args) w) (hf:Z4t Tryz.prog w fn caps Ld.val p l) :
 Calls Tryz.prog 141 #[.slice A n c,.func (.func fn) #[] caps] w fun e w'=>e = .returned (.int .i64 (idx p l))/\Below w.heap.size w w':=by
 subst hn
 go_enter Tryz.func141,Tryz.ntmps141
 go_wp2
 have HF:=Lib.hid hf;clear hf
 go_loopw [5,8] (fun _ i wr=>∃ k:Nat,k<=l.length/\i = .int .i64 k/\(∀ j,(h:j<k)->(h2:j<l.length)->p l[j]=false)/\Below w.heap.size w wr) (fun _ i _=>l.length - (intOf i).toNat)
 case atStart=>exact⟨0,by omega,rfl,by omega,Below.refl _ _⟩
 case round =>
  obtain⟨k,hk,rfl,hj,hb⟩:=hrel;have HJ:=Lib.hid hj;clear hj;by_cases hlt:k<l.length
  . obtain⟨b,off,rfl,hb1,hld⟩:=Ld.ld hA (Qh7 Ld.cells l k hlt);have HL:=Lib.hid hld;clear hld
    go_wp2_with (first
     | (refine Q9 rfl _ _ rfl _ rfl _ (HL.out _ hb) ?_)
     | (refine (HF.out l[k] (List.getElem_mem hlt) _ hb).mono ?_; rintro e w' ⟨rfl,hb3⟩))
    . have ht:p l[k]=true:=by assumption
      go_ret
      exact⟨by rw [Qdz hlt (fun j h=>HJ.out j h (by omega)) ht]; rfl,hb.trans (hb3.mono hb.size)⟩
    . have hf':p l[k]=false:=by assumption
      go_roundw
      case rel =>
       refine⟨k+1,by omega,by go_num,fun j h h2 => ?_,hb.trans (hb3.mono hb.size)⟩;rcases Nat.lt_or_ge j k with h3|h3
       . exact HJ.out j h3 h2
       . obtain rfl:j=k:=by omega
         exact hf'
      case measure=>simp [intOf]; omega
  . obtain rfl:k=l.length:=by omega
    have HI:=Lib.hid (Qar (fun j h=>HJ.out j h h))
    go_wp2
    go_ret
    exact⟨by rw [HI.out]; rfl,hb⟩
theorem Qvf {α:Type} (p : α->Bool) (l:List α):l.any p=decide (0<=idx p l):=by
 rcases Q33 p l with ⟨h1,h2⟩|⟨k,hk,h1,h2,_⟩
 . have h3:l.any p=false:=by
    rw [List.any_eq_false];intro x hx;simp [h2 x hx]
   rw [h1,h3];rfl
 . have h3:l.any p=true:=by
    rw [List.any_eq_true];exact⟨_,List.getElem_mem hk,h2⟩
   rw [h1,h3];simp
theorem Qz2 (A:Option Addr) (c:Nat) (l:List Ld) (n:Nat) (hn:n=l.length) (fn:FuncId) (caps:Array Value) (p:Ld->Bool) (w:World) (hA:Rd w w.heap.size 4 A (l.map Ld.cells)) (hl:l.length<=1000000000000) (hcf:∀ w args,(callFunc fn args).run Tryz.prog w = .ok (.enter fn args) w) (hf:Z4t Tryz.prog w fn caps Ld.val p l) :
 Calls Tryz.prog 71 #[.slice A n c,.func (.func fn) #[] caps] w fun e w'=>e = .returned (.bool (l.any p))/\Below w.heap.size w w':=by
 have HI:=Lib.hid (Z5g A c l n hn fn caps p w hA hl hcf hf);rw [Qvf];generalize idx p l=z at HI ⊢;clear hA hn hl hcf hf
 go_enter Tryz.func71,Tryz.ntmps71
 go_wp2_with (go_at_call 141; refine (HI.out).mono ?_; rintro e w2 ⟨rfl,hb2⟩)
 go_ret
 exact⟨by first|rfl|simp,hb2⟩
end Go.Proofs.YtffeegebohigdaaGreat
namespace Go.Proofs.YtffeegebohigdaaGreat
def Y0:ByteArray:=⟨#[]⟩
structure Col where
 bay:Int
 row:Int
 deck:Bool
 tiers:Int
 height:Int
 k20:Int
 k40:Int
 lash:Int
 plugs:List Int
 x:Int
 y:Int
 z:Int
deriving DecidableEq
structure Cov where
 bay:Int
 rows:List Int
deriving DecidableEq
structure Q01 where
 draught:Int
 kilos:Int
 buoy:Int
 mc:Int
 turn:Int
deriving DecidableEq
structure Tnk where
 kilos:Int
 x:Int
 y:Int
 z:Int
 surface:Int
 steps:List Int
deriving DecidableEq
structure Q4e where
 bay:Int
 row:Int
 deck:Bool
 tiers:Int
 height:Int
 k20:Int
 k40:Int
 lash:Int
 plugs:List Int
 plugsN:Nat
 x:Int
 y:Int
 z:Int
deriving DecidableEq
structure Q48 where
 bay:Int
 rows:List Int
 rowsN:Nat
deriving DecidableEq
structure Q4t where
 kilos:Int
 x:Int
 y:Int
 z:Int
 surface:Int
 steps:List Int
 stepsN:Nat
deriving DecidableEq
structure Plc where
 bay:Int
 row:Int
 tiers:Int
 deck:Bool
deriving DecidableEq
structure Drp where
 col:Int
 kilos:Int
 small:Bool
 high:Bool
deriving DecidableEq
structure Wgt where
 kilos:Int
 x:Int
 y:Int
 z:Int
deriving DecidableEq
inductive Tc where
 | int|u8|u32|box|stowed|slot|ld|spn|col|cov|mid|hrow|frm|tnk|colq|covq|tnkq|plc|drp|wgt
deriving DecidableEq
abbrev Tc.el:Tc->Type
 | .int=>Int
 | .u8=>Int
 | .u32=>Int
 | .box=>Box
 | .stowed=>Q0
 | .slot=>Za
 | .ld=>Ld
 | .spn=>Spn
 | .col=>Col
 | .cov=>Cov
 | .mid=>Mid
 | .hrow=>Q01
 | .frm=>Frm
 | .tnk=>Tnk
 | .colq=>Q4e
 | .covq=>Q48
 | .tnkq=>Q4t
 | .plc=>Plc
 | .drp=>Drp
 | .wgt=>Wgt
def Tc.size:Tc->Nat
 | .int=>1
 | .u8=>1
 | .u32=>1
 | .box=>9
 | .stowed=>4
 | .slot=>3
 | .ld=>4
 | .spn=>3
 | .col=>12
 | .cov=>2
 | .mid=>12
 | .hrow=>5
 | .frm=>5
 | .tnk=>6
 | .colq=>12
 | .covq=>2
 | .tnkq=>6
 | .plc=>4
 | .drp=>4
 | .wgt=>4
def Tc.dflt:(t:Tc)->t.el
 | .int=>(0:Int)
 | .u8=>(0:Int)
 | .u32=>(0:Int)
 | .box=>(⟨0,Y0,0,false,0,0,0,0,false⟩:Box)
 | .stowed=>(⟨0,0,0,0⟩:Q0)
 | .slot=>(⟨0,0,0⟩:Za)
 | .ld=>(⟨0,0,0,0⟩:Ld)
 | .spn=>(⟨0,0,0⟩:Spn)
 | .col=>(⟨0,0,false,0,0,0,0,0,[],0,0,0⟩:Col)
 | .cov=>(⟨0,[]⟩:Cov)
 | .mid=>(⟨⟨0,Y0,0,false,0,0,0,0,false⟩,0,0,0⟩:Mid)
 | .hrow=>(⟨0,0,0,0,0⟩:Q01)
 | .frm=>(⟨0,0,0,0,0⟩:Frm)
 | .tnk=>(⟨0,0,0,0,0,[]⟩:Tnk)
 | .colq=>(⟨0,0,false,0,0,0,0,0,[],0,0,0,0⟩:Q4e)
 | .covq=>(⟨0,[],0⟩:Q48)
 | .tnkq=>(⟨0,0,0,0,0,[],0⟩:Q4t)
 | .plc=>(⟨0,0,0,false⟩:Plc)
 | .drp=>(⟨0,0,false,false⟩:Drp)
 | .wgt=>(⟨0,0,0,0⟩:Wgt)
open Go.RowKit
theorem Qma {P:Program} {ρ:Operand->Value} {d:Option Nat} {T ty:TypeId} {x:Operand} {pos:String} {aft:Array Edge} {gd:Option (Nat×Bool)} {ad:Addr} {v:Value} {w:World} (hx : ρ x = .pointer (some ad)) (h:(loadVar T ad).run P w = .ok v w) :
 (execOp ρ ⟨d,.load T x,ty,pos,aft,gd⟩).run P w = .ok (.value v) w:=by
 unfold execOp;simp only [hx,Instr.loadAt,Instr.sureAddr,Sem.run_bind,Sem.run_pure,Result.andThen_ok,h]
theorem Q73 {P:Program} {ρ:Operand->Value} {d:Option Nat} {ty:TypeId} {x:Operand} {pos:String} {aft:Array Edge} {gd:Option (Nat×Bool)} {v:Value} {w:World} (hx : ρ x=v):(execOp ρ ⟨d,.move x,ty,pos,aft,gd⟩).run P w = .ok (.value v) w:=by
 subst hx; rfl
theorem Qn9 {P:Program} {ρ:Operand->Value} {d:Option Nat} {ty:TypeId} {x:Operand} {pos:String} {aft:Array Edge} {gd:Option (Nat×Bool)} {v:Value} {w:World} (hx : ρ x=v):(execOp ρ ⟨d,.assign x,ty,pos,aft,gd⟩).run P w = .ok (.value v) w:=by
 subst hx; rfl
section
variable {P:Program} {ρ:Operand->Value} {d:Option Nat} {ty:TypeId} {pos:String} {aft:Array Edge} {gd:Option (Nat×Bool)} {v:Value} {w:World}
def Qbg (P:Program) (s f:Nat):Option Nat :=
 match P.underlying s with
 | some (.struct fs)=>match fs[f]? with
  | some fd=>match P.info? fd.type with
   | some i=>if i.size=0 then none else some fd.offset
   | none=>none
  | none=>none
 | _=>none
theorem Qbn (b o n:Nat):(⟨b,o,none⟩:Addr).add n=⟨b,o+n,none⟩:=by
 unfold Addr.add;split
 . rename_i h; subst h; rfl
 . rfl
theorem Z52 (b n:Nat):Value.pointer (some ⟨b,n,none⟩) = .pointer (some ⟨b,0+n*1,none⟩):=by rw [Nat.zero_add,Nat.mul_one]
theorem Z9y (b o n:Nat):Value.pointer (some ⟨b,o+n,none⟩) = .pointer (some ⟨b,o+n*1,none⟩):=by rw [Nat.mul_one]
theorem Qsa {T f k b o:Nat} {x:Operand} (hx : ρ x = .pointer (some ⟨b,o,none⟩)) (hf:Qbg P T f=some k) (hv:v = .pointer (some ⟨b,o+k,none⟩)):(execOp ρ ⟨d,.fieldAddr T x f,ty,pos,aft,gd⟩).run P w = .ok (.value v) w:=by
 subst hv;unfold Qbg at hf;split at hf
 . rename_i fs hfs;split at hf
   . rename_i fd hfd;split at hf
     . rename_i i hi;split at hf
       . cases hf
       . rename_i hsz;injection hf with hf;subst hf;unfold execOp;simp only [hx,Instr.fieldAt,underlying,Sem.run_bind,Sem.run_pure,Result.andThen_ok,hfs,run_program];simp only [hfd,Instr.sureAddr,fieldPlace,sizeOf,typeInfo,Sem.run_bind,Sem.run_pure,Result.andThen_ok,run_program,hi,hsz,if_false,Qbn]
     . cases hf
   . cases hf
 . cases hf
def Q9w (P:Program) (t:Nat):Option (Nat×Nat) :=
 match P.underlying t with
 | some (.slice e)=>(P.info? e).map fun i=>(e,i.size)
 | _=>none
theorem Qft {t e sz:Nat} (h:Q9w P t=some (e,sz)):P.underlying t=some (.slice e)/\∃ i,P.info? e=some i/\i.size=sz:=by
 unfold Q9w at h;split at h
 . rename_i e' he
   cases hi:P.info? e' with
   | none=>rw [hi] at h; cases h
   | some i=>rw [hi] at h; simp only [Option.map_some,Option.some.injEq,Prod.mk.injEq] at h; obtain⟨rfl,rfl⟩:=h; exact⟨he,i,hi,rfl⟩
 . cases h
theorem Qgy {t e sz k n c b o:Nat} {kk:IntKind} {x y:Operand} (hx : ρ x = .slice (some ⟨b,o,none⟩) n c) (hy : ρ y = .int kk (k:Int)) (he:Q9w P t=some (e,sz)) (hk:(k:Int)<(n:Int)) (hv:v = .pointer (some ⟨b,o+k*sz,none⟩)):(execOp ρ ⟨d,.indexAddr t x y,ty,pos,aft,gd⟩).run P w = .ok (.value v) w:=by
 subst hv;obtain⟨h1,i,h2,rfl⟩:=Qft he;have h3:0<=(k:Int)/\(k:Int)<(n:Int):=⟨by omega,hk⟩
 unfold execOp;simp only [hx,hy,Instr.indexAt,asIntOf,underlying,Sem.run_bind,Sem.run_pure,Result.andThen_ok,h1,run_program];simp only [h3,and_self,if_true,sizeOf,typeInfo,Sem.run_bind,Sem.run_pure,Result.andThen_ok,run_program,h2,Int.toNat_natCast,Qbn]
theorem Z7n {t n c:Nat} {e:TypeId} {A:Option Addr} {x:Operand} (hx : ρ x = .slice A n c) (ht:P.underlying t=some (.slice e)) (hv:v = .int .i64 (n:Int)):(execOp ρ ⟨d,.call { callee := .builtin .len,args := #[x],argTypes := #[t] },ty,pos,aft,gd⟩).run P w = .ok (.value v) w:=by
 subst hv;unfold execOp;simp only [resolve,invoke,builtin,Builtin.len_,List.map_toArray,List.map_cons,List.map_nil,hx,underlying,Sem.run_bind,Sem.run_pure,Result.andThen_ok];simp only [ht,List.getElem?_toArray,List.getElem?_cons_zero,Sem.run_bind,Sem.run_pure,Result.andThen_ok,run_program];rfl
theorem Qib {i:Nat} {x:Operand} {vs:Array Value} (hx : ρ x = .tuple vs) (hv:vs[i]? = some v):(execOp ρ ⟨d,.extract x i,ty,pos,aft,gd⟩).run P w = .ok (.value v) w:=by
 unfold execOp;simp only [hx,Instr.extract,hv,Sem.run_bind,Sem.run_pure,Result.andThen_ok]
theorem Qlr {b:Bool} {c x y:Operand} (hc : ρ c = .bool b) (hv:(if b then ρ x else ρ y)=v):(execOp ρ ⟨d,.pick c x y,ty,pos,aft,gd⟩).run P w = .ok (.value v) w:=by
 unfold execOp;simp only [hc,asBool,Sem.run_bind,Sem.run_pure,Result.andThen_ok,hv]
theorem Qkx {b:Bool} {t:TypeId} {x:Operand} (hx : ρ x = .bool b) (hv:v = .bool (!b)):(execOp ρ ⟨d,.unOp .not t x,ty,pos,aft,gd⟩).run P w = .ok (.value v) w:=by
 subst hv;unfold execOp;simp only [hx,Op.unary,Sem.run_bind,Sem.run_pure,Result.andThen_ok]
theorem Qe3 {k:IntKind} {m n z:Int} {t t':TypeId} {x y:Operand} (hx : ρ x = .int k m) (hy : ρ y = .int k n) (hz:k.wrap (m+n)=z) (hv:v = .int k z):(execOp ρ ⟨d,.binOp .add t x y t',ty,pos,aft,gd⟩).run P w = .ok (.value v) w:=by
 subst hv hz;unfold execOp;simp only [hx,hy,eqGuard,binOp,Op.intArith,ne_eq,not_true_eq_false,if_false,Sem.run_bind,Sem.run_pure];rfl
theorem Qj4 {k:IntKind} {m n z:Int} {t t':TypeId} {x y:Operand} (hx : ρ x = .int k m) (hy : ρ y = .int k n) (hz:k.wrap (m - n)=z) (hv:v = .int k z):(execOp ρ ⟨d,.binOp .sub t x y t',ty,pos,aft,gd⟩).run P w = .ok (.value v) w:=by
 subst hv hz;unfold execOp;simp only [hx,hy,eqGuard,binOp,Op.intArith,ne_eq,not_true_eq_false,if_false,Sem.run_bind,Sem.run_pure];rfl
theorem Qcd {k:IntKind} {m n z:Int} {t t':TypeId} {x y:Operand} (hx : ρ x = .int k m) (hy : ρ y = .int k n) (hz:k.wrap (m*n)=z) (hv:v = .int k z):(execOp ρ ⟨d,.binOp .mul t x y t',ty,pos,aft,gd⟩).run P w = .ok (.value v) w:=by
 subst hv hz;unfold execOp;simp only [hx,hy,eqGuard,binOp,Op.intArith,ne_eq,not_true_eq_false,if_false,Sem.run_bind,Sem.run_pure];rfl
def Z8g (op:BinOp) (m n:Int):Option Bool :=
 match op with
 | .eql=>some (m==n)
 | .neq=>some (m != n)
 | .lss=>some (decide (m<n))
 | .leq=>some (decide (m<=n))
 | .gtr=>some (decide (m>n))
 | .geq=>some (decide (m≥n))
 | _=>none
theorem Q7s {op:BinOp} {k:IntKind} {m n:Int} {b:Bool} {t t':TypeId} {x y:Operand} (hx : ρ x = .int k m) (hy : ρ y = .int k n) (hb:Z8g op m n=some b) (hv:v = .bool b):(execOp ρ ⟨d,.binOp op t x y t',ty,pos,aft,gd⟩).run P w = .ok (.value v) w:=by
 subst hv;cases op<;>simp only [Z8g] at hb<;>cases hb
 all_goals
  unfold execOp;simp only [hx,hy,eqGuard,binOp,Op.intCmp,ne_eq,not_true_eq_false,if_false,Sem.run_bind,Sem.run_pure];rfl
end
end Go.Proofs.YtffeegebohigdaaGreat
