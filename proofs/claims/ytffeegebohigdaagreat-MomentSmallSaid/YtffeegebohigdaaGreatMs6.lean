/-
  Values of the abstract run: what a slot holds, as a tree of thunks over plain data, and when a Go value is as such a tree says.
-/
import Derived.Test.YtffeegebohigdaaGreatMs5
set_option linter.unusedVariables false
set_option linter.unusedSimpArgs false
namespace Go.Proofs.YtffeegebohigdaaGreat
open Go.RowKit
inductive AV where
 | un
 | int (k:IntKind) (n:Unit->Int)
 | lit (k:IntKind) (n:Int)
 | bool (b:Unit->Bool)
 | blit (b:Bool)
 | str (s:Unit->ByteArray)
 | nil
 | sl (fr:Bool) (t:Tc) (l:Unit->List t.el)
 | wide (fr:Bool) (t:Tc) (l:Unit->List t.el) (n:Unit->Nat)
 | pto (cells:List AV) (off:Nat)
 | ptr (loc off:Nat)
 | own (loc:Nat)
 | orp (t:Tc) (loc:Nat) (k:Unit->Int) (off:Nat)
 | osl (t:Tc) (loc:Nat) (a b:Unit->Nat)
 | mp (loc:Nat)
 | stamp (loc:Nat)
 | it (loc l2:Nat)
 | agg (cells:List AV)
 | tup (l:List AV)
 | fn (f:FuncId) (caps:List AV)
inductive Rl where
 | box (b:Nat)
 | row (A:Option Addr) (n c:Nat)
 | mp (b:Nat)
 | stamp (s:Nat)
 | it (b:Nat)
def Rl.blk:Rl->Option Nat
 | .box b=>some b
 | .row A _ _=>A.map (·.block)
 | .mp b=>some b
 | .stamp _=>none
 | .it b=>some b
def Rl.solid:Rl->Bool
 | .row _ _ _=>false
 | _=>true
-- CELLS
def Q8 (fr:Bool):(t:Tc)->(Unit->t.el)->List AV
 | .int,x => [.int .i64 x]
 | .u8,x => [.int .u8 x]
 | .u32,x => [.int .u32 x]
 | .box,x => [.int .i64 (fun _=>(x ()).id),.str (fun _=>(x ()).num),.int .u8 (fun _=>(x ()).size),.bool (fun _=>(x ()).high),.int .i64 (fun _=>(x ()).kilos),.int .i64 (fun _=>(x ()).load),.int .i64 (fun _=>(x ()).dis),.int .u8 (fun _=>(x ()).cls),.bool (fun _=>(x ()).reefer)]
 | .stowed,x => [.int .i64 (fun _=>(x ()).box),.int .i64 (fun _=>(x ()).col),.int .i64 (fun _=>(x ()).tier),.int .u8 (fun _=>(x ()).half)]
 | .slot,x => [.int .i64 (fun _=>(x ()).col),.int .i64 (fun _=>(x ()).tier),.int .u8 (fun _=>(x ()).half)]
 | .ld,x => [.int .i64 (fun _=>(x ()).kilos),.int .i64 (fun _=>(x ()).x),.int .i64 (fun _=>(x ()).y),.int .i64 (fun _=>(x ()).z)]
 | .spn,x => [.int .i64 (fun _=>(x ()).n),.int .i64 (fun _=>(x ()).low),.int .i64 (fun _=>(x ()).high)]
 | .col,x => [.int .i64 (fun _=>(x ()).bay),.int .i64 (fun _=>(x ()).row),.bool (fun _=>(x ()).deck),.int .i64 (fun _=>(x ()).tiers),.int .i64 (fun _=>(x ()).height),.int .i64 (fun _=>(x ()).k20),.int .i64 (fun _=>(x ()).k40),.int .i64 (fun _=>(x ()).lash),.sl fr .int (fun _=>(x ()).plugs),.int .i64 (fun _=>(x ()).x),.int .i64 (fun _=>(x ()).y),.int .i64 (fun _=>(x ()).z)]
 | .cov,x => [.int .i64 (fun _=>(x ()).bay),.sl fr .int (fun _=>(x ()).rows)]
 | .mid,x => [.int .i64 (fun _=>(x ()).box.id),.str (fun _=>(x ()).box.num),.int .u8 (fun _=>(x ()).box.size),.bool (fun _=>(x ()).box.high),.int .i64 (fun _=>(x ()).box.kilos),.int .i64 (fun _=>(x ()).box.load),.int .i64 (fun _=>(x ()).box.dis),.int .u8 (fun _=>(x ()).box.cls),.bool (fun _=>(x ()).box.reefer),.int .i64 (fun _=>(x ()).x),.int .i64 (fun _=>(x ()).y),.int .i64 (fun _=>(x ()).h)]
 | .hrow,x => [.int .i64 (fun _=>(x ()).draught),.int .i64 (fun _=>(x ()).kilos),.int .i64 (fun _=>(x ()).buoy),.int .i64 (fun _=>(x ()).mc),.int .i64 (fun _=>(x ()).turn)]
 | .frm,x => [.int .i64 (fun _=>(x ()).x),.int .i64 (fun _=>(x ()).light),.int .i64 (fun _=>(x ()).share),.int .i64 (fun _=>(x ()).shear),.int .i64 (fun _=>(x ()).bend)]
 | .tnk,x => [.int .i64 (fun _=>(x ()).kilos),.int .i64 (fun _=>(x ()).x),.int .i64 (fun _=>(x ()).y),.int .i64 (fun _=>(x ()).z),.int .i64 (fun _=>(x ()).surface),.sl fr .int (fun _=>(x ()).steps)]
 | .colq,x => [.int .i64 (fun _=>(x ()).bay),.int .i64 (fun _=>(x ()).row),.bool (fun _=>(x ()).deck),.int .i64 (fun _=>(x ()).tiers),.int .i64 (fun _=>(x ()).height),.int .i64 (fun _=>(x ()).k20),.int .i64 (fun _=>(x ()).k40),.int .i64 (fun _=>(x ()).lash),.wide fr .int (fun _=>(x ()).plugs) (fun _=>(x ()).plugsN),.int .i64 (fun _=>(x ()).x),.int .i64 (fun _=>(x ()).y),.int .i64 (fun _=>(x ()).z)]
 | .covq,x => [.int .i64 (fun _=>(x ()).bay),.wide fr .int (fun _=>(x ()).rows) (fun _=>(x ()).rowsN)]
 | .tnkq,x => [.int .i64 (fun _=>(x ()).kilos),.int .i64 (fun _=>(x ()).x),.int .i64 (fun _=>(x ()).y),.int .i64 (fun _=>(x ()).z),.int .i64 (fun _=>(x ()).surface),.wide fr .int (fun _=>(x ()).steps) (fun _=>(x ()).stepsN)]
 | .plc,x => [.int .u8 (fun _=>(x ()).bay),.int .u8 (fun _=>(x ()).row),.int .u8 (fun _=>(x ()).tiers),.bool (fun _=>(x ()).deck)]
 | .drp,x => [.int .u8 (fun _=>(x ()).col),.int .u8 (fun _=>(x ()).kilos),.bool (fun _=>(x ()).small),.bool (fun _=>(x ()).high)]
 | .wgt,x => [.int .u16 (fun _=>(x ()).kilos),.int .i16 (fun _=>(x ()).x),.int .i16 (fun _=>(x ()).y),.int .i16 (fun _=>(x ()).z)]
theorem Q8v (fr:Bool) (t:Tc) (x:Unit->t.el):(Q8 fr t x).length=t.size:=by cases t<;>rfl
def cvT:(t t2:Tc)->Option (t.el->t2.el)
 | .colq,.col=>some fun x=>⟨x.bay,x.row,x.deck,x.tiers,x.height,x.k20,x.k40,x.lash,x.plugs.take x.plugsN,x.x,x.y,x.z⟩
 | .covq,.cov=>some fun x=>⟨x.bay,x.rows.take x.rowsN⟩
 | .tnkq,.tnk=>some fun x=>⟨x.kilos,x.x,x.y,x.z,x.surface,x.steps.take x.stepsN⟩
 | _,_=>none
-- END CELLS
def Yh (ag fr:Bool) (t:Tc) (x:Unit->t.el):AV:=if ag then .agg (Q8 fr t x) else match Q8 fr t x with
 | [c]=>c
 | _ => .un
inductive AVR (w:World) (ρ:Nat->Option Rl) (base:Nat) (ro:Nat->Prop):AV->Value->Prop
 | un (v):AVR w ρ base ro .un v
 | int (k n):AVR w ρ base ro (.int k n) (.int k (n ()))
 | lit (k n):AVR w ρ base ro (.lit k n) (.int k n)
 | bool (b):AVR w ρ base ro (.bool b) (.bool (b ()))
 | blit (b):AVR w ρ base ro (.blit b) (.bool b)
 | str (s):AVR w ρ base ro (.str s) (.string (s ()))
 | nil:AVR w ρ base ro .nil (.slice none 0 0)
 | sl (fr t l A c) (css:List (List Value)) (hl:css.length=(l ()).length) (hc:css.length<=c) (hr:Rd w w.heap.size t.size A css) (hro:∀ a,A=some a->css ≠ []->ro a.block) (hfr:fr=true->∀ a,A=some a->css ≠ []->base<=a.block)
  (h:∀ (k:Nat) (cs:List Value) (j:Nat) (x:AV) (v:Value),css[k]? = some cs->(Q8 fr t fun _=>(l ()).getD k t.dflt)[j]? = some x->cs[j]? = some v->AVR w ρ base ro x v):AVR w ρ base ro (.sl fr t l) (.slice A (l ()).length c)
 | wide (fr t l n A c) (hn:n ()<=(l ()).length) (h:AVR w ρ base ro (.sl fr t l) (.slice A (l ()).length c)):AVR w ρ base ro (.wide fr t l n) (.slice A (n ()) c)
 | pto (cells:List AV) (off b o) (cs:List Value) (hro:ro b) (hlt:b<w.heap.size) (hl:cells.length=cs.length) (hc:∀ (j:Nat) u,cs[j]? = some u->w.cell? ⟨b,o+j,none⟩=some u) (h:∀ (j:Nat) x v,cells[j]? = some x->cs[j]? = some v->AVR w ρ base ro x v):AVR w ρ base ro (.pto cells off) (.pointer (some ⟨b,o+off,none⟩))
 | ptr (loc off b) (h : ρ loc=some (.box b)):AVR w ρ base ro (.ptr loc off) (.pointer (some ⟨b,off,none⟩))
 | own (loc A n c) (h : ρ loc=some (.row A n c)):AVR w ρ base ro (.own loc) (.slice A n c)
 | orp (t loc k off A) (n:Nat) (c b) (h : ρ loc=some (.row A n c)) (hA:A=some ⟨b,0,none⟩) (h0:0<=k ()) (hn:k ()<(n:Int)):AVR w ρ base ro (.orp t loc k off) (.pointer (some ⟨b,(k ()).toNat*t.size+off,none⟩))
 | osl (t loc a b A) (n c:Nat) (h : ρ loc=some (.row A n c)) (hab:a ()<=b ()/\b ()<=n):AVR w ρ base ro (.osl t loc a b) (sliced A (a ()) (b ()) c t.size)
 | mp (loc b) (h : ρ loc=some (.mp b)):AVR w ρ base ro (.mp loc) (.map (some b))
 | stamp (loc s) (h : ρ loc=some (.stamp s)):AVR w ρ base ro (.stamp loc) (goInt s)
 | it (loc l2 b) (h : ρ l2=some (.it b)):AVR w ρ base ro (.it loc l2) (.pointer (some ⟨b,0,none⟩))
 | agg (l:List AV) (vs:List Value) (hl:l.length=vs.length) (h:∀ (j:Nat) x v,l[j]? = some x->vs[j]? = some v->AVR w ρ base ro x v):AVR w ρ base ro (.agg l) (.agg vs.toArray)
 | tup (l:List AV) (vs:List Value) (hl:l.length=vs.length) (h:∀ (j:Nat) x v,l[j]? = some x->vs[j]? = some v->AVR w ρ base ro x v):AVR w ρ base ro (.tup l) (.tuple vs.toArray)
 | fn (f) (caps:List AV) (vs:List Value) (hl:caps.length=vs.length) (h:∀ (j:Nat) x v,caps[j]? = some x->vs[j]? = some v->AVR w ρ base ro x v):AVR w ρ base ro (.fn f caps) (.func (.func f) #[] vs.toArray)
def Qj (w:World) (ρ:Nat->Option Rl) (base:Nat) (ro:Nat->Prop) (l:List AV) (vs:List Value):Prop:=l.length=vs.length/\∀ (j:Nat) x v,l[j]? = some x->vs[j]? = some v->AVR w ρ base ro x v
section
variable {w w':World} {ρ ρ':Nat->Option Rl} {base base':Nat} {ro ro':Nat->Prop}
theorem Qj.nil:Qj w ρ base ro [] []:=⟨rfl,fun j x v h=>by simp at h⟩
theorem Qj.cons {x:AV} {v:Value} {l:List AV} {vs:List Value} (h:AVR w ρ base ro x v) (hs:Qj w ρ base ro l vs):Qj w ρ base ro (x::l) (v::vs):=by
 refine⟨by simp [hs.1],fun j y u hy hu => ?_⟩
 cases j with
 | zero =>
  simp only [List.getElem?_cons_zero,Option.some.injEq] at hy hu;subst hy; subst hu;exact h
 | succ j=>exact hs.2 j y u (by simpa using hy) (by simpa using hu)
theorem Qj.head {x:AV} {l:List AV} {vs:List Value} (h:Qj w ρ base ro (x::l) vs):∃ v us,vs=v::us/\AVR w ρ base ro x v/\Qj w ρ base ro l us:=by
 cases vs with
 | nil=>exact absurd h.1 (by simp)
 | cons v us=>exact⟨v,us,rfl,h.2 0 x v rfl rfl,by simpa using h.1,fun j y u hy hu=>h.2 (j+1) y u (by simpa using hy) (by simpa using hu)⟩
theorem Qj.none {vs:List Value} (h:Qj w ρ base ro [] vs):vs = []:=by
 cases vs with
 | nil=>rfl
 | cons v us=>exact absurd h.1 (by simp)
theorem Qj.get {l:List AV} {vs:List Value} (h:Qj w ρ base ro l vs) {j:Nat} {x:AV} (hx:l[j]? = some x):∃ v,vs[j]? = some v/\AVR w ρ base ro x v:=by
 have hj:=(List.getElem?_eq_some_iff.1 hx).1;exact⟨vs[j]'(by rw [<- h.1]; exact hj),List.getElem?_eq_getElem _,h.2 j x _ hx (List.getElem?_eq_getElem _)⟩
def Ext (ρ ρ':Nat->Option Rl):Prop:=∀ loc r,ρ loc=some r -> ρ' loc=some r
theorem Ext.refl (ρ:Nat->Option Rl):Ext ρ ρ:=fun _ _ h=>h
theorem AVR.mono {x:AV} {v:Value} (h:AVR w ρ base ro x v) (hw:∀ b,ro b->b<w.heap.size->w'.heap[b]? = w.heap[b]?) (hρ:Ext ρ ρ') (hb:base'<=base) (hro:∀ b,ro b->ro' b):AVR w' ρ' base' ro' x v:=by
 induction h with
 | un=>exact .un _
 | int=>exact .int _ _
 | lit=>exact .lit _ _
 | bool=>exact .bool _
 | blit=>exact .blit _
 | str=>exact .str _
 | nil=>exact .nil
 | sl fr t l A c css hl hc hr hro1 hfr h ih =>
  refine .sl fr t l A c css hl hc ?_ (fun a ha hn=>hro _ (hro1 a ha hn)) (fun hf a ha hn=>Nat.le_trans hb (hfr hf a ha hn)) ih;by_cases hn:css = []
  . subst hn;exact Rd.nil _ _ _ _
  . exact Rd.keep hr fun a ha=>hw _ (hro1 a ha hn) (Rd.bound hr hn a ha)
 | wide fr t l n A c hn h ih=>exact .wide fr t l n A c hn ih
 | pto cells off b o cs hr hlt hl hc h ih =>
  have hsame:=hw b hr hlt;refine .pto cells off b o cs (hro _ hr) ?_ hl (fun j u hu => ?_) ih
  . rcases Nat.lt_or_ge b w'.heap.size with h2|h2
    . exact h2
    . rw [Array.getElem?_eq_none h2,Array.getElem?_eq_getElem hlt] at hsame;cases hsame
  . rw [Qdi hsame];exact hc j u hu
 | ptr loc off b h=>exact .ptr _ _ _ (hρ _ _ h)
 | own loc A n c h=>exact .own _ _ _ _ (hρ _ _ h)
 | orp t loc k off A n c b h hA h0 hn=>exact .orp _ _ _ _ _ _ _ _ (hρ _ _ h) hA h0 hn
 | osl t loc a b A n c h hab=>exact .osl _ _ _ _ _ _ _ (hρ _ _ h) hab
 | mp loc b h=>exact .mp _ _ (hρ _ _ h)
 | stamp loc s h=>exact .stamp _ _ (hρ _ _ h)
 | it loc l2 b h=>exact .it _ _ _ (hρ _ _ h)
 | agg l vs hl h ih=>exact .agg _ _ hl ih
 | tup l vs hl h ih=>exact .tup _ _ hl ih
 | fn f caps vs hl h ih=>exact .fn _ _ _ hl ih
theorem Qj.mono {l:List AV} {vs:List Value} (h:Qj w ρ base ro l vs) (hw:∀ b,ro b->b<w.heap.size->w'.heap[b]? = w.heap[b]?) (hρ:Ext ρ ρ') (hb:base'<=base) (hro:∀ b,ro b->ro' b):Qj w' ρ' base' ro' l vs :=
 ⟨h.1,fun j x v hx hv=>(h.2 j x v hx hv).mono hw hρ hb hro⟩
/- what a tree names -/
mutual
def AV.has (loc:Nat):AV->Bool
 | .own l=>l==loc
 | .orp _ l _ _=>l==loc
 | .osl _ l _ _=>l==loc
 | .pto cs _=>AV.hasL loc cs
 | .agg cs=>AV.hasL loc cs
 | .tup cs=>AV.hasL loc cs
 | .fn _ cs=>AV.hasL loc cs
 | _=>false
def AV.hasL (loc:Nat):List AV->Bool
 | []=>false
 | x::l=>AV.has loc x||AV.hasL loc l
end
/- no place of the run's own,and what is in it is new if 'fresh' is asked -/
mutual
def AV.plain (fresh:Bool):AV->Bool
 | .own _=>false
 | .orp _ _ _ _=>false
 | .osl _ _ _ _=>false
 | .ptr _ _=>false
 | .mp _=>false
 | .stamp _=>false
 | .it _ _=>false
 | .pto cs _ => !fresh&&AV.plainL fresh cs
 | .agg cs=>AV.plainL fresh cs
 | .tup cs=>AV.plainL fresh cs
 | .fn _ cs=>AV.plainL fresh cs
 | .sl fr _ _=>fr || !fresh
 | .wide fr _ _ _=>fr || !fresh
 | _=>true
def AV.plainL (fresh:Bool):List AV->Bool
 | []=>true
 | x::l=>AV.plain fresh x&&AV.plainL fresh l
end
theorem Yv {loc:Nat}:∀ {l:List AV} {j:Nat} {x:AV},AV.hasL loc l=false->l[j]? = some x->AV.has loc x=false
 | y::l,0,x,h,hx=>by
  simp only [List.getElem?_cons_zero,Option.some.injEq] at hx;subst hx;simp only [AV.hasL,Bool.or_eq_false_iff] at h;exact h.1
 | y::l,j+1,x,h,hx=>by
  simp only [AV.hasL,Bool.or_eq_false_iff] at h;exact Yv h.2 (by simpa using hx)
 | [],j,x,_,hx=>by simp at hx
theorem Gj {fresh:Bool}:∀ {l:List AV} {j:Nat} {x:AV},AV.plainL fresh l=true->l[j]? = some x->AV.plain fresh x=true
 | y::l,0,x,h,hx=>by
  simp only [List.getElem?_cons_zero,Option.some.injEq] at hx;subst hx;simp only [AV.plainL,Bool.and_eq_true] at h;exact h.1
 | y::l,j+1,x,h,hx=>by
  simp only [AV.plainL,Bool.and_eq_true] at h;exact Gj h.2 (by simpa using hx)
 | [],j,x,_,hx=>by simp at hx
theorem Vy (fr:Bool) (t:Tc) (x:Unit->t.el) (loc:Nat):AV.hasL loc (Q8 fr t x)=false:=by cases t<;>rfl
theorem Qpe (t:Tc) (x:Unit->t.el) (fresh:Bool):AV.plainL fresh (Q8 true t x)=true:=by cases t<;>cases fresh<;>rfl
theorem Ju (fr:Bool) (t:Tc) (x:Unit->t.el):AV.plainL false (Q8 fr t x)=true:=by cases t<;>cases fr<;>rfl
theorem AVR.move {x:AV} {v:Value} {loc:Nat} (h:AVR w ρ base ro x v) (hx:AV.has loc x=false) (hρ:∀ l r,ρ l=some r->(l≠loc\/r.solid=true) -> ρ' l=some r):AVR w ρ' base ro x v:=by
 induction h with
 | un=>exact .un _
 | int=>exact .int _ _
 | lit=>exact .lit _ _
 | bool=>exact .bool _
 | blit=>exact .blit _
 | str=>exact .str _
 | nil=>exact .nil
 | sl fr t l A c css hl hc hr hro1 hfr h ih =>
  exact .sl fr t l A c css hl hc hr hro1 hfr fun k cs j y v h1 h2 h3=>ih k cs j y v h1 h2 h3 (Yv (Vy _ _ _ _) h2)
 | wide fr t l n A c hn h ih=>exact .wide fr t l n A c hn (ih rfl)
 | pto cells off b o cs hr hlt hl hc h ih =>
  exact .pto cells off b o cs hr hlt hl hc fun j y v h1 h2=>ih j y v h1 h2 (Yv (by simpa only [AV.has] using hx) h1)
 | ptr l off b h=>exact .ptr _ _ _ (hρ _ _ h (.inr rfl))
 | mp l b h=>exact .mp _ _ (hρ _ _ h (.inr rfl))
 | stamp l s h=>exact .stamp _ _ (hρ _ _ h (.inr rfl))
 | it l l2 b h=>exact .it _ _ _ (hρ _ _ h (.inr rfl))
 | own l A n c h =>
  have h1:l≠loc:=by simpa [AV.has] using hx
  exact .own _ _ _ _ (hρ _ _ h (.inl h1))
 | orp t l k off A n c b h hA h0 hn =>
  have h1:l≠loc:=by simpa [AV.has] using hx
  exact .orp _ _ _ _ _ _ _ _ (hρ _ _ h (.inl h1)) hA h0 hn
 | osl t l a b A n c h hab =>
  have h1:l≠loc:=by simpa [AV.has] using hx
  exact .osl _ _ _ _ _ _ _ (hρ _ _ h (.inl h1)) hab
 | agg l vs hl h ih=>exact .agg _ _ hl fun j y v h1 h2=>ih j y v h1 h2 (Yv (by simpa only [AV.has] using hx) h1)
 | tup l vs hl h ih=>exact .tup _ _ hl fun j y v h1 h2=>ih j y v h1 h2 (Yv (by simpa only [AV.has] using hx) h1)
 | fn f caps vs hl h ih=>exact .fn _ _ _ hl fun j y v h1 h2=>ih j y v h1 h2 (Yv (by simpa only [AV.has] using hx) h1)
theorem AVR.plain {x:AV} {v:Value} {fresh:Bool} (h:AVR w ρ base ro x v) (hx:AV.plain fresh x=true) (hro:∀ b,(fresh=true->base<=b)->ro b->ro' b):AVR w ρ' base ro' x v:=by
 induction h with
 | un=>exact .un _
 | int=>exact .int _ _
 | lit=>exact .lit _ _
 | bool=>exact .bool _
 | blit=>exact .blit _
 | str=>exact .str _
 | nil=>exact .nil
 | sl fr t l A c css hl hc hr hro1 hfr h ih =>
  have hff:fresh=true->fr=true:=by
   intro hf;simpa [AV.plain,hf] using hx
  refine .sl fr t l A c css hl hc hr (fun a ha hn=>hro _ (fun hf=>hfr (hff hf) a ha hn) (hro1 a ha hn)) hfr fun k cs j y v h1 h2 h3=>ih k cs j y v h1 h2 h3 (Gj ?_ h2)
  cases fresh with
  | true=>rw [hff rfl]; exact Qpe _ _ _
  | false=>exact Ju _ _ _
 | wide fr t l n A c hn h ih=>exact .wide fr t l n A c hn (ih (by simpa only [AV.plain] using hx))
 | pto cells off b o cs hr hlt hl hc h ih =>
  simp only [AV.plain,Bool.and_eq_true,Bool.not_eq_true'] at hx;exact .pto cells off b o cs (hro _ (by rw [hx.1]; simp) hr) hlt hl hc fun j y v h1 h2=>ih j y v h1 h2 (Gj hx.2 h1)
 | ptr l off b h=>simp [AV.plain] at hx
 | own l A n c h=>simp [AV.plain] at hx
 | orp t l k off A n c b h hA h0 hn=>simp [AV.plain] at hx
 | osl t l a b A n c h hab=>simp [AV.plain] at hx
 | mp l b h=>simp [AV.plain] at hx
 | stamp l s h=>simp [AV.plain] at hx
 | it l l2 b h=>simp [AV.plain] at hx
 | agg l vs hl h ih=>exact .agg _ _ hl fun j y v h1 h2=>ih j y v h1 h2 (Gj (by simpa only [AV.plain] using hx) h1)
 | tup l vs hl h ih=>exact .tup _ _ hl fun j y v h1 h2=>ih j y v h1 h2 (Gj (by simpa only [AV.plain] using hx) h1)
 | fn f caps vs hl h ih=>exact .fn _ _ _ hl fun j y v h1 h2=>ih j y v h1 h2 (Gj (by simpa only [AV.plain] using hx) h1)
end
end Go.Proofs.YtffeegebohigdaaGreat
namespace Go.Proofs.YtffeegebohigdaaGreat
open Go.MapKept
def Kf (P:Program) (T:TypeId):Bool:=match P.underlying T with
 | some (.struct _)=>true
 | some (.array _ _)=>true
 | _=>false
def flV (a:Bool) (xs:List Kx):Value:=match a,xs with
 | false,[x]=>x.val
 | _,xs => .agg (xs.map Kx.val).toArray
def Qxj (P:Program) (g:TypeId->List Lk->Bool):List Field->Nat->List Lk->Bool
 | [],_,ls=>ls.isEmpty
 | f :: fs, o, ls => f.offset == o && f.name != "_" && (P.underlying f.type).isSome && match P.info? f.type with
  | some i=>(decide (i.size<=ls.length)&&decide (0<i.size))&&(Kf P f.type||i.size==1)&&g f.type (ls.take i.size)&&Qxj P g fs (o+i.size) (ls.drop i.size)
  | none=>false
def Qyr (g:List Lk->Bool) (s:Nat):Nat->List Lk->Bool
 | 0,ls=>ls.isEmpty
 | n+1,ls=>(decide (s<=ls.length)&&decide (0<s))&&g (ls.take s)&&Qyr g s n (ls.drop s)
def flB (P:Program):Nat->TypeId->List Lk->Bool
 | 0,_,_=>false
 | k+1,T,ls=>match P.underlying T with
  | some (.struct fs) => !P.stoodInHeld T&&Qxj P (flB P k) fs.toList 0 ls
  | some (.array n e)=>(P.underlying e).isSome&&match P.info? e with
   | some i=>P.cellsOf e==i.size&&(Kf P e||i.size==1)&&Qyr (flB P k e) i.size n ls
   | none=>false
  | some _=>(match ls with
   | [l]=>Q3c P T l
   | _=>false)
  | none=>false
section
variable {P:Program} {w:World}
theorem Q5p:∀ {ls:List Lk} {xs:List Kx},Zd ls xs=true->xs.length=ls.length
 | [],xs,h=>by rw [Zs h]; rfl
 | l::ls,xs,h=>by
  obtain⟨x,r,rfl,_,hr⟩:=Zn h;simp [Q5p hr]
theorem Q3u:∀ {ls:List Lk} {xs:List Kx} (n:Nat),Zd ls xs=true->Zd (ls.take n) (xs.take n)=true/\Zd (ls.drop n) (xs.drop n)=true
 | [],xs,n,h=>by rw [Zs h]; simp [Zd]
 | l::ls,xs,0,h=>by simp only [List.take_zero,List.drop_zero]; exact⟨rfl,h⟩
 | l::ls,xs,n+1,h=>by
  obtain⟨x,r,rfl,hx,hr⟩:=Zn h;simp only [List.take_succ_cons,List.drop_succ_cons];obtain⟨h1,h2⟩:=Q3u n hr;exact⟨by simp only [Zd,hx,h1,Bool.and_self],h2⟩
theorem Z9e {T o s:Nat} {vs:List Value} (ha:∃ j,P.info? T=some j/\j.size=s) (hd:∃ ds,P.underlying T=some ds) (hlen:Kf P T=true->o+s<=vs.length) {v:Value} (hv:Kf P T=false->vs[o]? = some v) (hv2:Kf P T=true->v = .agg ((vs.drop o).take s).toArray):(part T vs.toArray o).run P w = .ok v w:=by
 obtain⟨j,hj,rfl⟩:=ha;obtain⟨ds,hd⟩:=hd;unfold part;have h1:(isAgg T).run P w = .ok (Kf P T) w:=by
  unfold isAgg Kf;simp only [underlying,Sem.run_bind,Sem.run_pure,Result.andThen_ok,run_program,hd];cases ds<;>rfl
 simp only [Sem.run_bind,h1,Result.andThen_ok]
 cases hb:Kf P T with
 | true =>
  have:=hlen hb;rw [hv2 hb];simp only [if_true,sizeOf,typeInfo,Sem.run_bind,Sem.run_pure,Result.andThen_ok,run_program,hj];congr 2;apply Array.ext';simp [List.extract_eq_take_drop,Nat.add_sub_cancel_left]
 | false =>
  simp only [Bool.false_eq_true,if_false,List.getElem?_toArray,hv hb,Sem.run_pure]
theorem Qeq {T o s:Nat} {a:List Kx} {i:TypeInfo} (hi:P.info? T=some i) (hs:i.size=s) (hd:(P.underlying T).isSome=true) (h1:(Kf P T||s==1)=true) (hl:o+s<=a.length):(part T (a.map Kx.val).toArray o).run P w = .ok (flV (Kf P T) ((a.drop o).take s)) w:=by
 refine Z9e ⟨i,hi,hs⟩ (Option.isSome_iff_exists.1 hd) (fun _=>by simpa using hl) (fun hb => ?_) fun hb => ?_
 . rw [hb,Bool.false_or,beq_iff_eq] at h1;subst h1;have h2:(a.drop o).take 1 = [a[o]]:=by
    rw [List.drop_eq_getElem_cons (by omega)];rfl
   rw [h2,hb];show (a.map Kx.val)[o]? = some a[o].val
   rw [List.getElem?_map,List.getElem?_eq_getElem (by omega)];rfl
 . rw [hb];unfold flV;simp [List.map_drop,List.map_take]
def Qtb (P:Program) (d:Nat) (a:Bool) (T:TypeId) (ls:List Lk):Prop:=∀ (w:World) (xs ys:List Kx),Zd ls xs=true->Zd ls ys=true->(Op.equalIn d T (flV a xs) (flV a ys)).run P w = .ok (decide (xs=ys)) w
theorem Qvi {α:Type} [DecidableEq α] (a b:List α) (s:Nat):decide (a=b)=(decide (a.take s=b.take s)&&decide (a.drop s=b.drop s)):=by
 rw [Bool.eq_iff_iff];simp only [Bool.and_eq_true,decide_eq_true_eq];constructor
 . rintro rfl; exact⟨rfl,rfl⟩
 . rintro⟨h1,h2⟩
   rw [<- List.take_append_drop s a,h1,h2,List.take_append_drop]
theorem Qoh {g:TypeId->List Lk->Bool} {d:Nat} (hg:∀ T ls,g T ls=true->Qtb P d (Kf P T) T ls) (a b:List Kx):∀ (fs:List Field) (o:Nat) (ls:List Lk),Qxj P g fs o ls=true->Zd ls (a.drop o)=true->Zd ls (b.drop o)=true ->
 (Op.eqFields d (a.map Kx.val).toArray (b.map Kx.val).toArray fs).run P w = .ok (decide (a.drop o=b.drop o)) w
 | [],o,ls,h,ha,hb=>by
  have hl:ls = []:=List.isEmpty_iff.1 h;subst hl;rw [Zs ha,Zs hb];simp [Op.eqFields]
 | f::fs,o,ls,h,ha,hb=>by
  simp only [Qxj,Bool.and_eq_true,beq_iff_eq,bne_iff_ne,ne_eq] at h;obtain⟨⟨⟨h1,h2⟩,hund⟩,h3⟩:=h
  cases hi:P.info? f.type with
  | none=>rw [hi] at h3; cases h3
  | some i =>
   rw [hi] at h3;simp only [Bool.and_eq_true,decide_eq_true_eq] at h3;obtain⟨⟨⟨⟨hs,h0⟩,h1s⟩,hg1⟩,hrest⟩:=h3;have la:=Q5p ha;have lb:=Q5p hb;rw [List.length_drop] at la lb;obtain⟨ta,da⟩:=Q3u i.size ha;obtain⟨tb,db⟩:=Q3u i.size hb;rw [List.drop_drop] at da db;have p1:=Qeq (w:=w) hi rfl hund h1s (o:=o) (a:=a) (by omega);have p2:=Qeq (w:=w) hi rfl hund h1s (o:=o) (a:=b) (by omega);have ih:=Qoh hg a b fs (o+i.size) _ hrest da db;have he:=hg _ _ hg1 w _ _ ta tb;simp only [Op.eqFields,h2,ne_eq,not_false_eq_true,if_true,Sem.run_bind,h1,p1,p2,Result.andThen_ok,he];rw [Qvi (a.drop o) (b.drop o) i.size,List.drop_drop,List.drop_drop]
   cases hd:decide ((a.drop o).take i.size=(b.drop o).take i.size) with
   | true=>simp only [Bool.not_true,Bool.false_eq_true,if_false,ih,Bool.true_and]
   | false=>simp
theorem Qsc {g:List Lk->Bool} {d s:Nat} {e:TypeId} {i:TypeInfo} (hi:P.info? e=some i) (hs:i.size=s) (hd:(P.underlying e).isSome=true) (h1s:(Kf P e||s==1)=true) (hg:∀ ls,g ls=true->Qtb P d (Kf P e) e ls) (a b:List Kx):∀ (n o:Nat) (ls:List Lk),Qyr g s n ls=true->Zd ls (a.drop (o*s))=true->Zd ls (b.drop (o*s))=true ->
 (Op.eqItems d e s (a.map Kx.val).toArray (b.map Kx.val).toArray (List.range' o n)).run P w = .ok (decide (a.drop (o*s)=b.drop (o*s))) w
 | 0,o,ls,h,ha,hb=>by
  have hl:ls = []:=List.isEmpty_iff.1 h;subst hl;rw [Zs ha,Zs hb];simp [Op.eqItems]
 | n+1,o,ls,h,ha,hb=>by
  simp only [Qyr,Bool.and_eq_true,decide_eq_true_eq] at h;obtain⟨⟨⟨hsl,h0⟩,hg1⟩,hrest⟩:=h;have la:=Q5p ha;have lb:=Q5p hb;rw [List.length_drop] at la lb;obtain⟨ta,da⟩:=Q3u s ha;obtain⟨tb,db⟩:=Q3u s hb;rw [List.drop_drop,show o*s+s=(o+1)*s by rw [Nat.succ_mul]] at da db;have p1:=Qeq (w:=w) hi hs hd h1s (o:=o*s) (a:=a) (by omega);have p2:=Qeq (w:=w) hi hs hd h1s (o:=o*s) (a:=b) (by omega);have ih:=Qsc hi hs hd h1s hg a b n (o+1) _ hrest da db;have he:=hg _ hg1 w _ _ ta tb;rw [List.range'_succ];simp only [Op.eqItems,Sem.run_bind,p1,p2,Result.andThen_ok,he];rw [Qvi (a.drop (o*s)) (b.drop (o*s)) s,List.drop_drop,List.drop_drop,show o*s+s=(o+1)*s by rw [Nat.succ_mul]]
  cases hd:decide ((a.drop (o*s)).take s=(b.drop (o*s)).take s) with
  | true=>simp only [Bool.not_true,Bool.false_eq_true,if_false,ih,Bool.true_and]
  | false=>simp
theorem Qhd:∀ (k d:Nat),k<=d->∀ T ls,flB P k T ls=true->Qtb P d (Kf P T) T ls
 | 0,d,_,T,ls,h=>by cases h
 | k+1,0,hd,T,ls,h=>by omega
 | k+1,d+1,hd,T,ls,h=>by
  intro w xs ys hx hy;unfold flB at h;split at h
  . rename_i fs hu;simp only [Bool.and_eq_true,Bool.not_eq_true'] at h;have hag:Kf P T=true:=by unfold Kf; rw [hu]
    rw [hag];have hfs:P.fieldsOf T=fs:=by simp [Program.fieldsOf,hu]
    have e1:∀ l:List Kx,flV true l = .agg (l.map Kx.val).toArray:=fun l=>rfl;rw [e1,e1];refine (run_equalIn_struct w d T _ _ (by rw [hfs]; exact hu) h.1).trans ?_;rw [hfs];exact Qoh (fun T ls h=>Qhd k d (by omega) T ls h) xs ys fs.toList 0 ls h.2 (by simpa using hx) (by simpa using hy)
  . rename_i n e hu;simp only [Bool.and_eq_true] at h;obtain⟨hund,h⟩:=h;have hag:Kf P T=true:=by unfold Kf; rw [hu]
    rw [hag]
    cases hi:P.info? e with
    | none=>rw [hi] at h; cases h
    | some i =>
     rw [hi] at h;simp only [Bool.and_eq_true,beq_iff_eq] at h;obtain⟨⟨hc,h1s⟩,hit⟩:=h;have e1:∀ l:List Kx,flV true l = .agg (l.map Kx.val).toArray:=fun l=>rfl;rw [e1,e1];refine (run_equalIn_array w d _ _ hu hi).trans ?_;rw [List.range_eq_range',hc];have:=Qsc (w:=w) (d:=d) hi rfl hund h1s (fun ls h=>Qhd k d (by omega) e ls h) xs ys n 0 ls hit (by simpa using hx) (by simpa using hy);simpa using this
  . rename_i ds hn1 hn2 hu;split at h
    . rename_i l;obtain⟨x,r,rfl,hx1,hr⟩:=Zn hx;cases Zs hr;obtain⟨y,s,rfl,hy1,hs⟩:=Zn hy;cases Zs hs;have hag:Kf P T=false:=by
       unfold Kf;rw [hu];cases ds<;>first|rfl|exact absurd rfl (hn1 _)|exact absurd rfl (hn2 _ _)
      rw [hag];refine (Qf1 h hx1 hy1 d).trans ?_;simp
    . cases h
  . cases h
end
end Go.Proofs.YtffeegebohigdaaGreat
namespace Go.Proofs.YtffeegebohigdaaGreat
open Go.RowKit
theorem Z9v:Q9w Tryz.prog 43=some (3,1):=by kernel_rfl
theorem ct3:Q6h Tryz.prog 3=true:=by kernel_rfl
theorem ct5:Q6h Tryz.prog 5=true:=by kernel_rfl
theorem Z9r:Q6h Tryz.prog 63=true:=by kernel_rfl
section
variable {P:Program} {ρ:Operand->Value} {d:Option Nat} {ty:TypeId} {pos:String} {aft:Array Edge} {gd:Option (Nat×Bool)} {v:Value} {w:World}
theorem Qec {T e n sz k b o:Nat} {kk:IntKind} {x y:Operand} (hx : ρ x = .pointer (some ⟨b,o,none⟩)) (hy : ρ y = .int kk (k:Int)) (ht:P.underlying T=some (.array n e)) (hi:(P.info? e).map (·.size)=some sz) (hk:(k:Int)<(n:Int)) (hv:v = .pointer (some ⟨b,o+k*sz,none⟩)):(execOp ρ ⟨d,.indexAddr T x y,ty,pos,aft,gd⟩).run P w = .ok (.value v) w:=by
 subst hv
 cases he:P.info? e with
 | none=>rw [he] at hi; cases hi
 | some i =>
  rw [he] at hi;simp only [Option.map_some,Option.some.injEq] at hi;have h3:0<=(k:Int)/\(k:Int)<(n:Int):=⟨by omega,hk⟩
  unfold execOp;simp only [hx,hy,Instr.indexAt,asIntOf,Instr.sureAddr,underlying,Sem.run_bind,Sem.run_pure,Result.andThen_ok,ht,run_program];simp only [h3,and_self,if_true,sizeOf,typeInfo,Sem.run_bind,Sem.run_pure,Result.andThen_ok,run_program,he,hi,Int.toNat_natCast,Qbn]
theorem Z79 {k:IntKind} {m n z:Int} {t t':TypeId} {x y:Operand} (hx : ρ x = .int k m) (hy : ρ y = .int k n) (hn:n≠0) (hz:m.tmod n=z) (hv:v = .int k z):(execOp ρ ⟨d,.binOp .rem t x y t',ty,pos,aft,gd⟩).run P w = .ok (.value v) w:=by
 subst hv hz;unfold execOp;simp only [hx,hy,eqGuard,binOp,Op.intDiv,hn,ne_eq,not_true_eq_false,if_false,Sem.run_bind,Sem.run_pure];rfl
theorem Qsu {k:IntKind} {m n z:Int} {t t':TypeId} {x y:Operand} (hx : ρ x = .int k m) (hy : ρ y = .int k n) (hn:n≠0) (hz:k.wrap (m.tdiv n)=z) (hv:v = .int k z):(execOp ρ ⟨d,.binOp .quo t x y t',ty,pos,aft,gd⟩).run P w = .ok (.value v) w:=by
 subst hv hz;unfold execOp;simp only [hx,hy,eqGuard,binOp,Op.intDiv,hn,ne_eq,not_true_eq_false,if_false,Sem.run_bind,Sem.run_pure];rfl
theorem Q4b {k k':IntKind} {s t:Nat} {ds:TypeDesc} {m z:Int} {x:Operand} (hx : ρ x = .int k m) (hs:P.underlying s=some ds) (ht:P.underlying t=some (.int k')) (hz:k'.wrap m=z) (hv:v = .int k' z):(execOp ρ ⟨d,.convert s t x,ty,pos,aft,gd⟩).run P w = .ok (.value v) w:=by
 subst hv hz;unfold execOp;simp only [hx,convert,underlying,Sem.run_bind,Sem.run_pure,Result.andThen_ok,run_program,hs,ht,Conv.intToInt]
end
def Q3 {α:Type}:List (Nat × α)->Nat->Option α
 | [],_=>none
 | (k,v)::l,d=>if k==d then some v else Q3 l d
inductive TI where
 | int (k:IntKind)|intw|bool|str|other
 | slice (e esz ebytes:Nat)
 | struct (fs:List (Nat×Nat×Bool))
 | array (n e esz:Nat) (agg:Bool)
 | map (k e:Nat) (c:Kc) (t:Tc) (agg:Bool)
structure K5 where
 sz:Nat
 ti:TI
 z:List AV
 eq:List Lk := []
def TI.agg:TI->Bool
 | .struct _=>true
 | .array _ _ _ _=>true
 | _=>false
abbrev Tab:=List (Nat×K5)
def Qrz:AV->Value->Bool
 | .lit k n,.int k' n'=>decide (k=k')&&n==n'
 | .blit b,.bool b'=>b==b'
 | .str s,.string s'=>(s ()).data==s'.data
 | .nil,.slice none 0 0=>true
 | .int k n,.int k' n'=>decide (k=k')&&n ()==n'
 | .bool b,.bool b'=>b ()==b'
 | .sl _ _ l,.slice none 0 0=>(l ()).isEmpty
 | .un,_=>true
 | _,_=>false
def Qer:List AV->List Value->Bool
 | [],[]=>true
 | x::l,v::vs=>Qrz x v&&Qer l vs
 | _,_=>false
def fsB (P:Program):List Field->List (Nat×Nat×Bool)->Bool
 | [],[]=>true
 | f::fs,(o,s,a)::l=>f.offset==o&&(match P.info? f.type with|some i=>i.size==s|none=>false)&&(Kf P f.type==a&&(P.underlying f.type).isSome)&&fsB P fs l
 | _,_=>false
def Qtj (ag:Bool):Value->Bool
 | .agg _=>ag
 | .tuple _=>false
 | _ => !ag
def Ko (P:Program):TypeDesc->TI->Bool
 | .int k,.int k'=>decide (k=k')
 | .int k,.intw=>decide (k = .i64)
 | .bool,.bool=>true
 | .string,.str=>true
 | .slice e,.slice e' sz b=>e==e'&&(decide (0<sz)&&decide (0<b))&&(match P.info? e with|some j=>j.size==sz&&j.bytes==b&&(match j.zero with|some z=>z.cells.size==sz|none=>false)|none=>false)
 | .struct fs,.struct l=>fsB P fs.toList l
 | .array n e,.array n' e' sz a=>n==n'&&e==e'&&(match P.info? e with|some j=>j.size==sz|none=>false)&&(Kf P e==a&&(P.underlying e).isSome)
 | .map k e,.map k' e' c t a=>k==k'&&e==e'&&(kcB P k c&&Kf P e==a)&&(a||t.size==1)&&(match P.info? e with|some j=>(match j.zero with|some z=>Qer (Q8 true t fun _=>t.dflt) z.cells.toList&&Qtj a z|none=>false)|none=>false)
 | .struct _,_=>false
 | .array _ _,_=>false
 | _,.other=>true
 | _,_=>false
def Z4v (P:Program) (T:TypeId) (ls:List Lk):Bool:=ls.isEmpty||(Kf P T&&flB P 20 T ls && !P.eqGuardType P.depth T)
def tyB (P:Program) (T:TypeId) (i:K5):Bool :=
 ((match P.info? T with
 | some j=>j.size==i.sz&&(match j.zero with|some z=>Qer i.z z.cells.toList|none=>i.z.isEmpty)
 | none=>false) &&
 match P.underlying T with
 | some ds=>Ko P ds i.ti
 | none=>false)&&Z4v P T i.eq
def Zw (P:Program) (ty:Tab):Prop:=∀ T i,Q3 ty T=some i->tyB P T i=true
inductive En where
 | box (T:TypeId) (cells:List AV)
 | row (fr:Bool) (t:Tc) (T:TypeId) (l:Unit->List t.el)
 | map (fr ag:Bool) (c:Kc) (t:Tc) (T:TypeId) (m:Unit->List Kx->Option t.el)
 | iter (ml:Nat) (c:Kc) (seen:Unit->List (List Kx)) (left:Unit->Nat)
 | stamp (ml:Nat) (c:Kc) (key:Unit->List Kx)
 | dead
def Q00 (w:World) (ρ:Nat->Option Rl) (base:Nat) (ro:Nat->Prop) (fr ag:Bool) (c:Kc) (t:Tc) (m:List Kx->Option t.el) (es:Array MapEntry):Prop :=
 (∀ e∈es.toList,∃ key x,Yq c e.key key/\m key=some x/\AVR w ρ base ro (Yh ag fr t fun _=>x) e.val)/\∀ key x,Zd c.ls key=true->m key=some x->∃ e∈es.toList,Yq c e.key key
def rb (fr:Bool) (base:Nat):Nat:=cond fr base 0
theorem Qph (fr:Bool) (base:Nat):rb fr base<=base:=by cases fr<;>simp [rb]
theorem Z8h (f g:Bool) (base:Nat):rb (f&&g) base<=rb f base:=by cases f<;>cases g<;>simp [rb]
theorem Z5u {f g:Bool} (base:Nat) (h:g=true->f=true):rb g base<=rb f base:=by cases f<;>cases g<;>simp_all [rb]
theorem Z5p {b b':Nat} (fr:Bool) (h:b'<=b):rb fr b'<=rb fr b:=by cases fr<;>simp [rb,h]
def EnR (w:World) (ρ:Nat->Option Rl) (base:Nat) (ro:Nat->Prop) (loc:Nat):En->Prop
 | .box T cells=>∃ b,∃ cs:List Value,ρ loc=some (.box b)/\w.heap[b]? = some (.cells cs.toArray T (0,0))/\Qj w ρ base ro cells cs
 | .row fr t T l=>∃ A c,∃ css:List (List Value),ρ loc=some (.row A (l ()).length c)/\Z1 w (rb fr base) T t.size A c css/\css.length=(l ()).length /\
  ∀ (k:Nat) (cs:List Value) (j:Nat) (x:AV) (v:Value),css[k]? = some cs->(Q8 fr t fun _=>(l ()).getD k t.dflt)[j]? = some x->cs[j]? = some v->AVR w ρ base ro x v
 | .map fr ag c t _ m=>∃ b es clock,ρ loc=some (.mp b)/\w.heap[b]? = some (.map es clock)/\MapKept.Stamped es clock/\Q00 w ρ base ro fr ag c t (m ()) es
 | .iter ml c seen left=>∃ b b2 es clock since stamps c0,ρ loc=some (.it b2) /\ ρ ml=some (.mp b)/\w.heap[b]? = some (.map es clock)/\w.heap[b2]? = some (.mapIter (some b) since stamps c0)/\(∀ e∈es.toList,e.born<since)/\(since<=c0/\c0<=clock)/\left ()=(Go.leftOf es stamps).size/\(∀ e∈es.toList,stamps.contains e.born=true↔∃ key∈seen (),Yq c e.key key)/\∀ key r,seen ()=key::r->c0=clock/\∃ e∈es.toList,stamps.back? = some e.born/\Yq c e.key key
 | .stamp ml c key=>∃ b es clock s e,ρ loc=some (.stamp s) /\ ρ ml=some (.mp b)/\w.heap[b]? = some (.map es clock)/\e∈es.toList/\Yq c e.key (key ())/\e.born=s
 | .dead=>∃ r,ρ loc=some r
abbrev VC:=Unit->Prop
inductive Sg where
 | int (k:IntKind)|bool|str|sl (t:Tc)|any
 | wide (t:Tc)
 | agg (l:List Sg)
 | pto (l:List Sg)
 | fn (l:List Sg)
 | ownr (t:Tc)
 | mapp (c:Kc) (t:Tc)
 | boxp (l:List Sg)
def cvW (t t':Tc) (l:Unit->List t.el) (n:Unit->Nat):Option AV:=match cvT t t' with
 | some f=>some (.sl false t' fun _=>((l ()).take (n ())).map f)
 | none=>none
mutual
def Qdo (ge:Nat->Option En):Sg->AV->Option AV
 | .int k,.int k' n=>if k=k' then some (.int k n) else none
 | .int k,.lit k' n=>if k=k' then some (.int k fun _=>n) else none
 | .bool,.bool b=>some (.bool b)
 | .bool,.blit b=>some (.bool fun _=>b)
 | .str,.str s=>some (.str s)
 | .sl t,.sl _ t' l=>if t=t' then some (.sl false t' l) else none
 | .sl t,.nil=>some (.sl false t fun _ => [])
 | .sl t,.wide _ t' l n=>if t=t' then some (.sl false t' fun _=>(l ()).take (n ())) else cvW t' t l n
 | .wide t,.wide _ t' l n=>if t=t' then some (.wide false t' l n) else none
 | .sl t,.own loc=>match ge loc with
  | some (.row _ t' _ l)=>if t=t' then some (.sl false t' l) else none
  | _=>none
 | .agg l,.agg cs=>(Gt ge l cs).map .agg
 | .pto l,.pto cs 0=>(Gt ge l cs).map fun cs' => .pto cs' 0
 | .pto l,.ptr loc 0=>match ge loc with
  | some (.box _ cs)=>(Gt ge l cs).map fun cs' => .pto cs' 0
  | _=>none
 | .fn l,.fn f cs=>(Gt ge l cs).map fun cs' => .fn f cs'
 | .any,_=>some .un
 | _,_=>none
def Gt (ge:Nat->Option En):List Sg->List AV->Option (List AV)
 | [],[]=>some []
 | s::ss,x::xs=>match Qdo ge s x,Gt ge ss xs with
  | some y,some ys=>some (y::ys)
  | _,_=>none
 | _,_=>none
end
structure Res where
 pre:Unit->Prop
 av:AV
structure Con where
 f:FuncId
 sig:List Sg
 go:List AV->Option Res
def Qf8:List Con->FuncId->Option Con
 | [],_=>none
 | c::cs,f=>if c.f==f then some c else Qf8 cs f
def Q7 (P:Program) (c:Con):Prop :=
 (∀ args w,(callFunc c.f args).run P w = .ok (.enter c.f args) w) /\
 ∀ avs res,c.go avs=some res->∀ (w:World) (ra:Nat->Prop) (vals:List Value),(∀ b,ra b->b<w.heap.size)->Qj w (fun _=>none) 0 ra avs vals->res.pre () ->
  Calls P c.f vals.toArray w fun e w'=>∃ v,e = .returned v/\Qe w w'/\AVR w' (fun _=>none) w.heap.size (fun b=>ra b\/w.heap.size<=b) res.av v
def Qwh:Value->AV
 | .int k n => .lit k n
 | .bool b => .blit b
 | .string s => .str fun _=>s
 | .slice none 0 0 => .nil
 | _ => .un
def AV.asInt:AV->Option (IntKind×(Unit->Int))
 | .int k n=>some (k,n)
 | .lit k n=>some (k,fun _=>n)
 | _=>none
def AV.asBool:AV->Option (Unit->Bool)
 | .bool b=>some b
 | .blit b=>some fun _=>b
 | _=>none
def Q1 (n:Int):Prop := -9223372036854775808<=n/\n<=9223372036854775807
def Qxl (op:BinOp) (k:IntKind) (a b:Int):Int:=match op with
 | .and=>k.wrap (BitVec.ofInt k.bits a &&& BitVec.ofInt k.bits b).toNat
 | .or=>k.wrap (BitVec.ofInt k.bits a ||| BitVec.ofInt k.bits b).toNat
 | .xor=>k.wrap (BitVec.ofInt k.bits a ^^^ BitVec.ofInt k.bits b).toNat
 | _=>k.wrap (BitVec.ofInt k.bits a &&& ~~~BitVec.ofInt k.bits b).toNat
def shF (op:BinOp) (k:IntKind) (a b:Int):Int:=match op with
 | .shl=>k.wrap (a*2^(min b.toNat k.bits))
 | _=>a.fdiv (2^(min b.toNat k.bits))
def Qes (op:BinOp) (k:IntKind) (a b:Unit->Int):Option (AV×List VC) :=
 match op with
 | .add=>if k = .i64 then some (.int k fun _=>a ()+b (),[fun _=>Q1 (a ()+b ())]) else some (.int k fun _=>k.wrap (a ()+b ()),[])
 | .sub=>if k = .i64 then some (.int k fun _=>a () - b (),[fun _=>Q1 (a () - b ())]) else some (.int k fun _=>k.wrap (a () - b ()),[])
 | .mul=>if k = .i64 then some (.int k fun _=>a ()*b (),[fun _=>Q1 (a ()*b ())]) else some (.int k fun _=>k.wrap (a ()*b ()),[])
 | .quo=>some (.int k fun _=>k.wrap ((a ()).tdiv (b ())),[fun _=>b ()≠0])
 | .rem=>some (.int k fun _=>(a ()).tmod (b ()),[fun _=>b ()≠0])
 | .eql=>some (.bool fun _=>decide (a ()=b ()),[])
 | .neq=>some (.bool fun _ => !decide (a ()=b ()),[])
 | .lss=>some (.bool fun _=>decide (a ()<b ()),[])
 | .leq=>some (.bool fun _=>decide (a ()<=b ()),[])
 | .gtr=>some (.bool fun _=>decide (b ()<a ()),[])
 | .geq=>some (.bool fun _=>decide (b ()<=a ()),[])
 | .and=>some (.int k fun _=>Qxl .and k (a ()) (b ()),[])
 | .or=>some (.int k fun _=>Qxl .or k (a ()) (b ()),[])
 | .xor=>some (.int k fun _=>Qxl .xor k (a ()) (b ()),[])
 | .andNot=>some (.int k fun _=>Qxl .andNot k (a ()) (b ()),[])
 | _=>none
def Qsk (op:BinOp) (k:IntKind) (a b:Unit->Int):Option (AV×List VC) :=
 match op with
 | .add=>some (.int k fun _=>k.wrap (a ()+b ()),[])
 | .sub=>some (.int k fun _=>k.wrap (a () - b ()),[])
 | .mul=>some (.int k fun _=>k.wrap (a ()*b ()),[])
 | op=>Qes op k a b
def Qa1 (ti:Option TI) (op:BinOp) (k:IntKind) (a b:Unit->Int):Option (AV×List VC) :=
 match ti with
 | some .intw=>Qsk op k a b
 | _=>Qes op k a b
def Qx4 (op:BinOp) (k:IntKind) (m n:Int):Option AV :=
 match op with
 | .add=>some (.lit k (k.wrap (m+n)))
 | .sub=>some (.lit k (k.wrap (m - n)))
 | .mul=>some (.lit k (k.wrap (m*n)))
 | .eql=>some (.blit (m==n))
 | .neq=>some (.blit (m != n))
 | .lss=>some (.blit (decide (m<n)))
 | .leq=>some (.blit (decide (m<=n)))
 | .gtr=>some (.blit (decide (m>n)))
 | .geq=>some (.blit (decide (m≥n)))
 | _=>none
def Qq1 (op:BinOp) (a b:Unit->ByteArray):Option (AV×List VC) :=
 match op with
 | .eql=>some (.bool fun _=>decide (a ()=b ()),[])
 | .neq=>some (.bool fun _ => !decide (a ()=b ()),[])
 | _=>none
def Qkc (op:BinOp) (a b:Unit->Bool):Option (AV×List VC) :=
 match op with
 | .eql=>some (.bool fun _=>a ()==b (),[])
 | .neq=>some (.bool fun _=>a () != b (),[])
 | _=>none
def Q74 (op:BinOp) (x y:AV):Option (AV×List VC):=match x.asInt,y.asInt with
 | some (k,a),some (_,b)=>some (.int k fun _=>shF op k (a ()) (b ()),[fun _=>0<=b ()])
 | _,_=>none
def Qbr (ti:Option TI) (op:BinOp) (x y:AV):Option (AV×List VC) :=
 match op with
 | .shl=>Q74 .shl x y
 | .shr=>Q74 .shr x y
 | op=>match x,y with
 | .lit k m,.lit k' n=>if k=k' then (match Qx4 op k m n with
  | some r=>some (r,[])
  | none=>Qa1 ti op k (fun _=>m) (fun _=>n)) else none
 | .str a,.str b=>Qq1 op a b
 | x,y=>match x.asInt,y.asInt with
  | some (k,a),some (k',b)=>if k=k' then Qa1 ti op k a b else none
  | _,_=>match x.asBool,y.asBool with
   | some a,some b=>match ti with
    | some .bool=>Qkc op a b
    | _=>none
   | _,_=>none
def Qjr (c x y:AV):Option AV :=
 match c with
 | .blit b=>some (if b then x else y)
 | .bool c=>match x.asBool,y.asBool with
  | some a,some b=>some (.bool fun _=>cond (c ()) (a ()) (b ()))
  | _,_=>match x.asInt,y.asInt with
   | some (k,a),some (k',b)=>if k=k' then some (.int k fun _=>cond (c ()) (a ()) (b ())) else none
   | _,_=>none
 | _=>none
def cut (agg:Bool) (off n:Nat) (cells:List AV):Option AV :=
 if agg then (if off+n<=cells.length then some (.agg ((cells.drop off).take n)) else none) else cells[off]?
def Km (ty:Tab) (T:Nat):Option TI:=(Q3 ty T).map fun i=>i.ti
def fieldAt (i:K5) (f:Nat):Option (Nat×Nat×Bool) :=
 match i.ti with
 | .struct fs=>fs[f]?
 | _=>none
def Q29 (place:Nat->Option (Nat×Nat)) (cells:List AV):List (Nat×AV)->Option (List AV)
 | []=>some cells
 | (i,x)::rest=>match place i with
  | none=>none
  | some (off,size)=>match x with
   | .agg cs=>if cs.length==size&&decide (off+size<=cells.length) then Q29 place (cells.take off++cs++cells.drop (off+size)) rest else none
   | .un=>none
   | .tup _=>none
   | x=>if size==1&&decide (off+1<=cells.length) then Q29 place (cells.set off x) rest else none
def Qas (i:Unit->Int) (n:Unit->Int):List VC := [fun _=>0<=i ()/\i ()<n ()]
def Qdu (ge:Nat->Option En) (agg:Bool) (n:Nat):AV->Option AV
 | .pto cells off=>cut agg off n cells
 | .ptr loc off=>match ge loc with
  | some (.box _ cells)=>cut agg off n cells
  | _=>none
 | .orp t loc k off=>match ge loc with
  | some (.row fr t' _ l)=>if t=t' then cut agg off n (Q8 fr t' fun _=>(l ()).getD (k ()).toNat t'.dflt) else none
  | _=>none
 | _=>none
def Q7v:AV->Nat->Option AV
 | .pto cells off,k=>some (.pto cells (off+k))
 | .ptr loc off,k=>some (.ptr loc (off+k))
 | .orp t loc i off,k=>some (.orp t loc i (off+k))
 | _,_=>none
def Qkm (ge:Nat->Option En):AV->Option AV
 | .nil=>some (.lit .i64 0)
 | .sl _ _ l=>some (.int .i64 fun _=>((l ()).length:Int))
 | .wide _ _ _ n=>some (.int .i64 fun _=>(n ():Int))
 | .own loc=>match ge loc with
  | some (.row _ _ _ l)=>some (.int .i64 fun _=>((l ()).length:Int))
  | _=>none
 | .str s=>some (.int .i64 fun _=>((s ()).size:Int))
 | _=>none
/- keys of maps -/
def Qr0:Lk->AV->Option (Unit->Kx)
 | .int k,.int k' n=>if k=k' then some fun _ => .i k (n ()) else none
 | .int k,.lit k' n=>if k=k' then some fun _ => .i k n else none
 | .bool,.bool b=>some fun _ => .f (b ())
 | .bool,.blit b=>some fun _ => .f b
 | .str,.str s=>some fun _ => .s (s ())
 | _,_=>none
def kxL:List Lk->List AV->Option (Unit->List Kx)
 | [],[]=>some fun _ => []
 | l::ls,x::xs=>match Qr0 l x,kxL ls xs with
  | some a,some b=>some fun _=>a ()::b ()
  | _,_=>none
 | _,_=>none
def Q6s (c:Kc) (x:AV):Option (Unit->List Kx):=match c with
 | .one l=>(Qr0 l x).map fun a=>fun _ => [a ()]
 | .arr n l=>match x with
  | .agg cs=>kxL (List.replicate n l) cs
  | _=>none
 | .st ls=>match x with
  | .agg cs=>kxL ls cs
  | _=>none
def Kx.num:Kx->Int
 | .i _ n=>n
 | _=>0
def Kx.flag:Kx->Bool
 | .f p=>p
 | _=>false
def Kx.txt:Kx->ByteArray
 | .s x=>x
 | _=>Y0
def Qey:Lk->(Unit->Kx)->AV
 | .int k,x => .int k fun _=>(x ()).num
 | .bool,x => .bool fun _=>(x ()).flag
 | .str,x => .str fun _=>(x ()).txt
def Qbt:List Lk->Nat->(Unit->List Kx)->List AV
 | [],_,_ => []
 | l::ls,n,k=>Qey l (fun _=>(k ()).getD n (.i .i64 0))::Qbt ls (n+1) k
def Qiu (c:Kc) (k:Unit->List Kx):AV:=match c with
 | .one l=>Qey l fun _=>(k ()).getD 0 (.i .i64 0)
 | .arr n l => .agg (Qbt (List.replicate n l) 0 k)
 | .st ls => .agg (Qbt ls 0 k)
def Qjk (ag fr:Bool) (t:Tc) (x:Unit->Option t.el) (ok:Bool):AV :=
 if ok then .tup [Yh ag fr t fun _=>(x ()).getD t.dflt,.bool fun _=>(x ()).isSome] else Yh ag fr t fun _=>(x ()).getD t.dflt
def Qjc (i:Option K5) (op:BinOp) (x y:AV):Option (AV×List VC):=match x,y with
 | .agg cs,.agg ds=>match i with
  | some i=>if i.eq.isEmpty then none else match kxL i.eq cs,kxL i.eq ds with
   | some a,some b=>match op with
    | .eql=>some (.bool fun _=>decide (a ()=b ()),[])
    | .neq=>some (.bool fun _ => !decide (a ()=b ()),[])
    | _=>none
   | _,_=>none
  | none=>none
 | x,y=>Qbr (i.map fun i=>i.ti) op x y
def G5 (g:Operand->AV) (d:Unit->Int):Option Operand->Option (Unit->Int)
 | none=>some d
 | some o=>(g o).asInt.map fun p=>p.2
/- one of some values,as an index says -/
def Qdv (kk:IntKind) (k:Unit->Int):Nat->List AV->Option (Unit->Int)
 | _,[]=>none
 | j,x::l=>match x.asInt with
  | some (k',a)=>if k'=kk then (match l with
   | []=>some a
   | _=>(Qdv kk k (j+1) l).map fun f=>fun _=>cond (decide (k ()=(j:Int))) (a ()) (f ())) else none
  | none=>none
def Qd7 (k:Unit->Int):Nat->List AV->Option (Unit->Bool)
 | _,[]=>none
 | j,x::l=>match x.asBool with
  | some a=>match l with
   | []=>some a
   | _=>(Qd7 k (j+1) l).map fun f=>fun _=>cond (decide (k ()=(j:Int))) (a ()) (f ())
  | none=>none
def Qkl (k:Unit->Int) (l:List AV):Option AV:=match l with
 | .int kk _::_=>(Qdv kk k 0 l).map (.int kk)
 | .lit kk _::_=>(Qdv kk k 0 l).map (.int kk)
 | .bool _::_=>(Qd7 k 0 l).map .bool
 | .blit _::_=>(Qd7 k 0 l).map .bool
 | _=>none
def Qko (cells:List AV) (n esz c:Nat):List AV:=(List.range n).map fun m=>cells.getD (m*esz+c) .un
def Q51 (k:Unit->Int) (cells:List AV) (n esz:Nat):List Nat->Option (List AV)
 | []=>some []
 | c::cs=>match Qkl k (Qko cells n esz c),Q51 k cells n esz cs with
  | some x,some l=>some (x::l)
  | _,_=>none
def Z1t (s:ByteArray) (i:Nat):Int:=(s.data[i]?.map fun c=>(c.toNat:Int)).getD 0
def Qmm (ti:Option TI) (x i:AV):Option (AV×List VC):=match ti,x with
 | some (.array n _ esz ag),.agg cells=>match i with
  | .lit _ m=>if decide (0<=m)&&decide (m<(n:Int)) then (cut ag (m.toNat*esz) esz cells).map fun r=>(r,[]) else none
  | .int _ k=>if cells.length==n*esz then
   (match ag with
   | true=>(Q51 k cells n esz (List.range esz)).map fun l=>(.agg l,Qas k fun _=>(n:Int))
   | false=>if esz==1 then (Qkl k cells).map fun r=>(r,Qas k fun _=>(n:Int)) else none) else none
  | _=>none
 | some .str,.str s=>match i.asInt with
  | some (_,k)=>some (.int .u8 fun _=>Z1t (s ()) (k ()).toNat,Qas k fun _=>((s ()).size:Int))
  | none=>none
 | _,_=>none
def Qli (ti:Option TI) (x i:AV):Option (AV×List VC):=match ti,i with
 | some (.array n _ esz _),.lit _ m=>if decide (0<=m)&&decide (m<(n:Int)) then (Q7v x (m.toNat*esz)).map fun r=>(r,[]) else none
 | _,_=>none
def Gz (ty:Tab) (cs:List Con) (ge:Nat->Option En) (g:Operand->AV):Op->Option (AV×List VC)
 | .move x=>some (g x,[])
 | .assign x=>some (g x,[])
 | .pick c a b=>(Qjr (g c) (g a) (g b)).map fun r=>(r,[])
 | .nilCheck x=>match g x with
  | .ptr l o=>some (.ptr l o,[])
  | .pto l o=>some (.pto l o,[])
  | .orp t l k o=>some (.orp t l k o,[])
  | _=>none
 | .binOp op T x y _=>Qjc (Q3 ty T) op (g x) (g y)
 | .unOp .not _ x=>match g x with
  | .blit b=>some (.blit (!b),[])
  | .bool b=>some (.bool fun _ => !b (),[])
  | _=>none
 | .unOp .neg _ x=>match g x with
  | .lit k n=>some (.lit k (k.wrap (-n)),[])
  | .int .i64 n=>some (.int .i64 fun _ => -n (),[fun _=>Q1 (-n ())])
  | _=>none
 | .convert s t x=>match Km ty s,Km ty t,g x with
  | some (.int _),some (.int k),.lit _ n=>some (.lit k (k.wrap n),[])
  | some (.int _),some (.int k),.int _ n=>if k = .i64 then some (.int k n,[fun _=>Q1 (n ())]) else some (.int k fun _=>k.wrap (n ()),[])
  | _,_,_=>none
 | .fieldAddr T x f=>match (Q3 ty T).bind (fieldAt · f) with
  | some (off,sz,_)=>if sz==0 then none else (Q7v (g x) off).map fun r=>(r,[])
  | none=>none
 | .field T x f=>match (Q3 ty T).bind (fieldAt · f),g x with
  | some (off,sz,a),.agg cells=>(cut a off sz cells).map fun r=>(r,[])
  | _,_=>none
 | .indexAddr T x i=>match Km ty T,g x,(g i).asInt with
  | some (.slice _ sz _),.sl fr t l,some (_,k)=>if t.size==sz then some (.pto (Q8 fr t fun _=>(l ()).getD (k ()).toNat t.dflt) 0,Qas k fun _=>((l ()).length:Int)) else none
  | some (.slice _ sz _),.wide fr t l n,some (_,k)=>if t.size==sz then some (.pto (Q8 fr t fun _=>(l ()).getD (k ()).toNat t.dflt) 0,Qas k fun _=>(n ():Int)) else none
  | some (.slice _ sz _),.own loc,some (_,k)=>match ge loc with
   | some (.row _ t _ l)=>if t.size==sz then some (.orp t loc k 0,Qas k fun _=>((l ()).length:Int)) else none
   | _=>none
  | ti,y,_=>Qli ti y (g i)
 | .index T x i=>Qmm (Km ty T) (g x) (g i)
 | .lookup T x i ok=>match Km ty T,g x with
  | some (.map _ _ c t ag),.mp loc=>match ge loc,Q6s c (g i) with
   | some (.map fr ag' c' t' _ m),some k=>if c'=c/\t'=t/\ag'=ag then some (Qjk ag' fr t' (fun _=>m () (k ())) ok,[]) else none
   | _,_=>none
  | _,_=>none
 | .entry x=>match g x with
  | .it ml l2=>match ge ml,ge l2 with
   | some (.map fr ag c t _ m),some (.iter ml' c' seen _)=>if ml'=ml/\c'=c then some (.tup [Qiu c fun _=>(seen ()).headD [],Yh ag fr t fun _=>(m () ((seen ()).headD [])).getD t.dflt],[fun _=>seen () ≠ []]) else none
   | _,_=>none
  | _=>none
 | .slice T x none (some hi) none=>match Km ty T,g x with
  | some (.slice _ sz _),.sl fr t l=>if t.size==sz then (match (g hi).asInt with
   | some (_,b)=>some (.wide fr t l fun _=>(b ()).toNat,[fun _=>0<=b ()/\b ()<=((l ()).length:Int)])
   | none=>none) else none
  | some (.slice _ sz _),.wide fr t l _=>if t.size==sz then (match (g hi).asInt with
   | some (_,b)=>some (.wide fr t l fun _=>(b ()).toNat,[fun _=>0<=b ()/\b ()<=((l ()).length:Int)])
   | none=>none) else none
  | some (.slice _ sz _),.own loc=>match ge loc with
   | some (.row _ t _ l)=>if t.size==sz then (match (g hi).asInt with
    | some (_,b)=>some (.osl t loc (fun _=>0) fun _=>(b ()).toNat,[fun _=>0<=b ()/\b ()<=((l ()).length:Int)])
    | none=>none) else none
   | _=>none
  | _,_=>none
 | .slice T x lo hi none=>match Km ty T,g x with
  | some (.slice _ sz _),.sl fr t l=>if t.size==sz then (match G5 g (fun _=>0) lo,G5 g (fun _=>((l ()).length:Int)) hi with
   | some a,some b=>some (.sl fr t fun _=>((l ()).take (b ()).toNat).drop (a ()).toNat,[fun _=>0<=a ()/\a ()<=b ()/\b ()<=((l ()).length:Int)])
   | _,_=>none) else none
  | some (.slice _ sz _),.own loc=>match ge loc with
   | some (.row _ t _ l)=>if t.size==sz then (match G5 g (fun _=>0) lo,G5 g (fun _=>((l ()).length:Int)) hi with
    | some a,some b=>some (.osl t loc (fun _=>(a ()).toNat) fun _=>(b ()).toNat,[fun _=>0<=a ()/\a ()<=b ()/\b ()<=((l ()).length:Int)])
    | _,_=>none) else none
   | _=>none
  | _,_=>none
 | .extract x i=>match g x with
  | .tup l=>(l[i]?).map fun r=>(r,[])
  | _=>none
 | .makeFunc (.func f) first caps=>if first.isEmpty then some (.fn f (caps.toList.map g),[]) else none
 | .load T x=>match Q3 ty T with
  | some i=>(Qdu ge i.ti.agg i.sz (g x)).map fun r=>(r,[])
  | none=>none
 | .build T parts=>match Q3 ty T with
  | some i=>match i.ti with
   | .struct fs=>if i.z.isEmpty then none else (Q29 (fun k=>(fs[k]?).map fun f=>(f.1,f.2.1)) i.z (parts.toList.map fun p=>(p.1,g p.2))).map fun r=>(.agg r,[])
   | .array _ _ esz _=>if i.z.isEmpty then none else (Q29 (fun k=>some (k*esz,esz)) i.z (parts.toList.map fun p=>(p.1,g p.2))).map fun r=>(.agg r,[])
   | _=>none
  | none=>none
 | .call c=>match c.callee with
  | .builtin .min=>match c.args.toList with
   | [x,y]=>match (g x).asInt,(g y).asInt with
    | some (k,a),some (k',b)=>if k=k' then some (.int k fun _=>cond (decide (b ()<a ())) (b ()) (a ()),[]) else none
    | _,_=>none
   | _=>none
  | .builtin .max=>match c.args.toList with
   | [x,y]=>match (g x).asInt,(g y).asInt with
    | some (k,a),some (k',b)=>if k=k' then some (.int k fun _=>cond (decide (a ()<b ())) (b ()) (a ()),[]) else none
    | _,_=>none
   | _=>none
  | .builtin .len=>match c.args.toList,c.argTypes.toList with
   | [x],[T]=>match Km ty T,g x with
    | some (.slice _ _ _),.str _=>none
    | some (.slice _ _ _),y=>(Qkm ge y).map fun r=>(r,[])
    | some .str,.str s=>(Qkm ge (.str s)).map fun r=>(r,[])
    | _,_=>none
   | _,_=>none
  | .value fo=>match g fo with
   | .fn f caps=>match Qf8 cs f with
    | some con=>match Gt ge con.sig (c.args.toList.map g++caps) with
     | some avs=>match con.go avs with
      | some res=>if AV.plain true res.av||(AV.plainL false (c.args.toList.map g++caps)&&AV.plain false res.av) then some (res.av,[res.pre]) else none
      | none=>none
     | none=>none
    | none=>none
   | _=>none
  | _=>none
 | _=>none
end Go.Proofs.YtffeegebohigdaaGreat
