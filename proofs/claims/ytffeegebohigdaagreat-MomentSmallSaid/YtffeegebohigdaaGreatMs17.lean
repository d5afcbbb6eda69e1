/-
  Arguments are read: ships, columns, boxes, slots, loads.
-/
import Derived.Test.YtffeegebohigdaaGreatMs16
import Derived.Maps.OwnSet
set_option linter.unusedVariables false
set_option linter.unusedSimpArgs false
set_option maxRecDepth 100000
set_option maxHeartbeats 4000000
namespace Go.Proofs.YtffeegebohigdaaGreat
open Go.RowKit
structure Kd where
 T:Type
 sg:Sg
 av:(Unit->T)->AV
 to:AV->Option (Unit->T)
 ok:∀ {x f},to x=some f->x=av f
def Qyp (f:FuncId) (pre:Prop) (res:AV):Con:=⟨f,[],fun
 | []=>some ⟨fun _=>pre,res⟩
 | _=>none⟩
theorem Z82 {f:FuncId} {pre:Prop} {res:AV} {avs:List AV} {r:Res} (h:(Qyp f pre res).go avs=some r):avs = []/\r=⟨fun _=>pre,res⟩:=by
 simp only [Qyp] at h;split at h
 case h_2=>cases h
 cases h;exact⟨rfl,rfl⟩
def Yd (f:FuncId) (A:Kd) (pre:(Unit->A.T)->Prop) (res:(Unit->A.T)->AV):Con:=⟨f,[A.sg],fun
 | [x0]=>(A.to x0).bind fun a=>some ⟨fun _=>pre a,res a⟩
 | _=>none⟩
theorem Yk {f:FuncId} {A:Kd} {pre:(Unit->A.T)->Prop} {res:(Unit->A.T)->AV} {avs:List AV} {r:Res} (h:(Yd f A pre res).go avs=some r):∃ (a:A.T),avs = [A.av fun _=>a]/\r=⟨fun _=>pre (fun _=>a),res (fun _=>a)⟩:=by
 simp only [Yd] at h;split at h
 case h_2=>cases h
 simp only [Option.bind_eq_some_iff,Option.some.injEq] at h;obtain⟨a,e0,rfl⟩:=h;obtain rfl:=A.ok e0;exact⟨a (),rfl,rfl⟩
def Ze (f:FuncId) (A B:Kd) (pre:(Unit->A.T)->(Unit->B.T)->Prop) (res:(Unit->A.T)->(Unit->B.T)->AV):Con:=⟨f,[A.sg,B.sg],fun
 | [x0,x1]=>(A.to x0).bind fun a=>(B.to x1).bind fun b=>some ⟨fun _=>pre a b,res a b⟩
 | _=>none⟩
theorem Zf {f:FuncId} {A B:Kd} {pre:(Unit->A.T)->(Unit->B.T)->Prop} {res:(Unit->A.T)->(Unit->B.T)->AV} {avs:List AV} {r:Res} (h:(Ze f A B pre res).go avs=some r):∃ (a:A.T) (b:B.T),avs = [A.av fun _=>a,B.av fun _=>b]/\r=⟨fun _=>pre (fun _=>a) (fun _=>b),res (fun _=>a) (fun _=>b)⟩:=by
 simp only [Ze] at h;split at h
 case h_2=>cases h
 simp only [Option.bind_eq_some_iff,Option.some.injEq] at h;obtain⟨a,e0,b,e1,rfl⟩:=h;obtain rfl:=A.ok e0;obtain rfl:=B.ok e1;exact⟨a (),b (),rfl,rfl⟩
def Q2r (f:FuncId) (A B C:Kd) (pre:(Unit->A.T)->(Unit->B.T)->(Unit->C.T)->Prop) (res:(Unit->A.T)->(Unit->B.T)->(Unit->C.T)->AV):Con:=⟨f,[A.sg,B.sg,C.sg],fun
 | [x0,x1,x2]=>(A.to x0).bind fun a=>(B.to x1).bind fun b=>(C.to x2).bind fun c=>some ⟨fun _=>pre a b c,res a b c⟩
 | _=>none⟩
theorem Q47 {f:FuncId} {A B C:Kd} {pre:(Unit->A.T)->(Unit->B.T)->(Unit->C.T)->Prop} {res:(Unit->A.T)->(Unit->B.T)->(Unit->C.T)->AV} {avs:List AV} {r:Res} (h:(Q2r f A B C pre res).go avs=some r):∃ (a:A.T) (b:B.T) (c:C.T),avs = [A.av fun _=>a,B.av fun _=>b,C.av fun _=>c]/\r=⟨fun _=>pre (fun _=>a) (fun _=>b) (fun _=>c),res (fun _=>a) (fun _=>b) (fun _=>c)⟩:=by
 simp only [Q2r] at h;split at h
 case h_2=>cases h
 simp only [Option.bind_eq_some_iff,Option.some.injEq] at h;obtain⟨a,e0,b,e1,c,e2,rfl⟩:=h;obtain rfl:=A.ok e0;obtain rfl:=B.ok e1;obtain rfl:=C.ok e2;exact⟨a (),b (),c (),rfl,rfl⟩
def Q63 (f:FuncId) (A B C D:Kd) (pre:(Unit->A.T)->(Unit->B.T)->(Unit->C.T)->(Unit->D.T)->Prop) (res:(Unit->A.T)->(Unit->B.T)->(Unit->C.T)->(Unit->D.T)->AV):Con:=⟨f,[A.sg,B.sg,C.sg,D.sg],fun
 | [x0,x1,x2,x3]=>(A.to x0).bind fun a=>(B.to x1).bind fun b=>(C.to x2).bind fun c=>(D.to x3).bind fun d=>some ⟨fun _=>pre a b c d,res a b c d⟩
 | _=>none⟩
theorem Q8t {f:FuncId} {A B C D:Kd} {pre:(Unit->A.T)->(Unit->B.T)->(Unit->C.T)->(Unit->D.T)->Prop} {res:(Unit->A.T)->(Unit->B.T)->(Unit->C.T)->(Unit->D.T)->AV} {avs:List AV} {r:Res} (h:(Q63 f A B C D pre res).go avs=some r):∃ (a:A.T) (b:B.T) (c:C.T) (d:D.T),avs = [A.av fun _=>a,B.av fun _=>b,C.av fun _=>c,D.av fun _=>d]/\r=⟨fun _=>pre (fun _=>a) (fun _=>b) (fun _=>c) (fun _=>d),res (fun _=>a) (fun _=>b) (fun _=>c) (fun _=>d)⟩:=by
 simp only [Q63] at h;split at h
 case h_2=>cases h
 simp only [Option.bind_eq_some_iff,Option.some.injEq] at h;obtain⟨a,e0,b,e1,c,e2,d,e3,rfl⟩:=h;obtain rfl:=A.ok e0;obtain rfl:=B.ok e1;obtain rfl:=C.ok e2;obtain rfl:=D.ok e3;exact⟨a (),b (),c (),d (),rfl,rfl⟩
def Z37 (f:FuncId) (A B C D E:Kd) (pre:(Unit->A.T)->(Unit->B.T)->(Unit->C.T)->(Unit->D.T)->(Unit->E.T)->Prop) (res:(Unit->A.T)->(Unit->B.T)->(Unit->C.T)->(Unit->D.T)->(Unit->E.T)->AV):Con:=⟨f,[A.sg,B.sg,C.sg,D.sg,E.sg],fun
 | [x0,x1,x2,x3,x4]=>(A.to x0).bind fun a=>(B.to x1).bind fun b=>(C.to x2).bind fun c=>(D.to x3).bind fun d=>(E.to x4).bind fun e=>some ⟨fun _=>pre a b c d e,res a b c d e⟩
 | _=>none⟩
theorem Z9q {f:FuncId} {A B C D E:Kd} {pre:(Unit->A.T)->(Unit->B.T)->(Unit->C.T)->(Unit->D.T)->(Unit->E.T)->Prop} {res:(Unit->A.T)->(Unit->B.T)->(Unit->C.T)->(Unit->D.T)->(Unit->E.T)->AV} {avs:List AV} {r:Res} (h:(Z37 f A B C D E pre res).go avs=some r):∃ (a:A.T) (b:B.T) (c:C.T) (d:D.T) (e:E.T),avs = [A.av fun _=>a,B.av fun _=>b,C.av fun _=>c,D.av fun _=>d,E.av fun _=>e]/\r=⟨fun _=>pre (fun _=>a) (fun _=>b) (fun _=>c) (fun _=>d) (fun _=>e),res (fun _=>a) (fun _=>b) (fun _=>c) (fun _=>d) (fun _=>e)⟩:=by
 simp only [Z37] at h;split at h
 case h_2=>cases h
 simp only [Option.bind_eq_some_iff,Option.some.injEq] at h;obtain⟨a,e0,b,e1,c,e2,d,e3,e,e4,rfl⟩:=h;obtain rfl:=A.ok e0;obtain rfl:=B.ok e1;obtain rfl:=C.ok e2;obtain rfl:=D.ok e3;obtain rfl:=E.ok e4;exact⟨a (),b (),c (),d (),e (),rfl,rfl⟩
def Z4u:List Sg := [.int .i64,.str,.int .u8,.bool,.int .i64,.int .i64,.int .i64,.int .u8,.bool]
def Z9j:List Sg:=Z4u ++ [.int .i64,.int .i64,.int .i64]
def Z9k:List Sg := [.int .i64,.int .i64,.int .i64,.int .u8]
def Z4p:List Sg := [.int .i64,.int .i64,.int .u8]
def Z9t:List Sg := [.int .i64,.int .i64,.int .i64,.int .i64]
def Z9a:List Sg := [.int .i64,.int .i64,.bool,.int .i64,.int .i64,.int .i64,.int .i64,.int .i64,.sl .int,.int .i64,.int .i64,.int .i64]
def Z8c:List Sg := [.sl .col,.sl .cov,.int .i64,.int .i64,.int .i64,.int .i64,.sl .hrow,.sl .frm,.sl .tnk,.int .i64,.int .i64,.int .i64,.int .i64]
structure Shp where
 cols:List Col
 covs:List Cov
 lk:Int
 lx:Int
 ly:Int
 lz:Int
 rows:List Q01
 frms:List Frm
 tnks:List Tnk
 m1:Int
 m2:Int
 m3:Int
 m4:Int
def Qad (b:Unit->Box):List AV := [.int .i64 fun _=>(b ()).id,.str fun _=>(b ()).num,.int .u8 fun _=>(b ()).size,.bool fun _=>(b ()).high,.int .i64 fun _=>(b ()).kilos,.int .i64 fun _=>(b ()).load,.int .i64 fun _=>(b ()).dis,.int .u8 fun _=>(b ()).cls,.bool fun _=>(b ()).reefer]
def Z3h (b:Unit->Mid):List AV:=(Qad fun _=>(b ()).box) ++ [.int .i64 fun _=>(b ()).x,.int .i64 fun _=>(b ()).y,.int .i64 fun _=>(b ()).h]
def ldL (b:Unit->Ld):List AV := [.int .i64 fun _=>(b ()).kilos,.int .i64 fun _=>(b ()).x,.int .i64 fun _=>(b ()).y,.int .i64 fun _=>(b ()).z]
def Z3a (b:Unit->Q0):List AV := [.int .i64 fun _=>(b ()).box,.int .i64 fun _=>(b ()).col,.int .i64 fun _=>(b ()).tier,.int .u8 fun _=>(b ()).half]
def Z7v (b:Unit->Za):List AV := [.int .i64 fun _=>(b ()).col,.int .i64 fun _=>(b ()).tier,.int .u8 fun _=>(b ()).half]
def Qwx (b:Unit->Col):List AV := [.int .i64 fun _=>(b ()).bay,.int .i64 fun _=>(b ()).row,.bool fun _=>(b ()).deck,.int .i64 fun _=>(b ()).tiers,.int .i64 fun _=>(b ()).height,.int .i64 fun _=>(b ()).k20,.int .i64 fun _=>(b ()).k40,.int .i64 fun _=>(b ()).lash,.sl false .int fun _=>(b ()).plugs,.int .i64 fun _=>(b ()).x,.int .i64 fun _=>(b ()).y,.int .i64 fun _=>(b ()).z]
def Z4q (b:Unit->Shp):List AV := [.sl false .col fun _=>(b ()).cols,.sl false .cov fun _=>(b ()).covs,.int .i64 fun _=>(b ()).lk,.int .i64 fun _=>(b ()).lx,.int .i64 fun _=>(b ()).ly,.int .i64 fun _=>(b ()).lz,.sl false .hrow fun _=>(b ()).rows,.sl false .frm fun _=>(b ()).frms,.sl false .tnk fun _=>(b ()).tnks,.int .i64 fun _=>(b ()).m1,.int .i64 fun _=>(b ()).m2,.int .i64 fun _=>(b ()).m3,.int .i64 fun _=>(b ()).m4]
def AV.toI:AV->Option (Unit->Int)
 | .int .i64 n=>some n
 | _=>none
def AV.toU8:AV->Option (Unit->Int)
 | .int .u8 n=>some n
 | _=>none
def AV.toB:AV->Option (Unit->Bool)
 | .bool n=>some n
 | _=>none
def AV.toS:AV->Option (Unit->ByteArray)
 | .str n=>some n
 | _=>none
def AV.toCols:AV->Option (Unit->List Col)
 | .sl false .col l=>some l
 | _=>none
def AV.toCovs:AV->Option (Unit->List Cov)
 | .sl false .cov l=>some l
 | _=>none
def AV.toInts:AV->Option (Unit->List Int)
 | .sl false .int l=>some l
 | _=>none
def AV.toBoxes:AV->Option (Unit->List Box)
 | .sl false .box l=>some l
 | _=>none
def AV.toStos:AV->Option (Unit->List Q0)
 | .sl false .stowed l=>some l
 | _=>none
def AV.toSlos:AV->Option (Unit->List Za)
 | .sl false .slot l=>some l
 | _=>none
def AV.toLds:AV->Option (Unit->List Ld)
 | .sl false .ld l=>some l
 | _=>none
def AV.toU8s:AV->Option (Unit->List Int)
 | .sl false .u8 l=>some l
 | _=>none
def AV.toSpns:AV->Option (Unit->List Spn)
 | .sl false .spn l=>some l
 | _=>none
def AV.toMids:AV->Option (Unit->List Mid)
 | .sl false .mid l=>some l
 | _=>none
def AV.toHrows:AV->Option (Unit->List Q01)
 | .sl false .hrow l=>some l
 | _=>none
def AV.toFrms:AV->Option (Unit->List Frm)
 | .sl false .frm l=>some l
 | _=>none
def AV.toTnks:AV->Option (Unit->List Tnk)
 | .sl false .tnk l=>some l
 | _=>none
def AV.toPI:AV->Option (Unit->Int)
 | .pto [.int .i64 n] 0=>some n
 | _=>none
def AV.toFPI (f:FuncId):AV->Option (Unit->Int)
 | .fn g [.pto [.int .i64 n] 0]=>if g=f then some n else none
 | _=>none
theorem AV.toI_ {x:AV} {n:Unit->Int} (h:x.toI=some n):x = .int .i64 n:=by
 unfold AV.toI at h;split at h<;>cases h
 rfl
abbrev kI:Kd:=⟨Int,.int .i64,fun n => .int .i64 n,AV.toI,AV.toI_⟩
theorem AV.toU8_ {x:AV} {n:Unit->Int} (h:x.toU8=some n):x = .int .u8 n:=by
 unfold AV.toU8 at h;split at h<;>cases h
 rfl
abbrev kU8:Kd:=⟨Int,.int .u8,fun n => .int .u8 n,AV.toU8,AV.toU8_⟩
theorem AV.toB_ {x:AV} {n:Unit->Bool} (h:x.toB=some n):x = .bool n:=by
 unfold AV.toB at h;split at h<;>cases h
 rfl
theorem AV.toS_ {x:AV} {n:Unit->ByteArray} (h:x.toS=some n):x = .str n:=by
 unfold AV.toS at h;split at h<;>cases h
 rfl
abbrev kS:Kd:=⟨ByteArray,.str,fun n => .str n,AV.toS,AV.toS_⟩
theorem AV.toCols_ {x:AV} {n:Unit->List Col} (h:x.toCols=some n):x = .sl false .col n:=by
 unfold AV.toCols at h;split at h<;>cases h
 rfl
abbrev Qpq:Kd:=⟨List Col,.sl .col,fun n => .sl false .col n,AV.toCols,AV.toCols_⟩
theorem AV.toCovs_ {x:AV} {n:Unit->List Cov} (h:x.toCovs=some n):x = .sl false .cov n:=by
 unfold AV.toCovs at h;split at h<;>cases h
 rfl
abbrev Qpo:Kd:=⟨List Cov,.sl .cov,fun n => .sl false .cov n,AV.toCovs,AV.toCovs_⟩
theorem AV.toInts_ {x:AV} {n:Unit->List Int} (h:x.toInts=some n):x = .sl false .int n:=by
 unfold AV.toInts at h;split at h<;>cases h
 rfl
abbrev Qlb:Kd:=⟨List Int,.sl .int,fun n => .sl false .int n,AV.toInts,AV.toInts_⟩
theorem AV.toBoxes_ {x:AV} {n:Unit->List Box} (h:x.toBoxes=some n):x = .sl false .box n:=by
 unfold AV.toBoxes at h;split at h<;>cases h
 rfl
abbrev Yw:Kd:=⟨List Box,.sl .box,fun n => .sl false .box n,AV.toBoxes,AV.toBoxes_⟩
theorem AV.toStos_ {x:AV} {n:Unit->List Q0} (h:x.toStos=some n):x = .sl false .stowed n:=by
 unfold AV.toStos at h;split at h<;>cases h
 rfl
abbrev Gk:Kd:=⟨List Q0,.sl .stowed,fun n => .sl false .stowed n,AV.toStos,AV.toStos_⟩
theorem AV.toSlos_ {x:AV} {n:Unit->List Za} (h:x.toSlos=some n):x = .sl false .slot n:=by
 unfold AV.toSlos at h;split at h<;>cases h
 rfl
abbrev Ql6:Kd:=⟨List Za,.sl .slot,fun n => .sl false .slot n,AV.toSlos,AV.toSlos_⟩
theorem AV.toLds_ {x:AV} {n:Unit->List Ld} (h:x.toLds=some n):x = .sl false .ld n:=by
 unfold AV.toLds at h;split at h<;>cases h
 rfl
abbrev Z3c:Kd:=⟨List Ld,.sl .ld,fun n => .sl false .ld n,AV.toLds,AV.toLds_⟩
theorem AV.toU8s_ {x:AV} {n:Unit->List Int} (h:x.toU8s=some n):x = .sl false .u8 n:=by
 unfold AV.toU8s at h;split at h<;>cases h
 rfl
abbrev Z9m:Kd:=⟨List Int,.sl .u8,fun n => .sl false .u8 n,AV.toU8s,AV.toU8s_⟩
theorem AV.toSpns_ {x:AV} {n:Unit->List Spn} (h:x.toSpns=some n):x = .sl false .spn n:=by
 unfold AV.toSpns at h;split at h<;>cases h
 rfl
abbrev Z8m:Kd:=⟨List Spn,.sl .spn,fun n => .sl false .spn n,AV.toSpns,AV.toSpns_⟩
theorem AV.toMids_ {x:AV} {n:Unit->List Mid} (h:x.toMids=some n):x = .sl false .mid n:=by
 unfold AV.toMids at h;split at h<;>cases h
 rfl
abbrev Z96:Kd:=⟨List Mid,.sl .mid,fun n => .sl false .mid n,AV.toMids,AV.toMids_⟩
theorem AV.toHrows_ {x:AV} {n:Unit->List Q01} (h:x.toHrows=some n):x = .sl false .hrow n:=by
 unfold AV.toHrows at h;split at h<;>cases h
 rfl
abbrev Qif:Kd:=⟨List Q01,.sl .hrow,fun n => .sl false .hrow n,AV.toHrows,AV.toHrows_⟩
theorem AV.toFrms_ {x:AV} {n:Unit->List Frm} (h:x.toFrms=some n):x = .sl false .frm n:=by
 unfold AV.toFrms at h;split at h<;>cases h
 rfl
abbrev Qq0:Kd:=⟨List Frm,.sl .frm,fun n => .sl false .frm n,AV.toFrms,AV.toFrms_⟩
theorem AV.toTnks_ {x:AV} {n:Unit->List Tnk} (h:x.toTnks=some n):x = .sl false .tnk n:=by
 unfold AV.toTnks at h;split at h<;>cases h
 rfl
abbrev Qpz:Kd:=⟨List Tnk,.sl .tnk,fun n => .sl false .tnk n,AV.toTnks,AV.toTnks_⟩
theorem AV.toPI_ {x:AV} {n:Unit->Int} (h:x.toPI=some n):x = .pto [.int .i64 n] 0:=by
 unfold AV.toPI at h;split at h<;>cases h
 rfl
abbrev kPI:Kd:=⟨Int,.pto [.int .i64],fun n => .pto [.int .i64 n] 0,AV.toPI,AV.toPI_⟩
theorem AV.toFPI_ {x:AV} {f:FuncId} {n:Unit->Int} (h:x.toFPI f=some n):x = .fn f [.pto [.int .i64 n] 0]:=by
 unfold AV.toFPI at h;split at h
 . split at h<;>cases h
   rename_i h;rw [h]
 . cases h
abbrev Z3v (f:FuncId):Kd:=⟨Int,.fn [.pto [.int .i64]],fun n => .fn f [.pto [.int .i64 n] 0],fun x=>x.toFPI f,AV.toFPI_⟩
def AV.toBox:AV->Option (Unit->Box)
 | .agg [a,b,c,d,e,f,g,h,i]=>a.toI.bind fun a=>b.toS.bind fun b=>c.toU8.bind fun c=>d.toB.bind fun d=>e.toI.bind fun e=>f.toI.bind fun f=>g.toI.bind fun g=>h.toU8.bind fun h=>i.toB.bind fun i=>some fun _=>⟨a (),b (),c (),d (),e (),f (),g (),h (),i ()⟩
 | _=>none
def AV.toMid:AV->Option (Unit->Mid)
 | .agg [a,b,c,d,e,f,g,h,i,x,y,z]=>(AV.toBox (.agg [a,b,c,d,e,f,g,h,i])).bind fun b=>x.toI.bind fun x=>y.toI.bind fun y=>z.toI.bind fun z=>some fun _=>⟨b (),x (),y (),z ()⟩
 | _=>none
def AV.toLd:AV->Option (Unit->Ld)
 | .agg [a,b,c,d]=>a.toI.bind fun a=>b.toI.bind fun b=>c.toI.bind fun c=>d.toI.bind fun d=>some fun _=>⟨a (),b (),c (),d ()⟩
 | _=>none
def AV.toSto:AV->Option (Unit->Q0)
 | .agg [a,b,c,d]=>a.toI.bind fun a=>b.toI.bind fun b=>c.toI.bind fun c=>d.toU8.bind fun d=>some fun _=>⟨a (),b (),c (),d ()⟩
 | _=>none
def AV.toSlo:AV->Option (Unit->Za)
 | .agg [a,b,c]=>a.toI.bind fun a=>b.toI.bind fun b=>c.toU8.bind fun c=>some fun _=>⟨a (),b (),c ()⟩
 | _=>none
def AV.toCol:AV->Option (Unit->Col)
 | .agg [a,b,c,d,e,f,g,h,i,j,k,l]=>a.toI.bind fun a=>b.toI.bind fun b=>c.toB.bind fun c=>d.toI.bind fun d=>e.toI.bind fun e=>f.toI.bind fun f=>g.toI.bind fun g=>h.toI.bind fun h=>i.toInts.bind fun i=>j.toI.bind fun j=>k.toI.bind fun k=>l.toI.bind fun l=>some fun _=>⟨a (),b (),c (),d (),e (),f (),g (),h (),i (),j (),k (),l ()⟩
 | _=>none
def AV.toShip:AV->Option (Unit->Shp)
 | .agg [a,b,c,d,e,f,g,h,i,j,k,l,m]=>a.toCols.bind fun a=>b.toCovs.bind fun b=>c.toI.bind fun c=>d.toI.bind fun d=>e.toI.bind fun e=>f.toI.bind fun f=>g.toHrows.bind fun g=>h.toFrms.bind fun h=>i.toTnks.bind fun i=>j.toI.bind fun j=>k.toI.bind fun k=>l.toI.bind fun l=>m.toI.bind fun m=>some fun _=>⟨a (),b (),c (),d (),e (),f (),g (),h (),i (),j (),k (),l (),m ()⟩
 | _=>none
theorem AV.toBox_ {x:AV} {b:Unit->Box} (h:x.toBox=some b):x = .agg (Qad b):=by
 unfold AV.toBox at h;split at h
 . simp only [Option.bind_eq_some_iff,Option.some.injEq] at h;obtain⟨a,h1,b,h2,c,h3,d,h4,e,h5,f,h6,g,h7,i,h8,j,h9,rfl⟩:=h;rw [AV.toI_ h1,AV.toS_ h2,AV.toU8_ h3,AV.toB_ h4,AV.toI_ h5,AV.toI_ h6,AV.toI_ h7,AV.toU8_ h8,AV.toB_ h9];rfl
 . cases h
abbrev Qhw:Kd:=⟨Box,.agg Z4u,fun b => .agg (Qad b),AV.toBox,AV.toBox_⟩
theorem AV.toMid_ {x:AV} {b:Unit->Mid} (h:x.toMid=some b):x = .agg (Z3h b):=by
 unfold AV.toMid at h;split at h
 . simp only [Option.bind_eq_some_iff,Option.some.injEq] at h;obtain⟨b,h1,x,h2,y,h3,z,h4,rfl⟩:=h;have h5:=AV.toBox_ h1;simp only [AV.agg.injEq] at h5;rw [AV.toI_ h2,AV.toI_ h3,AV.toI_ h4];unfold Z3h;rw [<- show _=Qad b from h5];rfl
 . cases h
abbrev Z9s:Kd:=⟨Mid,.agg Z9j,fun b => .agg (Z3h b),AV.toMid,AV.toMid_⟩
theorem AV.toLd_ {x:AV} {b:Unit->Ld} (h:x.toLd=some b):x = .agg (ldL b):=by
 unfold AV.toLd at h;split at h
 . simp only [Option.bind_eq_some_iff,Option.some.injEq] at h;obtain⟨a,h1,b,h2,c,h3,d,h4,rfl⟩:=h;rw [AV.toI_ h1,AV.toI_ h2,AV.toI_ h3,AV.toI_ h4];rfl
 . cases h
abbrev kLd:Kd:=⟨Ld,.agg Z9t,fun b => .agg (ldL b),AV.toLd,AV.toLd_⟩
theorem AV.toSto_ {x:AV} {b:Unit->Q0} (h:x.toSto=some b):x = .agg (Z3a b):=by
 unfold AV.toSto at h;split at h
 . simp only [Option.bind_eq_some_iff,Option.some.injEq] at h;obtain⟨a,h1,b,h2,c,h3,d,h4,rfl⟩:=h;rw [AV.toI_ h1,AV.toI_ h2,AV.toI_ h3,AV.toU8_ h4];rfl
 . cases h
abbrev Z7b:Kd:=⟨Q0,.agg Z9k,fun b => .agg (Z3a b),AV.toSto,AV.toSto_⟩
theorem AV.toSlo_ {x:AV} {b:Unit->Za} (h:x.toSlo=some b):x = .agg (Z7v b):=by
 unfold AV.toSlo at h;split at h
 . simp only [Option.bind_eq_some_iff,Option.some.injEq] at h;obtain⟨a,h1,b,h2,c,h3,rfl⟩:=h;rw [AV.toI_ h1,AV.toI_ h2,AV.toU8_ h3];rfl
 . cases h
abbrev Q7j:Kd:=⟨Za,.agg Z4p,fun b => .agg (Z7v b),AV.toSlo,AV.toSlo_⟩
theorem AV.toCol_ {x:AV} {b:Unit->Col} (h:x.toCol=some b):x = .agg (Qwx b):=by
 unfold AV.toCol at h;split at h
 . simp only [Option.bind_eq_some_iff,Option.some.injEq] at h;obtain⟨a,h1,b,h2,c,h3,d,h4,e,h5,f,h6,g,h7,i,h8,j,h9,k,h10,l,h11,m,h12,rfl⟩:=h;rw [AV.toI_ h1,AV.toI_ h2,AV.toB_ h3,AV.toI_ h4,AV.toI_ h5,AV.toI_ h6,AV.toI_ h7,AV.toI_ h8,AV.toInts_ h9,AV.toI_ h10,AV.toI_ h11,AV.toI_ h12];rfl
 . cases h
abbrev Qhk:Kd:=⟨Col,.agg Z9a,fun b => .agg (Qwx b),AV.toCol,AV.toCol_⟩
theorem AV.toShip_ {x:AV} {b:Unit->Shp} (h:x.toShip=some b):x = .agg (Z4q b):=by
 unfold AV.toShip at h;split at h
 . simp only [Option.bind_eq_some_iff,Option.some.injEq] at h;obtain⟨a,h1,b,h2,c,h3,d,h4,e,h5,f,h6,g,h7,i,h8,j,h9,k,h10,l,h11,m,h12,n,h13,rfl⟩:=h;rw [AV.toCols_ h1,AV.toCovs_ h2,AV.toI_ h3,AV.toI_ h4,AV.toI_ h5,AV.toI_ h6,AV.toHrows_ h7,AV.toFrms_ h8,AV.toTnks_ h9,AV.toI_ h10,AV.toI_ h11,AV.toI_ h12,AV.toI_ h13];rfl
 . cases h
abbrev Va:Kd:=⟨Shp,.agg Z8c,fun b => .agg (Z4q b),AV.toShip,AV.toShip_⟩
theorem Z6 {P:Program} {fn:Func} {p t:Tmp} {T g:Nat} {w:World} {cs:List Value} (h:fn.results = #[.cell p T,.tmp t]) (tmps:Array Value) (hp:tmps.getD p undef = .pointer (some ⟨g,0,none⟩)) (hl:(loadVar T ⟨g,0,none⟩).run P w = .ok (.agg cs.toArray) w) :
 (results fn tmps).run P w = .ok (.tuple #[.agg cs.toArray,tmps.getD t undef]) w:=by
 have hp':tmps[p]?.getD undef = .pointer (some ⟨g,0,none⟩):=by simpa using hp
 simp [results,h,hp',asAddr,hl]
theorem Qjz {w0 w:World} {M:List Ent} {ops:Array Oper} {rest:List Oper} {o:Oper} {a:Act} {Q:Exit->Act->World->Prop} {T T1 g j:Nat} {cs:List Value} {v:Value} (hgd:o.guard=none) (x y:Operand) (ho:o.op = .store T1 x y) (H:Mem w0 w M) (i:Nat) (hi:M[i]? = some (.box g T cs))
 (hx:a.eval x = .pointer (some ⟨g,j,.none⟩)) (hy:a.eval y=v) (hsz:(Tryz.prog.info? T1).map (·.size)=some 1) (hv:v.cells.toList = [v]) (h1:v.oneCell'=true) (hj:j<cs.length)
 (h:∀ w',Mem w0 w' (M.set i (.box g T (cs.set j v)))->wpList Tryz.prog ops Q rest (a.put o.dst undef) w'):wpList Tryz.prog ops Q (o::rest) a w:=by
 refine Q37 (cs := [v]) hgd x y ho hx hy hsz hv rfl (H.cells hi) (by simp; omega) (by simpa using h1) fun cur' w' hc hs hg' hgr=>h w' (H.put i (.box g T (cs.set j v)) hi hgr ⟨(H.boxlt hi).1,?_⟩ (.inl rfl));have:cur'=(cs.set j v).toArray:=by
  apply Array.ext';rw [hc,List.set_eq_take_append_cons_drop,if_pos hj];simp
 rw [<- this];exact hg'
theorem Mem.alloc2 {w0 w:World} {M:List Ent} (h:Mem w0 w M) (T:Nat) (cs:List Value) (T':Nat) (cs':List Value):Mem w0 ((w.alloc (.cells cs.toArray T)).alloc (.cells cs'.toArray T')) (.box (w.heap.size+1) T' cs' :: .box w.heap.size T cs::M):=by
 have h:=(h.alloc T cs).alloc T' cs';have e:(w.alloc (.cells cs.toArray T)).heap.size=w.heap.size+1:=by simp
 rw [e] at h;exact h
theorem Rd.addr {w:World} {B size:Nat} {A:Option Addr} {css:List (List Value)} (h:Rd w B size A css) (h0:0<css.length):∃ b off,A=some ⟨b,off,none⟩:=by
 obtain⟨b,off,e,_⟩:=h 0 css[0] (List.getElem?_eq_getElem h0);exact⟨b,off,e⟩
def Qfc (n:Int):List Value := [.int .u8 n]
def Q0i (size:Int):List Int:=if size=40 then [0] else if size=20 then [1,2] else []
def Qyj {α:Type} [DecidableEq α] (x : α) (l:List α):Int:=idx (fun y=>decide (x=y)) l
theorem Z5s (A:Option Addr) (c:Nat) (l:List Int) (n:Nat) (hn:n=l.length) (x:Int) (w:World) (hA:Rd w w.heap.size 1 A (l.map Qfc)) (hl:l.length<=1000000000000) :
 Calls Tryz.prog 265 #[.slice A n c,.int .u8 x] w fun e w'=>e = .returned (.int .i64 (Qyj x l))/\w'=w:=by
 have HN:=Lib.hid hn;have HR:=Lib.hid hA;have hl2:n<=1000000000000:=by omega
 clear hA hn hl
 go_enter Tryz.func265,Tryz.ntmps265
 go_wp2
 go_loopw [5,8] (fun _ i wr=>∃ k:Nat,k<=n/\i = .int .i64 k/\(∀ j,(h:j<k)->(h2:j<l.length)->decide (x=l[j])=false)/\wr=w) (fun _ i _=>n - (intOf i).toNat)
 case atStart=>exact⟨0,by omega,rfl,by omega,rfl⟩
 case round =>
  obtain⟨k,hk,rfl,hj,rfl⟩:=hrel;have HJ:=Lib.hid hj;clear hj;by_cases hkn:k=n
  . have hlt:¬ (k:Int)<(n:Int):=by omega
    have HI:Hid (Qyj x l = -1):=Qar (fun j h=>HJ.out j (by have:=HN.out; omega) h);clear hkn hk
    go_wp2
    go_ret
    exact⟨by rw [HI.out]; rfl,rfl⟩
  . have hlt:(k:Int)<(n:Int):=by omega
    have hkl:k<l.length:=by have:=HN.out; omega
    obtain⟨b,off,rfl⟩:=Rd.addr HR.out (by rw [List.length_map]; omega);obtain⟨y,hy⟩:∃ y,y=l[k]:=⟨_,rfl⟩
    have HL:=Lib.hid (Rd.cell (P:=Tryz.prog) HR.out (Below.refl _ _) ct5 (k:=k) (cs:=Qfc y) (by rw [hy]; exact Qh7 Qfc l k hkl) (j:=0) (v := .int .u8 y) rfl (p:=off+k) (by omega));by_cases hxy:x=y
    . have HI:Hid (Qyj x l=k):=Qdz hkl (fun j h=>HJ.out j h (by omega)) (by rw [<- hy]; exact decide_eq_true hxy);have hb:(x==y)=true:=by simpa using hxy
      clear hkn hk hy hxy
      go_wp2_with ((with_reducible refine Z4 5 ?_); refine Q9 rfl _ _ rfl _ rfl _ HL.out ?_)
      go_ret
      exact⟨by rw [HI.out]; rfl,rfl⟩
    . have HJ2:Hid (∀ j,(h:j<k+1)->(h2:j<l.length)->decide (x=l[j])=false):=by
       intro j h h2;rcases Nat.lt_or_ge j k with h3|h3
       . exact HJ.out j h3 h2
       . obtain rfl:j=k:=by omega
         rw [<- hy];exact decide_eq_false hxy
      have hb:(x==y)=false:=by simpa using hxy
      clear HJ hy hxy
      go_wp2_with ((with_reducible refine Z4 5 ?_); refine Q9 rfl _ _ rfl _ rfl _ HL.out ?_)
      go_roundw
      case rel=>exact⟨k+1,by omega,by go_num,HJ2.out,trivial⟩
      case measure=>simp [intOf]; omega
theorem Qyi (A:Option Addr) (c:Nat) (l:List Int) (n:Nat) (hn:n=l.length) (x:Int) (w:World) (hA:Rd w w.heap.size 1 A (l.map Qfc)) (hl:l.length<=1000000000000) :
 Calls Tryz.prog 232 #[.slice A n c,.int .u8 x] w fun e w'=>e = .returned (.bool (l.any fun y=>decide (x=y)))/\w'=w:=by
 have HI:=Lib.hid (Z5s A c l n hn x w hA hl);rw [Qvf];unfold Qyj at HI;generalize idx (fun y=>decide (x=y)) l=z at HI ⊢;clear hA hn hl
 go_enter Tryz.func232,Tryz.ntmps232
 go_wp2_with (go_at_call 265; refine (HI.out).mono ?_; rintro e w2 ⟨rfl,rfl⟩)
 go_ret
 exact⟨by first|rfl|simp,rfl⟩
def Gu (a b:Int):Bool:=decide (a=b)||(decide (a=0)||decide (b=0))
def K0 (a b:Za):Bool:=decide (a.col=b.col)&&(decide (a.tier=b.tier)&&Gu a.half b.half)
def Q1a (x:Za) (l:List Za) (h:Int):Bool:=l.any fun y=>decide ((⟨x.col,x.tier - 1,h⟩:Za)=y)
def Js (x:Za) (l:List Za):Bool:=if x.tier<=0 then true else Q1a x l x.half||(decide (x.half=0)&&(Q1a x l 1&&Q1a x l 2))
def Q6i (s:Int):Int:=if s=20 then 32000 else if s=40 then 40000 else 0
def Q0h (n lo hi:Int):Bool:=decide (lo<=n)&&decide (n<=hi)
def Q2i:ByteArray:=⟨#[]⟩
theorem Z65:Q2i.toList = []:=by unfold Q2i; go_simp
def Yp (b:Box):Nat->Bool
 | 0=>Q0h b.id 1 999999
 | 1=>decide (b.num=Q2i)||Jj b.num
 | 2 => !b.high||decide (b.size=40)
 | 3=>Q0h b.kilos 1 (Q6i b.size)
 | 4=>decide (0<=b.load)&&decide (b.load<b.dis)&&decide (b.dis<20)
 | _=>decide (b.cls<=9)
def G8 (b:Box):Bool:=Yp b 0&&Yp b 1&&Yp b 2&&Yp b 3&&Yp b 4&&Yp b 5
theorem Qjs (n lo hi:Int) (w:World):Calls Tryz.prog 241 #[.int .i64 n,.int .i64 lo,.int .i64 hi] w fun e w'=>e = .returned (.bool (Q0h n lo hi))/\Below w.heap.size w w':=by
 by_cases h1:lo<=n
 . go_enter Tryz.func241,Tryz.ntmps241
   have HW:Hid (Q0h n lo hi=decide (n<=hi)):=by unfold Hid Q0h; simp [h1]
   go_wp2
   go_ret
   exact⟨by rw [HW.out]; rfl,Below.refl _ _⟩
 . go_enter Tryz.func241,Tryz.ntmps241
   have HW:Hid (Q0h n lo hi=false):=by unfold Hid Q0h; simp [h1]
   go_wp2
   go_ret
   exact⟨by rw [HW.out]; rfl,Below.refl _ _⟩
theorem Z25 (s:Int) (w:World):Calls Tryz.prog 246 #[.int .u8 s] w fun e w'=>e = .returned (.int .i64 (Q6i s))/\Below w.heap.size w w':=by
 by_cases h1:s=20
 . subst h1
   go_enter Tryz.func246,Tryz.ntmps246
   go_wp2
   go_ret
   exact⟨rfl,Below.refl _ _⟩
 . by_cases h2:s=40
   . subst h2
     go_enter Tryz.func246,Tryz.ntmps246
     go_wp2
     go_ret
     exact⟨rfl,Below.refl _ _⟩
   . have HK:Hid (Q6i s=0):=by unfold Hid Q6i; simp [h1,h2]
     have b1:(s==20)=false:=by simp [h1]
     have b2:(s==40)=false:=by simp [h2]
     go_enter Tryz.func246,Tryz.ntmps246
     go_wp2
     go_ret
     exact⟨by rw [HK.out]; rfl,Below.refl _ _⟩
section
variable {b:Box} {g:Nat} {w:World}
theorem Z8i (hc:∀ j u,b.cells[j]? = some u->w.cell? ⟨g,j,none⟩=some u):Calls Tryz.prog 240 #[.pointer (some ⟨g,0,none⟩)] w fun e w'=>e = .returned (.bool (Yp b 0))/\Below w.heap.size w w':=by
 have c0:w.cell? ⟨g,0,none⟩=some (.int .i64 b.id):=hc 0 _ rfl;clear hc
 go_enter Tryz.func240,Tryz.ntmps240
 go_wp2_with (go_at_call 241; refine (Qjs _ _ _ _).mono ?_; rintro e w1 ⟨rfl,hb1⟩)
 go_ret
 exact⟨rfl,hb1⟩
theorem Z76 (hc:∀ j u,b.cells[j]? = some u->w.cell? ⟨g,j,none⟩=some u) (hn:b.num.size<=140737488351232):Calls Tryz.prog 242 #[.pointer (some ⟨g,0,none⟩)] w fun e w'=>e = .returned (.bool (Yp b 1))/\Below w.heap.size w w':=by
 have c0:w.cell? ⟨g,1,none⟩=some (.string b.num):=hc 1 _ rfl;have HR:Hid (Yp b 1=(decide (b.num=Q2i)||Jj b.num)):=rfl;clear hc;by_cases hz:b.num=Q2i
 . have hz':b.num=⟨#[]⟩:=hz;rw [hz'] at c0;have HZ:=Lib.hid hz;clear hz hz' hn
   go_enter Tryz.func242,Tryz.ntmps242
   go_wp2
   go_ret
   exact⟨by rw [HR.out,HZ.out]; rfl,Below.refl _ _⟩
 . have hz3:¬ b.num.toList = []:=fun h=>hz (Z0v.mp (h.trans Z65.symm));have hz2:b.num.toList.isEmpty=false:=by simpa using hz3
   have HE:Hid (Yp b 1=Jj b.num):=by unfold Hid; rw [HR.out]; simp [hz]
   clear hz
   go_enter Tryz.func242,Tryz.ntmps242
   go_wp2_with (go_at_call 243; refine (Z0e _ _ hn).mono ?_; rintro e w1 ⟨rfl,hb1⟩)
   go_ret
   exact⟨by rw [HE.out]; rfl,hb1⟩
theorem Z89 (hc:∀ j u,b.cells[j]? = some u->w.cell? ⟨g,j,none⟩=some u):Calls Tryz.prog 244 #[.pointer (some ⟨g,0,none⟩)] w fun e w'=>e = .returned (.bool (Yp b 2))/\Below w.heap.size w w':=by
 have c0:w.cell? ⟨g,2,none⟩=some (.int .u8 b.size):=hc 2 _ rfl;have c1:w.cell? ⟨g,3,none⟩=some (.bool b.high):=hc 3 _ rfl;have HR:Hid (Yp b 2=(!b.high||decide (b.size=40))):=rfl;clear hc
 cases hh:b.high with
 | true =>
  rw [hh] at c1;have HE:Hid (Yp b 2=(b.size==40)):=by unfold Hid; rw [HR.out,hh]; simp; by_cases h:b.size=40<;>simp [h]
  clear hh
  go_enter Tryz.func244,Tryz.ntmps244
  go_wp2
  go_ret
  exact⟨by rw [HE.out]; rfl,Below.refl _ _⟩
 | false =>
  rw [hh] at c1;have HE:Hid (Yp b 2=true):=by unfold Hid; rw [HR.out,hh]; simp
  clear hh
  go_enter Tryz.func244,Tryz.ntmps244
  go_wp2
  go_ret
  exact⟨by rw [HE.out]; rfl,Below.refl _ _⟩
theorem Z7x (hc:∀ j u,b.cells[j]? = some u->w.cell? ⟨g,j,none⟩=some u):Calls Tryz.prog 245 #[.pointer (some ⟨g,0,none⟩)] w fun e w'=>e = .returned (.bool (Yp b 3))/\Below w.heap.size w w':=by
 have c0:w.cell? ⟨g,2,none⟩=some (.int .u8 b.size):=hc 2 _ rfl;have c1:w.cell? ⟨g,4,none⟩=some (.int .i64 b.kilos):=hc 4 _ rfl;have hlt:g<w.heap.size:=block_lt_of_cell c0;clear hc;have HC1:Hid (∀ w',Qe w w'->(loadVar 3 ⟨g,4,none⟩).run Tryz.prog w' = .ok (.int .i64 b.kilos) w'):=fun w' hb=>Gc Tryz.underlying3 rfl ((hb.cell (p:=⟨g,_,none⟩) (by simpa using hlt)).trans c1);have HC2:Hid (∀ w',Qe w w'->(loadVar 5 ⟨g,2,none⟩).run Tryz.prog w' = .ok (.int .u8 b.size) w'):=fun w' hb=>Gc Tryz.underlying5 rfl ((hb.cell (p:=⟨g,_,none⟩) (by simpa using hlt)).trans c0);clear c0 c1
 go_enter Tryz.func245,Tryz.ntmps245
 go_wp2
 refine Q0p (by kernel_rfl) (by kernel_rfl) w.heap.size ?_
 repeat (first|go_big_quiet_skip|(go_big_quiet_want; refine Qi3 3 _ rfl _ rfl _ (fun w' hC=>HC1.out w' hC) ?_; simp only [Act.put,List.setIfInBounds_toArray,List.set_cons_succ,List.set_cons_zero]; go_big_quiet_on)|(go_big_quiet_want; refine Qi3 5 _ rfl _ rfl _ (fun w' hC=>HC2.out w' hC) ?_; simp only [Act.put,List.setIfInBounds_toArray,List.set_cons_succ,List.set_cons_zero]; go_big_quiet_on)|go_big_quiet_step (first|(intro hC; rfl)|(intro hC; exact⟨rfl,rfl⟩)|(intro hC; (with_reducible refine (Z25 _ _).mono ?_); rintro e w1 ⟨rfl,hb1⟩; exact⟨rfl,hC.trans (hb1.mono hC.size)⟩)|(intro hC; (with_reducible refine (Qjs _ _ _ _).mono ?_); rintro e w1 ⟨rfl,hb1⟩; exact⟨rfl,hC.trans (hb1.mono hC.size)⟩)))
 refine wpQuiet_nil ?_;intro w' hC
 go_wp2
 go_ret
 exact⟨rfl,hC⟩
theorem Z7c (hc:∀ j u,b.cells[j]? = some u->w.cell? ⟨g,j,none⟩=some u):Calls Tryz.prog 247 #[.pointer (some ⟨g,0,none⟩)] w fun e w'=>e = .returned (.bool (Yp b 4))/\Below w.heap.size w w':=by
 have c0:w.cell? ⟨g,5,none⟩=some (.int .i64 b.load):=hc 5 _ rfl;have c1:w.cell? ⟨g,6,none⟩=some (.int .i64 b.dis):=hc 6 _ rfl;have HR:Hid (Yp b 4=(decide (0<=b.load)&&decide (b.load<b.dis)&&decide (b.dis<20))):=rfl;clear hc;by_cases h1:0<=b.load
 . by_cases h2:b.load<b.dis
   . have HE:Hid (Yp b 4=decide (b.dis<20)):=by unfold Hid; rw [HR.out]; simp [h1,h2]
     go_enter Tryz.func247,Tryz.ntmps247
     go_wp2
     go_ret
     exact⟨by rw [HE.out]; rfl,Below.refl _ _⟩
   . have HE:Hid (Yp b 4=false):=by unfold Hid; rw [HR.out]; simp [h2]
     go_enter Tryz.func247,Tryz.ntmps247
     go_wp2
     go_ret
     exact⟨by rw [HE.out]; rfl,Below.refl _ _⟩
 . have HE:Hid (Yp b 4=false):=by unfold Hid; rw [HR.out]; simp [h1]
   go_enter Tryz.func247,Tryz.ntmps247
   go_wp2
   go_ret
   exact⟨by rw [HE.out]; rfl,Below.refl _ _⟩
theorem Z7g (hc:∀ j u,b.cells[j]? = some u->w.cell? ⟨g,j,none⟩=some u):Calls Tryz.prog 248 #[.pointer (some ⟨g,0,none⟩)] w fun e w'=>e = .returned (.bool (Yp b 5))/\Below w.heap.size w w':=by
 have c0:w.cell? ⟨g,7,none⟩=some (.int .u8 b.cls):=hc 7 _ rfl;clear hc
 go_enter Tryz.func248,Tryz.ntmps248
 go_wp2
 go_ret
 exact⟨rfl,Below.refl _ _⟩
theorem Z77 {fn:FuncId} {caps:Array Value} {p:Bool} (hcf:∀ w args,(callFunc fn args).run Tryz.prog w = .ok (.enter fn args) w) (hcall:Calls Tryz.prog fn caps w fun e w'=>e = .returned (.bool p)/\Below w.heap.size w w') :
 Calls Tryz.prog 250 #[.func (.func fn) #[] caps] w fun e w'=>e = .returned (.bool (!p))/\Below w.heap.size w w':=by
 have HC:=Lib.hid hcall;clear hcall
 go_enter Tryz.func250,Tryz.ntmps250
 go_wp2_with (first|(refine (HC.out).mono ?_; rintro e w1 ⟨rfl,hb1⟩))
 go_ret
 exact⟨rfl,hb1⟩
end
def Ql4:Nat->FuncId
 | 0=>240
 | 1=>242
 | 2=>244
 | 3=>245
 | 4=>247
 | _=>248
def Qpt (g k:Nat):Value := .func (.func (Ql4 k)) #[] #[.pointer (some ⟨g,0,none⟩)]
theorem Z5t (k:Nat) (w:World) (args:Array Value):(callFunc (Ql4 k) args).run Tryz.prog w = .ok (.enter (Ql4 k) args) w:=by
 unfold Ql4;split<;>go_simp
theorem Z33 {b:Box} {g:Nat} {w:World} (k:Nat) (hk:k<6) (hc:∀ j u,b.cells[j]? = some u->w.cell? ⟨g,j,none⟩=some u) (hn:b.num.size<=140737488351232) :
 Calls Tryz.prog (Ql4 k) #[.pointer (some ⟨g,0,none⟩)] w fun e w'=>e = .returned (.bool (Yp b k))/\Below w.heap.size w w':=by
 have:k=0\/k=1\/k=2\/k=3\/k=4\/k=5:=by omega
 rcases this with rfl|rfl|rfl|rfl|rfl|rfl
 . exact Z8i hc
 . exact Z76 hc hn
 . exact Z89 hc
 . exact Z7x hc
 . exact Z7c hc
 . exact Z7g hc
theorem Z3k {b:Box} (h:∀ k,k<6->Yp b k=true):G8 b=true:=by
 unfold G8;rw [h 0 (by omega),h 1 (by omega),h 2 (by omega),h 3 (by omega),h 4 (by omega),h 5 (by omega)];rfl
theorem Z4m {b:Box} {k:Nat} (hk:k<6) (h:Yp b k=false):G8 b=false:=by
 have:k=0\/k=1\/k=2\/k=3\/k=4\/k=5:=by omega
 unfold G8;rcases this with rfl|rfl|rfl|rfl|rfl|rfl<;>rw [h]<;>simp
theorem Qzc (w:World) (args:Array Value):(callFunc 250 args).run Tryz.prog w = .ok (.enter 250 args) w:=by
 go_simp
theorem Quf (b:Box) (g h c:Nat) (w:World) (hn:b.num.size<=140737488351232) (hb:∀ w',Qe w w'->∀ j u,b.cells[j]? = some u->w'.cell? ⟨g,j,none⟩=some u)
 (hr:∀ w',Qe w w'->∀ k,k<6->w'.cell? ⟨h,k,none⟩=some (Qpt g k)) :
 Calls Tryz.prog 270 #[.slice (some ⟨h,0,none⟩) 6 c,.func (.func 250) #[] #[]] w fun e w'=>(∃ i:Int,e = .returned (.int .i64 i)/\decide (i≥0) = !G8 b)/\Below w.heap.size w w':=by
 have HB:=Lib.hid hb;have HR:=Lib.hid hr;have hcf:=Qzc;clear hb hr
 go_enter Tryz.func270,Tryz.ntmps270
 go_wp2
 go_loopw [5,8] (fun _ i wr=>∃ k:Nat,k<=6/\i = .int .i64 k/\(∀ j,(h:j<k)->Yp b j=true)/\Qe w wr) (fun _ i _=>6 - (intOf i).toNat)
 case atStart=>exact⟨0,by omega,rfl,by omega,Below.refl _ _⟩
 case round =>
  obtain⟨k,hk,rfl,hj,hw⟩:=hrel;have HJ:=Lib.hid hj;clear hj;by_cases hlt:k<6
  . have HL:Hid ((loadVar 50 ⟨h,k,none⟩).run Tryz.prog wr = .ok (Qpt g k) wr):=Gc Tryz.underlying50 rfl (HR.out wr hw k hlt);have HC:=Lib.hid (Z77 (Z5t k) (Z33 k hlt (HB.out wr hw) hn))
    go_wp2_with (first
     | (refine Q9 rfl 50 _ rfl _ rfl _ HL.out ?_)
     | (go_at_call 250; refine (HC.out).mono ?_; rintro e w' ⟨rfl,hb3⟩))
    . have hf:Yp b k=false:=by
       have h9:(!Yp b k)=true:=by assumption
       simpa using h9
      have HD:=Lib.hid (Z4m hlt hf)
      go_ret
      exact⟨⟨_,rfl,by rw [HD.out]; simp⟩,hw.trans (hb3.mono hw.size)⟩
    . have ht:Yp b k=true:=by
       have h9:(!Yp b k)=false:=by assumption
       simpa using h9
      go_roundw
      case rel =>
       refine⟨k+1,by omega,by go_num,fun j h => ?_,hw.trans (hb3.mono hw.size)⟩;rcases Nat.lt_or_ge j k with h3|h3
       . exact HJ.out j h3
       . obtain rfl:j=k:=by omega
         exact ht
      case measure=>simp [intOf]; omega
  . obtain rfl:k=6:=by omega
    have HI:=Lib.hid (Z3k HJ.out)
    go_wp2
    go_ret
    exact⟨⟨_,rfl,by rw [HI.out]; rfl⟩,hw⟩
theorem Qlq (b:Box) (g h c:Nat) (w:World) (hn:b.num.size<=140737488351232) (hb:∀ w',Qe w w'->∀ j u,b.cells[j]? = some u->w'.cell? ⟨g,j,none⟩=some u)
 (hr:∀ w',Qe w w'->∀ k,k<6->w'.cell? ⟨h,k,none⟩=some (Qpt g k)) :
 Calls Tryz.prog 249 #[.slice (some ⟨h,0,none⟩) 6 c,.func (.func 250) #[] #[]] w fun e w'=>e = .returned (.bool (!G8 b))/\Below w.heap.size w w':=by
 have HC:=Lib.hid (Quf b g h c w hn hb hr);clear hb hr
 go_enter Tryz.func249,Tryz.ntmps249
 go_wp2_with (go_at_call 270; refine (HC.out).mono ?_; rintro e w1 ⟨⟨i,rfl,hi⟩,hb1⟩; have HI:=Lib.hid hi; clear hi)
 go_ret
 exact⟨by rw [<- HI.out]; rfl,hb1⟩
abbrev Qlm (b:Box) (w:World):World:=(w.alloc (Obj.cells #[.int .i64 b.id,.string b.num,.int .u8 b.size,.bool b.high,.int .i64 b.kilos,.int .i64 b.load,.int .i64 b.dis,.int .u8 b.cls,.bool b.reefer] 42)).alloc (Obj.cells #[.func (.func 240) #[] #[.pointer (some ⟨w.heap.size,0,none⟩)],.func (.func 242) #[] #[.pointer (some ⟨w.heap.size,0,none⟩)],.func (.func 244) #[] #[.pointer (some ⟨w.heap.size,0,none⟩)],.func (.func 245) #[] #[.pointer (some ⟨w.heap.size,0,none⟩)],.func (.func 247) #[] #[.pointer (some ⟨w.heap.size,0,none⟩)],.func (.func 248) #[] #[.pointer (some ⟨w.heap.size,0,none⟩)]] 50)
set_option maxHeartbeats 1000000 in
theorem Z0a (b:Box) (w:World) (hn:b.num.size<=140737488351232) :
 Calls Tryz.prog 202 #[b.val] w fun e w'=>e = .returned (.bool (G8 b))/\Below w.heap.size w w':=by
 have HB:Hid (Below w.heap.size w (Qlm b w)/\∀ w',Qe (Qlm b w) w'->(∀ j u,b.cells[j]? = some u->w'.cell? ⟨w.heap.size,j,none⟩=some u)/\∀ k,k<6->w'.cell? ⟨w.heap.size+1,k,none⟩=some (Qpt w.heap.size k)):=by
  refine⟨((Below.refl _ _).alloc (Nat.le_refl _) _).alloc (by simp) _,fun w' hb => ?_⟩;have hs:(Qlm b w).heap.size=w.heap.size+2:=Qtq _ _ _;have k0:(Qlm b w).heap[w.heap.size]? = some (.cells #[.int .i64 b.id,.string b.num,.int .u8 b.size,.bool b.high,.int .i64 b.kilos,.int .i64 b.load,.int .i64 b.dis,.int .u8 b.cls,.bool b.reefer] 42 (0,0)):=heap_alloc2_old w _ _;have k1:(Qlm b w).heap[w.heap.size+1]? = some (.cells #[.func (.func 240) #[] #[.pointer (some ⟨w.heap.size,0,none⟩)],.func (.func 242) #[] #[.pointer (some ⟨w.heap.size,0,none⟩)],.func (.func 244) #[] #[.pointer (some ⟨w.heap.size,0,none⟩)],.func (.func 245) #[] #[.pointer (some ⟨w.heap.size,0,none⟩)],.func (.func 247) #[] #[.pointer (some ⟨w.heap.size,0,none⟩)],.func (.func 248) #[] #[.pointer (some ⟨w.heap.size,0,none⟩)]] 50 (0,0)):=heap_alloc2_new w _ _;refine⟨fun j u hu => ?_,fun k hk => ?_⟩
  . rw [cell_of_row w' w.heap.size j _ _ _ ((hb.block _ (by omega)).trans k0)];simpa [Box.cells] using hu
  . rw [cell_of_row w' (w.heap.size+1) k _ _ _ ((hb.block _ (by omega)).trans k1)];have:k=0\/k=1\/k=2\/k=3\/k=4\/k=5:=by omega
    rcases this with rfl|rfl|rfl|rfl|rfl|rfl<;>rfl
 have HC:=Lib.hid (Qlq b w.heap.size (w.heap.size+1) 6 (Qlm b w) hn (fun w' h=>(HB.out.2 w' h).1) (fun w' h=>(HB.out.2 w' h).2))
 go_enter Tryz.func202,Tryz.ntmps202
 go_wp2_with (go_at_call 249; refine (HC.out).mono ?_; rintro e w1 ⟨rfl,hb1⟩)
 go_ret
 exact⟨by simp,HB.out.1.trans (hb1.mono HB.out.1.size)⟩
def Qlj:Box:=⟨0,Q2i,0,false,0,0,0,0,false⟩
def Q19 (id:Int) (b:Box):Bool:=decide (b.id=id)
def Qa (l:List Box) (id:Int):Box×Bool:=match l.find? (Q19 id) with|some b=>(b,true)|none=>(Qlj,false)
def Z9 (b:Box):Int:=if b.high then 2896 else 2591
def hAt (bs:List Box) (col half:Int) (x:Q0):Int:=if x.col=col/\(x.half=half\/x.half=0) then (if (Qa bs x.box).2 then Z9 (Qa bs x.box).1 else 0) else 0
def Qt (bs:List Box) (l:List Q0) (col half:Int):Int:=(l.map (hAt bs col half)).sum
theorem Yf (b:Box):0<=Z9 b/\Z9 b<=2896:=by unfold Z9; split<;>omega
theorem Q7z (bs:List Box) (col half:Int) (x:Q0):0<=hAt bs col half x/\hAt bs col half x<=2896:=by
 unfold hAt;split
 . split
   . exact Yf _
   . omega
 . omega
theorem Q8e (f:Q0->Int) (h:∀ x,0<=f x/\f x<=2896) (l:List Q0):0<=(l.map f).sum/\(l.map f).sum<=2896*(l.length:Int):=by
 induction l with
 | nil=>simp
 | cons x l ih =>
  have:=h x;simp only [List.map_cons,List.sum_cons,List.length_cons];omega
def Qs (x:Q0):Za:=⟨x.col,x.tier,x.half⟩
theorem Qcf {α:Type} {p : α->Bool} {l:List α} {k:Nat} {d : α} (h0:∀ j,j<k->p (l.getD j d)=false) (hk:k<l.length) (h:p (l.getD k d)=true):idx p l=(k:Int):=by
 have e:∀ j,(hj:j<l.length)->l.getD j d=l[j]:=fun j hj=>by rw [List.getD_eq_getElem?_getD,List.getElem?_eq_getElem hj,Option.getD_some]
 exact Qdz hk (fun j h1=>by rw [<- e j (by omega)]; exact h0 j h1) (by rw [<- e k hk]; exact h)
theorem Qck {α:Type} {p : α->Bool} {l:List α} {k:Nat} {d : α} (h0:∀ j,j<k->p (l.getD j d)=false) (hk:l.length<=k):idx p l = -1:=by
 have e:∀ j,(hj:j<l.length)->l.getD j d=l[j]:=fun j hj=>by rw [List.getD_eq_getElem?_getD,List.getElem?_eq_getElem hj,Option.getD_some]
 exact Qar fun j hj=>by rw [<- e j hj]; exact h0 j (by omega)
theorem Vj {p:Nat->Prop} {k:Nat} (h:∀ j,j<k->p j) (hk:p k):∀ j,j<k+1->p j:=fun j hj=>by
 rcases Nat.lt_or_ge j k with h1|h1
 . exact h j h1
 . rw [show j=k by omega]; exact hk
def Qwf {α:Type} (s:Nat) (d : α) (l:List α) (p : α->Bool):Lp where
 X:=Nat
 ov k := [(s,.int .i64 fun _=>(k:Int))]
 oe _ := []
 I k:=k<=l.length/\∀ j,j<k->p (l.getD j d)=false
 μ k _:=l.length - k
 x0:=0
 nx:=some fun k=>k+1
def Qzp:Con:=Ze 231 Qhw kPI (fun _ _=>True) (fun b id => .bool fun _=>Q19 (id ()) (b ()))
theorem Z01:Q7 Tryz.prog Qzp:=by
 refine Qp [] trivial Tryz.func231 (by kernel_rfl) fun avs res h hp => ?_;obtain⟨(b:Box),(id:Int),rfl,rfl⟩:=Zf h;clear h;refine⟨[],?_⟩
 conv=>arg 1; cbv
 simp (maxSteps:=4000000) only [fms];rfl
def Qvv:Con:=Ze 205 Yw (Z3v 231) (fun l _=>(l ()).length<=1000000000000) (fun l id => .int .i64 fun _=>idx (Q19 (id ())) (l ()))
theorem Qwo:Q7 Tryz.prog Qvv:=by
 refine Qp [Qzp] ⟨Z01,trivial⟩ Tryz.func205 (by kernel_rfl) fun avs res h hp => ?_;obtain⟨(l:List Box),(id:Int),rfl,rfl⟩:=Zf h;clear h;have hl:l.length<=1000000000000:=hp;refine⟨[(2,Qwf 8 Tc.box.dflt l (Q19 id))],?_⟩
 conv=>arg 1; cbv
 refine⟨?_,fun (k:Nat) hk => ?_⟩
 . simp (maxSteps:=4000000) only [fms];simp
 have hZhk1:k<=l.length/\∀ j,j<k->(Q19 id) (l.getD j Tc.box.dflt)=false:=hk;have hk1:=hZhk1.1;have hk2:=hZhk1.2
 conv=>arg 1; cbv
 simp (maxSteps:=4000000) only [fms];refine⟨fun g => ?_,fun g=>(Qck hk2 (by omega)).symm⟩;have hlt:k<l.length:=by omega
 exact⟨by omega,trivial,fun h=>(Qcf hk2 hlt h).symm,fun h=>⟨⟨by omega,by omega⟩,⟨⟨hlt,Vj hk2 h⟩,by omega⟩,by omega⟩⟩
theorem Qb2 (l:List Box) (id:Int):(idx (Q19 id) l<0/\Qa l id=(Qlj,false))\/∃ k:Nat,idx (Q19 id) l=(k:Int)/\k<l.length/\Qa l id=(l.getD k Tc.box.dflt,true):=by
 rcases Q33 (Q19 id) l with ⟨h1,h2⟩|⟨k,hk,h1,h2,h3⟩
 . left;refine⟨by omega,?_⟩;unfold Qa;rw [List.find?_eq_none.2 fun x hx=>by rw [h2 x hx]; simp]
 . right;refine⟨k,h1,hk,?_⟩;unfold Qa;rw [h3,List.getD_eq_getElem?_getD,List.getElem?_eq_getElem hk];rfl
def Q9a:Con:=Ze 194 Yw kI (fun l _=>(l ()).length<=1000000000000) (fun l id => .tup [.agg (Qad fun _=>(Qa (l ()) (id ())).1),.bool fun _=>(Qa (l ()) (id ())).2])
theorem Q9m:Q7 Tryz.prog Q9a:=by
 refine Qp [Qvv] ⟨Qwo,trivial⟩ Tryz.func194 (by kernel_rfl) fun avs res h hp => ?_;obtain⟨(l:List Box),(id:Int),rfl,rfl⟩:=Zf h;clear h;have hl:l.length<=1000000000000:=hp;refine⟨[],?_⟩
 conv=>arg 1; cbv
 simp (maxSteps:=4000000) only [fms];rcases Qb2 l id with ⟨h1,h2⟩|⟨k,h1,h2,h3⟩
 . simp only [h2];refine⟨hl,fun _ => ?_,fun g=>absurd h1 g⟩;simp [Qlj,Q2i,Y0]
 . simp only [h1,h3,Int.toNat_natCast];refine⟨hl,fun g=>by omega,fun g => ?_⟩;simp;omega
def Z1l:Con:=Ze 206 Qhw kPI (fun _ _=>True) (fun b id => .bool fun _=>Q19 (id ()) (b ()))
theorem Z17:Q7 Tryz.prog Z1l:=by
 refine Qp [] trivial Tryz.func206 (by kernel_rfl) fun avs res h hp => ?_;obtain⟨(b:Box),(id:Int),rfl,rfl⟩:=Zf h;clear h;refine⟨[],?_⟩
 conv=>arg 1; cbv
 simp (maxSteps:=4000000) only [fms];rfl
def Qvd:Con:=Ze 205 Yw (Z3v 206) (fun l _=>(l ()).length<=1000000000000) (fun l id => .int .i64 fun _=>idx (Q19 (id ())) (l ()))
theorem Qx2:Q7 Tryz.prog Qvd:=by
 refine Qp [Z1l] ⟨Z17,trivial⟩ Tryz.func205 (by kernel_rfl) fun avs res h hp => ?_;obtain⟨(l:List Box),(id:Int),rfl,rfl⟩:=Zf h;clear h;have hl:l.length<=1000000000000:=hp;refine⟨[(2,Qwf 8 Tc.box.dflt l (Q19 id))],?_⟩
 conv=>arg 1; cbv
 refine⟨?_,fun (k:Nat) hk => ?_⟩
 . simp (maxSteps:=4000000) only [fms];simp
 have hZhk1:k<=l.length/\∀ j,j<k->(Q19 id) (l.getD j Tc.box.dflt)=false:=hk;have hk1:=hZhk1.1;have hk2:=hZhk1.2
 conv=>arg 1; cbv
 simp (maxSteps:=4000000) only [fms];refine⟨fun g => ?_,fun g=>(Qck hk2 (by omega)).symm⟩;have hlt:k<l.length:=by omega
 exact⟨by omega,trivial,fun h=>(Qcf hk2 hlt h).symm,fun h=>⟨⟨by omega,by omega⟩,⟨⟨hlt,Vj hk2 h⟩,by omega⟩,by omega⟩⟩
def Qk5:Con:=Ze 138 Yw kI (fun l _=>(l ()).length<=1000000000000) (fun l id => .tup [.agg (Qad fun _=>(Qa (l ()) (id ())).1),.bool fun _=>(Qa (l ()) (id ())).2])
theorem Qp6:Q7 Tryz.prog Qk5:=by
 refine Qp [Qvd] ⟨Qx2,trivial⟩ Tryz.func138 (by kernel_rfl) fun avs res h hp => ?_;obtain⟨(l:List Box),(id:Int),rfl,rfl⟩:=Zf h;clear h;have hl:l.length<=1000000000000:=hp;refine⟨[],?_⟩
 conv=>arg 1; cbv
 simp (maxSteps:=4000000) only [fms];rcases Qb2 l id with ⟨h1,h2⟩|⟨k,h1,h2,h3⟩
 . simp only [h2];refine⟨hl,fun _ => ?_,fun g=>absurd h1 g⟩;simp [Qlj,Q2i,Y0]
 . simp only [h1,h3,Int.toNat_natCast];refine⟨hl,fun g=>by omega,fun g => ?_⟩;simp;omega
def Qv2:Con:=Yd 267 Qhw (fun _=>True) (fun b => .int .i64 fun _=>Z9 (b ()))
theorem Qy8:Q7 Tryz.prog Qv2:=by
 refine Qp [] trivial Tryz.func267 (by kernel_rfl) fun avs res h hp => ?_;obtain⟨(b:Box),rfl,rfl⟩:=Yk h;clear h;refine⟨[],?_⟩
 conv=>arg 1; cbv
 simp (maxSteps:=4000000) only [fms,true_and,and_true,eq_self];refine⟨fun g => ?_,fun g => ?_⟩<;>unfold Z9<;>rw [g]<;>rfl
def Qcn:Con:=Yd 139 Qhw (fun _=>True) (fun b => .int .i64 fun _=>Z9 (b ()))
theorem Qjx:Q7 Tryz.prog Qcn:=by
 refine Qp [] trivial Tryz.func139 (by kernel_rfl) fun avs res h hp => ?_;obtain⟨(b:Box),rfl,rfl⟩:=Yk h;clear h;refine⟨[],?_⟩
 conv=>arg 1; cbv
 simp (maxSteps:=4000000) only [fms,true_and,and_true,eq_self];refine⟨fun g => ?_,fun g => ?_⟩<;>unfold Z9<;>rw [g]<;>rfl
/- slots -/
theorem Z6w {α:Type} (p : α->Bool) (l:List α):decide (0<=idx p l)=l.any p:=by
 rcases Q33 p l with ⟨h1,h2⟩|⟨k,hk,h1,h2,_⟩
 . rw [decide_eq_false (by omega)];symm;rw [List.any_eq_false];exact fun x hx=>by rw [h2 x hx]; simp
 . rw [decide_eq_true (by omega)];symm;rw [List.any_eq_true];exact⟨_,List.getElem_mem hk,h2⟩
def Qka (x y:Za):Bool:=decide (x=y)
def Qno:Con:=Ze 266 Ql6 Q7j (fun l _=>(l ()).length<=1000000000000) (fun l x => .int .i64 fun _=>idx (Qka (x ())) (l ()))
theorem Qqz:Q7 Tryz.prog Qno:=by
 refine Qp [] trivial Tryz.func266 (by kernel_rfl) fun avs res h hp => ?_;obtain⟨(l:List Za),(x:Za),rfl,rfl⟩:=Zf h;clear h;have hl:l.length<=1000000000000:=hp;refine⟨[(2,Qwf 8 Tc.slot.dflt l (Qka x))],?_⟩
 conv=>arg 1; cbv
 refine⟨?_,fun (k:Nat) hk => ?_⟩
 . simp (maxSteps:=4000000) only [fms];simp
 have hZhk1:k<=l.length/\∀ j,j<k->(Qka x) (l.getD j Tc.slot.dflt)=false:=hk;have hk1:=hZhk1.1;have hk2:=hZhk1.2
 conv=>arg 1; cbv
 simp (maxSteps:=4000000) only [fms];have hky:∀ y:Za,([Kx.i .i64 x.col,Kx.i .i64 x.tier,Kx.i .u8 x.half] = [Kx.i .i64 y.col,Kx.i .i64 y.tier,Kx.i .u8 y.half])=(x=y):=fun y=>by
  obtain⟨a,b,c⟩:=x;obtain⟨a2,b2,c2⟩:=y;simp
 refine⟨fun g => ?_,fun g=>(Qck hk2 (by omega)).symm⟩;have hlt:k<l.length:=by omega
 simp only [hky];exact⟨⟨by omega,by omega⟩,fun h=>(Qcf hk2 hlt (decide_eq_true h)).symm,fun h=>⟨by simp only [Q1]; omega,⟨⟨hlt,Vj hk2 (decide_eq_false h)⟩,by omega⟩,by omega⟩⟩
def Qov:Con:=Ze 234 Ql6 Q7j (fun l _=>(l ()).length<=1000000000000) (fun l x => .bool fun _=>(l ()).any (Qka (x ())))
theorem Qs7:Q7 Tryz.prog Qov:=by
 refine Qp [Qno] ⟨Qqz,trivial⟩ Tryz.func234 (by kernel_rfl) fun avs res h hp => ?_;obtain⟨(l:List Za),(x:Za),rfl,rfl⟩:=Zf h;clear h;have hl:l.length<=1000000000000:=hp;refine⟨[],?_⟩
 conv=>arg 1; cbv
 simp (maxSteps:=4000000) only [fms,true_and,and_true,eq_self];exact⟨hl,Z6w (Qka x) l⟩
def AV.toPSlos:AV->Option (Unit->List Za)
 | .pto [.sl false .slot l] 0=>some l
 | _=>none
theorem AV.toPSlos_ {x:AV} {n:Unit->List Za} (h:x.toPSlos=some n):x = .pto [.sl false .slot n] 0:=by
 unfold AV.toPSlos at h;split at h<;>first|(cases h; rfl)|cases h
abbrev Z7e:Kd:=⟨List Za,.pto [.sl .slot],fun n => .pto [.sl false .slot n] 0,AV.toPSlos,AV.toPSlos_⟩
def AV.toPSlo:AV->Option (Unit->Za)
 | .pto [.int .i64 a,.int .i64 b,.int .u8 c] 0=>some fun _=>⟨a (),b (),c ()⟩
 | _=>none
theorem AV.toPSlo_ {x:AV} {n:Unit->Za} (h:x.toPSlo=some n):x = .pto [.int .i64 fun _=>(n ()).col,.int .i64 fun _=>(n ()).tier,.int .u8 fun _=>(n ()).half] 0:=by
 unfold AV.toPSlo at h;split at h<;>first|(cases h; rfl)|cases h
abbrev Z95:Kd:=⟨Za,.pto Z4p,fun n => .pto [.int .i64 fun _=>(n ()).col,.int .i64 fun _=>(n ()).tier,.int .u8 fun _=>(n ()).half] 0,AV.toPSlo,AV.toPSlo_⟩
def Qq2:Con:=Q2r 233 kU8 Z7e Z95 (fun _ l x=>(l ()).length<=1000000000000/\Q1 ((x ()).tier - 1)) (fun h l x => .bool fun _=>Q1a (x ()) (l ()) (h ()))
theorem Qu5:Q7 Tryz.prog Qq2:=by
 refine Qp [Qov] ⟨Qs7,trivial⟩ Tryz.func233 (by kernel_rfl) fun avs res h hp => ?_;obtain⟨(h:Int),(l:List Za),(x:Za),rfl,rfl⟩:=Q47 h;clear h;have hl:l.length<=1000000000000/\Q1 (x.tier - 1):=hp;refine⟨[],?_⟩
 conv=>arg 1; cbv
 simp (maxSteps:=4000000) only [fms,true_and,and_true,eq_self];exact⟨hl.2,hl.1,rfl⟩
def Qv6:Con:=Ze 196 Q7j Ql6 (fun x l=>(l ()).length<=1000000000000/\(x ()).tier<=1000000) (fun x l => .bool fun _=>Js (x ()) (l ()))
theorem Qy1:Q7 Tryz.prog Qv6:=by
 refine Qp [Qq2] ⟨Qu5,trivial⟩ Tryz.func196 (by kernel_rfl) fun avs res h hp => ?_;obtain⟨(x:Za),(l:List Za),rfl,rfl⟩:=Zf h;clear h;have hl:l.length<=1000000000000/\x.tier<=1000000:=hp;refine⟨[],?_⟩
 conv=>arg 1; cbv
 simp (maxSteps:=4000000) only [fms,true_and,and_true,eq_self];refine⟨fun h=>by unfold Js; rw [if_pos h],fun h => ?_⟩;have e:Js x l=(Q1a x l x.half||(decide (x.half=0)&&(Q1a x l 1&&Q1a x l 2))):=if_neg h;have hi:Q1 (x.tier - 1):=by simp only [Q1]; omega
 have ex:(⟨x.col,x.tier,x.half⟩:Za)=x:=rfl;simp only [ex,e];refine⟨⟨hl.1,hi⟩,fun h1=>by simp [h1],fun h1=>⟨fun h0=>⟨⟨hl.1,hi⟩,fun h2=>⟨⟨hl.1,hi⟩,?_⟩,fun h2 => ?_⟩,fun h0=>by simp [h1,h0]⟩⟩ <;>
 . rw [h0] at h1;simp [h0,h1,h2]
def Qne:Con:=Ze 235 kU8 kU8 (fun _ _=>True) (fun a b => .bool fun _=>Gu (a ()) (b ()))
theorem Qq7:Q7 Tryz.prog Qne:=by
 refine Qp [] trivial Tryz.func235 (by kernel_rfl) fun avs res h hp => ?_;obtain⟨(a:Int),(b:Int),rfl,rfl⟩:=Zf h;clear h;refine⟨[],?_⟩
 conv=>arg 1; cbv
 simp (maxSteps:=4000000) only [fms,true_and,and_true,eq_self];exact⟨fun h=>by simp [Gu,h],fun h=>⟨fun h0=>by simp [Gu,h0],fun h0=>by simp [Gu,h,h0]⟩⟩
def Qw9:Con:=Ze 197 Q7j Q7j (fun _ _=>True) (fun x y => .bool fun _=>K0 (x ()) (y ()))
theorem Qxe:Q7 Tryz.prog Qw9:=by
 refine Qp [Qne] ⟨Qq7,trivial⟩ Tryz.func197 (by kernel_rfl) fun avs res h hp => ?_;obtain⟨(x:Za),(y:Za),rfl,rfl⟩:=Zf h;clear h;refine⟨[],?_⟩
 conv=>arg 1; cbv
 simp (maxSteps:=4000000) only [fms,true_and,and_true,eq_self];exact⟨fun h1=>⟨fun h2=>by simp [K0,h1,h2],fun h2=>by simp [K0,h2]⟩,fun h1=>by simp [K0,h1]⟩
def Z94 (bs:List Box) (l:List Q0) (c h:Int):Lp where
 X:=Nat
 ov k := [(16,.int .i64 fun _=>(k:Int)),(9,.int .i64 fun _=>Qt bs (l.take k) c h)]
 oe _ := []
 I k:=k<=l.length
 μ k _:=l.length - k
 x0:=0
 nx:=some fun k=>k+1
def Qc7:Con:=Q63 236 Yw Gk kI kU8 (fun bs l _ _=>(bs ()).length<=1000000000000/\(l ()).length<=1000000) (fun bs l col half => .int .i64 fun _=>Qt (bs ()) (l ()) (col ()) (half ()))
theorem Qhj:Q7 Tryz.prog Qc7:=by
 refine Qp [Q9a,Qv2] ⟨Q9m,Qy8,trivial⟩ Tryz.func236 (by kernel_rfl) fun avs res h hp => ?_;obtain⟨(bs:List Box),(l:List Q0),(col:Int),(half:Int),rfl,rfl⟩:=Q8t h;clear h;have hl:bs.length<=1000000000000/\l.length<=1000000:=hp;refine⟨[(3,Z94 bs l col half)],?_⟩
 conv=>arg 1; cbv
 refine⟨?_,fun (k:Nat) hk => ?_⟩
 . simp (maxSteps:=4000000) only [fms];simp [Qt]
 have hk1:k<=l.length:=hk
 conv=>arg 1; cbv
 simp (maxSteps:=4000000) only [fms,true_and,and_true,eq_self];refine⟨fun g => ?_,fun g=>by rw [List.take_of_length_le (by omega)]⟩;have hlt:k<l.length:=by omega
 have hst:Qt bs (l.take (k+1)) col half=Qt bs (l.take k) col half+hAt bs col half (l.getD k Tc.stowed.dflt):=by
  unfold Qt;rw [show l.take (k+1)=l.take k ++ [l[k]] from by rw [List.take_add_one,List.getElem?_eq_getElem hlt]; rfl,List.map_append,List.sum_append,List.getD_eq_getElem?_getD,List.getElem?_eq_getElem hlt];simp only [List.map_cons,List.map_nil,List.sum_cons,List.sum_nil,Option.getD_some];omega
 have hb:0<=Qt bs (l.take k) col half/\Qt bs (l.take k) col half<=2896*((l.take k).length:Int):=Q8e _ (Q7z bs col half) _;rw [List.length_take] at hb;have htb:=Yf (Qa bs (l.getD k Tc.stowed.dflt).box).1;have et:∀ b:Box,Z9 (⟨b.id,b.num,b.size,b.high,b.kilos,b.load,b.dis,b.cls,b.reefer⟩:Box)=Z9 b:=fun _=>rfl;simp only [et,hst];unfold hAt;generalize Qt bs (l.take k) col half=H at *
 generalize Z9 (Qa bs (l.getD k Tc.stowed.dflt).box).1=T at *
 have h1:∀ P,P->Q1 ((k:Int)+1)/\(k+1<=l.length/\l.length - (k+1)<l.length - k)/\(k:Int)+1=((k+1:Nat):Int)/\P:=fun P h=>⟨by simp only [Q1]; omega,by omega,by omega,h⟩
 have h2:Q1 (H+T):=by simp only [Q1]; omega
 clear hst et hb htb;generalize l.getD k Tc.stowed.dflt=y;refine⟨by omega,fun c=>⟨fun c1=>⟨hl.1,fun c2=>⟨h2,h1 _ ?_⟩,fun c2=>h1 _ ?_⟩,fun c1=>⟨fun c3=>⟨hl.1,fun c2=>⟨h2,h1 _ ?_⟩,fun c2=>h1 _ ?_⟩,fun c3=>h1 _ ?_⟩⟩,fun c=>h1 _ ?_⟩<;>simp [*]
open Go.Maps Go.WideMaps
def Q40 (l:List Box) (k:Nat) (s:ByteArray):Bool:=(l.take k).any (fun b => !decide (b.num=Q2i)&&decide (b.num=s))
def Q1f (l:List Box) (k:Nat):Int:=if k=0 then 0 else (l[k - 1]?.map Box.id).getD 0
def Yo (l:List Box) (k:Nat):Bool :=
 match l[k]? with
 | some b=>Q40 l k b.num||decide (b.id<=Q1f l k) || !G8 b
 | none=>false
def Y5 (l:List Box):Int×Int :=
 if l.length>2000 then (-1,5) else
 match (List.range l.length).find? (Yo l) with
 | some k=>(k,60)
 | none=>(-1,0)
theorem Q9n {l:List Box} {k:Nat} (hl:l.length<=2000) (hk:k<l.length) (hj:∀ j,j<k->Yo l j=false) (h:Yo l k=true):Y5 l=((k:Int),60):=by
 have:(List.range l.length).find? (Yo l)=some k:=by
  rw [List.find?_range_eq_some];exact⟨h,by simpa using hk,fun j hjk=>by simp [hj j hjk]⟩
 unfold Y5;rw [if_neg (by omega),this]
theorem Qc1 {l:List Box} (hl:l.length<=2000) (hj:∀ j,j<l.length->Yo l j=false):Y5 l=(-1,0):=by
 have:(List.range l.length).find? (Yo l)=none:=by
  rw [List.find?_eq_none];intro x hx;rw [hj x (by simpa using hx)];simp
 unfold Y5;rw [if_neg (by omega),this]
theorem Qz3 (l:List Box) (s:ByteArray):Q40 l 0 s=false:=by simp [Q40]
theorem Qwr (l:List Box) (k:Nat) (s:ByteArray) (hk:k<l.length):Q40 l (k+1) s=(Q40 l k s||(!decide (l[k].num=Q2i)&&decide (l[k].num=s))):=by
 unfold Q40;rw [List.take_succ_eq_append_getElem hk,List.any_append];simp only [List.any_cons,List.any_nil,Bool.or_false]
theorem Qub (l:List Box) (k:Nat) (hk:k<l.length):Q1f l (k+1)=l[k].id:=by
 unfold Q1f;simp [hk]
theorem Quu (l:List Box):Q1f l 0=0:=by simp [Q1f]
end Go.Proofs.YtffeegebohigdaaGreat
namespace Go.Proofs.YtffeegebohigdaaGreat
open Go.RowKit
def wOk (n:Int):Bool:=decide (0<=n/\n<=500000000)
def Yb (n m:Int):Bool:=decide (-m<=n/\n<=m)
def Yi (l:Ld):Bool:=wOk l.kilos&&(Yb l.x (l.kilos*1100000)&&(Yb l.y (l.kilos*1100000)&&Yb l.z (l.kilos*1100000)))
def ld0:Ld:=⟨0,0,0,0⟩
def Kr (k x y z:Int):Ld×Int:=if wOk k&&(Yb x 1100000&&(Yb y 1100000&&Yb z 1100000)) then (⟨k,k*x,k*y,k*z⟩,0) else (ld0,2)
theorem Q1n {n:Int}:wOk n=true↔0<=n/\n<=500000000:=decide_eq_true_iff
theorem Ks {n m:Int}:Yb n m=true ↔ -m<=n/\n<=m:=decide_eq_true_iff
theorem Qi0 (n:Int) (w:World):Calls Tryz.prog 74 #[.int .i64 n] w fun e w'=>e = .returned (.bool (wOk n))/\w'=w:=by
 by_cases h1:0<=n
 . by_cases h2:n<=500000000
   . have h3:wOk n=true:=by simp [wOk,h1,h2]
     rw [h3];clear h3
     go_enter Tryz.func74,Tryz.ntmps74
     go_wp2
     go_ret
     exact⟨rfl,rfl⟩
   . have h3:wOk n=false:=by simp [wOk]; omega
     rw [h3];clear h3
     go_enter Tryz.func74,Tryz.ntmps74
     go_wp2
     go_ret
     exact⟨rfl,rfl⟩
 . have h3:wOk n=false:=by simp [wOk]; omega
   rw [h3];clear h3
   go_enter Tryz.func74,Tryz.ntmps74
   go_wp2
   go_ret
   exact⟨rfl,rfl⟩
theorem Q4n (n m:Int) (hm0:0<=m) (hm:m<=4611686018427387904) (w:World):Calls Tryz.prog 97 #[.int .i64 n,.int .i64 m] w fun e w'=>e = .returned (.bool (Yb n m))/\w'=w:=by
 have wn:IntKind.i64.wrap (-m) = -m:=Qk (by omega) (by omega);by_cases h1 : -m<=n
 . by_cases h2:n<=m
   . have h3:Yb n m=true:=by simp [Yb,h1,h2]
     rw [h3];clear h3
     go_enter Tryz.func97,Tryz.ntmps97
     go_wp2
     go_ret
     exact⟨rfl,rfl⟩
   . have h3:Yb n m=false:=by simp [Yb]; omega
     rw [h3];clear h3
     go_enter Tryz.func97,Tryz.ntmps97
     go_wp2
     go_ret
     exact⟨rfl,rfl⟩
 . have h3:Yb n m=false:=by simp [Yb]; omega
   rw [h3];clear h3
   go_enter Tryz.func97,Tryz.ntmps97
   go_wp2
   go_ret
   exact⟨rfl,rfl⟩
set_option maxHeartbeats 1000000 in
theorem Qmx (l:Ld) (w:World):Calls Tryz.prog 73 #[.agg #[.int .i64 l.kilos,.int .i64 l.x,.int .i64 l.y,.int .i64 l.z]] w fun e w'=>e = .returned (.bool (Yi l))/\Qe w w':=by
 obtain⟨k,x,y,z⟩:=l;dsimp only;have HB:Hid (Qe w (w.alloc (.cells #[.int .i64 k,.int .i64 x,.int .i64 y,.int .i64 z] 47))):=(Below.refl _ _).alloc (Nat.le_refl _) _;have HK:=Lib.hid (fun w1=>Qi0 k w1)
 cases hk:wOk k with
 | false =>
  rw [hk] at HK;have hr:Yi ⟨k,x,y,z⟩=false:=by unfold Yi; rw [hk]; rfl
  rw [hr];clear hr hk
  go_enter Tryz.func73,Tryz.ntmps73
  go_wp2_with (go_at_call 74; refine (HK.out _).mono ?_; rintro e wx ⟨rfl,hx⟩; rw [hx]; clear hx wx HK)
  go_ret
  exact⟨rfl,HB.out⟩
 | true =>
  have h1:=Q1n.1 hk;have wm:IntKind.i64.wrap (k*1100000)=k*1100000:=Qk (by omega) (by omega);obtain⟨m,hm⟩:∃ m,m=k*1100000:=⟨_,rfl⟩
  have HX:=Lib.hid (fun w1=>Q4n x m (by omega) (by omega) w1);have HY:=Lib.hid (fun w1=>Q4n y m (by omega) (by omega) w1);have HZ:=Lib.hid (fun w1=>Q4n z m (by omega) (by omega) w1);have hr:Yi ⟨k,x,y,z⟩=(Yb x m&&(Yb y m&&Yb z m)):=by unfold Yi; rw [hk,hm]; rfl
  rw [hk] at HK;rw [hr];rw [<- hm] at wm;have wm2:IntKind.i64.wrap (k*1100000)=m:=by rw [<- hm]; exact wm
  clear hr hk h1 hm wm;generalize Yb x m=bx at HX ⊢;generalize Yb y m=by_ at HY ⊢;generalize Yb z m=bz at HZ ⊢
  cases bx with
  | false =>
   go_enter Tryz.func73,Tryz.ntmps73
   go_wp2_with (first
    | (go_at_call 74; refine (HK.out _).mono ?_; rintro e wx ⟨rfl,hx⟩; rw [hx]; clear hx wx HK)
    | (go_at_call 97; refine (HX.out _).mono ?_; rintro e wx ⟨rfl,hx⟩; rw [hx]; clear hx wx HX)
    | (go_at_call 97; refine (HY.out _).mono ?_; rintro e wx ⟨rfl,hx⟩; rw [hx]; clear hx wx HY)
    | (go_at_call 97; refine (HZ.out _).mono ?_; rintro e wx ⟨rfl,hx⟩; rw [hx]; clear hx wx))
   go_ret
   exact⟨rfl,HB.out⟩
  | true =>
   cases by_ with
   | false =>
    go_enter Tryz.func73,Tryz.ntmps73
    go_wp2_with (first
     | (go_at_call 74; refine (HK.out _).mono ?_; rintro e wx ⟨rfl,hx⟩; rw [hx]; clear hx wx HK)
     | (go_at_call 97; refine (HX.out _).mono ?_; rintro e wx ⟨rfl,hx⟩; rw [hx]; clear hx wx HX)
     | (go_at_call 97; refine (HY.out _).mono ?_; rintro e wx ⟨rfl,hx⟩; rw [hx]; clear hx wx HY)
     | (go_at_call 97; refine (HZ.out _).mono ?_; rintro e wx ⟨rfl,hx⟩; rw [hx]; clear hx wx))
    go_ret
    exact⟨rfl,HB.out⟩
   | true =>
    go_enter Tryz.func73,Tryz.ntmps73
    go_wp2_with (first
     | (go_at_call 74; refine (HK.out _).mono ?_; rintro e wx ⟨rfl,hx⟩; rw [hx]; clear hx wx HK)
     | (go_at_call 97; refine (HX.out _).mono ?_; rintro e wx ⟨rfl,hx⟩; rw [hx]; clear hx wx HX)
     | (go_at_call 97; refine (HY.out _).mono ?_; rintro e wx ⟨rfl,hx⟩; rw [hx]; clear hx wx HY)
     | (go_at_call 97; refine (HZ.out _).mono ?_; rintro e wx ⟨rfl,hx⟩; rw [hx]; clear hx wx))
    go_ret
    exact⟨rfl,HB.out⟩
end Go.Proofs.YtffeegebohigdaaGreat
