/-
  The abstract run: operations on maps of the run's own are sound.
-/
import Derived.Test.YtfdjcakgolenbaaGreatMu20
import Derived.WideKeyEntry
set_option linter.unusedVariables false
set_option linter.unusedSimpArgs false
namespace Go.Proofs.YtfdjcakgolenbaaGreat
open Go.MapKept Go.RowKit
open Go.ChangeMaps (setBlock)
theorem entries_ne {l : List MapEntry} (h : l.Pairwise fun x y => x.key ≠ y.key) {i j : Nat} {x y : MapEntry} (hi : l[i]? = some x) (hj : l[j]? = some y) (hne : i ≠ j) : x.key ≠ y.key := by
 obtain ⟨li, rfl⟩ := List.getElem?_eq_some_iff.1 hi
 obtain ⟨lj, rfl⟩ := List.getElem?_eq_some_iff.1 hj
 rcases Nat.lt_or_gt_of_ne hne with h1 | h1
 · exact List.pairwise_iff_getElem.1 h i j li lj h1
 · exact fun e => List.pairwise_iff_getElem.1 h j i lj li h1 e.symm
section
variable {P : Program} {w w' w0 : World} {ρ ρ' : Nat → Option Rl} {base : Nat} {ro ro' : Nat → Prop} {S0 : Pm} {N : Nat} {B : Bs} {S : Sx} {a : Act} {fr ag : Bool} {c : Kc} {t : Tc}
theorem setM_self {α : Type} (m : List Kx → Option α) (k : List Kx) (x : α) : setM m k x k = some x := by unfold setM; rw [if_pos rfl]
theorem setM_other {α : Type} (m : List Kx → Option α) {k k' : List Kx} (x : α) (h : k' ≠ k) : setM m k x k' = m k' := by unfold setM; rw [if_neg h]
theorem MapR.push {m : List Kx → Option t.el} {es : Array MapEntry} {key : List Kx} {kv val : Value} {born : Nat} {x : t.el} (h : MapR w ρ base ro fr ag c t m es) (hn : ∀ e ∈ es.toList, ¬ keyIs c e.key key) (hk : keyIs c kv key) (hv : AVR w ρ base ro (elAV ag fr t fun _ => x) val) : MapR w ρ base ro fr ag c t (setM m key x) (es.push { key := kv, val := val, born := born }) := by
 refine ⟨fun e he => ?_, fun key' x' hf hm => ?_⟩
 · simp only [Array.toList_push, List.mem_append, List.mem_singleton] at he
   rcases he with he | rfl
   · obtain ⟨key', x', h1, h2, h3⟩ := h.1 e he
     refine ⟨key', x', h1, ?_, h3⟩
     rw [setM_other _ _ (fun e1 => by subst e1; exact hn e he h1)]
     exact h2
   · exact ⟨key, x, hk, setM_self _ _ _, hv⟩
 · by_cases e1 : key' = key
   · subst e1
     exact ⟨⟨kv, val, born⟩, by simp, hk⟩
   · rw [setM_other _ _ e1] at hm
     obtain ⟨e, he, h1⟩ := h.2 key' x' hf hm
     exact ⟨e, by simp only [Array.toList_push, List.mem_append]; exact .inl he, h1⟩
theorem MapR.modify {m : List Kx → Option t.el} {es : Array MapEntry} {clock : Nat} {key : List Kx} {j : Nat} {e : MapEntry} {f : MapEntry → MapEntry} {x : t.el} (h : MapR w ρ base ro fr ag c t m es) (hs : Stamped es clock) (hj : es[j]? = some e) (hk : keyIs c e.key key) (hfk : (f e).key = e.key) (hv : AVR w ρ base ro (elAV ag fr t fun _ => x) (f e).val) : MapR w ρ base ro fr ag c t (setM m key x) (es.modify j f) := by
 have hj' : es.toList[j]? = some e := by simpa using hj
 have hl : (es.modify j f).toList = es.toList.set j (f e) := by rw [Array.toList_modify, ChangeMaps.modify_eq_set _ _ _ _ hj']
 have hst := ((stamped_iff es clock).1 hs).2.2
 have hjl := (List.getElem?_eq_some_iff.1 hj').1
 have hoth : ∀ i e', es.toList[i]? = some e' → i ≠ j → ∀ key', keyIs c e'.key key' → key' ≠ key := by
  intro i e' hi hne key' hk' e1
  subst e1
  exact entries_ne hst hi hj' hne (hk'.1.trans hk.1.symm)
 refine ⟨fun e' he => ?_, fun key' x' hf hm => ?_⟩
 · rw [hl] at he
   obtain ⟨i, hi⟩ := List.mem_iff_getElem?.1 he
   rw [List.getElem?_set] at hi
   split at hi
   · rename_i e1
     subst e1
     first | rw [if_pos hjl] at hi | skip
     injection hi with hi
     subst hi
     exact ⟨key, x, by rw [hfk]; exact hk, setM_self _ _ _, hv⟩
   · rename_i hne
     obtain ⟨key', x', h1, h2, h3⟩ := h.1 e' (List.mem_of_getElem? hi)
     refine ⟨key', x', h1, ?_, h3⟩
     rw [setM_other _ _ (hoth i e' hi (fun e1 => hne e1.symm) key' h1)]
     exact h2
 · rw [hl]
   by_cases e1 : key' = key
   · subst e1
     exact ⟨f e, List.mem_iff_getElem?.2 ⟨j, by rw [List.getElem?_set, if_pos rfl, if_pos hjl]⟩, by rw [hfk]; exact hk⟩
   · rw [setM_other _ _ e1] at hm
     obtain ⟨e', he, h1⟩ := h.2 key' x' hf hm
     obtain ⟨i, hi⟩ := List.mem_iff_getElem?.1 he
     have hne : j ≠ i := fun e2 => by
      subst e2
      rw [hj'] at hi
      injection hi with hi
      subst hi
      exact e1 (keyIs_inj h1 hk)
     exact ⟨e', List.mem_iff_getElem?.2 ⟨i, by rw [List.getElem?_set, if_neg hne]; exact hi⟩, h1⟩
theorem setBlock_size (w : World) (b : Nat) (o : Obj) : (setBlock w b o).heap.size = w.heap.size := by
 unfold setBlock
 simp
theorem setBlock_other (w : World) (b : Nat) (o : Obj) {k : Nat} (h : k ≠ b) : (setBlock w b o).heap[k]? = w.heap[k]? := by
 unfold setBlock
 exact Array.getElem?_setIfInBounds_ne (fun e => h e.symm)
theorem setBlock_self {w : World} {b : Nat} {o o' : Obj} (h : w.heap[b]? = some o') : (setBlock w b o).heap[b]? = some o := by
 have := (Array.getElem?_eq_some_iff.1 h).1
 unfold setBlock
 simp [this]
theorem setBlock_grown (w : World) (b : Nat) (o : Obj) : w.grownBy (setBlock w b o) (some b) :=
 ⟨rfl, rfl, rfl, by rw [setBlock_size]; exact Nat.le_refl _, fun k _ hk => setBlock_other w b o fun e => hk (by rw [e])⟩
theorem SimR.lt (H : SimR w0 S0 N B S a w ρ ro) {loc : Nat} {r : Rl} (h : ρ loc = some r) : loc < S.n := by
 rcases Nat.lt_or_ge loc S.n with h1 | h1
 · exact h1
 · have := H.fresh loc h1; rw [h] at this; cases this
theorem SimR.mapSet (H : SimR w0 S0 N B S a w ρ ro) {loc b clock' T : Nat} {es' : Array MapEntry} {o : Obj} {m : Unit → List Kx → Option t.el} (hb : ρ loc = some (.mp b)) (hh : w.heap[b]? = some o) (hB : alook B.e loc = none) (hr : noRef loc B.e = true) (hs : Stamped es' clock') (hm : MapR w ρ w0.heap.size ro fr ag c t (m ()) es') :
 SimR w0 S0 N B ⟨S.t, (loc, .map fr ag c t T m) :: dropRef loc S.e, S.n⟩ a (setBlock w b (.map es' clock')) ρ ro := by
 obtain ⟨HD, hd⟩ := H.dropped (loc := loc) hr
 have hnro := (H.own loc _ b hb rfl).2.1
 have hw : ∀ b', ro b' → b' < w.heap.size → (setBlock w b (.map es' clock')).heap[b']? = w.heap[b']? := fun b' hb' _ => setBlock_other _ _ _ fun e => hnro (e ▸ hb')
 have H2 := HD.upd (w' := setBlock w b (.map es' clock')) (loc := loc) (n := S.n) (r := .mp b) (e := .map fr ag c t T m) (H.from_.grown (setBlock_grown _ _ _) (H.mine hb rfl)) (by rw [setBlock_size]; exact Nat.le_refl _) (fun b' _ hne => setBlock_other _ _ _ fun e => hne _ hb (by rw [e]; rfl)) (fun b' hb' => .inl ⟨_, hb, hb'⟩) hB (Nat.le_refl _) (H.lt hb) (.inl (by rw [updR_same hb]; exact Ext.refl _)) (.inr hd) (by
  refine ⟨b, es', clock', updR_self _ _ _, setBlock_self hh, hs, ?_⟩
  rw [updR_same hb]
  exact hm.map_ fun x v hx => hx.mono hw (Ext.refl _) (Nat.le_refl _) fun _ h => h)
 rw [updR_same hb] at H2
 exact H2
theorem makeMap_ok (H : Sim w0 S0 N B S a w) {T d : Nat} {S' : Sx} {ty : TypeId} {pos : String} {aft : Array Edge} {gd : Option (Nat × Bool)} (hB : alook B.e S.n = none) (hp : putT B ⟨S.t, (S.n, .map true ag c t T fun _ _ => none) :: S.e, S.n + 1⟩ N d (.mp S.n) = some S') :
 OpM P ⟨some d, .makeMap T none, ty, pos, aft, gd⟩ a w (Sim w0 S0 N B S') := by
 obtain ⟨ρ, ro, H⟩ := H
 have hnone := H.fresh S.n (Nat.le_refl _)
 have hkeep : ∀ b, b < w.heap.size → (w.alloc (.map #[] 0)).heap[b]? = w.heap[b]? := fun b hb => Below.heap_alloc w _ b hb
 have H2 := H.upd (w' := w.alloc (.map #[] 0)) (loc := S.n) (n := S.n + 1) (r := .mp w.heap.size) (e := .map true ag c t T fun _ _ => none) (H.from_.alloc _) (by simp) (fun b hb _ => hkeep b hb) (fun b hb => by
  injection hb with hb
  subst hb
  exact .inr ⟨Nat.le_refl _, by simp⟩) hB (Nat.le_succ _) (Nat.lt_succ_self _) (.inl (ext_new hnone)) (.inl fun b hb => by rw [hnone] at hb; cases hb) ⟨w.heap.size, #[], 0, updR_self _ _ _, heap_alloc_new w _, stamped_empty 0, fun e he => by simp at he, fun key x _ hm => by cases hm⟩
 refine .inl ⟨.map (some w.heap.size), _, ?_, _, _, H2.put hp (.mp _ _ (updR_self _ _ _))⟩
 unfold execOp
 simp only [Instr.makeMap, Sem.run_bind, Sem.run_pure]
 rfl
theorem elOfA_ok {x : AV} {v : Value} {f : Bool} {e : Unit → t.el} (h : elOfA ag t x = some (f, e)) (hx : AVR w ρ base ro x v) : AVR w ρ base ro (elAV ag f t e) v := by
 unfold elOfA at h
 split at h
 · rename_i hc
   simp only [Bool.and_eq_true, Bool.or_eq_true, beq_iff_eq] at hc
   obtain ⟨vs, h1, h2, h3⟩ := elOf_ok h hx
   unfold elAV
   cases ag with
   | true =>
    simp only [if_true]
    have hag : ∃ l, x = .agg l := by
     have := hc.2
     cases x <;> first | exact ⟨_, rfl⟩ | simp [agOk] at this
    obtain ⟨l, rfl⟩ := hag
    obtain ⟨us, rfl, _⟩ := hx.agg_
    have e1 : us = vs := List.toArray_inj h1
    subst e1
    exact .agg _ _ h3.1 h3.2
   | false =>
    simp only [Bool.false_eq_true, if_false]
    have hna : ∀ l, x ≠ .agg l := fun l e1 => by subst e1; simp [agOk] at hc
    have hnu : x ≠ .un := fun e1 => by subst e1; simp [elOf, cellsOf] at h
    have hc1 := cells_one hx hna hnu
    rw [hc1] at h1
    have h1' : ([v] : List Value).toArray = vs.toArray := h1
    have e1 := List.toArray_inj h1'
    subst e1
    have hl := h3.1
    cases hcl : cellsAV f t e with
    | nil => rw [hcl] at hl; cases hl
    | cons y l =>
     rw [hcl] at hl h3
     cases l with
     | cons y2 l => simp at hl
     | nil => exact h3.2 0 y v rfl rfl
 · cases h
theorem MapR.less {fr' : Bool} {m : List Kx → Option t.el} {es : Array MapEntry} (h : MapR w ρ base ro fr ag c t m es) (hf : fr' = true → fr = true) : MapR w ρ base ro fr' ag c t m es :=
 ⟨fun e he => by obtain ⟨key, x, h1, h2, h3⟩ := h.1 e he; exact ⟨key, x, h1, h2, elAV_less h3 hf⟩, h.2⟩
theorem mapUpdate_ok {C : Cx} (hty : TyOk P C.ty) (H : Sim w0 S0 N B S a w) {T T' kt et loc : Nat} {f : Bool} {x i v : Operand} {m : Unit → List Kx → Option t.el} {k : Unit → List Kx} {e : Unit → t.el} {ty : TypeId} {pos : String} {aft : Array Edge} {gd : Option (Nat × Bool)} (hT : tiOf C.ty T = some (.map kt et c t ag)) (hx : getO B S x = .mp loc) (he : lookE B S loc = some (.map fr ag c t T' m)) (hk : keyAV c (getO B S i) = some k) (hel : elOfA ag t (getO B S v) = some (f, e)) (hB : alook B.e loc = none) (hr : noRef loc B.e = true) :
 OpM P ⟨none, .mapUpdate T x i v, ty, pos, aft, gd⟩ a w (Sim w0 S0 N B ⟨S.t, (loc, .map (fr && f) ag c t T' fun _ => setM (m ()) (k ()) (e ())) :: dropRef loc S.e, S.n⟩) := by
 obtain ⟨ρ, ro, H⟩ := H
 obtain ⟨ti, _, hi, htb⟩ := tiOf_ hty hT
 obtain ⟨hu, hkc, _, _⟩ := tyB_map (w := w) (ρ := ρ) (base := w0.heap.size) (ro := ro) htb hi
 have hax := H.get x
 rw [hx] at hax
 obtain ⟨b, hb, hxe⟩ := hax.mp_
 obtain ⟨b', es, clock, hb', hh, hst, hm⟩ := H.en _ _ he
 rw [hb] at hb'
 injection hb' with hb'
 injection hb' with hb'
 subst hb'
 have hkey := keyAV_ok hk (H.get i)
 have hval := elAV_less (fr' := fr && f) (elOfA_ok hel (H.get v)) (by simp only [Bool.and_eq_true]; exact fun h => h.2)
 have hm' := hm.less (fr' := fr && f) (by simp only [Bool.and_eq_true]; exact fun h => h.1)
 have hrun : ∀ w2, (Instr.mapUpdate T (.map (some b)) (a.eval i) (a.eval v)).run P w = .ok () w2 → (execOp a.eval ⟨none, .mapUpdate T x i v, ty, pos, aft, gd⟩).run P w = .ok .skip w2 := by
  intro w2 h
  unfold execOp
  simp only [hxe, Sem.run_bind, h, Result.andThen_ok, Sem.run_pure]
 rcases hm.find (P := P) hkc hkey with ⟨h1, h2, h3⟩ | ⟨j, e0, x0, h1, h2, h3, h4, h5⟩
 · refine .inr (.inl ⟨_, hrun (setBlock w b (.map (es.push ⟨a.eval i, a.eval v, clock⟩) (clock + 1))) ?_, ρ, ro, ?_⟩)
   · have hck := key_check (P := P) (w := w) hkc hkey.2 false
     rw [← hkey.1] at hck
     simp only [Instr.mapUpdate, Sem.run_bind, run_underlying hu, Result.andThen_ok, MapKept.run_getObj_map hh, hck, h1, MapKept.run_setObj_map _ hh]
     rfl
   · exact H.mapSet hb hh hB hr (stamped_push hst fun y hy e1 => h3 y hy (e1 ▸ hkey)) (hm'.push h3 hkey hval)
 · have he0 : e0.key = a.eval i := h3.1.trans hkey.1.symm
   refine .inr (.inl ⟨_, hrun (setBlock w b (.map (es.modify j fun e' => { e' with key := a.eval i, val := a.eval v }) clock)) ?_, ρ, ro, ?_⟩)
   · have hck := key_check (P := P) (w := w) hkc hkey.2 false
     have hks := key_stays (P := P) (w := w) hkey.2
     rw [← hkey.1] at hck hks
     simp only [Instr.mapUpdate, Sem.run_bind, run_underlying hu, Result.andThen_ok, MapKept.run_getObj_map hh, hck, h1, h2, Option.map_some, Option.getD_some, he0, hks, MapKept.run_setObj_map _ hh]
     rfl
   · exact H.mapSet hb hh hB hr (stamped_modify hst _ _ (fun _ _ => rfl) fun e' _ h6 => by rw [h2] at h6; injection h6 with h6; subst h6; exact he0.symm) (hm'.modify hst h2 h3 he0.symm hval)
theorem putT_as {S' : Sx} {d : Nat} {x : AV} (h : putT B S N d x = some S') : S' = ⟨(d, x) :: S.t, S.e, S.n⟩ := by
 unfold putT at h
 split at h
 · cases h
 · cases h; rfl
theorem putT_move {S' : Sx} {d n : Nat} {x : AV} {e : List (Nat × En)} (h : putT B S N d x = some S') : putT B ⟨S.t, e, n⟩ N d x = some ⟨(d, x) :: S.t, e, n⟩ := by
 unfold putT at h ⊢
 split at h
 · cases h
 · rename_i hc
   simp only [hc, Bool.false_eq_true, if_false]
theorem mapEntry_ok {C : Cx} (hty : TyOk P C.ty) (H : Sim w0 S0 N B S a w) {T T' kt et loc d : Nat} {x i : Operand} {m : Unit → List Kx → Option t.el} {k : Unit → List Kx} {S' : Sx} {ty : TypeId} {pos : String} {aft : Array Edge} {gd : Option (Nat × Bool)} (hT : tiOf C.ty T = some (.map kt et c t ag)) (hx : getO B S x = .mp loc) (he : lookE B S loc = some (.map fr ag c t T' m)) (hk : keyAV c (getO B S i) = some k) (hB : alook B.e loc = none) (hr : noRef loc B.e = true) (hBn : alook B.e S.n = none)
 (hp : putT B ⟨S.t, (S.n, .stamp loc c k) :: (loc, .map fr ag c t T' fun _ => setM (m ()) (k ()) ((m () (k ())).getD t.dflt)) :: dropRef loc S.e, S.n + 1⟩ N d (.tup [elAV ag fr t fun _ => (m () (k ())).getD t.dflt, .stamp S.n]) = some S') :
 OpM P ⟨some d, .mapEntry T x i, ty, pos, aft, gd⟩ a w (Sim w0 S0 N B S') := by
 obtain ⟨ρ, ro, H⟩ := H
 obtain ⟨ti, _, hi, htb⟩ := tiOf_ hty hT
 obtain ⟨hu, hkc, _, jt, z, hj, hz, hzr⟩ := tyB_map (w := w) (ρ := ρ) (base := w0.heap.size) (ro := ro) htb hi
 have hax := H.get x
 rw [hx] at hax
 obtain ⟨b, hb, hxe⟩ := hax.mp_
 obtain ⟨b', es, clock, hb', hh, hst, hm⟩ := H.en _ _ he
 rw [hb] at hb'
 injection hb' with hb'
 injection hb' with hb'
 subst hb'
 have hkey := keyAV_ok hk (H.get i)
 have hfin : ∀ (es' : Array MapEntry) (clock' s : Nat) (u : Value), (Instr.mapEntry T (.map (some b)) (a.eval i)).run P w = .ok (.tuple #[u, goInt s]) (setBlock w b (.map es' clock')) → AVR w ρ w0.heap.size ro (elAV ag fr t fun _ => (m () (k ())).getD t.dflt) u → Stamped es' clock' → MapR w ρ w0.heap.size ro fr ag c t (setM (m ()) (k ()) ((m () (k ())).getD t.dflt)) es' → (∃ e ∈ es'.toList, keyIs c e.key (k ()) ∧ e.born = s) → OpM P ⟨some d, .mapEntry T x i, ty, pos, aft, gd⟩ a w (Sim w0 S0 N B S') := by
  intro es' clock' s u hrun hu' hs' hm' hes
  have H1 := H.mapSet (T := T') (m := fun _ => setM (m ()) (k ()) ((m () (k ())).getD t.dflt)) hb hh hB hr hs' hm'
  have hnone := H1.fresh S.n (Nat.le_refl _)
  obtain ⟨e, he1, he2, he3⟩ := hes
  have H2 := H1.upd (w' := setBlock w b (.map es' clock')) (loc := S.n) (n := S.n + 1) (r := .stamp s) (e := .stamp loc c k) H1.from_ (Nat.le_refl _) (fun _ _ _ => rfl) (fun b hb => by cases hb) hBn (Nat.le_succ _) (Nat.lt_succ_self _) (.inl (ext_new hnone)) (.inl fun b hb => by rw [hnone] at hb; cases hb) ⟨b, es', clock', s, e, updR_self _ _ _, ext_new hnone _ _ hb, setBlock_self hh, he1, he2, he3⟩
  have hnro := (H.own loc _ b hb rfl).2.1
  have hu2 : AVR (setBlock w b (.map es' clock')) (updR ρ S.n (.stamp s)) w0.heap.size ro (elAV ag fr t fun _ => (m () (k ())).getD t.dflt) u := hu'.mono (fun b' hb' _ => setBlock_other _ _ _ fun e => hnro (e ▸ hb')) (ext_new hnone) (Nat.le_refl _) fun _ h => h
  have hE : Each (setBlock w b (.map es' clock')) (updR ρ S.n (.stamp s)) w0.heap.size ro [elAV ag fr t fun _ => (m () (k ())).getD t.dflt, .stamp S.n] [u, goInt s] := .cons hu2 (.cons (.stamp _ _ (updR_self _ _ _)) .nil)
  refine .inl ⟨.tuple #[u, goInt s], _, ?_, _, _, H2.put hp (.tup _ _ hE.1 hE.2)⟩
  unfold execOp
  simp only [hxe, Sem.run_bind, hrun, Result.andThen_ok, Sem.run_pure]
 have hck := key_check (P := P) (w := w) hkc hkey.2 false
 have hks := key_stays (P := P) (w := w) hkey.2
 rw [← hkey.1] at hck hks
 rcases hm.find (P := P) hkc hkey with ⟨h1, h2, h3⟩ | ⟨j, e0, x0, h1, h2, h3, h4, h5⟩
 · have hd : (m () (k ())).getD t.dflt = t.dflt := by rw [h2]; rfl
   have hz2 : AVR w ρ w0.heap.size ro (elAV ag fr t fun _ => t.dflt) z := elAV_less hzr fun _ => rfl
   refine hfin (es.push ⟨a.eval i, z, clock⟩) (clock + 1) clock z ?_ (by rw [hd]; exact hz2) (stamped_push hst fun y hy e1 => h3 y hy (e1 ▸ hkey)) (by rw [hd]; exact hm.push h3 hkey hz2) ⟨⟨a.eval i, z, clock⟩, by simp, hkey, rfl⟩
   simp only [Instr.mapEntry, Sem.run_bind, run_underlying hu, Result.andThen_ok, MapKept.run_getObj_map hh, hck, h1, run_zero hj hz, MapKept.run_setObj_map _ hh, Sem.run_pure]
   rfl
 · have hd : (m () (k ())).getD t.dflt = x0 := by rw [h4]; rfl
   have he0 : e0.key = a.eval i := h3.1.trans hkey.1.symm
   have hj' : es.toList[j]? = some e0 := by simpa using h2
   have hjl := (List.getElem?_eq_some_iff.1 hj').1
   refine hfin (es.modify j fun e' => { e' with key := a.eval i }) clock e0.born e0.val ?_ (by rw [hd]; exact h5) (stamped_modify hst _ _ (fun _ _ => rfl) fun e' _ h6 => by rw [h2] at h6; injection h6 with h6; subst h6; exact he0.symm) (by rw [hd]; exact hm.modify hst h2 h3 he0.symm h5) ⟨{ e0 with key := a.eval i }, ?_, hkey, rfl⟩
   · simp only [Instr.mapEntry, Sem.run_bind, run_underlying hu, Result.andThen_ok, MapKept.run_getObj_map hh, hck, h1, h2, Option.map_some, Option.getD_some, he0, hks, MapKept.run_setObj_map _ hh, Sem.run_pure]
     rfl
   · rw [Array.toList_modify, ChangeMaps.modify_eq_set _ _ _ _ hj']
     exact List.mem_iff_getElem?.2 ⟨j, by rw [List.getElem?_set, if_pos rfl, if_pos hjl]⟩
theorem entryStore_ok (H : Sim w0 S0 N B S a w) {T T' loc l2 : Nat} {f : Bool} {x s v : Operand} {m : Unit → List Kx → Option t.el} {k : Unit → List Kx} {e : Unit → t.el} {ty : TypeId} {pos : String} {aft : Array Edge} {gd : Option (Nat × Bool)} (hx : getO B S x = .mp loc) (hs : getO B S s = .stamp l2) (he : lookE B S loc = some (.map fr ag c t T' m)) (he2 : lookE B S l2 = some (.stamp loc c k)) (hel : elOfA ag t (getO B S v) = some (f, e)) (hB : alook B.e loc = none) (hr : noRef loc B.e = true) :
 OpM P ⟨none, .entryStore T x s v, ty, pos, aft, gd⟩ a w (Sim w0 S0 N B ⟨S.t, (loc, .map (fr && f) ag c t T' fun _ => setM (m ()) (k ()) (e ())) :: dropRef loc S.e, S.n⟩) := by
 obtain ⟨ρ, ro, H⟩ := H
 have hax := H.get x
 rw [hx] at hax
 obtain ⟨b, hb, hxe⟩ := hax.mp_
 have has := H.get s
 rw [hs] at has
 obtain ⟨sn, hsn, hse⟩ := has.stamp_
 obtain ⟨b', es, clock, hb', hh, hst, hm⟩ := H.en _ _ he
 rw [hb] at hb'
 injection hb' with hb'
 injection hb' with hb'
 subst hb'
 obtain ⟨b', es', clock', sn', e0, h1, h2, h3, h4, h5, h6⟩ := H.en _ _ he2
 rw [hsn] at h1
 injection h1 with h1
 injection h1 with h1
 subst h1
 rw [hb] at h2
 injection h2 with h2
 injection h2 with h2
 subst h2
 rw [hh] at h3
 injection h3 with h3
 injection h3 with q1 q2
 subst q1; subst q2; subst h6
 have hval := elAV_less (fr' := fr && f) (elOfA_ok hel (H.get v)) (by simp only [Bool.and_eq_true]; exact fun h => h.2)
 have hm' := hm.less (fr' := fr && f) (by simp only [Bool.and_eq_true]; exact fun h => h.1)
 obtain ⟨j, hj⟩ := List.mem_iff_getElem?.1 h4
 have hj' : es[j]? = some e0 := by simpa using hj
 have hst' := (stamped_iff es clock).1 hst
 have hidx := WideElems.findIdx_born hst'.2.1 hj
 have hidx2 : es.findIdx? (fun e => ((e.born : Nat) : Int) == ((e0.born : Nat) : Int)) = some j := by rw [WideElems.findIdx_arr]; exact hidx
 refine .inr (.inl ⟨setBlock w b (.map (es.modify j fun e' => { e' with val := a.eval v }) clock), ?_, ρ, ro, H.mapSet hb hh hB hr (stamped_modify hst _ _ (fun _ _ => rfl) fun _ _ _ => rfl) (hm'.modify hst hj' h5 rfl hval)⟩)
 unfold execOp
 have hai : (asInt (goInt (e0.born : Int))).run P w = .ok (e0.born : Int) w := rfl
 simp only [hxe, hse, Instr.entryStore, Sem.run_bind, MapKept.run_getObj_map hh, Result.andThen_ok, Sem.run_pure, hai, hidx2, MapKept.run_setObj_map _ hh]
 rfl
end
section
variable {P : Program} {w w' w0 : World} {ρ ρ' : Nat → Option Rl} {base : Nat} {ro ro' : Nat → Prop} {S0 : Pm} {N : Nat} {B : Bs} {S : Sx} {a : Act} {fr ag : Bool} {c : Kc} {t : Tc} {K : Sx → Fm}
theorem range_ok {C : Cx} (hty : TyOk P C.ty) (H : Sim w0 S0 N B S a w) {T T' kt et loc d : Nat} {c' : Kc} {t' : Tc} {ag' : Bool} {x : Operand} {m : Unit → List Kx → Option t.el} {S' : Sx} {ty : TypeId} {pos : String} {aft : Array Edge} {gd : Option (Nat × Bool)} (hT : tiOf C.ty T = some (.map kt et c' t' ag')) (hx : getO B S x = .mp loc) (he : lookE B S loc = some (.map fr ag c t T' m)) (hBn : alook B.e S.n = none) (hp : putT B ⟨S.t, S.e, S.n + 1⟩ N d (.it loc S.n) = some S') (hK : ∀ n : Nat, True → (K ⟨S'.t, (S.n, .iter loc c (fun _ => []) fun _ => n) :: S'.e, S'.n⟩).P) :
 OpM P ⟨some d, .range T x, ty, pos, aft, gd⟩ a w fun a' w' => ∃ S', Sim w0 S0 N B S' a' w' ∧ (K S').P := by
 obtain ⟨ρ, ro, H⟩ := H
 obtain ⟨ti, _, hi, htb⟩ := tiOf_ hty hT
 obtain ⟨hu, _, _, _⟩ := tyB_map (w := w) (ρ := ρ) (base := w0.heap.size) (ro := ro) htb hi
 have hax := H.get x
 rw [hx] at hax
 obtain ⟨b, hb, hxe⟩ := hax.mp_
 obtain ⟨b', es, clock, hb', hh, hst, hm⟩ := H.en _ _ he
 rw [hb] at hb'
 injection hb' with hb'
 injection hb' with hb'
 subst hb'
 have hblt := (Array.getElem?_eq_some_iff.1 hh).1
 have hnone := H.fresh S.n (Nat.le_refl _)
 have hkeep : ∀ q, q < w.heap.size → (w.alloc (.mapIter (some b) clock #[] clock)).heap[q]? = w.heap[q]? := fun q hq => Below.heap_alloc w _ q hq
 have hst' := (stamped_iff es clock).1 hst
 have H2 := H.upd (w' := w.alloc (.mapIter (some b) clock #[] clock)) (loc := S.n) (n := S.n + 1) (r := .it w.heap.size) (e := .iter loc c (fun _ => []) fun _ => (Go.leftOf es #[]).size) (H.from_.alloc _) (by simp) (fun q hq _ => hkeep q hq) (fun q hq => by
  injection hq with hq
  subst hq
  exact .inr ⟨Nat.le_refl _, by simp⟩) hBn (Nat.le_succ _) (Nat.lt_succ_self _) (.inl (ext_new hnone)) (.inl fun q hq => by rw [hnone] at hq; cases hq) ⟨b, w.heap.size, es, clock, clock, #[], clock, updR_self _ _ _, ext_new hnone _ _ hb, (hkeep b hblt).trans hh, heap_alloc_new w _, hst'.1, ⟨Nat.le_refl _, Nat.le_refl _⟩, rfl, fun e _ => by simp, fun key r hr => by cases hr⟩
 have hS' := putT_as hp
 have hp2 := putT_move (e := (S.n, .iter loc c (fun _ => []) fun _ => (Go.leftOf es #[]).size) :: S.e) (n := S.n + 1) hp
 have hfin := hK (Go.leftOf es #[]).size trivial
 rw [hS'] at hfin
 refine .inl ⟨.pointer (some ⟨w.heap.size, 0, none⟩), _, ?_, _, ⟨_, _, H2.put hp2 (.it _ _ _ (updR_self _ _ _))⟩, hfin⟩
 unfold execOp
 simp only [Instr.range, hxe, Sem.run_bind, run_underlying hu, Result.andThen_ok, MapKept.run_getObj_map hh, Sem.run_pure]
 rfl
theorem drew_grown {w w1 : World} (h : w1 = w ∨ w1 = w.drew) (r : Nat) (o : Obj) : w.grownBy (setBlock w1 r o) (some r) := by
 rcases h with rfl | rfl
 · exact setBlock_grown _ _ _
 · exact ⟨rfl, rfl, rfl, by rw [setBlock_size]; exact Nat.le_refl _, fun k _ hk => setBlock_other w.drew r o fun e => hk (by rw [e])⟩
theorem next_ok (H : Sim w0 S0 N B S a w) {T loc l2 d : Nat} {x : Operand} {m : Unit → List Kx → Option t.el} {seen : Unit → List (List Kx)} {left : Unit → Nat} {S1 S2 : Sx} {ty : TypeId} {pos : String} {aft : Array Edge} {gd : Option (Nat × Bool)} (hx : getO B S x = .it loc l2) (he : lookE B S loc = some (.map fr ag c t T m)) (hi : lookE B S l2 = some (.iter loc c seen left)) (hB : alook B.e l2 = none) (hp1 : putT B S N d (.tup [.blit false]) = some S1) (hp2 : putT B S N d (.tup [.blit true, .un, .un]) = some S2)
 (hK : (Fm.br (fun _ => left () == 0) (.all Unit (fun _ => ∀ key x, fitsL c.ls key = true → m () key = some x → key ∈ seen ()) fun _ => K S1) (.all (List Kx × Nat) (fun p => fitsL c.ls p.1 = true ∧ (m () p.1).isSome = true ∧ p.1 ∉ seen () ∧ p.2 < left ()) fun p => K ⟨S2.t, (l2, .iter loc c (fun _ => p.1 :: seen ()) fun _ => p.2) :: S2.e, S2.n⟩)).P) :
 OpM P ⟨some d, .next x false, ty, pos, aft, gd⟩ a w fun a' w' => ∃ S', Sim w0 S0 N B S' a' w' ∧ (K S').P := by
 obtain ⟨ρ, ro, H⟩ := H
 have hax := H.get x
 rw [hx] at hax
 obtain ⟨b2, hb2, hxe⟩ := hax.it_
 obtain ⟨b, es, clock, hb, hh, hst, hm⟩ := H.en _ _ he
 obtain ⟨b', b2', es', clock', since, stamps, c0, h1, h2, h3, h4, h5, h6, h7, h8, h9⟩ := H.en _ _ hi
 rw [hb2] at h1
 injection h1 with h1
 injection h1 with h1
 subst h1
 rw [hb] at h2
 injection h2 with h2
 injection h2 with h2
 subst h2
 rw [hh] at h3
 injection h3 with h3
 injection h3 with q1 q2
 subst q1; subst q2
 have hbb : b ≠ b2 := fun e => by
  by_cases hl : loc = l2
  · subst hl
    rw [hb] at hb2
    cases hb2
  · exact H.apart loc l2 _ _ b hl hb hb2 rfl (by rw [e]; rfl)
 obtain ⟨k1, k2⟩ := hK
 have hexec : ∀ v w2, (Instr.next (.pointer (some ⟨b2, 0, none⟩)) false ty).run P w = .ok v w2 → (execOp a.eval ⟨some d, .next x false, ty, pos, aft, gd⟩).run P w = .ok (.value v) w2 := by
  intro v w2 h
  unfold execOp
  simp only [hxe, Sem.run_bind, h, Result.andThen_ok, Sem.run_pure]
 rcases run_next_at (P := P) w ty b2 b since c0 stamps es clock h4 hh h5 h6.1 with ⟨hz, hrun⟩ | ⟨e, he1, w1, hal, hrun⟩
 · have hleft : (left () == 0) = true := by rw [h7, hz]; rfl
   have hall := k1 hleft () fun key y hf hk => by
    obtain ⟨e, he1, he2⟩ := hm.2 key y hf hk
    obtain ⟨key', hk1, hk2⟩ := (h8 e he1).1 (all_seen es stamps hz e he1)
    rw [keyIs_inj he2 hk2]
    exact hk1
   have hE : Each w ρ w0.heap.size ro [.blit false] [.bool false] := .cons (.blit _) .nil
   exact .inl ⟨_, _, hexec _ _ hrun, _, ⟨_, _, H.put hp1 (.tup _ _ hE.1 hE.2)⟩, hall⟩
 · obtain ⟨hem, hes⟩ := mem_left he1
   obtain ⟨key, y, g1, g2, g3⟩ := hm.1 e hem
   have hpos : (left () == 0) = false := by
    rw [h7]
    have : (Go.leftOf es stamps).size ≠ 0 := fun h0 => by
     have h10 : (Go.leftOf es stamps).toList.length = 0 := by simpa using h0
     rw [List.length_eq_zero_iff.1 h10] at he1
     cases he1
    simpa using this
   have hns : key ∉ seen () := fun hk => by
    have := (h8 e hem).2 ⟨key, hk, g1⟩
    rw [hes] at this
    cases this
   have hfin := k2 hpos (key, (Go.leftOf es (stamps.push e.born)).size) ⟨g1.2, by rw [g2]; rfl, hns, by rw [h7]; exact left_shrinks es stamps e he1⟩
   have hh1 : w1.heap[b]? = some (.map es clock) := by rcases hal with rfl | rfl <;> exact hh
   have hh2 : w1.heap[b2]? = some (.mapIter (some b) since stamps c0) := by rcases hal with rfl | rfl <;> exact h4
   have hkeep : ∀ q, q ≠ b2 → (setBlock w1 b2 (.mapIter (some b) since (stamps.push e.born) clock)).heap[q]? = w.heap[q]? := fun q hq => (setBlock_other _ _ _ hq).trans (by rcases hal with rfl | rfl <;> rfl)
   have hst' := (stamped_iff es clock).1 hst
   have hsz : (setBlock w1 b2 (.mapIter (some b) since (stamps.push e.born) clock)).heap.size = w.heap.size := by rw [setBlock_size]; rcases hal with rfl | rfl <;> rfl
   have H2 := H.upd (w' := setBlock w1 b2 (.mapIter (some b) since (stamps.push e.born) clock)) (loc := l2) (n := S.n) (r := .it b2) (e := .iter loc c (fun _ => key :: seen ()) fun _ => (Go.leftOf es (stamps.push e.born)).size) (H.from_.grown (drew_grown hal _ _) (H.mine hb2 rfl)) (by rw [hsz]; exact Nat.le_refl _) (fun q _ hne => hkeep q fun e1 => hne _ hb2 (by rw [e1]; rfl)) (fun q hq => .inl ⟨_, hb2, hq⟩) hB (Nat.le_refl _) (H.lt hb2) (.inl (by rw [updR_same hb2]; exact Ext.refl _)) (.inl fun q hq => by rw [hb2] at hq; cases hq) (by
    refine ⟨b, b2, es, clock, since, stamps.push e.born, clock, updR_self _ _ _, by rw [updR_same hb2]; exact hb, (hkeep b hbb).trans hh, setBlock_self hh2, h5, ⟨Nat.le_trans h6.1 h6.2, Nat.le_refl _⟩, rfl, fun e' he' => ?_, fun key' r' hr => ?_⟩
    · rw [contains_push]
      simp only [Bool.or_eq_true, beq_iff_eq]
      constructor
      · rintro (h | h)
        · obtain ⟨key', q1, q2⟩ := (h8 e' he').1 h
          exact ⟨key', List.mem_cons_of_mem _ q1, q2⟩
        · have : e' = e := born_inj hst'.2.1 he' hem h
          subst this
          exact ⟨key, List.mem_cons_self, g1⟩
      · rintro ⟨key', q1, q2⟩
        rcases List.mem_cons.1 q1 with rfl | q1
        · right
          have : e' = e := Go.entry_eq_of_key hst'.2.2 he' hem (q2.1.trans g1.1.symm)
          rw [this]
        · exact .inl ((h8 e' he').2 ⟨key', q1, q2⟩)
    · injection hr with r1 r2
      subst r1
      exact ⟨rfl, e, hem, by simp, g1⟩)
   rw [updR_same hb2] at H2
   have hS2 := putT_as hp2
   rw [hS2] at hfin
   have hE : Each (setBlock w1 b2 (.mapIter (some b) since (stamps.push e.born) clock)) ρ w0.heap.size ro [.blit true, .un, .un] [.bool true, e.key, e.val] := .cons (.blit _) (.cons (.un _) (.cons (.un _) .nil))
   exact .inl ⟨_, _, hexec _ _ hrun, _, ⟨_, _, H2.put (putT_move hp2) (.tup _ _ hE.1 hE.2)⟩, hfin⟩
end
end Go.Proofs.YtfdjcakgolenbaaGreat
