/-
  Elements of arrays, bytes of texts.
-/
import Derived.Test.YtfdjcakgolenbaaGreatMu14
set_option linter.unusedVariables false
set_option linter.unusedSimpArgs false
namespace Go.Proofs.YtfdjcakgolenbaaGreat
open Go.RowKit
section
variable {P : Program} {r : Operand → Value} {d : Option Nat} {ty : TypeId} {pos : String} {aft : Array Edge} {gd : Option (Nat × Bool)} {u v : Value} {w : World}
variable {ρ : Nat → Option Rl} {base : Nat} {ro : Nat → Prop}
theorem AVR.wide_ {fr : Bool} {t : Tc} {l : Unit → List t.el} {n : Unit → Nat} (h : AVR w ρ base ro (.wide fr t l n) v) : ∃ A c, n () ≤ (l ()).length ∧ AVR w ρ base ro (.sl fr t l) (.slice A (l ()).length c) ∧ v = .slice A (n ()) c := by
 cases h with
 | wide _ _ _ _ A c hn h => exact ⟨A, c, hn, h, rfl⟩
theorem wide_take {fr : Bool} {t : Tc} {l : Unit → List t.el} {n : Unit → Nat} (h : AVR w ρ base ro (.wide fr t l n) v) : AVR w ρ base ro (.sl fr t fun _ => (l ()).take (n ())) v := by
 obtain ⟨A, c, hn, h2, rfl⟩ := h.wide_
 obtain ⟨A', c', css, hl, hc, hr, hro, hfr, hcs, hv⟩ := h2.sl_
 injection hv with e1 e2 e3
 subst e1; subst e3
 have hlen : ((l ()).take (n ())).length = n () := by rw [List.length_take]; omega
 have hnon : css.take (n ()) ≠ [] → css ≠ [] := fun hn e => hn (by rw [e]; simp)
 have key : AVR w ρ base ro (.sl fr t fun _ => (l ()).take (n ())) (.slice A ((l ()).take (n ())).length c) := by
  refine .sl fr t (fun _ => (l ()).take (n ())) A c (css.take (n ())) (by rw [List.length_take, hlen]; omega) (by rw [List.length_take]; omega) (fun k cs hk => ?_) (fun a ha hq => hro a ha (hnon hq)) (fun hf a ha hq => hfr hf a ha (hnon hq)) fun k cs j x v h1 h2 h3 => ?_
  · rw [List.getElem?_take] at hk
    split at hk
    · exact hr k cs hk
    · cases hk
  · rw [List.getElem?_take] at h1
    split at h1
    · rename_i hk
      refine hcs k cs j x v h1 ?_ h3
      have e : ((l ()).take (n ())).getD k t.dflt = (l ()).getD k t.dflt := by rw [List.getD_eq_getElem?_getD, List.getD_eq_getElem?_getD, List.getElem?_take, if_pos hk]
      rw [← e]
      exact h2
    · cases h1
 rwa [hlen] at key
/- elements without what lies behind their slices -/
def AV.thin : AV → AV
 | .sl _ t l => .sl false t l
 | .wide _ t l n => .sl false t fun _ => (l ()).take (n ())
 | x => x
theorem AVR.thin_ {x : AV} (h : AVR w ρ base ro x v) : AVR w ρ base ro x.thin v := by
 cases x <;> first | exact h.loose_ | exact (wide_take h).loose_ | exact h
theorem cvT_cells {t t' : Tc} {f : t.el → t'.el} (h : cvT t t' = some f) (fr : Bool) (x : Unit → t.el) : cellsAV false t' (fun _ => f (x ())) = (cellsAV fr t x).map AV.thin := by
 unfold cvT at h
 split at h <;> first | (cases h; rfl) | cases h
theorem cvT_size {t t' : Tc} {f : t.el → t'.el} (h : cvT t t' = some f) : t'.size = t.size := by
 unfold cvT at h
 split at h <;> first | rfl | cases h
theorem cvW_ok {fr : Bool} {t t' : Tc} {l : Unit → List t.el} {n : Unit → Nat} {av : AV} (h : cvW t t' l n = some av) (hx : AVR w ρ base ro (.wide fr t l n) v) : AVR w ρ base ro av v ∧ AV.plain false av = true := by
 unfold cvW at h
 split at h
 · rename_i f hf
   cases h
   refine ⟨?_, rfl⟩
   have h1 := wide_take hx
   generalize hL : (fun (_ : Unit) => (l ()).take (n ())) = L at h1
   obtain ⟨A, c, css, hl, hc, hr, hro, _, hcs, rfl⟩ := h1.sl_
   have key : AVR w ρ base ro (.sl false t' fun _ => (L ()).map f) (.slice A ((L ()).map f).length c) := by
    refine .sl false t' (fun _ => (L ()).map f) A c css (by rw [List.length_map]; exact hl) hc (by rw [cvT_size hf]; exact hr) hro (fun h => by cases h) fun k cs j x v h1 h2 h3 => ?_
    have hk : k < (L ()).length := by rw [← hl]; exact (List.getElem?_eq_some_iff.1 h1).1
    have e : ((L ()).map f).getD k t'.dflt = f ((L ()).getD k t.dflt) := by simp [List.getD_eq_getElem?_getD, List.getElem?_eq_getElem hk]
    rw [e, cvT_cells hf fr fun _ => (L ()).getD k t.dflt, List.getElem?_map] at h2
    obtain ⟨y, h4, rfl⟩ := Option.map_eq_some_iff.1 h2
    exact (hcs k cs j y v h1 h4 h3).thin_
   rw [List.length_map] at key
   subst hL
   exact key
 · cases h
theorem indexW_ok {T e sz b : Nat} {i : TInf} {x y : Operand} {fr : Bool} {t : Tc} {l : Unit → List t.el} {n : Unit → Nat} {kk : IntKind} {k : Unit → Int} (ht : tyB P T i = true) (hi : i.ti = .slice e sz b) (hs : t.size = sz) (hx : AVR w ρ base ro (.wide fr t l n) (r x)) (hy : r y = .int kk (k ())) (hk : 0 ≤ k () ∧ k () < (n () : Int)) :
 ∃ v, (∀ w', (execOp r ⟨d, .indexAddr T x y, ty, pos, aft, gd⟩).run P w' = .ok (.value v) w') ∧ AVR w ρ base ro (.pto (cellsAV fr t fun _ => (l ()).getD (k ()).toNat t.dflt) 0) v := by
 obtain ⟨_, _, hnl, _⟩ := hx.wide_
 have h1 := wide_take hx
 have hlen : ((l ()).take (n ())).length = n () := by rw [List.length_take]; omega
 obtain ⟨v, h2, h3⟩ := index_ok (d := d) (ty := ty) (pos := pos) (aft := aft) (gd := gd) ht hi hs h1 hy (by rw [hlen]; exact hk)
 refine ⟨v, h2, ?_⟩
 have e : ((l ()).take (n ())).getD (k ()).toNat t.dflt = (l ()).getD (k ()).toNat t.dflt := by rw [List.getD_eq_getElem?_getD, List.getD_eq_getElem?_getD, List.getElem?_take, if_pos (by omega)]
 rw [← e]
 exact h3
theorem sliceH_ok {tb : Tab} (hty : TyOk P tb) {T e sz bb m c : Nat} {i : TInf} {x hi : Operand} {fr : Bool} {t : Tc} {l : Unit → List t.el} {b : Unit → Int} {kk : IntKind} {A : Option Addr} (hT : alook tb T = some i) (hi' : i.ti = .slice e sz bb) (hs : t.size = sz)
 (hx : r x = .slice A m c) (hl : AVR w ρ base ro (.sl fr t l) (.slice A (l ()).length c)) (hb : r hi = .int kk (b ())) (hv : 0 ≤ b () ∧ b () ≤ ((l ()).length : Int)) :
 ∃ v, (execOp r ⟨d, .slice T x none (some hi) none, ty, pos, aft, gd⟩).run P w = .ok (.value v) w ∧ AVR w ρ base ro (.wide fr t l fun _ => (b ()).toNat) v := by
 have hu : P.underlying T = some (.slice (P.elem T)) ∧ ∀ w', (sizeOf (P.elem T)).run P w' = .ok sz w' := by
  obtain ⟨ds, hd, hm⟩ := tyB_desc (hty T i hT)
  rw [hi'] at hm
  cases ds <;> first | (simp [descB] at hm; done) | skip
  rename_i e'
  simp only [descB, Bool.and_eq_true, beq_iff_eq] at hm
  obtain ⟨⟨he, _⟩, hm⟩ := hm
  subst he
  cases hj : P.info? e' with
  | none => rw [hj] at hm; cases hm
  | some j =>
   rw [hj] at hm
   simp only [Bool.and_eq_true, beq_iff_eq] at hm
   have he : P.elem T = e' := by simp [Program.elem, hd]
   rw [he]
   exact ⟨hd, fun w' => by rw [run_sizeOf w' hj]; simp [Program.cellsOf, hj, hm.1.1]⟩
 obtain ⟨hu, hsz⟩ := hu
 obtain ⟨A', c', css, h1, h2, _, _, _, _, hev⟩ := hl.sl_
 injection hev with e1 e2 e3
 subst e1; subst e3
 have hbc : b () ≤ (c : Int) := by omega
 refine ⟨sliced A 0 (b ()).toNat c sz, ?_, ?_⟩
 · unfold execOp
   simp only [hx, run_sliceAt_slice _ _ _ _ _ _ hu, Sem.run_bind, Option.map_none, Option.map_some, hb, run_slice_h w T A m c hu kk (b ()) hv.1 hbc, hsz, Result.andThen_ok, Sem.run_pure]
 · have h4 := slice_sl hl (Nat.zero_le (l ()).length) (Nat.le_refl _)
   have e : (fun (_ : Unit) => ((l ()).take (l ()).length).drop 0) = l := by funext u; simp
   rw [e, hs] at h4
   exact .wide fr t l (fun _ => (b ()).toNat) _ _ (by omega) h4
theorem arr_of {T n e sz : Nat} {a : Bool} {i : TInf} (ht : tyB P T i = true) (hi : i.ti = .array n e sz a) : P.underlying T = some (.array n e) ∧ (∃ j, P.info? e = some j ∧ j.size = sz) ∧ aggB P e = a ∧ ∃ ds, P.underlying e = some ds := by
 obtain ⟨ds, hd, hm⟩ := tyB_desc ht
 rw [hi] at hm
 cases ds <;> first | (simp [descB] at hm; done) | skip
 simp only [descB, Bool.and_eq_true, beq_iff_eq] at hm
 obtain ⟨⟨⟨rfl, rfl⟩, h3⟩, h4, h5⟩ := hm
 refine ⟨hd, ?_, h4, Option.isSome_iff_exists.1 h5⟩
 cases hj : P.info? _ with
 | none => rw [hj] at h3; cases h3
 | some j => rw [hj] at h3; exact ⟨j, rfl, eq_of_beq h3⟩
theorem arrAddr_ok {tb : Tab} (hty : TyOk P tb) {T : Nat} {x y : Operand} {a b av : AV} {vcs : List VC} (h : arrAddr (tiOf tb T) a b = some (av, vcs)) (hx : AVR w ρ base ro a (r x)) (hy : AVR w ρ base ro b (r y)) :
 ∃ v, (∀ w', (execOp r ⟨d, .indexAddr T x y, ty, pos, aft, gd⟩).run P w' = .ok (.value v) w') ∧ AVR w ρ base ro av v := by
 unfold arrAddr at h
 split at h
 · rename_i n e sz ag kk m e1
   split at h
   · rename_i hm
     simp only [Bool.and_eq_true, decide_eq_true_eq] at hm
     obtain ⟨i, _, h1, h2⟩ := tiOf_ hty e1
     obtain ⟨k1, ⟨j, k2, k3⟩, _⟩ := arr_of h2 h1
     cases ha : addOff a (m.toNat * sz) with
     | none => rw [ha] at h; cases h
     | some av' =>
      rw [ha] at h
      cases h
      obtain ⟨b', o, q1, q2⟩ := addOff_ok ha hx
      have em : ((m.toNat : Nat) : Int) = m := by omega
      exact ⟨_, fun w' => ok_indexP (k := m.toNat) q1 (by rw [em]; exact hy.lit_) k1 (by rw [k2]; simp [k3]) (by rw [em]; exact hm.2) rfl, q2⟩
   · cases h
 · cases h
theorem selI_ok {kk : IntKind} {k : Unit → Int} : ∀ {l : List AV} {vs : List Value} {j m : Nat} {f : Unit → Int}, selI kk k j l = some f → Each w ρ base ro l vs → k () = ((j + m : Nat) : Int) → m < l.length → vs[m]? = some (.int kk (f ()))
 | [], _, _, _, _, h, _, _, _ => by cases h
 | x :: l, vs, j, m, f, h, hE, hk, hm => by
  obtain ⟨v, us, rfl, hx, hE'⟩ := hE.head
  unfold selI at h
  split at h
  · rename_i k' a ha
    split at h
    · rename_i hkk
      subst hkk
      have hv := asInt_ ha hx
      split at h
      · cases h
        have : m = 0 := by simpa using hm
        subst this
        rw [hv]
        rfl
      · cases hf : selI k' k (j + 1) l with
        | none => rw [hf] at h; cases h
        | some g =>
         rw [hf] at h
         cases h
         cases m with
         | zero =>
          have : decide (k () = (j : Int)) = true := by rw [decide_eq_true_eq, hk]; rfl
          rw [this, hv]
          rfl
         | succ m =>
          have : decide (k () = (j : Int)) = false := by rw [decide_eq_false_iff_not]; omega
          rw [this, List.getElem?_cons_succ]
          exact selI_ok hf hE' (by rw [hk]; congr 1; omega) (by simpa using hm)
    · cases h
  · cases h
theorem selB_ok {k : Unit → Int} : ∀ {l : List AV} {vs : List Value} {j m : Nat} {f : Unit → Bool}, selB k j l = some f → Each w ρ base ro l vs → k () = ((j + m : Nat) : Int) → m < l.length → vs[m]? = some (.bool (f ()))
 | [], _, _, _, _, h, _, _, _ => by cases h
 | x :: l, vs, j, m, f, h, hE, hk, hm => by
  obtain ⟨v, us, rfl, hx, hE'⟩ := hE.head
  unfold selB at h
  split at h
  · rename_i a ha
    have hv := asBool_ ha hx
    split at h
    · cases h
      have : m = 0 := by simpa using hm
      subst this
      rw [hv]
      rfl
    · cases hf : selB k (j + 1) l with
      | none => rw [hf] at h; cases h
      | some g =>
       rw [hf] at h
       cases h
       cases m with
       | zero =>
        have : decide (k () = (j : Int)) = true := by rw [decide_eq_true_eq, hk]; rfl
        rw [this, hv]
        rfl
       | succ m =>
        have : decide (k () = (j : Int)) = false := by rw [decide_eq_false_iff_not]; omega
        rw [this, List.getElem?_cons_succ]
        exact selB_ok hf hE' (by rw [hk]; congr 1; omega) (by simpa using hm)
  · cases h
theorem selAV_ok {k : Unit → Int} {l : List AV} {vs : List Value} {m : Nat} {av : AV} (h : selAV k l = some av) (hE : Each w ρ base ro l vs) (hk : k () = (m : Int)) (hm : m < l.length) : ∃ v, vs[m]? = some v ∧ AVR w ρ base ro av v := by
 unfold selAV at h
 have hk' : k () = ((0 + m : Nat) : Int) := by rw [hk]; congr 1; omega
 split at h
 all_goals first | cases h; done | skip
 all_goals (rename_i kk _ l)
 · cases hf : selI kk k 0 _ with
   | none => rw [hf] at h; cases h
   | some f => rw [hf] at h; cases h; exact ⟨_, selI_ok hf hE hk' hm, .int _ _⟩
 · cases hf : selI kk k 0 _ with
   | none => rw [hf] at h; cases h
   | some f => rw [hf] at h; cases h; exact ⟨_, selI_ok hf hE hk' hm, .int _ _⟩
 · cases hf : selB k 0 _ with
   | none => rw [hf] at h; cases h
   | some f => rw [hf] at h; cases h; exact ⟨_, selB_ok hf hE hk' hm, .bool _⟩
 · cases hf : selB k 0 _ with
   | none => rw [hf] at h; cases h
   | some f => rw [hf] at h; cases h; exact ⟨_, selB_ok hf hE hk' hm, .bool _⟩
theorem stride_ok {cells : List AV} {vs : List Value} {n esz c : Nat} (hE : Each w ρ base ro cells vs) (hl : cells.length = n * esz) (hc : c < esz) : Each w ρ base ro (stride cells n esz c) ((List.range n).map fun m => vs.getD (m * esz + c) undef) := by
 unfold stride
 refine each_map fun m hm => ?_
 rw [List.mem_range] at hm
 have hlt : m * esz + c < cells.length := by
  rw [hl]
  have : (m + 1) * esz ≤ n * esz := Nat.mul_le_mul_right _ hm
  rw [Nat.add_mul] at this
  omega
 obtain ⟨v, h1, h2⟩ := hE.get (List.getElem?_eq_getElem hlt)
 rw [List.getD_eq_getElem?_getD, List.getElem?_eq_getElem hlt, List.getD_eq_getElem?_getD, h1]
 exact h2
theorem selCells_ok {k : Unit → Int} {cells : List AV} {vs : List Value} {n esz m : Nat} (hE : Each w ρ base ro cells vs) (hl : cells.length = n * esz) (hk : k () = (m : Int)) (hm : m < n) : ∀ {cs : List Nat} {out : List AV}, selCells k cells n esz cs = some out → (∀ c ∈ cs, c < esz) → Each w ρ base ro out (cs.map fun c => vs.getD (m * esz + c) undef)
 | [], out, h, _ => by
  simp only [selCells, Option.some.injEq] at h
  subst h
  exact .nil
 | c :: cs, out, h, hcs => by
  unfold selCells at h
  split at h
  · rename_i x l h1 h2
    cases h
    obtain ⟨v, h3, h4⟩ := selAV_ok h1 (stride_ok hE hl (hcs c (.head _))) hk (by unfold stride; simpa using hm)
    rw [List.getElem?_map, List.getElem?_range hm, Option.map_some, Option.some.injEq] at h3
    refine .cons ?_ (selCells_ok hE hl hk hm h2 fun c hc => hcs c (.tail _ hc))
    show AVR w ρ base ro x (vs.getD (m * esz + c) undef)
    rw [h3]
    exact h4
  · cases h
theorem indexAV_ok {tb : Tab} (hty : TyOk P tb) {T : Nat} {x y : Operand} {a b av : AV} {vcs : List VC} (h : indexAV (tiOf tb T) a b = some (av, vcs)) (hv : ∀ c ∈ vcs, c ()) (hx : AVR w ρ base ro a (r x)) (hy : AVR w ρ base ro b (r y)) :
 ∃ v, (execOp r ⟨d, .index T x y, ty, pos, aft, gd⟩).run P w = .ok (.value v) w ∧ AVR w ρ base ro av v := by
 unfold indexAV at h
 split at h
 · rename_i n e sz ag cells e1
   obtain ⟨i, _, h1, h2⟩ := tiOf_ hty e1
   obtain ⟨k1, ⟨j, k2, k3⟩, k4, k5⟩ := arr_of h2 h1
   obtain ⟨vs, hvs, hE⟩ := hx.agg_
   have hrun : ∀ (kk : IntKind) (m : Nat) v, r y = .int kk (m : Int) → m < n → (part e vs.toArray (m * sz)).run P w = .ok v w → (execOp r ⟨d, .index T x y, ty, pos, aft, gd⟩).run P w = .ok (.value v) w := by
    intro kk m v hyv hmn hp
    have h0 : (0 : Int) ≤ (m : Int) ∧ (m : Int) < (n : Int) := by omega
    unfold execOp
    simp only [hvs, hyv, Instr.index, asIntOf, underlying, sizeOf, typeInfo, Sem.run_bind, Sem.run_pure, Result.andThen_ok, run_program, k1, h0, if_true, and_self, k2, k3, Int.toNat_natCast, hp]
   split at h
   · rename_i kk m
     split at h
     · rename_i hm
       simp only [Bool.and_eq_true, decide_eq_true_eq] at hm
       have em : ((m.toNat : Nat) : Int) = m := by omega
       cases hc : cut ag (m.toNat * sz) sz cells with
       | none => rw [hc] at h; cases h
       | some av' =>
        rw [hc] at h
        cases h
        have hr := fun v => hrun kk m.toNat v (by rw [em]; exact hy.lit_) (by omega)
        unfold cut at hc
        cases hb : ag with
        | true =>
         rw [hb, if_pos rfl] at hc
         split at hc
         · rename_i hlen
           cases hc
           have hd := (hE.drop (m.toNat * sz)).take sz
           exact ⟨_, hr _ (part_ok ⟨j, k2, k3⟩ k5 (fun _ => by rw [← hE.1]; exact hlen) (fun h => by rw [k4, hb] at h; cases h) (fun _ => rfl)), .agg _ _ hd.1 hd.2⟩
         · cases hc
        | false =>
         rw [hb] at hc
         simp only [Bool.false_eq_true, if_false] at hc
         obtain ⟨v, hv1, hv2⟩ := hE.get hc
         exact ⟨v, hr _ (part_ok ⟨j, k2, k3⟩ k5 (fun h => by rw [k4, hb] at h; cases h) (fun _ => hv1) (fun h => by rw [k4, hb] at h; cases h)), hv2⟩
     · cases h
   · rename_i kk k
     split at h
     · rename_i hl
       have hl := eq_of_beq hl
       have hkv : vcs = idxVC k (fun _ => (n : Int)) → 0 ≤ k () ∧ k () < (n : Int) := fun e => hv _ (by rw [e]; exact .head _)
       split at h
       · cases hs : selCells k cells n sz (List.range sz) with
         | none => rw [hs] at h; cases h
         | some out =>
          rw [hs] at h
          cases h
          have hk := hkv rfl
          have em : (((k ()).toNat : Nat) : Int) = k () := by omega
          have hmn : (k ()).toNat < n := by omega
          have hlen : (k ()).toNat * sz + sz ≤ vs.length := by
           rw [← hE.1, hl, ← Nat.succ_mul]
           exact Nat.mul_le_mul_right _ hmn
          have hO := selCells_ok hE hl em.symm hmn hs fun c hc => List.mem_range.1 hc
          have e3 : ((List.range sz).map fun c => vs.getD ((k ()).toNat * sz + c) undef) = (vs.drop ((k ()).toNat * sz)).take sz := by
           apply List.ext_getElem?
           intro q
           rw [List.getElem?_map, List.getElem?_take, List.getElem?_drop]
           rcases Nat.lt_or_ge q sz with hq | hq
           · rw [List.getElem?_range hq, if_pos hq, Option.map_some, List.getElem?_eq_getElem (by omega), List.getD_eq_getElem?_getD, List.getElem?_eq_getElem (by omega)]
             rfl
           · rw [if_neg (by omega), List.getElem?_eq_none (by simpa using hq)]
             rfl
          rw [e3] at hO
          exact ⟨_, hrun kk _ _ (by rw [em]; exact hy.int_) hmn (part_ok ⟨j, k2, k3⟩ k5 (fun _ => hlen) (fun h => by rw [k4] at h; cases h) (fun _ => rfl)), .agg _ _ hO.1 hO.2⟩
       · split at h
         · rename_i hsz
           have hsz := eq_of_beq hsz
           subst hsz
           cases hs : selAV k cells with
           | none => rw [hs] at h; cases h
           | some out =>
            rw [hs] at h
            cases h
            have hk := hkv rfl
            have em : (((k ()).toNat : Nat) : Int) = k () := by omega
            have hmn : (k ()).toNat < n := by omega
            obtain ⟨v, q1, q2⟩ := selAV_ok hs hE em.symm (by rw [hl]; omega)
            exact ⟨v, hrun kk _ _ (by rw [em]; exact hy.int_) hmn (part_ok ⟨j, k2, k3⟩ k5 (fun h => by rw [k4] at h; cases h) (fun _ => by rw [Nat.mul_one]; exact q1) (fun h => by rw [k4] at h; cases h)), q2⟩
         · cases h
     · cases h
   · cases h
 · rename_i s e1
   split at h
   · rename_i kk k ek
     cases h
     obtain ⟨i, _, h1, h2⟩ := tiOf_ hty e1
     have hk := hv _ (.head _)
     obtain ⟨ds, hd, hm⟩ := tyB_desc h2
     rw [h1] at hm
     cases ds <;> first | (simp [descB] at hm; done) | skip
     have hk1 : 0 ≤ k () := hk.1
     have hk2 : k () < ((s ()).data.size : Int) := hk.2
     have hlt : (k ()).toNat < (s ()).data.size := by omega
     have hb : (s ())[(k ()).toNat]? = some ((s ()).data[(k ()).toNat]'hlt) := getElem?_pos (s ()) (k ()).toNat hlt
     refine ⟨_, ?_, .int .u8 _⟩
     unfold execOp
     simp only [hx.str_, asInt_ ek hy, Instr.index, asIntOf, underlying, Sem.run_bind, Sem.run_pure, Result.andThen_ok, run_program, hd, hk1, if_true, hb]
     unfold byteIn
     rw [getElem?_pos (s ()).data (k ()).toNat hlt]
     rfl
   · cases h
 · cases h
end
end Go.Proofs.YtfdjcakgolenbaaGreat
