/-
  The abstract run: a region that draws its order is sound.
-/
import Derived.Test.YtfdjcakgolenbaaGreatMu25
set_option linter.unusedVariables false
set_option linter.unusedSimpArgs false
namespace Go.Proofs.YtfdjcakgolenbaaGreat
open Go.RowKit
section
variable {P : Program} {w w' w0 : World} {SS : Pm} {N : Nat} {B : Bs} {S : Sx} {a a0 : Act} {C : Cx} {Q : Exit → Act → World → Prop}
theorem prodOf_none {l : List Oper} {s : Nat} : ∀ {i : Nat}, prodOf l s i = none → ∀ k, k < i → ∀ o, l[k]? = some o → o.dst ≠ some s
 | 0, _, k, hk, _, _ => by omega
 | i + 1, h, k, hk, o, ho => by
  rw [prodOf_succ] at h
  split at h
  · cases h
  · rename_i hb
    rcases Nat.lt_or_ge k i with h1 | h1
    · exact prodOf_none h k h1 o ho
    · obtain rfl : k = i := by omega
      rw [ho] at hb
      simpa using hb
theorem prodOf_of {l : List Oper} {s i j : Nat} {oj : Oper} (hj : j < i) (hoj : l[j]? = some oj) (hd : oj.dst = some s) : ∃ k, prodOf l s i = some k := by
 cases h : prodOf l s i with
 | some k => exact ⟨k, rfl⟩
 | none => exact absurd hd (prodOf_none h j hj oj hoj)
theorem preLenM_pure {me : Bool} : ∀ {l : List Oper} {i : Nat} {o : Oper}, i < preLenM (efs C.fs) me l → l[i]? = some o → isPure (efs C.fs) o.op = true
 | [], i, o, h, _ => by simp [preLenM] at h
 | o' :: l, i, o, h, ho => by
  unfold preLenM at h
  split at h
  · rename_i hp
    cases i with
    | zero =>
     simp only [List.getElem?_cons_zero, Option.some.injEq] at ho
     subst ho
     exact (Bool.and_eq_true _ _ ▸ hp : _ ∧ _).1
    | succ i => exact preLenM_pure (me := me) (l := l) (i := i) (by omega) (by simpa using ho)
  · omega
theorem preLen_pure {l : List Oper} {i : Nat} {o : Oper} (h : i < preLen (efs C.fs) l) (ho : l[i]? = some o) : isPure (efs C.fs) o.op = true := preLenM_pure h ho
theorem preLenM_le (me : Bool) : ∀ (l : List Oper), preLenM (efs C.fs) me l ≤ l.length
 | [] => Nat.le_refl _
 | o :: l => by
  unfold preLenM
  split
  · have := preLenM_le me l; simp; omega
  · simp
theorem preLen_le (l : List Oper) : preLen (efs C.fs) l ≤ l.length := preLenM_le _ l
def Rav (ρ : Nat → Option Rl) (base : Nat) (ro : Nat → Prop) (avs : List (Option AV)) (i : Nat) (v : Value) (w : World) : Prop :=
 (∀ av, avs[i]? = some (some av) → AVR w ρ base ro av v) ∧ (avs[i]? = some none → v = undef)
theorem drawG_ok (hty : TyOk P C.ty) (hcs : CxOk P C SS) (hmix : P.follows .mixedOrders = true) {id : Nat} {ops : List Oper} {σ : List Nat} {np : Nat} {late : Sx → Fm} (hQ : ∀ c a w, ¬ Q (.panic c) a w) (hok : drawOkG (efs C.fs) σ np ops N = true)
 (hlate : ∀ S' a' w' listed, (late S').P → Sim w0 SS N B S' a' w' → listed.size = (permL σ ops).length → (∀ j, LL listed j = decide (j < np)) → (∀ (j : Nat) (o : Oper), (permL σ ops)[j]? = some o → ∀ e ∈ o.after, Region.binds .any e = true → e.on < j) → (∀ (j : Nat) (o : Oper) cs b, (permL σ ops).toArray[j]? = some o → o.op ≠ .select cs b) → wpAny P .any (permL σ ops).toArray Q ((permL σ ops).length - np) listed a' w')
 (h : (goOps C N B (permL σ ops) ((permL σ ops).take np) S late).P) (H : Sim w0 SS N B S a0 w) : (Code.region id ops.toArray true).wp P Q a0 w := by
 unfold drawOkG at hok
 simp only [Bool.and_eq_true, decide_eq_true_eq] at hok
 obtain ⟨hnpl, hpureA, hperm, hO, hd, hread, hapB, hnsel⟩ := hok
 have hlen : (permL σ ops).length = ops.length := by unfold permL; simp [perm_len hperm]
 refine wp_region_perm hperm hmix ?_
 rw [← hlen]
 clear hlen hperm
 generalize permL σ ops = l at *
 show wpAny P .any l.toArray Q l.length (Array.replicate l.length false) a0 w.drew
 obtain ⟨ρ, ro, H⟩ := H
 rw [← H.size] at hd
 have hpre : ∀ o ∈ l.take np, isPure (efs C.fs) o.op = true ∧ ∃ d, o.dst = some d := by
  intro o ho
  obtain ⟨i, hi⟩ := List.mem_iff_getElem?.1 ho
  have hlt := (List.getElem?_eq_some_iff.1 hi).1
  rw [List.getElem?_take] at hi
  split at hi
  · rename_i hinp
    obtain ⟨d, hd1, _, _⟩ := dstsB_spec hd hinp hi
    exact ⟨List.all_eq_true.1 hpureA o ho, d, hd1⟩
  · cases hi
 rw [← List.append_nil (l.take np)] at h
 obtain ⟨avs, S', hpath, htail⟩ := goOps_path hpre h
 replace htail : (late S').P := htail
 have hbase : w0.heap.size ≤ w.heap.size := H.from_.size
 obtain ⟨rr, hrr⟩ : ∃ rr : Nat → Prop, rr = fun b => ro b ∨ w.heap.size ≤ b := ⟨_, rfl⟩
 have hsame : ∀ {w1 : World}, From w w1 → ∀ b, rr b → b < w1.heap.size → ∀ {w2 : World}, From w1 w2 → w2.heap[b]? = w1.heap[b]? := fun _ b _ hlt _ h2 => h2.block b hlt
 have hstart : ∀ (L : Nat → Bool) (val : Nat → Value) (w1 : World), From w w1 → Claim B l a0 w1 ρ w0.heap.size rr L val 0 S := by
  intro L val w1 hb s x hx
  obtain ⟨u, h1, h2⟩ := H.tm s x hx
  exact ⟨u, h1, h2.mono (fun b _ hlt => hb.block b hlt) (Ext.refl _) (Nat.le_refl _) fun b hb => by rw [hrr]; exact .inl hb⟩
 have hlget : ∀ j o, (l.take np)[j]? = some o → l[0 + j]? = some o := fun j o hj => by
  rw [Nat.zero_add]
  rw [List.getElem?_take] at hj
  split at hj
  · exact hj
  · cases hj
 have hrn : ∀ i, regAt l np i = true → i < np := fun i hi => by
  unfold regAt at hi
  simp only [Bool.and_eq_true, decide_eq_true_eq] at hi
  exact hi.1
 have hsel : ∀ (j : Nat) (o : Oper) cs b, l.toArray[j]? = some o → o.op ≠ .select cs b := fun j o cs b ho e => by
  have := List.all_eq_true.1 hnsel o (List.mem_of_getElem? (i := j) (by simpa using ho))
  rw [e] at this
  cases this
 have hap : ∀ i, regAt l np i = true → apartB l i = true := fun i hi => by
  have := List.all_eq_true.1 hapB i (List.mem_range.2 (hrn i hi))
  rw [hi] at this
  simpa using this
 have core : ∀ i o, i < np → l[i]? = some o → ∀ (L : Nat → Bool) (a1 : Act) (w1 : World) (val : Nat → Value) (lo hi' : Nat → Nat), Made w a0 l np (fun i v _ _ w => Rav ρ w0.heap.size rr avs i v w) L a1 w1 val lo hi' → (∀ e ∈ o.after, Region.binds .any e = true → L e.on = true) → L i = false → (∀ j oj, L j = true → l[j]? = some oj → ∀ e ∈ oj.after, Region.binds .any e = true → L e.on = true) →
  From w w1 ∧ ((Region.wanted o (yielded l.toArray a1.tmps) = true ∧ ∃ S1 av vcs, avs[i]? = some (some av) ∧ pureOp C.ty C.cs (lookE B S) (getO B S1) o.op = some (av, vcs) ∧ (∀ c ∈ vcs, c ()) ∧ ∀ x ∈ o.op.operands, AVR w1 ρ w0.heap.size (fun b => (ro b ∨ w.heap.size ≤ b) ∧ b < w1.heap.size) (getO B S1 x) (a1.eval x)) ∨ (Region.wanted o (yielded l.toArray a1.tmps) = false ∧ avs[i]? = some none)) := by
  intro i o hi ho L a1 w1 val lo hi' M haft hLi hLc
  have hb := M.from0
  have hC0 := hstart L val w1 hb
  have hrows : ∀ j av, avs[j]? = some (some av) → L (0 + j) = true → AVR w1 ρ w0.heap.size rr av (val (0 + j)) := by
   intro j av hj hL
   rw [Nat.zero_add] at hL ⊢
   obtain ⟨q1, _, _, _, q5⟩ := Path.stage (L := fun _ => false) (val := val) (a0 := a0) (w := w1) (ρ := ρ) (base := w0.heap.size) (ro := rr) (i := 0) hpath hlget (hstart _ val w1 hb) (fun j av _ h => by cases h) (fun j _ h => by cases h)
   have hjn : j < np := by
    have := (List.getElem?_eq_some_iff.1 hj).1
    rw [q5, List.length_take] at this
    omega
   exact (M.rows j hjn hL).2.2.2.1 av hj
  have hnone : ∀ j, avs[j]? = some none → L (0 + j) = true → val (0 + j) = undef := by
   intro j hj hL
   rw [Nat.zero_add] at hL ⊢
   obtain ⟨q1, _, _, _, q5⟩ := Path.stage (L := fun _ => false) (val := val) (a0 := a0) (w := w1) (ρ := ρ) (base := w0.heap.size) (ro := rr) (i := 0) hpath hlget (hstart _ val w1 hb) (fun j av _ h => by cases h) (fun j _ h => by cases h)
   have hjn : j < np := by
    have := (List.getElem?_eq_some_iff.1 hj).1
    rw [q5, List.length_take] at this
    omega
   exact (M.rows j hjn hL).2.2.2.2 hj
  obtain ⟨hst, _, _, _, _⟩ := Path.stage (L := L) (val := val) (i := 0) hpath hlget hC0 hrows hnone
  have hot : (l.take np)[i]? = some o := by rw [List.getElem?_take_of_lt hi]; exact ho
  obtain ⟨S0, S1, r, hc0, hc1, he1, hdec, hres⟩ := hst i o hot
  rw [Nat.zero_add] at hc0 hc1
  have hrd := List.all_eq_true.1 hread i (List.mem_range.2 hi)
  simp only [ho, Bool.and_eq_true] at hrd
  obtain ⟨⟨hgd, hsel⟩, hrd⟩ := hrd
  have ho' : l.toArray[i]? = some o := by simpa using ho
  have hedge : ∀ j, (o.after.any fun e => Region.binds .any e && e.on == j) = true → L j = true := by
   intro j he
   rw [Array.any_eq_true'] at he
   obtain ⟨e, he1, he2⟩ := he
   simp only [Bool.and_eq_true, beq_iff_eq] at he2
   have := haft e he1 he2.1
   rwa [he2.2] at this
  -- the guard
  have hslot : ∀ d j, j < i → (o.after.any fun e => Region.binds .any e && e.on == j) = true → ∀ oj, l[j]? = some oj → oj.dst = some d → ∀ x, lookT B S0 d = some x → ∃ u, a1.tmps[d]? = some u ∧ AVR w1 ρ w0.heap.size rr x u := by
   intro d j hji he oj hoj hdj x hx
   obtain ⟨k', hk'⟩ := prodOf_of hji hoj hdj
   obtain ⟨h1, ok, h2, h3⟩ := prodOf_spec hk'
   obtain ⟨d', hd1, _, hu⟩ := dstsB_spec hd (show j < np by omega) hoj
   rw [hdj] at hd1
   injection hd1 with hd1
   subst hd1
   have hkj : k' = j := hu k' ok (by omega) h2 h3
   subst hkj
   have h4 := hc0 d x hx
   rw [hk'] at h4
   have hLj := hedge k' he
   exact ⟨val k', M.slots k' oj d (by omega) hoj hdj hLj, h4 hLj⟩
  have hwant : Region.wanted o (yielded l.toArray a1.tmps) = r := by
   cases hdec with
   | free hg => exact wanted_none hg _
   | lit j d b c oj hg hj hdj hc =>
    rw [hg] at hgd
    simp only [Bool.and_eq_true, decide_eq_true_eq] at hgd
    obtain ⟨u, h1, h2⟩ := hslot d j hgd.1 hgd.2 oj hj hdj _ (getT_some hc (by simp))
    rw [h2.blit_] at h1
    exact wanted_some hg (by simpa using hj) hdj h1 rfl
   | gone j d b oj hg hj hdj hc =>
    rw [hg] at hgd
    simp only [Bool.and_eq_true, decide_eq_true_eq] at hgd
    obtain ⟨u, h1, h2⟩ := hslot d j hgd.1 hgd.2 oj hj hdj _ (getT_some hc (by simp))
    rw [undef_of h2] at h1
    exact wanted_undef hg hj hdj h1
   | ask j d b c oj S2 hg hj hdj hc hp =>
    rw [hg] at hgd
    simp only [Bool.and_eq_true, decide_eq_true_eq] at hgd
    obtain ⟨u, h1, h2⟩ := hslot d j hgd.1 hgd.2 oj hj hdj _ (getT_some hc (by simp))
    rw [h2.bool_] at h1
    exact wanted_some hg (by simpa using hj) hdj h1 rfl
  refine ⟨hb, ?_⟩
  rcases hres with ⟨rfl, av, vcs, hav, hpu, hv⟩ | ⟨rfl, hav⟩
  · have hope : ∀ x ∈ o.op.operands, AVR w1 ρ w0.heap.size (fun b => (ro b ∨ w.heap.size ≤ b) ∧ b < w1.heap.size) (getO B S1 x) (a1.eval x) := by
     intro x hx
     have h1 := List.all_eq_true.1 hrd x (by simpa using hx)
     cases x with
     | const v => exact ofVal_ v
     | func f => exact .fn f [] [] rfl fun j x v h => by simp at h
     | global g => exact .un _
     | tmp s =>
      show AVR _ _ _ _ (getT B S1 s) _
      cases hl : lookT B S1 s with
      | none => unfold getT; rw [hl]; exact .un _
      | some y =>
       have hy : getT B S1 s = y := by unfold getT; rw [hl]
       rw [hy]
       have h2 := hc1 s y hl
       have h1' : slotB l np i o s = true := h1
       unfold slotB at h1'
       have hfin : ∀ u, a1.tmps[s]? = some u → AVR w1 ρ w0.heap.size rr y u → AVR w1 ρ w0.heap.size (fun b => (ro b ∨ w.heap.size ≤ b) ∧ b < w1.heap.size) y (a1.eval (.tmp s)) := by
        intro u hu hr
        rw [eval_get hu]
        have := hr.bound
        rw [hrr] at this
        exact this
       cases hp : prodOf l s i with
       | none =>
        rw [hp] at h2 h1'
        obtain ⟨u, h3, h4⟩ := h2
        refine hfin u ?_ h4
        rw [← h3]
        refine M.old s fun k' ok hk' hok' hdk => ?_
        have h5 := List.all_eq_true.1 h1' k' (List.mem_range.2 hk')
        simp only [hok', hdk, bne_self_eq_false, Bool.false_or] at h5
        cases hLk : L k' with
        | false => rfl
        | true =>
         rw [Array.any_eq_true'] at h5
         obtain ⟨e, he, hbd⟩ := h5
         simp only [Bool.and_eq_true, beq_iff_eq] at hbd
         have h6 := hLc k' ok hLk hok' e he hbd.1
         rw [hbd.2, hLi] at h6
         cases h6
       | some j =>
        rw [hp] at h2 h1'
        obtain ⟨h3, oj, h4, h5⟩ := prodOf_spec hp
        have hLj := hedge j h1'
        exact hfin (val j) (M.slots j oj s (by omega) h4 h5 hLj) (h2 hLj)
    have hlook : lookE B S1 = lookE B S := by funext q; unfold lookE; rw [he1]
    rw [hlook] at hpu
    exact .inl ⟨hwant, S1, av, vcs, hav, hpu, hv, hope⟩
  · exact .inr ⟨hwant, hav⟩
 refine wp_any_made4 np (regAt l np) (fun i v _ _ w => Rav ρ w0.heap.size rr avs i v w) hO hnpl hd hrn hsel hQ hap ?_ ?_ ?_ ?_
 · intro i v lo hi w1 w2 hR hhi hb
   refine ⟨fun av hav => ?_, hR.2⟩
   exact (hR.1 av hav).mono (fun b _ hlt => hb.block b hlt) (Ext.refl _) (Nat.le_refl _) fun _ h => h
 · intro i o hi hri ho L a1 w1 val lo hi' M haft hLi hLc
   obtain ⟨hb, hc⟩ := core i o hi ho L a1 w1 val lo hi' M haft hLi hLc
   have Hw := H.calm hb
   rcases hc with ⟨hwant, S1, av, vcs, hav, hpu, hv, hope⟩ | ⟨hwant, hav⟩
   · have hreg : isReg o.op = true := by
      unfold regAt at hri
      rw [ho] at hri
      simpa using (Bool.and_eq_true _ _ ▸ hri : _ ∧ _).2
     obtain ⟨dst, op, ty, pos, aft, gd⟩ := o
     obtain ⟨v, h8, h9⟩ := regOp_ok (P := P) (d := dst) (ty := ty) (pos := pos) (aft := aft) (gd := gd) (r := a1.eval) hreg hty (fun q e he => Hw.en q e he) hope hpu hv
     refine ⟨v, .inl ⟨hwant, h8⟩, fun av' hav' => ?_, fun hn => by rw [hav] at hn; cases hn⟩
     rw [hav] at hav'
     injection hav' with hav'
     injection hav' with hav'
     subst hav'
     exact h9.mono (fun _ _ _ => rfl) (Ext.refl _) (Nat.le_refl _) fun b hb' => by rw [hrr]; exact hb'.1
   · refine ⟨undef, .inr ⟨hwant, rfl⟩, fun av' hav' => ?_, fun _ => rfl⟩
     rw [hav] at hav'
     cases hav'
 · intro i o hi ho L a1 w1 val lo hi' M haft hLi hLc
   obtain ⟨hb, hc⟩ := core i o hi ho L a1 w1 val lo hi' M haft hLi hLc
   have Hw := H.calm hb
   have ho' : l.toArray[i]? = some o := by simpa using ho
   rcases hc with ⟨hwant, S1, av, vcs, hav, hpu, hv, hope⟩ | ⟨hwant, hav⟩
   · obtain ⟨dst, op, ty, pos, aft, gd⟩ := o
     have h7 := pureOp_ok (d := dst) (ty := ty) (pos := pos) (aft := aft) (gd := gd) (r := a1.eval) hty hcs.cs (fun q e he => Hw.en q e he) hope Hw.roB Hw.from_.size hpu hv
     have hR : ∀ v w2, From w1 w2 → AVR w2 ρ w0.heap.size (fun b => ((ro b ∨ w.heap.size ≤ b) ∧ b < w1.heap.size) ∨ w1.heap.size ≤ b) av v → Rav ρ w0.heap.size rr avs i v w2 := by
      intro v w2 _ hr
      refine ⟨fun av' hav' => ?_, fun hn => by rw [hav] at hn; cases hn⟩
      rw [hav] at hav'
      injection hav' with hav'
      injection hav' with hav'
      subst hav'
      refine hr.mono (fun _ _ _ => rfl) (Ext.refl _) (Nat.le_refl _) fun b hb' => ?_
      rw [hrr]
      rcases hb' with ⟨h8, _⟩ | h8
      · exact h8
      · exact .inr (Nat.le_trans hb.size h8)
     rcases h7 with ⟨v, w2, h8, h9, h10⟩ | ⟨f, args, h8, h9⟩
     · exact wpOp_valueW ho' hwant h8 ⟨v, rfl, h9, hR v w2 h9 h10⟩
     · exact wpOp_enterW ho' hwant h8 (h9.mono fun e w2 ⟨v, q1, q2, q3⟩ => ⟨v, q1, v, rfl, q2, hR v w2 q2 q3⟩)
   · refine wpOp_not ho' hwant ⟨undef, rfl, Below.refl _ _, fun av' hav' => ?_, fun _ => rfl⟩
     rw [hav] at hav'
     cases hav'
 · intro val lo hi w1 hb hrows _ listed hsz hLL
   have hall : ∀ j av, avs[j]? = some (some av) → (fun _ => true : Nat → Bool) (0 + j) = true → AVR w1 ρ w0.heap.size rr av (val (0 + j)) := by
    intro j av hj _
    obtain ⟨q1, _, _, _, q5⟩ := Path.stage (L := fun _ => false) (val := val) (a0 := a0) (w := w1) (ρ := ρ) (base := w0.heap.size) (ro := rr) (i := 0) hpath hlget (hstart _ val w1 hb) (fun j av _ h => by cases h) (fun j _ h => by cases h)
    have hjn : j < np := by
     have := (List.getElem?_eq_some_iff.1 hj).1
     rw [q5, List.length_take] at this
     omega
    rw [Nat.zero_add]
    exact (hrows j hjn).2.2.2.1 av hj
   have hnone : ∀ j, avs[j]? = some none → (fun _ => true : Nat → Bool) (0 + j) = true → val (0 + j) = undef := by
    intro j hj _
    obtain ⟨q1, _, _, _, q5⟩ := Path.stage (L := fun _ => false) (val := val) (a0 := a0) (w := w1) (ρ := ρ) (base := w0.heap.size) (ro := rr) (i := 0) hpath hlget (hstart _ val w1 hb) (fun j av _ h => by cases h) (fun j _ h => by cases h)
    have hjn : j < np := by
     have := (List.getElem?_eq_some_iff.1 hj).1
     rw [q5, List.length_take] at this
     omega
    rw [Nat.zero_add]
    exact (hrows j hjn).2.2.2.2 hj
   obtain ⟨_, hfin, hes, hns, _⟩ := Path.stage (L := fun _ => true) (val := val) (i := 0) hpath hlget (hstart _ val w1 hb) hall hnone
   rw [List.length_take, Nat.min_eq_left hnpl, Nat.zero_add] at hfin
   have Hw := H.calm hb
   have hdis := hpath.dis H.disT
   have hback := fun j o ho => orderR_back (j := j) (o := o) hO ho
   suffices HS : Sim w0 SS N B S' (putAll val 0 (l.take np) a0) w1 from ⟨l.length - np, hlate S' _ w1 listed htail HS hsz hLL hback hsel⟩
   refine ⟨ρ, _, ⟨Hw.from_, by rw [putAll_size]; exact H.size, by rw [putAll_defers]; exact H.defers, Hw.roB, fun s x hx => ?_, fun q e he => Hw.en q e (by unfold lookE at he ⊢; rw [hes] at he; exact he), Hw.apart, fun q hq => Hw.fresh q (by rw [hns] at hq; exact hq), Hw.own, Hw.roS, Hw.solid, hdis, fun q e he => by rw [hes]; exact Hw.disE q e he⟩⟩
   have h1 := hfin s x hx
   have hbd : ∀ u, AVR w1 ρ w0.heap.size rr x u → AVR w1 ρ w0.heap.size (fun b => (ro b ∨ w.heap.size ≤ b) ∧ b < w1.heap.size) x u := by
    intro u hr
    have := hr.bound
    rw [hrr] at this
    exact this
   cases hp : prodOf l s np with
   | none =>
    rw [hp] at h1
    obtain ⟨u, h2, h3⟩ := h1
    refine ⟨u, ?_, hbd u h3⟩
    rw [← h2]
    refine putAll_old val s _ 0 a0 fun o ho => ?_
    obtain ⟨i, hi⟩ := List.mem_iff_getElem?.1 ho
    rw [List.getElem?_take] at hi
    split at hi
    · rename_i hinp
      exact prodOf_none hp i hinp o hi
    · cases hi
   | some j =>
    rw [hp] at h1
    obtain ⟨h2, oj, h3, h4⟩ := prodOf_spec hp
    obtain ⟨d, hd1, hd2, hd3⟩ := dstsB_spec hd h2 h3
    rw [h4] at hd1
    injection hd1 with hd1
    subst hd1
    refine ⟨val j, ?_, hbd _ (h1 rfl)⟩
    have h5 := putAll_new val s (l.take np) 0 a0 j oj (by rw [List.getElem?_take_of_lt h2]; exact h3) h4 (fun j' o' hj' ho' => by
     rw [List.getElem?_take] at hj'
     split at hj'
     · rename_i hlt
       exact hd3 j' o' hlt hj' ho'
     · cases hj') hd2
    rwa [Nat.zero_add] at h5
theorem drawOkG_of {ops : List Oper} (h : drawOk (efs C.fs) ops N = true) : drawOkG (efs C.fs) (sigma (efs C.fs) ops) (preLen (efs C.fs) (laid (efs C.fs) ops)) ops N = true := by
 unfold drawOk at h
 unfold drawOkG
 simp only [Bool.and_eq_true, decide_eq_true_eq] at h ⊢
 refine ⟨preLen_le _, List.all_eq_true.2 fun o ho => ?_, h⟩
 obtain ⟨i, hi⟩ := List.mem_iff_getElem?.1 ho
 rw [List.getElem?_take] at hi
 split at hi
 · rename_i hlt
   exact preLen_pure hlt hi
 · cases hi
theorem draw_ok (hty : TyOk P C.ty) (hcs : CxOk P C SS) (hmix : P.follows .mixedOrders = true) {id : Nat} {ops : List Oper} {k : Sx → Fm} (hQ : ∀ c a w, ¬ Q (.panic c) a w) (hok : drawOk (efs C.fs) ops N = true) (hk : ∀ S' a' w', Sim w0 SS N B S' a' w' → (k S').P → Q .normal a' w') (h : (goDraw C N B (laid (efs C.fs) ops) S k).P) (H : Sim w0 SS N B S a0 w) : (Code.region id ops.toArray true).wp P Q a0 w := by
 refine drawG_ok (late := fun S' => match chainB (laid (efs C.fs) ops) (preLen (efs C.fs) (laid (efs C.fs) ops)) with
  | true => goOps C N B (laid (efs C.fs) ops) ((laid (efs C.fs) ops).drop (preLen (efs C.fs) (laid (efs C.fs) ops))) S' k
  | false => goLate C N B (laid (efs C.fs) ops) ((laid (efs C.fs) ops).length - preLen (efs C.fs) (laid (efs C.fs) ops)) (List.range (preLen (efs C.fs) (laid (efs C.fs) ops))) S' k) hty hcs hmix hQ (drawOkG_of hok) (fun S' a' w' listed htail HS hsz hLL hback hsel => ?_) h H
 have hnpl := preLen_le (C := C) (laid (efs C.fs) ops)
 unfold laid at *
 generalize permL (sigma (efs C.fs) ops) ops = l at *
 generalize preLen (efs C.fs) l = np at *
 cases hch : chainB l np with
 | true =>
  rw [hch] at htail
  exact chain_any hch hback _ np _ _ listed (by omega) (Nat.le_refl _) hsz hLL (goOps_seq hty hcs hk htail HS)
 | false =>
  rw [hch] at htail
  exact goLate_ok hty hcs hsel hQ hk _ _ _ _ _ listed htail HS hsz fun j => by rw [hLL, memN_range]
end
end Go.Proofs.YtfdjcakgolenbaaGreat
