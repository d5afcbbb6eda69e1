/-
  The abstract run: a region that draws its order is sound.
-/
import Derived.Test.YtfdjcakgolenbaaGreatMa11
namespace Go.Proofs.YtfdjcakgolenbaaGreat
open Go.RowKit
section
variable {P : Program} {w w' w0 : World} {SS : Pm} {N : Nat} {B : Bs} {S : Sx} {a a0 : Act} {C : Cx} {Q : Exit -> Act -> World -> Prop}
theorem prodOf_none {l : List Oper} {s : Nat} : ∀ {i : Nat}, prodOf l s i = none -> ∀ k, k < i -> ∀ o, l[k]? = some o -> o.dst ≠ some s
 | 0, _, k, hk, _, _ => by omega
 | i + 1, h, k, hk, o, ho => by
  rw [prodOf_succ] at h;split at h
  . cases h
  . rename_i hb;rcases Nat.lt_or_ge k i with h1 | h1
    . exact prodOf_none h k h1 o ho
    . obtain rfl : k = i := by omega
      rw [ho] at hb;simpa using hb
theorem prodOf_of {l : List Oper} {s i j : Nat} {oj : Oper} (hj : j < i) (hoj : l[j]? = some oj) (hd : oj.dst = some s) : ∃ k, prodOf l s i = some k := by
 cases h : prodOf l s i with
 | some k => exact ⟨k, rfl⟩
 | none => exact absurd hd (prodOf_none h j hj oj hoj)
theorem preLenM_pure {me : Bool} : ∀ {l : List Oper} {i : Nat} {o : Oper}, i < preLenM (efs C.fs) me l -> l[i]? = some o -> isPure (efs C.fs) o.op = true
 | [], i, o, h, _ => by simp [preLenM] at h
 | o' :: l, i, o, h, ho => by
  unfold preLenM at h;split at h
  . rename_i hp
    cases i with
    | zero =>
     simp only [List.getElem?_cons_zero, Option.some.injEq] at ho;subst ho;exact (Bool.and_eq_true _ _ ▸ hp : _ /\ _).1
    | succ i => exact preLenM_pure (me := me) (l := l) (i := i) (by omega) (by simpa using ho)
  . omega
theorem preLen_pure {l : List Oper} {i : Nat} {o : Oper} (h : i < preLen (efs C.fs) l) (ho : l[i]? = some o) : isPure (efs C.fs) o.op = true := preLenM_pure h ho
theorem preLenM_le (me : Bool) : ∀ (l : List Oper), preLenM (efs C.fs) me l <= l.length
 | [] => Nat.le_refl _
 | o :: l => by
  unfold preLenM;split
  . have := preLenM_le me l; simp; omega
  . simp
theorem preLen_le (l : List Oper) : preLen (efs C.fs) l <= l.length := preLenM_le _ l
def Rav (ρ : Nat -> Option Rl) (base : Nat) (ro : Nat -> Prop) (avs : List (Option AV)) (i : Nat) (v : Value) (w : World) : Prop :=
 (∀ av, avs[i]? = some (some av) -> AVR w ρ base ro av v) /\ (avs[i]? = some none -> v = undef)
theorem drawG_ok (hty : TyOk P C.ty) (hcs : CxOk P C SS) (hmix : P.follows .mixedOrders = true) {id : Nat} {ops : List Oper} {σ : List Nat} {np : Nat} {late : Sx -> Fm} (hQ : ∀ c a w, ¬ Q (.panic c) a w) (hok : drawOkG (efs C.fs) σ np ops N = true)
 (hlate : ∀ S' a' w' listed, (late S').P -> Sim w0 SS N B S' a' w' -> listed.size = (permL σ ops).length -> (∀ j, LL listed j = decide (j < np)) -> (∀ (j : Nat) (o : Oper), (permL σ ops)[j]? = some o -> ∀ e ∈ o.after, Region.binds .any e = true -> e.on < j) -> (∀ (j : Nat) (o : Oper) cs b, (permL σ ops).toArray[j]? = some o -> o.op ≠ .select cs b) -> wpAny P .any (permL σ ops).toArray Q ((permL σ ops).length - np) listed a' w')
 (h : (goOps C N B (permL σ ops) ((permL σ ops).take np) S late).P) (H : Sim w0 SS N B S a0 w) : (Code.region id ops.toArray true).wp P Q a0 w := by
 unfold drawOkG at hok;simp only [Bool.and_eq_true, decide_eq_true_eq] at hok;obtain ⟨hnpl, hpureA, hperm, hO, hd, hread, hapB, hnsel⟩ := hok;have hlen : (permL σ ops).length = ops.length := by unfold permL; simp [perm_len hperm]
 refine wp_region_perm hperm hmix ?_;rw [<- hlen];clear hlen hperm;generalize permL σ ops = l at *
 show wpAny P .any l.toArray Q l.length (Array.replicate l.length false) a0 w.drew
 obtain ⟨ρ, ro, H⟩ := H;rw [<- H.size] at hd;have hpre : ∀ o ∈ l.take np, isPure (efs C.fs) o.op = true /\ ∃ d, o.dst = some d := by
  intro o ho;obtain ⟨i, hi⟩ := List.mem_iff_getElem?.1 ho;have hlt := (List.getElem?_eq_some_iff.1 hi).1;rw [List.getElem?_take] at hi;split at hi
  . rename_i hinp;obtain ⟨d, hd1, _, _⟩ := dstsB_spec hd hinp hi;exact ⟨List.all_eq_true.1 hpureA o ho, d, hd1⟩
  . cases hi
 rw [<- List.append_nil (l.take np)] at h;obtain ⟨avs, S', hpath, htail⟩ := goOps_path hpre h
 replace htail : (late S').P := htail
 have hbase : w0.heap.size <= w.heap.size := H.from_.size;obtain ⟨rr, hrr⟩ : ∃ rr : Nat -> Prop, rr = fun b => ro b \/ w.heap.size <= b := ⟨_, rfl⟩
 have hsame : ∀ {w1 : World}, From w w1 -> ∀ b, rr b -> b < w1.heap.size -> ∀ {w2 : World}, From w1 w2 -> w2.heap[b]? = w1.heap[b]? := fun _ b _ hlt _ h2 => h2.block b hlt;have hstart : ∀ (L : Nat -> Bool) (val : Nat -> Value) (w1 : World), From w w1 -> Claim B l a0 w1 ρ w0.heap.size rr L val 0 S := by
  intro L val w1 hb s x hx;obtain ⟨u, h1, h2⟩ := H.tm s x hx;exact ⟨u, h1, h2.mono (fun b _ hlt => hb.block b hlt) (Ext.refl _) (Nat.le_refl _) fun b hb => by rw [hrr]; exact .inl hb⟩
 have hlget : ∀ j o, (l.take np)[j]? = some o -> l[0 + j]? = some o := fun j o hj => by
  rw [Nat.zero_add];rw [List.getElem?_take] at hj;split at hj
  . exact hj
  . cases hj
 have hrn : ∀ i, regAt l np i = true -> i < np := fun i hi => by
  unfold regAt at hi;simp only [Bool.and_eq_true, decide_eq_true_eq] at hi;exact hi.1
 have hsel : ∀ (j : Nat) (o : Oper) cs b, l.toArray[j]? = some o -> o.op ≠ .select cs b := fun j o cs b ho e => by
  have := List.all_eq_true.1 hnsel o (List.mem_of_getElem? (i := j) (by simpa using ho));rw [e] at this;cases this
 have hap : ∀ i, regAt l np i = true -> apartB l i = true := fun i hi => by
  have := List.all_eq_true.1 hapB i (List.mem_range.2 (hrn i hi));rw [hi] at this;simpa using this
 have core : ∀ i o, i < np -> l[i]? = some o -> ∀ (L : Nat -> Bool) (a1 : Act) (w1 : World) (val : Nat -> Value) (lo hi' : Nat -> Nat), Made w a0 l np (fun i v _ _ w => Rav ρ w0.heap.size rr avs i v w) L a1 w1 val lo hi' -> (∀ e ∈ o.after, Region.binds .any e = true -> L e.on = true) -> L i = false -> (∀ j oj, L j = true -> l[j]? = some oj -> ∀ e ∈ oj.after, Region.binds .any e = true -> L e.on = true) ->
  From w w1 /\ ((Region.wanted o (yielded l.toArray a1.tmps) = true /\ ∃ S1 av vcs, avs[i]? = some (some av) /\ pureOp C.ty C.cs (lookE B S) (getO B S1) o.op = some (av, vcs) /\ (∀ c ∈ vcs, c ()) /\ ∀ x ∈ o.op.operands, AVR w1 ρ w0.heap.size (fun b => (ro b \/ w.heap.size <= b) /\ b < w1.heap.size) (getO B S1 x) (a1.eval x)) \/ (Region.wanted o (yielded l.toArray a1.tmps) = false /\ avs[i]? = some none)) := by
  intro i o hi ho L a1 w1 val lo hi' M haft hLi hLc;have hb := M.from0;have hC0 := hstart L val w1 hb;have hrows : ∀ j av, avs[j]? = some (some av) -> L (0 + j) = true -> AVR w1 ρ w0.heap.size rr av (val (0 + j)) := by
   intro j av hj hL;rw [Nat.zero_add] at hL ⊢;obtain ⟨q1, _, _, _, q5⟩ := Path.stage (L := fun _ => false) (val := val) (a0 := a0) (w := w1) (ρ := ρ) (base := w0.heap.size) (ro := rr) (i := 0) hpath hlget (hstart _ val w1 hb) (fun j av _ h => by cases h) (fun j _ h => by cases h);have hjn : j < np := by
    have := (List.getElem?_eq_some_iff.1 hj).1;rw [q5, List.length_take] at this;omega
   exact (M.rows j hjn hL).2.2.2.1 av hj
  have hnone : ∀ j, avs[j]? = some none -> L (0 + j) = true -> val (0 + j) = undef := by
   intro j hj hL;rw [Nat.zero_add] at hL ⊢;obtain ⟨q1, _, _, _, q5⟩ := Path.stage (L := fun _ => false) (val := val) (a0 := a0) (w := w1) (ρ := ρ) (base := w0.heap.size) (ro := rr) (i := 0) hpath hlget (hstart _ val w1 hb) (fun j av _ h => by cases h) (fun j _ h => by cases h);have hjn : j < np := by
    have := (List.getElem?_eq_some_iff.1 hj).1;rw [q5, List.length_take] at this;omega
   exact (M.rows j hjn hL).2.2.2.2 hj
  obtain ⟨hst, _, _, _, _⟩ := Path.stage (L := L) (val := val) (i := 0) hpath hlget hC0 hrows hnone;have hot : (l.take np)[i]? = some o := by rw [List.getElem?_take_of_lt hi]; exact ho
  obtain ⟨S0, S1, r, hc0, hc1, he1, hdec, hres⟩ := hst i o hot;rw [Nat.zero_add] at hc0 hc1;have hrd := List.all_eq_true.1 hread i (List.mem_range.2 hi);simp only [ho, Bool.and_eq_true] at hrd;obtain ⟨⟨hgd, hsel⟩, hrd⟩ := hrd;have ho' : l.toArray[i]? = some o := by simpa using ho
  have hedge : ∀ j, (o.after.any fun e => Region.binds .any e && e.on == j) = true -> L j = true := by
   intro j he;rw [Array.any_eq_true'] at he;obtain ⟨e, he1, he2⟩ := he;simp only [Bool.and_eq_true, beq_iff_eq] at he2;have := haft e he1 he2.1;rwa [he2.2] at this
  -- the guard
  have hslot : ∀ d j, j < i -> (o.after.any fun e => Region.binds .any e && e.on == j) = true -> ∀ oj, l[j]? = some oj -> oj.dst = some d -> ∀ x, lookT B S0 d = some x -> ∃ u, a1.tmps[d]? = some u /\ AVR w1 ρ w0.heap.size rr x u := by
   intro d j hji he oj hoj hdj x hx;obtain ⟨k', hk'⟩ := prodOf_of hji hoj hdj;obtain ⟨h1, ok, h2, h3⟩ := prodOf_spec hk';obtain ⟨d', hd1, _, hu⟩ := dstsB_spec hd (show j < np by omega) hoj;rw [hdj] at hd1;injection hd1 with hd1;subst hd1;have hkj : k' = j := hu k' ok (by omega) h2 h3;subst hkj;have h4 := hc0 d x hx;rw [hk'] at h4;have hLj := hedge k' he;exact ⟨val k', M.slots k' oj d (by omega) hoj hdj hLj, h4 hLj⟩
  have hwant : Region.wanted o (yielded l.toArray a1.tmps) = r := by
   cases hdec with
   | free hg => exact wanted_none hg _
   | lit j d b c oj hg hj hdj hc =>
    rw [hg] at hgd;simp only [Bool.and_eq_true, decide_eq_true_eq] at hgd;obtain ⟨u, h1, h2⟩ := hslot d j hgd.1 hgd.2 oj hj hdj _ (getT_some hc (by simp));rw [h2.blit_] at h1;exact wanted_some hg (by simpa using hj) hdj h1 rfl
   | gone j d b oj hg hj hdj hc =>
    rw [hg] at hgd;simp only [Bool.and_eq_true, decide_eq_true_eq] at hgd;obtain ⟨u, h1, h2⟩ := hslot d j hgd.1 hgd.2 oj hj hdj _ (getT_some hc (by simp));rw [undef_of h2] at h1;exact wanted_undef hg hj hdj h1
   | ask j d b c oj S2 hg hj hdj hc hp =>
    rw [hg] at hgd;simp only [Bool.and_eq_true, decide_eq_true_eq] at hgd;obtain ⟨u, h1, h2⟩ := hslot d j hgd.1 hgd.2 oj hj hdj _ (getT_some hc (by simp));rw [h2.bool_] at h1;exact wanted_some hg (by simpa using hj) hdj h1 rfl
  refine ⟨hb, ?_⟩;rcases hres with ⟨rfl, av, vcs, hav, hpu, hv⟩ | ⟨rfl, hav⟩
  . have hope : ∀ x ∈ o.op.operands, AVR w1 ρ w0.heap.size (fun b => (ro b \/ w.heap.size <= b) /\ b < w1.heap.size) (getO B S1 x) (a1.eval x) := by
     intro x hx;have h1 := List.all_eq_true.1 hrd x (by simpa using hx)
     cases x with
     | const v => exact ofVal_ v
     | func f => exact .fn f [] [] rfl fun j x v h => by simp at h
     | global g => exact .un _
     | tmp s =>
      show AVR _ _ _ _ (getT B S1 s) _
      cases hl : lookT B S1 s with
      | none => unfold getT; rw [hl]; exact .un _
      | some y =>
       have hy : getT B S1 s = y := by unfold getT; rw [hl]
       rw [hy];have h2 := hc1 s y hl;have h1' : slotB l np i o s = true := h1;unfold slotB at h1';have hfin : ∀ u, a1.tmps[s]? = some u -> AVR w1 ρ w0.heap.size rr y u -> AVR w1 ρ w0.heap.size (fun b => (ro b \/ w.heap.size <= b) /\ b < w1.heap.size) y (a1.eval (.tmp s)) := by
        intro u hu hr;rw [eval_get hu];have := hr.bound;rw [hrr] at this;exact this
       cases hp : prodOf l s i with
       | none =>
        rw [hp] at h2 h1';obtain ⟨u, h3, h4⟩ := h2;refine hfin u ?_ h4;rw [<- h3];refine M.old s fun k' ok hk' hok' hdk => ?_;have h5 := List.all_eq_true.1 h1' k' (List.mem_range.2 hk');simp only [hok', hdk, bne_self_eq_false, Bool.false_or] at h5
        cases hLk : L k' with
        | false => rfl
        | true =>
         rw [Array.any_eq_true'] at h5;obtain ⟨e, he, hbd⟩ := h5;simp only [Bool.and_eq_true, beq_iff_eq] at hbd;have h6 := hLc k' ok hLk hok' e he hbd.1;rw [hbd.2, hLi] at h6;cases h6
       | some j =>
        rw [hp] at h2 h1';obtain ⟨h3, oj, h4, h5⟩ := prodOf_spec hp;have hLj := hedge j h1';exact hfin (val j) (M.slots j oj s (by omega) h4 h5 hLj) (h2 hLj)
    have hlook : lookE B S1 = lookE B S := by funext q; unfold lookE; rw [he1]
    rw [hlook] at hpu;exact .inl ⟨hwant, S1, av, vcs, hav, hpu, hv, hope⟩
  . exact .inr ⟨hwant, hav⟩
 refine wp_any_made4 np (regAt l np) (fun i v _ _ w => Rav ρ w0.heap.size rr avs i v w) hO hnpl hd hrn hsel hQ hap ?_ ?_ ?_ ?_
 . intro i v lo hi w1 w2 hR hhi hb;refine ⟨fun av hav => ?_, hR.2⟩;exact (hR.1 av hav).mono (fun b _ hlt => hb.block b hlt) (Ext.refl _) (Nat.le_refl _) fun _ h => h
 . intro i o hi hri ho L a1 w1 val lo hi' M haft hLi hLc;obtain ⟨hb, hc⟩ := core i o hi ho L a1 w1 val lo hi' M haft hLi hLc;have Hw := H.calm hb;rcases hc with ⟨hwant, S1, av, vcs, hav, hpu, hv, hope⟩ | ⟨hwant, hav⟩
   . have hreg : isReg o.op = true := by
      unfold regAt at hri;rw [ho] at hri;simpa using (Bool.and_eq_true _ _ ▸ hri : _ /\ _).2
     obtain ⟨dst, op, ty, pos, aft, gd⟩ := o;obtain ⟨v, h8, h9⟩ := regOp_ok (P := P) (d := dst) (ty := ty) (pos := pos) (aft := aft) (gd := gd) (r := a1.eval) hreg hty (fun q e he => Hw.en q e he) hope hpu hv;refine ⟨v, .inl ⟨hwant, h8⟩, fun av' hav' => ?_, fun hn => by rw [hav] at hn; cases hn⟩;rw [hav] at hav';injection hav' with hav';injection hav' with hav';subst hav';exact h9.mono (fun _ _ _ => rfl) (Ext.refl _) (Nat.le_refl _) fun b hb' => by rw [hrr]; exact hb'.1
   . refine ⟨undef, .inr ⟨hwant, rfl⟩, fun av' hav' => ?_, fun _ => rfl⟩;rw [hav] at hav';cases hav'
 . intro i o hi ho L a1 w1 val lo hi' M haft hLi hLc;obtain ⟨hb, hc⟩ := core i o hi ho L a1 w1 val lo hi' M haft hLi hLc;have Hw := H.calm hb;have ho' : l.toArray[i]? = some o := by simpa using ho
   rcases hc with ⟨hwant, S1, av, vcs, hav, hpu, hv, hope⟩ | ⟨hwant, hav⟩
   . obtain ⟨dst, op, ty, pos, aft, gd⟩ := o;have h7 := pureOp_ok (d := dst) (ty := ty) (pos := pos) (aft := aft) (gd := gd) (r := a1.eval) hty hcs.cs (fun q e he => Hw.en q e he) hope Hw.roB Hw.from_.size hpu hv;have hR : ∀ v w2, From w1 w2 -> AVR w2 ρ w0.heap.size (fun b => ((ro b \/ w.heap.size <= b) /\ b < w1.heap.size) \/ w1.heap.size <= b) av v -> Rav ρ w0.heap.size rr avs i v w2 := by
      intro v w2 _ hr;refine ⟨fun av' hav' => ?_, fun hn => by rw [hav] at hn; cases hn⟩;rw [hav] at hav';injection hav' with hav';injection hav' with hav';subst hav';refine hr.mono (fun _ _ _ => rfl) (Ext.refl _) (Nat.le_refl _) fun b hb' => ?_;rw [hrr];rcases hb' with ⟨h8, _⟩ | h8
      . exact h8
      . exact .inr (Nat.le_trans hb.size h8)
     rcases h7 with ⟨v, w2, h8, h9, h10⟩ | ⟨f, args, h8, h9⟩
     . exact wpOp_valueW ho' hwant h8 ⟨v, rfl, h9, hR v w2 h9 h10⟩
     . exact wpOp_enterW ho' hwant h8 (h9.mono fun e w2 ⟨v, q1, q2, q3⟩ => ⟨v, q1, v, rfl, q2, hR v w2 q2 q3⟩)
   . refine wpOp_not ho' hwant ⟨undef, rfl, Below.refl _ _, fun av' hav' => ?_, fun _ => rfl⟩;rw [hav] at hav';cases hav'
 . intro val lo hi w1 hb hrows _ listed hsz hLL;have hall : ∀ j av, avs[j]? = some (some av) -> (fun _ => true : Nat -> Bool) (0 + j) = true -> AVR w1 ρ w0.heap.size rr av (val (0 + j)) := by
    intro j av hj _;obtain ⟨q1, _, _, _, q5⟩ := Path.stage (L := fun _ => false) (val := val) (a0 := a0) (w := w1) (ρ := ρ) (base := w0.heap.size) (ro := rr) (i := 0) hpath hlget (hstart _ val w1 hb) (fun j av _ h => by cases h) (fun j _ h => by cases h);have hjn : j < np := by
     have := (List.getElem?_eq_some_iff.1 hj).1;rw [q5, List.length_take] at this;omega
    rw [Nat.zero_add];exact (hrows j hjn).2.2.2.1 av hj
   have hnone : ∀ j, avs[j]? = some none -> (fun _ => true : Nat -> Bool) (0 + j) = true -> val (0 + j) = undef := by
    intro j hj _;obtain ⟨q1, _, _, _, q5⟩ := Path.stage (L := fun _ => false) (val := val) (a0 := a0) (w := w1) (ρ := ρ) (base := w0.heap.size) (ro := rr) (i := 0) hpath hlget (hstart _ val w1 hb) (fun j av _ h => by cases h) (fun j _ h => by cases h);have hjn : j < np := by
     have := (List.getElem?_eq_some_iff.1 hj).1;rw [q5, List.length_take] at this;omega
    rw [Nat.zero_add];exact (hrows j hjn).2.2.2.2 hj
   obtain ⟨_, hfin, hes, hns, _⟩ := Path.stage (L := fun _ => true) (val := val) (i := 0) hpath hlget (hstart _ val w1 hb) hall hnone;rw [List.length_take, Nat.min_eq_left hnpl, Nat.zero_add] at hfin;have Hw := H.calm hb;have hdis := hpath.dis H.disT;have hback := fun j o ho => orderR_back (j := j) (o := o) hO ho
   suffices HS : Sim w0 SS N B S' (putAll val 0 (l.take np) a0) w1 from ⟨l.length - np, hlate S' _ w1 listed htail HS hsz hLL hback hsel⟩
   refine ⟨ρ, _, ⟨Hw.from_, by rw [putAll_size]; exact H.size, by rw [putAll_defers]; exact H.defers, Hw.roB, fun s x hx => ?_, fun q e he => Hw.en q e (by unfold lookE at he ⊢; rw [hes] at he; exact he), Hw.apart, fun q hq => Hw.fresh q (by rw [hns] at hq; exact hq), Hw.own, Hw.roS, Hw.solid, hdis, fun q e he => by rw [hes]; exact Hw.disE q e he⟩⟩;have h1 := hfin s x hx;have hbd : ∀ u, AVR w1 ρ w0.heap.size rr x u -> AVR w1 ρ w0.heap.size (fun b => (ro b \/ w.heap.size <= b) /\ b < w1.heap.size) x u := by
    intro u hr;have := hr.bound;rw [hrr] at this;exact this
   cases hp : prodOf l s np with
   | none =>
    rw [hp] at h1;obtain ⟨u, h2, h3⟩ := h1;refine ⟨u, ?_, hbd u h3⟩;rw [<- h2];refine putAll_old val s _ 0 a0 fun o ho => ?_;obtain ⟨i, hi⟩ := List.mem_iff_getElem?.1 ho;rw [List.getElem?_take] at hi;split at hi
    . rename_i hinp;exact prodOf_none hp i hinp o hi
    . cases hi
   | some j =>
    rw [hp] at h1;obtain ⟨h2, oj, h3, h4⟩ := prodOf_spec hp;obtain ⟨d, hd1, hd2, hd3⟩ := dstsB_spec hd h2 h3;rw [h4] at hd1;injection hd1 with hd1;subst hd1;refine ⟨val j, ?_, hbd _ (h1 rfl)⟩;have h5 := putAll_new val s (l.take np) 0 a0 j oj (by rw [List.getElem?_take_of_lt h2]; exact h3) h4 (fun j' o' hj' ho' => by
     rw [List.getElem?_take] at hj';split at hj'
     . rename_i hlt;exact hd3 j' o' hlt hj' ho'
     . cases hj') hd2
    rwa [Nat.zero_add] at h5
theorem drawOkG_of {ops : List Oper} (h : drawOk (efs C.fs) ops N = true) : drawOkG (efs C.fs) (sigma (efs C.fs) ops) (preLen (efs C.fs) (laid (efs C.fs) ops)) ops N = true := by
 unfold drawOk at h;unfold drawOkG;simp only [Bool.and_eq_true, decide_eq_true_eq] at h ⊢;refine ⟨preLen_le _, List.all_eq_true.2 fun o ho => ?_, h⟩;obtain ⟨i, hi⟩ := List.mem_iff_getElem?.1 ho;rw [List.getElem?_take] at hi;split at hi
 . rename_i hlt;exact preLen_pure hlt hi
 . cases hi
theorem draw_ok (hty : TyOk P C.ty) (hcs : CxOk P C SS) (hmix : P.follows .mixedOrders = true) {id : Nat} {ops : List Oper} {k : Sx -> Fm} (hQ : ∀ c a w, ¬ Q (.panic c) a w) (hok : drawOk (efs C.fs) ops N = true) (hk : ∀ S' a' w', Sim w0 SS N B S' a' w' -> (k S').P -> Q .normal a' w') (h : (goDraw C N B (laid (efs C.fs) ops) S k).P) (H : Sim w0 SS N B S a0 w) : (Code.region id ops.toArray true).wp P Q a0 w := by
 refine drawG_ok (late := fun S' => match chainB (laid (efs C.fs) ops) (preLen (efs C.fs) (laid (efs C.fs) ops)) with
  | true => goOps C N B (laid (efs C.fs) ops) ((laid (efs C.fs) ops).drop (preLen (efs C.fs) (laid (efs C.fs) ops))) S' k
  | false => goLate C N B (laid (efs C.fs) ops) ((laid (efs C.fs) ops).length - preLen (efs C.fs) (laid (efs C.fs) ops)) (List.range (preLen (efs C.fs) (laid (efs C.fs) ops))) S' k) hty hcs hmix hQ (drawOkG_of hok) (fun S' a' w' listed htail HS hsz hLL hback hsel => ?_) h H
 have hnpl := preLen_le (C := C) (laid (efs C.fs) ops);unfold laid at *
 generalize permL (sigma (efs C.fs) ops) ops = l at *
 generalize preLen (efs C.fs) l = np at *
 cases hch : chainB l np with
 | true =>
  rw [hch] at htail;exact chain_any hch hback _ np _ _ listed (by omega) (Nat.le_refl _) hsz hLL (goOps_seq hty hcs hk htail HS)
 | false =>
  rw [hch] at htail;exact goLate_ok hty hcs hsel hQ hk _ _ _ _ _ listed htail HS hsz fun j => by rw [hLL, memN_range]
end
section
variable {w w' w0 : World} {ρ ρ' ρ2 : Nat -> Option Rl} {base : Nat} {p : Nat -> Bool} {fz : Option (List Nat)} {ro ro' ro2 : Nat -> Prop} {S0 : Pm} {N : Nat} {B : Bs} {S : Sx} {a : Act}
theorem AVR.sameL {fr fr' : Bool} {t : Tc} {l m : Unit -> List t.el} {v : Value} (h : AVR w ρ base ro (.sl fr t l) v) (hl : l () = m ()) (hf : fr' = true -> fr = true) : AVR w ρ base ro (.sl fr' t m) v := by
 have e : l = m := funext fun u => by cases u; exact hl
 subst e
 cases fr' with
 | true => rw [hf rfl] at h; exact h
 | false => exact h.loose_
theorem mem_app {l m : List VC} (h : ∀ c ∈ l ++ m, c ()) : (∀ c ∈ l, c ()) /\ ∀ c ∈ m, c () := ⟨fun c hc => h c (List.mem_append.2 (.inl hc)), fun c hc => h c (List.mem_append.2 (.inr hc))⟩
theorem flag_of {fr fr' : Bool} (h : (fr || !fr') = true) : fr' = true -> fr = true := by
 intro h';rw [h'] at h;simpa using h
structure Anew (w0 : World) (ρ ρ2 : Nat -> Option Rl) (ro ro2 : Nat -> Prop) (p : Nat -> Bool) (fz : Option (List Nat)) : Prop where
 pl : ∀ l r, ρ l = some r -> p l = true -> ρ2 l = some r
 ro : ∀ b, ro b -> ro2 b
 nil : fz = none -> ∀ l, ρ l = none -> p l = true -> ρ2 l = some (.row none 0 0)
 out : ∀ ks, fz = some ks -> ∀ loc A n c, ρ loc = some (.row A n c) -> memN loc ks = false -> ∀ ad, A = some ad -> w0.heap.size <= ad.block /\ ro2 ad.block
mutual
theorem eqAV_ok (H : SimR w0 S0 N B S a w ρ ro) (M : Anew w0 ρ ρ2 ro ro2 p fz) : ∀ (x y : AV) (vcs : List VC) (v : Value), eqAV fz B S x y = some vcs -> (∀ c ∈ vcs, c ()) -> AVR w ρ w0.heap.size ro x v -> AV.under p y = true -> AVR w ρ2 w0.heap.size ro2 y v := by
 intro x y vcs v h hv hx hu;unfold eqAV at h;split at h
 . exact .un _
 . split at h
   . rename_i hk;subst hk;cases h;rw [hx.int_, hv _ (.head _)];exact .int _ _
   . cases h
 . split at h
   . rename_i hk;subst hk;cases h;rw [hx.lit_, hv _ (.head _)];exact .int _ _
   . cases h
 . split at h
   . rename_i hk;subst hk;cases h;rw [hx.int_, hv _ (.head _)];exact .lit _ _
   . cases h
 . split at h
   . rename_i hk;obtain ⟨rfl, rfl⟩ := hk;rw [hx.lit_];exact .lit _ _
   . cases h
 . cases h;rw [hx.bool_, hv _ (.head _)];exact .bool _
 . cases h;rw [hx.blit_, hv _ (.head _)];exact .bool _
 . cases h;rw [hx.bool_, hv _ (.head _)];exact .blit _
 . split at h
   . rename_i hk;subst hk;rw [hx.blit_];exact .blit _
   . cases h
 . cases h;rw [hx.str_, hv _ (.head _)];exact .str _
 . cases h;rw [hx.nil_];exact .nil
 . cases h;have h0 := hv _ (.head _);rw [hx.nil_];rename_i t l;have e : Value.slice none 0 0 = Value.slice none (l ()).length 0 := by rw [h0]; rfl
   rw [e];exact .sl _ _ _ none 0 [] (by rw [h0]; rfl) (Nat.le_refl _) (Rd.nil _ _ _ _) (fun _ h => by cases h) (fun _ _ h => by cases h) (fun k cs j x v h => by simp at h)
 . split at h
   . split at h
     . rename_i loc _ hk;cases h;rw [hx.nil_];exact .own _ _ _ _ (M.nil rfl loc (H.fresh loc (by simpa using hk)) (by simpa [AV.under] using hu))
     . cases h
   . cases h
 . split at h
   . rename_i fr t l fr' t' m hk;subst hk;split at h
     . rename_i hf;cases h;exact ((hx.sameL (m := m) (hv _ (.head _)) (flag_of hf)).plain (fresh := false) (by simp [AV.plain]) fun b _ h => M.ro b h)
     . cases h
   . cases h
 . rename_i loc fr' t' m;split at h
   . cases h
   . rename_i ks;split at h
     . cases h
     . rename_i hks;split at h
       . rename_i fr t T l he;split at h
         . rename_i hk;subst hk;split at h
           . rename_i hf;cases h;obtain ⟨A, c, css, hA, hown, hlen, hcell⟩ := H.en _ _ he;obtain ⟨A', n', c', hA', rfl⟩ := hx.own_;rw [hA] at hA';injection hA' with hA';injection hA' with e1 e2 e3;subst e1; subst e2; subst e3;have hout := M.out ks rfl loc A _ c hA (by simpa using hks);have h1 : AVR w ρ2 w0.heap.size ro2 (.sl fr _ l) (.slice A (l ()).length c) := by
              refine .sl fr _ l A c css hlen hown.cap.1 hown.rd (fun ad ha _ => (hout ad ha).2) (fun _ ad ha _ => (hout ad ha).1) fun k cs j x v q1 q2 q3 => ?_;exact (hcell k cs j x v q1 q2 q3).plain (fresh := false) (plainL_get (cellsAV_plain0 _ _ _) q2) fun b _ h => M.ro b h
             exact h1.sameL (hv _ (.head _)) (flag_of hf)
           . cases h
         . cases h
       . cases h
 . split at h
   . rename_i fr t l n fr' t' m hk;subst hk;split at h
     . rename_i hf;cases h;exact (((wide_take hx).sameL (m := m) (hv _ (.head _)) (flag_of hf)).plain (fresh := false) (by simp [AV.plain]) fun b _ h => M.ro b h)
     . cases h
   . cases h
 . split at h
   . rename_i fr t l n fr' t' m k hk;subst hk;split at h
     . rename_i hf;cases h;obtain ⟨A, c, hn, hl, rfl⟩ := hx.wide_;have e1 : l () = m () := hv _ (.head _);have e2 : n () = k () := hv _ (.tail _ (.head _));rw [e2];have hl2 := ((hl.sameL (m := m) e1 (flag_of hf)).plain (fresh := false) (ρ' := ρ2) (ro' := ro2) (by simp [AV.plain]) fun b _ h => M.ro b h)
       rw [e1] at hl2;exact .wide fr' _ m k A c (by rw [<- e1, <- e2]; exact hn) hl2
     . cases h
   . cases h
 . split at h
   . rename_i loc loc' hk;subst hk;obtain ⟨A, n', c, hA, rfl⟩ := hx.own_;exact .own _ _ _ _ (M.pl _ _ hA (by simpa [AV.under] using hu))
   . cases h
 . split at h
   . rename_i loc off loc' off' hk;obtain ⟨rfl, rfl⟩ := hk;obtain ⟨b, hb, rfl⟩ := hx.ptr_;exact .ptr _ _ _ (M.pl _ _ hb (by simpa [AV.under] using hu))
   . cases h
 . split at h
   . rename_i loc loc' hk;subst hk;obtain ⟨b, hb, rfl⟩ := hx.mp_;exact .mp _ _ (M.pl _ _ hb (by simpa [AV.under] using hu))
   . cases h
 . split at h
   . rename_i l l2 l' l2' hk;obtain ⟨rfl, rfl⟩ := hk;obtain ⟨b, hb, rfl⟩ := hx.it_;exact .it _ _ _ (M.pl _ _ hb (by simpa [AV.under] using hu))
   . cases h
 . rename_i l m;obtain ⟨vs, rfl, hE⟩ := hx.agg_;have := eqAVs_ok H M l m vcs vs h hv hE (by simpa only [AV.under] using hu);exact .agg _ _ this.1 this.2
 . rename_i l m;obtain ⟨vs, rfl, hE⟩ := hx.tup_;have := eqAVs_ok H M l m vcs vs h hv hE (by simpa only [AV.under] using hu);exact .tup _ _ this.1 this.2
 . split at h
   . rename_i f l g m hk;subst hk;obtain ⟨vs, rfl, hE⟩ := hx.fn_;have := eqAVs_ok H M l m vcs vs h hv hE (by simpa only [AV.under] using hu);exact .fn _ _ _ this.1 this.2
   . cases h
 . cases h
theorem eqAVs_ok (H : SimR w0 S0 N B S a w ρ ro) (M : Anew w0 ρ ρ2 ro ro2 p fz) : ∀ (xs ys : List AV) (vcs : List VC) (vs : List Value), eqAVs fz B S xs ys = some vcs -> (∀ c ∈ vcs, c ()) -> Each w ρ w0.heap.size ro xs vs -> AV.underL p ys = true -> Each w ρ2 w0.heap.size ro2 ys vs := by
 intro xs ys vcs vs h hv hE hu;unfold eqAVs at h;split at h
 . rw [hE.none];exact .nil
 . rename_i x l y m;split at h
   . rename_i p q h4 h5;cases h;obtain ⟨v, us, rfl, hx, hE'⟩ := hE.head;have h6 := mem_app hv;simp only [AV.underL, Bool.and_eq_true] at hu;exact .cons (eqAV_ok H M x y p v h4 h6.1 hx hu.1) (eqAVs_ok H M l m q us h5 h6.2 hE' hu.2)
   . cases h
 . cases h
end
theorem underL_get {p : Nat -> Bool} : ∀ {l : List AV} {j : Nat} {x : AV}, AV.underL p l = true -> l[j]? = some x -> AV.under p x = true
 | y :: l, 0, x, h, hx => by
  simp only [List.getElem?_cons_zero, Option.some.injEq] at hx;subst hx;simp only [AV.underL, Bool.and_eq_true] at h;exact h.1
 | y :: l, j + 1, x, h, hx => by
  simp only [AV.underL, Bool.and_eq_true] at h;exact underL_get h.2 (by simpa using hx)
 | [], j, x, _, hx => by simp at hx
theorem cellsAV_under (fr : Bool) (t : Tc) (x : Unit -> t.el) (p : Nat -> Bool) : AV.underL p (cellsAV fr t x) = true := by cases t <;> rfl
theorem AVR.under_ {x : AV} {v : Value} (h : AVR w ρ base ro x v) (hx : AV.under p x = true) (h2 : ∀ l r, ρ l = some r -> p l = true -> ρ2 l = some r) : AVR w ρ2 base ro x v := by
 induction h with
 | un => exact .un _
 | int => exact .int _ _
 | lit => exact .lit _ _
 | bool => exact .bool _
 | blit => exact .blit _
 | str => exact .str _
 | nil => exact .nil
 | sl fr t l A c css hl hc hr hro1 hfr h ih => exact .sl fr t l A c css hl hc hr hro1 hfr fun k cs j y v h1 h2 h3 => ih k cs j y v h1 h2 h3 (underL_get (cellsAV_under _ _ _ _) h2)
 | wide fr t l n A c hn h ih => exact .wide fr t l n A c hn (ih rfl)
 | pto cells off b o cs hr hlt hl hc h ih => exact .pto cells off b o cs hr hlt hl hc fun j y v h1 h2 => ih j y v h1 h2 (underL_get (by simpa only [AV.under] using hx) h1)
 | ptr l off b h => exact .ptr _ _ _ (h2 _ _ h (by simpa [AV.under] using hx))
 | mp l b h => exact .mp _ _ (h2 _ _ h (by simpa [AV.under] using hx))
 | stamp l b h => exact .stamp _ _ (h2 _ _ h (by simpa [AV.under] using hx))
 | it l l2 b h => exact .it _ _ _ (h2 _ _ h (by simpa [AV.under] using hx))
 | own l A n c h => exact .own _ _ _ _ (h2 _ _ h (by simpa [AV.under] using hx))
 | orp t l k off A n c b h hA h0 hn => exact .orp _ _ _ _ _ _ _ _ (h2 _ _ h (by simpa [AV.under] using hx)) hA h0 hn
 | agg l vs hl h ih => exact .agg _ _ hl fun j y v h1 h2 => ih j y v h1 h2 (underL_get (by simpa only [AV.under] using hx) h1)
 | tup l vs hl h ih => exact .tup _ _ hl fun j y v h1 h2 => ih j y v h1 h2 (underL_get (by simpa only [AV.under] using hx) h1)
 | fn f caps vs hl h ih => exact .fn _ _ _ hl fun j y v h1 h2 => ih j y v h1 h2 (underL_get (by simpa only [AV.under] using hx) h1)
theorem alook_append {α : Type} : ∀ (l m : List (Nat × α)) (d : Nat), alook (l ++ m) d = (match alook l d with | some x => some x | none => alook m d)
 | [], m, d => rfl
 | (k, x) :: l, m, d => by
  rw [List.cons_append, alook_cons, alook_cons, alook_append l m d];split <;> rfl
theorem apartK_get {α β : Type} {l : List (Nat × α)} : ∀ {m : List (Nat × β)} {d : Nat} {x : β}, apartK l m = true -> alook m d = some x -> alook l d = none
 | (k, y) :: m, d, x, h, hx => by
  unfold apartK at h;simp only [Bool.and_eq_true, Option.isNone_iff_eq_none] at h;rw [alook_cons] at hx;split at hx
  . rename_i e; subst e; exact h.1
  . exact apartK_get h.2 hx
 | [], _, _, _, hx => by cases hx
theorem belowT_get {p : Nat -> Bool} : ∀ {m : List (Nat × AV)} {d : Nat} {x : AV}, belowT p m = true -> alook m d = some x -> AV.under p x = true
 | (k, y) :: m, d, x, h, hx => by
  unfold belowT at h;simp only [Bool.and_eq_true] at h;rw [alook_cons] at hx;split at hx
  . cases hx; exact h.1
  . exact belowT_get h.2 hx
 | [], _, _, _, hx => by cases hx
theorem belowE_get {p : Nat -> Bool} : ∀ {m : List (Nat × En)} {d : Nat} {e : En}, belowE p m = true -> alook m d = some e -> p d = true /\ En.under p e = true
 | (k, e') :: m, d, e, h, hx => by
  unfold belowE at h;simp only [Bool.and_eq_true] at h;rw [alook_cons] at hx;split at hx
  . rename_i hk; subst hk; cases hx; exact h.1
  . exact belowE_get h.2 hx
 | [], _, _, _, hx => by cases hx
theorem elAV_under (ag fr : Bool) (t : Tc) (x : Unit -> t.el) (n : Nat -> Bool) : AV.under n (elAV ag fr t x) = true := by
 unfold elAV;have h := cellsAV_under fr t x n
 cases ag with
 | true => exact h
 | false =>
  simp only [Bool.false_eq_true, if_false]
  cases hc : cellsAV fr t x with
  | nil => rfl
  | cons c l =>
   rw [hc] at h
   cases l with
   | nil => simpa [AV.underL] using h
   | cons c2 l => rfl
theorem eqEs_ok (H : SimR w0 S0 N B S a w ρ ro) (M : Anew w0 ρ ρ2 ro ro2 p fz) : ∀ {oe : List (Nat × En)} {tb : List VC}, eqEs fz B S oe = some tb -> (∀ c ∈ tb, c ()) -> belowE p oe = true -> ∀ l e, alook oe l = some e -> EnR w ρ2 w0.heap.size ro2 l e := by
 intro oe
 induction oe with
 | nil => intro tb _ _ _ l e h; cases h
 | cons p oe ih =>
  intro tb hE hv hb l e he;obtain ⟨k, z⟩ := p
  cases z with
  | box T cs =>
   unfold eqEs at hE;simp only [belowE, Bool.and_eq_true] at hb;split at hE
   . rename_i T' cs' hl;split at hE
     . rename_i hTT;subst hTT;split at hE
       . rename_i p q h4 h5;cases hE;have hv2 := mem_app hv;rw [alook_cons] at he;split at he
         . rename_i e0;subst e0;cases he;obtain ⟨b, us, k1, k4, k5⟩ := H.en _ _ hl;exact ⟨b, us, M.pl _ _ k1 hb.1.1, k4, eqAVs_ok H M _ _ p us h4 hv2.1 k5 (by simpa [En.under] using hb.1.2)⟩
         . exact ih h5 hv2.2 hb.2 l e he
       . cases hE
     . cases hE
   . cases hE
  | row fr t T m =>
   unfold eqEs at hE;simp only [belowE, Bool.and_eq_true] at hb;split at hE
   . rename_i q h5;split at hE
     . rename_i fr' t' T' m' hl;split at hE
       . rename_i ht;subst ht;split at hE
         . rename_i hc;obtain ⟨rfl, hf⟩ := hc;cases hE;rw [alook_cons] at he;split at he
           . rename_i e0;subst e0;cases he;obtain ⟨A, c, css, k1, k2, k3, k5⟩ := H.en _ _ hl;have hm : m' = m := funext fun u => by cases u; exact hv _ (.head _)
             subst hm;refine ⟨A, c, css, M.pl _ _ k1 hb.1.1, k2.base_le (rb_mono _ (flag_of hf)), k3, fun kk cs j x v q1 q2 q3 => ?_⟩;have hsz := k2.2 cs (List.mem_of_getElem? q1);have h6 := (each_less (g := fr) (row_each hsz fun j y v r1 r2 => k5 kk cs j y v q1 r1 r2) (flag_of hf)).2 j x v q2 q3;exact (h6.under_ (underL_get (cellsAV_under _ _ _ _) q2) M.pl).mono (fun _ _ _ => rfl) (Ext.refl _) (Nat.le_refl _) M.ro
           . exact ih h5 (fun c hc => hv c (.tail _ hc)) hb.2 l e he
         . cases hE
       . cases hE
     . cases hE
     . rename_i hl;split at hE
       rotate_left
       . cases hE
       split at hE
       . rename_i hk;cases hE;rw [alook_cons] at he;split at he
         . rename_i e0;subst e0;cases he;have hm := hv _ (.head _);refine ⟨none, 0, [], by rw [hm]; exact M.nil rfl _ (H.fresh _ hk) hb.1.1, OwnS.nil _ _ _ _, by rw [hm]; rfl, fun kk cs j x v q1 => by simp at q1⟩
         . exact ih h5 (fun c hc => hv c (.tail _ hc)) hb.2 l e he
       . cases hE
   . cases hE
  | map fr ag c t T m =>
   unfold eqEs at hE;simp only [belowE, Bool.and_eq_true] at hb;split at hE
   . rename_i q h5;split at hE
     . rename_i fr' ag' c' t' T' m' hl;split at hE
       . rename_i ht;subst ht;split at hE
         . rename_i hc;obtain ⟨rfl, rfl, rfl, hf⟩ := hc;cases hE;rw [alook_cons] at he;split at he
           . rename_i e0;subst e0;cases he;obtain ⟨b, es, clock, k1, k2, k3, k4⟩ := H.en _ _ hl;have hm : m' = m := funext fun u => by cases u; exact hv _ (.head _)
             subst hm;exact ⟨b, es, clock, M.pl _ _ k1 hb.1.1, k2, k3, (k4.less (flag_of hf)).map_ fun x v hx => (hx.under_ (elAV_under _ _ _ _ _) M.pl).mono (fun _ _ _ => rfl) (Ext.refl _) (Nat.le_refl _) M.ro⟩
           . exact ih h5 (fun c hc => hv c (.tail _ hc)) hb.2 l e he
         . cases hE
       . cases hE
     . cases hE
   . cases hE
  | iter ml c seen left =>
   unfold eqEs at hE;simp only [belowE, En.under, Bool.and_eq_true] at hb;split at hE
   . rename_i q h5;split at hE
     . rename_i ml' c' seen' left' hl;split at hE
       . rename_i hc;obtain ⟨rfl, rfl⟩ := hc;cases hE;rw [alook_cons] at he;split at he
         . rename_i e0;subst e0;cases he;obtain ⟨b, b2, es, clock, since, stamps, c0, k1, k2, k3, k4, k5, k6, k7, k8, k9⟩ := H.en _ _ hl;have e1 : seen' () = seen () := hv _ (.head _);have e2 : left' () = left () := hv _ (.tail _ (.head _));rw [e1] at k8 k9;rw [e2] at k7;exact ⟨b, b2, es, clock, since, stamps, c0, M.pl _ _ k1 hb.1.1, M.pl _ _ k2 hb.1.2, k3, k4, k5, k6, k7, k8, k9⟩
         . exact ih h5 (fun c hc => hv c (.tail _ (.tail _ hc))) hb.2 l e he
       . cases hE
     . cases hE
   . cases hE
  | stamp ml c key => unfold eqEs at hE; cases hE
  | dead => unfold eqEs at hE; cases hE
theorem SimR.rebase (H : SimR w0 S0 N B S a w ρ ro) {n : Nat} (hsol : ∀ l r, S0.pl l = some r -> (r.solid || S0.fx) = true -> l < n) {B2 : Bs} {ov : List (Nat × AV)} {oe : List (Nat × En)} {ta tb : List VC} (hT : eqTs B S ov = some ta) (hE : eqEs none B S oe = some tb) (hv : ∀ c ∈ ta ++ tb, c ()) (hbT : belowT (ltB n) ov = true) (hbE : belowE (ltB n) oe = true) (haT : apartK B2.t ov = true) (haE : apartK B2.e oe = true)
 (hBt : ∀ d x, alook B2.t d = some x -> ∃ u, a.tmps[d]? = some u /\ AVR w ρ w0.heap.size ro x u /\ AV.under (ltB n) x = true)
 (hBe : ∀ l e, alook B2.e l = some e -> EnR w ρ w0.heap.size ro l e /\ l < n /\ En.under (ltB n) e = true) :
 Sim w0 S0 N B2 ⟨ov, oe, n⟩ a w := by
 obtain ⟨ρ2, hρ2⟩ : ∃ ρ2 : Nat -> Option Rl, ρ2 = fun l => if l < n then (match ρ l with | some r => some r | none => some (.row none 0 0)) else none := ⟨_, rfl⟩
 have h2 : ∀ l r, ρ l = some r -> l < n -> ρ2 l = some r := fun l r h hl => by rw [hρ2]; simp only [if_pos hl, h]
 have h3 : ∀ l, ρ l = none -> l < n -> ρ2 l = some (.row none 0 0) := fun l h hl => by rw [hρ2]; simp only [if_pos hl, h]
 have hback : ∀ l r b, ρ2 l = some r -> r.blk = some b -> ρ l = some r := by
  intro l r b h hb;rw [hρ2] at h;simp only at h;split at h
  . cases hl : ρ l with
    | none => rw [hl] at h; injection h with h; subst h; cases hb
    | some r' => rw [hl] at h; exact h
  . cases h
 have hltB : ∀ {l}, ltB n l = true -> l < n := fun h => by simpa [ltB] using h
 have M : Anew w0 ρ ρ2 ro ro (ltB n) none := ⟨fun l r h hl => h2 l r h (hltB hl), fun _ h => h, fun _ l h hl => h3 l h (hltB hl), fun _ h => by cases h⟩
 have hva := mem_app hv;have hTs : ∀ {ov : List (Nat × AV)} {ta : List VC}, eqTs B S ov = some ta -> (∀ c ∈ ta, c ()) -> belowT (ltB n) ov = true -> ∀ d y, alook ov d = some y -> ∃ u, a.tmps[d]? = some u /\ AVR w ρ2 w0.heap.size ro y u := by
  intro ov
  induction ov with
  | nil => intro ta _ _ _ d y h; cases h
  | cons p ov ih =>
   intro ta hT hv hb d y hy;obtain ⟨k, z⟩ := p;unfold eqTs at hT;split at hT
   . rename_i x b hx hb'
     cases he : eqAV none B S x z with
     | none => rw [he] at hT; cases hT
     | some q =>
      rw [he] at hT;simp only [Option.map_some, Option.some.injEq] at hT;subst hT;have hv2 := mem_app hv;simp only [belowT, Bool.and_eq_true] at hb;rw [alook_cons] at hy;split at hy
      . rename_i e;subst e;cases hy;obtain ⟨u, h4, h5⟩ := H.tm _ _ hx;exact ⟨u, h4, eqAV_ok H M _ _ q u he hv2.1 h5 hb.1⟩
      . exact ih hb' hv2.2 hb.2 d y hy
   . cases hT
 refine ⟨ρ2, ro, H.from_, H.size, H.defers, H.roB, fun d x hx => ?_, fun l e he => ?_, fun l l' r r' b hne k1 k2 k3 k4 => ?_, fun l hl => ?_, fun l r b k1 k2 => H.own l r b (hback l r b k1 k2) k2, H.roS, fun l r k1 k2 => h2 l r (H.solid l r k1 k2) (hsol l r k1 k2), fun d x hx => ?_, fun l e he => ?_⟩
 . unfold lookT at hx;dsimp only at hx;split at hx
   . rename_i y hy;cases hx;exact hTs hT hva.1 hbT d _ hy
   . obtain ⟨u, q1, q2, q3⟩ := hBt d x hx;exact ⟨u, q1, q2.under_ q3 M.pl⟩
 . unfold lookE at he;dsimp only at he;split at he
   . rename_i y hy;cases he;exact eqEs_ok H M hE hva.2 hbE l _ hy
   . obtain ⟨q1, q2, q3⟩ := hBe l e he
     cases e with
     | box T cs =>
      obtain ⟨b, us, k1, k4, k5⟩ := q1;exact ⟨b, us, h2 _ _ k1 q2, k4, k5.1, fun j x v hx hv => (k5.2 j x v hx hv).under_ (underL_get (by simpa [En.under] using q3) hx) M.pl⟩
     | row fr t T m =>
      obtain ⟨A, c, css, k1, k2, k3, k5⟩ := q1;exact ⟨A, c, css, h2 _ _ k1 q2, k2, k3, fun kk cs j x v r1 r2 r3 => (k5 kk cs j x v r1 r2 r3).under_ (underL_get (cellsAV_under _ _ _ _) r2) M.pl⟩
     | map fr ag c t T m =>
      obtain ⟨b, es, clock, k1, k2, k3, k4⟩ := q1;exact ⟨b, es, clock, h2 _ _ k1 q2, k2, k3, k4.map_ fun x v hx => hx.under_ (elAV_under _ _ _ _ _) M.pl⟩
     | iter ml c seen left =>
      obtain ⟨b, b2, es, clock, since, stamps, c0, k1, k2, k3⟩ := q1;exact ⟨b, b2, es, clock, since, stamps, c0, h2 _ _ k1 q2, M.pl _ _ k2 (by simpa [En.under] using q3), k3⟩
     | stamp ml c key =>
      obtain ⟨b, es, clock, s, e, k1, k2, k3⟩ := q1;exact ⟨b, es, clock, s, e, h2 _ _ k1 q2, M.pl _ _ k2 (by simpa [En.under] using q3), k3⟩
     | dead => obtain ⟨r, k1⟩ := q1; exact ⟨r, h2 _ _ k1 q2⟩
 . exact H.apart l l' r r' b hne (hback l r b k1 k3) (hback l' r' b k2 k4) k3 k4
 . rw [hρ2];exact if_neg (by simp only at hl; omega)
 . cases ho : alook ov d with
   | none => rfl
   | some y => rw [apartK_get haT ho] at hx; cases hx
 . cases ho : alook oe l with
   | none => rfl
   | some y => rw [apartK_get haE ho] at he; cases he
end
def schAlts : List Nat -> (Nat -> Sch) -> Sch
 | [], _ => .bad
 | [i], f => f i
 | i :: l, f => .alt (f i) (schAlts l f)
def schLate (l : List Oper) (σ : List Nat) : Nat -> List Nat -> Sch
 | 0, done => match readyN l done with
  | [] => .nil
  | _ => .bad
 | fuel + 1, done =>
  let one (i : Nat) : Sch := match l[i]? with
   | some _ => match σ[i]? with
    | some j => .op j (schLate l σ fuel (i :: done))
    | none => .bad
   | none => .bad
  match readyN l done with
  | [] => .nil
  | [i] => one i
  | is => match firstReg l is with
   | some i => one i
   | none => schAlts is one
def schOf (ef : List Nat) (ops : List Oper) : Sch :=
 let σ := sigma ef ops
 let l := laid ef ops
 let np := preLen ef l
 schList (σ.take np) (match chainB l np with
  | true => schList (σ.drop np) .nil
  | false => schLate l σ (l.length - np) (List.range np))
def insN (i : Nat) : List Nat -> List Nat
 | [] => [i]
 | k :: l => if i < k then i :: k :: l else k :: insN i l
def nextN (l : List Oper) (done : List Nat) : List Nat := match readyN l done with
 | [] => []
 | [i] => [i]
 | is => match firstReg l is with
  | some i => [i]
  | none => match firstStill l done is with
   | some i => [i]
   | none => is
def latNd (σ : List Nat) (l : List Oper) (nds : List Nd) (nd : Nd) : Bool :=
 nd.ed.isEmpty || (sameN (nd.ed.map fun e => e.1) (nextN l nd.dn) && (decide (nd.dn.length < l.length) && nd.ed.all fun e => σ[e.1]? == some e.2.1 && match nds[e.2.2]? with
  | some nt => sameN nt.dn (insN e.1 nd.dn)
  | none => false))
def chainN (σ : List Nat) (l : List Oper) : List Nat -> List Nat -> Option (List Nat)
 | dn, [] => some dn
 | dn, oi :: r => match nextN l dn with
  | [i] => if σ[i]? == some oi then chainN σ l (insN i dn) r else none
  | _ => none
def postOk (σ : List Nat) (l : List Oper) (dn post : List Nat) : Bool := match chainN σ l dn post with
 | some dn => dn.length == l.length && (readyN l dn).isEmpty
 | none => false
def latEnd (σ : List Nat) (l : List Oper) (nds : List Nd) (post : List Nat) : Option (List Nat) -> Bool
 | none => false
 | some dn => decide (dn.length <= l.length) && (match nds with
  | nd :: r => sameN nd.dn dn && ((nd :: r).dropLast.all (fun nd => !nd.ed.isEmpty) && ((nd :: r).all (latNd σ l (nd :: r)) && match (nd :: r).getLast? with
   | some nl => postOk σ l nl.dn post
   | none => false))
  | [] => postOk σ l dn post)
def latOk (ef : List Nat) (ops : List Oper) (N : Nat) (t : Lat) : Bool :=
 drawOkG ef t.sg t.row.length ops N && (sameN t.row (t.sg.take t.row.length) && latEnd t.sg (permL t.sg ops) t.nds t.post (chainN t.sg (permL t.sg ops) (List.range t.row.length) t.pre))
def codeOk (ef : List Nat) (sc : List (Nat × Sch)) (lt : List (Nat × Lat)) (N : Nat) : Code -> Bool
 | .region id ops d => !d || (match latAt lt id with
  | some t => latOk ef ops.toList N t
  | none => drawOk ef ops.toList N && (match schAt sc id with
   | some s => decide (s = schOf ef ops.toList)
   | none => true))
 | .seq a b => codeOk ef sc lt N a && codeOk ef sc lt N b
 | .cond _ a b => codeOk ef sc lt N a && codeOk ef sc lt N b
 | .block _ b => codeOk ef sc lt N b
 | .loop b => codeOk ef sc lt N b
 | .scope b => codeOk ef sc lt N b
 | _ => true
section
variable {C : Cx} {N : Nat} {B : Bs}
theorem goOps_to {l l' rest' : List Oper} {o o' : Oper} {K k : Sx -> Fm} {S : Sx} (hop : o'.op = o.op) (hdst : o'.dst = o.dst) (hw : wantedAV B S l' o' = wantedAV B S l o \/ wantedAV B S l o = .stuck) (hK : ∀ S, (K S).P -> (goOps C N B l' rest' S k).P) (h : (goOps C N B l [o] S K).P) : (goOps C N B l' (o' :: rest') S k).P := by
 obtain ⟨dst, op, ty, pos, aft, gd⟩ := o;obtain ⟨dst', op', ty', pos', aft', gd'⟩ := o';dsimp only at hop hdst;subst hop;subst hdst;have hsp : ∀ S, splitOp C N B S ⟨dst', op', ty', pos', aft', gd'⟩ = splitOp C N B S ⟨dst', op', ty, pos, aft, gd⟩ := fun _ => rfl;have hst : ∀ S, stepOp C N B S ⟨dst', op', ty', pos', aft', gd'⟩ = stepOp C N B S ⟨dst', op', ty, pos, aft, gd⟩ := fun _ => rfl;have hsk : ∀ S, skipOp N B S ⟨dst', op', ty', pos', aft', gd'⟩ = skipOp N B S ⟨dst', op', ty, pos, aft, gd⟩ := fun _ => rfl;generalize hoo : (⟨dst', op', ty, pos, aft, gd⟩ : Oper) = o at *
 generalize hoo' : (⟨dst', op', ty', pos', aft', gd'⟩ : Oper) = o' at *
 have hmono : ∀ S f, splitOp C N B S o = some f -> (f fun S' => goOps C N B l [] S' K).P -> (f fun S' => goOps C N B l' rest' S' k).P := by
  intro S f hf hP;rw [<- hoo] at hf;unfold splitOp at hf;dsimp only at hf;split at hf
  . split at hf
    . split at hf
      . split at hf
        . cases hf;intro x hx;exact hK _ (hP x hx)
        . cases hf
      . cases hf
    . cases hf
  . split at hf
    . split at hf
      . split at hf
        . split at hf
          . cases hf;exact ⟨fun c => fun x hx => hK _ (hP.1 c x hx), fun c => fun x hx => hK _ (hP.2 c x hx)⟩
          . cases hf
        . cases hf
      . cases hf
    . cases hf
  . cases hf
 have hgo : ∀ S n, (match splitOp C N B S o with
  | some f => f fun S' => goOps C N B l [] S' K
  | none => match stepOp C N B S o with
   | some (S', []) => goOps C N B l [] S' K
   | some (S', vcs) => .vc vcs (goOps C N B l [] S' K)
   | none => .ff (1000 + ([] : List Oper).length) : Fm).P -> (match splitOp C N B S o' with
  | some f => f fun S' => goOps C N B l' rest' S' k
  | none => match stepOp C N B S o' with
   | some (S', []) => goOps C N B l' rest' S' k
   | some (S', vcs) => .vc vcs (goOps C N B l' rest' S' k)
   | none => .ff n : Fm).P := by
  intro S n hP;rw [hsp, hst]
  cases hs : splitOp C N B S o with
  | some f => rw [hs] at hP; exact hmono S f hs hP
  | none =>
   rw [hs] at hP;dsimp only at hP ⊢
   cases ht : stepOp C N B S o with
   | none => rw [ht] at hP; exact hP.elim
   | some r =>
    obtain ⟨S', vcs⟩ := r;rw [ht] at hP
    cases vcs with
    | nil => exact hK _ hP
    | cons c vcs => exact ⟨hP.1, hK _ hP.2⟩
 have hno : ∀ S, (match skipOp N B S o with
  | some S' => goOps C N B l [] S' K
  | none => .ff 3 : Fm).P -> (match skipOp N B S o' with
  | some S' => goOps C N B l' rest' S' k
  | none => .ff 3 : Fm).P := by
  intro S hP;rw [hsk]
  cases ht : skipOp N B S o with
  | none => rw [ht] at hP; exact hP.elim
  | some r => rw [ht] at hP; exact hK _ hP
 unfold goOps at h ⊢;dsimp only at h ⊢;rcases hw with hw | hw
 . rw [hw]
   cases hwv : wantedAV B S l o with
   | yes => rw [hwv] at h; exact hgo S _ h
   | no => rw [hwv] at h; exact hno S h
   | stuck => rw [hwv] at h; exact h.elim
   | ask d c b =>
    rw [hwv] at h;dsimp only at h ⊢
    cases h1 : putT B S N d (.blit true) with
    | none => rw [h1] at h; exact h.elim
    | some S1 =>
     rw [h1] at h
     cases h2 : putT B S N d (.blit false) with
     | none => rw [h2] at h; exact h.elim
     | some S2 =>
      rw [h2] at h
      cases b with
      | true => exact ⟨fun q => hgo S1 _ (h.1 q), fun q => hno S2 (h.2 q)⟩
      | false => exact ⟨fun q => hno S1 (h.1 q), fun q => hgo S2 _ (h.2 q)⟩
 . rw [hw] at h;exact h.elim
theorem permS_some {σ : List Nat} {n i : Nat} (h : permB σ n = true) (hi : i < n) : ∃ j, σ[i]? = some j /\ j < n := by
 unfold permB at h;simp only [Bool.and_eq_true, List.all_eq_true, List.mem_range] at h;have h1 := h.2 i hi
 cases hs : σ[i]? with
 | none => rw [hs] at h1; cases h1
 | some j =>
  rw [hs] at h1;simp only [Bool.and_eq_true, decide_eq_true_eq] at h1;exact ⟨j, rfl, h1.1⟩
theorem permS_pos {σ : List Nat} {n j : Nat} (h : permB σ n = true) (hj : j < n) : σ[posN σ j]? = some j := by
 unfold permB at h;simp only [Bool.and_eq_true, List.all_eq_true, List.mem_range] at h;have h1 := h.1.2 j hj;exact eq_of_beq h1
theorem permS_get {σ : List Nat} {l : List Oper} {i j : Nat} {o : Oper} (h : σ[i]? = some j) (ho : l[j]? = some o) : (permL σ l)[i]? = some (remapO σ o) := by
 unfold permL;rw [List.getElem?_map, h];simp only [Option.map_some];rw [ho]
theorem wantedS {σ : List Nat} {l : List Oper} (h : permB σ l.length = true) (S : Sx) (o : Oper) : wantedAV B S (permL σ l) (remapO σ o) = wantedAV B S l o \/ wantedAV B S l o = .stuck := by
 obtain ⟨dst, op, ty, pos, aft, gd⟩ := o
 cases gd with
 | none => exact .inl rfl
 | some g =>
  obtain ⟨j, b⟩ := g
  cases ho : l[j]? with
  | none =>
   right;unfold wantedAV;dsimp only;rw [ho];rfl
  | some oj =>
   left;have hj := (List.getElem?_eq_some_iff.1 ho).1;have h2 := permS_get (permS_pos h hj) ho;unfold wantedAV;dsimp only [remapO];rw [h2, ho];rfl
theorem sch_row {σ : List Nat} {l : List Oper} {k : Sx -> Fm} (h : permB σ l.length = true) : ∀ (is : List Nat) (os : List Oper) (r : Sch) (k' : Sx -> Fm) (S : Sx), is.length = os.length -> (∀ (q : Nat) o, os[q]? = some o -> ∃ i : Nat, σ[i]? = is[q]? /\ (permL σ l)[i]? = some o) -> (∀ S, (goSch C N B l r S k).P -> (k' S).P) -> (goSch C N B l (schList is r) S k).P -> (goOps C N B (permL σ l) os S k').P
 | [], [], r, k', S, _, _, hr, hP => by
  unfold goOps;exact hr S hP
 | i :: is, o :: os, r, k', S, hl, hq, hr, hP => by
  obtain ⟨q, h1, h2⟩ := hq 0 o rfl;have h1' : σ[q]? = some i := by simpa using h1
  unfold schList at hP;unfold goSch at hP
  cases ho : l[i]? with
  | none => rw [ho] at hP; exact hP.elim
  | some o2 =>
   rw [ho] at hP;have h3 := permS_get h1' ho;rw [h2] at h3;cases h3;have hP' : (goOps C N B l [o2] S fun S' => goSch C N B l (schList is r) S' k).P := hP;exact goOps_to (l := l) (o := o2) rfl rfl (wantedS h S o2) (fun S hS => sch_row h is os r k' S (by simpa using hl) (fun q o hq' => by simpa using hq (q + 1) o (by simpa using hq')) hr hS) hP'
 | [], _ :: _, _, _, _, hl, _, _, _ => by simp at hl
 | _ :: _, [], _, _, _, hl, _, _, _ => by simp at hl
theorem sch_alts {l : List Oper} {k : Sx -> Fm} {S : Sx} {f : Nat -> Sch} {g : Nat -> Fm} : ∀ {is : List Nat}, (∀ i ∈ is, (goSch C N B l (f i) S k).P -> (g i).P) -> (goSch C N B l (schAlts is f) S k).P -> (andAll is g).P
 | [], _, h => by
  unfold schAlts goSch at h;exact h.elim
 | [i], hi, h => hi i (.head _) h
 | i :: j :: is, hi, h => by
  unfold schAlts goSch at h;exact ⟨hi i (.head _) h.1, sch_alts (is := j :: is) (fun q hq => hi q (.tail _ hq)) h.2⟩
theorem sch_late {σ : List Nat} {l : List Oper} {k : Sx -> Fm} (h : permB σ l.length = true) : ∀ (fuel : Nat) (done : List Nat) (S : Sx), (goSch C N B l (schLate (permL σ l) σ fuel done) S k).P -> (goLate C N B (permL σ l) fuel done S k).P
 | 0, done, S, hP => by
  unfold schLate at hP;unfold goLate;split at hP
  . unfold goSch at hP;rename_i hr;rw [hr];exact hP
  . unfold goSch at hP;exact hP.elim
 | fuel + 1, done, S, hP => by
  unfold schLate at hP;unfold goLate;dsimp only at hP ⊢;have hone : ∀ i, (goSch C N B l (match (permL σ l)[i]? with
   | some _ => match σ[i]? with
    | some j => .op j (schLate (permL σ l) σ fuel (i :: done))
    | none => .bad
   | none => .bad) S k).P -> (match (permL σ l)[i]? with
   | some o => goOps C N B (permL σ l) [o] S fun S' => goLate C N B (permL σ l) fuel (i :: done) S' k
   | none => .ff 19 : Fm).P := by
   intro i hi
   cases ho : (permL σ l)[i]? with
   | none => rw [ho] at hi; unfold goSch at hi; exact hi.elim
   | some o =>
    rw [ho] at hi;dsimp only at hi ⊢
    cases hs : σ[i]? with
    | none => rw [hs] at hi; unfold goSch at hi; exact hi.elim
    | some j =>
     rw [hs] at hi;dsimp only at hi;unfold goSch at hi
     cases ho2 : l[j]? with
     | none => rw [ho2] at hi; exact hi.elim
     | some o2 =>
      rw [ho2] at hi;have h3 := permS_get hs ho2;rw [ho] at h3;cases h3;have hi' : (goOps C N B l [o2] S fun S' => goSch C N B l (schLate (permL σ l) σ fuel (i :: done)) S' k).P := hi;refine goOps_to (l := l) (o := o2) rfl rfl (wantedS h S o2) (fun S hS => ?_) hi';unfold goOps;exact sch_late h fuel (i :: done) S hS
  split at hP
  . rename_i hr;rw [hr];unfold goSch at hP;exact hP
  . rename_i i hr;rw [hr];exact hone i hP
  . rename_i is h1 h2;generalize readyN (permL σ l) done = is at *
    cases is with
    | nil => exact absurd rfl h1
    | cons i is =>
     cases is with
     | nil => exact absurd rfl (h2 i)
     | cons j is =>
      dsimp only at hP ⊢
      cases hf : firstReg (permL σ l) (i :: j :: is) with
      | some q => rw [hf] at hP; exact hone q hP
      | none => rw [hf] at hP; exact sch_alts (fun q _ hq => hone q hq) hP
theorem sch_ok {ops : List Oper} {k : Sx -> Fm} {S : Sx} (h : permB (sigma (efs C.fs) ops) ops.length = true) (hP : (goSch C N B ops (schOf (efs C.fs) ops) S k).P) : (goDraw C N B (laid (efs C.fs) ops) S k).P := by
 unfold schOf at hP;dsimp only at hP;unfold goDraw goDrawN;unfold laid at hP ⊢;generalize hnp : preLen (efs C.fs) (permL (sigma (efs C.fs) ops) ops) = np at *
 generalize sigma (efs C.fs) ops = σ at *
 have hlen : σ.length = ops.length := by
  unfold permB at h;simp only [Bool.and_eq_true] at h;exact eq_of_beq h.1.1
 have hpl : (permL σ ops).length = σ.length := by unfold permL; simp
 refine sch_row h (σ.take np) _ _ _ S (by rw [List.length_take, List.length_take, hpl]) (fun q o hq => ⟨q, ?_, ?_⟩) (fun S' hS' => ?_) hP
 . rw [List.getElem?_take] at hq ⊢;split at hq
   . rename_i hlt; rw [if_pos hlt]
   . cases hq
 . rw [List.getElem?_take] at hq;split at hq
   . exact hq
   . cases hq
 . cases hc : chainB (permL σ ops) np with
   | true =>
    rw [hc] at hS';dsimp only at hS' ⊢;refine sch_row h (σ.drop np) _ _ _ S' (by rw [List.length_drop, List.length_drop, hpl]) (fun q o hq => ⟨np + q, ?_, ?_⟩) (fun S2 hS2 => ?_) hS'
    . rw [List.getElem?_drop]
    . rw [List.getElem?_drop] at hq;exact hq
    . unfold goSch at hS2;exact hS2
   | false =>
    rw [hc] at hS';dsimp only at hS' ⊢;exact sch_late h _ _ _ hS'
end
inductive Wf (ef : List Nat) (sc : List (Nat × Sch)) (lt : List (Nat × Lat)) (N : Nat) : Bs -> List Kt -> Prop
 | nil (B) : Wf ef sc lt N B []
 | code (B c K) (hc : codeOk ef sc lt N c = true) (h : Wf ef sc lt N B K) : Wf ef sc lt N B (.code c :: K)
 | block (B id K) (h : Wf ef sc lt N B K) : Wf ef sc lt N B (.block id :: K)
 | back (Bo K' f K) (hT : ∀ d x, alook Bo.t d = some x -> alook K'.t d = none) (hE : ∀ l e, alook Bo.e l = some e -> alook K'.e l = none) (h : Wf ef sc lt N Bo K) : Wf ef sc lt N (join K' Bo) (.back Bo K' f :: K)
 | again (B b K) (hc : codeOk ef sc lt N b = true) (h : Wf ef sc lt N B K) : Wf ef sc lt N B (.again b :: K)
section
variable {w w' w0 : World} {ρ ρ' ρ2 : Nat -> Option Rl} {base n : Nat} {ro ro' : Nat -> Prop} {S0 : Pm} {N : Nat} {B : Bs} {S : Sx} {a : Act} {F : Fx} {P : Program}
theorem underL_of {p : Nat -> Bool} : ∀ {l : List AV}, (∀ (j : Nat) x, l[j]? = some x -> AV.under p x = true) -> AV.underL p l = true
 | [], _ => rfl
 | x :: l, h => by
  unfold AV.underL;rw [h 0 x rfl, underL_of fun j y hy => h (j + 1) y (by simpa using hy)];rfl
theorem AVR.under_of {x : AV} {v : Value} (h : AVR w ρ base ro x v) (hn : ∀ l, n <= l -> ρ l = none) : AV.under (ltB n) x = true := by
 have hlt : ∀ l r, ρ l = some r -> l < n := fun l r h => by
  rcases Nat.lt_or_ge l n with h1 | h1
  . exact h1
  . rw [hn l h1] at h; cases h
 have hl : ∀ {l : List AV} {vs : List Value}, l.length = vs.length -> (∀ (j : Nat) x v, l[j]? = some x -> vs[j]? = some v -> AV.under (ltB n) x = true) -> AV.underL (ltB n) l = true := by
  intro l vs hlen h;refine underL_of fun j x hx => ?_;have hj := (List.getElem?_eq_some_iff.1 hx).1;exact h j x _ hx (List.getElem?_eq_getElem (by rw [<- hlen]; exact hj))
 induction h with
 | un => rfl
 | int => rfl
 | lit => rfl
 | bool => rfl
 | blit => rfl
 | str => rfl
 | nil => rfl
 | sl => rfl
 | wide => rfl
 | pto cells off b o cs hr hlt2 hlen hc h ih => exact hl hlen ih
 | ptr l off b h => simpa [AV.under, ltB] using hlt _ _ h
 | mp l b h => simpa [AV.under, ltB] using hlt _ _ h
 | stamp l b h => simpa [AV.under, ltB] using hlt _ _ h
 | it l l2 b h => simpa [AV.under, ltB] using hlt _ _ h
 | own l A n' c h => simpa [AV.under, ltB] using hlt _ _ h
 | orp t l k off A n' c b h hA h0 hn' => simpa [AV.under, ltB] using hlt _ _ h
 | agg l vs hlen h ih => exact hl hlen ih
 | tup l vs hlen h ih => exact hl hlen ih
 | fn f caps vs hlen h ih => exact hl hlen ih
theorem maxK_le : ∀ (l : List Nat) (n : Nat), n <= maxK n l
 | [], n => Nat.le_refl _
 | k :: l, n => by
  unfold maxK;split
  . exact maxK_le l n
  . have := maxK_le l (k + 1); omega
theorem keepT_get {md locs : List Nat} {n d : Nat} {x : AV} : ∀ {l : List (Nat × AV)}, alook (keepT md locs n l) d = some x -> (∃ y, alook l d = some y /\ (x = y \/ x = .un)) /\ AV.under (ltB n) x = true
 | (k, y) :: l, h => by
  unfold keepT at h;split at h
  . rename_i hm;obtain ⟨⟨z, h1, h2⟩, h3⟩ := keepT_get h;refine ⟨?_, h3⟩;rw [alook_cons];split
    . exact absurd h (by
       rename_i e;subst e;have : ∀ l : List (Nat × AV), alook (keepT md locs n l) k = none := by
        intro l
        induction l with
        | nil => rfl
        | cons p l ih =>
         obtain ⟨k', y'⟩ := p;unfold keepT;split
         . exact ih
         . rename_i hm';rw [alook_cons, if_neg (by rintro rfl; exact hm' hm)];exact ih
       rw [this l]
       simp)
    . exact ⟨z, h1, h2⟩
  . rw [alook_cons] at h;rw [alook_cons];split at h
    . rename_i e;rw [if_pos e];injection h with h;subst h;split
      . exact ⟨⟨y, rfl, .inr rfl⟩, rfl⟩
      . rename_i hc;simp only [Bool.or_eq_true, not_or, Bool.not_eq_true, Bool.not_eq_false'] at hc;exact ⟨⟨y, rfl, .inl rfl⟩, by simpa using hc.2⟩
    . rename_i e;rw [if_neg e];exact keepT_get h
 | [], h => by cases h
theorem keepT_none {md locs : List Nat} {n d : Nat} {l : List (Nat × AV)} (h : alook l d = none) : alook (keepT md locs n l) d = none := by
 cases hk : alook (keepT md locs n l) d with
 | none => rfl
 | some x =>
  obtain ⟨⟨y, h1, _⟩, _⟩ := keepT_get hk;rw [h] at h1;cases h1
theorem keepC_get {locs : List Nat} {n : Nat} : ∀ {l : List AV} {j : Nat} {x : AV}, (keepC locs n l)[j]? = some x -> ∃ y, l[j]? = some y /\ (x = y \/ x = .un) /\ AV.under (ltB n) x = true
 | [], j, x, h => by simp [keepC] at h
 | y :: l, 0, x, h => by
  simp only [keepC, List.getElem?_cons_zero, Option.some.injEq] at h;subst h;refine ⟨y, rfl, ?_⟩;split
  . exact ⟨.inr rfl, rfl⟩
  . rename_i hc;simp only [Bool.or_eq_true, not_or, Bool.not_eq_true, Bool.not_eq_false'] at hc;exact ⟨.inl rfl, by simpa using hc.2⟩
 | y :: l, j + 1, x, h => by
  obtain ⟨z, h1, h2⟩ := keepC_get (l := l) (j := j) (x := x) (by simpa [keepC] using h);exact ⟨z, by simpa using h1, h2⟩
theorem keepC_len {locs : List Nat} {n : Nat} : ∀ (l : List AV), (keepC locs n l).length = l.length
 | [] => rfl
 | x :: l => by simp [keepC, keepC_len l]
theorem alook_keepE {locs : List Nat} {n k : Nat} : ∀ (l : List (Nat × En)), alook (keepE locs n l) k = if memN k locs || decide (n <= k) then none else (alook l k).map (keepEn locs n)
 | [] => by simp [keepE, alook]
 | (k', e') :: l => by
  unfold keepE;by_cases e : k' = k
  . subst e;split
    . rename_i hc;rw [alook_keepE l, if_pos hc]
    . rw [alook_cons, if_pos rfl, alook_cons, if_pos rfl];rfl
  . rw [alook_cons, if_neg e];split
    . exact alook_keepE l
    . rw [alook_cons, if_neg e]; exact alook_keepE l
structure Kept (n : Nat) (B2 : Bs) : Prop where
 t : ∀ d x, alook B2.t d = some x -> AV.under (ltB n) x = true
 e : ∀ l e, alook B2.e l = some e -> l < n /\ En.under (ltB n) e = true
theorem kept_of (H : SimR w0 S0 N B S a w ρ ro) {md locs : List Nat} (hn : S.n <= n) (B2 : Bs) (hB2 : B2 = join ⟨keepT md locs n S.t, keepE locs n S.e⟩ B) :
 Kept n B2 /\ (∀ d x, alook B2.t d = some x -> ∃ u, a.tmps[d]? = some u /\ AVR w ρ w0.heap.size ro x u) /\ (∀ l e, alook B2.e l = some e -> EnR w ρ w0.heap.size ro l e) /\ (∀ d x, alook B.t d = some x -> alook (keepT md locs n S.t) d = none) /\ ∀ l e, alook B.e l = some e -> alook (keepE locs n S.e) l = none := by
 subst hB2;have hfr : ∀ l, n <= l -> ρ l = none := fun l hl => H.fresh l (Nat.le_trans hn hl);have hT : ∀ d x, alook (join ⟨keepT md locs n S.t, keepE locs n S.e⟩ B).t d = some x -> (∃ u, a.tmps[d]? = some u /\ AVR w ρ w0.heap.size ro x u) /\ AV.under (ltB n) x = true := by
  intro d x hx;unfold join at hx;dsimp only at hx;rw [alook_append] at hx;split at hx
  . rename_i y hy;cases hx;obtain ⟨⟨z, h1, h2⟩, h3⟩ := keepT_get hy;obtain ⟨u, h4, h5⟩ := H.tm d z (by unfold lookT; rw [h1]);refine ⟨⟨u, h4, ?_⟩, h3⟩;rcases h2 with rfl | rfl
    . exact h5
    . exact .un _
  . obtain ⟨u, h4, h5⟩ := H.tm d x (by unfold lookT; rw [H.disT d x hx]; exact hx);exact ⟨⟨u, h4, h5⟩, h5.under_of hfr⟩
 have hE : ∀ l e, alook (join ⟨keepT md locs n S.t, keepE locs n S.e⟩ B).e l = some e -> EnR w ρ w0.heap.size ro l e /\ l < n /\ En.under (ltB n) e = true := by
  have hml : ∀ ml r, ρ ml = some r -> ml < n := fun ml r hr => by
   rcases Nat.lt_or_ge ml n with h | h
   . exact h
   . rw [hfr ml h] at hr; cases hr
  intro l e he;have hlt : ∀ e, EnR w ρ w0.heap.size ro l e -> l < n := fun e he => by
   obtain ⟨r, hr⟩ := he.none;rcases Nat.lt_or_ge l n with h | h
   . exact h
   . rw [hfr l h] at hr; cases hr
  unfold join at he;dsimp only at he;rw [alook_append] at he;split at he
  . rename_i y hy;cases he;rw [alook_keepE] at hy;split at hy
    . cases hy
    . cases hl : alook S.e l with
      | none => rw [hl] at hy; cases hy
      | some z =>
       rw [hl] at hy;simp only [Option.map_some, Option.some.injEq] at hy;subst hy;have h1 := H.en l z (by unfold lookE; rw [hl])
       cases z with
       | row fr t T m => exact ⟨h1, hlt _ h1, rfl⟩
       | map fr ag c t T m => exact ⟨h1, hlt _ h1, rfl⟩
       | dead => exact ⟨h1, hlt _ h1, rfl⟩
       | stamp ml c key => exact ⟨h1.none, hlt _ h1, rfl⟩
       | iter ml c seen left =>
        unfold keepEn;dsimp only;split
        . exact ⟨h1.none, hlt _ h1, rfl⟩
        . rename_i hc;simp only [Bool.or_eq_true, not_or, decide_eq_true_eq] at hc;exact ⟨h1, hlt _ h1, by simp only [En.under, ltB, decide_eq_true_eq]; omega⟩
       | box T cs =>
        obtain ⟨b, us, k1, k4, k5⟩ := h1;refine ⟨⟨b, us, k1, k4, by rw [keepC_len]; exact k5.1, fun j x v hx hv => ?_⟩, hml _ _ k1, underL_of fun j x hx => (keepC_get hx).elim fun y q => q.2.2⟩;obtain ⟨y, q1, q2, _⟩ := keepC_get hx;rcases q2 with rfl | rfl
        . exact k5.2 j _ v q1 hv
        . exact .un _
  . have h1 := H.en l e (by unfold lookE; rw [H.disE l e he]; exact he);refine ⟨h1, hlt e h1, ?_⟩
    cases e with
    | box T cs =>
     obtain ⟨b, us, k1, k4, k5⟩ := h1;refine underL_of fun j x hx => ?_;obtain ⟨v, hv, hr⟩ := k5.get hx;exact hr.under_of hfr
    | row fr t T m => rfl
    | map fr ag c t T m => rfl
    | dead => rfl
    | iter ml c seen left =>
     obtain ⟨b, b2, es, clock, since, stamps, c0, k1, k2, k3⟩ := h1;simpa [En.under, ltB] using hml _ _ k2
    | stamp ml c key =>
     obtain ⟨b, es, clock, s, e, k1, k2, k3⟩ := h1;simpa [En.under, ltB] using hml _ _ k2
 refine ⟨⟨fun d x hx => (hT d x hx).2, fun l e he => (hE l e he).2⟩, fun d x hx => (hT d x hx).1, fun l e he => (hE l e he).1, fun d x hx => keepT_none (H.disT d x hx), fun l e he => ?_⟩;rw [alook_keepE, H.disE l e he];split <;> rfl
theorem leave_ok {K' : Bs} (hT : ∀ d x, alook B.t d = some x -> alook K'.t d = none) (hE : ∀ l e, alook B.e l = some e -> alook K'.e l = none) (H : Sim w0 S0 N (join K' B) S a w) : Sim w0 S0 N B (leave K' S) a w := by
 obtain ⟨ρ, ro, H⟩ := H;have hlT : ∀ d, lookT B (leave K' S) d = lookT (join K' B) S d := by
  intro d;unfold lookT leave join;dsimp only;rw [alook_append, alook_append];cases alook S.t d <;> cases alook K'.t d <;> rfl
 have hlE : ∀ d, lookE B (leave K' S) d = lookE (join K' B) S d := by
  intro d;unfold lookE leave join;dsimp only;rw [alook_append, alook_append];cases alook S.e d <;> cases alook K'.e d <;> rfl
 refine ⟨ρ, ro, H.from_, H.size, H.defers, H.roB, fun d x hx => H.tm d x (by rw [<- hlT]; exact hx), fun l e he => H.en l e (by rw [<- hlE]; exact he), H.apart, H.fresh, H.own, H.roS, H.solid, fun d x hx => ?_, fun l e he => ?_⟩
 . unfold leave;dsimp only;have h1 : alook S.t d = none := H.disT d x (by unfold join; dsimp only; rw [alook_append, hT d x hx]; exact hx);rw [alook_append, h1];exact hT d x hx
 . unfold leave;dsimp only;have h1 : alook S.e l = none := H.disE l e (by unfold join; dsimp only; rw [alook_append, hE l e he]; exact he);rw [alook_append, h1];exact hE l e he
def KQ (F : Fx) (w0 : World) (S0 : Pm) (n : Nat) (B : Bs) (K : List Kt) : Exit -> Act -> World -> Prop
 | .normal, a, w => ∃ f S, f <= n /\ Sim w0 S0 F.N B S a w /\ (cont F f B S K).P
 | .exit id, a, w => ∃ f S, f <= n /\ Sim w0 S0 F.N B S a w /\ (exitTo F f id B S K).P
 | .ret, a, w => ∃ f S, f <= n /\ Sim w0 S0 F.N B S a w /\ (leaveAll F f B S K).P
 | _, _, _ => False
theorem KQ.more {m : Nat} {K : List Kt} {e : Exit} (h : KQ F w0 S0 n B K e a w) (hm : n <= m) : KQ F w0 S0 m B K e a w := by
 cases e with
 | normal => obtain ⟨f, S, h1, h2⟩ := h; exact ⟨f, S, Nat.le_trans h1 hm, h2⟩
 | exit id => obtain ⟨f, S, h1, h2⟩ := h; exact ⟨f, S, Nat.le_trans h1 hm, h2⟩
 | ret => obtain ⟨f, S, h1, h2⟩ := h; exact ⟨f, S, Nat.le_trans h1 hm, h2⟩
 | goto l => exact h.elim
 | panic c => exact h.elim
 | outgrown => exact h.elim
theorem eqS_ok {ov : List (Nat × AV)} {oe : List (Nat × En)} (h : (eqS B S ov oe).P) : ∃ ta tb, eqTs B S ov = some ta /\ eqEs none B S oe = some tb /\ ∀ c ∈ ta ++ tb, c () := by
 unfold eqS at h;split at h
 . rename_i ta tb h1 h2;exact ⟨ta, tb, h1, h2, allVC_mem h⟩
 . exact h.elim
theorem SimR.bare (H : SimR w0 S0 N B S a w ρ ro) : SimR w0 S0 N B ⟨[], [], S.n⟩ a w ρ ro := by
 refine ⟨H.from_, H.size, H.defers, H.roB, fun d x h => H.tm d x ?_, fun l e h => H.en l e ?_, H.apart, H.fresh, H.own, H.roS, H.solid, fun _ _ _ => rfl, fun _ _ _ => rfl⟩
 . have h' : alook B.t d = some x := h;unfold lookT;rw [H.disT d x h'];exact h'
 . have h' : alook B.e l = some e := h;unfold lookE;rw [H.disE l e h'];exact h'
end
end Go.Proofs.YtfdjcakgolenbaaGreat
