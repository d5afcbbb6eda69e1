/-
  twistlocklaw18: what Made makes is right; its weights lie within it. Plain.
  twistlocklaw18: frames and weights with one thing that is not right. Plain.
  Shear and bending moment: what lies ahead of a frame and what lies behind it tell the same: plain Lean, no program.
-/
import Derived.Test.YtcdfnlgimbecgaaMg38

namespace Go.Proofs.Ytcdfnlgimbecgaa

def lightS (l : List Frm) : Int := (l.map Frm.light).foldr (· + ·) 0
theorem lightS_cons (f : Frm) (l : List Frm) : lightS (f :: l) = f.light + lightS l := rfl
theorem shareF_cons (f : Frm) (l : List Frm) : shareF (f :: l) = f.share + shareF l := rfl
theorem lightS_snoc (f : Frm) : ∀ l : List Frm, lightS (l ++ [f]) = lightS l + f.light
  | [] => by simp [lightS]
  | g :: l => by rw [List.cons_append, lightS_cons, lightS_cons, lightS_snoc f l]; omega
theorem shareF_snoc (f : Frm) : ∀ l : List Frm, shareF (l ++ [f]) = shareF l + f.share
  | [] => by simp [shareF]
  | g :: l => by rw [List.cons_append, shareF_cons, shareF_cons, shareF_snoc f l]; omega
theorem lightFrom_sum : ∀ (l : List Frm) (s : Int), (∀ f ∈ l, 0 ≤ f.light) → 0 ≤ s → s + lightS l ≤ 500000000 → lightFrom s l = s + lightS l
  | [], s, _, _, _ => by simp [lightFrom, lightS]
  | f :: l, s, hf, h0, h => by
    have h1 := hf f (by simp)
    have h2 : 0 ≤ lightS l := by
      have : ∀ l : List Frm, (∀ f ∈ l, 0 ≤ f.light) → 0 ≤ lightS l := by
        intro l
        induction l with
        | nil => intro _; simp [lightS]
        | cons g l ih => intro hg; rw [lightS_cons]; have := ih (fun f hf => hg f (by simp [hf])); have := hg g (by simp); omega
      exact this l (fun g hg => hf g (by simp [hg]))
    rw [lightS_cons] at h ⊢
    unfold lightFrom
    rw [if_pos (by omega), lightFrom_sum l _ (fun g hg => hf g (by simp [hg])) (by omega) (by omega)]
    omega
theorem lightFrom_over : ∀ (l : List Frm) (s : Int), 500000000 < s → lightFrom s l = s
  | [], s, _ => rfl
  | f :: l, s, h => by
    unfold lightFrom
    rw [if_neg (by omega)]
    exact lightFrom_over l s h

theorem okFrom_snoc (g : Frm) (hg : g.ok = true) : ∀ (L : List Frm) (p : Option Int), okFrom p L = true → (∀ f ∈ L, f.x < g.x) → (∀ x, p = some x → x < g.x) → okFrom p (L ++ [g]) = true
  | [], p, _, _, hp => by
    unfold okFrom okFrom
    cases p with
    | none => simp [hg]
    | some x => simp [hg, hp x rfl]
  | f :: L, p, h, hf, hp => by
    unfold okFrom at h
    simp only [Bool.and_eq_true] at h
    rw [List.cons_append]
    unfold okFrom
    rw [okFrom_snoc g hg L _ h.2 (fun f hf' => hf f (by simp [hf'])) (fun x hx => by injection hx with hx; rw [← hx]; exact hf f (by simp)), h.1.1, h.1.2]
    rfl
/-- what the loop keeps -/
structure MInv (s : MS) (t : List Frm) (k : Nat) : Prop where
  done : s.done = [⟨-20000, 3000, 1000, 0, 0⟩, ⟨-10000, 2000, 0, 0, 0⟩] ++ t
  ok : okFrom (some (-10000)) t = true
  lt : ∀ f ∈ t, f.x < s.x
  share : shareF t + s.rest = 9000
  light : 0 ≤ lightS t ∧ lightS t ≤ 65535 * k
  nonneg : ∀ f ∈ t, 0 ≤ f.light
  len : t.length = k
  x : 5000 ≤ s.x ∧ s.x ≤ 5000 + k * 9100
  rest : 0 ≤ s.rest ∧ s.rest ≤ 9000

theorem minv {l : List Sml} (hok : ∀ x ∈ l, x.ok) : ∀ k, k ≤ l.length → k ≤ 7 → ∃ t, MInv (msAt l k) t k
  | 0, _, _ => ⟨[], rfl, rfl, by simp, rfl, by simp [lightS], by simp, rfl, by simp [msAt, ms0], by simp [msAt, ms0]⟩
  | k + 1, h, h7 => by
    obtain ⟨t, I⟩ := minv hok k (by omega) (by omega)
    have hx := hok l[k] (List.getElem_mem (by omega))
    have hb := msAt_ok hok (k + 1) h h7
    have hr := I.rest
    have hxx := I.x
    have hs : 0 ≤ (msAt l k).share l[k] ∧ (msAt l k).share l[k] ≤ 9000 := by
      have := hx.2.2.2.2
      unfold MS.share
      omega
    have hgok : (⟨(msAt l k).x, l[k].light, (msAt l k).share l[k], 0, 0⟩ : Frm).ok = true := by
      have := hx.2.1
      unfold Frm.ok
      simp only [Bool.and_eq_true, decide_eq_true_eq]
      refine ⟨⟨⟨⟨?_, ?_⟩, ?_⟩, ?_⟩, ?_⟩ <;> (constructor <;> omega)
    rw [msAt_succ l (by omega)] at hb ⊢
    have hnext : (msAt l k).x < ((msAt l k).step l[k]).x := by
      show _ < (msAt l k).nextX l[k]
      unfold MS.nextX
      have hlen := msAt_len l k (by omega)
      have := tmod_lt (a := l[k].step) (b := 9000 + (((msAt l k).done.length : Int) - 2)) hx.1.1 (by omega)
      omega
    refine ⟨t ++ [⟨(msAt l k).x, l[k].light, (msAt l k).share l[k], 0, 0⟩], ?_, ?_, ?_, ?_, ?_, ?_, ?_, hb.1, hb.2⟩
    · show (msAt l k).done ++ _ = _
      rw [I.done, List.append_assoc]
    · exact okFrom_snoc _ hgok t _ I.ok I.lt (fun x hx => by injection hx with hx; rw [← hx]; show (-10000 : Int) < (msAt l k).x; omega)
    · intro f hf
      rcases List.mem_append.1 hf with h1 | h1
      · have := I.lt f h1
        omega
      · rw [List.mem_singleton] at h1
        subst h1
        exact hnext
    · rw [shareF_snoc]
      show shareF t + (msAt l k).share l[k] + ((msAt l k).rest - (msAt l k).share l[k]) = 9000
      have := I.share
      omega
    · rw [lightS_snoc]
      have h1 := I.light
      have h2 := hx.2.1
      show 0 ≤ lightS t + l[k].light ∧ lightS t + l[k].light ≤ 65535 * ((k + 1 : Nat) : Int)
      omega
    · intro f hf
      rcases List.mem_append.1 hf with h1 | h1
      · exact I.nonneg f h1
      · rw [List.mem_singleton] at h1
        subst h1
        exact hx.2.1.1
    · rw [List.length_append, I.len]
      rfl

/-- what Made makes -/
structure MadeF (F : List Frm) (t : List Frm) (r x : Int) : Prop where
  eq : F = ⟨-20000, 3000, 1000, 0, 0⟩ :: ⟨-10000, 2000, r, 0, 0⟩ :: (t ++ [⟨x, 0, 0, 0, 0⟩])
  ok : okFrom (some (-10000)) (t ++ [⟨x, 0, 0, 0, 0⟩]) = true
  share : shareF t + r = 9000
  light : 0 ≤ lightS t ∧ lightS t ≤ 458745
  nonneg : ∀ f ∈ t, 0 ≤ f.light
  len : t.length ≤ 7
  x : 5000 ≤ x ∧ x ≤ 68700
  rest : 0 ≤ r ∧ r ≤ 9000
theorem madeF_is {l : List Sml} (hok : ∀ x ∈ l, x.ok) : ∃ t r, MadeF (madeF l) t r (madeW l - 20000) ∧ t.length = min l.length 7 := by
  obtain ⟨t, I⟩ := minv hok (min l.length 7) (by omega) (by omega)
  have hx := I.x
  have hl := I.light
  refine ⟨t, (msAt l (min l.length 7)).rest, ⟨?_, ?_, I.share, by omega, I.nonneg, by rw [I.len]; omega, by unfold madeW; omega, I.rest⟩, I.len⟩
  · unfold madeF addRest MS.frames madeW
    rw [I.done]
    simp
  · refine okFrom_snoc _ ?_ t _ I.ok (fun f hf => by have := I.lt f hf; unfold madeW; show f.x < _ + 20000 - 20000; omega) (fun x hx' => by injection hx' with hx'; unfold madeW; show x < _ + 20000 - 20000; omega)
    unfold madeW Frm.ok
    simp only [Bool.and_eq_true, decide_eq_true_eq]
    refine ⟨⟨⟨⟨?_, ?_⟩, ?_⟩, ?_⟩, ?_⟩ <;> (constructor <;> omega)

theorem lastF_snoc (f : Frm) (l : List Frm) : lastF (l ++ [f]) = f := by simp [lastF]
theorem MadeF.okAll {F t : List Frm} {r x : Int} (M : MadeF F t r x) : okFrom none F = true := by
  have hr := M.rest
  rw [M.eq]
  have h1 := M.ok
  unfold okFrom okFrom
  rw [h1]
  simp [Frm.ok]
  omega
theorem MadeF.lights {F t : List Frm} {r x : Int} (M : MadeF F t r x) : lightF F = 5000 + lightS t := by
  have hl := M.light
  have hS : lightS F = 5000 + lightS t := by
    rw [M.eq, lightS_cons, lightS_cons, lightS_snoc]
    show (3000 : Int) + (2000 + (lightS t + 0)) = _
    omega
  unfold lightF
  rw [lightFrom_sum F 0 ?_ (Int.le_refl _) (by omega), hS]
  · omega
  · intro f hf
    exact (Frm.ok_nums (okFrom_ok none F M.okAll f hf)).2.1.1
theorem MadeF.right {F t : List Frm} {r x : Int} (M : MadeF F t r x) : rightF F = true := by
  have hlen : F.length = t.length + 3 := by rw [M.eq]; simp
  have h7 := M.len
  have hl := M.light
  have hs := M.share
  have hsh : shareF F = 10000 := by
    rw [M.eq, shareF_cons, shareF_cons, shareF_snoc]
    show (1000 : Int) + (r + (shareF t + 0)) = _
    omega
  have hlast : lastF F = ⟨x, 0, 0, 0, 0⟩ := by
    rw [M.eq, ← List.cons_append, ← List.cons_append]
    exact lastF_snoc _ _
  unfold rightF
  rw [M.okAll, hlast, hsh, M.lights]
  simp only [Bool.and_true, Bool.and_eq_true, decide_eq_true_eq, and_true]
  omega

/-- a place within the frames -/
theorem idxF_in {F : List Frm} {y : Int} (h0 : ∃ f ∈ F, f.x ≤ y) (h1 : ∃ f ∈ F, y < f.x) : idxF F y ≠ 0 ∧ idxF F y ≤ F.length - 1 := by
  unfold idxF
  constructor
  · obtain ⟨f, hf, hx⟩ := h0
    intro h
    have h2 := List.eq_nil_of_length_eq_zero h
    rw [List.filter_eq_nil_iff] at h2
    exact h2 f hf (by simpa using hx)
  · obtain ⟨f, hf, hx⟩ := h1
    have h2 : (F.filter fun g => decide (g.x ≤ y)).length < F.length := by
      rw [List.length_filter_lt_length_iff_exists]
      exact ⟨f, hf, by simpa using hx⟩
    omega
def sumSec (f : Sec → Int) (S : List Sec) : Int := (S.map f).foldr (· + ·) 0
theorem sumSec_cons (f : Sec → Int) (a : Sec) (S : List Sec) : sumSec f (a :: S) = f a + sumSec f S := rfl
theorem fold_sum {f : Sec → Int} (hf : Part f) : ∀ (S : List Sec) (a : Sec), f (S.foldl Sec.add a) = f a + sumSec f S
  | [], a => by simp [sumSec]
  | b :: S, a => by
    rw [List.foldl_cons, fold_sum hf S (a.add b), hf.add, sumSec_cons]
    omega
theorem addAll_sum {f : Sec → Int} (hf : Part f) (S : List Sec) : f (addAll S) = sumSec f S := by
  unfold addAll
  rw [fold_sum hf, hf.zero]
  omega
theorem sumSec_put {f : Sec → Int} (hf : Part f) (c : Sec) : ∀ (S : List Sec) (i : Nat), i < S.length → sumSec f (S.set i ((S.getD i Sec.zero).add c)) = sumSec f S + f c
  | [], i, h => by cases h
  | a :: S, 0, _ => by
    simp only [List.set_cons_zero, List.getD_cons_zero, sumSec_cons, hf.add]
    omega
  | a :: S, i + 1, h => by
    simp only [List.set_cons_succ, List.getD_cons_succ, sumSec_cons]
    rw [sumSec_put hf c S i (by simpa using h)]
    omega
def sumWt (f : Sec → Int) (ws : List Wt) : Int := (ws.map fun u => f (wtSec u)).foldr (· + ·) 0
/-- weights within the frames are put in, and the sums grow by theirs -/
theorem putAll_in {l : List Frm} {n : Nat} : ∀ (ws : List Wt) (S : List Sec), S.length = n → (∀ u ∈ ws, idxF l u.x ≠ 0 ∧ idxF l u.x ≤ n) → ∃ S', putAllW l n S ws = some S' ∧ S'.length = n ∧ ∀ f, Part f → sumSec f S' = sumSec f S + sumWt f ws
  | [], S, hS, _ => ⟨S, rfl, hS, fun f hf => by simp [sumWt]⟩
  | u :: ws, S, hS, h => by
    have hu := h u (by simp)
    obtain ⟨S', h1, h2, h3⟩ := putAll_in (l := l) (n := n) ws (S.set (idxF l u.x - 1) ((S.getD (idxF l u.x - 1) Sec.zero).add (wtSec u))) (by rw [List.length_set]; exact hS) (fun v hv => h v (by simp [hv]))
    refine ⟨S', ?_, h2, fun f hf => ?_⟩
    · unfold putAllW putW
      rw [if_neg (by omega)]
      exact h1
    · rw [h3 f hf, sumSec_put hf _ _ _ (by omega)]
      show _ = _ + (f (wtSec u) + sumWt f ws)
      omega
theorem putAll_snoc {l : List Frm} {n : Nat} (u : Wt) : ∀ (ws : List Wt) (S S' : List Sec), putAllW l n S ws = some S' → putAllW l n S (ws ++ [u]) = putW l n S' u
  | [], S, S', h => by
    injection h with h
    subst h
    show (match putW l n S u with | none => none | some S' => putAllW l n S' []) = _
    cases putW l n S u <;> rfl
  | v :: ws, S, S', h => by
    unfold putAllW at h
    rw [List.cons_append]
    unfold putAllW
    cases hp : putW l n S v with
    | none => rw [hp] at h; cases h
    | some S2 =>
      rw [hp] at h
      exact putAll_snoc u ws S2 S' h
theorem baseS_len (l : List Frm) : (baseS l).length = l.length - 1 := by simp [baseS]
theorem baseS_light : ∀ (l : List Frm) (n : Nat) (all : Int) (k : Nat), k ≤ l.length → sumSec Sec.a0 ((List.range k).map (secBase l n all)) = lightS (l.take k) := by
  intro l n all k
  induction k with
  | zero => intro _; simp [sumSec, lightS]
  | succ k ih =>
    intro h
    have e : ∀ (S : List Sec) (a : Sec), sumSec Sec.a0 (S ++ [a]) = sumSec Sec.a0 S + a.a0 := by
      intro S a
      induction S with
      | nil => simp [sumSec]
      | cons b S ih2 => rw [List.cons_append, sumSec_cons, sumSec_cons, ih2]; omega
    rw [List.range_succ, List.map_append, List.map_singleton, e, ih (by omega), List.take_succ_eq_append_getElem (by omega), lightS_snoc]
    congr 1
    show (l.getD k frm0).light = _
    simp [show k < l.length by omega]
/-- all that Curve needs of frames and weights that Made made -/
theorem made_wts {l : List Sml} (hok : ∀ x ∈ l, x.ok) : ∀ u ∈ madeL l, (-20000 ≤ u.x ∧ u.x < madeW l - 20000) ∧ (0 ≤ u.kilos ∧ u.kilos < 65536) := by
  obtain ⟨t, r, M, _⟩ := madeF_is hok
  have hx := M.x
  intro u hu
  obtain ⟨x, hx', rfl⟩ := List.mem_map.1 hu
  have ho := hok x (List.mem_of_mem_take hx')
  have ht := tmod_lt (a := x.at_ * 7) (b := madeW l) (by have := ho.2.2.1; omega) (by omega)
  refine ⟨?_, ho.2.2.2.1⟩
  show -20000 ≤ -20000 + (x.at_ * 7).tmod (madeW l) ∧ -20000 + (x.at_ * 7).tmod (madeW l) < _
  omega
theorem MadeF.mem0 {F t : List Frm} {r x : Int} (M : MadeF F t r x) : ∃ f ∈ F, f.x = -20000 := ⟨_, by rw [M.eq]; exact List.mem_cons_self, rfl⟩
theorem MadeF.memN {F t : List Frm} {r x : Int} (M : MadeF F t r x) : ∃ f ∈ F, f.x = x := ⟨⟨x, 0, 0, 0, 0⟩, by rw [M.eq]; simp, rfl⟩
theorem MadeF.inside {F t : List Frm} {r x y : Int} (M : MadeF F t r x) (h0 : -20000 ≤ y) (h1 : y < x) : idxF F y ≠ 0 ∧ idxF F y ≤ F.length - 1 := by
  obtain ⟨f, hf, e⟩ := M.mem0
  obtain ⟨g, hg, e2⟩ := M.memN
  exact idxF_in ⟨f, hf, by omega⟩ ⟨g, hg, by omega⟩
theorem MadeF.xs {F t : List Frm} {r x : Int} (M : MadeF F t r x) : ∀ f ∈ F, -20000 ≤ f.x ∧ f.x ≤ x := by
  obtain ⟨h1, _⟩ := okFrom_ord F none M.okAll
  have hlen : F.length = t.length + 3 := by rw [M.eq]; simp
  intro f hf
  obtain ⟨i, hi, rfl⟩ := List.mem_iff_getElem.1 hf
  have h0 : F[0].x = -20000 := by simp [M.eq]
  have hN : (F[F.length - 1]'(by omega)).x = x := by
    have e : F[F.length - 1]? = some ⟨x, 0, 0, 0, 0⟩ := by
      rw [hlen]
      rw [M.eq]
      show (t ++ [(⟨x, 0, 0, 0, 0⟩ : Frm)])[t.length]? = _
      rw [List.getElem?_append_right (Nat.le_refl _)]
      simp
    rw [List.getElem?_eq_getElem (by omega)] at e
    injection e with e
    rw [e]
  constructor
  · rcases Nat.eq_zero_or_pos i with h | h
    · subst h; omega
    · have := h1 0 i h hi (by omega)
      omega
  · rcases Nat.lt_or_ge i (F.length - 1) with h | h
    · have := h1 i (F.length - 1) h (by omega) hi
      omega
    · have e : i = F.length - 1 := by omega
      subst e
      omega
theorem sumWt_snoc (f : Sec → Int) (u : Wt) : ∀ ws : List Wt, sumWt f (ws ++ [u]) = sumWt f ws + f (wtSec u)
  | [] => by simp [sumWt]
  | v :: ws => by
    show f (wtSec v) + sumWt f (ws ++ [u]) = f (wtSec v) + sumWt f ws + _
    rw [sumWt_snoc f u ws]
    omega
theorem sumWt_kilos : ∀ (ws : List Wt), (∀ u ∈ ws, 0 ≤ u.kilos ∧ u.kilos < 65536) → 0 ≤ sumWt Sec.a0 ws ∧ sumWt Sec.a0 ws ≤ 65536 * ws.length
  | [], _ => by simp [sumWt]
  | u :: ws, h => by
    have h1 := sumWt_kilos ws (fun v hv => h v (by simp [hv]))
    have h2 := h u (by simp)
    show 0 ≤ u.kilos + sumWt Sec.a0 ws ∧ u.kilos + sumWt Sec.a0 ws ≤ _
    rw [List.length_cons]
    omega
/-- weights within frames that Made made have sections, and these weigh as much -/
theorem made_sections {F t : List Frm} {r x : Int} (M : MadeF F t r x) (ws : List Wt) (hw : ∀ u ∈ ws, -20000 ≤ u.x ∧ u.x < x) : ∃ S, sectionsF F ws = some S ∧ S.length = F.length - 1 ∧ (addAll S).a0 = 5000 + lightS t + sumWt Sec.a0 ws := by
  obtain ⟨S, h1, h2, h3⟩ := putAll_in (l := F) (n := F.length - 1) ws (baseS F) (baseS_len F) (fun u hu => M.inside (hw u hu).1 (hw u hu).2)
  refine ⟨S, h1, h2, ?_⟩
  rw [addAll_sum part0, h3 _ part0]
  unfold baseS
  rw [baseS_light F _ _ _ (by omega)]
  have e : lightS (F.take (F.length - 1)) = 5000 + lightS t := by
    have hlen : F.length = t.length + 3 := by rw [M.eq]; simp
    rw [hlen]
    rw [M.eq]
    show lightS (_ :: _ :: ((t ++ [(⟨x, 0, 0, 0, 0⟩ : Frm)]).take t.length)) = _
    rw [List.take_left' rfl, lightS_cons, lightS_cons]
    show (3000 : Int) + (2000 + lightS t) = _
    omega
  rw [e]
theorem any_bad {ws : List Wt} (h : ∀ u ∈ ws, 0 ≤ u.kilos ∧ u.kilos ≤ 500000000) : ws.any wtBad = false := by
  rw [List.any_eq_false]
  intro u hu
  unfold wtBad
  simp [h u hu]
theorem madeL_len (l : List Sml) : (madeL l).length ≤ 8 := by simp [madeL]; omega
/-- the curve of what Made makes -/
theorem made_curve {l : List Sml} (hok : ∀ x ∈ l, x.ok) : ∃ S, sectionsF (madeF l) (madeL l) = some S ∧ S.length = (madeF l).length - 1 ∧ curveF (madeF l) (madeL l) = (curveS (madeF l) S, 0) := by
  obtain ⟨t, r, M, _⟩ := madeF_is hok
  have hw := made_wts hok
  have hl8 := madeL_len l
  obtain ⟨S, h1, h2, h3⟩ := made_sections M (madeL l) (fun u hu => (hw u hu).1)
  refine ⟨S, h1, h2, ?_⟩
  have hk := sumWt_kilos (madeL l) (fun u hu => (hw u hu).2)
  have hL := M.light
  unfold curveF
  rw [M.right, any_bad (fun u hu => by have := (hw u hu).2; omega), h1]
  simp only [Bool.not_true, Bool.or_false, Bool.false_eq_true, if_false]
  rw [if_neg (show ¬ 3000 < (madeL l).length by omega), if_neg (show ¬ 500000000 < (addAll S).a0 by omega)]
end Go.Proofs.Ytcdfnlgimbecgaa

namespace Go.Proofs.Ytcdfnlgimbecgaa

theorem sections_snoc {F : List Frm} {ws : List Wt} {S : List Sec} (h : sectionsF F ws = some S) (u : Wt) (hu : idxF F u.x = 0 ∨ F.length - 1 < idxF F u.x) : sectionsF F (ws ++ [u]) = none := by
  unfold sectionsF at h ⊢
  rw [putAll_snoc u ws _ S h]
  unfold putW
  rw [if_pos hu]
section
variable {l : List Sml} (hok : ∀ x ∈ l, x.ok)
include hok
theorem wrong_bads (u : Wt) (hu : 0 ≤ u.kilos ∧ u.kilos ≤ 500000000) : (madeL l ++ [u]).any wtBad = false := by
  have hw := made_wts hok
  refine any_bad fun v hv => ?_
  rcases List.mem_append.1 hv with h | h
  · have := (hw v h).2; omega
  · rw [List.mem_singleton] at h; subst h; exact hu
theorem wrong_len (u : Wt) : ¬ 3000 < (madeL l ++ [u]).length := by
  have _h := hok
  have := madeL_len l
  simp; omega
/-- ahead of the frames -/
theorem wrong1 : curveF (madeF l) (madeL l ++ [⟨-20001, 0⟩]) = ([], 6) := by
  obtain ⟨t, r, M, _⟩ := madeF_is hok
  obtain ⟨S, h1, _, _⟩ := made_sections M (madeL l) (fun u hu => (made_wts hok u hu).1)
  have h2 : sectionsF (madeF l) (madeL l ++ [⟨-20001, 0⟩]) = none := by
    refine sections_snoc h1 _ (.inl ?_)
    unfold idxF
    rw [List.filter_eq_nil_iff.2]
    · rfl
    · intro f hf
      have := (M.xs f hf).1
      simp; omega
  unfold curveF
  rw [M.right, wrong_bads hok ⟨-20001, 0⟩ (by decide), h2, if_neg (wrong_len hok _)]
  rfl
/-- behind the frames -/
theorem wrong2 : curveF (madeF l) (madeL l ++ [⟨madeW l - 20000, 0⟩]) = ([], 6) := by
  obtain ⟨t, r, M, _⟩ := madeF_is hok
  obtain ⟨S, h1, _, _⟩ := made_sections M (madeL l) (fun u hu => (made_wts hok u hu).1)
  have hlen : (madeF l).length = t.length + 3 := by rw [M.eq]; simp
  have h2 : sectionsF (madeF l) (madeL l ++ [⟨madeW l - 20000, 0⟩]) = none := by
    refine sections_snoc h1 _ (.inr ?_)
    unfold idxF
    rw [List.filter_eq_self.2]
    · omega
    · intro f hf
      have := (M.xs f hf).2
      simpa using this
  unfold curveF
  rw [M.right, wrong_bads hok ⟨madeW l - 20000, 0⟩ (by show (0 : Int) ≤ 0 ∧ (0 : Int) ≤ 500000000; omega), h2, if_neg (wrong_len hok _)]
  rfl
/-- too much weight -/
theorem wrong3 : curveF (madeF l) (madeL l ++ [⟨0, 500000000⟩]) = ([], 3) := by
  obtain ⟨t, r, M, _⟩ := madeF_is hok
  have hw := made_wts hok
  have hx := M.x
  obtain ⟨S, h1, _, h3⟩ := made_sections M (madeL l ++ [⟨0, 500000000⟩]) (fun u hu => by
    rcases List.mem_append.1 hu with h | h
    · exact (hw u h).1
    · rw [List.mem_singleton] at h; subst h; show (-20000 : Int) ≤ 0 ∧ (0 : Int) < _; omega)
  rw [sumWt_snoc] at h3
  have hk := sumWt_kilos (madeL l) (fun u hu => (hw u hu).2)
  have hL := M.light
  have h4 : Sec.a0 (wtSec ⟨0, 500000000⟩) = 500000000 := rfl
  unfold curveF
  rw [M.right, wrong_bads hok ⟨0, 500000000⟩ (by decide), h1, if_neg (wrong_len hok _)]
  simp only [Bool.not_true, Bool.or_false, Bool.false_eq_true, if_false]
  rw [if_pos (show 500000000 < (addAll S).a0 by omega)]
theorem wrong4 : curveF (madeF l) (madeL l ++ [⟨0, -1⟩]) = ([], 2) := by
  have _h := hok
  have h : (madeL l ++ [(⟨0, -1⟩ : Wt)]).any wtBad = true := by
    rw [List.any_eq_true]
    exact ⟨⟨0, -1⟩, by simp, by decide⟩
  unfold curveF
  rw [h]
  simp
end

theorem not_ok {F : List Frm} {f : Frm} (hf : f ∈ F) (h : f.ok = false) : rightF F = false := by
  cases hr : rightF F with
  | false => rfl
  | true =>
    have := okFrom_ok none F (rightF_parts hr).2.2.1 f hf
    rw [this] at h
    cases h
theorem bad_light (F : List Frm) (i : Nat) (hi : i < F.length) : rightF (F.set i { F[i] with light := -1 }) = false := by
  refine not_ok (f := { F[i] with light := -1 }) (List.mem_set hi _) ?_
  simp [Frm.ok]
theorem bad_shear (F : List Frm) (i : Nat) (hi : i < F.length) : rightF (F.set i { F[i] with shear := -1 }) = false := by
  refine not_ok (f := { F[i] with shear := -1 }) (List.mem_set hi _) ?_
  simp [Frm.ok]
theorem bad_bend (F : List Frm) (i : Nat) (hi : i < F.length) : rightF (F.set i { F[i] with bend := 1000000000000001 }) = false := by
  refine not_ok (f := { F[i] with bend := 1000000000000001 }) (List.mem_set hi _) ?_
  simp [Frm.ok]
theorem bad_x (F : List Frm) (i : Nat) (hi : i < F.length) : rightF (F.set i { F[i] with x := -500001 }) = false := by
  refine not_ok (f := { F[i] with x := -500001 }) (List.mem_set hi _) ?_
  simp [Frm.ok]
theorem shareF_set : ∀ (F : List Frm) (i : Nat) (hi : i < F.length) (g : Frm), shareF (F.set i g) = shareF F - F[i].share + g.share
  | [], _, hi, _ => by cases hi
  | f :: F, 0, _, g => by simp only [List.set_cons_zero, shareF_cons, List.getElem_cons_zero]; omega
  | f :: F, i + 1, hi, g => by
    simp only [List.set_cons_succ, shareF_cons, List.getElem_cons_succ]
    rw [shareF_set F i (by simpa using hi) g]
    omega
theorem bad_share (F : List Frm) (i : Nat) (hi : i < F.length) (h : rightF F = true) (d : Int) (hd : d ≠ 0) : rightF (F.set i { F[i] with share := F[i].share + d }) = false := by
  cases hr : rightF (F.set i { F[i] with share := F[i].share + d }) with
  | false => rfl
  | true =>
    have h1 := (rightF_parts hr).2.2.2
    have h2 := (rightF_parts h).2.2.2
    rw [shareF_set F i hi] at h1
    simp only at h1
    omega
theorem bad_last (F : List Frm) (h : 2 ≤ F.length) : rightF (F.set (F.length - 1) { F[F.length - 1] with x := F[F.length - 2].x }) = false := by
  cases hr : rightF (F.set (F.length - 1) { F[F.length - 1] with x := F[F.length - 2].x }) with
  | false => rfl
  | true =>
    have h1 := (okFrom_ord _ none (rightF_parts hr).2.2.1).1 (F.length - 2) (F.length - 1) (by omega) (by simp; omega) (by simp; omega)
    rw [List.getElem_set_ne (by omega), List.getElem_set_self] at h1
    simp only at h1
    omega
theorem bad_lastlight (F : List Frm) (h : 1 ≤ F.length) : rightF (F.set (F.length - 1) { F[F.length - 1] with light := 1 }) = false := by
  have e : lastF (F.set (F.length - 1) { F[F.length - 1] with light := 1 }) = { F[F.length - 1] with light := 1 } := by
    unfold lastF
    rw [List.getLastD_eq_getLast?, List.getLast?_eq_getElem?, List.length_set, List.getElem?_set_self (by omega)]
    rfl
  unfold rightF
  rw [e]
  simp
theorem bad_two (F : List Frm) : rightF (F.take 2) = false := by
  unfold rightF
  have h : ¬ 3 ≤ (F.take 2).length := by simp; omega
  rw [decide_eq_false (fun hc => h hc.1)]
  rfl
theorem bad_lights (f1 : Frm) (F : List Frm) (h : f1.light ≤ 500000000) : ∀ f0 : Frm, f0.light = 500000000 - f1.light + 1 → 0 < f1.light → rightF (f0 :: f1 :: F) = false := by
  intro f0 h0 h1
  have e : lightF (f0 :: f1 :: F) = 500000001 := by
    unfold lightF
    rw [show lightFrom 0 (f0 :: f1 :: F) = lightFrom (f0.light) (f1 :: F) by rw [lightFrom, if_pos (by omega), Int.zero_add]]
    rw [show lightFrom f0.light (f1 :: F) = lightFrom (f0.light + f1.light) F by rw [lightFrom, if_pos (by omega)]]
    rw [lightFrom_over _ _ (by omega)]
    omega
  unfold rightF
  rw [e]
  simp
theorem curve_bad {F : List Frm} {ws : List Wt} (h : rightF F = false) : curveF F ws = ([], 2) := by
  unfold curveF
  rw [h]
  rfl
theorem over_bad {F : List Frm} {ss : List Str} (h : rightF F = false) : overF F ss = ([], 2) := by
  unfold overF
  rw [h]
  rfl
theorem over_short {F : List Frm} {ss : List Str} (h : ss.length ≠ F.length) : overF F ss = ([], 2) := by
  unfold overF
  rw [decide_eq_true h]
  simp
end Go.Proofs.Ytcdfnlgimbecgaa

namespace Go.Proofs.Ytcdfnlgimbecgaa

/-- the sum of the first n -/
def sumR (f : Nat → Rat) : Nat → Rat
  | 0 => 0
  | n + 1 => sumR f n + f n

theorem sumR_congr {f g : Nat → Rat} : ∀ n, (∀ i, i < n → f i = g i) → sumR f n = sumR g n
  | 0, _ => rfl
  | n + 1, h => by
    unfold sumR
    rw [sumR_congr n (fun i hi => h i (by omega)), h n (by omega)]
theorem sumR_add (f g : Nat → Rat) : ∀ n, sumR (fun i => f i + g i) n = sumR f n + sumR g n
  | 0 => by unfold sumR; grind
  | n + 1 => by
    unfold sumR
    rw [sumR_add f g n]
    grind
theorem sumR_sub (f g : Nat → Rat) : ∀ n, sumR (fun i => f i - g i) n = sumR f n - sumR g n
  | 0 => by unfold sumR; grind
  | n + 1 => by
    unfold sumR
    rw [sumR_sub f g n]
    grind
theorem sumR_mul (c : Rat) (f : Nat → Rat) : ∀ n, sumR (fun i => c * f i) n = c * sumR f n
  | 0 => by unfold sumR; grind
  | n + 1 => by
    unfold sumR
    rw [sumR_mul c f n]
    grind
theorem sumR_zero : ∀ n, sumR (fun _ => 0) n = 0
  | 0 => rfl
  | n + 1 => by
    unfold sumR
    rw [sumR_zero n]
    grind

/-- the sum from j on -/
def tailR (f : Nat → Rat) (j n : Nat) : Rat := sumR f n - sumR f j

/-- the shear: what pulls down ahead less what lifts ahead, and the other way round behind -/
theorem shear_both {n : Nat} {lift light load : Nat → Rat} {W : Rat} (h1 : sumR lift n = W) (h2 : sumR light n + sumR load n = W) (j : Nat) :
    tailR lift j n - tailR light j n - tailR load j n = (sumR light j + sumR load j) - sumR lift j := by
  unfold tailR
  grind

/-- twice the bending moment: ahead, and behind; lm, dm, wm: twice the moments of what lifts, of the hull, of the loads -/
theorem bend_both {n : Nat} {lift light load lm dm wm : Nat → Rat} {W M X : Rat} (h1 : sumR lift n = W) (h2 : sumR light n + sumR load n = W) (h3 : sumR lm n = M) (h4 : sumR dm n + sumR wm n = M) (j : Nat) :
    -(tailR lm j n - tailR dm j n) + 2 * X * (tailR lift j n - tailR light j n) + tailR wm j n - 2 * X * tailR load j n = ((sumR light j + sumR load j) - sumR lift j) * (2 * X) + sumR lm j - (sumR dm j + sumR wm j) := by
  unfold tailR
  grind

/-- a whole number over a whole number, with a bound on both: every fraction that is equal to it fits -/
theorem bound_rat {z : Int} {d : Nat} (hd : d ≠ 0) : (((z : Rat) / (d : Rat)).num.natAbs ≤ z.natAbs) ∧ ((z : Rat) / (d : Rat)).den ≤ d := by
  have h : (z : Rat) / (d : Rat) = Rat.normalize z d hd := by rw [Rat.normalize_eq_mkRat, Rat.mkRat_eq_div]
  rw [h, Rat.normalize_eq hd]
  constructor
  · show (z / ((z.natAbs.gcd d : Nat) : Int)).natAbs ≤ z.natAbs
    exact Int.natAbs_ediv_le_natAbs _ _
  · exact Nat.div_le_self _ _
end Go.Proofs.Ytcdfnlgimbecgaa
