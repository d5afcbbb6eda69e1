/-
  The reference's curve and the program's one: total, buoyancy as rational numbers. Plain.
-/
import Derived.Test.YtcdfnlgimbecgaaMt47
namespace Go.Proofs.Ytcdfnlgimbecgaa
structure RefOk (l : List Frm) (ws : List Wt) : Prop where
 right : rightF l = true
 kil : ∀ x ∈ ws, 0 ≤ x.kilos ∧ x.kilos ≤ 500000000
 ins : ∀ u ∈ ws, outF l u = false
 few : ws.length ≤ 3000
theorem sumLt_all (f : Sec → Int) (y : Int) : ∀ ws : List Wt, (∀ u ∈ ws, u.x < y) → sumLt f y ws = sumWt f ws
 | [], _ => rfl
 | u :: ws, h => by
  rw [sumWt_cons]
  show (if u.x < y then f (wtSec u) else 0) + sumLt f y ws = _
  rw [if_pos (h u (by simp)), sumLt_all f y ws (fun v hv => h v (by simp [hv]))]
theorem allXr_eq (l : List Frm) : ∀ i, allXr l i = allX l i
 | 0 => rfl
 | i + 1 => by
  unfold allXr allX hX
  rw [allXr_eq l i]
  omega
theorem take_snoc {ws : List Wt} {k : Nat} (h : k < ws.length) : ws.take (k + 1) = ws.take k ++ [ws.getD k wt0] := by
 rw [List.take_succ_eq_append_getElem h, List.getD_eq_getElem?_getD, List.getElem?_eq_getElem h]
 rfl
theorem loadW_sum (a : Int) (ws : List Wt) : ∀ k, k ≤ ws.length → loadW a ws k = a + sumWt Sec.a0 (ws.take k)
 | 0, _ => by show a = a + 0; omega
 | k + 1, h => by
  unfold loadW
  rw [loadW_sum a ws k (by omega), take_snoc (by omega), sumWt_snoc]
  show a + _ + _ = a + (_ + (ws.getD k wt0).kilos)
  omega
theorem hullW_pre {l : List Frm} : ∀ i, i ≤ l.length - 1 → hullW l i = preH Sec.a0 l i
 | 0, _ => (preH_zero _ _).symm
 | i + 1, h => by
  unfold hullW
  rw [hullW_pre i (by omega), preH_succ _ (by omega)]
  rfl
section
variable {l : List Frm} {ws : List Wt} (R : RefOk l ws)
include R
theorem RefOk.parts : 3 ≤ l.length ∧ l.length ≤ 30 ∧ okFrom none l = true ∧ shareF l = 10000 := rightF_parts R.right
theorem RefOk.ord : ordF l := okFrom_ordF R.parts.2.2.1
theorem RefOk.ok : ∀ f ∈ l, f.ok = true := okFrom_ok none l R.parts.2.2.1
theorem RefOk.secs : sectionsF l ws = some (secL l ws) := by
 obtain ⟨S, h1, _, _⟩ := putAll_in (l := l) (n := l.length - 1) ws (baseS l) (baseS_len l) (fun u hu => (out_idx R.ord R.parts.1 u).1 (R.ins u hu))
 have h2 : sectionsF l ws = some S := h1
 rw [h2, sections_secL h2]
theorem RefOk.far : ∀ u ∈ ws, u.x < frmX l (l.length - 1) := by
 intro u hu
 have h := R.ins u hu
 unfold outF at h
 simp only [Bool.or_eq_false_iff, decide_eq_false_iff_not] at h
 omega
theorem RefOk.sum {f : Sec → Int} (hf : Part f) : f (addAll (secL l ws)) = preH f l (l.length - 1) + sumWt f ws := by
 rw [all_sum hf, preW_lt hf R.ord (Nat.le_refl _) R.parts.1 ws R.ins, sumLt_all f _ ws R.far]
theorem RefOk.pre {f : Sec → Int} (hf : Part f) {j : Nat} (hj : j ≤ l.length - 1) : f (addAll ((secL l ws).take j)) = preH f l j + sumLt f (frmX l j) ws := by
 rw [pre_sum hf, preW_lt hf R.ord hj R.parts.1 ws R.ins]
theorem RefOk.W : totW l ws = (addAll (secL l ws)).a0 := by
 rw [R.sum part0]
 unfold totW
 rw [loadW_sum _ ws ws.length (Nat.le_refl _), List.take_length, hullW_pre _ (Nat.le_refl _)]
theorem RefOk.secB (hW : (addAll (secL l ws)).a0 ≤ 500000000) : SecB (secL l ws) (dF l) := by
 obtain ⟨p1, p2, p3, p4⟩ := R.parts
 have h5 := a5_pos R.ord p1 ws
 have h0 : 0 ≤ (addAll (secL l ws)).a0 := by
  rw [← R.W]
  have a1 := hullW_bound R.ok (l.length - 1) (by omega)
  have a2 := loadW_bound (a := hullW l (l.length - 1)) R.kil ws.length (Nat.le_refl _)
  unfold totW
  omega
 refine ⟨⟨h0, hW⟩, h5, ?_, fun j => addAll_ok p3 p1 p2 p4 R.few R.kil R.secs j⟩
 unfold dF
 rw [← a5_same l ws]
 omega
end
structure RefB (l : List Frm) (ws : List Wt) (D : Nat) : Prop where
 r : RefOk l ws
 b : SecB (secL l ws) D
section
variable {l : List Frm} {ws : List Wt} {D : Nat} (R : RefB l ws D)
include R
theorem RefB.E2 : OkE (2 * D) := ⟨by have := R.b.Dpos; omega, Nat.lt_of_le_of_lt (Nat.mul_le_mul_left 2 R.b.Dpos.2) (by decide)⟩
theorem RefB.E1 : OkE D := ⟨R.b.Dpos.1, Nat.lt_of_le_of_lt R.b.Dpos.2 (by decide)⟩
theorem RefB.lt (K : Nat) (h : K * 17400000000000000000 < top256) : K * D < top256 := Nat.lt_of_le_of_lt (Nat.mul_le_mul_left K R.b.Dpos.2) h
theorem RefB.hX (i : Nat) : (Go.Proofs.Ytcdfnlgimbecgaa.hX l i).natAbs ≤ 1000000 := by have := hX_ok R.r.ok i; omega
theorem RefB.mid (i : Nat) : IsQ (2 * D) (1000000 * D) (midV l i) ((Go.Proofs.Ytcdfnlgimbecgaa.hX l i : Rat) / ((2 : Int) : Rat)) := IsQ.half R.E2 _ (R.hX i) (R.lt _ (by decide))
theorem RefB.wx {u : Wt} (hu : u ∈ ws) : u.x.natAbs ≤ 500000 := by
 have h1 := (out_idx R.r.ord R.r.parts.1 u).1 (R.r.ins u hu)
 have h2 := R.r.parts.1
 have := idxF_x R.r.ok (x := u.x) h1.1 (by omega)
 omega
theorem RefB.light {i : Nat} (h : i < l.length) : (frmL l i).natAbs ≤ 500000000 := by
 have := (Frm.ok_nums (R.r.ok _ (List.mem_of_getElem? (getD_some frm0 h)))).2.1
 unfold frmL
 omega
theorem RefB.share {i : Nat} (h : i < l.length) : ((l.getD i frm0).share).natAbs ≤ 10000 := by
 have := (Frm.ok_nums (R.r.ok _ (List.mem_of_getElem? (getD_some frm0 h)))).2.2.1
 omega
theorem RefB.hull : ∀ i, i ≤ l.length - 1 → IsQ (2 * D) (i * (500000000000000 * D)) (hullM l i) ((preH Sec.a1 l i : Rat) / ((2 : Int) : Rat))
 | 0, _ => by
  rw [preH_zero]
  have e : ((0 : Int) : Rat) / ((2 : Int) : Rat) = 0 := by grind
  rw [e]
  exact ⟨show ofL 0 = ofRat 0 by decide, 0, by grind, by simp⟩
 | i + 1, h => by
  have ih := RefB.hull i (by omega)
  have h1 := (IsQ.int (E := D) (K := 500000000) (frmL l i) (R.light (by omega))).mulh R.E2 (R.mid i).1 (R.hX i) (by
   have := R.lt 500000000000000 (by decide)
   rw [Nat.mul_right_comm]
   exact this)
  have e : 500000000 * D * 1000000 = 500000000000000 * D := by omega
  rw [e] at h1
  have hb : i * (500000000000000 * D) + 500000000000000 * D < top256 := by
   have h2 := R.r.parts.2.1
   have h3 := R.lt (30 * 500000000000000) (by decide)
   have h4 : (i + 1) * (500000000000000 * D) ≤ 30 * (500000000000000 * D) := Nat.mul_le_mul_right _ (by omega)
   rw [Nat.add_mul] at h4
   omega
  have h5 := ih.add R.E2 h1 hb
  rw [Nat.add_mul, Nat.one_mul]
  refine h5.eq ?_
  rw [preH_succ _ (by omega)]
  show _ = (((preH Sec.a1 l i + frmL l i * Go.Proofs.Ytcdfnlgimbecgaa.hX l i : Int)) : Rat) / _
  push_cast
  grind
end
section
variable {l : List Frm} {ws : List Wt} {D : Nat} (R : RefB l ws D)
include R
theorem RefB.loads : ∀ k, k ≤ ws.length → IsQ (2 * D) ((29 + k) * (500000000000000 * D)) (loadM (hullM l (l.length - 1)) ws k) ((preH Sec.a1 l (l.length - 1) : Rat) / ((2 : Int) : Rat) + (sumWt Sec.a1 (ws.take k) : Rat) / ((2 : Int) : Rat))
 | 0, _ => by
  have h1 := R.hull (l.length - 1) (Nat.le_refl _)
  have h2 := R.r.parts.2.1
  refine (h1.mono (Nat.mul_le_mul_right _ (by omega))).eq ?_
  show _ = _ + ((0 : Int) : Rat) / _
  grind
 | k + 1, h => by
  have ih := RefB.loads k (by omega)
  have hu : ws.getD k wt0 ∈ ws := List.mem_of_getElem? (getD_some wt0 (by omega))
  have hk := R.r.kil _ hu
  have hx := R.wx hu
  have hb : 500000000 * (2 * D) * 500000 < top256 := by
   have := R.lt 500000000000000 (by decide)
   have e : 500000000 * (2 * D) * 500000 = 500000000000000 * D := by omega
   rw [e]
   exact this
  have h1 := (IsQ.int (E := 2 * D) (K := 500000000) (ws.getD k wt0).kilos (by omega)).muli R.E2 (ws.getD k wt0).x hx hb
  have e : 500000000 * (2 * D) * 500000 = 500000000000000 * D := by omega
  rw [e] at h1
  have hb2 : (29 + k) * (500000000000000 * D) + 500000000000000 * D < top256 := by
   have h2 := R.r.few
   have h3 := R.lt (3030 * 500000000000000) (by decide)
   have h4 : (29 + k + 1) * (500000000000000 * D) ≤ 3030 * (500000000000000 * D) := Nat.mul_le_mul_right _ (by omega)
   rw [Nat.add_mul] at h4
   omega
  have h5 := ih.add R.E2 h1 hb2
  rw [show 29 + (k + 1) = 29 + k + 1 from rfl, Nat.add_mul (29 + k) 1, Nat.one_mul]
  refine h5.eq ?_
  rw [take_snoc (by omega), sumWt_snoc]
  show _ = _ + (((sumWt Sec.a1 (ws.take k) + 2 * (ws.getD k wt0).kilos * (ws.getD k wt0).x : Int)) : Rat) / _
  push_cast
  grind
theorem RefB.M : IsQ (2 * D) 100000000000000000000000000000000000000 (totM l ws) (((addAll (secL l ws)).a1 : Rat) / ((2 : Int) : Rat)) := by
 have h := R.loads ws.length (Nat.le_refl _)
 rw [List.take_length] at h
 have hf := R.r.few
 have h4 : (29 + ws.length) * (500000000000000 * D) ≤ 3030 * (500000000000000 * 17400000000000000000) := Nat.mul_le_mul (by omega) (Nat.mul_le_mul_left _ R.b.Dpos.2)
 refine ((show IsQ _ _ (totM l ws) _ from h).mono (Nat.le_trans h4 (by decide))).eq ?_
 rw [R.r.sum part1]
 push_cast
 grind
theorem RefB.shareV {i : Nat} (h : i < l.length) : IsQ D 8700000000000000000000000000000000 (Go.Proofs.Ytcdfnlgimbecgaa.shareV l (addAll (secL l ws)).a0 i) ((((addAll (secL l ws)).a0 * (l.getD i frm0).share : Int) : Rat) / ((10000 : Int) : Rat)) := by
 have hs := R.share h
 have hW := R.b.w
 have h1 := R.b.ratio (l.getD i frm0).share (by omega)
 have hb : 500000000 * D * 10000 < top256 := by
  have := R.lt 5000000000000 (by decide)
  have e : 500000000 * D * 10000 = 5000000000000 * D := by omega
  rw [e]
  exact this
 have h2 := (IsQ.int (E := D) (K := 500000000) (addAll (secL l ws)).a0 (by omega)).muli R.E1 (l.getD i frm0).share hs hb
 refine ⟨?_, h1⟩
 unfold Go.Proofs.Ytcdfnlgimbecgaa.shareV
 rw [h2.1, ofL_rat, ← Rat.intCast_mul, divR_ (by decide) (R.b.fits h1 (by decide))]
theorem RefB.miss : ∀ i, i ≤ l.length - 1 → IsQ (2 * D) (100000000000000000000000000000000000000 + i * 8700000000000000000000000000000000000000) (missV l (addAll (secL l ws)).a0 (totM l ws) i) (((addAll (secL l ws)).a1 : Rat) / ((2 : Int) : Rat) - (((addAll (secL l ws)).a0 * preH Sec.a3 l i : Int) : Rat) / ((10000 : Int) : Rat) / ((2 : Int) : Rat))
 | 0, _ => by
  rw [Nat.zero_mul, preH_zero, Int.mul_zero]
  refine IsQ.eq R.M ?_
  grind
 | i + 1, h => by
  have ih := RefB.miss i (by omega)
  have h2 := R.r.parts.2.1
  have h1 := (R.shareV (i := i) (by omega)).mulh R.E2 (R.mid i).1 (R.hX i) (by decide)
  have h3 := ih.sub R.E2 h1 (by
   refine Nat.lt_of_le_of_lt (m := 1000000000000000000000000000000000000000000) ?_ (by decide)
   omega)
  refine (h3.mono (by omega)).eq ?_
  rw [preH_succ _ (by omega)]
  show _ = _ - (((addAll (secL l ws)).a0 * (preH Sec.a3 l i + (l.getD i frm0).share * Go.Proofs.Ytcdfnlgimbecgaa.hX l i) : Int) : Rat) / _ / _
  push_cast
  grind
theorem RefB.offN {i : Nat} (h : i < l.length - 1) : (offX l i).natAbs ≤ 60000000 ∧ offX l i = (secBase l (l.length - 1) (allX l (l.length - 1)) i).a4 := by
 have h1 := R.r.parts.2.1
 have ha := allX_ok R.r.ok (l.length - 1)
 have hh := hX_ok R.r.ok i
 have m3 := mul_in (a := ((l.length - 1 : Nat) : Int)) (A := 29) (b := Go.Proofs.Ytcdfnlgimbecgaa.hX l i) (B := 1000000) (by omega) hh
 have e : offX l i = ((l.length - 1 : Nat) : Int) * Go.Proofs.Ytcdfnlgimbecgaa.hX l i - allX l (l.length - 1) := by
  unfold offX Go.Proofs.Ytcdfnlgimbecgaa.hX
  rw [allXr_eq]
 refine ⟨?_, e⟩
 rw [e]
 omega
theorem RefB.fact : ∀ i, i ≤ l.length - 1 → IsQ (2 * D) (i * (60000000000000 * D)) (factV l i) ((preH Sec.a5 l i : Rat) / ((2 : Int) : Rat))
 | 0, _ => by
  rw [preH_zero]
  have e : ((0 : Int) : Rat) / ((2 : Int) : Rat) = 0 := by grind
  rw [e]
  exact ⟨show ofL 0 = ofRat 0 by decide, 0, by grind, by simp⟩
 | i + 1, h => by
  have ih := RefB.fact i (by omega)
  obtain ⟨o1, o2⟩ := R.offN (i := i) (by omega)
  have h1 := (IsQ.int (E := D) (K := 60000000) (offX l i) o1).mulh R.E2 (R.mid i).1 (R.hX i) (by
   have := R.lt 60000000000000 (by decide)
   rw [Nat.mul_right_comm]
   exact this)
  have e : 60000000 * D * 1000000 = 60000000000000 * D := by omega
  rw [e] at h1
  have hb : i * (60000000000000 * D) + 60000000000000 * D < top256 := by
   have h2 := R.r.parts.2.1
   have h3 := R.lt (30 * 60000000000000) (by decide)
   have h4 : (i + 1) * (60000000000000 * D) ≤ 30 * (60000000000000 * D) := Nat.mul_le_mul_right _ (by omega)
   rw [Nat.add_mul] at h4
   omega
  have h5 := ih.add R.E2 h1 hb
  rw [Nat.add_mul, Nat.one_mul]
  refine h5.eq ?_
  rw [preH_succ _ (by omega), o2]
  show _ + ((((l.length - 1 : Nat) : Int) * Go.Proofs.Ytcdfnlgimbecgaa.hX l i - allX l (l.length - 1) : Int) : Rat) * _ = (((preH Sec.a5 l i + (((l.length - 1 : Nat) : Int) * Go.Proofs.Ytcdfnlgimbecgaa.hX l i - allX l (l.length - 1)) * Go.Proofs.Ytcdfnlgimbecgaa.hX l i : Int)) : Rat) / _
  push_cast
  grind
theorem RefB.kq : kV l (addAll (secL l ws)).a0 (totM l ws) = ofRat (kR (secL l ws)) := by
 have h1 := (R.miss (l.length - 1) (Nat.le_refl _)).1
 have h2 := (R.fact (l.length - 1) (Nat.le_refl _)).1
 have e3 := tot_same l part3 (fun _ => rfl) ws
 have e5 := tot_same l part5 (fun _ => rfl) ws
 rw [← e3] at h1
 rw [← e5] at h2
 have hne := R.b.a5ne
 have hq : (((addAll (secL l ws)).a1 : Rat) / ((2 : Int) : Rat) - (((addAll (secL l ws)).a0 * (addAll (secL l ws)).a3 : Int) : Rat) / ((10000 : Int) : Rat) / ((2 : Int) : Rat)) / (((addAll (secL l ws)).a5 : Rat) / ((2 : Int) : Rat)) = kR (secL l ws) := by
  unfold kR
  rw [Rat.intCast_mul]
  have e2 : ((2 : Int) : Rat) = 2 := rfl
  rw [e2]
  grind
 unfold kV
 rw [h1, h2, divR_ (by grind) (by rw [hq]; exact R.b.fits R.b.k (by decide)), hq]
theorem RefB.lift {i : Nat} (h : i < l.length - 1) : IsQ D 60000000000000000000000000000000000000 (liftQ l (addAll (secL l ws)).a0 (totM l ws) i) (liftR (secL l ws) (l.getD i frm0).share (offX l i)) := by
 obtain ⟨o1, o2⟩ := R.offN h
 have hs := R.share (i := i) (by omega)
 have h1 := R.shareV (i := i) (by omega)
 have hk : IsQ D 30000000000000000000000 (kV l (addAll (secL l ws)).a0 (totM l ws)) (kR (secL l ws)) := ⟨R.kq, R.b.k⟩
 have h2 := hk.muli R.E1 (offX l i) o1 (by decide)
 have h3 := h1.add R.E1 h2 (by decide)
 exact ⟨h3.1, R.b.lift _ _ (by omega) (by omega)⟩
end
def upR (l : List Frm) (ws : List Wt) (i : Nat) : Rat := liftR (secL l ws) (preH Sec.a2 l i) (preH Sec.a4 l i) - (preH Sec.a0 l i : Rat)
def leverR (l : List Frm) (ws : List Wt) (i : Nat) : Rat := liftR (secL l ws) (preH Sec.a3 l i) (preH Sec.a5 l i) - (preH Sec.a1 l i : Rat)
section
variable {l : List Frm} {ws : List Wt} {D : Nat} (R : RefB l ws D)
include R
theorem RefB.force {i : Nat} (h : i < l.length - 1) : IsQ D 70000000000000000000000000000000000000 (forceV l (addAll (secL l ws)).a0 (totM l ws) i) (upR l ws (i + 1) - upR l ws i) := by
 have h1 := R.lift h
 have h2 := IsQ.int (E := D) (K := 500000000) (frmL l i) (R.light (by omega))
 have hb : 60000000000000000000000000000000000000 + 500000000 * D ≤ 70000000000000000000000000000000000000 := Nat.le_trans (Nat.add_le_add_left (Nat.mul_le_mul_left _ R.b.Dpos.2) _) (by decide)
 have h3 := h1.sub R.E1 h2 (Nat.lt_of_le_of_lt hb (by decide))
 refine (h3.mono hb).eq ?_
 unfold upR
 rw [preH_succ _ h, preH_succ _ h, preH_succ _ h, liftR_add, (R.offN h).2]
 show liftR _ _ _ - _ = liftR _ _ _ + liftR _ (l.getD i frm0).share _ - ((preH Sec.a0 l i + frmL l i : Int) : Rat) - _
 push_cast
 grind
end
theorem lever_grows {l : List Frm} {ws : List Wt} {i : Nat} (h : i < l.length - 1) : leverR l ws (i + 1) - leverR l ws i = (upR l ws (i + 1) - upR l ws i) * (Go.Proofs.Ytcdfnlgimbecgaa.hX l i : Rat) := by
 unfold upR leverR
 rw [preH_succ _ h, preH_succ _ h, preH_succ _ h, preH_succ _ h, preH_succ _ h, preH_succ _ h, liftR_add, liftR_add]
 have ht := lift_times (secL l ws) (secBase l (l.length - 1) (allX l (l.length - 1)) i).a2 (secBase l (l.length - 1) (allX l (l.length - 1)) i).a4 (Go.Proofs.Ytcdfnlgimbecgaa.hX l i)
 have e3 : (secBase l (l.length - 1) (allX l (l.length - 1)) i).a3 = (secBase l (l.length - 1) (allX l (l.length - 1)) i).a2 * Go.Proofs.Ytcdfnlgimbecgaa.hX l i := rfl
 have e5 : (secBase l (l.length - 1) (allX l (l.length - 1)) i).a5 = (secBase l (l.length - 1) (allX l (l.length - 1)) i).a4 * Go.Proofs.Ytcdfnlgimbecgaa.hX l i := rfl
 have e1 : (secBase l (l.length - 1) (allX l (l.length - 1)) i).a1 = (secBase l (l.length - 1) (allX l (l.length - 1)) i).a0 * Go.Proofs.Ytcdfnlgimbecgaa.hX l i := rfl
 rw [← e3, ← e5] at ht
 rw [e1]
 push_cast
 generalize liftR (secL l ws) (secBase l (l.length - 1) (allX l (l.length - 1)) i).a3 (secBase l (l.length - 1) (allX l (l.length - 1)) i).a5 = q1 at *
 generalize liftR (secL l ws) (secBase l (l.length - 1) (allX l (l.length - 1)) i).a2 (secBase l (l.length - 1) (allX l (l.length - 1)) i).a4 = q2 at *
 grind
theorem zeroQ {E : Nat} {q : Rat} (h : q = 0) : IsQ E 0 (ofL 0) q := by
 rw [h]
 exact ⟨by decide, 0, by grind, by simp⟩
section
variable {l : List Frm} {ws : List Wt} {D : Nat} (R : RefB l ws D)
include R
theorem RefB.shears {j : Nat} : ∀ t, j + t ≤ l.length - 1 → IsQ D (t * 70000000000000000000000000000000000000) (secShear l (addAll (secL l ws)).a0 (totM l ws) j t) (upR l ws (j + t) - upR l ws j)
 | 0, _ => by
  rw [Nat.zero_mul]
  refine zeroQ ?_
  rw [Nat.add_zero]
  grind
 | t + 1, h => by
  have ih := RefB.shears (j := j) t (by omega)
  have h1 := R.force (i := j + t) (by omega)
  have h2 := R.r.parts.2.1
  have h3 := ih.add R.E1 h1 (by
   refine Nat.lt_of_le_of_lt (m := 100000000000000000000000000000000000000000) ?_ (by decide)
   omega)
  refine (h3.mono (by omega)).eq ?_
  rw [show j + (t + 1) = j + t + 1 from rfl]
  grind
theorem RefB.arm {i j : Nat} (hj : j < l.length) : (subL (midV l i) (ofL (frmX l j))).1 = ofRat ((Go.Proofs.Ytcdfnlgimbecgaa.hX l i - 2 * frmX l j : Int) / ((2 : Int) : Rat)) ∧ (Go.Proofs.Ytcdfnlgimbecgaa.hX l i - 2 * frmX l j).natAbs ≤ 2000000 := by
 have hx := frmX_bound R.r.ok hj
 have hh := R.hX i
 have h1 := (R.mid i).sub R.E2 (IsQ.int (E := 2 * D) (K := 500000) (frmX l j) (by omega)) (by
  have := R.lt 2000000 (by decide)
  have e : 1000000 * D + 500000 * (2 * D) = 2000000 * D := by omega
  rw [e]
  exact this)
 refine ⟨?_, by omega⟩
 rw [h1.1]
 congr 1
 push_cast
 grind
theorem RefB.bends {j : Nat} (hj : j < l.length) : ∀ t, j + t ≤ l.length - 1 → IsQ (2 * D) (t * 140000000000000000000000000000000000000000000) (secBend l (addAll (secL l ws)).a0 (totM l ws) j t) (-((leverR l ws (j + t) - leverR l ws j) - (upR l ws (j + t) - upR l ws j) * ((2 * frmX l j : Int) : Rat)) / ((2 : Int) : Rat))
 | 0, _ => by
  rw [Nat.zero_mul]
  refine zeroQ ?_
  rw [Nat.add_zero]
  grind
 | t + 1, h => by
  have ih := RefB.bends hj t (by omega)
  obtain ⟨g1, g2⟩ := R.arm (i := j + t) hj
  have h1 := (R.force (i := j + t) (by omega)).mulh R.E2 g1 g2 (by decide)
  have h2 := R.r.parts.2.1
  have h3 := ih.sub R.E2 h1 (by
   refine Nat.lt_of_le_of_lt (m := 10000000000000000000000000000000000000000000000) ?_ (by decide)
   omega)
  refine (h3.mono (by omega)).eq ?_
  have hl := lever_grows (ws := ws) (show j + t < l.length - 1 by omega)
  rw [show j + (t + 1) = j + t + 1 from rfl]
  generalize upR l ws (j + t + 1) = u1 at *
  generalize upR l ws (j + t) = u0 at *
  generalize leverR l ws (j + t + 1) = v1 at *
  generalize leverR l ws (j + t) = v0 at *
  push_cast
  grind
theorem RefB.ldS {xj : Int} {B : Nat} {s : FracV} {q : Rat} (h : IsQ D B s q) (hB : B ≤ 10000000000000000000000000000000000000000) : ∀ k, k ≤ ws.length → IsQ D (B + k * (500000000 * D)) (ldShear s ws xj k) (q - (geK xj (ws.take k) : Rat))
 | 0, _ => by
  rw [Nat.zero_mul]
  refine IsQ.eq h ?_
  show _ = _ - ((0 : Int) : Rat)
  grind
 | k + 1, hk => by
  have ih := RefB.ldS (xj := xj) h hB k (by omega)
  have hu : ws.getD k wt0 ∈ ws := List.mem_of_getElem? (getD_some wt0 (by omega))
  have hkil := R.r.kil _ hu
  unfold ldShear
  rw [take_snoc (by omega), geK_snoc]
  by_cases hx : xj ≤ (ws.getD k wt0).x
  · rw [if_pos hx, if_pos hx]
    have h1 := IsQ.int (E := D) (K := 500000000) (ws.getD k wt0).kilos (by omega)
    have hb : B + k * (500000000 * D) + 500000000 * D < top256 := by
     have hf := R.r.few
     have h4 : (k + 1) * (500000000 * D) ≤ 3001 * (500000000 * 17400000000000000000) := Nat.mul_le_mul (by omega) (Nat.mul_le_mul_left _ R.b.Dpos.2)
     rw [Nat.add_mul] at h4
     refine Nat.lt_of_le_of_lt (m := 10000000000000000000000000000000000000000 + 3001 * (500000000 * 17400000000000000000)) ?_ (by decide)
     omega
    have h3 := ih.sub R.E1 h1 hb
    rw [Nat.add_mul, Nat.one_mul, ← Nat.add_assoc]
    refine h3.eq ?_
    push_cast
    grind
  · rw [if_neg hx, if_neg hx]
    refine (ih.mono ?_).eq ?_
    · rw [Nat.add_mul]
      omega
    · push_cast
      grind
theorem RefB.ldB {xj : Int} (hxj : -500000 ≤ xj ∧ xj ≤ 500000) {B : Nat} {s : FracV} {q : Rat} (h : IsQ (2 * D) B s q) (hB : B ≤ 10000000000000000000000000000000000000000000000) : ∀ k, k ≤ ws.length → IsQ (2 * D) (B + k * (1000000000000000 * D)) (ldBend s ws xj k) (q + (geM xj (ws.take k) : Rat))
 | 0, _ => by
  rw [Nat.zero_mul]
  refine IsQ.eq h ?_
  show _ = _ + ((0 : Int) : Rat)
  grind
 | k + 1, hk => by
  have ih := RefB.ldB hxj h hB k (by omega)
  have hu : ws.getD k wt0 ∈ ws := List.mem_of_getElem? (getD_some wt0 (by omega))
  have hkil := R.r.kil _ hu
  have hwx := R.wx hu
  unfold ldBend
  rw [take_snoc (by omega), geM_snoc]
  by_cases hx : xj ≤ (ws.getD k wt0).x
  · rw [if_pos hx, if_pos hx]
    have e : 500000000 * (2 * D) * 1000000 = 1000000000000000 * D := by omega
    have h1 := (IsQ.int (E := 2 * D) (K := 500000000) (ws.getD k wt0).kilos (by omega)).muli (K := 1000000) R.E2 ((ws.getD k wt0).x - xj) (by omega) (by rw [e]; exact R.lt _ (by decide))
    rw [e] at h1
    have hb : B + k * (1000000000000000 * D) + 1000000000000000 * D < top256 := by
     have hf := R.r.few
     have h4 : (k + 1) * (1000000000000000 * D) ≤ 3001 * (1000000000000000 * 17400000000000000000) := Nat.mul_le_mul (by omega) (Nat.mul_le_mul_left _ R.b.Dpos.2)
     rw [Nat.add_mul] at h4
     refine Nat.lt_of_le_of_lt (m := 10000000000000000000000000000000000000000000000 + 3001 * (1000000000000000 * 17400000000000000000)) ?_ (by decide)
     omega
    have h3 := ih.add R.E2 h1 hb
    rw [Nat.add_mul, Nat.one_mul, ← Nat.add_assoc]
    refine h3.eq ?_
    push_cast
    grind
  · rw [if_neg hx, if_neg hx]
    refine (ih.mono ?_).eq ?_
    · rw [Nat.add_mul]
      omega
    · push_cast
      grind
theorem RefB.up_end : upR l ws (l.length - 1) = (sumWt Sec.a0 ws : Rat) := by
 have h0 := R.r.sum part0
 have h2 := tot_same l part2 (fun _ => rfl) ws
 have h4 := tot_same l part4 (fun _ => rfl) ws
 unfold upR
 rw [← h2, ← h4, a2_all R.r.right, a4_all, lift_W, h0]
 push_cast
 grind
theorem RefB.lever_end : leverR l ws (l.length - 1) = (sumWt Sec.a1 ws : Rat) := by
 have h1 := R.r.sum part1
 have h3 := tot_same l part3 (fun _ => rfl) ws
 have h5 := tot_same l part5 (fun _ => rfl) ws
 unfold leverR
 rw [← h3, ← h5, lift_all R.b.a5ne, h1]
 push_cast
 grind
theorem RefB.down {j : Nat} (hj : j ≤ l.length - 1) : downR (secL l ws) j = (sumLt Sec.a0 (frmX l j) ws : Rat) - upR l ws j := by
 unfold downR upR
 rw [R.r.pre part0 hj, pre_same l j part2 (fun _ => rfl), pre_same l j part4 (fun _ => rfl)]
 push_cast
 grind
theorem RefB.bend {j : Nat} (hj : j ≤ l.length - 1) : bendR l (secL l ws) j = (downR (secL l ws) j * ((2 * frmX l j : Int) : Rat) + leverR l ws j - (sumLt Sec.a1 (frmX l j) ws : Rat)) / ((2 : Int) : Rat) := by
 unfold bendR twiceR leverR
 rw [R.r.pre part1 hj, pre_same l j part3 (fun _ => rfl), pre_same l j part5 (fun _ => rfl)]
 push_cast
 grind
theorem RefB.str {j : Nat} (hj : j < l.length) : refStr l ws (addAll (secL l ws)).a0 (totM l ws) j = strF l (secL l ws) (addAll (secL l ws)).a0 (kF (secL l ws)) j := by
 have hx := frmX_bound R.r.ok hj
 have hl := R.r.parts.2.1
 rw [R.b.str j (by omega)]
 have h1 := R.shears (j := j) (l.length - 1 - j) (by omega)
 have h2 := R.bends hj (l.length - 1 - j) (by omega)
 rw [show j + (l.length - 1 - j) = l.length - 1 by omega] at h1 h2
 have h3 := R.ldS (xj := frmX l j) h1 (by omega) ws.length (Nat.le_refl _)
 have h4 := R.ldB hx h2 (by omega) ws.length (Nat.le_refl _)
 rw [List.take_length] at h3 h4
 unfold refStr
 rw [h3.1, h4.1, R.up_end, R.lever_end]
 have g0 := geK_eq (frmX l j) ws
 have g1 := geM_eq (frmX l j) ws
 have g1r : ((2 : Int) : Rat) * (geM (frmX l j) ws : Rat) = ((sumWt Sec.a1 ws : Rat) - (sumLt Sec.a1 (frmX l j) ws : Rat)) - ((2 : Int) : Rat) * (frmX l j : Rat) * ((sumWt Sec.a0 ws : Rat) - (sumLt Sec.a0 (frmX l j) ws : Rat)) := by
  rw [← Rat.intCast_mul, g1]
  push_cast
  rfl
 have e1 : (sumWt Sec.a0 ws : Rat) - upR l ws j - (geK (frmX l j) ws : Rat) = downR (secL l ws) j := by
  rw [R.down (by omega), g0]
  push_cast
  grind
 have e2 : -((sumWt Sec.a1 ws : Rat) - leverR l ws j - ((sumWt Sec.a0 ws : Rat) - upR l ws j) * ((2 * frmX l j : Int) : Rat)) / ((2 : Int) : Rat) + (geM (frmX l j) ws : Rat) = bendR l (secL l ws) j := by
  rw [R.bend (by omega), R.down (by omega)]
  have e : (geM (frmX l j) ws : Rat) = (((sumWt Sec.a1 ws : Rat) - (sumLt Sec.a1 (frmX l j) ws : Rat)) - ((2 : Int) : Rat) * (frmX l j : Rat) * ((sumWt Sec.a0 ws : Rat) - (sumLt Sec.a0 (frmX l j) ws : Rat))) / ((2 : Int) : Rat) := by
   rw [← g1r]
   have e2 : ((2 : Int) : Rat) = 2 := rfl
   rw [e2]
   grind
  rw [e]
  have e2 : ((2 : Int) : Rat) = 2 := rfl
  rw [Rat.intCast_mul, e2]
  grind
 rw [e1, e2]
end
theorem curves_same (l : List Frm) (ws : List Wt) : refCurve l ws = curveF l ws := by
 unfold refCurve curveF
 by_cases hr : rightF l = true
 · rw [hr, Bool.not_true, Bool.false_or, if_neg (by simp)]
   by_cases hb : ws.any wtBad = true
   · rw [refC1_bad hb, if_pos hb]
   · have hb' : ws.any wtBad = false := by simpa using hb
     rw [refC1_ok hb', if_neg hb]
     by_cases hf : 3000 < ws.length
     · rw [refC2_bad hf, if_pos hf]
     · rw [refC2_ok hf, if_neg hf]
       obtain ⟨p1, p2, p3, p4⟩ := rightF_parts hr
       by_cases ho : ws.any (outF l) = true
       · rw [refC3_bad ho]
         obtain ⟨u, hu, h1⟩ := List.any_eq_true.1 ho
         have h2 : sectionsF l ws = none := by
          refine putAll_out ws _ ⟨u, hu, ?_⟩
          have h3 : ¬ outF l u = false := by rw [h1]; simp
          rw [out_idx (okFrom_ordF p3) p1 u] at h3
          omega
         rw [h2]
       · have ho' : ws.any (outF l) = false := by simpa using ho
         rw [refC3_ok ho']
         have K : RefOk l ws := ⟨hr, anyBad_false hb', fun u hu => by
          have := List.any_eq_false.1 ho' u hu
          simpa using this, by omega⟩
         rw [K.secs]
         unfold refC4
         rw [K.W]
         by_cases hW : 500000000 < (addAll (secL l ws)).a0
         · rw [if_pos hW]
           show _ = if 500000000 < (addAll (secL l ws)).a0 then _ else _
           rw [if_pos hW]
         · rw [if_neg hW]
           show _ = if 500000000 < (addAll (secL l ws)).a0 then _ else _
           rw [if_neg hW]
           have R : RefB l ws (dF l) := ⟨K, K.secB (by omega)⟩
           unfold curveS
           congr 1
           apply List.map_congr_left
           intro j hj
           exact R.str (List.mem_range.1 hj)
 · have hr' : rightF l = false := by simpa using hr
   rw [hr']
   rfl
end Go.Proofs.Ytcdfnlgimbecgaa
