/-
  Frames and weights, plain: which frames are right.
-/
import Derived.Test.YtcdfnlgimbecgaaMt18
import Derived.LoopN
namespace Go.Proofs.Ytcdfnlgimbecgaa
def Frm.ok (f : Frm) : Bool := decide (-500000 ≤ f.x ∧ f.x ≤ 500000) && decide (0 ≤ f.light ∧ f.light ≤ 500000000) && decide (0 ≤ f.share ∧ f.share ≤ 10000) && decide (0 ≤ f.shear ∧ f.shear ≤ 1000000000000000) && decide (0 ≤ f.bend ∧ f.bend ≤ 1000000000000000)
def okFrom : Option Int → List Frm → Bool
 | _, [] => true
 | p, f :: l => f.ok && (match p with | none => true | some x => decide (x < f.x)) && okFrom (some f.x) l
def shareF (l : List Frm) : Int := (l.map Frm.share).foldr (· + ·) 0
def lightFrom : Int → List Frm → Int
 | s, [] => s
 | s, f :: l => lightFrom (if s ≤ 500000000 then s + f.light else s) l
def lightF (l : List Frm) : Int := lightFrom 0 l
def lastF (l : List Frm) : Frm := l.getLastD ⟨0, 0, 0, 0, 0⟩
def rightF (l : List Frm) : Bool := decide (3 ≤ l.length ∧ l.length ≤ 30) && okFrom none l && decide (lightF l ≤ 500000000) && decide (shareF l = 10000) && decide ((lastF l).light = 0) && decide ((lastF l).share = 0)
theorem okFrom_ok : ∀ (p : Option Int) (l : List Frm), okFrom p l = true → ∀ f ∈ l, f.ok = true
 | _, [], _, f, hf => by cases hf
 | p, g :: l, h, f, hf => by
  unfold okFrom at h
  simp only [Bool.and_eq_true] at h
  rcases List.mem_cons.1 hf with rfl | h1
  · exact h.1.1
  · exact okFrom_ok _ l h.2 f h1
theorem Frm.ok_nums {f : Frm} (h : f.ok = true) : (-500000 ≤ f.x ∧ f.x ≤ 500000) ∧ (0 ≤ f.light ∧ f.light ≤ 500000000) ∧ (0 ≤ f.share ∧ f.share ≤ 10000) ∧ (0 ≤ f.shear ∧ f.shear ≤ 1000000000000000) ∧ (0 ≤ f.bend ∧ f.bend ≤ 1000000000000000) := by
 unfold Frm.ok at h
 simp only [Bool.and_eq_true, decide_eq_true_eq] at h
 exact ⟨h.1.1.1.1, h.1.1.1.2, h.1.1.2, h.1.2, h.2⟩
open Go.RowKit
theorem st_within (n low high : Int) (w : World) : Calls Try.prog 39 #[.int .i64 n, .int .i64 low, .int .i64 high] w fun e w' => e = .returned (.bool (decide (low ≤ n ∧ n ≤ high))) ∧ w' = w := by
 by_cases h1 : low ≤ n
 · by_cases h2 : n ≤ high
   · have h3 : decide (low ≤ n ∧ n ≤ high) = true := by simp [h1, h2]
     rw [h3]
     clear h3
     go_enter Try.func39, Try.ntmps39
     go_wp2
     go_ret
     exact ⟨rfl, rfl⟩
   · have h3 : decide (low ≤ n ∧ n ≤ high) = false := by simp; omega
     rw [h3]
     clear h3
     go_enter Try.func39, Try.ntmps39
     go_wp2
     go_ret
     exact ⟨rfl, rfl⟩
 · have h3 : decide (low ≤ n ∧ n ≤ high) = false := by simp; omega
   rw [h3]
   clear h3
   go_enter Try.func39, Try.ntmps39
   go_wp2
   go_ret
   exact ⟨rfl, rfl⟩
set_option maxRecDepth 100000 in
set_option maxHeartbeats 4000000 in
theorem st_light (A : Option Addr) (c n : Nat) (l : List Frm) (hn : n = l.length) (w : World) (h : Rd w w.heap.size 5 A (l.map Frm.cells)) (hl : l.length ≤ 1000) (hok : ∀ f ∈ l, f.ok = true) :
 Calls Try.prog 49 #[.slice A n c] w fun e w' => e = .returned (.int .i64 (lightF l)) ∧ Below w.heap.size w w' := by
 have HOK := Lib.hid hok
 have HN := Lib.hid hn
 have HR := Lib.hid h
 have hn1 : n ≤ 1000 := by omega
 obtain ⟨r, hr⟩ : ∃ r, r = lightF l := ⟨_, rfl⟩
 have HRR := Lib.hid hr
 rw [← hr]
 clear h hok hl hn hr
 go_enter Try.func49, Try.ntmps49
 go_wp2
 go_loopw [3, 8] (fun sv iv wr => ∃ (k : Nat) (s : Int), k ≤ n ∧ iv = .int .i64 k ∧ sv = .int .i64 s ∧ 0 ≤ s ∧ s ≤ 1000000000 ∧ lightFrom s (l.drop k) = r ∧ Below w.heap.size w wr) (fun _ iv _ => n - (intOf iv).toNat)
 case atStart => exact ⟨0, 0, Nat.zero_le _, rfl, rfl, by omega, by omega, HRR.out.symm, Below.refl _ _⟩
 case round =>
  obtain ⟨k, s, hk, rfl, rfl, hs0, hs1, hls, hb⟩ := hrel
  have HLS := Lib.hid hls
  have HB := Lib.hid hb
  clear hls hb
  by_cases hkn : k < n
  · have hkl : k < l.length := by rw [← HN.out]; exact hkn
    obtain ⟨g, off, rfl, hg, hld⟩ := Frm.ld HR.out (k := k) (b := l[k]) (by simp [hkl])
    obtain ⟨f, hf⟩ : ∃ f, f = l[k] := ⟨_, rfl⟩
    rw [← hf] at hld
    have HLD := Lib.hid (hld wr HB.out)
    have HF := Lib.hid (Frm.ok_nums (HOK.out f (by rw [hf]; exact List.getElem_mem hkl)))
    have HDR : Hid (l.drop k = f :: l.drop (k + 1)) := by unfold Hid; rw [hf]; exact List.drop_eq_getElem_cons hkl
    have hki : (k : Int) < (n : Int) := by omega
    have hw1 : IntKind.i64.wrap (s + f.light) = s + f.light := by have := HF.out; rw [wrap_i64 (by omega) (by omega)]
    clear hld hf hkl
    have HST : Hid (lightFrom (if s ≤ 500000000 then s + f.light else s) (l.drop (k + 1)) = r) := by
     unfold Hid
     rw [← HLS.out, HDR.out]
     rfl
    by_cases hs2 : s ≤ 500000000
    · have hst := HST.out
      rw [if_pos hs2] at hst
      have HST2 := Lib.hid hst
      clear hst HST
      go_wp2_with (first
       | ((with_reducible refine g_ld 44 ?_); refine wpList_ld rfl _ _ rfl _ rfl _ HLD.out ?_))
      go_roundw
      case rel => exact ⟨k + 1, s + f.light, by omega, by go_num, rfl, by have := HF.out; omega, by have := HF.out; omega, HST2.out, HB.out.alloc HB.out.size _⟩
      case measure => simp [intOf]; omega
    · have hst := HST.out
      rw [if_neg hs2] at hst
      have HST2 := Lib.hid hst
      clear hst HST
      go_wp2_with (first
       | ((with_reducible refine g_ld 44 ?_); refine wpList_ld rfl _ _ rfl _ rfl _ HLD.out ?_))
      go_roundw
      case rel => exact ⟨k + 1, s, by omega, by go_num, rfl, by omega, by omega, HST2.out, HB.out.alloc HB.out.size _⟩
      case measure => simp [intOf]; omega
  · obtain rfl : k = n := by omega
    have hfin : Hid (s = r) := by
     have h1 := HLS.out
     rw [List.drop_of_length_le (by rw [← HN.out]; exact Nat.le_refl _)] at h1
     exact h1
    have hkk : ¬ (k : Int) < (k : Int) := by omega
    clear HLS
    go_wp2
    go_ret
    exact ⟨by rw [← hfin.out]; rfl, HB.out⟩
def prevX (l : List Frm) (k : Nat) : Option Int := if k = 0 then none else some (l.getD (k - 1) ⟨0, 0, 0, 0, 0⟩).x
theorem okFrom_step {l : List Frm} {k : Nat} {f : Frm} (hf : l[k]? = some f) : okFrom (prevX l k) (l.drop k) = (f.ok && (match prevX l k with | none => true | some x => decide (x < f.x)) && okFrom (prevX l (k + 1)) (l.drop (k + 1))) := by
 have hk := (List.getElem?_eq_some_iff.1 hf).1
 have he := (List.getElem?_eq_some_iff.1 hf).2
 rw [List.drop_eq_getElem_cons hk, he]
 have h2 : prevX l (k + 1) = some f.x := by
  unfold prevX
  rw [if_neg (by omega), Nat.add_sub_cancel]
  simp [List.getD, hf]
 rw [h2]
 rfl
theorem shareF_step {l : List Frm} {k : Nat} {f : Frm} (hf : l[k]? = some f) : shareF (l.drop k) = f.share + shareF (l.drop (k + 1)) := by
 have hk := (List.getElem?_eq_some_iff.1 hf).1
 have he := (List.getElem?_eq_some_iff.1 hf).2
 rw [List.drop_eq_getElem_cons hk, he]
 rfl
set_option maxRecDepth 100000 in
set_option maxHeartbeats 8000000 in
theorem st_Right (A : Option Addr) (c n : Nat) (l : List Frm) (hn : n = l.length) (w : World) (h : Rd w w.heap.size 5 A (l.map Frm.cells)) (hl : l.length ≤ 1000000) :
 Calls Try.prog 14 #[.slice A n c] w fun e w' => e = .returned (.bool (rightF l)) ∧ Below w.heap.size w w' := by
 have HN := Lib.hid hn
 have HR := Lib.hid h
 obtain ⟨r, hr⟩ : ∃ r, r = rightF l := ⟨_, rfl⟩
 rw [← hr]
 have hni : (n : Int) ≤ 1000000 := by omega
 by_cases hlen : 3 ≤ l.length ∧ l.length ≤ 30
 · have hni3 : (3 : Int) ≤ (n : Int) := by omega
   have hni30 : (n : Int) ≤ 30 := by omega
   have hn30 : n ≤ 30 := by omega
   have HRF : Hid (r = (okFrom none l && decide (lightF l ≤ 500000000) && decide (shareF l = 10000) && decide ((lastF l).light = 0) && decide ((lastF l).share = 0))) := by
    unfold Hid
    rw [hr]
    unfold rightF
    rw [decide_eq_true hlen]
    simp only [Bool.true_and]
   have HWL := Lib.hid (st_within (n : Int) 3 30 w)
   rw [decide_eq_true ⟨hni3, hni30⟩] at HWL
   clear h hr hn hl hlen
   go_enter Try.func14, Try.ntmps14
   go_wp2_with (go_at_call 39; refine (HWL.out).mono ?_; rintro e wx ⟨rfl, hx⟩; rw [hx]; clear hx wx; clear HWL)
   go_loopw [3, 13] (fun sv iv wr => ∃ (k : Nat) (s : Int), k ≤ n ∧ iv = .int .i64 k ∧ sv = .int .i64 s ∧ 0 ≤ s ∧ s ≤ 10000 * k ∧ okFrom (prevX l k) (l.drop k) = okFrom none l ∧ s + shareF (l.drop k) = shareF l ∧ Below w.heap.size w wr) (fun _ iv _ => n - (intOf iv).toNat)
   case atStart => exact ⟨0, 0, Nat.zero_le _, rfl, rfl, by omega, by omega, rfl, by rw [List.drop_zero, Int.zero_add], Below.refl _ _⟩
   case round =>
    obtain ⟨k, s, hk, rfl, rfl, hs0, hs1, hok, hsh, hb⟩ := hrel
    have HOKF := Lib.hid hok
    have HSH := Lib.hid hsh
    have HB := Lib.hid hb
    clear hok hsh hb
    by_cases hkn : k < n
    · have hkl : k < l.length := by rw [← HN.out]; exact hkn
      obtain ⟨g, off, rfl, hg, hld⟩ := Frm.ld HR.out (k := k) (b := l[k]) (by simp [hkl])
      obtain ⟨f, hf⟩ : ∃ f, f = l[k] := ⟨_, rfl⟩
      rw [← hf] at hld
      have HLD := Lib.hid (hld wr HB.out)
      have HF : Hid (l[k]? = some f) := by unfold Hid; rw [List.getElem?_eq_getElem hkl, hf]
      have hki : (k : Int) < (n : Int) := by omega
      clear hld hf hkl
      have HW1 := Lib.hid (fun w1 => st_within f.x (-500000) 500000 w1)
      have HW2 := Lib.hid (fun w1 => st_within f.light 0 500000000 w1)
      have HW3 := Lib.hid (fun w1 => st_within f.share 0 10000 w1)
      have HW4 := Lib.hid (fun w1 => st_within f.shear 0 1000000000000000 w1)
      have HW5 := Lib.hid (fun w1 => st_within f.bend 0 1000000000000000 w1)
      cases e1 : decide (-500000 ≤ f.x ∧ f.x ≤ 500000) with
      | false =>
       simp only [e1] at HW1
       have E := Lib.hid e1
       clear e1
       go_wp2_with (first
        | ((with_reducible refine g_ld 44 ?_); refine wpList_ld rfl _ _ rfl _ rfl _ HLD.out ?_)
        | (go_at_call 39; refine (HW1.out _).mono ?_; rintro e wx ⟨rfl, hx⟩; rw [hx]; clear hx wx; have HWA := HW2; clear HW1)
        | (go_at_call 39; refine (HWA.out _).mono ?_; rintro e wx ⟨rfl, hx⟩; rw [hx]; clear hx wx; have HWB := HW3; clear HWA)
        | (go_at_call 39; refine (HWB.out _).mono ?_; rintro e wx ⟨rfl, hx⟩; rw [hx]; clear hx wx; have HWC := HW4; clear HWB)
        | (go_at_call 39; refine (HWC.out _).mono ?_; rintro e wx ⟨rfl, hx⟩; rw [hx]; clear hx wx; have HWD := HW5; clear HWC)
        | (go_at_call 39; refine (HWD.out _).mono ?_; rintro e wx ⟨rfl, hx⟩; rw [hx]; clear hx wx; clear HWD))
       go_ret
       have hfo : f.ok = false := by
        unfold Frm.ok
        simp only [E.out]
        simp
       have h1 := HOKF.out
       rw [okFrom_step HF.out, hfo] at h1
       exact ⟨by rw [HRF.out, ← h1]; rfl, HB.out.alloc HB.out.size _⟩
      | true =>
      cases e2 : decide (0 ≤ f.light ∧ f.light ≤ 500000000) with
      | false =>
       simp only [e1] at HW1
       simp only [e2] at HW2
       have E := Lib.hid e2
       clear e1 e2
       go_wp2_with (first
        | ((with_reducible refine g_ld 44 ?_); refine wpList_ld rfl _ _ rfl _ rfl _ HLD.out ?_)
        | (go_at_call 39; refine (HW1.out _).mono ?_; rintro e wx ⟨rfl, hx⟩; rw [hx]; clear hx wx; have HWA := HW2; clear HW1)
        | (go_at_call 39; refine (HWA.out _).mono ?_; rintro e wx ⟨rfl, hx⟩; rw [hx]; clear hx wx; have HWB := HW3; clear HWA)
        | (go_at_call 39; refine (HWB.out _).mono ?_; rintro e wx ⟨rfl, hx⟩; rw [hx]; clear hx wx; have HWC := HW4; clear HWB)
        | (go_at_call 39; refine (HWC.out _).mono ?_; rintro e wx ⟨rfl, hx⟩; rw [hx]; clear hx wx; have HWD := HW5; clear HWC)
        | (go_at_call 39; refine (HWD.out _).mono ?_; rintro e wx ⟨rfl, hx⟩; rw [hx]; clear hx wx; clear HWD))
       go_ret
       have hfo : f.ok = false := by
        unfold Frm.ok
        simp only [E.out]
        simp
       have h1 := HOKF.out
       rw [okFrom_step HF.out, hfo] at h1
       exact ⟨by rw [HRF.out, ← h1]; rfl, HB.out.alloc HB.out.size _⟩
      | true =>
      cases e3 : decide (0 ≤ f.share ∧ f.share ≤ 10000) with
      | false =>
       simp only [e1] at HW1
       simp only [e2] at HW2
       simp only [e3] at HW3
       have E := Lib.hid e3
       clear e1 e2 e3
       go_wp2_with (first
        | ((with_reducible refine g_ld 44 ?_); refine wpList_ld rfl _ _ rfl _ rfl _ HLD.out ?_)
        | (go_at_call 39; refine (HW1.out _).mono ?_; rintro e wx ⟨rfl, hx⟩; rw [hx]; clear hx wx; have HWA := HW2; clear HW1)
        | (go_at_call 39; refine (HWA.out _).mono ?_; rintro e wx ⟨rfl, hx⟩; rw [hx]; clear hx wx; have HWB := HW3; clear HWA)
        | (go_at_call 39; refine (HWB.out _).mono ?_; rintro e wx ⟨rfl, hx⟩; rw [hx]; clear hx wx; have HWC := HW4; clear HWB)
        | (go_at_call 39; refine (HWC.out _).mono ?_; rintro e wx ⟨rfl, hx⟩; rw [hx]; clear hx wx; have HWD := HW5; clear HWC)
        | (go_at_call 39; refine (HWD.out _).mono ?_; rintro e wx ⟨rfl, hx⟩; rw [hx]; clear hx wx; clear HWD))
       go_ret
       have hfo : f.ok = false := by
        unfold Frm.ok
        simp only [E.out]
        simp
       have h1 := HOKF.out
       rw [okFrom_step HF.out, hfo] at h1
       exact ⟨by rw [HRF.out, ← h1]; rfl, HB.out.alloc HB.out.size _⟩
      | true =>
      cases e4 : decide (0 ≤ f.shear ∧ f.shear ≤ 1000000000000000) with
      | false =>
       simp only [e1] at HW1
       simp only [e2] at HW2
       simp only [e3] at HW3
       simp only [e4] at HW4
       have E := Lib.hid e4
       clear e1 e2 e3 e4
       go_wp2_with (first
        | ((with_reducible refine g_ld 44 ?_); refine wpList_ld rfl _ _ rfl _ rfl _ HLD.out ?_)
        | (go_at_call 39; refine (HW1.out _).mono ?_; rintro e wx ⟨rfl, hx⟩; rw [hx]; clear hx wx; have HWA := HW2; clear HW1)
        | (go_at_call 39; refine (HWA.out _).mono ?_; rintro e wx ⟨rfl, hx⟩; rw [hx]; clear hx wx; have HWB := HW3; clear HWA)
        | (go_at_call 39; refine (HWB.out _).mono ?_; rintro e wx ⟨rfl, hx⟩; rw [hx]; clear hx wx; have HWC := HW4; clear HWB)
        | (go_at_call 39; refine (HWC.out _).mono ?_; rintro e wx ⟨rfl, hx⟩; rw [hx]; clear hx wx; have HWD := HW5; clear HWC)
        | (go_at_call 39; refine (HWD.out _).mono ?_; rintro e wx ⟨rfl, hx⟩; rw [hx]; clear hx wx; clear HWD))
       go_ret
       have hfo : f.ok = false := by
        unfold Frm.ok
        simp only [E.out]
        simp
       have h1 := HOKF.out
       rw [okFrom_step HF.out, hfo] at h1
       exact ⟨by rw [HRF.out, ← h1]; rfl, HB.out.alloc HB.out.size _⟩
      | true =>
      simp only [e1] at HW1
      simp only [e2] at HW2
      simp only [e3] at HW3
      simp only [e4] at HW4
      cases e5 : decide (0 ≤ f.bend ∧ f.bend ≤ 1000000000000000) with
      | false =>
       simp only [e5] at HW5
       have E := Lib.hid e5
       clear e1 e2 e3 e4 e5
       go_wp2_with (first
        | ((with_reducible refine g_ld 44 ?_); refine wpList_ld rfl _ _ rfl _ rfl _ HLD.out ?_)
        | (go_at_call 39; refine (HW1.out _).mono ?_; rintro e wx ⟨rfl, hx⟩; rw [hx]; clear hx wx; have HWA := HW2; clear HW1)
        | (go_at_call 39; refine (HWA.out _).mono ?_; rintro e wx ⟨rfl, hx⟩; rw [hx]; clear hx wx; have HWB := HW3; clear HWA)
        | (go_at_call 39; refine (HWB.out _).mono ?_; rintro e wx ⟨rfl, hx⟩; rw [hx]; clear hx wx; have HWC := HW4; clear HWB)
        | (go_at_call 39; refine (HWC.out _).mono ?_; rintro e wx ⟨rfl, hx⟩; rw [hx]; clear hx wx; have HWD := HW5; clear HWC)
        | (go_at_call 39; refine (HWD.out _).mono ?_; rintro e wx ⟨rfl, hx⟩; rw [hx]; clear hx wx; clear HWD))
       go_ret
       have hfo : f.ok = false := by
        unfold Frm.ok
        simp only [E.out]
        simp
       have h1 := HOKF.out
       rw [okFrom_step HF.out, hfo] at h1
       exact ⟨by rw [HRF.out, ← h1]; rfl, HB.out.alloc HB.out.size _⟩
      | true =>
       simp only [e5] at HW5
       have HFO : Hid (f.ok = true) := by unfold Hid Frm.ok; rw [e1, e2, e3, e4, e5]; rfl
       clear e1 e2 e3 e4 e5
       have HNUM := Lib.hid (Frm.ok_nums HFO.out)
       have hws : IntKind.i64.wrap (s + f.share) = s + f.share := by have := HNUM.out; rw [wrap_i64 (by omega) (by omega)]
       have hmo : Try.prog.follows .mixedOrders = true := by kernel_rfl
       have HST := Lib.hid (okFrom_step HF.out)
       have HSS := Lib.hid (shareF_step HF.out)
       by_cases hk0 : k = 0
       · subst hk0
         go_wp2_with (first
          | ((with_reducible refine g_ld 44 ?_); refine wpList_ld rfl _ _ rfl _ rfl _ HLD.out ?_)
          | (go_at_call 39; refine (HW1.out _).mono ?_; rintro e wx ⟨rfl, hx⟩; rw [hx]; clear hx wx; have HWA := HW2; clear HW1)
          | (go_at_call 39; refine (HWA.out _).mono ?_; rintro e wx ⟨rfl, hx⟩; rw [hx]; clear hx wx; have HWB := HW3; clear HWA)
          | (go_at_call 39; refine (HWB.out _).mono ?_; rintro e wx ⟨rfl, hx⟩; rw [hx]; clear hx wx; have HWC := HW4; clear HWB)
          | (go_at_call 39; refine (HWC.out _).mono ?_; rintro e wx ⟨rfl, hx⟩; rw [hx]; clear hx wx; have HWD := HW5; clear HWC)
          | (go_at_call 39; refine (HWD.out _).mono ?_; rintro e wx ⟨rfl, hx⟩; rw [hx]; clear hx wx; clear HWD))
         go_region
         go_wp2
         go_roundw
         case rel =>
          refine ⟨1, s + f.share, by omega, by go_num, rfl, by have := HNUM.out; omega, by have := HNUM.out; omega, ?_, ?_, (HB.out.alloc HB.out.size _).drew⟩
          · have h1 := HST.out
            rw [HOKF.out, HFO.out] at h1
            rw [h1]
            rfl
          · have h1 := HSS.out
            have h2 := HSH.out
            rw [h1] at h2
            simp only [Nat.zero_add] at h2
            omega
         case measure => simp [intOf]; omega
       · obtain ⟨kp, rfl⟩ : ∃ kp, k = kp + 1 := ⟨k - 1, by omega⟩
         have hkpl : kp < l.length := by have := HN.out; omega
         obtain ⟨g2, off2, e2, hg2, hc2⟩ := Frm.at_ HR.out kp hkpl
         injection e2 with e2
         injection e2 with e3 e4
         subst e3; subst e4
         obtain ⟨xp, hxp⟩ : ∃ xp, xp = l[kp].x := ⟨_, rfl⟩
         obtain ⟨cf1, cf2⟩ : ∃ W : World, W = (wr.alloc (.cells #[.int .i64 f.x, .int .i64 f.light, .int .i64 f.share, .int .i64 f.shear, .int .i64 f.bend] 44)).drew := ⟨_, rfl⟩
         have hc3 := (hc2 ((wr.alloc (.cells #[.int .i64 f.x, .int .i64 f.light, .int .i64 f.share, .int .i64 f.shear, .int .i64 f.bend] 44)).drew) (HB.out.alloc HB.out.size _).drew).1
         rw [← hxp] at hc3
         have hgs : g < wr.heap.size := Nat.lt_of_lt_of_le hg2 HB.out.size
         have hkpi : (kp : Int) < (n : Int) := by omega
         have hkp0 : (0 : Int) < ((kp + 1 : Nat) : Int) := by omega
         have hkp1 : (0 : Int) < (kp : Int) + 1 := by omega
         have wkp : IntKind.i64.wrap (((kp + 1 : Nat) : Int) - 1) = (kp : Int) := by rw [wrap_i64 (by omega) (by omega)]; omega
         have wkp2 : IntKind.i64.wrap ((kp : Int) + 1 - 1) = (kp : Int) := by rw [wrap_i64 (by omega) (by omega)]; omega
         have wkp3 : IntKind.i64.wrap (kp : Int) = (kp : Int) := by rw [wrap_i64 (by omega) (by omega)]
         have HPX : Hid (prevX l (kp + 1) = some xp) := by
          unfold Hid prevX
          rw [if_neg (by omega), Nat.add_sub_cancel, hxp]
          simp [List.getD, hkpl]
         clear hxp hc2 hkpl hg2 cf2 cf1
         by_cases hx : xp < f.x
         · have hx1 : ¬ f.x ≤ xp := by omega
           have HX := Lib.hid hx
           clear hx
           go_wp2_with (first
            | ((with_reducible refine g_ld 44 ?_); refine wpList_ld rfl _ _ rfl _ rfl _ HLD.out ?_)
            | (go_at_call 39; refine (HW1.out _).mono ?_; rintro e wx ⟨rfl, hx⟩; rw [hx]; clear hx wx; have HWA := HW2; clear HW1)
            | (go_at_call 39; refine (HWA.out _).mono ?_; rintro e wx ⟨rfl, hx⟩; rw [hx]; clear hx wx; have HWB := HW3; clear HWA)
            | (go_at_call 39; refine (HWB.out _).mono ?_; rintro e wx ⟨rfl, hx⟩; rw [hx]; clear hx wx; have HWC := HW4; clear HWB)
            | (go_at_call 39; refine (HWC.out _).mono ?_; rintro e wx ⟨rfl, hx⟩; rw [hx]; clear hx wx; have HWD := HW5; clear HWC)
            | (go_at_call 39; refine (HWD.out _).mono ?_; rintro e wx ⟨rfl, hx⟩; rw [hx]; clear hx wx; clear HWD))
           go_region
           go_wp2
           go_roundw
           case rel =>
            refine ⟨kp + 1 + 1, s + f.share, by omega, by go_num, rfl, by have := HNUM.out; omega, by have := HNUM.out; omega, ?_, ?_, (HB.out.alloc HB.out.size _).drew⟩
            · have h1 := HST.out
              rw [HOKF.out, HFO.out, HPX.out] at h1
              simp only [decide_eq_true HX.out, Bool.true_and] at h1
              exact h1.symm
            · have h1 := HSS.out
              have h2 := HSH.out
              rw [h1] at h2
              omega
           case measure => simp [intOf]; omega
         · have hx1 : f.x ≤ xp := by omega
           have HX := Lib.hid hx
           clear hx
           go_wp2_with (first
            | ((with_reducible refine g_ld 44 ?_); refine wpList_ld rfl _ _ rfl _ rfl _ HLD.out ?_)
            | (go_at_call 39; refine (HW1.out _).mono ?_; rintro e wx ⟨rfl, hx⟩; rw [hx]; clear hx wx; have HWA := HW2; clear HW1)
            | (go_at_call 39; refine (HWA.out _).mono ?_; rintro e wx ⟨rfl, hx⟩; rw [hx]; clear hx wx; have HWB := HW3; clear HWA)
            | (go_at_call 39; refine (HWB.out _).mono ?_; rintro e wx ⟨rfl, hx⟩; rw [hx]; clear hx wx; have HWC := HW4; clear HWB)
            | (go_at_call 39; refine (HWC.out _).mono ?_; rintro e wx ⟨rfl, hx⟩; rw [hx]; clear hx wx; have HWD := HW5; clear HWC)
            | (go_at_call 39; refine (HWD.out _).mono ?_; rintro e wx ⟨rfl, hx⟩; rw [hx]; clear hx wx; clear HWD))
           go_region
           go_wp2
           go_ret
           have h1 := HST.out
           rw [HOKF.out, HFO.out, HPX.out] at h1
           simp only [decide_eq_false (show ¬ xp < f.x by have := HX.out; omega), Bool.and_false, Bool.false_and] at h1
           exact ⟨by rw [HRF.out, h1]; rfl, (HB.out.alloc HB.out.size _).drew⟩
    · obtain rfl : k = n := by omega
      have hkk : ¬ (k : Int) < (k : Int) := by omega
      obtain ⟨kp, rfl⟩ : ∃ kp, k = kp + 1 := ⟨k - 1, by omega⟩
      have hkpl : kp < l.length := by have := HN.out; omega
      obtain ⟨g, off, rfl, hg, hld⟩ := Frm.ld HR.out (k := kp) (b := l[kp]) (by simp [hkpl])
      obtain ⟨f, hf⟩ : ∃ f, f = l[kp] := ⟨_, rfl⟩
      rw [← hf] at hld
      have HLD := Lib.hid (hld wr HB.out)
      have HLAST : Hid (lastF l = f) := by
       unfold Hid lastF
       have h1 : l ≠ [] := by rintro rfl; exact absurd hkpl (by simp)
       rw [List.getLastD_eq_getLast?, List.getLast?_eq_getElem?]
       have h2 : l.length - 1 = kp := by have := HN.out; omega
       rw [h2, List.getElem?_eq_getElem hkpl, hf]
       rfl
      have hokl : okFrom none l = true := by
       rw [← HOKF.out, List.drop_of_length_le (by rw [← HN.out]; exact Nat.le_refl _)]
       rfl
      have hsf : s = shareF l := by
       have h1 := HSH.out
       rw [List.drop_of_length_le (by rw [← HN.out]; exact Nat.le_refl _)] at h1
       have h2 : shareF [] = 0 := rfl
       omega
      have HLI := Lib.hid (fun (w1 : World) (hb : From w w1) => st_light (some ⟨g, off, none⟩) c (kp + 1) l HN.out w1 ((HR.out.below hb (Nat.le_refl _)).more hb.size) (by have := HN.out; omega) (okFrom_ok none l hokl))
      obtain ⟨li, hli⟩ : ∃ li, li = lightF l := ⟨_, rfl⟩
      rw [← hli] at HLI
      have HRV : Hid (r = (decide (li ≤ 500000000) && decide (s = 10000) && decide (f.light = 0) && decide (f.share = 0))) := by
       unfold Hid
       rw [HRF.out, hokl, ← hsf, HLAST.out, ← hli]
       simp only [Bool.true_and]
      have wkp : IntKind.i64.wrap (((kp + 1 : Nat) : Int) - 1) = (kp : Int) := by rw [wrap_i64 (by omega) (by omega)]; omega
      have wkp2 : IntKind.i64.wrap ((kp : Int) + 1 - 1) = (kp : Int) := by rw [wrap_i64 (by omega) (by omega)]; omega
      have wkp3 : IntKind.i64.wrap (kp : Int) = (kp : Int) := by rw [wrap_i64 (by omega) (by omega)]
      have hkpi : (kp : Int) < ((kp + 1 : Nat) : Int) := by omega
      have hkpi2 : (kp : Int) < (kp : Int) + 1 := by omega
      have HBF : Hid (From w (wr.alloc (.cells #[.int .i64 f.x, .int .i64 f.light, .int .i64 f.share, .int .i64 f.shear, .int .i64 f.bend] 44))) := HB.out.alloc HB.out.size _
      have HCF : Hid (∀ w1, From (wr.alloc (.cells #[.int .i64 f.x, .int .i64 f.light, .int .i64 f.share, .int .i64 f.shear, .int .i64 f.bend] 44)) w1 → w1.cell? ⟨wr.heap.size, 1, none⟩ = some (.int .i64 f.light) ∧ w1.cell? ⟨wr.heap.size, 2, none⟩ = some (.int .i64 f.share)) := by
       intro w1 hb1
       have h1 := heap_alloc_new wr (.cells #[.int .i64 f.x, .int .i64 f.light, .int .i64 f.share, .int .i64 f.shear, .int .i64 f.bend] 44)
       have h2 := (hb1.block wr.heap.size (by simp)).trans h1
       exact ⟨by rw [cell_of_row w1 _ 1 _ _ _ h2]; rfl, by rw [cell_of_row w1 _ 2 _ _ _ h2]; rfl⟩
      clear hokl hsf hli hld hf hkpl hg HOKF HSH HRF HLAST
      by_cases c1 : li ≤ 500000000
      · by_cases c2 : s = 10000
        · have hc2 : (s == 10000) = true := by simp [c2]
          by_cases c3 : f.light = 0
          · have hc3 : (f.light == 0) = true := by simp [c3]
            by_cases c4 : f.share = 0
            · have hc4 : (f.share == 0) = true := by simp [c4]
              have HV : Hid (r = true) := by unfold Hid; rw [HRV.out, decide_eq_true c1, decide_eq_true c2, decide_eq_true c3, decide_eq_true c4]; rfl
              clear c2 c3 c4
              go_wp2_with (first
               | ((with_reducible refine g_ld 44 ?_); refine wpList_ld rfl _ _ rfl _ rfl _ HLD.out ?_)
               | (go_at_call 49; refine (HLI.out _ HBF.out).mono ?_; rintro e w2 ⟨rfl, hb2⟩; have CC := Lib.hid (HBF.out.trans (hb2.mono HBF.out.size)); obtain ⟨cl, cs⟩ := HCF.out w2 hb2; clear hb2 HLI))
              go_ret
              exact ⟨by rw [HV.out]; rfl, CC.out⟩
            · have hc4 : (f.share == 0) = false := by simp [c4]
              have HV : Hid (r = false) := by unfold Hid; rw [HRV.out, decide_eq_true c1, decide_eq_true c2, decide_eq_true c3, decide_eq_false c4]; rfl
              clear c2 c3 c4
              go_wp2_with (first
               | ((with_reducible refine g_ld 44 ?_); refine wpList_ld rfl _ _ rfl _ rfl _ HLD.out ?_)
               | (go_at_call 49; refine (HLI.out _ HBF.out).mono ?_; rintro e w2 ⟨rfl, hb2⟩; have CC := Lib.hid (HBF.out.trans (hb2.mono HBF.out.size)); obtain ⟨cl, cs⟩ := HCF.out w2 hb2; clear hb2 HLI))
              go_ret
              exact ⟨by rw [HV.out]; rfl, CC.out⟩
          · have hc3 : (f.light == 0) = false := by simp [c3]
            have HV : Hid (r = false) := by unfold Hid; rw [HRV.out, decide_eq_true c1, decide_eq_true c2, decide_eq_false c3]; rfl
            clear c2 c3
            go_wp2_with (first
             | ((with_reducible refine g_ld 44 ?_); refine wpList_ld rfl _ _ rfl _ rfl _ HLD.out ?_)
             | (go_at_call 49; refine (HLI.out _ HBF.out).mono ?_; rintro e w2 ⟨rfl, hb2⟩; have CC := Lib.hid (HBF.out.trans (hb2.mono HBF.out.size)); obtain ⟨cl, cs⟩ := HCF.out w2 hb2; clear hb2 HLI))
            go_ret
            exact ⟨by rw [HV.out]; rfl, CC.out⟩
        · have hc2 : (s == 10000) = false := by simp [c2]
          have HV : Hid (r = false) := by unfold Hid; rw [HRV.out, decide_eq_true c1, decide_eq_false c2]; rfl
          clear c2
          go_wp2_with (first
           | ((with_reducible refine g_ld 44 ?_); refine wpList_ld rfl _ _ rfl _ rfl _ HLD.out ?_)
           | (go_at_call 49; refine (HLI.out _ HBF.out).mono ?_; rintro e w2 ⟨rfl, hb2⟩; have CC := Lib.hid (HBF.out.trans (hb2.mono HBF.out.size)); obtain ⟨cl, cs⟩ := HCF.out w2 hb2; clear hb2 HLI))
          go_ret
          exact ⟨by rw [HV.out]; rfl, CC.out⟩
      · have HV : Hid (r = false) := by unfold Hid; rw [HRV.out, decide_eq_false c1]; rfl
        have hc1 := eq_false c1
        clear c1
        go_wp2_with (first
         | ((with_reducible refine g_ld 44 ?_); refine wpList_ld rfl _ _ rfl _ rfl _ HLD.out ?_)
         | (go_at_call 49; refine (HLI.out _ HBF.out).mono ?_; rintro e w2 ⟨rfl, hb2⟩; have CC := Lib.hid (HBF.out.trans (hb2.mono HBF.out.size)); obtain ⟨cl, cs⟩ := HCF.out w2 hb2; clear hb2 HLI))
        go_ret
        exact ⟨by rw [HV.out]; rfl, CC.out⟩
 · have HRF : Hid (r = false) := by
    unfold Hid
    rw [hr]
    unfold rightF
    rw [decide_eq_false hlen]
    rfl
   have hni3 : decide ((3 : Int) ≤ (n : Int) ∧ (n : Int) ≤ 30) = false := by
    apply decide_eq_false
    omega
   have HWL := Lib.hid (st_within (n : Int) 3 30 w)
   rw [hni3] at HWL
   clear h hr hn hl hlen hni3
   go_enter Try.func14, Try.ntmps14
   go_wp2_with (go_at_call 39; refine (HWL.out).mono ?_; rintro e wx ⟨rfl, hx⟩; rw [hx]; clear hx wx)
   go_ret
   exact ⟨by rw [HRF.out]; rfl, Below.refl _ _⟩
structure Sec where
 a0 : Int
 a1 : Int
 a2 : Int
 a3 : Int
 a4 : Int
 a5 : Int
deriving DecidableEq
def Sec.cells (a : Sec) : List Value := [.int .i64 a.a0, .int .i64 a.a1, .int .i64 a.a2, .int .i64 a.a3, .int .i64 a.a4, .int .i64 a.a5]
abbrev Sec.val (a : Sec) : Value := .agg #[.int .i64 a.a0, .int .i64 a.a1, .int .i64 a.a2, .int .i64 a.a3, .int .i64 a.a4, .int .i64 a.a5]
def Sec.add (a b : Sec) : Sec := ⟨a.a0 + b.a0, a.a1 + b.a1, a.a2 + b.a2, a.a3 + b.a3, a.a4 + b.a4, a.a5 + b.a5⟩
def Sec.zero : Sec := ⟨0, 0, 0, 0, 0, 0⟩
def inI (n : Int) : Prop := -9223372036854775808 ≤ n ∧ n ≤ 9223372036854775807
def Sec.fits (a : Sec) : Prop := inI a.a0 ∧ inI a.a1 ∧ inI a.a2 ∧ inI a.a3 ∧ inI a.a4 ∧ inI a.a5
theorem alloc3_new (w : World) (A B C : Obj) : (((w.alloc A).alloc B).alloc C).heap[w.heap.size + 1 + 1]? = some C := by
 have h := heap_alloc_new ((w.alloc A).alloc B) C
 have e : ((w.alloc A).alloc B).heap.size = w.heap.size + 1 + 1 := by simp
 rw [e] at h
 exact h
theorem wrap_in {n : Int} (h : inI n) : IntKind.i64.wrap n = n := wrap_i64 h.1 h.2
set_option maxRecDepth 100000 in
set_option maxHeartbeats 4000000 in
theorem sec_plus (a b : Sec) (hs : (a.add b).fits) (w : World) : Calls Try.prog 41 #[a.val, b.val] w fun e w' => e = .returned (a.add b).val ∧ Below w.heap.size w w' := by
 obtain ⟨h0, h1, h2, h3, h4, h5⟩ := hs
 have w0 := wrap_in h0
 have w1 := wrap_in h1
 have w2 := wrap_in h2
 have w3 := wrap_in h3
 have w4 := wrap_in h4
 have w5 := wrap_in h5
 clear h0 h1 h2 h3 h4 h5
 simp only [Sec.add] at w0 w1 w2 w3 w4 w5
 rcases a with ⟨a0, a1, a2, a3, a4, a5⟩
 rcases b with ⟨b0, b1, b2, b3, b4, b5⟩
 simp only at w0 w1 w2 w3 w4 w5
 have HF : Hid (Sec.add ⟨a0, a1, a2, a3, a4, a5⟩ ⟨b0, b1, b2, b3, b4, b5⟩ = ⟨a0 + b0, a1 + b1, a2 + b2, a3 + b3, a4 + b4, a5 + b5⟩) := rfl
 have i0 : ∀ w, (Instr.index 103 (.agg #[.int .i64 b0, .int .i64 b1, .int .i64 b2, .int .i64 b3, .int .i64 b4, .int .i64 b5]) (.int .i64 0)).run Try.prog w = .ok (.int .i64 b0) w := fun _ => by kernel_rfl
 have i1 : ∀ w, (Instr.index 103 (.agg #[.int .i64 b0, .int .i64 b1, .int .i64 b2, .int .i64 b3, .int .i64 b4, .int .i64 b5]) (.int .i64 1)).run Try.prog w = .ok (.int .i64 b1) w := fun _ => by kernel_rfl
 have i2 : ∀ w, (Instr.index 103 (.agg #[.int .i64 b0, .int .i64 b1, .int .i64 b2, .int .i64 b3, .int .i64 b4, .int .i64 b5]) (.int .i64 2)).run Try.prog w = .ok (.int .i64 b2) w := fun _ => by kernel_rfl
 have i3 : ∀ w, (Instr.index 103 (.agg #[.int .i64 b0, .int .i64 b1, .int .i64 b2, .int .i64 b3, .int .i64 b4, .int .i64 b5]) (.int .i64 3)).run Try.prog w = .ok (.int .i64 b3) w := fun _ => by kernel_rfl
 have i4 : ∀ w, (Instr.index 103 (.agg #[.int .i64 b0, .int .i64 b1, .int .i64 b2, .int .i64 b3, .int .i64 b4, .int .i64 b5]) (.int .i64 4)).run Try.prog w = .ok (.int .i64 b4) w := fun _ => by kernel_rfl
 have i5 : ∀ w, (Instr.index 103 (.agg #[.int .i64 b0, .int .i64 b1, .int .i64 b2, .int .i64 b3, .int .i64 b4, .int .i64 b5]) (.int .i64 5)).run Try.prog w = .ok (.int .i64 b5) w := fun _ => by kernel_rfl
 go_enter Try.func41, Try.ntmps41
 go_wp2
 refine wp_loop_rounds 7 ?_
 rw [rounds_succ]
 go_wp2
 rw [rounds_succ]
 go_wp2
 rw [rounds_succ]
 go_wp2
 rw [rounds_succ]
 go_wp2
 rw [rounds_succ]
 go_wp2
 rw [rounds_succ]
 go_wp2
 rw [rounds_succ]
 go_wp2
 refine bodyPost_ret (results_cell_row rfl _ _ (w.heap.size + 1 + 1) _ _ _ _ rfl (alloc3_new w _ _ _) Try.underlying103 rfl (by kernel_rfl)) rfl ⟨rfl, ?_⟩
 exact (((Below.refl _ _).alloc (Nat.le_refl _) _).alloc (by simp) _).alloc (by simp; omega) _
end Go.Proofs.Ytcdfnlgimbecgaa
