/-
  twistlocklaw18: awake.
-/
import Derived.Test.YtcdfnlgimbecgaaMt28
import Derived.Laws.Cover3
namespace Go.Proofs.Ytcdfnlgimbecgaa
open Go.RowKit
theorem arr4_row : IsRow Try.prog 90 136 := ⟨_, Try.underlying90, by kernel_rfl, by kernel_rfl⟩
theorem arr4_size : (Try.prog.info? 90).map (·.size) = some 136 := by kernel_rfl
set_option maxRecDepth 10000 in
theorem ld_four {w : World} {B : Nat} {A : Option Addr} {s1 s2 s3 s4 : Str} (h : Rd w B 34 A ([s1, s2, s3, s4].map Str.cells)) :
 ∃ g off, A = some ⟨g, off, none⟩ ∧ g < B ∧ ∀ w', Below B w w' → (loadVar 90 ⟨g, off, none⟩).run Try.prog w' = .ok (.agg (s1.cells ++ s2.cells ++ s3.cells ++ s4.cells).toArray) w' := by
 obtain ⟨g, off, e, hlt, _, _⟩ := h 0 s1.cells rfl
 refine ⟨g, off, e, hlt, fun w' hb => run_load_cells arr4_row (by simp [Str.cells_len]) fun j u hu => ?_⟩
 have hf : ([s1, s2, s3, s4].map Str.cells).flatten = s1.cells ++ s2.cells ++ s3.cells ++ s4.cells := by simp
 rw [← hf] at hu
 obtain ⟨ad, e2, hc⟩ := h.flat j u hu
 rw [e] at e2
 injection e2 with e2
 rw [← e2] at hc
 rw [Addr.add_lit] at hc ⊢
 exact (hb.cell (p := ⟨g, _, none⟩) (by simpa using hlt)).trans hc
theorem ex_curve_call (A D : Option Addr) (c d : Nat) (w : World) (h : Rd w w.heap.size 5 A (exF.map Frm.cells)) (h' : Rd w w.heap.size 2 D [[.int .i64 150, .int .i64 30]]) :
 Calls Try.prog 12 #[.slice A 4 c, .slice D 1 d] w fun e w' => ∃ A' c', e = .returned (.tuple #[.slice A' 4 c', .int .i64 0]) ∧ Rd w' w'.heap.size 34 A' (exC.map Str.cells) ∧ Below w.heap.size w w' := by
 have h1 := st_Curve A D c d 4 1 exF [⟨150, 30⟩] rfl rfl w h h' (by decide) (by decide)
 rw [ex_curve] at h1
 refine h1.mono ?_
 rintro e w' ⟨A', c', rfl, h2, h3, _⟩
 exact ⟨A', c', rfl, h2, h3⟩
theorem ex_over_call (A D : Option Addr) (c d : Nat) (w : World) (h : Rd w w.heap.size 5 A (exF.map Frm.cells)) (h' : Rd w w.heap.size 34 D (exC.map Str.cells)) :
 Calls Try.prog 22 #[.slice A 4 c, .slice D 4 d] w fun e w' => ∃ A' c', e = .returned (.tuple #[.slice A' 2 c', .int .i64 0]) ∧ Rd w' w'.heap.size 1 A' ([1, 2].map intRow) ∧ Below w.heap.size w w' := by
 have h1 := st_Over A D c d 4 4 exF exC rfl rfl w h h' (by decide) (by decide) (by intro s hs; unfold exC at hs; simp only [List.mem_cons, List.not_mem_nil, or_false] at hs; rcases hs with rfl | rfl | rfl | rfl <;> exact ⟨by first | exact ofL_fits ⟨by omega, by omega⟩ | exact ratioL_fits _ _, by first | exact ofL_fits ⟨by omega, by omega⟩ | exact ratioL_fits _ _⟩)
 rw [ex_over] at h1
 exact h1
theorem wpList_four {w : World} {ops : Array Oper} {rest : List Oper} {o : Oper} {a : Act} {Q : Exit → Act → World → Prop} (t1 t2 t3 t4 : Nat) {d : Option Nat} {ty : TypeId} {pos : String} {aft : Array Edge} (ho : o = ⟨d, .build 90 #[(0, .tmp t1), (1, .tmp t2), (2, .tmp t3), (3, .tmp t4)], ty, pos, aft, none⟩) (s1 s2 s3 s4 : Str)
 (h1 : a.eval (.tmp t1) = s1.val) (h2 : a.eval (.tmp t2) = s2.val) (h3 : a.eval (.tmp t3) = s3.val) (h4 : a.eval (.tmp t4) = s4.val)
 (h : wpList Try.prog ops Q rest (a.put o.dst (.agg (s1.cells ++ s2.cells ++ s3.cells ++ s4.cells).toArray)) w) : wpList Try.prog ops Q (o :: rest) a w := by
 subst ho
 exact wpList_run rfl (build_four s1 s2 s3 s4 w h1 h2 h3 h4) h
def fourV : Value := .agg ((exC.map Str.cells).flatten.toArray)
theorem four_eql (w : World) : (binOp .eql 90 fourV fourV).run Try.prog w = .ok (.bool true) w := by kernel_rfl
theorem four_guard (x y : Operand) (w : World) : (eqGuard .eql 90 x y fourV fourV).run Try.prog w = .ok () w := run_eqGuard_agg (P := Try.prog) (w := w) .eql 90 x y _ _ (by kernel_rfl)
theorem zero4 : Try.zeroCells90.size = 136 := by kernel_rfl
theorem four_len : (exC.map Str.cells).flatten.length = 136 := by kernel_rfl
def F4 (w : World) (g : Nat) : Prop := w.heap[g]? = some (.cells (exC.map Str.cells).flatten.toArray 90 (0, 0))
theorem F4.lt {w : World} {g : Nat} (h : F4 w g) : g < w.heap.size := (Array.getElem?_eq_some_iff.1 h).1
theorem F4.below {w w' : World} {B g : Nat} (h : F4 w g) (hb : Below B w w') (hg : g < B) : F4 w' g := (hb.block g hg).trans h
theorem F4.ld {w : World} {g : Nat} (h : F4 w g) : (loadVar 90 ⟨g, 0, none⟩).run Try.prog w = .ok fourV w :=
 run_load_cells arr4_row four_len (fun j x hx => by
  rw [Addr.add_lit, cell_of_row w g (0 + j) _ _ _ h]
  simpa using hx)
theorem wpList_st4 {w : World} {ops : Array Oper} {rest : List Oper} {o : Oper} {a : Act} {Q : Exit → Act → World → Prop} {g : Nat} (hgd : o.guard = none) (x y : Operand) (ho : o.op = .store 90 x y) (hx : a.eval x = .pointer (some ⟨g, 0, none⟩)) (hy : a.eval y = fourV) (hz : w.heap[g]? = some (.cells Try.zeroCells90 90 (0, 0)))
 (h : ∀ w', F4 w' g → w.grownBy w' (some g) → wpList Try.prog ops Q rest (a.put o.dst undef) w') : wpList Try.prog ops Q (o :: rest) a w := by
 have hz136 : Try.zeroCells90.size = 136 := zero4
 generalize Try.zeroCells90 = zc at hz hz136
 refine wpList_st (cs := (exC.map Str.cells).flatten) hgd x y ho hx hy arr4_size rfl four_len hz (by rw [hz136]; decide) ?_ fun cur' w' hc hs hg hgr => h w' ?_ hgr
 · intro u hu
   obtain ⟨cs, hcs, hu'⟩ := List.mem_flatten.1 hu
   obtain ⟨s, _, rfl⟩ := List.mem_map.1 hcs
   exact s.ones u hu'
 · have e : cur' = (exC.map Str.cells).flatten.toArray := by
    apply Array.ext'
    rw [hc]
    have h1 : zc.toList.drop (0 + 136) = [] := List.drop_eq_nil_of_le (by rw [Array.length_toList, hz136]; decide)
    rw [h1]
    simp
   rw [e] at hg
   exact hg
set_option maxRecDepth 100000 in
set_option maxHeartbeats 8000000 in
theorem law_awake (w : World) : Calls Try.prog 9 #[] w fun e w' => e = .returned (.bool true) ∧ Below w.heap.size w w' := by
 have HE1 := Lib.hid (fun w1 => law_example w1)
 have HE2 := Lib.hid (fun w1 => law_example w1)
 have HZ := Lib.hid (fun w1 => frac_Of 0 (by omega) (by omega) w1)
 obtain ⟨z0, hz0⟩ : ∃ z, z = ofL 0 := ⟨_, rfl⟩
 have HR1 := Lib.hid (fun w1 => law_ratio (-165) 19 ⟨by omega, by omega⟩ ⟨by omega, by omega⟩ w1)
 have HR2 := Lib.hid (fun w1 => law_ratio (-8250) 19 ⟨by omega, by omega⟩ ⟨by omega, by omega⟩ w1)
 have HR3 := Lib.hid (fun w1 => law_ratio 110 19 ⟨by omega, by omega⟩ ⟨by omega, by omega⟩ w1)
 have HR4 := Lib.hid (fun w1 => law_ratio (-11000) 19 ⟨by omega, by omega⟩ ⟨by omega, by omega⟩ w1)
 obtain ⟨r1, hr1⟩ : ∃ r, r = (ratioL (-165) 19).1 := ⟨_, rfl⟩
 obtain ⟨r2, hr2⟩ : ∃ r, r = (ratioL (-8250) 19).1 := ⟨_, rfl⟩
 obtain ⟨r3, hr3⟩ : ∃ r, r = (ratioL 110 19).1 := ⟨_, rfl⟩
 obtain ⟨r4, hr4⟩ : ∃ r, r = (ratioL (-11000) 19).1 := ⟨_, rfl⟩
 rw [← hz0] at HZ
 rw [← hr1] at HR1
 rw [← hr2] at HR2
 rw [← hr3] at HR3
 rw [← hr4] at HR4
 have HFV : Hid (fourV = .agg (Str.cells ⟨z0, z0⟩ ++ Str.cells ⟨r1, r2⟩ ++ Str.cells ⟨r3, r4⟩ ++ Str.cells ⟨z0, z0⟩).toArray) := by
  unfold Hid
  rw [hz0, hr1, hr2, hr3, hr4]
  unfold fourV exC
  simp
 clear hz0 hr1 hr2 hr3 hr4
 go_enter Try.func9, Try.ntmps9
 go_upto_region 6 with (first
  | (go_at_call 36; refine (HE1.out _).mono ?_; rintro e w1 ⟨A1, c1, rfl, hr1, hb1⟩; have R1 := Lib.hid hr1; have C1 : Hid (From w w1) := hb1; clear hr1 hb1 HE1)
  | (go_at_call 12; refine (ex_curve_call A1 _ c1 _ _ ((R1.out.below ((Below.refl _ _).alloc (Nat.le_refl _) _) (Nat.le_refl _)).more (by simp)) (Rd.new2 w1 46 2 [.int .i64 150, .int .i64 30] rfl)).mono ?_; rintro e w2 ⟨A2, c2, rfl, hr2, hb2⟩; have R2 := Lib.hid hr2; have C2 : Hid (From w w2) := (C1.out.alloc C1.out.size _).trans (hb2.mono (by have := C1.out.size; simp; omega)); have HC : Hid (From w2 w2) := Below.refl _ _; clear hr2 hb2)
  | (go_at_call 13; refine (HZ.out _).mono ?_; rintro e wx ⟨rfl, hbx⟩; replace HC := Lib.hid (HC.out.trans (hbx.mono HC.out.size)); clear hbx)
   | (go_at_call 19; refine (HR1.out _).mono ?_; rintro e wx ⟨rfl, hbx⟩; replace HC := Lib.hid (HC.out.trans (hbx.mono HC.out.size)); clear hbx HR1)
   | (go_at_call 19; refine (HR2.out _).mono ?_; rintro e wx ⟨rfl, hbx⟩; replace HC := Lib.hid (HC.out.trans (hbx.mono HC.out.size)); clear hbx HR2)
   | (go_at_call 19; refine (HR3.out _).mono ?_; rintro e wx ⟨rfl, hbx⟩; replace HC := Lib.hid (HC.out.trans (hbx.mono HC.out.size)); clear hbx HR3)
   | (go_at_call 19; refine (HR4.out _).mono ?_; rintro e wx ⟨rfl, hbx⟩; replace HC := Lib.hid (HC.out.trans (hbx.mono HC.out.size)); clear hbx HR4)
  | (refine wpList_buildS 20 21 rfl z0 z0 rfl rfl ?_)
  | (refine wpList_buildS 23 24 rfl r1 r2 rfl rfl ?_)
  | (refine wpList_buildS 26 27 rfl r3 r4 rfl rfl ?_)
  | (refine wpList_buildS 29 30 rfl z0 z0 rfl rfl ?_)
  | (refine wpList_four 22 25 28 31 rfl ⟨z0, z0⟩ ⟨r1, r2⟩ ⟨r3, r4⟩ ⟨z0, z0⟩ rfl rfl rfl rfl ?_; rw [← HFV.out])
  | ((with_reducible refine g_st 90 ?_); refine wpList_st4 rfl _ _ rfl rfl rfl (heap_alloc_new wx _) ?_; intro w7 hf7 hgr7; have HF7 := Lib.hid hf7; have C7 : Hid (From w2 w7) := (HC.out.alloc HC.out.size _).grown hgr7 (by have := HC.out.size; simp; omega) (by intro q hq; injection hq with hq; have := HC.out.size; omega); clear hf7 hgr7)
  | (go_at_call 36; refine (HE2.out _).mono ?_; rintro e w8 ⟨A8, c8, rfl, hr8, hb8⟩; have R8 := Lib.hid hr8; have C8 : Hid (From w7 w8) := hb8; clear hr8 hb8 HE2)
  | (go_at_call 22; refine (ex_over_call A8 A2 c8 c2 _ R8.out ((R2.out.below C7.out (Nat.le_refl _)).more C7.out.size |>.below C8.out (Nat.le_refl _) |>.more C8.out.size)).mono ?_; rintro e w9 ⟨A9, c9, rfl, hr9, hb9⟩; have R9 := Lib.hid hr9; have C9 : Hid (From w7 w9) := C8.out.trans (hb9.mono C8.out.size); clear hr9 hb9))
 obtain ⟨gl, ol, rfl, hgl, hld⟩ := ld_four R2.out
 have C29 : Hid (From w2 w9) := C7.out.trans (C9.out.mono C7.out.size)
 have HLD := Lib.hid (fun w1 (hb : From w9 w1) => hld w1 (C29.out.trans (hb.mono C29.out.size)))
 have HFV2 : Hid (.agg (Str.cells ⟨ofL 0, ofL 0⟩ ++ Str.cells ⟨(ratioL (-165) 19).1, (ratioL (-8250) 19).1⟩ ++ Str.cells ⟨(ratioL 110 19).1, (ratioL (-11000) 19).1⟩ ++ Str.cells ⟨ofL 0, ofL 0⟩).toArray = fourV) := by
  unfold Hid fourV exC
  simp
 rw [HFV2.out] at HLD
 have HF9 := Lib.hid (HF7.out.below C9.out HF7.out.lt)
 obtain ⟨gi, oi, rfl, hgi, _⟩ := int_at R9.out 0 (by decide)
 have CE : Hid (From w w9) := C2.out.trans (C29.out.mono C2.out.size)
 clear hgl hld hgi HFV HFV2 HZ HC R1 R2 R8 HF7
 try simp only [Act.put]
 refine region_awake (gl := gl) (ol := ol) (cl := c2) (g3 := wx.heap.size) (gi := gi) (oi := oi) (ci := c9) (v4 := fourV) (v5 := fourV) rfl (by kernel_rfl) (by kernel_rfl) (by kernel_rfl) rfl rfl rfl rfl
  (fun v w1 => ∃ g, v = .slice (some ⟨g, 0, none⟩) 2 2 ∧ w1.heap[g]? = some (.cells #[.int .i64 1, .int .i64 2] 3 (0, 0)))
  (by rintro v w1 w2 ⟨g, h1, h2⟩ hb; exact ⟨g, h1, (hb.block g (Array.getElem?_eq_some_iff.1 h2).1).trans h2⟩)
  (by intro a w1 h1; unfold execOp; simp only [h1, Sem.run_bind, run_arrayAt _ _ _ _ _ _ _ Try.underlying90 (Nat.le_refl 4), Result.andThen_ok, Sem.run_pure])
  (fun w1 hb => HLD.out w1 hb) (fun w1 hb => (HF9.out.below hb HF9.out.lt).ld)
  (by intro a w1 h1 h2; unfold execOp; simp only [h1, h2, Sem.run_bind, four_guard, four_eql, Result.andThen_ok, Sem.run_pure])
  (by intro a w1 hb; exact ⟨.slice (some ⟨w1.heap.size, 0, none⟩) 2 2, w1.alloc (.cells #[.int .i64 1, .int .i64 2] 3), by go_simp, (Below.refl _ _).alloc (Nat.le_refl _) _, _, rfl, heap_alloc_new w1 _⟩)
  (by
   rintro w1 u hb ⟨g, rfl, hg⟩
   refine sameInts (some ⟨gi, oi, none⟩) (some ⟨g, 0, none⟩) c9 2 [1, 2] 2 2 rfl rfl w1 ((R9.out.below hb (Nat.le_refl _)).more hb.size) ?_ (by decide)
   exact Rd.rows (css := [1, 2].map intRow) hg rfl (by simp [intRow])) ?_
 intro u w10 hb10 hu
 have CF : Hid (From w w10) := CE.out.trans (hb10.mono CE.out.size)
 clear hb10 hu
 simp only [List.drop_succ_cons, List.drop_zero]
 simp only [Act.put, List.setIfInBounds_toArray, List.set_cons_succ, List.set_cons_zero]
 go_wp2
 go_ret
 exact ⟨rfl, CF.out⟩
structure Sml where
 step : Int
 light : Int
 at_ : Int
 kilos : Int
 share : Int
deriving DecidableEq
theorem OwnS.some {w : World} {base e size c : Nat} {A : Option Addr} {css : List (List Value)} (h : OwnS w base e size A c css) (hn : css ≠ []) : ∃ g, A = some ⟨g, 0, none⟩ := by
 rcases h.block with ⟨_, _, h3⟩ | ⟨g, cur, h3, _⟩
 · exact absurd h3 hn
 · exact ⟨g, h3⟩
end Go.Proofs.Ytcdfnlgimbecgaa
namespace Go.Proofs.Ytcdfnlgimbecgaa
def lightS (l : List Frm) : Int := (l.map Frm.light).foldr (· + ·) 0
theorem lightS_cons (f : Frm) (l : List Frm) : lightS (f :: l) = f.light + lightS l := rfl
theorem shareF_cons (f : Frm) (l : List Frm) : shareF (f :: l) = f.share + shareF l := rfl
theorem lightS_snoc (f : Frm) : ∀ l : List Frm, lightS (l ++ [f]) = lightS l + f.light
 | [] => by simp [lightS]
 | g :: l => by rw [List.cons_append, lightS_cons, lightS_cons, lightS_snoc f l]; omega
theorem shareF_snoc (f : Frm) : ∀ l : List Frm, shareF (l ++ [f]) = shareF l + f.share
 | [] => by simp [shareF]
 | g :: l => by rw [List.cons_append, shareF_cons, shareF_cons, shareF_snoc f l]; omega
def sumSec (f : Sec → Int) (S : List Sec) : Int := (S.map f).foldr (· + ·) 0
theorem sumSec_cons (f : Sec → Int) (a : Sec) (S : List Sec) : sumSec f (a :: S) = f a + sumSec f S := rfl
theorem fold_sum {f : Sec → Int} (hf : Part f) : ∀ (S : List Sec) (a : Sec), f (S.foldl Sec.add a) = f a + sumSec f S
 | [], a => by simp [sumSec]
 | b :: S, a => by
  rw [List.foldl_cons, fold_sum hf S (a.add b), hf.add, sumSec_cons]
  omega
theorem addAll_sum {f : Sec → Int} (hf : Part f) (S : List Sec) : f (addAll S) = sumSec f S := by
 unfold addAll
 rw [fold_sum hf, hf.zero]
 omega
theorem sumSec_put {f : Sec → Int} (hf : Part f) (c : Sec) : ∀ (S : List Sec) (i : Nat), i < S.length → sumSec f (S.set i ((S.getD i Sec.zero).add c)) = sumSec f S + f c
 | [], i, h => by cases h
 | a :: S, 0, _ => by
  simp only [List.set_cons_zero, List.getD_cons_zero, sumSec_cons, hf.add]
  omega
 | a :: S, i + 1, h => by
  simp only [List.set_cons_succ, List.getD_cons_succ, sumSec_cons]
  rw [sumSec_put hf c S i (by simpa using h)]
  omega
def sumWt (f : Sec → Int) (ws : List Wt) : Int := (ws.map fun u => f (wtSec u)).foldr (· + ·) 0
theorem putAll_in {l : List Frm} {n : Nat} : ∀ (ws : List Wt) (S : List Sec), S.length = n → (∀ u ∈ ws, idxF l u.x ≠ 0 ∧ idxF l u.x ≤ n) → ∃ S', putAllW l n S ws = some S' ∧ S'.length = n ∧ ∀ f, Part f → sumSec f S' = sumSec f S + sumWt f ws
 | [], S, hS, _ => ⟨S, rfl, hS, fun f hf => by simp [sumWt]⟩
 | u :: ws, S, hS, h => by
  have hu := h u (by simp)
  obtain ⟨S', h1, h2, h3⟩ := putAll_in (l := l) (n := n) ws (S.set (idxF l u.x - 1) ((S.getD (idxF l u.x - 1) Sec.zero).add (wtSec u))) (by rw [List.length_set]; exact hS) (fun v hv => h v (by simp [hv]))
  refine ⟨S', ?_, h2, fun f hf => ?_⟩
  · unfold putAllW putW
    rw [if_neg (by omega)]
    exact h1
  · rw [h3 f hf, sumSec_put hf _ _ _ (by omega)]
    show _ = _ + (f (wtSec u) + sumWt f ws)
    omega
theorem baseS_len (l : List Frm) : (baseS l).length = l.length - 1 := by simp [baseS]
theorem sumWt_snoc (f : Sec → Int) (u : Wt) : ∀ ws : List Wt, sumWt f (ws ++ [u]) = sumWt f ws + f (wtSec u)
 | [] => by simp [sumWt]
 | v :: ws => by
  show f (wtSec v) + sumWt f (ws ++ [u]) = f (wtSec v) + sumWt f ws + _
  rw [sumWt_snoc f u ws]
  omega
open Go.RowKit
set_option maxHeartbeats 1000000 in
theorem ref_trim (A : Option Addr) (c n : Nat) (l : List Nat) (hn : n = l.length) (w : World) (h : Rd w w.heap.size 1 A (nums .i64 l)) (hl : Digs B16 l) (hlen : l.length ≤ 1000000000) (hcap : l.length ≤ c) :
 Calls Try.prog 127 #[.slice A n c] w fun e w' => e = .returned (.slice A (len16 (valB B16 l)) c) ∧ w' = w := by
 subst hn
 go_enter Try.func127, Try.ntmps127
 go_wp2
 go_loop [0] (fun v => ∃ k : Nat, k ≤ l.length ∧ v = .slice A k c ∧ ∀ d ∈ l.drop k, d = 0) (fun v => lenOf v)
 case atStart => exact ⟨l.length, Nat.le_refl _, rfl, by simp⟩
 case round =>
  obtain ⟨k, hk, rfl, hz⟩ := hrel
  have HZ := Lib.hid hz
  clear hz
  by_cases hk0 : k = 0
  · subst hk0
    have HT : Hid (len16 (valB B16 l) = 0) := by unfold Hid len16; rw [trim_dig hB16 hl (Nat.zero_le _) HZ.out (.inl rfl)]; simp
    go_wp2
    go_ret
    exact ⟨by rw [HT.out]; rfl, rfl⟩
  · obtain ⟨j, rfl⟩ : ∃ j, k = j + 1 := ⟨k - 1, by omega⟩
    obtain ⟨b, off, rfl, hb, hld⟩ := num_ld Try.underlying3 rfl h (show j < l.length by omega)
    have HL := Lib.hid (hld w (Below.refl _ _))
    clear hld
    by_cases hz0 : l[j] = 0
    · have e0 : ((l[j] : Int) == 0) = true := by simp [hz0]
      have hcj : ¬ c < j := by omega
      go_wp2_with (first
       | ((with_reducible refine g_ld 3 ?_); (first | refine wpList_ld rfl _ _ rfl _ rfl _ HL.out ?_ | refine wpList_ldw rfl _ _ rfl _ rfl _ HL.out ?_)))
      go_round
      case rel =>
       refine ⟨j, by omega, by simp, fun d hd => ?_⟩
       rw [List.drop_eq_getElem_cons (show j < l.length by omega)] at hd
       rcases List.mem_cons.1 hd with h1 | h1
       · rw [h1, hz0]
       · exact HZ.out d h1
      case measure => simp [lenOf]
    · have HT : Hid (len16 (valB B16 l) = j + 1) := by
       unfold Hid len16
       rw [trim_dig hB16 hl hk HZ.out (.inr ⟨j, rfl, by simp [show j < l.length by omega]; exact hz0⟩)]
       simp
       omega
      have e0 : ((l[j] : Int) == 0) = false := by simp [hz0]
      go_wp2_with (first
       | ((with_reducible refine g_ld 3 ?_); (first | refine wpList_ld rfl _ _ rfl _ rfl _ HL.out ?_ | refine wpList_ldw rfl _ _ rfl _ rfl _ HL.out ?_)))
      go_ret
      exact ⟨by rw [HT.out]; rfl, rfl⟩
theorem dig_full {B : Nat} (hB : 2 ≤ B) {l : List Nat} (hl : Digs B l) (h : l.length ≤ (dig B (valB B l)).length) : dig B (valB B l) = l := by
 rw [dig_take hB hl, List.take_of_length_le h]
theorem add_step {B : Nat} {a b o : List Nat} {c : Nat} (hV : valB B o + B ^ o.length * c = valB B (a.take o.length) + valB B (b.take o.length)) :
 valB B (o ++ [(c + a.getD o.length 0 + b.getD o.length 0) % B]) + B ^ (o.length + 1) * ((c + a.getD o.length 0 + b.getD o.length 0) / B) = valB B (a.take (o.length + 1)) + valB B (b.take (o.length + 1)) := by
 rw [valB_snoc, valB_take_getD, valB_take_getD, Nat.pow_succ]
 generalize a.getD o.length 0 = p at *
 generalize b.getD o.length 0 = q at *
 generalize B ^ o.length = P at *
 have h := Nat.mod_add_div (c + p + q) B
 generalize (c + p + q) % B = r at *
 generalize (c + p + q) / B = d at *
 grind
set_option maxRecDepth 100000 in
set_option maxHeartbeats 4000000 in
theorem ref_add (A D : Option Addr) (ca cd : Nat) (x y n m : Nat) (hn : n = len16 x) (hm : m = len16 y) (w : World) (hA : Rd16 w A x) (hD : Rd16 w D y) (hx : len16 x ≤ 1000) (hy : len16 y ≤ 1000) :
 Calls Try.prog 124 #[.slice A n ca, .slice D m cd] w fun e w' => ∃ A' c', e = .returned (.slice A' (len16 (x + y)) c') ∧ Rd16 w' A' (x + y) ∧ len16 (x + y) ≤ c' ∧ From w w' := by
 have HA := Lib.hid hA
 have HD := Lib.hid hD
 have HX := Lib.hid (And.intro hn hm)
 have hn1 : n ≤ 1000 := by omega
 have hm1 : m ≤ 1000 := by omega
 clear hA hD hn hm hx hy
 go_enter Try.func124, Try.ntmps124
 go_wp2
 have HM0 := Lib.hid ((Mem.nil w).none 3 1)
 go_loopw [5, 6, 7] (fun v5 v6 v7 wq => ∃ (i c : Nat) (o : List Nat) (A1 : Option Addr) (c1 : Nat), i ≤ 1001 ∧ v7 = .int .i64 i ∧ v6 = .int .i64 c ∧ v5 = .slice A1 i c1 ∧ o.length = i ∧ Digs B16 o ∧ valB B16 o + B16 ^ i * c = valB B16 ((dig B16 x).take i) + valB B16 ((dig B16 y).take i) ∧ (c ≤ 1 ∧ (i ≤ n ∨ i ≤ m ∨ (c = 0 ∧ (i = n + 1 ∨ i = m + 1) ∧ B16 ^ (i - 1) ≤ x + y))) ∧ Mem w wq [.row 3 1 A1 c1 (nums .i64 o)]) (fun _ _ v7 _ => 2004 - (intOf v7).toNat)
 case atStart => exact ⟨0, 0, [], none, 0, by omega, rfl, rfl, rfl, rfl, (fun _ h => by cases h), by simp [valB], ⟨by omega, .inl (Nat.zero_le _)⟩, HM0.out⟩
 case round =>
  clear HM0
  obtain ⟨i, c, o, A1, c1, hi1, rfl, rfl, rfl, hol, hod, hval, hcc, hmem⟩ := hrel
  have HM := Lib.hid hmem
  have HOD := Lib.hid hod
  have HV := Lib.hid hval
  have HOL' : Hid (o.length = i) := hol
  have HOL : Hid (i = (nums .i64 o).length) := by unfold Hid; rw [nums_len, hol]
  clear hmem hod hval
  have hi10 : i ≤ 1002 := by omega
  have wI : IntKind.i64.wrap ((i : Int) + 1) = (i : Int) + 1 := wrap_i64 (by omega) (by omega)
  have hXn : (dig B16 x).length = n := HX.out.1.symm
  have hYm : (dig B16 y).length = m := HX.out.2.symm
  by_cases hin : i < n
  · have hini : (i : Int) < (n : Int) := by omega
    obtain ⟨b1, o1, rfl, _, hl1⟩ := num_ld Try.underlying3 rfl HA.out (show i < (dig B16 x).length by omega)
    have HL1 := Lib.hid (hl1 wr HM.out.from_)
    have ex : (dig B16 x).getD i 0 = (dig B16 x)[i]'(by omega) := by simp [show i < (dig B16 x).length by omega]
    rw [← ex] at HL1
    clear hl1
    by_cases him : i < m
    · have himi : (i : Int) < (m : Int) := by omega
      obtain ⟨b2, o2, rfl, _, hl2⟩ := num_ld Try.underlying3 rfl HD.out (show i < (dig B16 y).length by omega)
      have HL2 := Lib.hid (hl2 wr HM.out.from_)
      have ey : (dig B16 y).getD i 0 = (dig B16 y)[i]'(by omega) := by simp [show i < (dig B16 y).length by omega]
      rw [← ey] at HL2
      clear hl2
      obtain ⟨s, hs⟩ : ∃ s, s = c + (dig B16 x).getD i 0 + (dig B16 y).getD i 0 := ⟨_, rfl⟩
      obtain ⟨r, hr⟩ : ∃ r, r = s % 65536 := ⟨_, rfl⟩
      obtain ⟨q, hq⟩ : ∃ q, q = s / 65536 := ⟨_, rfl⟩
      have hst := add_step (B := B16) (a := dig B16 x) (b := dig B16 y) (o := o) (c := c) (by rw [HOL'.out]; exact HV.out)
      rw [HOL'.out, ← hs] at hst
      have HST : Hid (valB B16 (o ++ [r]) + B16 ^ (i + 1) * q = valB B16 ((dig B16 x).take (i + 1)) + valB B16 ((dig B16 y).take (i + 1))) := by unfold Hid; rw [hr, hq]; exact hst
      have HRB : Hid (r < B16) := by unfold Hid; rw [hr]; exact Nat.mod_lt _ (by decide)
      have w3' : (s : Int).tmod 65536 = (r : Int) := by rw [hr]; rfl
      have w4' : (s : Int).tdiv 65536 = (q : Int) := by rw [hq]; rfl
      have xb := (Digs.dig hB16 x).getD (by decide) i
      have yb := (Digs.dig hB16 y).getD (by decide) i
      have hq1 : q ≤ 1 := by have h1 : s ≤ 131071 := by { have e : B16 = 65536 := rfl; omega }; omega
      have wS3 : IntKind.i64.wrap (s : Int) = (s : Int) := by have e : B16 = 65536 := rfl; exact wrap_i64 (by omega) (by omega)
      clear hst
      have HNX : Hid (q ≤ 1 ∧ (i + 1 ≤ n ∨ i + 1 ≤ m ∨ (q = 0 ∧ (i + 1 = n + 1 ∨ i + 1 = m + 1) ∧ B16 ^ (i + 1 - 1) ≤ x + y))) := ⟨hq1, .inl (by omega)⟩
      generalize (dig B16 x).getD i 0 = xa at *
      generalize (dig B16 y).getD i 0 = ya at *
      have eB : B16 = 65536 := rfl
      obtain ⟨s1, hs1⟩ : ∃ s1, s1 = c + xa := ⟨_, rfl⟩
      have wS1 : IntKind.i64.wrap ((c : Int) + (xa : Int)) = (s1 : Int) := by rw [wrap_i64 (by omega) (by omega)]; omega
      have wS2 : IntKind.i64.wrap ((s1 : Int) + (ya : Int)) = (s : Int) := by rw [wrap_i64 (by omega) (by omega)]; omega
      clear hs hr hq hs1 ex ey xb yb hXn hYm eB
      go_wp2_with (first
       | ((with_reducible refine g_ld 3 ?_); refine wpList_ld rfl _ _ rfl _ rfl _ HL1.out ?_)
       | ((with_reducible refine g_ld 3 ?_); refine wpList_ld rfl _ _ rfl _ rfl _ HL2.out ?_)
       | (at_builtin; (refine wpList_append_M rfl _ _ rfl int_ei i HOL.out rfl (HM.out.any _) 0 rfl rfl (Rd.new2 wr 3 1 [.int .i64 (r : Int)] rfl) rfl (by simp [Value.oneCell']) (by rw [← HOL.out]; unfold maxLen; omega) (by rw [← HOL.out]; omega) ?_); intro A3 c3 w2 h2; have HM2 := Lib.hid h2; clear h2 HM))
      go_roundw
      case rel =>
       refine ⟨i + 1, q, o ++ [r], A3, c3, by omega, by go_num, by go_num, by go_num, ?_, ?_, HST.out, HNX.out, ?_⟩
       · rw [List.length_append, HOL'.out]; rfl
       · exact HOD.out.append (fun d hd => by rw [List.mem_singleton] at hd; subst hd; exact HRB.out)
       · have h1 := HM2.out
         rw [nums_append]
         exact h1
      case measure => simp [intOf]; omega
    · have himi : ¬ (i : Int) < (m : Int) := by omega
      obtain ⟨s, hs⟩ : ∃ s, s = c + (dig B16 x).getD i 0 + (dig B16 y).getD i 0 := ⟨_, rfl⟩
      obtain ⟨r, hr⟩ : ∃ r, r = s % 65536 := ⟨_, rfl⟩
      obtain ⟨q, hq⟩ : ∃ q, q = s / 65536 := ⟨_, rfl⟩
      have hst := add_step (B := B16) (a := dig B16 x) (b := dig B16 y) (o := o) (c := c) (by rw [HOL'.out]; exact HV.out)
      rw [HOL'.out, ← hs] at hst
      have HST : Hid (valB B16 (o ++ [r]) + B16 ^ (i + 1) * q = valB B16 ((dig B16 x).take (i + 1)) + valB B16 ((dig B16 y).take (i + 1))) := by unfold Hid; rw [hr, hq]; exact hst
      have HRB : Hid (r < B16) := by unfold Hid; rw [hr]; exact Nat.mod_lt _ (by decide)
      have w3' : (s : Int).tmod 65536 = (r : Int) := by rw [hr]; rfl
      have w4' : (s : Int).tdiv 65536 = (q : Int) := by rw [hq]; rfl
      have xb := (Digs.dig hB16 x).getD (by decide) i
      have yb := (Digs.dig hB16 y).getD (by decide) i
      have hq1 : q ≤ 1 := by have h1 : s ≤ 131071 := by { have e : B16 = 65536 := rfl; omega }; omega
      have wS3 : IntKind.i64.wrap (s : Int) = (s : Int) := by have e : B16 = 65536 := rfl; exact wrap_i64 (by omega) (by omega)
      clear hst
      have HNX : Hid (q ≤ 1 ∧ (i + 1 ≤ n ∨ i + 1 ≤ m ∨ (q = 0 ∧ (i + 1 = n + 1 ∨ i + 1 = m + 1) ∧ B16 ^ (i + 1 - 1) ≤ x + y))) := ⟨hq1, .inl (by omega)⟩
      have ey : (dig B16 y).getD i 0 = 0 := by simp [show (dig B16 y).length ≤ i by omega]
      rw [ey] at hs
      generalize (dig B16 x).getD i 0 = xa at *
      have eB : B16 = 65536 := rfl
      have wS1 : IntKind.i64.wrap ((c : Int) + (xa : Int)) = (s : Int) := by rw [wrap_i64 (by omega) (by omega)]; omega
      clear hs hr hq ex ey xb yb hXn hYm eB
      go_wp2_with (first
       | ((with_reducible refine g_ld 3 ?_); refine wpList_ld rfl _ _ rfl _ rfl _ HL1.out ?_)
       | (at_builtin; (refine wpList_append_M rfl _ _ rfl int_ei i HOL.out rfl (HM.out.any _) 0 rfl rfl (Rd.new2 wr 3 1 [.int .i64 (r : Int)] rfl) rfl (by simp [Value.oneCell']) (by rw [← HOL.out]; unfold maxLen; omega) (by rw [← HOL.out]; omega) ?_); intro A3 c3 w2 h2; have HM2 := Lib.hid h2; clear h2 HM))
      go_roundw
      case rel =>
       refine ⟨i + 1, q, o ++ [r], A3, c3, by omega, by go_num, by go_num, by go_num, ?_, ?_, HST.out, HNX.out, ?_⟩
       · rw [List.length_append, HOL'.out]; rfl
       · exact HOD.out.append (fun d hd => by rw [List.mem_singleton] at hd; subst hd; exact HRB.out)
       · have h1 := HM2.out
         rw [nums_append]
         exact h1
      case measure => simp [intOf]; omega
  · have hini : ¬ (i : Int) < (n : Int) := by omega
    by_cases him : i < m
    · have himi : (i : Int) < (m : Int) := by omega
      obtain ⟨b2, o2, rfl, _, hl2⟩ := num_ld Try.underlying3 rfl HD.out (show i < (dig B16 y).length by omega)
      have HL2 := Lib.hid (hl2 wr HM.out.from_)
      have ey : (dig B16 y).getD i 0 = (dig B16 y)[i]'(by omega) := by simp [show i < (dig B16 y).length by omega]
      rw [← ey] at HL2
      clear hl2
      obtain ⟨s, hs⟩ : ∃ s, s = c + (dig B16 x).getD i 0 + (dig B16 y).getD i 0 := ⟨_, rfl⟩
      obtain ⟨r, hr⟩ : ∃ r, r = s % 65536 := ⟨_, rfl⟩
      obtain ⟨q, hq⟩ : ∃ q, q = s / 65536 := ⟨_, rfl⟩
      have hst := add_step (B := B16) (a := dig B16 x) (b := dig B16 y) (o := o) (c := c) (by rw [HOL'.out]; exact HV.out)
      rw [HOL'.out, ← hs] at hst
      have HST : Hid (valB B16 (o ++ [r]) + B16 ^ (i + 1) * q = valB B16 ((dig B16 x).take (i + 1)) + valB B16 ((dig B16 y).take (i + 1))) := by unfold Hid; rw [hr, hq]; exact hst
      have HRB : Hid (r < B16) := by unfold Hid; rw [hr]; exact Nat.mod_lt _ (by decide)
      have w3' : (s : Int).tmod 65536 = (r : Int) := by rw [hr]; rfl
      have w4' : (s : Int).tdiv 65536 = (q : Int) := by rw [hq]; rfl
      have xb := (Digs.dig hB16 x).getD (by decide) i
      have yb := (Digs.dig hB16 y).getD (by decide) i
      have hq1 : q ≤ 1 := by have h1 : s ≤ 131071 := by { have e : B16 = 65536 := rfl; omega }; omega
      have wS3 : IntKind.i64.wrap (s : Int) = (s : Int) := by have e : B16 = 65536 := rfl; exact wrap_i64 (by omega) (by omega)
      clear hst
      have HNX : Hid (q ≤ 1 ∧ (i + 1 ≤ n ∨ i + 1 ≤ m ∨ (q = 0 ∧ (i + 1 = n + 1 ∨ i + 1 = m + 1) ∧ B16 ^ (i + 1 - 1) ≤ x + y))) := ⟨hq1, .inr (.inl (by omega))⟩
      have ex : (dig B16 x).getD i 0 = 0 := by simp [show (dig B16 x).length ≤ i by omega]
      rw [ex] at hs
      generalize (dig B16 y).getD i 0 = ya at *
      have eB : B16 = 65536 := rfl
      have wS1 : IntKind.i64.wrap ((c : Int) + (ya : Int)) = (s : Int) := by rw [wrap_i64 (by omega) (by omega)]; omega
      clear hs hr hq ex ey xb yb hXn hYm eB
      go_wp2_with (first
       | ((with_reducible refine g_ld 3 ?_); refine wpList_ld rfl _ _ rfl _ rfl _ HL2.out ?_)
       | (at_builtin; (refine wpList_append_M rfl _ _ rfl int_ei i HOL.out rfl (HM.out.any _) 0 rfl rfl (Rd.new2 wr 3 1 [.int .i64 (r : Int)] rfl) rfl (by simp [Value.oneCell']) (by rw [← HOL.out]; unfold maxLen; omega) (by rw [← HOL.out]; omega) ?_); intro A3 c3 w2 h2; have HM2 := Lib.hid h2; clear h2 HM))
      go_roundw
      case rel =>
       refine ⟨i + 1, q, o ++ [r], A3, c3, by omega, by go_num, by go_num, by go_num, ?_, ?_, HST.out, HNX.out, ?_⟩
       · rw [List.length_append, HOL'.out]; rfl
       · exact HOD.out.append (fun d hd => by rw [List.mem_singleton] at hd; subst hd; exact HRB.out)
       · have h1 := HM2.out
         rw [nums_append]
         exact h1
      case measure => simp [intOf]; omega
    · have himi : ¬ (i : Int) < (m : Int) := by omega
      have hfx : (dig B16 x).take i = dig B16 x := List.take_of_length_le (by omega)
      have hfy : (dig B16 y).take i = dig B16 y := List.take_of_length_le (by omega)
      by_cases hc0 : c = 0
      · subst hc0
        have hcc0 : ¬ (0 : Int) < ((0 : Nat) : Int) := by decide
        have hv := HV.out
        rw [hfx, hfy, val_dig hB16, val_dig hB16, Nat.mul_zero, Nat.add_zero] at hv
        have hle : i ≤ len16 (x + y) := by
         rcases hcc.2 with h1 | h1 | ⟨_, h1, h2⟩
         · rcases Nat.eq_zero_or_pos i with h0 | h0
           · omega
           · have h3 := (dig_len_lt_iff hB16 (n := x) (k := i - 1)).1 (by omega)
             have h4 := (dig_len_lt_iff hB16 (n := x + y) (k := i - 1)).2 (by omega)
             unfold len16
             omega
         · rcases Nat.eq_zero_or_pos i with h0 | h0
           · omega
           · have h3 := (dig_len_lt_iff hB16 (n := y) (k := i - 1)).1 (by omega)
             have h4 := (dig_len_lt_iff hB16 (n := x + y) (k := i - 1)).2 (by omega)
             unfold len16
             omega
         · have h4 := (dig_len_lt_iff hB16 (n := x + y) (k := i - 1)).2 h2
           unfold len16
           omega
        have hd : dig B16 (x + y) = o := by rw [← hv]; exact dig_full hB16 HOD.out (by rw [hv, HOL'.out]; exact hle)
        have HDD := Lib.hid hd
        clear hfx hfy hcc hv hle hd hXn hYm
        go_wp2
        go_ret
        have hl : len16 (x + y) = i := by unfold len16; rw [HDD.out]; exact HOL'.out
        refine ⟨A1, c1, by rw [hl]; rfl, ?_, ?_, HM.out.from_⟩
        · have h1 := HM.out.rd (i := 0) rfl
          show Rd wr wr.heap.size 1 A1 (nums .i64 (dig B16 (x + y)))
          rw [HDD.out]
          exact h1
        · have h1 := (HM.out.own (i := 0) rfl).cap
          rw [nums_len, HOL'.out] at h1
          rw [hl]
          exact h1.1
      · have hcc0 : (0 : Int) < (c : Int) := by omega
        obtain ⟨s, hs⟩ : ∃ s, s = c + (dig B16 x).getD i 0 + (dig B16 y).getD i 0 := ⟨_, rfl⟩
        obtain ⟨r, hr⟩ : ∃ r, r = s % 65536 := ⟨_, rfl⟩
        obtain ⟨q, hq⟩ : ∃ q, q = s / 65536 := ⟨_, rfl⟩
        have hst := add_step (B := B16) (a := dig B16 x) (b := dig B16 y) (o := o) (c := c) (by rw [HOL'.out]; exact HV.out)
        rw [HOL'.out, ← hs] at hst
        have HST : Hid (valB B16 (o ++ [r]) + B16 ^ (i + 1) * q = valB B16 ((dig B16 x).take (i + 1)) + valB B16 ((dig B16 y).take (i + 1))) := by unfold Hid; rw [hr, hq]; exact hst
        have HRB : Hid (r < B16) := by unfold Hid; rw [hr]; exact Nat.mod_lt _ (by decide)
        have w3' : (s : Int).tmod 65536 = (r : Int) := by rw [hr]; rfl
        have w4' : (s : Int).tdiv 65536 = (q : Int) := by rw [hq]; rfl
        have xb := (Digs.dig hB16 x).getD (by decide) i
        have yb := (Digs.dig hB16 y).getD (by decide) i
        have hq1 : q ≤ 1 := by have h1 : s ≤ 131071 := by { have e : B16 = 65536 := rfl; omega }; omega
        have wS3 : IntKind.i64.wrap (s : Int) = (s : Int) := by have e : B16 = 65536 := rfl; exact wrap_i64 (by omega) (by omega)
        clear hst
        have ex : (dig B16 x).getD i 0 = 0 := by simp [show (dig B16 x).length ≤ i by omega]
        have ey : (dig B16 y).getD i 0 = 0 := by simp [show (dig B16 y).length ≤ i by omega]
        rw [ex, ey] at hs
        have hc1 : c = 1 := by omega
        have hs1 : s = 1 := by omega
        subst hc1 hs1
        have hv := HV.out
        rw [hfx, hfy, val_dig hB16, val_dig hB16, Nat.mul_one] at hv
        have HNX : Hid (q ≤ 1 ∧ (i + 1 ≤ n ∨ i + 1 ≤ m ∨ (q = 0 ∧ (i + 1 = n + 1 ∨ i + 1 = m + 1) ∧ B16 ^ (i + 1 - 1) ≤ x + y))) := ⟨hq1, .inr (.inr ⟨by omega, by omega, by rw [Nat.add_sub_cancel, ← hv]; exact Nat.le_add_left _ _⟩)⟩
        have wT : (1 : Int).tmod 65536 = (r : Int) := w3'
        have wQ : (1 : Int).tdiv 65536 = (q : Int) := w4'
        clear hs hr hq ex ey xb yb hXn hYm hfx hfy hv
        go_wp2_with (first
         | (at_builtin; (refine wpList_append_M rfl _ _ rfl int_ei i HOL.out rfl (HM.out.any _) 0 rfl rfl (Rd.new2 wr 3 1 [.int .i64 (r : Int)] rfl) rfl (by simp [Value.oneCell']) (by rw [← HOL.out]; unfold maxLen; omega) (by rw [← HOL.out]; omega) ?_); intro A3 c3 w2 h2; have HM2 := Lib.hid h2; clear h2 HM))
        go_roundw
        case rel =>
         refine ⟨i + 1, q, o ++ [r], A3, c3, by omega, by go_num, by go_num, by go_num, ?_, ?_, HST.out, HNX.out, ?_⟩
         · rw [List.length_append, HOL'.out]; rfl
         · exact HOD.out.append (fun d hd => by rw [List.mem_singleton] at hd; subst hd; exact HRB.out)
         · have h1 := HM2.out
           rw [nums_append]
           exact h1
        case measure => simp [intOf]; omega
end Go.Proofs.Ytcdfnlgimbecgaa
