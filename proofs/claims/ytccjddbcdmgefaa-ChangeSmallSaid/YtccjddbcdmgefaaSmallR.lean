/-
  ChangeSmall's pairs of calls of tells: whatever the order of its operations, the region tells false ('no difference').
-/
import Derived.Test.YtccjddbcdmgefaaTells
import Derived.Test.YtccjddbcdmgefaaSpec
namespace Go.Proofs.Ytccjddbcdmgefaa
open Go.RowKit

/-- the operations of a region of a function -/
def regionOps : Code → Nat → Option (List Oper)
  | .region id ops _, n => if id = n then some ops.toList else none
  | .seq c d, n => (regionOps c n).orElse fun _ => regionOps d n
  | .block _ c, n => regionOps c n
  | .cond _ c d, n => (regionOps c n).orElse fun _ => regionOps d n
  | .loop c, n => regionOps c n
  | .scope c, n => regionOps c n
  | _, _ => none

def kil (n : Nat) : Int := ([-1, 0, 1, 40000, 40001, 9] : List Int).getD n 0
def chgAt (m : Nat) : Chg := ⟨((m / 6 : Nat) : Int), ((m % 6 : Nat) : Int) - 1, ((m % 6 : Nat) : Int), kil (m % 6)⟩
def allC : List Chg := (List.range 36).map chgAt

noncomputable def smallOps : List Oper := ((Try.f5.body.bind fun c => regionOps c 23).getD [])

theorem wrap_i64 {n : Int} (h1 : -9223372036854775808 ≤ n) (h2 : n ≤ 9223372036854775807) : IntKind.i64.wrap n = n := by
  unfold IntKind.wrap
  simp [IntKind.bits, IntKind.signed]
  split <;> omega

theorem example_cf (w : World) (args : Array Value) : (callFunc 11 args).run Try.prog w = .ok (.enter 11 args) w := by
  go_simp
theorem tells_cf (w : World) (args : Array Value) : (callFunc 6 args).run Try.prog w = .ok (.enter 6 args) w := by
  go_simp
def smallS4 (AL : Option Addr) (cL : Nat) (n : Nat) (calls now : Int) (k k1 k2 bL oL : Nat) (x0 x1 x2 : Chg) : Nat → SpecV := fun i =>
  match i with
  | 0 => .rows 4 9 (exL.map Box.cells) 4
  | 1 => .const (.int .i64 n)
  | 2 => .rows n 9 ((exL.take n).map Box.cells) 0
  | 3 => .const (.int .i64 calls)
  | 4 => .const (.int .i64 now)
  | 5 => .const (x0.val)
  | 6 => .rows 1 4 ([x0].map Chg.cells) 0
  | 7 => .const (.bool true)
  | 8 => .const (.bool false)
  | 9 => .const (.bool false)
  | 10 => .const (.int .i64 calls)
  | 11 => .const (.bool true)
  | 12 => .const (.bool true)
  | 13 => .rows 4 9 (exL.map Box.cells) 4
  | 14 => .const (.int .i64 n)
  | 15 => .rows n 9 ((exL.take n).map Box.cells) 0
  | 16 => .const (.int .i64 calls)
  | 17 => .const (.int .i64 now)
  | 18 => .const (x0.val)
  | 19 => .const (.slice AL allC.length cL)
  | 20 => .const (.int .i64 k)
  | 21 => .const (.int .i64 (7 * (k : Int)))
  | 22 => .const (.int .i64 now)
  | 23 => .const (.int .i64 (7 * (k : Int) + now))
  | 24 => .const (.int .i64 (7 * (k : Int) + now + 1))
  | 25 => .const (.slice AL allC.length cL)
  | 26 => .const (.int .i64 allC.length)
  | 27 => .const (.int .i64 (k1 : Int))
  | 28 => .const (.pointer (some ⟨bL, oL + k1 * 4, none⟩))
  | 29 => .const (x1.val)
  | 30 => .const (.slice AL allC.length cL)
  | 31 => .const (.int .i64 k)
  | 32 => .const (.int .i64 (5 * (k : Int)))
  | 33 => .const (.int .i64 (5 * (k : Int) + 3))
  | 34 => .const (.slice AL allC.length cL)
  | 35 => .const (.int .i64 allC.length)
  | 36 => .const (.int .i64 (k2 : Int))
  | 37 => .const (.pointer (some ⟨bL, oL + k2 * 4, none⟩))
  | 38 => .const (x2.val)
  | 39 => .rows 3 4 ([x0, x1, x2].map Chg.cells) 0
  | 40 => .const (.bool true)
  | 41 => .const (.bool false)
  | 42 => .const (.bool false)
  | 43 => .const (.bool false)
  | _ => .const undef

set_option maxRecDepth 100000 in
set_option maxHeartbeats 4000000 in
theorem region_small4 {id : Nat} {Q : Exit → Act → World → Prop} {a0 : Act} {w0 : World} (AL : Option Addr) (cL : Nat) (n : Nat) (calls now : Int) (k k1 k2 bL oL gx : Nat) (x0 x1 x2 : Chg)
    (hal : AL = some ⟨bL, oL, none⟩) (hn : n ≤ 4) (hk : k < 36) (hk1 : k1 < 36) (hk2 : k2 < 36) (hnow : -1 ≤ now ∧ now ≤ 7) (hcalls : calls = 4)
    (hx : ∀ x ∈ [x0, x1, x2], 0 ≤ x.kind ∧ x.kind ≤ 255)
    (e1 : Int.tmod (7 * (k : Int) + now + 1) 36 = (k1 : Int)) (e2 : Int.tmod (5 * (k : Int) + 3) 36 = (k2 : Int))
    (hlx : ∀ w', From w0 w' → (loadVar 37 ⟨gx, 0, none⟩).run Try.prog w' = .ok x0.val w')
    (hl1 : ∀ w', From w0 w' → (loadVar 37 ⟨bL, oL + k1 * 4, none⟩).run Try.prog w' = .ok x1.val w')
    (hl2 : ∀ w', From w0 w' → (loadVar 37 ⟨bL, oL + k2 * 4, none⟩).run Try.prog w' = .ok x2.val w')
    (s1 : a0.tmps[1]? = some (.slice AL allC.length cL)) (s4 : a0.tmps[4]? = some (.int .i64 n)) (s5 : a0.tmps[5]? = some (.int .i64 calls)) (s6 : a0.tmps[6]? = some (.int .i64 now)) (s7 : a0.tmps[7]? = some (.int .i64 k)) (s8 : a0.tmps[8]? = some (.pointer (some ⟨gx, 0, none⟩)))
    (hsz : a0.tmps.size = 160)
    (hK : ∀ (val : Nat → Value) (w : World), From w0 w → val 43 = .bool false → Q .normal ((((((((((((((((((((((((((((((((((((((((((((a0.put (some 55) (val 0)).put (some 56) (val 1)).put (some 57) (val 2)).put (some 58) (val 3)).put (some 59) (val 4)).put (some 60) (val 5)).put (some 61) (val 6)).put (some 62) (val 7)).put (some 63) (val 8)).put (some 64) (val 9)).put (some 65) (val 10)).put (some 66) (val 11)).put (some 67) (val 12)).put (some 68) (val 13)).put (some 69) (val 14)).put (some 70) (val 15)).put (some 71) (val 16)).put (some 72) (val 17)).put (some 73) (val 18)).put (some 74) (val 19)).put (some 75) (val 20)).put (some 76) (val 21)).put (some 77) (val 22)).put (some 78) (val 23)).put (some 79) (val 24)).put (some 80) (val 25)).put (some 81) (val 26)).put (some 82) (val 27)).put (some 83) (val 28)).put (some 84) (val 29)).put (some 85) (val 30)).put (some 86) (val 31)).put (some 87) (val 32)).put (some 88) (val 33)).put (some 89) (val 34)).put (some 90) (val 35)).put (some 91) (val 36)).put (some 92) (val 37)).put (some 93) (val 38)).put (some 94) (val 39)).put (some 95) (val 40)).put (some 96) (val 41)).put (some 97) (val 42)).put (some 98) (val 43)) w) :
    (Code.region id smallOps.toArray true).wp Try.prog Q a0 w0 := by
  have HLX := Lib.hid hlx
  have HL1 := Lib.hid hl1
  have HL2 := Lib.hid hl2
  have HKK : Hid (∀ x ∈ [x0, x1, x2], 0 ≤ x.kind ∧ x.kind ≤ 255) := hx
  have hlen : smallOps.length = 44 := by kernel_rfl
  have hall : (allC.length : Int) = 36 := by simp [allC]
  refine wp_region_spec 44 (smallS4 AL cL n calls now k k1 k2 bL oL x0 x1 x2) (by kernel_rfl) (by kernel_rfl) (by rw [hlen]; exact Nat.le_refl _) (by rw [hsz]; kernel_rfl) ?_ ?_
  · intro i o hi ho a w hb hpre hold
    have b1 := (hold 1 (by kernel_rfl)).trans s1
    have b4 := (hold 4 (by kernel_rfl)).trans s4
    have b5 := (hold 5 (by kernel_rfl)).trans s5
    have b6 := (hold 6 (by kernel_rfl)).trans s6
    have b7 := (hold 7 (by kernel_rfl)).trans s7
    have b8 := (hold 8 (by kernel_rfl)).trans s8
    have ho2 : smallOps.toArray[i]? = some o := by simpa using ho
    clear hlx hl1 hl2 hx s1 s4 s5 s6 s7 s8 hold hK
    match i, hi, ho, ho2 with
    | 0, _, ho, ho2 =>
      injection ho with ho
      subst ho
      refine wpOp_callW ho2 (wanted_none rfl _) rfl (args := #[]) (by simp) (example_cf _ _) ((law_example w).mono ?_)
      rintro e w2 ⟨A, c, rfl, hown, hb2⟩
      exact ⟨_, rfl, _, rfl, hb2, A, c, rfl, by simpa [exL] using hown.cap.1, hown.rd⟩
    | 1, _, ho, ho2 =>
      injection ho with ho
      subst ho
      exact wpOp_valueW (v := .int .i64 n) ho2 (wanted_none rfl _) (by simp [execOp, eval_get b4, Result.andThen]) ⟨_, rfl, Below.refl _ _, rfl⟩
    | 2, _, ho, ho2 =>
      injection ho with ho
      subst ho
      obtain ⟨v0, s0, r0⟩ := hpre 0 _ 55 (by omega) rfl rfl (by kernel_rfl)
      obtain ⟨A0, c0, e0, m0, r0⟩ := r0
      subst e0
      obtain ⟨v1, s1, r1⟩ := hpre 1 _ 56 (by omega) rfl rfl (by kernel_rfl)
      replace r1 : v1 = .int .i64 n := r1
      subst r1
      have hcn : ¬ c0 < n := by omega
      refine wpOp_valueW (v := .slice A0 n c0) ho2 (wanted_none rfl _) ?_ ⟨_, rfl, Below.refl _ _, A0, c0, rfl, by omega, by rw [List.map_take]; exact r0.take n⟩
      unfold execOp
      simp only [eval_get s0, eval_get s1]
      go_simp
      try (intro h; omega)
    | 3, _, ho, ho2 =>
      injection ho with ho
      subst ho
      exact wpOp_valueW (v := .int .i64 calls) ho2 (wanted_none rfl _) (by simp [execOp, eval_get b5, Result.andThen]) ⟨_, rfl, Below.refl _ _, rfl⟩
    | 4, _, ho, ho2 =>
      injection ho with ho
      subst ho
      exact wpOp_valueW (v := .int .i64 now) ho2 (wanted_none rfl _) (by simp [execOp, eval_get b6, Result.andThen]) ⟨_, rfl, Below.refl _ _, rfl⟩
    | 5, _, ho, ho2 =>
      injection ho with ho
      subst ho
      exact wpOp_loadW ho2 (wanted_none rfl _) rfl (eval_get b8) (HLX.out w hb) ⟨_, rfl, Below.refl _ _, rfl⟩
    | 6, _, ho, ho2 =>
      injection ho with ho
      subst ho
      obtain ⟨v5, s5, r5⟩ := hpre 5 _ 60 (by omega) rfl rfl (by kernel_rfl)
      replace r5 : v5 = x0.val := r5
      subst r5
      refine wpOp_valueW (v := .slice (some ⟨w.heap.size, 0, none⟩) 1 1) (w' := w.alloc (.cells #[.int .u8 x0.kind, .int .i64 x0.call, .int .i64 x0.box, .int .i64 x0.kilos] 37)) ho2 (wanted_none rfl _) ?_ ⟨_, rfl, (Below.refl _ _).alloc (Nat.le_refl _) _, _, _, rfl, by omega, ?_⟩
      · unfold execOp
        simp only [eval_get s5]
        go_simp
      · exact Rd.rows (size := 4) (heap_alloc_new w _) rfl (Chg.lens [x0])
    | 7, _, ho, ho2 =>
      injection ho with ho
      subst ho
      obtain ⟨v2, s2, r2⟩ := hpre 2 _ 57 (by omega) rfl rfl (by kernel_rfl)
      obtain ⟨A2, c2, e2, m2, r2⟩ := r2
      subst e2
      obtain ⟨v3, s3, r3⟩ := hpre 3 _ 58 (by omega) rfl rfl (by kernel_rfl)
      replace r3 : v3 = .int .i64 calls := r3
      subst r3
      obtain ⟨v4, s4, r4⟩ := hpre 4 _ 59 (by omega) rfl rfl (by kernel_rfl)
      replace r4 : v4 = .int .i64 now := r4
      subst r4
      obtain ⟨v6, s6, r6⟩ := hpre 6 _ 61 (by omega) rfl rfl (by kernel_rfl)
      obtain ⟨A6, c6, e6, m6, r6⟩ := r6
      subst e6
      refine wpOp_callW ho2 (wanted_none rfl _) rfl (args := #[.slice A2 n c2, .int .i64 calls, .int .i64 now, .slice A6 [x0].length c6]) (by simp [eval_get s2, eval_get s3, eval_get s4, eval_get s6]) (tells_cf _ _) ((law_tells A2 A6 c2 c6 (exL.take n) [x0] n _ (by simp [exL]; omega) rfl calls now w r2 r6 (by simp [exL]; omega) (by simp) (fun b hb => exL_num b (List.mem_of_mem_take hb)) (fun x hx => HKK.out x (by simp only [List.mem_cons, List.not_mem_nil, or_false] at hx ⊢; first | exact hx | exact .inl hx))).mono ?_)
      rintro e w2 ⟨rfl, hb2⟩
      exact ⟨_, rfl, _, rfl, hb2, rfl⟩
    | 8, _, ho, ho2 =>
      injection ho with ho
      subst ho
      obtain ⟨v7, s7, r7⟩ := hpre 7 _ 62 (by omega) rfl rfl (by kernel_rfl)
      replace r7 : v7 = .bool true := r7
      subst r7
      refine wpOp_valueW (v := .bool false) ho2 (wanted_none rfl _) ?_ ⟨_, rfl, Below.refl _ _, rfl⟩
      unfold execOp
      simp only [eval_get s7]
      go_simp
    | 9, _, ho, ho2 =>
      injection ho with ho
      subst ho
      obtain ⟨v8, s8, r8⟩ := hpre 8 _ 63 (by omega) rfl rfl (by kernel_rfl)
      replace r8 : v8 = .bool false := r8
      subst r8
      refine wpOp_valueW (v := .bool false) ho2 (wanted_none rfl _) ?_ ⟨_, rfl, Below.refl _ _, rfl⟩
      unfold execOp
      simp only [eval_get s8]
      go_simp
    | 10, _, ho, ho2 =>
      injection ho with ho
      subst ho
      obtain ⟨v9, s9, r9⟩ := hpre 9 _ 64 (by omega) rfl rfl (by kernel_rfl)
      replace r9 : v9 = .bool false := r9
      subst r9
      exact wpOp_valueW (v := .int .i64 calls) ho2 (wanted_some rfl rfl rfl s9 rfl) (by simp [execOp, eval_get b5, Result.andThen]) ⟨_, rfl, Below.refl _ _, rfl⟩
    | 11, _, ho, ho2 =>
      injection ho with ho
      subst ho
      obtain ⟨v10, s10, r10⟩ := hpre 10 _ 65 (by omega) rfl rfl (by kernel_rfl)
      replace r10 : v10 = .int .i64 calls := r10
      subst r10
      obtain ⟨v9, s9, r9⟩ := hpre 9 _ 64 (by omega) rfl rfl (by kernel_rfl)
      replace r9 : v9 = .bool false := r9
      subst r9
      refine wpOp_valueW (v := .bool true) ho2 (wanted_some rfl rfl rfl s9 rfl) ?_ ⟨_, rfl, Below.refl _ _, rfl⟩
      unfold execOp
      simp only [eval_get s10]
      go_simp
    | 12, _, ho, ho2 =>
      injection ho with ho
      subst ho
      obtain ⟨v11, s11, r11⟩ := hpre 11 _ 66 (by omega) rfl rfl (by kernel_rfl)
      replace r11 : v11 = .bool true := r11
      subst r11
      obtain ⟨v9, s9, r9⟩ := hpre 9 _ 64 (by omega) rfl rfl (by kernel_rfl)
      replace r9 : v9 = .bool false := r9
      subst r9
      refine wpOp_valueW (v := .bool true) ho2 (wanted_some rfl rfl rfl s9 rfl) ?_ ⟨_, rfl, Below.refl _ _, rfl⟩
      unfold execOp
      simp only [eval_get s11]
      go_simp
    | 13, _, ho, ho2 =>
      injection ho with ho
      subst ho
      obtain ⟨v12, s12, r12⟩ := hpre 12 _ 67 (by omega) rfl rfl (by kernel_rfl)
      replace r12 : v12 = .bool true := r12
      subst r12
      refine wpOp_callW ho2 (wanted_some rfl rfl rfl s12 rfl) rfl (args := #[]) (by simp) (example_cf _ _) ((law_example w).mono ?_)
      rintro e w2 ⟨A, c, rfl, hown, hb2⟩
      exact ⟨_, rfl, _, rfl, hb2, A, c, rfl, by simpa [exL] using hown.cap.1, hown.rd⟩
    | 14, _, ho, ho2 =>
      injection ho with ho
      subst ho
      obtain ⟨v12, s12, r12⟩ := hpre 12 _ 67 (by omega) rfl rfl (by kernel_rfl)
      replace r12 : v12 = .bool true := r12
      subst r12
      exact wpOp_valueW (v := .int .i64 n) ho2 (wanted_some rfl rfl rfl s12 rfl) (by simp [execOp, eval_get b4, Result.andThen]) ⟨_, rfl, Below.refl _ _, rfl⟩
    | 15, _, ho, ho2 =>
      injection ho with ho
      subst ho
      obtain ⟨v13, s13, r13⟩ := hpre 13 _ 68 (by omega) rfl rfl (by kernel_rfl)
      obtain ⟨A13, c13, e13, m13, r13⟩ := r13
      subst e13
      obtain ⟨v14, s14, r14⟩ := hpre 14 _ 69 (by omega) rfl rfl (by kernel_rfl)
      replace r14 : v14 = .int .i64 n := r14
      subst r14
      obtain ⟨v12, s12, r12⟩ := hpre 12 _ 67 (by omega) rfl rfl (by kernel_rfl)
      replace r12 : v12 = .bool true := r12
      subst r12
      have hcn : ¬ c13 < n := by omega
      refine wpOp_valueW (v := .slice A13 n c13) ho2 (wanted_some rfl rfl rfl s12 rfl) ?_ ⟨_, rfl, Below.refl _ _, A13, c13, rfl, by omega, by rw [List.map_take]; exact r13.take n⟩
      unfold execOp
      simp only [eval_get s13, eval_get s14]
      go_simp
      try (intro h; omega)
    | 16, _, ho, ho2 =>
      injection ho with ho
      subst ho
      obtain ⟨v12, s12, r12⟩ := hpre 12 _ 67 (by omega) rfl rfl (by kernel_rfl)
      replace r12 : v12 = .bool true := r12
      subst r12
      exact wpOp_valueW (v := .int .i64 calls) ho2 (wanted_some rfl rfl rfl s12 rfl) (by simp [execOp, eval_get b5, Result.andThen]) ⟨_, rfl, Below.refl _ _, rfl⟩
    | 17, _, ho, ho2 =>
      injection ho with ho
      subst ho
      obtain ⟨v12, s12, r12⟩ := hpre 12 _ 67 (by omega) rfl rfl (by kernel_rfl)
      replace r12 : v12 = .bool true := r12
      subst r12
      exact wpOp_valueW (v := .int .i64 now) ho2 (wanted_some rfl rfl rfl s12 rfl) (by simp [execOp, eval_get b6, Result.andThen]) ⟨_, rfl, Below.refl _ _, rfl⟩
    | 18, _, ho, ho2 =>
      injection ho with ho
      subst ho
      obtain ⟨v12, s12, r12⟩ := hpre 12 _ 67 (by omega) rfl rfl (by kernel_rfl)
      replace r12 : v12 = .bool true := r12
      subst r12
      exact wpOp_loadW ho2 (wanted_some rfl rfl rfl s12 rfl) rfl (eval_get b8) (HLX.out w hb) ⟨_, rfl, Below.refl _ _, rfl⟩
    | 19, _, ho, ho2 =>
      injection ho with ho
      subst ho
      obtain ⟨v12, s12, r12⟩ := hpre 12 _ 67 (by omega) rfl rfl (by kernel_rfl)
      replace r12 : v12 = .bool true := r12
      subst r12
      exact wpOp_valueW (v := .slice AL allC.length cL) ho2 (wanted_some rfl rfl rfl s12 rfl) (by simp [execOp, eval_get b1, Result.andThen]) ⟨_, rfl, Below.refl _ _, rfl⟩
    | 20, _, ho, ho2 =>
      injection ho with ho
      subst ho
      obtain ⟨v12, s12, r12⟩ := hpre 12 _ 67 (by omega) rfl rfl (by kernel_rfl)
      replace r12 : v12 = .bool true := r12
      subst r12
      exact wpOp_valueW (v := .int .i64 k) ho2 (wanted_some rfl rfl rfl s12 rfl) (by simp [execOp, eval_get b7, Result.andThen]) ⟨_, rfl, Below.refl _ _, rfl⟩
    | 21, _, ho, ho2 =>
      injection ho with ho
      subst ho
      obtain ⟨v20, s20, r20⟩ := hpre 20 _ 75 (by omega) rfl rfl (by kernel_rfl)
      replace r20 : v20 = .int .i64 k := r20
      subst r20
      obtain ⟨v12, s12, r12⟩ := hpre 12 _ 67 (by omega) rfl rfl (by kernel_rfl)
      replace r12 : v12 = .bool true := r12
      subst r12
      refine wpOp_valueW (v := .int .i64 (7 * (k : Int))) ho2 (wanted_some rfl rfl rfl s12 rfl) ?_ ⟨_, rfl, Below.refl _ _, rfl⟩
      unfold execOp
      simp only [eval_get s20]
      go_simp
      exact wrap_i64 (by omega) (by omega)
    | 22, _, ho, ho2 =>
      injection ho with ho
      subst ho
      obtain ⟨v12, s12, r12⟩ := hpre 12 _ 67 (by omega) rfl rfl (by kernel_rfl)
      replace r12 : v12 = .bool true := r12
      subst r12
      exact wpOp_valueW (v := .int .i64 now) ho2 (wanted_some rfl rfl rfl s12 rfl) (by simp [execOp, eval_get b6, Result.andThen]) ⟨_, rfl, Below.refl _ _, rfl⟩
    | 23, _, ho, ho2 =>
      injection ho with ho
      subst ho
      obtain ⟨v21, s21, r21⟩ := hpre 21 _ 76 (by omega) rfl rfl (by kernel_rfl)
      replace r21 : v21 = .int .i64 (7 * (k : Int)) := r21
      subst r21
      obtain ⟨v22, s22, r22⟩ := hpre 22 _ 77 (by omega) rfl rfl (by kernel_rfl)
      replace r22 : v22 = .int .i64 now := r22
      subst r22
      obtain ⟨v12, s12, r12⟩ := hpre 12 _ 67 (by omega) rfl rfl (by kernel_rfl)
      replace r12 : v12 = .bool true := r12
      subst r12
      refine wpOp_valueW (v := .int .i64 (7 * (k : Int) + now)) ho2 (wanted_some rfl rfl rfl s12 rfl) ?_ ⟨_, rfl, Below.refl _ _, rfl⟩
      unfold execOp
      simp only [eval_get s21, eval_get s22]
      go_simp
      exact wrap_i64 (by omega) (by omega)
    | 24, _, ho, ho2 =>
      injection ho with ho
      subst ho
      obtain ⟨v23, s23, r23⟩ := hpre 23 _ 78 (by omega) rfl rfl (by kernel_rfl)
      replace r23 : v23 = .int .i64 (7 * (k : Int) + now) := r23
      subst r23
      obtain ⟨v12, s12, r12⟩ := hpre 12 _ 67 (by omega) rfl rfl (by kernel_rfl)
      replace r12 : v12 = .bool true := r12
      subst r12
      refine wpOp_valueW (v := .int .i64 (7 * (k : Int) + now + 1)) ho2 (wanted_some rfl rfl rfl s12 rfl) ?_ ⟨_, rfl, Below.refl _ _, rfl⟩
      unfold execOp
      simp only [eval_get s23]
      go_simp
      exact wrap_i64 (by omega) (by omega)
    | 25, _, ho, ho2 =>
      injection ho with ho
      subst ho
      obtain ⟨v12, s12, r12⟩ := hpre 12 _ 67 (by omega) rfl rfl (by kernel_rfl)
      replace r12 : v12 = .bool true := r12
      subst r12
      exact wpOp_valueW (v := .slice AL allC.length cL) ho2 (wanted_some rfl rfl rfl s12 rfl) (by simp [execOp, eval_get b1, Result.andThen]) ⟨_, rfl, Below.refl _ _, rfl⟩
    | 26, _, ho, ho2 =>
      injection ho with ho
      subst ho
      obtain ⟨v25, s25, r25⟩ := hpre 25 _ 80 (by omega) rfl rfl (by kernel_rfl)
      replace r25 : v25 = .slice AL allC.length cL := r25
      subst r25
      obtain ⟨v12, s12, r12⟩ := hpre 12 _ 67 (by omega) rfl rfl (by kernel_rfl)
      replace r12 : v12 = .bool true := r12
      subst r12
      refine wpOp_valueW (v := .int .i64 allC.length) ho2 (wanted_some rfl rfl rfl s12 rfl) ?_ ⟨_, rfl, Below.refl _ _, rfl⟩
      unfold execOp
      simp only [eval_get s25]
      go_simp
    | 27, _, ho, ho2 =>
      injection ho with ho
      subst ho
      obtain ⟨v24, s24, r24⟩ := hpre 24 _ 79 (by omega) rfl rfl (by kernel_rfl)
      replace r24 : v24 = .int .i64 (7 * (k : Int) + now + 1) := r24
      subst r24
      obtain ⟨v26, s26, r26⟩ := hpre 26 _ 81 (by omega) rfl rfl (by kernel_rfl)
      replace r26 : v26 = .int .i64 allC.length := r26
      subst r26
      obtain ⟨v12, s12, r12⟩ := hpre 12 _ 67 (by omega) rfl rfl (by kernel_rfl)
      replace r12 : v12 = .bool true := r12
      subst r12
      refine wpOp_valueW (v := .int .i64 (k1 : Int)) ho2 (wanted_some rfl rfl rfl s12 rfl) ?_ ⟨_, rfl, Below.refl _ _, rfl⟩
      unfold execOp
      simp only [eval_get s24, eval_get s26]
      go_simp
    | 28, _, ho, ho2 =>
      injection ho with ho
      subst ho
      obtain ⟨v19, s19, r19⟩ := hpre 19 _ 74 (by omega) rfl rfl (by kernel_rfl)
      replace r19 : v19 = .slice AL allC.length cL := r19
      subst r19
      obtain ⟨v27, s27, r27⟩ := hpre 27 _ 82 (by omega) rfl rfl (by kernel_rfl)
      replace r27 : v27 = .int .i64 (k1 : Int) := r27
      subst r27
      obtain ⟨v12, s12, r12⟩ := hpre 12 _ 67 (by omega) rfl rfl (by kernel_rfl)
      replace r12 : v12 = .bool true := r12
      subst r12
      refine wpOp_valueW (v := .pointer (some ⟨bL, oL + k1 * 4, none⟩)) ho2 (wanted_some rfl rfl rfl s12 rfl) ?_ ⟨_, rfl, Below.refl _ _, rfl⟩
      unfold execOp
      simp only [eval_get s19, eval_get s27, hal]
      go_simp
      intro h; omega
    | 29, _, ho, ho2 =>
      injection ho with ho
      subst ho
      obtain ⟨v28, s28, r28⟩ := hpre 28 _ 83 (by omega) rfl rfl (by kernel_rfl)
      replace r28 : v28 = .pointer (some ⟨bL, oL + k1 * 4, none⟩) := r28
      subst r28
      obtain ⟨v12, s12, r12⟩ := hpre 12 _ 67 (by omega) rfl rfl (by kernel_rfl)
      replace r12 : v12 = .bool true := r12
      subst r12
      exact wpOp_loadW ho2 (wanted_some rfl rfl rfl s12 rfl) rfl (eval_get s28) (HL1.out w hb) ⟨_, rfl, Below.refl _ _, rfl⟩
    | 30, _, ho, ho2 =>
      injection ho with ho
      subst ho
      obtain ⟨v12, s12, r12⟩ := hpre 12 _ 67 (by omega) rfl rfl (by kernel_rfl)
      replace r12 : v12 = .bool true := r12
      subst r12
      exact wpOp_valueW (v := .slice AL allC.length cL) ho2 (wanted_some rfl rfl rfl s12 rfl) (by simp [execOp, eval_get b1, Result.andThen]) ⟨_, rfl, Below.refl _ _, rfl⟩
    | 31, _, ho, ho2 =>
      injection ho with ho
      subst ho
      obtain ⟨v12, s12, r12⟩ := hpre 12 _ 67 (by omega) rfl rfl (by kernel_rfl)
      replace r12 : v12 = .bool true := r12
      subst r12
      exact wpOp_valueW (v := .int .i64 k) ho2 (wanted_some rfl rfl rfl s12 rfl) (by simp [execOp, eval_get b7, Result.andThen]) ⟨_, rfl, Below.refl _ _, rfl⟩
    | 32, _, ho, ho2 =>
      injection ho with ho
      subst ho
      obtain ⟨v31, s31, r31⟩ := hpre 31 _ 86 (by omega) rfl rfl (by kernel_rfl)
      replace r31 : v31 = .int .i64 k := r31
      subst r31
      obtain ⟨v12, s12, r12⟩ := hpre 12 _ 67 (by omega) rfl rfl (by kernel_rfl)
      replace r12 : v12 = .bool true := r12
      subst r12
      refine wpOp_valueW (v := .int .i64 (5 * (k : Int))) ho2 (wanted_some rfl rfl rfl s12 rfl) ?_ ⟨_, rfl, Below.refl _ _, rfl⟩
      unfold execOp
      simp only [eval_get s31]
      go_simp
      exact wrap_i64 (by omega) (by omega)
    | 33, _, ho, ho2 =>
      injection ho with ho
      subst ho
      obtain ⟨v32, s32, r32⟩ := hpre 32 _ 87 (by omega) rfl rfl (by kernel_rfl)
      replace r32 : v32 = .int .i64 (5 * (k : Int)) := r32
      subst r32
      obtain ⟨v12, s12, r12⟩ := hpre 12 _ 67 (by omega) rfl rfl (by kernel_rfl)
      replace r12 : v12 = .bool true := r12
      subst r12
      refine wpOp_valueW (v := .int .i64 (5 * (k : Int) + 3)) ho2 (wanted_some rfl rfl rfl s12 rfl) ?_ ⟨_, rfl, Below.refl _ _, rfl⟩
      unfold execOp
      simp only [eval_get s32]
      go_simp
      exact wrap_i64 (by omega) (by omega)
    | 34, _, ho, ho2 =>
      injection ho with ho
      subst ho
      obtain ⟨v12, s12, r12⟩ := hpre 12 _ 67 (by omega) rfl rfl (by kernel_rfl)
      replace r12 : v12 = .bool true := r12
      subst r12
      exact wpOp_valueW (v := .slice AL allC.length cL) ho2 (wanted_some rfl rfl rfl s12 rfl) (by simp [execOp, eval_get b1, Result.andThen]) ⟨_, rfl, Below.refl _ _, rfl⟩
    | 35, _, ho, ho2 =>
      injection ho with ho
      subst ho
      obtain ⟨v34, s34, r34⟩ := hpre 34 _ 89 (by omega) rfl rfl (by kernel_rfl)
      replace r34 : v34 = .slice AL allC.length cL := r34
      subst r34
      obtain ⟨v12, s12, r12⟩ := hpre 12 _ 67 (by omega) rfl rfl (by kernel_rfl)
      replace r12 : v12 = .bool true := r12
      subst r12
      refine wpOp_valueW (v := .int .i64 allC.length) ho2 (wanted_some rfl rfl rfl s12 rfl) ?_ ⟨_, rfl, Below.refl _ _, rfl⟩
      unfold execOp
      simp only [eval_get s34]
      go_simp
    | 36, _, ho, ho2 =>
      injection ho with ho
      subst ho
      obtain ⟨v33, s33, r33⟩ := hpre 33 _ 88 (by omega) rfl rfl (by kernel_rfl)
      replace r33 : v33 = .int .i64 (5 * (k : Int) + 3) := r33
      subst r33
      obtain ⟨v35, s35, r35⟩ := hpre 35 _ 90 (by omega) rfl rfl (by kernel_rfl)
      replace r35 : v35 = .int .i64 allC.length := r35
      subst r35
      obtain ⟨v12, s12, r12⟩ := hpre 12 _ 67 (by omega) rfl rfl (by kernel_rfl)
      replace r12 : v12 = .bool true := r12
      subst r12
      refine wpOp_valueW (v := .int .i64 (k2 : Int)) ho2 (wanted_some rfl rfl rfl s12 rfl) ?_ ⟨_, rfl, Below.refl _ _, rfl⟩
      unfold execOp
      simp only [eval_get s33, eval_get s35]
      go_simp
    | 37, _, ho, ho2 =>
      injection ho with ho
      subst ho
      obtain ⟨v30, s30, r30⟩ := hpre 30 _ 85 (by omega) rfl rfl (by kernel_rfl)
      replace r30 : v30 = .slice AL allC.length cL := r30
      subst r30
      obtain ⟨v36, s36, r36⟩ := hpre 36 _ 91 (by omega) rfl rfl (by kernel_rfl)
      replace r36 : v36 = .int .i64 (k2 : Int) := r36
      subst r36
      obtain ⟨v12, s12, r12⟩ := hpre 12 _ 67 (by omega) rfl rfl (by kernel_rfl)
      replace r12 : v12 = .bool true := r12
      subst r12
      refine wpOp_valueW (v := .pointer (some ⟨bL, oL + k2 * 4, none⟩)) ho2 (wanted_some rfl rfl rfl s12 rfl) ?_ ⟨_, rfl, Below.refl _ _, rfl⟩
      unfold execOp
      simp only [eval_get s30, eval_get s36, hal]
      go_simp
      intro h; omega
    | 38, _, ho, ho2 =>
      injection ho with ho
      subst ho
      obtain ⟨v37, s37, r37⟩ := hpre 37 _ 92 (by omega) rfl rfl (by kernel_rfl)
      replace r37 : v37 = .pointer (some ⟨bL, oL + k2 * 4, none⟩) := r37
      subst r37
      obtain ⟨v12, s12, r12⟩ := hpre 12 _ 67 (by omega) rfl rfl (by kernel_rfl)
      replace r12 : v12 = .bool true := r12
      subst r12
      exact wpOp_loadW ho2 (wanted_some rfl rfl rfl s12 rfl) rfl (eval_get s37) (HL2.out w hb) ⟨_, rfl, Below.refl _ _, rfl⟩
    | 39, _, ho, ho2 =>
      injection ho with ho
      subst ho
      obtain ⟨v18, s18, r18⟩ := hpre 18 _ 73 (by omega) rfl rfl (by kernel_rfl)
      replace r18 : v18 = x0.val := r18
      subst r18
      obtain ⟨v29, s29, r29⟩ := hpre 29 _ 84 (by omega) rfl rfl (by kernel_rfl)
      replace r29 : v29 = x1.val := r29
      subst r29
      obtain ⟨v38, s38, r38⟩ := hpre 38 _ 93 (by omega) rfl rfl (by kernel_rfl)
      replace r38 : v38 = x2.val := r38
      subst r38
      obtain ⟨v12, s12, r12⟩ := hpre 12 _ 67 (by omega) rfl rfl (by kernel_rfl)
      replace r12 : v12 = .bool true := r12
      subst r12
      refine wpOp_valueW (v := .slice (some ⟨w.heap.size, 0, none⟩) 3 3) (w' := w.alloc (.cells #[.int .u8 x0.kind, .int .i64 x0.call, .int .i64 x0.box, .int .i64 x0.kilos, .int .u8 x1.kind, .int .i64 x1.call, .int .i64 x1.box, .int .i64 x1.kilos, .int .u8 x2.kind, .int .i64 x2.call, .int .i64 x2.box, .int .i64 x2.kilos] 37)) ho2 (wanted_some rfl rfl rfl s12 rfl) ?_ ⟨_, rfl, (Below.refl _ _).alloc (Nat.le_refl _) _, _, _, rfl, by omega, ?_⟩
      · unfold execOp
        simp only [eval_get s18, eval_get s29, eval_get s38]
        go_simp
      · exact Rd.rows (size := 4) (heap_alloc_new w _) rfl (Chg.lens [x0, x1, x2])
    | 40, _, ho, ho2 =>
      injection ho with ho
      subst ho
      obtain ⟨v15, s15, r15⟩ := hpre 15 _ 70 (by omega) rfl rfl (by kernel_rfl)
      obtain ⟨A15, c15, e15, m15, r15⟩ := r15
      subst e15
      obtain ⟨v16, s16, r16⟩ := hpre 16 _ 71 (by omega) rfl rfl (by kernel_rfl)
      replace r16 : v16 = .int .i64 calls := r16
      subst r16
      obtain ⟨v17, s17, r17⟩ := hpre 17 _ 72 (by omega) rfl rfl (by kernel_rfl)
      replace r17 : v17 = .int .i64 now := r17
      subst r17
      obtain ⟨v39, s39, r39⟩ := hpre 39 _ 94 (by omega) rfl rfl (by kernel_rfl)
      obtain ⟨A39, c39, e39, m39, r39⟩ := r39
      subst e39
      obtain ⟨v12, s12, r12⟩ := hpre 12 _ 67 (by omega) rfl rfl (by kernel_rfl)
      replace r12 : v12 = .bool true := r12
      subst r12
      refine wpOp_callW ho2 (wanted_some rfl rfl rfl s12 rfl) rfl (args := #[.slice A15 n c15, .int .i64 calls, .int .i64 now, .slice A39 [x0, x1, x2].length c39]) (by simp [eval_get s15, eval_get s16, eval_get s17, eval_get s39]) (tells_cf _ _) ((law_tells A15 A39 c15 c39 (exL.take n) [x0, x1, x2] n _ (by simp [exL]; omega) rfl calls now w r15 r39 (by simp [exL]; omega) (by simp) (fun b hb => exL_num b (List.mem_of_mem_take hb)) (fun x hx => HKK.out x (by simp only [List.mem_cons, List.not_mem_nil, or_false] at hx ⊢; first | exact hx | exact .inl hx))).mono ?_)
      rintro e w2 ⟨rfl, hb2⟩
      exact ⟨_, rfl, _, rfl, hb2, rfl⟩
    | 41, _, ho, ho2 =>
      injection ho with ho
      subst ho
      obtain ⟨v40, s40, r40⟩ := hpre 40 _ 95 (by omega) rfl rfl (by kernel_rfl)
      replace r40 : v40 = .bool true := r40
      subst r40
      obtain ⟨v12, s12, r12⟩ := hpre 12 _ 67 (by omega) rfl rfl (by kernel_rfl)
      replace r12 : v12 = .bool true := r12
      subst r12
      refine wpOp_valueW (v := .bool false) ho2 (wanted_some rfl rfl rfl s12 rfl) ?_ ⟨_, rfl, Below.refl _ _, rfl⟩
      unfold execOp
      simp only [eval_get s40]
      go_simp
    | 42, _, ho, ho2 =>
      injection ho with ho
      subst ho
      obtain ⟨v12, s12, r12⟩ := hpre 12 _ 67 (by omega) rfl rfl (by kernel_rfl)
      replace r12 : v12 = .bool true := r12
      subst r12
      obtain ⟨v41, s41, r41⟩ := hpre 41 _ 96 (by omega) rfl rfl (by kernel_rfl)
      replace r41 : v41 = .bool false := r41
      subst r41
      obtain ⟨v9, s9, r9⟩ := hpre 9 _ 64 (by omega) rfl rfl (by kernel_rfl)
      replace r9 : v9 = .bool false := r9
      subst r9
      refine wpOp_valueW (v := .bool false) ho2 (wanted_some rfl rfl rfl s9 rfl) ?_ ⟨_, rfl, Below.refl _ _, rfl⟩
      unfold execOp
      simp only [eval_get s12, eval_get s41]
      go_simp
    | 43, _, ho, ho2 =>
      injection ho with ho
      subst ho
      obtain ⟨v9, s9, r9⟩ := hpre 9 _ 64 (by omega) rfl rfl (by kernel_rfl)
      replace r9 : v9 = .bool false := r9
      subst r9
      obtain ⟨v42, s42, r42⟩ := hpre 42 _ 97 (by omega) rfl rfl (by kernel_rfl)
      replace r42 : v42 = .bool false := r42
      subst r42
      refine wpOp_valueW (v := .bool false) ho2 (wanted_none rfl _) ?_ ⟨_, rfl, Below.refl _ _, rfl⟩
      unfold execOp
      simp only [eval_get s9, eval_get s42]
      go_simp
    | j + 44, hi, _, _ => omega
  · intro val w hb hv
    refine hK val w hb (hv 43 (by omega))
def smallS (AL : Option Addr) (cL : Nat) (n : Nat) (calls now : Int) (k k1 k2 bL oL : Nat) (x0 x1 x2 : Chg) : Nat → SpecV := fun i =>
  match i with
  | 0 => .rows 4 9 (exL.map Box.cells) 4
  | 1 => .const (.int .i64 n)
  | 2 => .rows n 9 ((exL.take n).map Box.cells) 0
  | 3 => .const (.int .i64 calls)
  | 4 => .const (.int .i64 now)
  | 5 => .const (x0.val)
  | 6 => .rows 1 4 ([x0].map Chg.cells) 0
  | 7 => .const (.bool true)
  | 8 => .const (.bool false)
  | 9 => .const (.bool false)
  | 10 => .const (.int .i64 calls)
  | 11 => .const (.bool false)
  | 12 => .const (.bool false)
  | 13 => .const undef
  | 14 => .const undef
  | 15 => .const undef
  | 16 => .const undef
  | 17 => .const undef
  | 18 => .const undef
  | 19 => .const undef
  | 20 => .const undef
  | 21 => .const undef
  | 22 => .const undef
  | 23 => .const undef
  | 24 => .const undef
  | 25 => .const undef
  | 26 => .const undef
  | 27 => .const undef
  | 28 => .const undef
  | 29 => .const undef
  | 30 => .const undef
  | 31 => .const undef
  | 32 => .const undef
  | 33 => .const undef
  | 34 => .const undef
  | 35 => .const undef
  | 36 => .const undef
  | 37 => .const undef
  | 38 => .const undef
  | 39 => .const undef
  | 40 => .const undef
  | 41 => .const undef
  | 42 => .const (.bool false)
  | 43 => .const (.bool false)
  | _ => .const undef

set_option maxRecDepth 100000 in
set_option maxHeartbeats 4000000 in
theorem region_small {id : Nat} {Q : Exit → Act → World → Prop} {a0 : Act} {w0 : World} (AL : Option Addr) (cL : Nat) (n : Nat) (calls now : Int) (k k1 k2 bL oL gx : Nat) (x0 x1 x2 : Chg)
    (hal : AL = some ⟨bL, oL, none⟩) (hn : n ≤ 4) (hk : k < 36) (hk1 : k1 < 36) (hk2 : k2 < 36) (hnow : -1 ≤ now ∧ now ≤ 7) (hcalls : (calls == 4) = false)
    (hx : ∀ x ∈ [x0, x1, x2], 0 ≤ x.kind ∧ x.kind ≤ 255)
    (e1 : Int.tmod (7 * (k : Int) + now + 1) 36 = (k1 : Int)) (e2 : Int.tmod (5 * (k : Int) + 3) 36 = (k2 : Int))
    (hlx : ∀ w', From w0 w' → (loadVar 37 ⟨gx, 0, none⟩).run Try.prog w' = .ok x0.val w')
    (hl1 : ∀ w', From w0 w' → (loadVar 37 ⟨bL, oL + k1 * 4, none⟩).run Try.prog w' = .ok x1.val w')
    (hl2 : ∀ w', From w0 w' → (loadVar 37 ⟨bL, oL + k2 * 4, none⟩).run Try.prog w' = .ok x2.val w')
    (s1 : a0.tmps[1]? = some (.slice AL allC.length cL)) (s4 : a0.tmps[4]? = some (.int .i64 n)) (s5 : a0.tmps[5]? = some (.int .i64 calls)) (s6 : a0.tmps[6]? = some (.int .i64 now)) (s7 : a0.tmps[7]? = some (.int .i64 k)) (s8 : a0.tmps[8]? = some (.pointer (some ⟨gx, 0, none⟩)))
    (hsz : a0.tmps.size = 160)
    (hK : ∀ (val : Nat → Value) (w : World), From w0 w → val 43 = .bool false → Q .normal ((((((((((((((((((((((((((((((((((((((((((((a0.put (some 55) (val 0)).put (some 56) (val 1)).put (some 57) (val 2)).put (some 58) (val 3)).put (some 59) (val 4)).put (some 60) (val 5)).put (some 61) (val 6)).put (some 62) (val 7)).put (some 63) (val 8)).put (some 64) (val 9)).put (some 65) (val 10)).put (some 66) (val 11)).put (some 67) (val 12)).put (some 68) (val 13)).put (some 69) (val 14)).put (some 70) (val 15)).put (some 71) (val 16)).put (some 72) (val 17)).put (some 73) (val 18)).put (some 74) (val 19)).put (some 75) (val 20)).put (some 76) (val 21)).put (some 77) (val 22)).put (some 78) (val 23)).put (some 79) (val 24)).put (some 80) (val 25)).put (some 81) (val 26)).put (some 82) (val 27)).put (some 83) (val 28)).put (some 84) (val 29)).put (some 85) (val 30)).put (some 86) (val 31)).put (some 87) (val 32)).put (some 88) (val 33)).put (some 89) (val 34)).put (some 90) (val 35)).put (some 91) (val 36)).put (some 92) (val 37)).put (some 93) (val 38)).put (some 94) (val 39)).put (some 95) (val 40)).put (some 96) (val 41)).put (some 97) (val 42)).put (some 98) (val 43)) w) :
    (Code.region id smallOps.toArray true).wp Try.prog Q a0 w0 := by
  have HLX := Lib.hid hlx
  have HL1 := Lib.hid hl1
  have HL2 := Lib.hid hl2
  have HKK : Hid (∀ x ∈ [x0, x1, x2], 0 ≤ x.kind ∧ x.kind ≤ 255) := hx
  have hlen : smallOps.length = 44 := by kernel_rfl
  have hall : (allC.length : Int) = 36 := by simp [allC]
  refine wp_region_spec 44 (smallS AL cL n calls now k k1 k2 bL oL x0 x1 x2) (by kernel_rfl) (by kernel_rfl) (by rw [hlen]; exact Nat.le_refl _) (by rw [hsz]; kernel_rfl) ?_ ?_
  · intro i o hi ho a w hb hpre hold
    have b1 := (hold 1 (by kernel_rfl)).trans s1
    have b4 := (hold 4 (by kernel_rfl)).trans s4
    have b5 := (hold 5 (by kernel_rfl)).trans s5
    have b6 := (hold 6 (by kernel_rfl)).trans s6
    have b7 := (hold 7 (by kernel_rfl)).trans s7
    have b8 := (hold 8 (by kernel_rfl)).trans s8
    have ho2 : smallOps.toArray[i]? = some o := by simpa using ho
    clear hlx hl1 hl2 hx s1 s4 s5 s6 s7 s8 hold hK
    match i, hi, ho, ho2 with
    | 0, _, ho, ho2 =>
      injection ho with ho
      subst ho
      refine wpOp_callW ho2 (wanted_none rfl _) rfl (args := #[]) (by simp) (example_cf _ _) ((law_example w).mono ?_)
      rintro e w2 ⟨A, c, rfl, hown, hb2⟩
      exact ⟨_, rfl, _, rfl, hb2, A, c, rfl, by simpa [exL] using hown.cap.1, hown.rd⟩
    | 1, _, ho, ho2 =>
      injection ho with ho
      subst ho
      exact wpOp_valueW (v := .int .i64 n) ho2 (wanted_none rfl _) (by simp [execOp, eval_get b4, Result.andThen]) ⟨_, rfl, Below.refl _ _, rfl⟩
    | 2, _, ho, ho2 =>
      injection ho with ho
      subst ho
      obtain ⟨v0, s0, r0⟩ := hpre 0 _ 55 (by omega) rfl rfl (by kernel_rfl)
      obtain ⟨A0, c0, e0, m0, r0⟩ := r0
      subst e0
      obtain ⟨v1, s1, r1⟩ := hpre 1 _ 56 (by omega) rfl rfl (by kernel_rfl)
      replace r1 : v1 = .int .i64 n := r1
      subst r1
      have hcn : ¬ c0 < n := by omega
      refine wpOp_valueW (v := .slice A0 n c0) ho2 (wanted_none rfl _) ?_ ⟨_, rfl, Below.refl _ _, A0, c0, rfl, by omega, by rw [List.map_take]; exact r0.take n⟩
      unfold execOp
      simp only [eval_get s0, eval_get s1]
      go_simp
      try (intro h; omega)
    | 3, _, ho, ho2 =>
      injection ho with ho
      subst ho
      exact wpOp_valueW (v := .int .i64 calls) ho2 (wanted_none rfl _) (by simp [execOp, eval_get b5, Result.andThen]) ⟨_, rfl, Below.refl _ _, rfl⟩
    | 4, _, ho, ho2 =>
      injection ho with ho
      subst ho
      exact wpOp_valueW (v := .int .i64 now) ho2 (wanted_none rfl _) (by simp [execOp, eval_get b6, Result.andThen]) ⟨_, rfl, Below.refl _ _, rfl⟩
    | 5, _, ho, ho2 =>
      injection ho with ho
      subst ho
      exact wpOp_loadW ho2 (wanted_none rfl _) rfl (eval_get b8) (HLX.out w hb) ⟨_, rfl, Below.refl _ _, rfl⟩
    | 6, _, ho, ho2 =>
      injection ho with ho
      subst ho
      obtain ⟨v5, s5, r5⟩ := hpre 5 _ 60 (by omega) rfl rfl (by kernel_rfl)
      replace r5 : v5 = x0.val := r5
      subst r5
      refine wpOp_valueW (v := .slice (some ⟨w.heap.size, 0, none⟩) 1 1) (w' := w.alloc (.cells #[.int .u8 x0.kind, .int .i64 x0.call, .int .i64 x0.box, .int .i64 x0.kilos] 37)) ho2 (wanted_none rfl _) ?_ ⟨_, rfl, (Below.refl _ _).alloc (Nat.le_refl _) _, _, _, rfl, by omega, ?_⟩
      · unfold execOp
        simp only [eval_get s5]
        go_simp
      · exact Rd.rows (size := 4) (heap_alloc_new w _) rfl (Chg.lens [x0])
    | 7, _, ho, ho2 =>
      injection ho with ho
      subst ho
      obtain ⟨v2, s2, r2⟩ := hpre 2 _ 57 (by omega) rfl rfl (by kernel_rfl)
      obtain ⟨A2, c2, e2, m2, r2⟩ := r2
      subst e2
      obtain ⟨v3, s3, r3⟩ := hpre 3 _ 58 (by omega) rfl rfl (by kernel_rfl)
      replace r3 : v3 = .int .i64 calls := r3
      subst r3
      obtain ⟨v4, s4, r4⟩ := hpre 4 _ 59 (by omega) rfl rfl (by kernel_rfl)
      replace r4 : v4 = .int .i64 now := r4
      subst r4
      obtain ⟨v6, s6, r6⟩ := hpre 6 _ 61 (by omega) rfl rfl (by kernel_rfl)
      obtain ⟨A6, c6, e6, m6, r6⟩ := r6
      subst e6
      refine wpOp_callW ho2 (wanted_none rfl _) rfl (args := #[.slice A2 n c2, .int .i64 calls, .int .i64 now, .slice A6 [x0].length c6]) (by simp [eval_get s2, eval_get s3, eval_get s4, eval_get s6]) (tells_cf _ _) ((law_tells A2 A6 c2 c6 (exL.take n) [x0] n _ (by simp [exL]; omega) rfl calls now w r2 r6 (by simp [exL]; omega) (by simp) (fun b hb => exL_num b (List.mem_of_mem_take hb)) (fun x hx => HKK.out x (by simp only [List.mem_cons, List.not_mem_nil, or_false] at hx ⊢; first | exact hx | exact .inl hx))).mono ?_)
      rintro e w2 ⟨rfl, hb2⟩
      exact ⟨_, rfl, _, rfl, hb2, rfl⟩
    | 8, _, ho, ho2 =>
      injection ho with ho
      subst ho
      obtain ⟨v7, s7, r7⟩ := hpre 7 _ 62 (by omega) rfl rfl (by kernel_rfl)
      replace r7 : v7 = .bool true := r7
      subst r7
      refine wpOp_valueW (v := .bool false) ho2 (wanted_none rfl _) ?_ ⟨_, rfl, Below.refl _ _, rfl⟩
      unfold execOp
      simp only [eval_get s7]
      go_simp
    | 9, _, ho, ho2 =>
      injection ho with ho
      subst ho
      obtain ⟨v8, s8, r8⟩ := hpre 8 _ 63 (by omega) rfl rfl (by kernel_rfl)
      replace r8 : v8 = .bool false := r8
      subst r8
      refine wpOp_valueW (v := .bool false) ho2 (wanted_none rfl _) ?_ ⟨_, rfl, Below.refl _ _, rfl⟩
      unfold execOp
      simp only [eval_get s8]
      go_simp
    | 10, _, ho, ho2 =>
      injection ho with ho
      subst ho
      obtain ⟨v9, s9, r9⟩ := hpre 9 _ 64 (by omega) rfl rfl (by kernel_rfl)
      replace r9 : v9 = .bool false := r9
      subst r9
      exact wpOp_valueW (v := .int .i64 calls) ho2 (wanted_some rfl rfl rfl s9 rfl) (by simp [execOp, eval_get b5, Result.andThen]) ⟨_, rfl, Below.refl _ _, rfl⟩
    | 11, _, ho, ho2 =>
      injection ho with ho
      subst ho
      obtain ⟨v10, s10, r10⟩ := hpre 10 _ 65 (by omega) rfl rfl (by kernel_rfl)
      replace r10 : v10 = .int .i64 calls := r10
      subst r10
      obtain ⟨v9, s9, r9⟩ := hpre 9 _ 64 (by omega) rfl rfl (by kernel_rfl)
      replace r9 : v9 = .bool false := r9
      subst r9
      refine wpOp_valueW (v := .bool false) ho2 (wanted_some rfl rfl rfl s9 rfl) ?_ ⟨_, rfl, Below.refl _ _, rfl⟩
      unfold execOp
      simp only [eval_get s10]
      go_simp
    | 12, _, ho, ho2 =>
      injection ho with ho
      subst ho
      obtain ⟨v11, s11, r11⟩ := hpre 11 _ 66 (by omega) rfl rfl (by kernel_rfl)
      replace r11 : v11 = .bool false := r11
      subst r11
      obtain ⟨v9, s9, r9⟩ := hpre 9 _ 64 (by omega) rfl rfl (by kernel_rfl)
      replace r9 : v9 = .bool false := r9
      subst r9
      refine wpOp_valueW (v := .bool false) ho2 (wanted_some rfl rfl rfl s9 rfl) ?_ ⟨_, rfl, Below.refl _ _, rfl⟩
      unfold execOp
      simp only [eval_get s11]
      go_simp
    | 13, _, ho, ho2 =>
      injection ho with ho
      subst ho
      obtain ⟨v12, s12, r12⟩ := hpre 12 _ 67 (by omega) rfl rfl (by kernel_rfl)
      replace r12 : v12 = .bool false := r12
      subst r12
      exact wpOp_not ho2 (wanted_some rfl rfl rfl s12 rfl) ⟨_, rfl, Below.refl _ _, rfl⟩
    | 14, _, ho, ho2 =>
      injection ho with ho
      subst ho
      obtain ⟨v12, s12, r12⟩ := hpre 12 _ 67 (by omega) rfl rfl (by kernel_rfl)
      replace r12 : v12 = .bool false := r12
      subst r12
      exact wpOp_not ho2 (wanted_some rfl rfl rfl s12 rfl) ⟨_, rfl, Below.refl _ _, rfl⟩
    | 15, _, ho, ho2 =>
      injection ho with ho
      subst ho
      obtain ⟨v13, s13, r13⟩ := hpre 13 _ 68 (by omega) rfl rfl (by kernel_rfl)
      replace r13 : v13 = undef := r13
      subst r13
      obtain ⟨v14, s14, r14⟩ := hpre 14 _ 69 (by omega) rfl rfl (by kernel_rfl)
      replace r14 : v14 = undef := r14
      subst r14
      obtain ⟨v12, s12, r12⟩ := hpre 12 _ 67 (by omega) rfl rfl (by kernel_rfl)
      replace r12 : v12 = .bool false := r12
      subst r12
      exact wpOp_not ho2 (wanted_some rfl rfl rfl s12 rfl) ⟨_, rfl, Below.refl _ _, rfl⟩
    | 16, _, ho, ho2 =>
      injection ho with ho
      subst ho
      obtain ⟨v12, s12, r12⟩ := hpre 12 _ 67 (by omega) rfl rfl (by kernel_rfl)
      replace r12 : v12 = .bool false := r12
      subst r12
      exact wpOp_not ho2 (wanted_some rfl rfl rfl s12 rfl) ⟨_, rfl, Below.refl _ _, rfl⟩
    | 17, _, ho, ho2 =>
      injection ho with ho
      subst ho
      obtain ⟨v12, s12, r12⟩ := hpre 12 _ 67 (by omega) rfl rfl (by kernel_rfl)
      replace r12 : v12 = .bool false := r12
      subst r12
      exact wpOp_not ho2 (wanted_some rfl rfl rfl s12 rfl) ⟨_, rfl, Below.refl _ _, rfl⟩
    | 18, _, ho, ho2 =>
      injection ho with ho
      subst ho
      obtain ⟨v12, s12, r12⟩ := hpre 12 _ 67 (by omega) rfl rfl (by kernel_rfl)
      replace r12 : v12 = .bool false := r12
      subst r12
      exact wpOp_not ho2 (wanted_some rfl rfl rfl s12 rfl) ⟨_, rfl, Below.refl _ _, rfl⟩
    | 19, _, ho, ho2 =>
      injection ho with ho
      subst ho
      obtain ⟨v12, s12, r12⟩ := hpre 12 _ 67 (by omega) rfl rfl (by kernel_rfl)
      replace r12 : v12 = .bool false := r12
      subst r12
      exact wpOp_not ho2 (wanted_some rfl rfl rfl s12 rfl) ⟨_, rfl, Below.refl _ _, rfl⟩
    | 20, _, ho, ho2 =>
      injection ho with ho
      subst ho
      obtain ⟨v12, s12, r12⟩ := hpre 12 _ 67 (by omega) rfl rfl (by kernel_rfl)
      replace r12 : v12 = .bool false := r12
      subst r12
      exact wpOp_not ho2 (wanted_some rfl rfl rfl s12 rfl) ⟨_, rfl, Below.refl _ _, rfl⟩
    | 21, _, ho, ho2 =>
      injection ho with ho
      subst ho
      obtain ⟨v20, s20, r20⟩ := hpre 20 _ 75 (by omega) rfl rfl (by kernel_rfl)
      replace r20 : v20 = undef := r20
      subst r20
      obtain ⟨v12, s12, r12⟩ := hpre 12 _ 67 (by omega) rfl rfl (by kernel_rfl)
      replace r12 : v12 = .bool false := r12
      subst r12
      exact wpOp_not ho2 (wanted_some rfl rfl rfl s12 rfl) ⟨_, rfl, Below.refl _ _, rfl⟩
    | 22, _, ho, ho2 =>
      injection ho with ho
      subst ho
      obtain ⟨v12, s12, r12⟩ := hpre 12 _ 67 (by omega) rfl rfl (by kernel_rfl)
      replace r12 : v12 = .bool false := r12
      subst r12
      exact wpOp_not ho2 (wanted_some rfl rfl rfl s12 rfl) ⟨_, rfl, Below.refl _ _, rfl⟩
    | 23, _, ho, ho2 =>
      injection ho with ho
      subst ho
      obtain ⟨v21, s21, r21⟩ := hpre 21 _ 76 (by omega) rfl rfl (by kernel_rfl)
      replace r21 : v21 = undef := r21
      subst r21
      obtain ⟨v22, s22, r22⟩ := hpre 22 _ 77 (by omega) rfl rfl (by kernel_rfl)
      replace r22 : v22 = undef := r22
      subst r22
      obtain ⟨v12, s12, r12⟩ := hpre 12 _ 67 (by omega) rfl rfl (by kernel_rfl)
      replace r12 : v12 = .bool false := r12
      subst r12
      exact wpOp_not ho2 (wanted_some rfl rfl rfl s12 rfl) ⟨_, rfl, Below.refl _ _, rfl⟩
    | 24, _, ho, ho2 =>
      injection ho with ho
      subst ho
      obtain ⟨v23, s23, r23⟩ := hpre 23 _ 78 (by omega) rfl rfl (by kernel_rfl)
      replace r23 : v23 = undef := r23
      subst r23
      obtain ⟨v12, s12, r12⟩ := hpre 12 _ 67 (by omega) rfl rfl (by kernel_rfl)
      replace r12 : v12 = .bool false := r12
      subst r12
      exact wpOp_not ho2 (wanted_some rfl rfl rfl s12 rfl) ⟨_, rfl, Below.refl _ _, rfl⟩
    | 25, _, ho, ho2 =>
      injection ho with ho
      subst ho
      obtain ⟨v12, s12, r12⟩ := hpre 12 _ 67 (by omega) rfl rfl (by kernel_rfl)
      replace r12 : v12 = .bool false := r12
      subst r12
      exact wpOp_not ho2 (wanted_some rfl rfl rfl s12 rfl) ⟨_, rfl, Below.refl _ _, rfl⟩
    | 26, _, ho, ho2 =>
      injection ho with ho
      subst ho
      obtain ⟨v25, s25, r25⟩ := hpre 25 _ 80 (by omega) rfl rfl (by kernel_rfl)
      replace r25 : v25 = undef := r25
      subst r25
      obtain ⟨v12, s12, r12⟩ := hpre 12 _ 67 (by omega) rfl rfl (by kernel_rfl)
      replace r12 : v12 = .bool false := r12
      subst r12
      exact wpOp_not ho2 (wanted_some rfl rfl rfl s12 rfl) ⟨_, rfl, Below.refl _ _, rfl⟩
    | 27, _, ho, ho2 =>
      injection ho with ho
      subst ho
      obtain ⟨v24, s24, r24⟩ := hpre 24 _ 79 (by omega) rfl rfl (by kernel_rfl)
      replace r24 : v24 = undef := r24
      subst r24
      obtain ⟨v26, s26, r26⟩ := hpre 26 _ 81 (by omega) rfl rfl (by kernel_rfl)
      replace r26 : v26 = undef := r26
      subst r26
      obtain ⟨v12, s12, r12⟩ := hpre 12 _ 67 (by omega) rfl rfl (by kernel_rfl)
      replace r12 : v12 = .bool false := r12
      subst r12
      exact wpOp_not ho2 (wanted_some rfl rfl rfl s12 rfl) ⟨_, rfl, Below.refl _ _, rfl⟩
    | 28, _, ho, ho2 =>
      injection ho with ho
      subst ho
      obtain ⟨v19, s19, r19⟩ := hpre 19 _ 74 (by omega) rfl rfl (by kernel_rfl)
      replace r19 : v19 = undef := r19
      subst r19
      obtain ⟨v27, s27, r27⟩ := hpre 27 _ 82 (by omega) rfl rfl (by kernel_rfl)
      replace r27 : v27 = undef := r27
      subst r27
      obtain ⟨v12, s12, r12⟩ := hpre 12 _ 67 (by omega) rfl rfl (by kernel_rfl)
      replace r12 : v12 = .bool false := r12
      subst r12
      exact wpOp_not ho2 (wanted_some rfl rfl rfl s12 rfl) ⟨_, rfl, Below.refl _ _, rfl⟩
    | 29, _, ho, ho2 =>
      injection ho with ho
      subst ho
      obtain ⟨v28, s28, r28⟩ := hpre 28 _ 83 (by omega) rfl rfl (by kernel_rfl)
      replace r28 : v28 = undef := r28
      subst r28
      obtain ⟨v12, s12, r12⟩ := hpre 12 _ 67 (by omega) rfl rfl (by kernel_rfl)
      replace r12 : v12 = .bool false := r12
      subst r12
      exact wpOp_not ho2 (wanted_some rfl rfl rfl s12 rfl) ⟨_, rfl, Below.refl _ _, rfl⟩
    | 30, _, ho, ho2 =>
      injection ho with ho
      subst ho
      obtain ⟨v12, s12, r12⟩ := hpre 12 _ 67 (by omega) rfl rfl (by kernel_rfl)
      replace r12 : v12 = .bool false := r12
      subst r12
      exact wpOp_not ho2 (wanted_some rfl rfl rfl s12 rfl) ⟨_, rfl, Below.refl _ _, rfl⟩
    | 31, _, ho, ho2 =>
      injection ho with ho
      subst ho
      obtain ⟨v12, s12, r12⟩ := hpre 12 _ 67 (by omega) rfl rfl (by kernel_rfl)
      replace r12 : v12 = .bool false := r12
      subst r12
      exact wpOp_not ho2 (wanted_some rfl rfl rfl s12 rfl) ⟨_, rfl, Below.refl _ _, rfl⟩
    | 32, _, ho, ho2 =>
      injection ho with ho
      subst ho
      obtain ⟨v31, s31, r31⟩ := hpre 31 _ 86 (by omega) rfl rfl (by kernel_rfl)
      replace r31 : v31 = undef := r31
      subst r31
      obtain ⟨v12, s12, r12⟩ := hpre 12 _ 67 (by omega) rfl rfl (by kernel_rfl)
      replace r12 : v12 = .bool false := r12
      subst r12
      exact wpOp_not ho2 (wanted_some rfl rfl rfl s12 rfl) ⟨_, rfl, Below.refl _ _, rfl⟩
    | 33, _, ho, ho2 =>
      injection ho with ho
      subst ho
      obtain ⟨v32, s32, r32⟩ := hpre 32 _ 87 (by omega) rfl rfl (by kernel_rfl)
      replace r32 : v32 = undef := r32
      subst r32
      obtain ⟨v12, s12, r12⟩ := hpre 12 _ 67 (by omega) rfl rfl (by kernel_rfl)
      replace r12 : v12 = .bool false := r12
      subst r12
      exact wpOp_not ho2 (wanted_some rfl rfl rfl s12 rfl) ⟨_, rfl, Below.refl _ _, rfl⟩
    | 34, _, ho, ho2 =>
      injection ho with ho
      subst ho
      obtain ⟨v12, s12, r12⟩ := hpre 12 _ 67 (by omega) rfl rfl (by kernel_rfl)
      replace r12 : v12 = .bool false := r12
      subst r12
      exact wpOp_not ho2 (wanted_some rfl rfl rfl s12 rfl) ⟨_, rfl, Below.refl _ _, rfl⟩
    | 35, _, ho, ho2 =>
      injection ho with ho
      subst ho
      obtain ⟨v34, s34, r34⟩ := hpre 34 _ 89 (by omega) rfl rfl (by kernel_rfl)
      replace r34 : v34 = undef := r34
      subst r34
      obtain ⟨v12, s12, r12⟩ := hpre 12 _ 67 (by omega) rfl rfl (by kernel_rfl)
      replace r12 : v12 = .bool false := r12
      subst r12
      exact wpOp_not ho2 (wanted_some rfl rfl rfl s12 rfl) ⟨_, rfl, Below.refl _ _, rfl⟩
    | 36, _, ho, ho2 =>
      injection ho with ho
      subst ho
      obtain ⟨v33, s33, r33⟩ := hpre 33 _ 88 (by omega) rfl rfl (by kernel_rfl)
      replace r33 : v33 = undef := r33
      subst r33
      obtain ⟨v35, s35, r35⟩ := hpre 35 _ 90 (by omega) rfl rfl (by kernel_rfl)
      replace r35 : v35 = undef := r35
      subst r35
      obtain ⟨v12, s12, r12⟩ := hpre 12 _ 67 (by omega) rfl rfl (by kernel_rfl)
      replace r12 : v12 = .bool false := r12
      subst r12
      exact wpOp_not ho2 (wanted_some rfl rfl rfl s12 rfl) ⟨_, rfl, Below.refl _ _, rfl⟩
    | 37, _, ho, ho2 =>
      injection ho with ho
      subst ho
      obtain ⟨v30, s30, r30⟩ := hpre 30 _ 85 (by omega) rfl rfl (by kernel_rfl)
      replace r30 : v30 = undef := r30
      subst r30
      obtain ⟨v36, s36, r36⟩ := hpre 36 _ 91 (by omega) rfl rfl (by kernel_rfl)
      replace r36 : v36 = undef := r36
      subst r36
      obtain ⟨v12, s12, r12⟩ := hpre 12 _ 67 (by omega) rfl rfl (by kernel_rfl)
      replace r12 : v12 = .bool false := r12
      subst r12
      exact wpOp_not ho2 (wanted_some rfl rfl rfl s12 rfl) ⟨_, rfl, Below.refl _ _, rfl⟩
    | 38, _, ho, ho2 =>
      injection ho with ho
      subst ho
      obtain ⟨v37, s37, r37⟩ := hpre 37 _ 92 (by omega) rfl rfl (by kernel_rfl)
      replace r37 : v37 = undef := r37
      subst r37
      obtain ⟨v12, s12, r12⟩ := hpre 12 _ 67 (by omega) rfl rfl (by kernel_rfl)
      replace r12 : v12 = .bool false := r12
      subst r12
      exact wpOp_not ho2 (wanted_some rfl rfl rfl s12 rfl) ⟨_, rfl, Below.refl _ _, rfl⟩
    | 39, _, ho, ho2 =>
      injection ho with ho
      subst ho
      obtain ⟨v18, s18, r18⟩ := hpre 18 _ 73 (by omega) rfl rfl (by kernel_rfl)
      replace r18 : v18 = undef := r18
      subst r18
      obtain ⟨v29, s29, r29⟩ := hpre 29 _ 84 (by omega) rfl rfl (by kernel_rfl)
      replace r29 : v29 = undef := r29
      subst r29
      obtain ⟨v38, s38, r38⟩ := hpre 38 _ 93 (by omega) rfl rfl (by kernel_rfl)
      replace r38 : v38 = undef := r38
      subst r38
      obtain ⟨v12, s12, r12⟩ := hpre 12 _ 67 (by omega) rfl rfl (by kernel_rfl)
      replace r12 : v12 = .bool false := r12
      subst r12
      exact wpOp_not ho2 (wanted_some rfl rfl rfl s12 rfl) ⟨_, rfl, Below.refl _ _, rfl⟩
    | 40, _, ho, ho2 =>
      injection ho with ho
      subst ho
      obtain ⟨v15, s15, r15⟩ := hpre 15 _ 70 (by omega) rfl rfl (by kernel_rfl)
      replace r15 : v15 = undef := r15
      subst r15
      obtain ⟨v16, s16, r16⟩ := hpre 16 _ 71 (by omega) rfl rfl (by kernel_rfl)
      replace r16 : v16 = undef := r16
      subst r16
      obtain ⟨v17, s17, r17⟩ := hpre 17 _ 72 (by omega) rfl rfl (by kernel_rfl)
      replace r17 : v17 = undef := r17
      subst r17
      obtain ⟨v39, s39, r39⟩ := hpre 39 _ 94 (by omega) rfl rfl (by kernel_rfl)
      replace r39 : v39 = undef := r39
      subst r39
      obtain ⟨v12, s12, r12⟩ := hpre 12 _ 67 (by omega) rfl rfl (by kernel_rfl)
      replace r12 : v12 = .bool false := r12
      subst r12
      exact wpOp_not ho2 (wanted_some rfl rfl rfl s12 rfl) ⟨_, rfl, Below.refl _ _, rfl⟩
    | 41, _, ho, ho2 =>
      injection ho with ho
      subst ho
      obtain ⟨v40, s40, r40⟩ := hpre 40 _ 95 (by omega) rfl rfl (by kernel_rfl)
      replace r40 : v40 = undef := r40
      subst r40
      obtain ⟨v12, s12, r12⟩ := hpre 12 _ 67 (by omega) rfl rfl (by kernel_rfl)
      replace r12 : v12 = .bool false := r12
      subst r12
      exact wpOp_not ho2 (wanted_some rfl rfl rfl s12 rfl) ⟨_, rfl, Below.refl _ _, rfl⟩
    | 42, _, ho, ho2 =>
      injection ho with ho
      subst ho
      obtain ⟨v12, s12, r12⟩ := hpre 12 _ 67 (by omega) rfl rfl (by kernel_rfl)
      replace r12 : v12 = .bool false := r12
      subst r12
      obtain ⟨v41, s41, r41⟩ := hpre 41 _ 96 (by omega) rfl rfl (by kernel_rfl)
      replace r41 : v41 = undef := r41
      subst r41
      obtain ⟨v9, s9, r9⟩ := hpre 9 _ 64 (by omega) rfl rfl (by kernel_rfl)
      replace r9 : v9 = .bool false := r9
      subst r9
      refine wpOp_valueW (v := .bool false) ho2 (wanted_some rfl rfl rfl s9 rfl) ?_ ⟨_, rfl, Below.refl _ _, rfl⟩
      unfold execOp
      simp only [eval_get s12, eval_get s41]
      go_simp
    | 43, _, ho, ho2 =>
      injection ho with ho
      subst ho
      obtain ⟨v9, s9, r9⟩ := hpre 9 _ 64 (by omega) rfl rfl (by kernel_rfl)
      replace r9 : v9 = .bool false := r9
      subst r9
      obtain ⟨v42, s42, r42⟩ := hpre 42 _ 97 (by omega) rfl rfl (by kernel_rfl)
      replace r42 : v42 = .bool false := r42
      subst r42
      refine wpOp_valueW (v := .bool false) ho2 (wanted_none rfl _) ?_ ⟨_, rfl, Below.refl _ _, rfl⟩
      unfold execOp
      simp only [eval_get s9, eval_get s42]
      go_simp
    | j + 44, hi, _, _ => omega
  · intro val w hb hv
    refine hK val w hb (hv 43 (by omega))
end Go.Proofs.Ytccjddbcdmgefaa
