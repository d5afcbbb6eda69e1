/-
  awake tells true.
-/
import Derived.Test.YtccjddbcdmgefaaLawC
namespace Go.Proofs.Ytccjddbcdmgefaa
open Go.RowKit

set_option maxRecDepth 100000 in
set_option maxHeartbeats 4000000 in
theorem law_awake (w : World) : Calls Try.prog 7 #[] w fun e w' => e = .returned (.bool true) ∧ Below w.heap.size w w' := by
  have H0 := Lib.hid (Below.refl w.heap.size w)
  go_enter Try.func7, Try.ntmps7
  go_wp2_with (first
    | (go_at_call 22; have HB := H0; refine Calls.mono (law_skip _ _) ?_; rintro e w2 ⟨rfl, hb2⟩; have H1 := Lib.hid (HB.out.trans (hb2.mono HB.out.size)); clear HB H0)
    | (go_at_call 21; have HB := H1; refine Calls.mono (gives_new [⟨1, 2, 0, 0⟩] [exBox 1 0 3, exBox 2 1 3, exBox 3 1 3] _ #[.int .u8 1, .int .i64 2, .int .i64 0, .int .i64 0] #[.int .i64 1, .int .i64 0, .int .i64 3, .int .i64 2, .int .i64 1, .int .i64 3, .int .i64 3, .int .i64 1, .int .i64 3] rfl rfl (by simp) (by simp) (by simp) _ _ rfl rfl ex_a) ?_; rintro e w2 ⟨rfl, hb2⟩; have H2 := Lib.hid (HB.out.trans (hb2.mono HB.out.size)); clear HB H1)
    | (go_at_call 22; have HB := H2; refine Calls.mono (law_skip _ _) ?_; rintro e w2 ⟨rfl, hb2⟩; have H3 := Lib.hid (HB.out.trans (hb2.mono HB.out.size)); clear HB H2)
    | (go_at_call 23; have HB := H3; refine Calls.mono (fails_new [⟨1, 3, 0, 0⟩] _ _ #[.int .u8 1, .int .i64 3, .int .i64 0, .int .i64 0] rfl (by simp) (by simp) _ rfl ex_b) ?_; rintro e w2 ⟨rfl, hb2⟩; have H4 := Lib.hid (HB.out.trans (hb2.mono HB.out.size)); clear HB H3)
    | (go_at_call 22; have HB := H4; refine Calls.mono (law_skip _ _) ?_; rintro e w2 ⟨rfl, hb2⟩; have H5 := Lib.hid (HB.out.trans (hb2.mono HB.out.size)); clear HB H4)
    | (go_at_call 23; have HB := H5; refine Calls.mono (fails_new [⟨1, 4, 0, 0⟩] _ _ #[.int .u8 1, .int .i64 4, .int .i64 0, .int .i64 0] rfl (by simp) (by simp) _ rfl ex_c) ?_; rintro e w2 ⟨rfl, hb2⟩; have H6 := Lib.hid (HB.out.trans (hb2.mono HB.out.size)); clear HB H5)
    | (go_at_call 22; have HB := H6; refine Calls.mono (law_skip _ _) ?_; rintro e w2 ⟨rfl, hb2⟩; have H7 := Lib.hid (HB.out.trans (hb2.mono HB.out.size)); clear HB H6)
    | (go_at_call 23; have HB := H7; refine Calls.mono (fails_new [⟨1, 0, 0, 0⟩] _ _ #[.int .u8 1, .int .i64 0, .int .i64 0, .int .i64 0] rfl (by simp) (by simp) _ rfl ex_d) ?_; rintro e w2 ⟨rfl, hb2⟩; have H8 := Lib.hid (HB.out.trans (hb2.mono HB.out.size)); clear HB H7)
    | (go_at_call 24; have HB := H8; refine Calls.mono (law_late _ _) ?_; rintro e w2 ⟨rfl, hb2⟩; have H9 := Lib.hid (HB.out.trans (hb2.mono HB.out.size)); clear HB H8)
    | (go_at_call 21; have HB := H9; refine Calls.mono (gives_new [⟨2, 0, 2, 0⟩] [exBox 1 0 2, exBox 3 1 3, exBox 4 2 3] _ #[.int .u8 2, .int .i64 0, .int .i64 2, .int .i64 0] #[.int .i64 1, .int .i64 0, .int .i64 2, .int .i64 3, .int .i64 1, .int .i64 3, .int .i64 4, .int .i64 2, .int .i64 3] rfl rfl (by simp) (by simp) (by simp) _ _ rfl rfl ex_e) ?_; rintro e w2 ⟨rfl, hb2⟩; have H10 := Lib.hid (HB.out.trans (hb2.mono HB.out.size)); clear HB H9)
    | (go_at_call 24; have HB := H10; refine Calls.mono (law_late _ _) ?_; rintro e w2 ⟨rfl, hb2⟩; have H11 := Lib.hid (HB.out.trans (hb2.mono HB.out.size)); clear HB H10)
    | (go_at_call 21; have HB := H11; refine Calls.mono (gives_new [⟨2, 0, 3, 0⟩] [exBox 1 0 2, exBox 2 1 2, exBox 3 2 3, exBox 4 2 3] _ #[.int .u8 2, .int .i64 0, .int .i64 3, .int .i64 0] #[.int .i64 1, .int .i64 0, .int .i64 2, .int .i64 2, .int .i64 1, .int .i64 2, .int .i64 3, .int .i64 2, .int .i64 3, .int .i64 4, .int .i64 2, .int .i64 3] rfl rfl (by simp) (by simp) (by simp) _ _ rfl rfl ex_f) ?_; rintro e w2 ⟨rfl, hb2⟩; have H12 := Lib.hid (HB.out.trans (hb2.mono HB.out.size)); clear HB H11)
    | (go_at_call 24; have HB := H12; refine Calls.mono (law_late _ _) ?_; rintro e w2 ⟨rfl, hb2⟩; have H13 := Lib.hid (HB.out.trans (hb2.mono HB.out.size)); clear HB H12)
    | (go_at_call 23; have HB := H13; refine Calls.mono (fails_new [⟨2, 0, 1, 0⟩] _ _ #[.int .u8 2, .int .i64 0, .int .i64 1, .int .i64 0] rfl (by simp) (by simp) _ rfl ex_g) ?_; rintro e w2 ⟨rfl, hb2⟩; have H14 := Lib.hid (HB.out.trans (hb2.mono HB.out.size)); clear HB H13)
    | (go_at_call 25; have HB := H14; refine Calls.mono (law_cancel _ _) ?_; rintro e w2 ⟨rfl, hb2⟩; have H15 := Lib.hid (HB.out.trans (hb2.mono HB.out.size)); clear HB H14)
    | (go_at_call 21; have HB := H15; refine Calls.mono (gives_new [⟨3, 0, 4, 0⟩] [exBox 1 0 2, exBox 2 1 2, exBox 3 1 3] _ #[.int .u8 3, .int .i64 0, .int .i64 4, .int .i64 0] #[.int .i64 1, .int .i64 0, .int .i64 2, .int .i64 2, .int .i64 1, .int .i64 2, .int .i64 3, .int .i64 1, .int .i64 3] rfl rfl (by simp) (by simp) (by simp) _ _ rfl rfl ex_h) ?_; rintro e w2 ⟨rfl, hb2⟩; have H16 := Lib.hid (HB.out.trans (hb2.mono HB.out.size)); clear HB H15)
    | (go_at_call 26; have HB := H16; refine Calls.mono (law_weigh _ _ _) ?_; rintro e w2 ⟨rfl, hb2⟩; have H17 := Lib.hid (HB.out.trans (hb2.mono HB.out.size)); clear HB H16)
    | (go_at_call 23; have HB := H17; refine Calls.mono (fails_new [⟨4, 0, 1, 0⟩] _ _ #[.int .u8 4, .int .i64 0, .int .i64 1, .int .i64 0] rfl (by simp) (by simp) _ rfl ex_i) ?_; rintro e w2 ⟨rfl, hb2⟩; have H18 := Lib.hid (HB.out.trans (hb2.mono HB.out.size)); clear HB H17)
    | (go_at_call 22; have HB := H18; refine Calls.mono (law_skip _ _) ?_; rintro e w2 ⟨rfl, hb2⟩; have H19 := Lib.hid (HB.out.trans (hb2.mono HB.out.size)); clear HB H18)
    | (go_at_call 24; have HB := H19; refine Calls.mono (law_late _ _) ?_; rintro e w2 ⟨rfl, hb2⟩; have H20 := Lib.hid (HB.out.trans (hb2.mono HB.out.size)); clear HB H19)
    | (go_at_call 21; have HB := H20; refine Calls.mono (gives_new [⟨1, 2, 0, 0⟩, ⟨2, 0, 3, 0⟩] [exBox 1 0 3, exBox 2 1 3, exBox 3 2 3] _ #[.int .u8 1, .int .i64 2, .int .i64 0, .int .i64 0, .int .u8 2, .int .i64 0, .int .i64 3, .int .i64 0] #[.int .i64 1, .int .i64 0, .int .i64 3, .int .i64 2, .int .i64 1, .int .i64 3, .int .i64 3, .int .i64 2, .int .i64 3] rfl rfl (by simp) (by simp) (by simp) _ _ rfl rfl ex_j) ?_; rintro e w2 ⟨rfl, hb2⟩; have H21 := Lib.hid (HB.out.trans (hb2.mono HB.out.size)); clear HB H20)
    | (go_at_call 22; have HB := H21; refine Calls.mono (law_skip _ _) ?_; rintro e w2 ⟨rfl, hb2⟩; have H22 := Lib.hid (HB.out.trans (hb2.mono HB.out.size)); clear HB H21)
    | (go_at_call 24; have HB := H22; refine Calls.mono (law_late _ _) ?_; rintro e w2 ⟨rfl, hb2⟩; have H23 := Lib.hid (HB.out.trans (hb2.mono HB.out.size)); clear HB H22)
    | (go_at_call 23; have HB := H23; refine Calls.mono (fails_new [⟨1, 2, 0, 0⟩, ⟨2, 0, 4, 0⟩] _ _ #[.int .u8 1, .int .i64 2, .int .i64 0, .int .i64 0, .int .u8 2, .int .i64 0, .int .i64 4, .int .i64 0] rfl (by simp) (by simp) _ rfl ex_k) ?_; rintro e w2 ⟨rfl, hb2⟩; have H24 := Lib.hid (HB.out.trans (hb2.mono HB.out.size)); clear HB H23)
    )
  go_ret
  exact ⟨rfl, H24.out⟩
end Go.Proofs.Ytccjddbcdmgefaa
