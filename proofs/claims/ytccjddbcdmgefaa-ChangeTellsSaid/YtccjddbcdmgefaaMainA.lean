/-
  The laws ChangeTells and ChangeSame over arguments that read as rows.
-/
import Derived.Test.YtccjddbcdmgefaaTells
import Derived.Test.YtccjddbcdmgefaaMade
namespace Go.Proofs.Ytccjddbcdmgefaa
open Go.RowKit

set_option maxRecDepth 100000 in
set_option maxHeartbeats 4000000 in
theorem main_tells (A X : Option Addr) (c cx : Nat) (l : List Box) (cs : List Chg) (calls now : Int) (w : World) (hA : Rd w w.heap.size 9 A (l.map Box.cells)) (hX : Rd w w.heap.size 4 X (cs.map Chg.cells)) (hnum : ∀ b ∈ l, b.num.size ≤ 140737488351232) (hkk : ∀ c ∈ cs, 0 ≤ c.kind ∧ c.kind ≤ 255) :
    Calls Try.prog 3 #[.slice A l.length c, .int .i64 calls, .int .i64 now, .slice X cs.length cx] w fun e w' => e = .returned (.bool true) ∧ Below w.heap.size w w' := by
  by_cases h1 : l.length ≤ 100
  · have d1 : ((100 : Int) < (l.length : Int)) = False := by simp; omega
    by_cases h2 : cs.length ≤ 40
    · have d2 : ((40 : Int) < (cs.length : Int)) = False := by simp; omega
      have HT := Lib.hid (law_tells A X c cx l cs _ _ rfl rfl calls now w hA hX (by omega) (by omega) hnum hkk)
      clear hA hX hnum hkk
      go_enter Try.func3, Try.ntmps3
      go_wp2_with (first
        | (go_at_call 6; refine (HT.out).mono ?_; rintro e w1 ⟨rfl, hb1⟩)
        | (go_at_call 7; refine (law_awake w1).mono ?_; rintro e w2 ⟨rfl, hb2⟩))
      go_ret
      exact ⟨rfl, hb1.trans (hb2.mono hb1.size)⟩
    · have d2 : ((40 : Int) < (cs.length : Int)) = True := by simp; omega
      clear hA hX hnum hkk
      go_enter Try.func3, Try.ntmps3
      go_wp2_with (first
        | (go_at_call 7; refine (law_awake w).mono ?_; rintro e w2 ⟨rfl, hb2⟩))
      go_ret
      exact ⟨rfl, hb2⟩
  · have d1 : ((100 : Int) < (l.length : Int)) = True := by simp; omega
    clear hA hX hnum hkk
    go_enter Try.func3, Try.ntmps3
    go_wp2_with (first
      | (go_at_call 7; refine (law_awake w).mono ?_; rintro e w2 ⟨rfl, hb2⟩))
    go_ret
    exact ⟨rfl, hb2⟩
end Go.Proofs.Ytccjddbcdmgefaa
