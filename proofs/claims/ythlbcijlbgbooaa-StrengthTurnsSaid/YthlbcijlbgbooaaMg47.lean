/-
  twistlocklaw18: what StrengthTurns asks of one frame. Plain.
-/
import Derived.Test.YthlbcijlbgbooaaMg46

namespace Go.Proofs.Ythlbcijlbgbooaa

theorem moveF_put (t : Int) : moveF t = putX (fun x => x + t) := rfl
theorem light_map (φ : Int → Int) (l : List Frm) (k : Nat) : lightS ((l.map (putX φ)).take k) = lightS (l.take k) := by
  unfold lightS
  rw [← List.map_take, List.map_map]
  rfl
theorem hull_move {G : List Frm} {ws : List Wt} (H : Hull G ws) (t : Int) (hb : ∀ f ∈ G, -500000 ≤ f.x + t ∧ f.x + t ≤ 500000) : Hull (G.map (moveF t)) (ws.map (moveW t)) := by
  refine ⟨?_, ?_, ?_, ?_, ?_⟩
  · rw [moveF_put]
    exact right_map _ (fun a b h => by omega) H.right hb
  · intro u hu
    obtain ⟨v, hv, rfl⟩ := List.mem_map.1 hu
    rw [List.length_map]
    show idxF (G.map (moveF t)) (v.x + t) ≠ 0 ∧ idxF (G.map (moveF t)) (v.x + t) ≤ _
    rw [idx_move]
    exact H.inside v hv
  · intro u hu
    obtain ⟨v, hv, rfl⟩ := List.mem_map.1 hu
    exact H.kilos v hv
  · rw [List.length_map]
    exact H.few
  · rw [List.length_map, moveF_put, light_map]
    exact H.light
theorem hull_mir {G : List Frm} {ws : List Wt} (H : Hull G ws) (hx : ∀ u ∈ ws, ∀ f ∈ G, f.x ≠ u.x) : Hull (mirL G) (ws.map mirW) := by
  have p1 := (rightF_parts H.right).1
  refine ⟨right_mir H.right, ?_, ?_, ?_, ?_⟩
  · intro u hu
    obtain ⟨v, hv, rfl⟩ := List.mem_map.1 hu
    have h1 := idx_mir G v.x (hx v hv)
    have h2 := H.inside v hv
    rw [mirL_len]
    show idxF (mirL G) (-v.x) ≠ 0 ∧ idxF (mirL G) (-v.x) ≤ _
    omega
  · intro u hu
    obtain ⟨v, hv, rfl⟩ := List.mem_map.1 hu
    exact H.kilos v hv
  · rw [List.length_map]
    exact H.few
  · have e : lightS ((mirL G).take (G.length - 1)) = lightS (G.take (G.length - 1)) := by
      unfold lightS
      rw [List.map_take, mirL_lights G (by omega) Frm.light (fun i => by unfold mirF; rfl), List.take_left' (by simp), sum_rev]
    rw [mirL_len, e]
    exact H.light
def oddW (u : Wt) : Wt := ⟨2 * u.x + 1, u.kilos⟩
def dblF (F : List Frm) : List Frm := F.map (putX (fun x => 2 * x))
theorem hull_dbl {F t : List Frm} {r x : Int} (M : MadeF F t r x) (ws : List Wt) (hw : ∀ u ∈ ws, (-20000 ≤ u.x ∧ u.x < x) ∧ (0 ≤ u.kilos ∧ u.kilos < 65536)) (hl : ws.length ≤ 100) : Hull (dblF F) (ws.map oddW) := by
  have hx := M.x
  have hlen : F.length = t.length + 3 := by rw [M.eq]; simp
  refine ⟨right_map _ (fun a b h => by omega) M.right (fun f hf => by have := M.xs f hf; omega), ?_, ?_, by rw [List.length_map]; exact hl, ?_⟩
  · intro u hu
    obtain ⟨v, hv, rfl⟩ := List.mem_map.1 hu
    have h1 := (hw v hv).1
    obtain ⟨f, hf, ef⟩ := M.mem0
    obtain ⟨g, hg, eg⟩ := M.memN
    refine idxF_in ⟨putX (fun x => 2 * x) f, List.mem_map_of_mem hf, ?_⟩ ⟨putX (fun x => 2 * x) g, List.mem_map_of_mem hg, ?_⟩
    · show 2 * f.x ≤ 2 * v.x + 1
      omega
    · show 2 * v.x + 1 < 2 * g.x
      omega
  · intro u hu
    obtain ⟨v, hv, rfl⟩ := List.mem_map.1 hu
    exact (hw v hv).2
  · unfold dblF
    rw [List.length_map, light_map]
    have e : lightS (F.take (F.length - 1)) = 5000 + lightS t := by
      rw [hlen]
      rw [M.eq]
      show lightS (_ :: _ :: ((t ++ [(⟨x, 0, 0, 0, 0⟩ : Frm)]).take t.length)) = _
      rw [List.take_left' rfl, lightS_cons, lightS_cons]
      show (3000 : Int) + (2000 + lightS t) = _
      omega
    have := M.light
    omega
theorem dbl_odd (F : List Frm) (ws : List Wt) : ∀ u ∈ ws.map oddW, ∀ f ∈ dblF F, f.x ≠ u.x := by
  intro u hu f hf
  obtain ⟨v, _, rfl⟩ := List.mem_map.1 hu
  obtain ⟨g, _, rfl⟩ := List.mem_map.1 hf
  show 2 * g.x ≠ 2 * v.x + 1
  omega
theorem Hull.xs {G : List Frm} {ws : List Wt} (H : Hull G ws) (j : Nat) : (frmX G j).natAbs ≤ 500000 := by
  have := frmX_ok (okFrom_ok none G (rightF_parts H.right).2.2.1) j
  omega
theorem turns_law {G : List Frm} {ws : List Wt} (H : Hull G ws) (t : Int) (hb : ∀ f ∈ G, -500000 ≤ f.x + t ∧ f.x + t ≤ 500000) (hx : ∀ u ∈ ws, ∀ f ∈ G, f.x ≠ u.x) (j : Nat) (hj : j ≤ G.length - 1) {a b c : Str}
    (ha : a = strF G (secL G ws) (addAll (secL G ws)).a0 (kF (secL G ws)) j)
    (hb' : b = strF (G.map (moveF t)) (secL (G.map (moveF t)) (ws.map (moveW t))) (addAll (secL (G.map (moveF t)) (ws.map (moveW t)))).a0 (kF (secL (G.map (moveF t)) (ws.map (moveW t)))) j)
    (hc : c = strF (mirL G) (secL (mirL G) (ws.map mirW)) (addAll (secL (mirL G) (ws.map mirW))).a0 (kF (secL (mirL G) (ws.map mirW))) (G.length - 1 - j)) :
    b = a ∧ c = ⟨(subL (ofL 0) a.shear).1, a.bend⟩ := by
  have p1 := (rightF_parts H.right).1
  have Hm := hull_move H t hb
  have Ht := hull_mir H hx
  have B1 := (hull_ok H).2.1
  have B2 := (hull_ok Hm).2.1
  have B3 := (hull_ok Ht).2.1
  rw [ha, hb', hc, B1.str j (H.xs j), B2.str j (Hm.xs j), B3.str _ (Ht.xs _)]
  have d2 := down_move H.right ws t j
  have t2 := twice_move H.right ws t j (by omega)
  have d3 := down_mir H.right ws hx j hj
  have t3 := twice_mir H.right ws hx B1.a5ne j hj p1
  unfold bendR
  rw [d2, t2, d3, t3]
  refine ⟨rfl, ?_⟩
  rw [Str.mk.injEq]
  refine ⟨?_, rfl⟩
  have e : ((0 : Int) : Rat) - downR (secL G ws) j = -downR (secL G ws) j := by
    have e0 : ((0 : Int) : Rat) = 0 := rfl
    rw [e0]
    grind
  have h1 : FitsR (((0 : Int) : Rat) - downR (secL G ws) j) := by
    rw [e, ← d3]
    exact B3.fits (B3.down _) (by decide)
  show ofRat (-downR (secL G ws) j) = (subL (ofL 0) (ofRat (downR (secL G ws) j))).1
  rw [ofL_rat, subR h1, e]
end Go.Proofs.Ythlbcijlbgbooaa
