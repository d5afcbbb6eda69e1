/-
  Arguments opened: what the form of the claims says of them, as trees of the abstract run.
-/
import Derived.Test.YtfdjcakgolenbaaGreatMa22
set_option linter.unusedVariables false
set_option linter.unusedSimpArgs false
namespace Go.Proofs.YtfdjcakgolenbaaGreat
open Go.ChangeShapes Go.Deep Go.RowKit Go.WideShapes
def sgB : Sg -> Sg -> Bool
 | .int k, .int k' => decide (k = k')
 | .bool, .bool => true
 | .str, .str => true
 | .sl t, .sl t' => decide (t = t')
 | _, _ => false
def sgLB : List Sg -> List Sg -> Bool
 | [], [] => true
 | a :: l, b :: m => sgB a b && sgLB l m
 | _, _ => false
theorem sgB_eq {a b : Sg} (h : sgB a b = true) : a = b := by
 unfold sgB at h;split at h <;> first | rfl | (simp only [decide_eq_true_eq] at h; rw [h]) | cases h
theorem sgLB_eq : ∀ {a b : List Sg}, sgLB a b = true -> a = b
 | [], [], _ => rfl
 | a :: l, b :: m, h => by
  simp only [sgLB, Bool.and_eq_true] at h;rw [sgB_eq h.1, sgLB_eq h.2]
 | [], _ :: _, h => by cases h
 | _ :: _, [], h => by cases h
def opnFs (P : Program) (g : TypeId -> Option (List Sg)) : List Field -> Nat -> Option (List Sg)
 | [], _ => some []
 | f :: fs, o => match g f.type, opnFs P g fs (o + P.cellsOf f.type) with
  | some a, some b => if f.offset == o && a.length == P.cellsOf f.type then some (a ++ b) else none
  | _, _ => none
def opn (P : Program) (tc : List (Nat × Tc)) : Nat -> TypeId -> Option (List Sg)
 | 0, _ => none
 | n + 1, T => match P.underlying T with
  | some (.int k) => some [.int k]
  | some .bool => some [.bool]
  | some .string => some [.str]
  | some (.slice e) => match alook tc e with
   | some t => match opn P tc n e with
    | some ss => if sgLB ss (sgOf t) && P.cellsOf e == t.size && decide (0 < P.bytesOf e) then some [.sl t] else none
    | none => none
   | none => none
  | some (.struct fs) => match opnFs P (opn P tc n) fs.toList 0 with
   | some ss => if ss.length == P.cellsOf T then some ss else none
   | none => none
  | _ => none
def Sh : Sg -> AV -> Prop
 | .int k, x => ∃ n : Int, x = .int k fun _ => n
 | .bool, x => ∃ b : Bool, x = .bool fun _ => b
 | .str, x => ∃ s : ByteArray, x = .str fun _ => s
 | .sl t, x => ∃ l : List t.el, x = .sl false t fun _ => l
 | _, _ => False
def ShL : List Sg -> List AV -> Prop
 | [], l => l = []
 | s :: ss, l => ∃ x xs, l = x :: xs /\ Sh s x /\ ShL ss xs
def WfAV : Nat -> AV -> Prop
 | 0, _ => True
 | _ + 1, .int k n => (Lit.int k (n ())).wf = true
 | _ + 1, .str s => (s ()).size <= 140737488351232
 | d + 1, .sl _ t l => (l ()).length <= 140737488351232 /\ ∀ e ∈ l (), ∀ x ∈ cellsAV false t (fun _ => e), WfAV d x
 | _, _ => True
theorem WfAV.down : ∀ (d : Nat) (x : AV), WfAV (d + 1) x -> WfAV d x
 | 0, _, _ => trivial
 | d + 1, .int _ _, h => h
 | d + 1, .str _, h => h
 | d + 1, .sl _ _ _, h => ⟨h.1, fun e he x hx => WfAV.down d x (h.2 e he x hx)⟩
 | d + 1, .un, _ => trivial
 | d + 1, .lit _ _, _ => trivial
 | d + 1, .bool _, _ => trivial
 | d + 1, .blit _, _ => trivial
 | d + 1, .nil, _ => trivial
 | d + 1, .wide _ _ _ _, _ => trivial
 | d + 1, .pto _ _, _ => trivial
 | d + 1, .ptr _ _, _ => trivial
 | d + 1, .own _, _ => trivial
 | d + 1, .orp _ _ _ _, _ => trivial
 | d + 1, .mp _, _ => trivial
 | d + 1, .stamp _, _ => trivial
 | d + 1, .it _ _, _ => trivial
 | d + 1, .agg _, _ => trivial
 | d + 1, .tup _, _ => trivial
 | d + 1, .fn _ _, _ => trivial
theorem ShL.app : ∀ {a b : List Sg} {l m : List AV}, ShL a l -> ShL b m -> ShL (a ++ b) (l ++ m)
 | [], b, l, m, h, h2 => by
  rw [show l = [] from h];exact h2
 | s :: a, b, l, m, h, h2 => by
  obtain ⟨x, xs, rfl, h3, h4⟩ := h;exact ⟨x, xs ++ m, rfl, h3, h4.app h2⟩
set_option maxHeartbeats 1000000 in
theorem mk_of {t : Tc} {avs : List AV} (h : ShL (sgOf t) avs) (hq : (sgOf t).all (fun s => match s with | .wide _ => false | _ => true) = true) : ∃ e : t.el, avs = cellsAV false t fun _ => e := by
 cases t <;> first
  | (exact absurd hq (by decide))
  | (simp only [sgOf] at h
     repeat (obtain ⟨_, _, rfl, ⟨_, rfl⟩, h⟩ := h)
     first
      | exact ⟨(_ : Int), rfl⟩
      | exact ⟨⟨_, _⟩, rfl⟩
      | exact ⟨⟨_, _, _⟩, rfl⟩
      | exact ⟨⟨_, _, _, _⟩, rfl⟩
      | exact ⟨⟨_, _, _, _, _⟩, rfl⟩
      | exact ⟨⟨_, _, _, _, _, _⟩, rfl⟩
      | exact ⟨⟨_, _, _, _, _, _, _, _, _⟩, rfl⟩
      | exact ⟨⟨_, _, _, _, _, _, _, _, _, _, _, _⟩, rfl⟩
      | exact ⟨⟨⟨_, _, _, _, _, _, _, _, _⟩, _, _, _⟩, rfl⟩)
section
variable {H : Type} {enc : TypeId × Value -> H} {P : Program} {w : World} {held : Bool} {tc : List (Nat × Tc)}
def allRo (w : World) : Nat -> Prop := fun b => b < w.heap.size
theorem fs_ok {g : TypeId -> Option (List Sg)} {m : Nat} {cs : List Value} {T : TypeId} {fields : Array Field} {parts : List (DataW H × List MemPlace)} (hT : P.underlying T = some (.struct fields)) (hfit : Fits P T (.agg (parts.map (·.1))))
 (hg : ∀ (f : Field) (ss : List Sg) (cs : List Value) (y : DataW H × List MemPlace), g f.type = some ss -> DataW.trod enc P w 0 (fun _ => true) held m f.type cs = some y -> Fits P f.type y.1 -> ∃ avs, Each w (fun _ => none) 0 (allRo w) avs cs /\ ShL ss avs /\ ∀ x ∈ avs, WfAV 4 x)
 (hfield : ∀ (i : Nat) (f : Field), fields[i]? = some f -> DataW.trod enc P w 0 (fun _ => true) held m f.type ((cs.drop f.offset).take (P.cellsOf f.type)) = parts[i]?) (hpl : parts.length = fields.size) :
 ∀ (fs : List Field) (i o : Nat) (ss : List Sg), fields.toList.drop i = fs -> opnFs P g fs o = some ss -> ∃ avs, Each w (fun _ => none) 0 (allRo w) avs ((cs.drop o).take ss.length) /\ ShL ss avs /\ ∀ x ∈ avs, WfAV 4 x
 | [], i, o, ss, hi, h => by
  simp only [opnFs, Option.some.injEq] at h;subst h;exact ⟨[], by simpa using Each.nil, rfl, by simp⟩
 | f :: fs, i, o, ss, hi, h => by
  unfold opnFs at h;split at h
  . rename_i a b ha hb;split at h
    . rename_i hc;simp only [Bool.and_eq_true, beq_iff_eq] at hc;obtain ⟨hc1, hc2⟩ := hc;cases h;have hil : i < fields.toList.length := by
       rcases Nat.lt_or_ge i fields.toList.length with h | h
       . exact h
       . rw [List.drop_of_length_le h] at hi; cases hi
      rw [List.drop_eq_getElem_cons hil] at hi;injection hi with h1 h2;have hf : fields[i]? = some f := by rw [<- h1]; simp
      have hp := hfield i f hf;have hip : i < parts.length := by rw [hpl]; simpa using hil
      rw [List.getElem?_eq_getElem hip] at hp;obtain ⟨avs, q1, q2, q3⟩ := hg f a _ _ ha hp (Fits.field hT hfit hf (by simp [hip]));obtain ⟨bvs, r1, r2, r3⟩ := fs_ok hT hfit hg hfield hpl fs (i + 1) (o + P.cellsOf f.type) b h2 hb;refine ⟨avs ++ bvs, ?_, q2.app r2, fun x hx => ?_⟩
      . rw [hc1] at q1;have e : (cs.drop o).take (a ++ b).length = (cs.drop o).take (P.cellsOf f.type) ++ (cs.drop (o + P.cellsOf f.type)).take b.length := by
         rw [List.length_append, hc2, List.take_add, List.drop_drop]
        rw [e];exact q1.append r1
      . rcases List.mem_append.1 hx with h | h
        . exact q3 x h
        . exact r3 x h
    . cases h
  . cases h
theorem opn_ok : ∀ (n m : Nat) (T : TypeId) (ss : List Sg) (cs : List Value) (y : DataW H × List MemPlace), opn P tc n T = some ss -> DataW.trod enc P w 0 (fun _ => true) held m T cs = some y -> Fits P T y.1 -> ∃ avs, Each w (fun _ => none) 0 (allRo w) avs cs /\ ShL ss avs /\ ∀ x ∈ avs, WfAV 4 x
 | 0, _, _, _, _, _, h, _, _ => by cases h
 | n + 1, m, T, ss, cs, y, h, ht, hf => by
  unfold opn at h;split at h
  . rename_i k hu;cases h;obtain ⟨z, rfl, _, hw⟩ := DataW.trod_int hu ht;refine ⟨[.int k fun _ => z], .cons (.int k _) .nil, ⟨_, _, rfl, ⟨z, rfl⟩, rfl⟩, ?_⟩;intro x hx;rw [List.mem_singleton.1 hx];exact hw
  . rename_i hu;cases h;obtain ⟨z, rfl, _⟩ := DataW.trod_bool hu ht;refine ⟨[.bool fun _ => z], .cons (.bool _) .nil, ⟨_, _, rfl, ⟨z, rfl⟩, rfl⟩, ?_⟩;intro x hx;rw [List.mem_singleton.1 hx];trivial
  . rename_i hu;cases h;obtain ⟨z, rfl, hy, _⟩ := DataW.trod_string hu ht;refine ⟨[.str fun _ => z], .cons (.str _) .nil, ⟨_, _, rfl, ⟨z, rfl⟩, rfl⟩, ?_⟩;intro x hx;rw [List.mem_singleton.1 hx];exact hf z.size (by rw [hy]; simp [DataW.weights, hu])
  . rename_i e hu;split at h
    . rename_i t htc;split at h
      . rename_i se hse;split at h
        . rename_i hc;cases h;simp only [Bool.and_eq_true, beq_iff_eq, decide_eq_true_eq] at hc;obtain ⟨⟨hc1, hc2⟩, hc3⟩ := hc;have hss := sgLB_eq hc1;have hq : (sgOf t).all (fun s => match s with | .wide _ => false | _ => true) = true := by
           rw [<- hss, List.all_eq_true];intro s hs;have : ∀ {a b : List Sg}, sgLB a b = true -> ∀ s ∈ a, (match s with | .wide _ => false | _ => true) = true := by
            intro a
            induction a with
            | nil => intro b _ s hs; cases hs
            | cons x a ih =>
             intro b h s hs
             cases b with
             | nil => cases h
             | cons z b =>
              simp only [sgLB, Bool.and_eq_true] at h;rcases List.mem_cons.1 hs with rfl | hs
              . have h1 := h.1;unfold sgB at h1;split at h1 <;> first | rfl | cases h1
              . exact ih h.2 s hs
           exact this hc1 s hs
          have hone : ∃ v, cs = [v] := by
           rcases open_slice hu ht with ⟨hcs, _⟩ | ⟨a, len, cap, m', n', D, Pl, hcs, _⟩ <;> exact ⟨_, hcs⟩
          obtain ⟨v, rfl⟩ := hone;obtain ⟨A, l, c, hv, hr, hw, hby, hlc⟩ := open_rows (T := List Value × t.el) (cells := fun p => p.1) (wf := fun p => Each w (fun _ => none) 0 (allRo w) (cellsAV false t fun _ => p.2) p.1 /\ ∀ x ∈ cellsAV false t (fun _ => p.2), WfAV 4 x) (size := t.size) (bytes := P.bytesOf e) hu hc2 (tc_size t) rfl (fun n' cs' y' h1 h2 => by
           obtain ⟨avs, q1, q2, q3⟩ := opn_ok n n' e se cs' y' hse h1 h2;rw [hss] at q2;obtain ⟨el, rfl⟩ := mk_of q2 hq;exact ⟨(cs', el), rfl, q1, q3⟩) ht hf
          have hll : l.length <= 140737488351232 := by
           have : l.length * 1 <= l.length * P.bytesOf e := Nat.mul_le_mul_left _ hc3;omega
          refine ⟨[.sl false t fun _ => l.map (·.2)], .cons ?_ .nil, ⟨_, _, rfl, ⟨_, rfl⟩, rfl⟩, ?_⟩
          . rw [hv];have key : AVR w (fun _ => none) 0 (allRo w) (.sl false t fun _ => l.map (·.2)) (.slice A (l.map (·.2)).length c) := by
             refine AVR.sl (ro := allRo w) false t (fun _ => l.map (·.2)) A c (l.map (·.1)) (by simp) (by simpa using hlc) hr (fun a ha hne => Rd.bound hr hne a ha) (fun h => by cases h) fun k cs j x v h1 h2 h3 => ?_;rw [List.getElem?_map] at h1;obtain ⟨p, hp, rfl⟩ := Option.map_eq_some_iff.1 h1;have hpm := hw p (List.mem_of_getElem? hp);have e1 : (l.map (·.2)).getD k t.dflt = p.2 := by simp [List.getD_eq_getElem?_getD, hp]
             rw [e1] at h2;exact hpm.1.2 j x v h2 h3
            rwa [List.length_map] at key
          . intro x hx;rw [List.mem_singleton.1 hx];refine ⟨by rw [List.length_map]; exact hll, fun el hel z hz => ?_⟩;obtain ⟨p, hp, rfl⟩ := List.mem_map.1 hel;exact WfAV.down 3 z ((hw p hp).2 z hz)
        . cases h
      . cases h
    . cases h
  . rename_i fs hu;split at h
    . rename_i ss' hfs;split at h
      . rename_i hlen;cases h;simp only [beq_iff_eq] at hlen;obtain ⟨xs, n2, rfl, hx, hcl, hxl, hg⟩ := DataW.trod_struct hu ht;subst hx;obtain ⟨avs, q1, q2, q3⟩ := fs_ok (m := n2) hu hf (fun f ss cs y h1 h2 h3 => opn_ok n n2 f.type ss cs y h1 h2 h3) hg hxl fs.toList 0 0 ss rfl hfs;rw [List.drop_zero, List.take_of_length_le (by omega)] at q1;exact ⟨avs, q1, q2, q3⟩
      . cases h
    . cases h
  . cases h
section
variable {b0 m : Nat} {r : Reach} {T : TypeId} {v : Value} {y : DataW H × List MemPlace}
theorem open_int {k : IntKind} (hT : P.underlying T = some (.int k)) (hv : Value.okWide P w r b0 T v) (ht : DataW.trod enc P w 0 (fun _ => true) held m T v.cells.toList = some y) : ∃ n : Int, AVR w (fun _ => none) 0 (allRo w) (.int k fun _ => n) v /\ (Lit.int k n).wf = true := by
 obtain ⟨n, rfl⟩ := okWide_int hT hv;obtain ⟨z, e, _, hw⟩ := DataW.trod_int hT ht;have e2 : [Value.int k n] = [Value.int k z] := e;injection e2 with e2;injection e2 with _ e2;subst e2;exact ⟨n, .int k _, hw⟩
theorem open_sl {e : TypeId} {t : Tc} {n : Nat} (hT : P.underlying T = some (.slice e)) (ho : opn P tc n T = some [.sl t]) (hv : Value.okWide P w r b0 T v) (ht : DataW.trod enc P w 0 (fun _ => true) held m T v.cells.toList = some y) (hf : Fits P T y.1) : ∃ l : List t.el, AVR w (fun _ => none) 0 (allRo w) (.sl false t fun _ => l) v /\ WfAV 4 (.sl false t fun _ => l) := by
 obtain ⟨a, len, cap, rfl⟩ := okWide_slice hT hv;obtain ⟨avs, q1, q2, q3⟩ := opn_ok (tc := tc) n m T _ _ _ ho ht hf;obtain ⟨x, xs, rfl, ⟨l, rfl⟩, h⟩ := q2;rw [show xs = [] from h] at q1 q3;refine ⟨l, ?_, q3 _ (.head _)⟩;exact q1.2 0 _ _ rfl rfl
end
end
theorem law_of {c : Con} {res : Res} {avs : List AV} (hc : ConOk Tryz.prog c) (hgo : c.go avs = some res) (hav : res.av = .bool fun _ => true) {W : World} {vals : List Value} (hE : Each W (fun _ => none) 0 (allRo W) avs vals) (hpre : res.pre ()) : Calls Tryz.prog c.f vals.toArray W fun e w' => e = .returned (.bool true) /\ Below W.heap.size W w' :=
 (hc.2 avs res hgo W (allRo W) vals (fun _ h => h) hE hpre).mono fun e w' ⟨v, h1, h2, h3⟩ => by
  rw [hav] at h3;rw [h1, h3.bool_];exact ⟨rfl, h2⟩
end Go.Proofs.YtfdjcakgolenbaaGreat
namespace Go.Proofs.YtfdjcakgolenbaaGreat
open Go.RowKit
theorem lit_wf {k : IntKind} {n : Int} (h : (Lit.int k n).wf = true) : k.min <= n /\ n <= k.max := by
 simpa [Lit.wf] using h
theorem plc_wf {p : Plc} (h : ∀ x ∈ cellsAV false .plc (fun _ => p), WfAV 3 x) : plcOk p := by
 have h1 := h (.int .u8 fun _ => p.bay) (by simp [cellsAV]);have h2 := h (.int .u8 fun _ => p.row) (by simp [cellsAV]);have h3 := h (.int .u8 fun _ => p.tiers) (by simp [cellsAV]);exact ⟨lit_wf h1, lit_wf h2, lit_wf h3⟩
theorem drp_wf {d : Drp} (h : ∀ x ∈ cellsAV false .drp (fun _ => d), WfAV 3 x) : drpOk d := by
 have h1 := h (.int .u8 fun _ => d.col) (by simp [cellsAV]);have h2 := h (.int .u8 fun _ => d.kilos) (by simp [cellsAV]);exact ⟨lit_wf h1, lit_wf h2⟩
theorem made_wf {l : List Plc} {n : Int} {d : List Drp} (h0 : WfAV 4 (.sl false .plc fun _ => l)) (h1 : (Lit.int .u32 n).wf = true) (h2 : WfAV 4 (.sl false .drp fun _ => d)) : ((∀ p ∈ l, plcOk p) /\ l.length <= 140737488351232) /\ (0 <= n /\ n <= 4294967295) /\ (∀ x ∈ d, drpOk x) /\ d.length <= 140737488351232 :=
 ⟨⟨fun p hp => plc_wf (h0.2 p hp), h0.1⟩, lit_wf h1, fun x hx => drp_wf (h2.2 x hx), h2.1⟩
end Go.Proofs.YtfdjcakgolenbaaGreat
