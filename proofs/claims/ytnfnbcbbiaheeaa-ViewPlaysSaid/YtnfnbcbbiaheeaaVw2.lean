/- Contracts of package view: New, Few. -/
import Derived.Test.YtnfnbcbbiaheeaaVw1
import Derived.Deep.LoopGhost
import Derived.Deep.DeepCutAuto
import Derived.Deep.CutBlock
namespace Go.Proofs.Ytnfnbcbbiaheeaa.Vw
open Go.RowKit Go.Proofs.YtnfnbcbbiaheeaaW.PrintWords Go.Proofs.YtnfnbcbbiaheeaaW.PrintLast Go.Proofs.Ytnfnbcbbiaheeaa.Lib
section
variable {P : Program} {ops : Array Oper} {rest : List Oper} {o : Oper} {a : Act} {Q : Exit → Act → World → Prop}
/-- make([]T, n, n): the new block whole. -/
theorem ev_make_blk {W : World} (op : Op) (ho' : o.op = op) (hgd : o.guard = none) (t e : TypeId) (x y : Operand) (ho : op = .makeSlice t x y) (ht : P.underlying t = some (.slice e)) (z : Value) (size bytes : Nat)
    (hinfo : (P.info? e).map (fun i => (i.zero, i.size, i.bytes)) = some (some z, size, bytes)) (n : Nat) (kl kc : IntKind) (hx : a.eval x = .int kl (n : Int)) (hy : a.eval y = .int kc (n : Int)) (hb : (bytes : Int) * n ≤ 281474976710656) (hn : (n : Int) ≤ 9223372036854775807)
    (h : ∀ g, g = W.heap.size → ∀ w1, w1.heap[g]? = some (.cells (madeCells z.cells (n * size)) e (0, 0)) → Below W.heap.size W w1 → wpList P ops Q rest (a.put o.dst (.slice (some ⟨g, 0, none⟩) n n)) w1) : wpList P ops Q (o :: rest) a W := by
  obtain ⟨i0, hi, hzz⟩ := Option.map_eq_some_iff.1 hinfo
  simp only [Prod.mk.injEq] at hzz
  obtain ⟨hz0, hz1, hz2⟩ := hzz
  have hr := run_make (P := P) W t e i0 z ht hi hz0 kl kc n n (by omega) (Int.le_refl _) (by rw [hz2]; exact hb) hn
  rw [Int.toNat_natCast, hz1] at hr
  have hrun : (execOp a.eval o).run P W = .ok (.value (.slice (some ⟨W.heap.size, 0, none⟩) n n)) (W.alloc (.cells (madeCells z.cells (n * size)) e)) := by
    unfold execOp
    simp only [ho', ho, hx, hy, Sem.run_bind, Sem.run_pure, Result.andThen_ok, hr]
  exact Kd.event_run hgd hrun (h _ rfl _ (blk_new W _) (below_alloc (Below.refl _ _) _))
end
theorem made2 (n : Nat) : madeCells (Value.agg #[.int .i64 0, .int .i64 0]).cells (n * 2) = (scls (List.replicate n (0, 0))).toArray := by
  apply Array.ext'
  rw [List.toList_toArray]
  refine List.ext_getElem? fun i => ?_
  by_cases hi : i < n * 2
  · have h1 : (madeCells (Value.agg #[.int .i64 0, .int .i64 0]).cells (n * 2)).toList[i]? = some (.int .i64 0) := by
      have hm : i % 2 < 2 := Nat.mod_lt _ (by decide)
      simp only [madeCells, Array.toList_map, List.getElem?_map, Array.toList_range, List.getElem?_range hi, Option.map_some]
      show some ((#[Value.int .i64 0, .int .i64 0] : Array Value)[i % 2]!) = _
      rcases (show i % 2 = 0 ∨ i % 2 = 1 by omega) with e | e <;> rw [e] <;> rfl
    rw [h1]
    have hx : (List.replicate n ((0, 0) : Int × Int))[i / 2]? = some (0, 0) := by rw [List.getElem?_replicate, if_pos (by omega)]
    rcases (show i = i / 2 * 2 ∨ i = i / 2 * 2 + 1 by omega) with e | e
    · rw [e, scls_at0 hx]
    · rw [e, scls_at1 hx]
  · rw [List.getElem?_eq_none (by simp [madeCells]; omega), List.getElem?_eq_none (by rw [scls_length, List.length_replicate]; omega)]
theorem new_no (n : Int) (w : World) (h : n < 1 ∨ 12 < n) : Calls Try.prog 11 #[.int .i64 n] w fun e w' => e = .returned (.tuple #[.pointer none, .int .i64 1]) ∧ Below w.heap.size w w' := by
  by_cases h1 : n < 1
  · have t0 : decide (n < 1) = true := decide_eq_true h1
    clear h h1
    go_enter Try.func11, Try.ntmps11
    go_wp2
    refine bodyPost_ret (results_tmp2 rfl _ _ _) rfl ?_
    exact ⟨rfl, Below.refl _ _⟩
  · have t0 : decide (n < 1) = false := decide_eq_false h1
    have t1 : decide (12 < n) = true := decide_eq_true (by omega)
    clear h h1
    go_enter Try.func11, Try.ntmps11
    go_wp2
    refine bodyPost_ret (results_tmp2 rfl _ _ _) rfl ?_
    exact ⟨rfl, Below.refl _ _⟩
set_option maxHeartbeats 1000000 in
set_option maxRecDepth 100000 in
theorem new_ok (n : Nat) (w : World) (h : 1 ≤ n) (h' : n ≤ 12) : Calls Try.prog 11 #[.int .i64 (n : Int)] w fun e w' => ∃ g r, e = .returned (.tuple #[.pointer (some ⟨g, 0, none⟩), .int .i64 0]) ∧ Vs w' g r (List.replicate n (0, 0)) ∧ w.heap.size ≤ g ∧ w.heap.size ≤ r ∧ Below w.heap.size w w' := by
  have t0 : decide ((n : Int) < 1) = false := decide_eq_false (by omega)
  have t1 : decide (12 < (n : Int)) = false := decide_eq_false (by omega)
  have HN := Aside0.mk (And.intro h h')
  have hu67 := Try.underlying67
  clear h h'
  go_enter Try.func11, Try.ntmps11
  go_wp2_with (first | (refine gate_ (.makeSlice 65 (.tmp 10) (.tmp 10)) rfl ?_; refine ev_make_blk (.makeSlice 65 (.tmp 10) (.tmp 10)) rfl rfl 65 70 (.tmp 10) (.tmp 10) rfl Try.underlying65 (.agg #[.int .i64 0, .int .i64 0]) 2 16 (by kernel_rfl) n .i64 .i64 rfl rfl (by have := HN.out; omega) (by have := HN.out; omega) ?_; intro r hgs w_1 hrow hb; rw [made2] at hrow; have HR := Aside0.mk hrow; have HG := Aside0.mk hgs; have HB := Aside0.mk hb; clear hgs hrow hb) | (refine gate_ (.box 67 (.tmp 12)) rfl ?_; refine box_event ?hg (N := 13) ?hd (cs := #[.slice (some ⟨r, 0, none⟩) n n]) (t := 67) ?hr ?_; (case hd => rfl); (case hg => rfl); (case hr => first | (go_simp; done) | (go_simp; rfl)); intro g hgb w_2 hbox hb; have HG2 := Aside0.mk hgb; have K := Aside0.mk hbox; have HR_n := Aside0.mk ((hb.block _ (blk_lt HR.out)).trans HR.out); have HS := Aside0.mk HB.out.size; have HB_n := Aside0.mk (below_then HB.out HB.out.size hb); clear HB HR; have HB := HB_n; have HR := HR_n; clear HB_n HR_n hgb hbox hb))
  refine bodyPost_ret (results_tmp2 rfl _ _ _) rfl ?_
  exact ⟨g, r, rfl, ⟨by rw [List.length_replicate]; exact K.out, HR.out⟩, by rw [HG2.out]; exact HS.out, Nat.le_of_eq HG.out.symm, HB.out⟩
/-- Numbers that can be read. -/
def Rd (w : World) (A : Option Addr) (n : Nat) (l : List Int) : Prop := (Kd.int .i64).C w A n l
theorem Rd.below {w W : World} {A : Option Addr} {n : Nat} {l : List Int} (h : Rd w A n l) (hb : Below w.heap.size w W) : Rd W A n l := Kd.C_below h hb
theorem Rd.nil (w : World) : Rd w none 0 [] := Kd.C_nil _ w
theorem Rd.of_blk {w : World} {g : Nat} {t : TypeId} {l : List Int} (h : w.heap[g]? = some (.cells (l.map (Value.int .i64)).toArray t (0, 0))) (hl : l.length ≤ 1000) : Rd w (some ⟨g, 0, none⟩) l.length l := by
  refine ⟨rfl, by omega, fun _ => ⟨_, rfl, fun j p hj => ⟨[.int .i64 p], rfl, rfl, fun i u hu => ?_⟩⟩⟩
  cases i with
  | zero =>
    obtain rfl : Value.int .i64 p = u := by simpa using hu
    rw [add_plain, blk_cell h]
    show (l.map (Value.int .i64)).toArray[j * 1 + 0]? = _
    rw [Nat.mul_one, Nat.add_zero, List.getElem?_toArray, List.getElem?_map, hj]
    rfl
  | succ i => simp at hu
theorem idx (l : List Int) (a : Int) (hl : l.length ≤ 1000) : ∀ d i : Nat, i + d = l.length → ∃ r, VPr.slices_Index_int_int.l0 (d + 1) l a (l.length : Int) (i : Int) = some r ∧ decide (r ≥ 0) = (l.drop i).contains a := by
  intro d
  induction d with
  | zero =>
    intro i hi
    refine ⟨-1, ?_, ?_⟩
    · unfold VPr.slices_Index_int_int.l0
      rw [if_neg (by omega)]
    · rw [List.drop_eq_nil_of_le (by omega)]
      rfl
  | succ d ih =>
    intro i hi
    have hlt : i < l.length := by omega
    have hr : rd l (i : Int) = l[i] := by
      unfold rd
      rw [Int.toNat_natCast, List.getD_eq_getElem?_getD, List.getElem?_eq_getElem hlt]
      rfl
    have hw : wrap64 ((i : Int) + 1) = ((i + 1 : Nat) : Int) := by unfold wrap64; omega
    unfold VPr.slices_Index_int_int.l0
    rw [if_pos (by omega), if_pos (by omega), if_pos (by omega), hr, List.drop_eq_getElem_cons hlt, List.contains_cons]
    by_cases e : a = l[i]
    · rw [if_pos e]
      refine ⟨_, rfl, ?_⟩
      rw [beq_iff_eq.2 e, Bool.true_or]
      exact decide_eq_true (by omega)
    · rw [if_neg e, hw]
      obtain ⟨r, h1, h2⟩ := ih (i + 1) (by omega)
      refine ⟨r, h1, ?_⟩
      rw [h2, beq_eq_false_iff_ne.2 e, Bool.false_or]
theorem contains_calls (A : Option Addr) (c : Nat) (l : List Int) (a : Int) (b : Bool) (w : World) (hr : Rd w A l.length l) (hc : l.length ≤ c) (hl : l.length ≤ 1000) (hb : l.contains a = b) :
    Calls Try.prog 31 #[.slice A l.length c, .int .i64 a] w fun e w' => e = .returned (.bool b) ∧ Below w.heap.size w w' := by
  subst hb
  obtain ⟨r, h1, h2⟩ := idx l a hl l.length 0 (by omega)
  exact (VPr.slices_Contains_int_int.calls (l.length + 1) A c l a (l.contains a) w hr hc (by unfold VPr.slices_Contains_int_int.f VPr.slices_Index_int_int.f; erw [h1]; rw [Option.bind_some, h2]; rfl)).mono fun e w' ⟨h3, h4⟩ => ⟨h3, h4.below⟩
/-- How many slots are in one of the states. -/
def cnt (l : List Int) (L : List (Int × Int)) : Nat := L.countP fun x => l.contains x.1
/-- The loop of Few: i are counted. -/
def FewAt (w0 : World) (l : List Int) (L : List (Int × Int)) (k : Nat) (s5 s13 : Value) (wr : World) : Prop :=
  ∃ i : Nat, s13 = .int .i64 (i : Int) ∧ s5 = .int .i64 (cnt l (L.take i) : Int) ∧ i + k = L.length ∧ Below w0.heap.size w0 wr
set_option maxHeartbeats 4000000 in
set_option maxRecDepth 100000 in
theorem few_calls (g r : Nat) (L : List (Int × Int)) (A : Option Addr) (c : Nat) (l : List Int) (w : World) (hI : Vs w g r L) (hA : Rd w A l.length l) (hc : l.length ≤ c) (hl : l.length ≤ 1000) (hL : L.length ≤ 1000) :
    Calls Try.prog 16 #[.pointer (some ⟨g, 0, none⟩), .slice A l.length c] w fun e w' => e = .returned (.int .i64 (cnt l L : Int)) ∧ Below w.heap.size w w' := by
  have hcell := hI.cell
  have HI := Aside0.mk hI
  have HA := Aside0.mk hA
  have HC := Aside0.mk (And.intro hc hl)
  have hu70 := Try.underlying70
  clear hI hA hc hl
  go_enter Try.func16, Try.ntmps16
  go_wp2
  go_loopg [5, 13] L.length (fun k s5 s13 wr => FewAt w l L k s5 s13 wr)
  case atStart => exact ⟨0, by go_num, by go_num, by omega, Below.refl _ _⟩
  case round =>
    clear hcell
    obtain ⟨i, rfl, rfl, hik, hb0⟩ := hrel
    by_cases hlt : i < L.length
    · obtain ⟨x, hx⟩ : ∃ x, L[i]? = some x := ⟨_, List.getElem?_eq_getElem hlt⟩
      have hI := HI.out.below hb0
      have HB := Aside0.mk hb0
      have c0 := hI.cell0 hx
      have c1 := hI.cell1 hx
      have HX := Aside0.mk hx
      clear hI hx hb0
      have hcnt : cnt l (L.take (i + 1)) = cnt l (L.take i) + if l.contains x.1 then 1 else 0 := by
        rw [cnt, cnt, List.take_add_one, HX.out, List.countP_append]
        simp [List.countP_cons]
      have hcl : cnt l (L.take i) ≤ L.length := Nat.le_trans List.countP_le_length (by rw [List.length_take]; omega)
      have w5 : IntKind.i64.wrap ((cnt l (L.take i) : Int) + 1) = ((cnt l (L.take i) + 1 : Nat) : Int) := by rw [IntKind.wrap_i64]; omega
      have HCN := Aside0.mk hcnt
      clear hcnt hcl
      cases hm : l.contains x.1
      · have hcn : cnt l (L.take (i + 1)) = cnt l (L.take i) := by rw [HCN.out, hm]; rfl
        have HCM := Aside0.mk hcn
        have HQ := Aside0.mk hm
        clear hcn hm HCN
        go_wp2_with (go_at_call 31; (with_reducible refine (contains_calls A c l x.1 false _ (HA.out.below (below_alloc HB.out _)) HC.out.1 HC.out.2 HQ.out).mono ?_); rintro e_1 w_2 ⟨rfl, hb2⟩; have HB_n := Aside0.mk (below_then (below_alloc HB.out _) (below_alloc HB.out _).size hb2); clear HB; have HB := HB_n; clear HB_n hb2)
        go_roundg (L.length - (i + 1))
        case measure => omega
        case rel => exact ⟨i + 1, by go_num, by rw [HCM.out], by omega, HB.out⟩
      · have hcn : cnt l (L.take (i + 1)) = cnt l (L.take i) + 1 := by rw [HCN.out, hm]; rfl
        have HCM := Aside0.mk hcn
        have HQ := Aside0.mk hm
        clear hcn hm HCN
        go_wp2_with (go_at_call 31; (with_reducible refine (contains_calls A c l x.1 true _ (HA.out.below (below_alloc HB.out _)) HC.out.1 HC.out.2 HQ.out).mono ?_); rintro e_1 w_2 ⟨rfl, hb2⟩; have HB_n := Aside0.mk (below_then (below_alloc HB.out _) (below_alloc HB.out _).size hb2); clear HB; have HB := HB_n; clear HB_n hb2)
        go_roundg (L.length - (i + 1))
        case measure => omega
        case rel => exact ⟨i + 1, by go_num, by rw [HCM.out]; go_num, by omega, HB.out⟩
    · obtain rfl : i = L.length := by omega
      rw [List.take_length]
      go_wp2
      go_ret
      exact ⟨rfl, hb0⟩
end Go.Proofs.Ytnfnbcbbiaheeaa.Vw
