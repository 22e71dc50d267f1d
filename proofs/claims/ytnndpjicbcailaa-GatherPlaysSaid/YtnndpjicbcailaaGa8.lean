/- The document's Gather: Got. -/
import Derived.Test.YtnndpjicbcailaaGa7
namespace Go.Proofs.Ytnndpjicbcailaa.Ga
open Go.RowKit Go.Proofs.YtnndpjicbcailaaW.PrintWords Go.Proofs.YtnndpjicbcailaaW.PrintLast Go.Proofs.YtnndpjicbcailaaW.PrintMore Go.Proofs.Ytnndpjicbcailaa.Lib Go.Proofs.Ytnndpjicbcailaa.Open
/-- The loop: i places were looked at. -/
def ThereAt (w0 : World) (pl : List Int) (x : Int) (a : Nat) (r : Nat) (s9 s10 : Value) (wr : World) : Prop :=
  ∃ i : Nat, s10 = .int .i64 (i : Int) ∧ s9 = .bool ((pl.take i).contains x) ∧ i + r = a ∧ w0 = wr
theorem there_next {pl : List Int} {i : Nat} {y x : Int} (h : pl[i]? = some y) : (pl.take (i + 1)).contains x = ((pl.take i).contains x || y == x) := by
  rw [List.take_add_one, h]
  simp only [List.contains_eq_any_beq, List.any_append, Option.toList_some, List.any_cons, List.any_nil, Bool.or_false]
  congr 1
  exact Bool.beq_comm
set_option maxHeartbeats 8000000 in
set_option maxRecDepth 100000 in
theorem rgot_no (B g k d : Nat) (pl : List Int) (a aw : Nat) (ps : List Pt) (Pv Qv : Value) (w : World) (h : Rx B w g k d pl a aw ps Pv Qv) (x : Int) (ok : Bool) (data : ByteArray) (hin : (pl.take a).contains x = false ∨ aw = 0) :
    Calls Try.prog 16 #[.pointer (some ⟨g, 0, none⟩), .int .i64 x, .bool ok, .string data] w fun e w' => e = .returned (.bool false) ∧ Below w.heap.size w w' := by
  obtain ⟨AP, cp, rfl⟩ := own_slice h.pr
  obtain ⟨AQ, cq, rfl⟩ := own_slice h.qr
  obtain ⟨c0, c1, c2, c3, c4, c5⟩ := h.cells
  have HH := Aside0.mk h
  have ha := h.wf.2.2.2.1
  have hp12 := h.wf.2.2.1
  have haw12 : aw ≤ 12 := by have := h.wf.2.2.2.2.1; omega
  obtain ⟨m, hm⟩ : ∃ m, m = pl.length := ⟨_, rfl⟩
  obtain ⟨n, hn⟩ : ∃ n, n = ps.length := ⟨_, rfl⟩
  obtain ⟨y, hy⟩ : ∃ y : Nat, y = aw := ⟨_, rfl⟩
  have HM := Aside0.mk (And.intro hm (And.intro hn hy))
  have hk8 := h.wf.1
  have hnk := h.wf.2.2.2.2.2
  rw [← hn] at hnk
  rw [← hm] at c2 ha hp12
  rw [← hn] at c5
  rw [← hy] at c4 haw12
  obtain ⟨b, hbb⟩ : ∃ b, (pl.take a).contains x = b := ⟨_, rfl⟩
  have HBB := Aside0.mk hbb
  have HIN := Aside0.mk hin
  clear h hm hn hy hbb hin
  go_enter Try.func16, Try.ntmps16
  go_wp2
  go_loopg [9, 10] a (fun r s9 s10 wr => ThereAt w pl x a r s9 s10 wr)
  case atStart => exact ⟨0, rfl, by simp, by omega, rfl⟩
  case round =>
    obtain ⟨i, rfl, rfl, hir, rfl⟩ := hrel
    by_cases hlt : i < a
    · have r1 : decide ((i : Int) < (a : Int)) = true := decide_eq_true (by omega)
      obtain ⟨z, hz⟩ : ∃ z, pl[i]? = some z := ⟨_, List.getElem?_eq_getElem (by have := HM.out.1; omega)⟩
      obtain ⟨gp, rfl⟩ : ∃ gp, AP = some ⟨gp, 0, none⟩ := by
        rcases HH.out.pr.2 with ⟨e, hz⟩ | ⟨gp, cap, cur, e, _⟩
        · have := HM.out.1; omega
        · injection e with e1
          exact ⟨gp, e1⟩
      have cz : w.cell? ⟨gp, i, none⟩ = some (.int .i64 z) := by
        rw [HH.out.pr.cellAt i (by have := HM.out.1; omega), List.getElem?_map, hz]
        rfl
      have HZ := Aside0.mk (there_next (x := x) hz)
      obtain ⟨t, ht⟩ : ∃ t, (pl.take i).contains x = t := ⟨_, rfl⟩
      rw [ht] at HZ ⊢
      clear hz ht
      cases t with
      | true =>
        go_wp2
        go_roundg (a - (i + 1))
        case measure => omega
        case rel => exact ⟨i + 1, by go_num, by rw [HZ.out]; rfl, by omega, rfl⟩
      | false =>
        go_wp2
        go_roundg (a - (i + 1))
        case measure => omega
        case rel => exact ⟨i + 1, by go_num, by rw [HZ.out, Bool.false_or], by omega, rfl⟩
    · obtain rfl : i = a := by omega
      have r1 : decide ((i : Int) < (i : Int)) = false := decide_eq_false (by omega)
      rw [HBB.out]
      cases b with
      | false =>
        go_wp2
        go_ret
        exact ⟨rfl, Below.refl _ _⟩
      | true =>
        obtain rfl : y = 0 := by
          rcases HIN.out with h | h
          · rw [HBB.out] at h; cases h
          · have := HM.out.2.2; omega
        go_wp2
        go_ret
        exact ⟨rfl, Below.refl _ _⟩
set_option maxHeartbeats 8000000 in
set_option maxRecDepth 100000 in
theorem rgot_skip (B g k d : Nat) (pl : List Int) (a aw : Nat) (ps : List Pt) (Pv Qv : Value) (w : World) (h : Rx B w g k d pl a (aw + 1) ps Pv Qv) (x : Int) (ok : Bool) (data : ByteArray) (hin : (pl.take a).contains x = true) (hps : ok = false ∨ k ≤ ps.length) :
    Calls Try.prog 16 #[.pointer (some ⟨g, 0, none⟩), .int .i64 x, .bool ok, .string data] w fun e w' => e = .returned (.bool true) ∧ Rx B w' g k d pl a aw ps Pv Qv ∧ Mod (fun q => q = g) w w' := by
  have HNK := Aside0.mk hps
  clear hps
  obtain ⟨AP, cp, rfl⟩ := own_slice h.pr
  obtain ⟨AQ, cq, rfl⟩ := own_slice h.qr
  obtain ⟨c0, c1, c2, c3, c4, c5⟩ := h.cells
  have HH := Aside0.mk h
  have ha := h.wf.2.2.2.1
  have hp12 := h.wf.2.2.1
  have haw12 : aw + 1 ≤ 12 := by have := h.wf.2.2.2.2.1; omega
  obtain ⟨m, hm⟩ : ∃ m, m = pl.length := ⟨_, rfl⟩
  obtain ⟨n, hn⟩ : ∃ n, n = ps.length := ⟨_, rfl⟩
  obtain ⟨y, hy⟩ : ∃ y : Nat, y = aw + 1 := ⟨_, rfl⟩
  have HM := Aside0.mk (And.intro hm (And.intro hn hy))
  have hk8 := h.wf.1
  have hnk := h.wf.2.2.2.2.2
  rw [← hn] at hnk
  rw [← hm] at c2 ha hp12
  rw [← hn] at c5
  rw [← hy] at c4 haw12
  obtain ⟨b, hbb⟩ : ∃ b, (pl.take a).contains x = b := ⟨_, rfl⟩
  have HBB := Aside0.mk hbb
  have HIN := Aside0.mk hin
  clear h hm hn hy hbb hin
  go_enter Try.func16, Try.ntmps16
  go_wp2
  go_loopg [9, 10] a (fun r s9 s10 wr => ThereAt w pl x a r s9 s10 wr)
  case atStart => exact ⟨0, rfl, by simp, by omega, rfl⟩
  case round =>
    obtain ⟨i, rfl, rfl, hir, rfl⟩ := hrel
    by_cases hlt : i < a
    · have r1 : decide ((i : Int) < (a : Int)) = true := decide_eq_true (by omega)
      obtain ⟨z, hz⟩ : ∃ z, pl[i]? = some z := ⟨_, List.getElem?_eq_getElem (by have := HM.out.1; omega)⟩
      obtain ⟨gp, rfl⟩ : ∃ gp, AP = some ⟨gp, 0, none⟩ := by
        rcases HH.out.pr.2 with ⟨e, hz⟩ | ⟨gp, cap, cur, e, _⟩
        · have := HM.out.1; omega
        · injection e with e1
          exact ⟨gp, e1⟩
      have cz : w.cell? ⟨gp, i, none⟩ = some (.int .i64 z) := by
        rw [HH.out.pr.cellAt i (by have := HM.out.1; omega), List.getElem?_map, hz]
        rfl
      have HZ := Aside0.mk (there_next (x := x) hz)
      obtain ⟨t, ht⟩ : ∃ t, (pl.take i).contains x = t := ⟨_, rfl⟩
      rw [ht] at HZ ⊢
      clear hz ht
      cases t with
      | true =>
        go_wp2
        go_roundg (a - (i + 1))
        case measure => omega
        case rel => exact ⟨i + 1, by go_num, by rw [HZ.out]; rfl, by omega, rfl⟩
      | false =>
        go_wp2
        go_roundg (a - (i + 1))
        case measure => omega
        case rel => exact ⟨i + 1, by go_num, by rw [HZ.out, Bool.false_or], by omega, rfl⟩
    · obtain rfl : i = a := by omega
      have r1 : decide ((i : Int) < (i : Int)) = false := decide_eq_false (by omega)
      rw [HBB.out]
      obtain rfl : b = true := HBB.out.symm.trans HIN.out
      have hy0 : ((y : Int) == 0) = false := beq_eq_false_iff_ne.2 (by have := HM.out.2.2; omega)
      have hy1 : ¬ y = 0 := by have := HM.out.2.2; omega
      have hy2 : 1 ≤ y := by omega
      have f4 := blk_frozen HH.out.blk 4
      go_upto_region 9 with fail
      obtain ⟨W2, hW2⟩ : ∃ W2, W2 = w.setCell ⟨g, 4, none⟩ (.int .i64 ((y : Int) - 1)) := ⟨_, rfl⟩
      obtain ⟨hG2, hM2⟩ := HH.out.aw1 (W1 := W2) (by rw [hW2]; congr 2; have := HM.out.2.2; omega)
      rw [← hW2]
      obtain ⟨e0, e1, e2, e3, e5, e6⟩ := hG2.cells
      rw [← HM.out.2.1] at e6
      have H2 := Aside0.mk (And.intro hG2 hM2)
      clear hW2 hG2 hM2 f4 c0 c1 c2 c3 c4 c5
      cases ok with
      | false =>
        go_quiet (fail)
        have F1 := Aside0.mk (H2.out.1.far (pw_below_drewN (Below.refl _ _) nq))
        have F2 := Aside0.mk (H2.out.2.drewN nq)
        go_wp2
        go_ret
        exact ⟨rfl, F1.out, F2.out⟩
      | true =>
        have hkn : k ≤ n := by
          rcases HNK.out with h | h
          · cases h
          · have := HM.out.2.1; omega
        have r2 : decide ((n : Int) < (k : Int)) = false := decide_eq_false (by omega)
        go_quiet (fail)
        have F1 := Aside0.mk (H2.out.1.far (pw_below_drewN (Below.refl _ _) nq))
        have F2 := Aside0.mk (H2.out.2.drewN nq)
        go_wp2
        go_ret
        exact ⟨rfl, F1.out, F2.out⟩
set_option maxHeartbeats 8000000 in
set_option maxRecDepth 100000 in
theorem rgot_add (B g k d : Nat) (pl : List Int) (a aw : Nat) (ps : List Pt) (Pv Qv : Value) (w : World) (h : Rx B w g k d pl a (aw + 1) ps Pv Qv) (x : Int) (data : ByteArray) (hin : (pl.take a).contains x = true) (hps : ps.length < k) :
    Calls Try.prog 16 #[.pointer (some ⟨g, 0, none⟩), .int .i64 x, .bool true, .string data] w fun e w' => e = .returned (.bool true) ∧ ∃ Q1, Rx B w' g k d pl a aw (ps ++ [⟨x, data⟩]) Pv Q1 ∧ (Q1.ownBlock = Qv.ownBlock ∨ ∃ b, Q1.ownBlock = some b ∧ w.heap.size ≤ b) ∧ Mod (fun q => q = g ∨ some q = Qv.ownBlock) w w' := by
  have HNK := Aside0.mk hps
  clear hps
  obtain ⟨AP, cp, rfl⟩ := own_slice h.pr
  obtain ⟨AQ, cq, rfl⟩ := own_slice h.qr
  obtain ⟨c0, c1, c2, c3, c4, c5⟩ := h.cells
  have HH := Aside0.mk h
  have ha := h.wf.2.2.2.1
  have hp12 := h.wf.2.2.1
  have haw12 : aw + 1 ≤ 12 := by have := h.wf.2.2.2.2.1; omega
  obtain ⟨m, hm⟩ : ∃ m, m = pl.length := ⟨_, rfl⟩
  obtain ⟨n, hn⟩ : ∃ n, n = ps.length := ⟨_, rfl⟩
  obtain ⟨y, hy⟩ : ∃ y : Nat, y = aw + 1 := ⟨_, rfl⟩
  have HM := Aside0.mk (And.intro hm (And.intro hn hy))
  have hk8 := h.wf.1
  have hnk := h.wf.2.2.2.2.2
  rw [← hn] at hnk
  rw [← hm] at c2 ha hp12
  rw [← hn] at c5
  rw [← hy] at c4 haw12
  obtain ⟨b, hbb⟩ : ∃ b, (pl.take a).contains x = b := ⟨_, rfl⟩
  have HBB := Aside0.mk hbb
  have HIN := Aside0.mk hin
  clear h hm hn hy hbb hin
  go_enter Try.func16, Try.ntmps16
  go_wp2
  go_loopg [9, 10] a (fun r s9 s10 wr => ThereAt w pl x a r s9 s10 wr)
  case atStart => exact ⟨0, rfl, by simp, by omega, rfl⟩
  case round =>
    obtain ⟨i, rfl, rfl, hir, rfl⟩ := hrel
    by_cases hlt : i < a
    · have r1 : decide ((i : Int) < (a : Int)) = true := decide_eq_true (by omega)
      obtain ⟨z, hz⟩ : ∃ z, pl[i]? = some z := ⟨_, List.getElem?_eq_getElem (by have := HM.out.1; omega)⟩
      obtain ⟨gp, rfl⟩ : ∃ gp, AP = some ⟨gp, 0, none⟩ := by
        rcases HH.out.pr.2 with ⟨e, hz⟩ | ⟨gp, cap, cur, e, _⟩
        · have := HM.out.1; omega
        · injection e with e1
          exact ⟨gp, e1⟩
      have cz : w.cell? ⟨gp, i, none⟩ = some (.int .i64 z) := by
        rw [HH.out.pr.cellAt i (by have := HM.out.1; omega), List.getElem?_map, hz]
        rfl
      have HZ := Aside0.mk (there_next (x := x) hz)
      obtain ⟨t, ht⟩ : ∃ t, (pl.take i).contains x = t := ⟨_, rfl⟩
      rw [ht] at HZ ⊢
      clear hz ht
      cases t with
      | true =>
        go_wp2
        go_roundg (a - (i + 1))
        case measure => omega
        case rel => exact ⟨i + 1, by go_num, by rw [HZ.out]; rfl, by omega, rfl⟩
      | false =>
        go_wp2
        go_roundg (a - (i + 1))
        case measure => omega
        case rel => exact ⟨i + 1, by go_num, by rw [HZ.out, Bool.false_or], by omega, rfl⟩
    · obtain rfl : i = a := by omega
      have r1 : decide ((i : Int) < (i : Int)) = false := decide_eq_false (by omega)
      rw [HBB.out]
      obtain rfl : b = true := HBB.out.symm.trans HIN.out
      have hy0 : ((y : Int) == 0) = false := beq_eq_false_iff_ne.2 (by have := HM.out.2.2; omega)
      have hy1 : ¬ y = 0 := by have := HM.out.2.2; omega
      have hy2 : 1 ≤ y := by omega
      have f4 := blk_frozen HH.out.blk 4
      go_upto_region 9 with fail
      obtain ⟨W2, hW2⟩ : ∃ W2, W2 = w.setCell ⟨g, 4, none⟩ (.int .i64 ((y : Int) - 1)) := ⟨_, rfl⟩
      obtain ⟨hG2, hM2⟩ := HH.out.aw1 (W1 := W2) (by rw [hW2]; congr 2; have := HM.out.2.2; omega)
      rw [← hW2]
      obtain ⟨e0, e1, e2, e3, e5, e6⟩ := hG2.cells
      rw [← HM.out.2.1] at e6
      have H2 := Aside0.mk (And.intro hG2 hM2)
      clear hW2 hG2 hM2 f4 c0 c1 c2 c3 c4 c5
      have hnk2 : n < k := by have := HNK.out; have := HM.out.2.1; omega
      have r2 : decide ((n : Int) < (k : Int)) = true := decide_eq_true (by have := HNK.out; have := HM.out.2.1; omega)
      go_quiet (fail)
      obtain ⟨W3, hW3⟩ : ∃ W3, W3 = W2.drewN nq := ⟨_, rfl⟩
      have hB3 : Below W2.heap.size W2 W3 := by rw [hW3]; exact pw_below_drewN (Below.refl _ _) _
      rw [← hW3]
      have hG3 := H2.out.1.far hB3
      obtain ⟨j0, j1, j2, j3, j4, j5⟩ := hG3.cells
      rw [← HM.out.2.1] at j5
      have f5 := blk_frozen hG3.blk 5
      have H3 := Aside0.mk (And.intro hG3 hB3)
      clear hW3 hB3 hG3 e0 e1 e2 e3 e5 e6 j0 j1 j2 j3 j4
      have E1 := Aside0.mk (show (W3.alloc (.cells #[.int .i64 x, .string data] 33 (0, 0))).ownsRow B 33 2 (.slice AQ n cq) n (pcls ps) from by rw [HM.out.2.1]; exact pw_own_below H3.out.1.qr (below_alloc (Below.refl _ _) _))
      have E2 := Aside0.mk (show Rx B (W3.alloc (.cells #[.int .i64 x, .string data] 33 (0, 0))) g k d pl i aw ps (.slice AP pl.length cp) (.slice AQ n cq) from by rw [HM.out.2.1]; exact H3.out.1.far (below_alloc (Below.refl _ _) _))
      have E3 := Aside0.mk (show ∀ j u, (pcl ⟨x, data⟩)[j]? = some u → (W3.alloc (.cells #[.int .i64 x, .string data] 33 (0, 0))).cell? ((⟨W3.heap.size, 0, none⟩ : Addr).add j) = some u from fun j u hu => by rw [add_plain]; exact (blk_cell (blk_new W3 _) j).trans (by simpa [pcl] using hu))
      have E4 := Aside0.mk (show n + 1 ≤ maxLen ∧ (n + 1) * 24 ≤ 140737488355328 ∧ B ≤ (W3.alloc (.cells #[.int .i64 x, .string data] 33 (0, 0))).heap.size ∧ ps.length < k from ⟨by unfold maxLen; omega, by omega, by have := blk_lt E2.out.blk; have := E2.out.ge; omega, by have := HNK.out; omega⟩)
      have E5 := Aside0.mk (show Mod (fun q => q = g ∨ some q = (Value.slice AQ n cq).ownBlock) w (W3.alloc (.cells #[.int .i64 x, .string data] 33 (0, 0))) from (((H2.out.2.mono (fun q hq => .inl hq)).then_below H3.out.2).alloc _))
      clear H2 H3
      go_wp2_with (refine ev_append (W := W3.alloc (.cells #[.int .i64 x, .string data] 33 (0, 0))) (.tmp 64) (.tmp 68) 34 33 rfl rfl B _ 2 24 Try.underlying34 info33 rfl (by decide) _ n (pcls ps) rfl E1.out ⟨W3.heap.size, 0, none⟩ 1 1 (pcl ⟨x, data⟩) rfl rfl E3.out (pcl_one _) E4.out.1 E4.out.2.1 E4.out.2.2.1 ?_; intro v2 w_2 ho2 hm2 _ hat2; obtain ⟨AQ2, cq2, rfl⟩ := own_slice ho2; have f6 := blk_frozen (hm2.blk E2.out.blk (fun e => E2.out.ne.2 g e.symm rfl)) 5; have j6 := (blk_cell (hm2.blk E2.out.blk (fun e => E2.out.ne.2 g e.symm rfl)) 5).trans (show #[Value.int .i64 (k : Int), .int .i64 (d : Int), .slice AP pl.length cp, .int .i64 (i : Int), .int .i64 (aw : Int), .slice AQ n cq][5]? = some (.slice AQ n cq) from rfl); have F1 := Aside0.mk ho2; have F2 := Aside0.mk hm2; have F5 := Aside0.mk hat2; clear ho2 hm2 hat2)
      have F3 := Aside0.mk (E2.out.add E4.out.2.2.2 (by rw [← HM.out.2.1]; exact F1.out) F2.out)
      go_ret
      refine ⟨rfl, _, F3.out, ?_, ?_⟩
      · rw [← HM.out.2.1]
        exact F5.out.imp id (fun h => ⟨_, h, E5.out.size⟩)
      · rw [← HM.out.2.1]
        exact (E5.out.trans F2.out (fun q hq => .inl (.inr hq))).setCell (.inl (.inl rfl)) _
end Go.Proofs.Ytnndpjicbcailaa.Ga
