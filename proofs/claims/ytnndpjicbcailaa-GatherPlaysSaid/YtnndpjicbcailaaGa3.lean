/- Gather: New, Got, Parts. -/
import Derived.Test.YtnndpjicbcailaaGa2
namespace Go.Proofs.Ytnndpjicbcailaa.Ga
open Go.RowKit Go.Proofs.YtnndpjicbcailaaW.PrintWords Go.Proofs.YtnndpjicbcailaaW.PrintLast Go.Proofs.YtnndpjicbcailaaW.PrintMore Go.Proofs.Ytnndpjicbcailaa.Lib Go.Proofs.Ytnndpjicbcailaa.Open
theorem Gx.cells {B : Nat} {W : World} {g k d : Nat} {pl : List Int} {a aw : Nat} {ps : List Pt} {Pv Qv : Value} (h : Gx B W g k d pl a aw ps Pv Qv) :
    W.cell? ⟨g, 0, none⟩ = some (.int .i64 (k : Int)) ∧ W.cell? ⟨g, 1, none⟩ = some (.int .i64 (d : Int)) ∧ W.cell? ⟨g, 2, none⟩ = some Pv ∧ W.cell? ⟨g, 3, none⟩ = some (.int .i64 (a : Int)) ∧ W.cell? ⟨g, 4, none⟩ = some (.int .i64 (aw : Int)) ∧ W.cell? ⟨g, 5, none⟩ = some Qv :=
  ⟨blk_cell h.blk 0, blk_cell h.blk 1, blk_cell h.blk 2, blk_cell h.blk 3, blk_cell h.blk 4, blk_cell h.blk 5⟩
set_option maxHeartbeats 4000000 in
set_option maxRecDepth 100000 in
theorem parts_calls (B g k d : Nat) (pl : List Int) (a aw : Nat) (ps : List Pt) (w : World) (h : Gt B w g k d pl a aw ps) :
    Calls Try.prog 13 #[.pointer (some ⟨g, 0, none⟩)] w fun e w' => ∃ v, e = .returned v ∧ w'.ownsRow w.heap.size 33 2 v ps.length (pcls ps) ∧ Below w.heap.size w w' := by
  obtain ⟨Pv, Qv, h⟩ := h
  obtain ⟨AQ, cq, rfl⟩ := own_slice h.qr
  have c5 := h.cells.2.2.2.2.2
  have HH := Aside0.mk h
  have HL := Aside0.mk (show ps.length ≤ 1000 by have := h.wf.2.2.2.2.2; have := h.wf.1; omega)
  clear h
  go_enter Try.func13, Try.ntmps13
  go_wp2_with (go_at_call 21; (with_reducible refine (cloneP_calls AQ ps.length cq ps B _ HH.out.qr rfl HL.out).mono ?_); rintro e_1 w_1 ⟨v, rfl, ho, hb⟩; have HO := Aside0.mk (And.intro ho hb); clear ho hb)
  go_ret
  exact ⟨_, rfl, HO.out.1, HO.out.2⟩
/-- The loop of New: i places are looked at. -/
def NewAt (w0 : World) (n : Nat) (r : Nat) (s31 : Value) (wr : World) : Prop := ∃ i : Nat, s31 = .int .i64 (i : Int) ∧ i + r = n ∧ Below w0.heap.size w0 wr
set_option maxHeartbeats 8000000 in
set_option maxRecDepth 100000 in
theorem new_ok (k d : Nat) (A : Option Addr) (n c : Nat) (l : List Int) (w : World) (hk1 : 1 ≤ k) (hk2 : k ≤ 8) (hd : d ≤ 12) (hn : n ≤ 12) (hA : Rd w A n l) (hc : n ≤ c) (hok : ∀ (i : Nat) (x : Int), l[i]? = some x → 0 ≤ x ∧ x < 12 ∧ (l.take i).contains x = false) (i0 i1 : Int) (e0 : i0 = (k : Int)) (e1 : i1 = (d : Int)) :
    Calls Try.prog 7 #[.int .i64 i0, .int .i64 i1, .slice A n c] w fun e w' => ∃ g, e = .returned (.tuple #[.pointer (some ⟨g, 0, none⟩), .int .i64 0]) ∧ Gt w.heap.size w' g k d l 0 0 [] ∧ w.heap.size ≤ g ∧ Below w.heap.size w w' := by
  subst e0 e1
  have HA := Aside0.mk hA
  have HK := Aside0.mk hok
  have HC := Aside0.mk hc
  have r1 : decide ((k : Int) < 1) = false := decide_eq_false (by omega)
  have r2 : decide ((8 : Int) < (k : Int)) = false := decide_eq_false (by omega)
  have r3 : decide ((d : Int) < 0) = false := decide_eq_false (by omega)
  have r4 : decide ((12 : Int) < (d : Int)) = false := decide_eq_false (by omega)
  have r5 : decide ((12 : Int) < (n : Int)) = false := decide_eq_false (by omega)
  have HB := Aside0.mk (show NewAt w n n (.int .i64 0) w from ⟨0, rfl, by omega, Below.refl _ _⟩)
  clear hA hok
  go_enter Try.func7, Try.ntmps7
  go_wp2
  go_loopg [8, 9, 31] n (fun r s8 s9 s31 wr => NewAt w n r s31 wr)
  case atStart => exact HB.out
  case round =>
    clear HB
    obtain ⟨i, rfl, hir, hb⟩ := hrel
    have HB := Aside0.mk hb
    clear hb
    by_cases hlt : i < n
    · have r6 : decide ((i : Int) < (n : Int)) = true := decide_eq_true (by omega)
      obtain ⟨x, hx⟩ : ∃ x, l[i]? = some x := ⟨_, List.getElem?_eq_getElem (by have := HA.out.1; omega)⟩
      obtain ⟨x0, x12, hct⟩ := HK.out i x hx
      obtain ⟨a, rfl, hcx⟩ := (HA.out.below HB.out).cell hx
      have HCT := Aside0.mk hct
      have r7 : decide (x < 0) = false := decide_eq_false (by omega)
      have r8 : decide ((12 : Int) ≤ x) = false := decide_eq_false (by omega)
      have HI := Aside0.mk (show i ≤ n ∧ i ≤ 1000 ∧ i ≤ c by omega)
      clear hx hct
      go_wp2_with (go_at_call 19; (with_reducible refine (contains_calls (some a) i c (l.take i) x false _ ((HA.out.below HB.out).take i HI.out.1) HI.out.2.2 HI.out.2.1 HCT.out).mono ?_); rintro e_1 w_1 ⟨rfl, hb⟩; have HB_n := Aside0.mk (below_step HB.out hb.below); clear HB; have HB := HB_n; clear HB_n hb)
      go_roundg (n - (i + 1))
      case measure => omega
      case rel => exact ⟨i + 1, by go_num, by omega, HB.out⟩
    · obtain rfl : i = n := by omega
      have r6 : decide ((i : Int) < (i : Int)) = false := decide_eq_false (by omega)
      have HI := Aside0.mk (show i ≤ 1000 by omega)
      go_wp2_with (first | (go_at_call 20; (with_reducible refine (clone_calls A i c l _ (HA.out.below HB.out) HI.out).mono ?_); rintro e_1 w_1 ⟨v, rfl, ho, hb⟩; obtain ⟨Av2, cv2, rfl⟩ := own_slice ho; have HO := Aside0.mk (own_weaken ho HB.out.size); have HB_n := Aside0.mk (below_step HB.out hb); clear HB; have HB := HB_n; clear HB_n ho hb) | (refine gate_ (.box 53 (.tmp 54)) rfl ?_; refine box_event ?hg (N := 55) ?hd (cs := #[.int .i64 (k : Int), .int .i64 (d : Int), .slice Av2 i cv2, .int .i64 0, .int .i64 0, .slice none 0 0]) (t := 53) ?hr ?_; (case hd => rfl); (case hg => rfl); (case hr => first | (go_simp; done) | (go_simp; rfl)); intro q hgb w_1 hbox hb; have KQ := Aside0.mk hbox; have GQ := Aside0.mk (show w.heap.size ≤ q from by rw [hgb]; exact HB.out.size); have PQ := Aside0.mk (show ∀ q', (Value.slice Av2 i cv2).ownBlock = some q' → q' < q from fun q' h => by rw [hgb]; exact own_lt HO.out q' h); have HB_n := Aside0.mk (below_step HB.out hb); have HO_n := Aside0.mk (pw_own_below HO.out hb); clear HB HO; have HB := HB_n; have HO := HO_n; clear HB_n HO_n hgb hbox hb))
      refine bodyPost_ret (results_tmp2 rfl _ _ _) rfl ?_
      exact ⟨q, rfl, ⟨_, _, GQ.out, KQ.out, by rw [HA.out.1]; exact HO.out, own_nil _ _ _ _, PQ.out, hk2, hd, by rw [HA.out.1]; exact hn, Nat.zero_le _, Nat.zero_le _, Nat.zero_le _⟩, GQ.out, HB.out⟩
theorem Gx.add {B : Nat} {W W1 : World} {g k d : Nat} {pl : List Int} {a aw : Nat} {ps : List Pt} {Pv Qv Q1 : Value} {p : Pt} (h : Gx B W g k d pl a aw ps Pv Qv) (hl : ps.length < k) (ho : W1.ownsRow B 33 2 Q1 (ps.length + 1) (pcls ps ++ pcl p)) (hm : Mod (fun q => some q = Qv.ownBlock) W W1) : Gx B (W1.setCell ⟨g, 5, none⟩ Q1) g k d pl a aw (ps ++ [p]) Pv Q1 := by
  have hne : ∀ q, some q = Qv.ownBlock → q ≠ g := fun q hq => h.ne.2 q hq.symm
  have hb : W1.heap[g]? = _ := hm.blk h.blk (fun e => hne g e rfl)
  have hp : W1.ownsRow B 3 1 Pv pl.length (pl.map (Value.int .i64)) := hm.own h.pr (fun q hq e => by
    obtain ⟨c1, h1⟩ := own_typed h.pr q hq
    obtain ⟨c2, h2⟩ := own_typed h.qr q e.symm
    rw [h1] at h2
    injection h2 with h2
    injection h2 with _ h2
    exact absurd h2 (by decide))
  have hs := Mod.setCell (p := ⟨g, 5, none⟩) (Mod.refl (fun q => q = g) W1) (.inl rfl) Q1
  have key : ∀ (q : Nat) (cur : Array Value) (t : TypeId), W1.heap[q]? = some (.cells cur t (0, 0)) → t ≠ 53 → ¬ q = g := fun q cur t hk ht e => by
    rw [e, hb] at hk
    injection hk with hk
    injection hk with _ hk
    exact ht hk.symm
  refine ⟨h.ge, blk_put hb 5 _ rfl, hs.own hp (fun q hq => by obtain ⟨c, hc⟩ := own_typed hp q hq; exact key _ _ _ hc (by decide)), ?_, h.pg, h.wf.1, h.wf.2.1, h.wf.2.2.1, h.wf.2.2.2.1, h.wf.2.2.2.2.1, ?_⟩
  · rw [List.length_append, List.length_singleton, pcls_append, pcls_single]
    exact hs.own ho (fun q hq => by obtain ⟨c, hc⟩ := own_typed ho q hq; exact key _ _ _ hc (by decide))
  · rw [List.length_append, List.length_singleton]
    omega
theorem Gx.aw1 {B : Nat} {W W1 : World} {g k d : Nat} {pl : List Int} {a aw : Nat} {ps : List Pt} {Pv Qv : Value} (h : Gx B W g k d pl a (aw + 1) ps Pv Qv) (hw : W1 = W.setCell ⟨g, 4, none⟩ (.int .i64 (aw : Int))) : Gx B W1 g k d pl a aw ps Pv Qv ∧ Mod (fun q => q = g) W W1 := by
  subst hw
  have hm := Mod.setCell (p := ⟨g, 4, none⟩) (Mod.refl (fun q => q = g) W) (.inl rfl) (.int .i64 (aw : Int))
  exact ⟨h.upd hm ⟨h.wf.2.2.2.1, by have := h.wf.2.2.2.2.1; omega⟩ (blk_put h.blk 4 _ rfl), hm⟩
/-- A world behind W in which all that W had is as it was. -/
structure Wd (W : World) where
  w : World
  h : Below W.heap.size W w
/-- A region that draws its order and whose calls make memory: one walk of the text's order. -/
theorem wp_quiet_wd {P : Program} {id : Nat} {Q : Exit → Act → World → Prop} {a : Act} {W : World} {l : List Oper} (hm : P.follows .mixedOrders = true) (hB : Region.lexB .any l.toArray = true)
    (h : wpQuiet P l.toArray (fun w' => ∃ n : Wd W, w' = n.w) (fun a' => ∀ w', (∃ n : Wd W, w' = n.w) → Q .normal a' w') l a) : (Code.region id l.toArray true).wp P Q a W :=
  wp_region_quiet (C := fun w' => ∃ n : Wd W, w' = n.w) hm hB ⟨⟨W.drew, below_drew (Below.refl _ _)⟩, rfl⟩ (by simpa using h)
instance Wd.here {W : World} : Nonempty (Wd W) := ⟨⟨W, Below.refl _ _⟩⟩
theorem Wd.cell {W : World} {p : Addr} {v : Value} (h : W.cell? p = some v) : ∀ n : Wd W, n.w.cell? p = some v := fun n => pw_cell_below n.h h
/-- What Got writes. -/
def Gs (B : Nat) (W : World) (S : Nat → Prop) : Prop := ∀ q, S q → B ≤ q ∧ ∃ cur t, W.heap[q]? = some (.cells cur t (0, 0)) ∧ (t = 53 ∨ t = 33)
set_option maxHeartbeats 8000000 in
set_option maxRecDepth 100000 in
/-- Got, of a place that was not asked, or where none is awaited. -/
theorem got_no (B g k d : Nat) (pl : List Int) (a aw : Nat) (ps : List Pt) (w : World) (h : Gt B w g k d pl a aw ps) (x : Int) (ok : Bool) (data : ByteArray) (hno : (pl.take a).contains x = false ∨ aw = 0) :
    Calls Try.prog 9 #[.pointer (some ⟨g, 0, none⟩), .int .i64 x, .bool ok, .string data] w fun e w' => e = .returned (.bool false) ∧ Below w.heap.size w w' := by
  obtain ⟨Pv, Qv, h⟩ := h
  obtain ⟨AP, cp, rfl⟩ := own_slice h.pr
  obtain ⟨b, hb⟩ : ∃ b, (pl.take a).contains x = b := ⟨_, rfl⟩
  obtain ⟨c0, c1, c2, c3, c4, c5⟩ := h.cells
  have hcp : pl.length ≤ cp := own_cap h.pr
  have HH := Aside0.mk h
  have ha := h.wf.2.2.2.1
  have hp12 := h.wf.2.2.1
  have HB := Aside0.mk hb
  have HL := Aside0.mk (show a ≤ cp ∧ a ≤ 1000 by omega)
  have HR := Aside0.mk ((own_rd h.pr rfl (by omega)).take a ha)
  obtain ⟨m, hm⟩ : ∃ m, m = pl.length := ⟨_, rfl⟩
  have HM := Aside0.mk hm
  rw [← hm] at c2 ha hcp
  rw [hb] at hno
  have hac : a ≤ cp := HL.out.1
  have hd0 := Wd.cell c0
  have hd1 := Wd.cell c1
  have hd2 := Wd.cell c2
  have hd3 := Wd.cell c3
  have hd4 := Wd.cell c4
  have hd5 := Wd.cell c5
  clear h hb hm hp12 c0 c1 c2 c3 c4 c5
  cases AP with
  | none =>
    obtain ⟨rfl, rfl⟩ : m = 0 ∧ cp = 0 := by
      rcases HH.out.pr.2 with ⟨e, hz⟩ | ⟨g', cap, cur, e, _⟩
      · injection e with e1 e2 e3
        exact ⟨HM.out.trans e2, e3⟩
      · cases e
    obtain rfl : a = 0 := by omega
    obtain rfl : b = false := by rw [← HB.out]; rfl
    go_enter Try.func9, Try.ntmps9
    go_wp2
    refine wp_quiet_wd (by kernel_rfl) (by kernel_rfl) ?_
    repeat (go_big_quiet_step ((go_at_call 19; refine (contains_calls none _ _ _ x false _ (HR.out.below (Wd.h _)) HL.out.1 HL.out.2 HB.out).mono ?_; rintro e_1 w_1 ⟨rfl, hb⟩; exact ⟨rfl, ⟨w_1, below_step (Wd.h _) hb.below⟩, rfl⟩)))
    refine wpQuiet_nil ?_
    rintro _ ⟨nw, rfl⟩
    go_wp2
    go_ret
    exact ⟨rfl, nw.h⟩
  | some ap =>
    cases b with
    | false =>
      go_enter Try.func9, Try.ntmps9
      go_wp2
      refine wp_quiet_wd (by kernel_rfl) (by kernel_rfl) ?_
      repeat (go_big_quiet_step ((go_at_call 19; refine (contains_calls (some ap) a cp (pl.take a) x false _ (HR.out.below (Wd.h _)) HL.out.1 HL.out.2 HB.out).mono ?_; rintro e_1 w_1 ⟨rfl, hb⟩; exact ⟨rfl, ⟨w_1, below_step (Wd.h _) hb.below⟩, rfl⟩)))
      refine wpQuiet_nil ?_
      rintro _ ⟨nw, rfl⟩
      go_wp2
      go_ret
      exact ⟨rfl, nw.h⟩
    | true =>
      obtain rfl : aw = 0 := hno.elim (fun h => by cases h) id
      go_enter Try.func9, Try.ntmps9
      go_wp2
      refine wp_quiet_wd (by kernel_rfl) (by kernel_rfl) ?_
      repeat (go_big_quiet_step ((go_at_call 19; refine (contains_calls (some ap) a cp (pl.take a) x true _ (HR.out.below (Wd.h _)) HL.out.1 HL.out.2 HB.out).mono ?_; rintro e_1 w_1 ⟨rfl, hb⟩; exact ⟨rfl, ⟨w_1, below_step (Wd.h _) hb.below⟩, rfl⟩)))
      refine wpQuiet_nil ?_
      rintro _ ⟨nw, rfl⟩
      go_wp2
      go_ret
      exact ⟨rfl, nw.h⟩
set_option maxHeartbeats 8000000 in
set_option maxRecDepth 100000 in
/-- Got, of a place that was asked; the part is kept. -/
theorem got_x_add (B g k d : Nat) (pl : List Int) (a aw : Nat) (ps : List Pt) (Pv Qv : Value) (w : World) (h : Gx B w g k d pl a (aw + 1) ps Pv Qv) (x : Int) (data : ByteArray) (hin : (pl.take a).contains x = true) (hps : ps.length < k) :
    Calls Try.prog 9 #[.pointer (some ⟨g, 0, none⟩), .int .i64 x, .bool true, .string data] w fun e w' => e = .returned (.bool true) ∧ ∃ Q1, Gx B w' g k d pl a aw (ps ++ [⟨x, data⟩]) Pv Q1 ∧ (Q1.ownBlock = Qv.ownBlock ∨ ∃ b, Q1.ownBlock = some b ∧ w.heap.size ≤ b) ∧ Mod (fun q => q = g ∨ some q = Qv.ownBlock) w w' := by
  have HNK := hps
  obtain ⟨AP, cp, rfl⟩ := own_slice h.pr
  obtain ⟨AQ, cq, rfl⟩ := own_slice h.qr
  obtain ⟨c0, c1, c2, c3, c4, c5⟩ := h.cells
  have hcp : pl.length ≤ cp := own_cap h.pr
  have HH := Aside0.mk h
  have ha := h.wf.2.2.2.1
  have hp12 := h.wf.2.2.1
  have HB := Aside0.mk hin
  have HL := Aside0.mk (show a ≤ cp ∧ a ≤ 1000 by omega)
  have HR := Aside0.mk ((own_rd h.pr rfl (by omega)).take a ha)
  have ha0 : 0 < a := by
    rcases Nat.eq_zero_or_pos a with h0 | h0
    · subst h0; rw [List.take_zero] at hin; cases hin
    · exact h0
  obtain ⟨ap, rfl⟩ : ∃ ap, AP = some ap := by
    cases AP with
    | none =>
      rcases h.pr.2 with ⟨e, hz⟩ | ⟨g', cap, cur, e, _⟩
      · omega
      · cases e
    | some ap => exact ⟨ap, rfl⟩
  have haw12 : aw + 1 ≤ 12 := by have := h.wf.2.2.2.2.1; omega
  obtain ⟨m, hm⟩ : ∃ m, m = pl.length := ⟨_, rfl⟩
  obtain ⟨n, hn⟩ : ∃ n, n = ps.length := ⟨_, rfl⟩
  obtain ⟨y, hy⟩ : ∃ y : Nat, y = aw + 1 := ⟨_, rfl⟩
  have HM := Aside0.mk (And.intro hm (And.intro hn hy))
  have hk8 := h.wf.1
  have hnk := h.wf.2.2.2.2.2
  rw [← hn] at hnk
  rw [← hm] at c2 ha hcp
  rw [← hn] at c5 HNK
  rw [← hy] at c4 haw12
  have hac : a ≤ cp := HL.out.1
  have hy0 : ((y : Int) == 0) = false := beq_eq_false_iff_ne.2 (by omega)
  have hy1 : ¬ y = 0 := by omega
  have hy2 : 1 ≤ y := by omega
  have hd0 := Wd.cell c0
  have hd1 := Wd.cell c1
  have hd2 := Wd.cell c2
  have hd3 := Wd.cell c3
  have hd4 := Wd.cell c4
  have hd5 := Wd.cell c5
  clear h hin hm hn hy hp12 c0 c1 c2 c3 c4 c5
  go_enter Try.func9, Try.ntmps9
  go_wp2
  refine wp_quiet_wd (by kernel_rfl) (by kernel_rfl) ?_
  repeat (go_big_quiet_step ((go_at_call 19; refine (contains_calls (some ap) a cp (pl.take a) x true _ (HR.out.below (Wd.h _)) HL.out.1 HL.out.2 HB.out).mono ?_; rintro e_1 w_1 ⟨rfl, hb⟩; exact ⟨rfl, ⟨w_1, below_step (Wd.h _) hb.below⟩, rfl⟩)))
  refine wpQuiet_nil ?_
  rintro _ ⟨nw, rfl⟩
  obtain ⟨W1, hW1⟩ : ∃ W1, W1 = nw.w := ⟨_, rfl⟩
  have hB1 : Below w.heap.size w W1 := by rw [hW1]; exact nw.h
  rw [← hW1]
  have hG1 := HH.out.far hB1
  obtain ⟨e0, e1, e2, e3, e4, e5⟩ := hG1.cells
  rw [← HM.out.2.2] at e4
  have f4 := blk_frozen hG1.blk 4
  have H1 := Aside0.mk (And.intro hB1 hG1)
  clear hW1 hB1 hG1 hd0 hd1 hd2 hd3 hd4 hd5 e0 e1 e2 e3 e5
  go_wp2
  obtain ⟨W2, hW2⟩ : ∃ W2, W2 = W1.setCell ⟨g, 4, none⟩ (.int .i64 ((y : Int) - 1)) := ⟨_, rfl⟩
  obtain ⟨hG2, hM2⟩ := H1.out.2.aw1 (W1 := W2) (by rw [hW2]; congr 2; have := HM.out.2.2; omega)
  rw [← hW2]
  obtain ⟨e0, e1, e2, e3, e5, e6⟩ := hG2.cells
  rw [← HM.out.2.1] at e6
  have H2 := Aside0.mk (And.intro hG2 hM2)
  clear hW2 hG2 hM2 e4 f4
  have r1 : decide ((n : Int) < (k : Int)) = true := decide_eq_true (by omega)
  go_quiet (fail)
  obtain ⟨W3, hW3⟩ : ∃ W3, W3 = W2.drewN nq := ⟨_, rfl⟩
  have hB3 : Below W2.heap.size W2 W3 := by rw [hW3]; exact pw_below_drewN (Below.refl _ _) _
  rw [← hW3]
  have hG3 := H2.out.1.far hB3
  obtain ⟨j0, j1, j2, j3, j4, j5⟩ := hG3.cells
  rw [← HM.out.2.1] at j5
  have f5 := blk_frozen hG3.blk 5
  have H3 := Aside0.mk (And.intro hG3 hB3)
  clear hW3 hB3 hG3 e0 e1 e2 e3 e5 e6 j0 j1 j2 j3 j4
  have E1 := Aside0.mk (show (W3.alloc (.cells #[.int .i64 x, .string data] 33 (0, 0))).ownsRow B 33 2 (.slice AQ n cq) n (pcls ps) from by rw [HM.out.2.1]; exact pw_own_below H3.out.1.qr (below_alloc (Below.refl _ _) _))
  have E2 := Aside0.mk (show Gx B (W3.alloc (.cells #[.int .i64 x, .string data] 33 (0, 0))) g k d pl a aw ps (.slice (some ap) pl.length cp) (.slice AQ n cq) from by rw [HM.out.2.1]; exact H3.out.1.far (below_alloc (Below.refl _ _) _))
  have E3 := Aside0.mk (show ∀ j u, (pcl ⟨x, data⟩)[j]? = some u → (W3.alloc (.cells #[.int .i64 x, .string data] 33 (0, 0))).cell? ((⟨W3.heap.size, 0, none⟩ : Addr).add j) = some u from fun j u hu => by rw [add_plain]; exact (blk_cell (blk_new W3 _) j).trans (by simpa [pcl] using hu))
  have E4 := Aside0.mk (show n + 1 ≤ maxLen ∧ (n + 1) * 24 ≤ 140737488355328 ∧ B ≤ (W3.alloc (.cells #[.int .i64 x, .string data] 33 (0, 0))).heap.size ∧ ps.length < k from ⟨by unfold maxLen; omega, by omega, by have := blk_lt E2.out.blk; have := E2.out.ge; omega, by have := HM.out.2.1; omega⟩)
  have E5 := Aside0.mk (show Mod (fun q => q = g ∨ some q = (Value.slice AQ n cq).ownBlock) w (W3.alloc (.cells #[.int .i64 x, .string data] 33 (0, 0))) from ((((Mod.of_below H1.out.1 _).trans H2.out.2 (fun q hq => .inl (.inl hq))).then_below H3.out.2).alloc _))
  clear H1 H2 H3
  go_wp2_with (refine ev_append (W := W3.alloc (.cells #[.int .i64 x, .string data] 33 (0, 0))) (.tmp 52) (.tmp 56) 34 33 rfl rfl B _ 2 24 Try.underlying34 info33 rfl (by decide) _ n (pcls ps) rfl E1.out ⟨W3.heap.size, 0, none⟩ 1 1 (pcl ⟨x, data⟩) rfl rfl E3.out (pcl_one _) E4.out.1 E4.out.2.1 E4.out.2.2.1 ?_; intro v2 w_2 ho2 hm2 _ hat2; obtain ⟨AQ2, cq2, rfl⟩ := own_slice ho2; have f6 := blk_frozen (hm2.blk E2.out.blk (fun e => E2.out.ne.2 g e.symm rfl)) 5; have j6 := (blk_cell (hm2.blk E2.out.blk (fun e => E2.out.ne.2 g e.symm rfl)) 5).trans (show #[Value.int .i64 (k : Int), .int .i64 (d : Int), .slice (some ap) pl.length cp, .int .i64 (a : Int), .int .i64 (aw : Int), .slice AQ n cq][5]? = some (.slice AQ n cq) from rfl); have F1 := Aside0.mk ho2; have F2 := Aside0.mk hm2; have F5 := Aside0.mk hat2; clear ho2 hm2 hat2)
  have F3 := Aside0.mk (E2.out.add E4.out.2.2.2 (by rw [← HM.out.2.1]; exact F1.out) F2.out)
  go_ret
  refine ⟨rfl, _, F3.out, ?_, ?_⟩
  · rw [← HM.out.2.1]
    exact F5.out.imp id (fun h => ⟨_, h, E5.out.size⟩)
  · rw [← HM.out.2.1]
    exact (E5.out.trans F2.out (fun q hq => .inl (.inr hq))).setCell (.inl (.inl rfl)) _
set_option maxHeartbeats 8000000 in
set_option maxRecDepth 100000 in
/-- Got, of a place that was asked; no part is kept. -/
theorem got_x_skip (B g k d : Nat) (pl : List Int) (a aw : Nat) (ps : List Pt) (Pv Qv : Value) (w : World) (h : Gx B w g k d pl a (aw + 1) ps Pv Qv) (x : Int) (ok : Bool) (data : ByteArray) (hin : (pl.take a).contains x = true) (hps : ok = false ∨ k ≤ ps.length) :
    Calls Try.prog 9 #[.pointer (some ⟨g, 0, none⟩), .int .i64 x, .bool ok, .string data] w fun e w' => e = .returned (.bool true) ∧ Gx B w' g k d pl a aw ps Pv Qv ∧ Mod (fun q => q = g) w w' := by
  have HNK := hps
  obtain ⟨AP, cp, rfl⟩ := own_slice h.pr
  obtain ⟨AQ, cq, rfl⟩ := own_slice h.qr
  obtain ⟨c0, c1, c2, c3, c4, c5⟩ := h.cells
  have hcp : pl.length ≤ cp := own_cap h.pr
  have HH := Aside0.mk h
  have ha := h.wf.2.2.2.1
  have hp12 := h.wf.2.2.1
  have HB := Aside0.mk hin
  have HL := Aside0.mk (show a ≤ cp ∧ a ≤ 1000 by omega)
  have HR := Aside0.mk ((own_rd h.pr rfl (by omega)).take a ha)
  have ha0 : 0 < a := by
    rcases Nat.eq_zero_or_pos a with h0 | h0
    · subst h0; rw [List.take_zero] at hin; cases hin
    · exact h0
  obtain ⟨ap, rfl⟩ : ∃ ap, AP = some ap := by
    cases AP with
    | none =>
      rcases h.pr.2 with ⟨e, hz⟩ | ⟨g', cap, cur, e, _⟩
      · omega
      · cases e
    | some ap => exact ⟨ap, rfl⟩
  have haw12 : aw + 1 ≤ 12 := by have := h.wf.2.2.2.2.1; omega
  obtain ⟨m, hm⟩ : ∃ m, m = pl.length := ⟨_, rfl⟩
  obtain ⟨n, hn⟩ : ∃ n, n = ps.length := ⟨_, rfl⟩
  obtain ⟨y, hy⟩ : ∃ y : Nat, y = aw + 1 := ⟨_, rfl⟩
  have HM := Aside0.mk (And.intro hm (And.intro hn hy))
  have hk8 := h.wf.1
  have hnk := h.wf.2.2.2.2.2
  rw [← hn] at hnk
  rw [← hm] at c2 ha hcp
  rw [← hn] at c5 HNK
  rw [← hy] at c4 haw12
  have hac : a ≤ cp := HL.out.1
  have hy0 : ((y : Int) == 0) = false := beq_eq_false_iff_ne.2 (by omega)
  have hy1 : ¬ y = 0 := by omega
  have hy2 : 1 ≤ y := by omega
  have hd0 := Wd.cell c0
  have hd1 := Wd.cell c1
  have hd2 := Wd.cell c2
  have hd3 := Wd.cell c3
  have hd4 := Wd.cell c4
  have hd5 := Wd.cell c5
  clear h hin hm hn hy hp12 c0 c1 c2 c3 c4 c5
  go_enter Try.func9, Try.ntmps9
  go_wp2
  refine wp_quiet_wd (by kernel_rfl) (by kernel_rfl) ?_
  repeat (go_big_quiet_step ((go_at_call 19; refine (contains_calls (some ap) a cp (pl.take a) x true _ (HR.out.below (Wd.h _)) HL.out.1 HL.out.2 HB.out).mono ?_; rintro e_1 w_1 ⟨rfl, hb⟩; exact ⟨rfl, ⟨w_1, below_step (Wd.h _) hb.below⟩, rfl⟩)))
  refine wpQuiet_nil ?_
  rintro _ ⟨nw, rfl⟩
  obtain ⟨W1, hW1⟩ : ∃ W1, W1 = nw.w := ⟨_, rfl⟩
  have hB1 : Below w.heap.size w W1 := by rw [hW1]; exact nw.h
  rw [← hW1]
  have hG1 := HH.out.far hB1
  obtain ⟨e0, e1, e2, e3, e4, e5⟩ := hG1.cells
  rw [← HM.out.2.2] at e4
  have f4 := blk_frozen hG1.blk 4
  have H1 := Aside0.mk (And.intro hB1 hG1)
  clear hW1 hB1 hG1 hd0 hd1 hd2 hd3 hd4 hd5 e0 e1 e2 e3 e5
  go_wp2
  obtain ⟨W2, hW2⟩ : ∃ W2, W2 = W1.setCell ⟨g, 4, none⟩ (.int .i64 ((y : Int) - 1)) := ⟨_, rfl⟩
  obtain ⟨hG2, hM2⟩ := H1.out.2.aw1 (W1 := W2) (by rw [hW2]; congr 2; have := HM.out.2.2; omega)
  rw [← hW2]
  obtain ⟨e0, e1, e2, e3, e5, e6⟩ := hG2.cells
  rw [← HM.out.2.1] at e6
  have H2 := Aside0.mk (And.intro hG2 hM2)
  clear hW2 hG2 hM2 e4 f4
  cases ok with
  | false =>
    go_quiet (fail)
    have F1 := Aside0.mk (H2.out.1.far (pw_below_drewN (Below.refl _ _) nq))
    have F2 := Aside0.mk (show Mod (fun q => q = g) w (W2.drewN nq) from (((Mod.of_below H1.out.1 _).trans H2.out.2 (fun q hq => .inl hq)).drewN nq))
    go_wp2
    go_ret
    exact ⟨rfl, F1.out, F2.out⟩
  | true =>
    have hkn : k ≤ n := HNK.elim (fun h => by cases h) id
    have r1 : decide ((n : Int) < (k : Int)) = false := decide_eq_false (by omega)
    go_quiet (fail)
    have F1 := Aside0.mk (H2.out.1.far (pw_below_drewN (Below.refl _ _) nq))
    have F2 := Aside0.mk (show Mod (fun q => q = g) w (W2.drewN nq) from (((Mod.of_below H1.out.1 _).trans H2.out.2 (fun q hq => .inl hq)).drewN nq))
    go_wp2
    go_ret
    exact ⟨rfl, F1.out, F2.out⟩
theorem Gx.gs2 {B : Nat} {W : World} {g k d : Nat} {pl : List Int} {a aw : Nat} {ps : List Pt} {Pv Qv : Value} (h : Gx B W g k d pl a aw ps Pv Qv) : Gs B W (fun q => q = g ∨ some q = Qv.ownBlock) := fun q hq => by
  rcases hq with rfl | hq
  · exact ⟨h.ge, _, _, h.blk, .inl rfl⟩
  · obtain ⟨c, hc⟩ := own_typed h.qr q hq.symm
    exact ⟨own_base h.qr q hq.symm, c, _, hc, .inr rfl⟩
theorem got_add (B g k d : Nat) (pl : List Int) (a aw : Nat) (ps : List Pt) (w : World) (h : Gt B w g k d pl a (aw + 1) ps) (x : Int) (data : ByteArray) (hin : (pl.take a).contains x = true) (hps : ps.length < k) :
    Calls Try.prog 9 #[.pointer (some ⟨g, 0, none⟩), .int .i64 x, .bool true, .string data] w fun e w' => e = .returned (.bool true) ∧ Gt B w' g k d pl a aw (ps ++ [⟨x, data⟩]) ∧ ∃ S, Gs B w S ∧ Mod S w w' := by
  obtain ⟨Pv, Qv, h⟩ := h
  exact (got_x_add B g k d pl a aw ps Pv Qv w h x data hin hps).mono fun _ _ ⟨h1, Q1, h2, _, h4⟩ => ⟨h1, ⟨_, _, h2⟩, _, h.gs2, h4⟩
theorem got_skip (B g k d : Nat) (pl : List Int) (a aw : Nat) (ps : List Pt) (w : World) (h : Gt B w g k d pl a (aw + 1) ps) (x : Int) (ok : Bool) (data : ByteArray) (hin : (pl.take a).contains x = true) (hps : ok = false ∨ k ≤ ps.length) :
    Calls Try.prog 9 #[.pointer (some ⟨g, 0, none⟩), .int .i64 x, .bool ok, .string data] w fun e w' => e = .returned (.bool true) ∧ Gt B w' g k d pl a aw ps ∧ ∃ S, Gs B w S ∧ Mod S w w' := by
  obtain ⟨Pv, Qv, h⟩ := h
  exact (got_x_skip B g k d pl a aw ps Pv Qv w h x ok data hin hps).mono fun _ _ ⟨h1, h2, h4⟩ => ⟨h1, ⟨_, _, h2⟩, _, h.gs2, h4.mono (fun q hq => .inl hq)⟩
end Go.Proofs.Ytnndpjicbcailaa.Ga
