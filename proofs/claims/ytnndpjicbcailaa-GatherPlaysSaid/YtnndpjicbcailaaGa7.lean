/- The document's Gather: its state; State, Next. -/
import Derived.Test.YtnndpjicbcailaaGa4
namespace Go.Proofs.Ytnndpjicbcailaa.Ga
open Go.RowKit Go.Proofs.YtnndpjicbcailaaW.PrintWords Go.Proofs.YtnndpjicbcailaaW.PrintLast Go.Proofs.YtnndpjicbcailaaW.PrintMore Go.Proofs.Ytnndpjicbcailaa.Lib Go.Proofs.Ytnndpjicbcailaa.Open
/-- A Gather at block g: k, delta, the places, how many were asked, how many are awaited, the parts. -/
structure Rx (B : Nat) (W : World) (g k d : Nat) (pl : List Int) (a aw : Nat) (ps : List Pt) (Pv Qv : Value) : Prop where
  ge : B ≤ g
  blk : W.heap[g]? = some (.cells #[.int .i64 (k : Int), .int .i64 (d : Int), Pv, .int .i64 (a : Int), .int .i64 (aw : Int), Qv] 44 (0, 0))
  pr : W.ownsRow B 3 1 Pv pl.length (pl.map (Value.int .i64))
  qr : W.ownsRow B 33 2 Qv ps.length (pcls ps)
  pg : ∀ q, Pv.ownBlock = some q → q < g
  wf : k ≤ 8 ∧ d ≤ 12 ∧ pl.length ≤ 12 ∧ a ≤ pl.length ∧ aw ≤ a ∧ ps.length ≤ k
section
variable {B : Nat} {W W1 : World} {g k d : Nat} {pl : List Int} {a aw a1 aw1 : Nat} {ps : List Pt} {Pv Qv : Value}
theorem Rx.far (h : Rx B W g k d pl a aw ps Pv Qv) (hb : Below W.heap.size W W1) : Rx B W1 g k d pl a aw ps Pv Qv :=
  ⟨h.ge, (hb.block _ (blk_lt h.blk)).trans h.blk, pw_own_below h.pr hb, pw_own_below h.qr hb, h.pg, h.wf⟩
theorem Rx.lt (h : Rx B W g k d pl a aw ps Pv Qv) : g < W.heap.size ∧ (∀ q, Pv.ownBlock = some q → q < W.heap.size) ∧ (∀ q, Qv.ownBlock = some q → q < W.heap.size) := ⟨blk_lt h.blk, own_lt h.pr, own_lt h.qr⟩
/-- Other blocks are written. -/
theorem Rx.mod (h : Rx B W g k d pl a aw ps Pv Qv) {S : Nat → Prop} (hm : Mod S W W1) (hg : ¬ S g) (hp : ∀ q, Pv.ownBlock = some q → ¬ S q) (hq : ∀ q, Qv.ownBlock = some q → ¬ S q) : Rx B W1 g k d pl a aw ps Pv Qv :=
  ⟨h.ge, hm.blk h.blk hg, hm.own h.pr hp, hm.own h.qr hq, h.pg, h.wf⟩
theorem Rx.ne (h : Rx B W g k d pl a aw ps Pv Qv) : (∀ q, Pv.ownBlock = some q → ¬ q = g) ∧ (∀ q, Qv.ownBlock = some q → ¬ q = g) := by
  have key : ∀ (k : Nat) (cur : Array Value) (t : TypeId), W.heap[k]? = some (.cells cur t (0, 0)) → t ≠ 44 → ¬ k = g := fun k cur t hk ht e => by
    rw [e, h.blk] at hk
    injection hk with hk
    injection hk with _ hk
    exact ht hk.symm
  exact ⟨fun q hq => by obtain ⟨c, hc⟩ := own_typed h.pr q hq; exact key _ _ _ hc (by decide), fun q hq => by obtain ⟨c, hc⟩ := own_typed h.qr q hq; exact key _ _ _ hc (by decide)⟩
/-- A row of numbers that was made behind it is written. -/
theorem Rx.row (h : Rx B W g k d pl a aw ps Pv Qv) {H0 n : Nat} {v : Value} {xs : List Value} (ho : W.ownsRow H0 3 1 v n xs) (hg : g < H0) (hm : Mod (fun q => some q = v.ownBlock) W W1) : Rx B W1 g k d pl a aw ps Pv Qv :=
  h.mod hm (fun e => by have := own_base ho g e.symm; omega) (fun q hq e => by have := own_base ho q e.symm; have := h.pg q hq; omega) (fun q hq e => by
    obtain ⟨c1, h1⟩ := own_typed h.qr q hq
    obtain ⟨c2, h2⟩ := own_typed ho q e.symm
    rw [h1] at h2
    injection h2 with h2
    injection h2 with _ h2
    exact absurd h2 (by decide))
/-- The numbers are written. -/
theorem Rx.upd (h : Rx B W g k d pl a aw ps Pv Qv) (hm : Mod (fun q => q = g) W W1) (hw : a1 ≤ pl.length ∧ aw1 ≤ a1) (hb : W1.heap[g]? = some (.cells #[.int .i64 (k : Int), .int .i64 (d : Int), Pv, .int .i64 (a1 : Int), .int .i64 (aw1 : Int), Qv] 44 (0, 0))) : Rx B W1 g k d pl a1 aw1 ps Pv Qv :=
  ⟨h.ge, hb, hm.own h.pr h.ne.1, hm.own h.qr h.ne.2, h.pg, h.wf.1, h.wf.2.1, h.wf.2.2.1, hw.1, hw.2, h.wf.2.2.2.2.2⟩
end
theorem Rx.cells {B : Nat} {W : World} {g k d : Nat} {pl : List Int} {a aw : Nat} {ps : List Pt} {Pv Qv : Value} (h : Rx B W g k d pl a aw ps Pv Qv) :
    W.cell? ⟨g, 0, none⟩ = some (.int .i64 (k : Int)) ∧ W.cell? ⟨g, 1, none⟩ = some (.int .i64 (d : Int)) ∧ W.cell? ⟨g, 2, none⟩ = some Pv ∧ W.cell? ⟨g, 3, none⟩ = some (.int .i64 (a : Int)) ∧ W.cell? ⟨g, 4, none⟩ = some (.int .i64 (aw : Int)) ∧ W.cell? ⟨g, 5, none⟩ = some Qv :=
  ⟨blk_cell h.blk 0, blk_cell h.blk 1, blk_cell h.blk 2, blk_cell h.blk 3, blk_cell h.blk 4, blk_cell h.blk 5⟩
theorem Rx.add {B : Nat} {W W1 : World} {g k d : Nat} {pl : List Int} {a aw : Nat} {ps : List Pt} {Pv Qv Q1 : Value} {p : Pt} (h : Rx B W g k d pl a aw ps Pv Qv) (hl : ps.length < k) (ho : W1.ownsRow B 33 2 Q1 (ps.length + 1) (pcls ps ++ pcl p)) (hm : Mod (fun q => some q = Qv.ownBlock) W W1) : Rx B (W1.setCell ⟨g, 5, none⟩ Q1) g k d pl a aw (ps ++ [p]) Pv Q1 := by
  have hne : ∀ q, some q = Qv.ownBlock → q ≠ g := fun q hq => h.ne.2 q hq.symm
  have hb : W1.heap[g]? = _ := hm.blk h.blk (fun e => hne g e rfl)
  have hp : W1.ownsRow B 3 1 Pv pl.length (pl.map (Value.int .i64)) := hm.own h.pr (fun q hq e => by
    obtain ⟨c1, h1⟩ := own_typed h.pr q hq
    obtain ⟨c2, h2⟩ := own_typed h.qr q e.symm
    rw [h1] at h2
    injection h2 with h2
    injection h2 with _ h2
    exact absurd h2 (by decide))
  have hs := Mod.setCell (p := ⟨g, 5, none⟩) (Mod.refl (fun q => q = g) W1) (.inl rfl) Q1
  have key : ∀ (q : Nat) (cur : Array Value) (t : TypeId), W1.heap[q]? = some (.cells cur t (0, 0)) → t ≠ 44 → ¬ q = g := fun q cur t hk ht e => by
    rw [e, hb] at hk
    injection hk with hk
    injection hk with _ hk
    exact ht hk.symm
  refine ⟨h.ge, blk_put hb 5 _ rfl, hs.own hp (fun q hq => by obtain ⟨c, hc⟩ := own_typed hp q hq; exact key _ _ _ hc (by decide)), ?_, h.pg, h.wf.1, h.wf.2.1, h.wf.2.2.1, h.wf.2.2.2.1, h.wf.2.2.2.2.1, ?_⟩
  · rw [List.length_append, List.length_singleton, pcls_append, pcls_single]
    exact hs.own ho (fun q hq => by obtain ⟨c, hc⟩ := own_typed ho q hq; exact key _ _ _ hc (by decide))
  · rw [List.length_append, List.length_singleton]
    omega
theorem Rx.aw1 {B : Nat} {W W1 : World} {g k d : Nat} {pl : List Int} {a aw : Nat} {ps : List Pt} {Pv Qv : Value} (h : Rx B W g k d pl a (aw + 1) ps Pv Qv) (hw : W1 = W.setCell ⟨g, 4, none⟩ (.int .i64 (aw : Int))) : Rx B W1 g k d pl a aw ps Pv Qv ∧ Mod (fun q => q = g) W W1 := by
  subst hw
  have hm := Mod.setCell (p := ⟨g, 4, none⟩) (Mod.refl (fun q => q = g) W) (.inl rfl) (.int .i64 (aw : Int))
  exact ⟨h.upd hm ⟨h.wf.2.2.2.1, by have := h.wf.2.2.2.2.1; omega⟩ (blk_put h.blk 4 _ rfl), hm⟩
theorem rput34 {B : Nat} {W : World} {g k d : Nat} {pl : List Int} {a aw t a1 y1 : Nat} {ps : List Pt} {Pv Qv : Value} (h : Rx B W g k d pl (a + t) (aw + t) ps Pv Qv) (ha : a1 = a + t) (hy : y1 = aw + t) (hl : a + t < pl.length) : Rx B ((W.setCell ⟨g, 3, none⟩ (.int .i64 ((a1 : Int) + 1))).setCell ⟨g, 4, none⟩ (.int .i64 ((y1 : Int) + 1))) g k d pl (a + (t + 1)) (aw + (t + 1)) ps Pv Qv := by
  subst ha hy
  have e1 : (((a + t : Nat) : Int) + 1) = ((a + (t + 1) : Nat) : Int) := by omega
  have e2 : (((aw + t : Nat) : Int) + 1) = ((aw + (t + 1) : Nat) : Int) := by omega
  rw [e1, e2]
  refine h.upd (mod34 W g _ _) ⟨by omega, by have := h.wf.2.2.2.2.1; omega⟩ ?_
  exact blk_put (cs := #[.int .i64 (k : Int), .int .i64 (d : Int), Pv, .int .i64 ((a + (t + 1) : Nat) : Int), .int .i64 ((aw + t : Nat) : Int), Qv]) (blk_put h.blk 3 _ rfl) 4 _ rfl
set_option maxHeartbeats 4000000 in
set_option maxRecDepth 100000 in
theorem rstate_x (B g k d : Nat) (pl : List Int) (a aw : Nat) (ps : List Pt) (Pv Qv : Value) (w : World) (h : Rx B w g k d pl a aw ps Pv Qv) :
    Calls Try.prog 17 #[.pointer (some ⟨g, 0, none⟩)] w fun e w' => e = .returned (.int .i64 (st k ps.length a pl.length aw)) ∧ Below w.heap.size w w' := by
  have hb := h.blk
  have hp := h.pr
  have hq := h.qr
  obtain ⟨AP, cp, rfl⟩ := own_slice hp
  obtain ⟨AQ, cq, rfl⟩ := own_slice hq
  obtain ⟨h1, h2, h3, h4, h5, h6⟩ := h.wf
  have c0 : w.cell? ⟨g, 0, none⟩ = some (.int .i64 (k : Int)) := blk_cell hb 0
  have c2 : w.cell? ⟨g, 2, none⟩ = some (.slice AP pl.length cp) := blk_cell hb 2
  have c3 : w.cell? ⟨g, 3, none⟩ = some (.int .i64 (a : Int)) := blk_cell hb 3
  have c4 : w.cell? ⟨g, 4, none⟩ = some (.int .i64 (aw : Int)) := blk_cell hb 4
  have c5 : w.cell? ⟨g, 5, none⟩ = some (.slice AQ ps.length cq) := blk_cell hb 5
  obtain ⟨n, hn⟩ : ∃ n, n = ps.length := ⟨_, rfl⟩
  obtain ⟨m, hm⟩ : ∃ m, m = pl.length := ⟨_, rfl⟩
  rw [← hn] at c5
  rw [← hm] at c2
  rw [← hn, ← hm]
  clear hb hp hq h hn hm
  by_cases hk : k ≤ n
  · have r1 : decide ((k : Int) ≤ (n : Int)) = true := decide_eq_true (by omega)
    have hs : st k n a m aw = 1 := by unfold st; rw [if_pos hk]
    rw [hs]
    go_enter Try.func17, Try.ntmps17
    go_wp2
    go_quiet (fail)
    go_wp2
    go_ret
    exact ⟨rfl, pw_below_drewN (Below.refl _ _) nq⟩
  · have r1 : decide ((k : Int) ≤ (n : Int)) = false := decide_eq_false (by omega)
    by_cases ha : aw = 0
    · subst ha
      by_cases hm : a = m
      · subst hm
        have hs : st k n a a 0 = 2 := by unfold st; rw [if_neg hk, if_pos ⟨rfl, rfl⟩]
        have e1 : ((a : Int) == (a : Int)) = true := beq_self_eq_true _
        rw [hs]
        go_enter Try.func17, Try.ntmps17
        go_wp2
        go_quiet (fail)
        go_wp2
        have NQ := Aside0.mk (pw_below_drewN (Below.refl w.heap.size w) nq)
        go_quiet (fail)
        go_wp2
        go_ret
        exact ⟨rfl, pw_below_drewN NQ.out _⟩
      · have hs : st k n a m 0 = 0 := by unfold st; rw [if_neg hk, if_neg (fun h => hm h.2)]
        have e1 : ((a : Int) == (m : Int)) = false := beq_eq_false_iff_ne.2 (by omega)
        rw [hs]
        go_enter Try.func17, Try.ntmps17
        go_wp2
        go_quiet (fail)
        go_wp2
        have NQ := Aside0.mk (pw_below_drewN (Below.refl w.heap.size w) nq)
        go_quiet (fail)
        go_wp2
        go_ret
        exact ⟨rfl, pw_below_drewN NQ.out _⟩
    · have hs : st k n a m aw = 0 := by unfold st; rw [if_neg hk, if_neg (fun h => ha h.1)]
      have e0 : ((aw : Int) == 0) = false := beq_eq_false_iff_ne.2 (by omega)
      rw [hs]
      go_enter Try.func17, Try.ntmps17
      go_wp2
      go_quiet (fail)
      go_wp2
      have NQ := Aside0.mk (pw_below_drewN (Below.refl w.heap.size w) nq)
      go_quiet (fail)
      go_wp2
      go_ret
      exact ⟨rfl, pw_below_drewN NQ.out _⟩
/-- The loop: t places were asked. -/
def RNextAt (w0 : World) (B g k d : Nat) (pl : List Int) (a aw : Nat) (ps : List Pt) (Pv Qv : Value) (T : Nat) (r : Nat) (s3 : Value) (wr : World) : Prop :=
  ∃ t : Nat, t + r = T ∧ wr.ownsRow w0.heap.size 3 1 s3 t (((pl.drop a).take t).map (Value.int .i64)) ∧ Rx B wr g k d pl (a + t) (aw + t) ps Pv Qv ∧ Mod (fun q => q = g) w0 wr
set_option maxHeartbeats 8000000 in
set_option maxRecDepth 100000 in
theorem rnext_x (B g k d : Nat) (pl : List Int) (a aw : Nat) (ps : List Pt) (Pv Qv : Value) (w : World) (h : Rx B w g k d pl a aw ps Pv Qv) (T : Nat) (hT : nx k d ps.length a pl.length aw = T) :
    Calls Try.prog 15 #[.pointer (some ⟨g, 0, none⟩)] w fun e w' => ∃ v, e = .returned v ∧ w'.ownsRow w.heap.size 3 1 v T (((pl.drop a).take T).map (Value.int .i64)) ∧ Rx B w' g k d pl (a + T) (aw + T) ps Pv Qv ∧ Mod (fun q => q = g) w w' := by
  have HN := Aside0.mk (show RNextAt w B g k d pl a aw ps Pv Qv T T (.slice none 0 0) w from ⟨0, by omega, own_nil _ _ _ _, h, Mod.refl _ _⟩)
  have HT := Aside0.mk (show nx k d ps.length a pl.length aw = T ∧ k ≤ 8 ∧ d ≤ 12 ∧ pl.length ≤ 12 ∧ a ≤ pl.length ∧ aw ≤ a ∧ ps.length ≤ k from ⟨hT, h.wf⟩)
  have HLT := Aside0.mk h.lt
  obtain ⟨AP, cp, rfl⟩ := own_slice h.pr
  obtain ⟨AQ, cq, rfl⟩ := own_slice h.qr
  clear h hT
  go_enter Try.func15, Try.ntmps15
  go_wp2
  go_loopg [3] T (fun r s3 wr => RNextAt w B g k d pl a aw ps (.slice AP pl.length cp) (.slice AQ ps.length cq) T r s3 wr)
  case atStart => exact HN.out
  case round =>
    clear HN
    obtain ⟨t, htr, ho, hG, hm⟩ := hrel
    obtain ⟨Av, cv, rfl⟩ := own_slice ho
    have hb := hG.blk
    have hp := hG.pr
    have c0 : wr.cell? ⟨g, 0, none⟩ = some (.int .i64 (k : Int)) := blk_cell hb 0
    have c1 : wr.cell? ⟨g, 1, none⟩ = some (.int .i64 (d : Int)) := blk_cell hb 1
    have c2 : wr.cell? ⟨g, 2, none⟩ = some (.slice AP pl.length cp) := blk_cell hb 2
    have c3 : wr.cell? ⟨g, 3, none⟩ = some (.int .i64 ((a + t : Nat) : Int)) := blk_cell hb 3
    have c4 : wr.cell? ⟨g, 4, none⟩ = some (.int .i64 ((aw + t : Nat) : Int)) := blk_cell hb 4
    have c5 : wr.cell? ⟨g, 5, none⟩ = some (.slice AQ ps.length cq) := blk_cell hb 5
    have HO := Aside0.mk ho
    have HG := Aside0.mk hG
    have HM := Aside0.mk hm
    have HP := Aside0.mk hp
    obtain ⟨n, hn⟩ : ∃ n, n = ps.length := ⟨_, rfl⟩
    obtain ⟨m, hm⟩ : ∃ m, m = pl.length := ⟨_, rfl⟩
    obtain ⟨a1, ha1⟩ : ∃ a1, a1 = a + t := ⟨_, rfl⟩
    obtain ⟨y1, hy1⟩ : ∃ y1, y1 = aw + t := ⟨_, rfl⟩
    have HE := Aside0.mk (And.intro hn (And.intro hm (And.intro ha1 hy1)))
    have HX := HT.out
    rw [← hn] at c5 HX
    rw [← hm] at c2 HX
    rw [← ha1] at c3
    rw [← hy1] at c4
    unfold nx at HX
    clear hb hp hG ho hn hm
    by_cases htT : t < T
    · have q1 : a1 < m ∧ n < k ∧ n + y1 < k + d ∧ n ≤ 8 ∧ y1 ≤ 12 ∧ k ≤ 8 ∧ d ≤ 12 ∧ a1 ≤ 12 ∧ m ≤ 12 ∧ T ≤ 12 := by
        obtain ⟨h1, h2⟩ := HX
        by_cases hnk : n < k
        · rw [if_pos hnk] at h1
          omega
        · rw [if_neg hnk] at h1
          omega
      clear HX ha1 hy1
      obtain ⟨q1, q2, q3, q4, q5, q6, q7, q8, q9, q11⟩ := q1
      have r1 : decide ((a1 : Int) < (m : Int)) = true := decide_eq_true (by omega)
      have r2 : decide ((n : Int) < (k : Int)) = true := decide_eq_true (by omega)
      obtain ⟨u, hu⟩ : ∃ u : Nat, u = n + y1 := ⟨_, rfl⟩
      obtain ⟨v, hv⟩ : ∃ v : Nat, v = k + d := ⟨_, rfl⟩
      have s1 : IntKind.i64.wrap ((n : Int) + (y1 : Int)) = (u : Int) := by rw [IntKind.wrap_i64, hu]; omega
      have s2 : IntKind.i64.wrap ((k : Int) + (d : Int)) = (v : Int) := by rw [IntKind.wrap_i64, hv]; omega
      have r3 : decide ((u : Int) < (v : Int)) = true := decide_eq_true (by omega)
      obtain ⟨x, hx⟩ : ∃ x, pl[a1]? = some x := ⟨_, List.getElem?_eq_getElem (by have := HE.out.2.1; omega)⟩
      obtain ⟨gp, rfl⟩ : ∃ gp, AP = some ⟨gp, 0, none⟩ := by
        rcases HP.out.2 with ⟨e, hz⟩ | ⟨gp, cap, cur, e, _⟩
        · have := HE.out.2.1; omega
        · injection e with e1
          exact ⟨gp, e1⟩
      have cx : wr.cell? ⟨gp, a1, none⟩ = some (.int .i64 x) := by
        rw [HP.out.cellAt a1 (by have := HE.out.2.1; omega), List.getElem?_map, hx]
        rfl
      have HXX := Aside0.mk hx
      have q10 : u < v := by omega
      clear hu hv hx q3
      obtain ⟨W0, hW0⟩ : ∃ W0, W0 = wr := ⟨_, rfl⟩
      have HB0 := Aside0.mk (show Below wr.heap.size wr W0 by rw [hW0]; exact Below.refl _ _)
      rw [← hW0] at c0 c1 c2 c3 c4 c5 cx
      rw [← hW0]
      have d0 := c0
      have d1 := c1
      have d2 := c2
      have d3 := c3
      have d4 := c4
      have d5 := c5
      have dx := cx
      clear hW0 c0 c1 c2 c3 c4 c5 cx
      go_wp2
      go_quiet (fail)
      go_wp2
      obtain ⟨W, hW⟩ : ∃ W, W = W0.drewN nq := ⟨_, rfl⟩
      have hWb : Below wr.heap.size wr W := by rw [hW]; exact pw_below_drewN HB0.out _
      have hWc : ∀ p u, W0.cell? p = some u → W.cell? p = some u := fun p u hu => by rw [hW]; exact pw_cell_below (pw_below_drewN (Below.refl _ _) _) hu
      rw [← hW]
      have k2 := hWc _ _ d2
      have k3 := hWc _ _ d3
      have kx := hWc _ _ dx
      have hWm : Mod (fun q => q = g) w W := HM.out.then_below hWb
      have E0 := Aside0.mk hWm
      have E1 := Aside0.mk (show (W.alloc (.cells #[.int .i64 x] 3 (0, 0))).drew.ownsRow w.heap.size 3 1 (.slice Av t cv) t (((pl.drop a).take t).map (Value.int .i64)) from pw_own_below HO.out (below_drew (below_then hWb hWb.size (below_alloc (Below.refl _ _) _))))
      have E2 := Aside0.mk (show Rx B (W.alloc (.cells #[.int .i64 x] 3 (0, 0))).drew g k d pl (a + t) (aw + t) ps (.slice (some ⟨gp, 0, none⟩) pl.length cp) (.slice AQ ps.length cq) from HG.out.far (below_drew (below_then hWb hWb.size (below_alloc (Below.refl _ _) _))))
      have E3 := Aside0.mk (show ∀ j u, [Value.int .i64 x][j]? = some u → (W.alloc (.cells #[.int .i64 x] 3 (0, 0))).drew.cell? ((⟨W.heap.size, 0, none⟩ : Addr).add j) = some u from fun j u hu => by rw [add_plain]; exact (blk_cell (blk_drew (blk_new W _)) j).trans (by simpa using hu))
      have E4 := Aside0.mk (show t + 1 ≤ maxLen ∧ (t + 1) * 8 ≤ 140737488355328 ∧ w.heap.size ≤ (W.alloc (.cells #[.int .i64 x] 3 (0, 0))).drew.heap.size from ⟨by unfold maxLen; omega, by omega, by have := hWm.size; show w.heap.size ≤ (W.alloc _).heap.size; simp; omega⟩)
      have E5 := Aside0.mk (show Mod (fun q => q = g) w (W.alloc (.cells #[.int .i64 x] 3 (0, 0))).drew from (hWm.alloc _).drew)
      clear hW hWb hWm hWc d0 d1 d2 d3 d4 d5 dx HO HG HM HB0
      go_region_law (refine st_append (W := (W.alloc (.cells #[.int .i64 x] 3 (0, 0))).drew) (.tmp 48) (.tmp 59) 26 3 rfl rfl w.heap.size _ 1 8 Try.underlying26 info3 rfl (by decide) (.slice Av t cv) t _ rfl E1.out ⟨W.heap.size, 0, none⟩ 1 1 [.int .i64 x] rfl rfl E3.out (by simp [Value.oneCell']) E4.out.1 E4.out.2.1 E4.out.2.2 ?_; intro v1 w1 ho1 hm1 _ hat1; have F1 := Aside0.mk ho1; have hbase := own_base E1.out; have F2 := Aside0.mk (E2.out.mod hm1 (fun e => Nat.lt_irrefl _ (Nat.lt_of_lt_of_le HLT.out.1 (hbase _ e.symm))) (fun q hq e => Nat.lt_irrefl _ (Nat.lt_of_lt_of_le (HLT.out.2.1 q hq) (hbase _ e.symm))) (fun q hq e => Nat.lt_irrefl _ (Nat.lt_of_lt_of_le (HLT.out.2.2 q hq) (hbase _ e.symm)))); have F3 := Aside0.mk (E5.out.trans hm1 (fun q hq => .inr (hbase _ hq.symm))); have m3 := (blk_cell F2.out.blk 3).trans (show #[Value.int .i64 (k : Int), .int .i64 (d : Int), .slice (some ⟨gp, 0, none⟩) pl.length cp, .int .i64 ((a + t : Nat) : Int), .int .i64 ((aw + t : Nat) : Int), .slice AQ ps.length cq][3]? = some (.int .i64 (a1 : Int)) from by rw [HE.out.2.2.1]; rfl); have m4 := (blk_cell F2.out.blk 4).trans (show #[Value.int .i64 (k : Int), .int .i64 (d : Int), .slice (some ⟨gp, 0, none⟩) pl.length cp, .int .i64 ((a + t : Nat) : Int), .int .i64 ((aw + t : Nat) : Int), .slice AQ ps.length cq][4]? = some (.int .i64 (y1 : Int)) from by rw [HE.out.2.2.2]; rfl); have f3 := blk_frozen F2.out.blk 3; have f4 := blk_frozen F2.out.blk 4; clear ho1 hm1 hat1 hbase)
      all_goals
        have F4 := Aside0.mk (rput34 F2.out (by have := HE.out.2.2.1; omega) (by have := HE.out.2.2.2; omega) (by have := HE.out.2.1; have := HE.out.2.2.1; omega))
        have F5 := Aside0.mk (mod34 w1 g ((a1 : Int) + 1) ((y1 : Int) + 1))
        have F6 := Aside0.mk (F5.out.own F1.out (fun q hq e => by have h1 := own_base F1.out q hq; have h2 := HLT.out.1; omega))
        have F7 := Aside0.mk (F3.out.trans F5.out (fun q hq => .inl hq))
        clear F1 F2 F3 F5
        go_wp2
        go_roundg (T - (t + 1))
        case measure => omega
        case rel => exact ⟨t + 1, by omega, by rw [take_more (show pl[a + t]? = some x by rw [← HE.out.2.2.1]; exact HXX.out)]; exact F6.out, F4.out, F7.out⟩
    · obtain rfl : t = T := by omega
      have q1 : (¬ n < k ∨ ¬ a1 < m ∨ ¬ n + y1 < k + d) ∧ n ≤ 8 ∧ y1 ≤ 12 ∧ k ≤ 8 ∧ d ≤ 12 ∧ a1 ≤ 12 ∧ m ≤ 12 := by
        obtain ⟨h1, h2⟩ := HX
        by_cases hnk : n < k
        · rw [if_pos hnk] at h1
          omega
        · rw [if_neg hnk] at h1
          omega
      clear HX ha1 hy1
      obtain ⟨q2, q4, q5, q6, q7, q8, q9⟩ := q1
      obtain ⟨u, hu⟩ : ∃ u : Nat, u = n + y1 := ⟨_, rfl⟩
      obtain ⟨v, hv⟩ : ∃ v : Nat, v = k + d := ⟨_, rfl⟩
      have s1 : IntKind.i64.wrap ((n : Int) + (y1 : Int)) = (u : Int) := by rw [IntKind.wrap_i64, hu]; omega
      have s2 : IntKind.i64.wrap ((k : Int) + (d : Int)) = (v : Int) := by rw [IntKind.wrap_i64, hv]; omega
      by_cases hnk : n < k
      · have r2 : decide ((n : Int) < (k : Int)) = true := decide_eq_true (by omega)
        by_cases ham : a1 < m
        · have r1 : decide ((a1 : Int) < (m : Int)) = true := decide_eq_true (by omega)
          have q10 : ¬ u < v := by omega
          have r3 : decide ((u : Int) < (v : Int)) = false := decide_eq_false (by omega)
          clear hu hv q2
          go_wp2
          go_quiet (fail)
          have HO_n := Aside0.mk (pw_own_below HO.out (pw_below_drewN (Below.refl _ _) nq))
          have HG_n := Aside0.mk (HG.out.far (pw_below_drewN (Below.refl _ _) nq))
          have HM_n := Aside0.mk (HM.out.then_below (pw_below_drewN (Below.refl _ _) nq))
          clear HO HG HM
          have HO := HO_n
          have HG := HG_n
          have HM := HM_n
          clear HO_n HG_n HM_n
          go_wp2
          go_ret
          exact ⟨_, rfl, HO.out, HG.out, HM.out⟩
        · have r1 : decide ((a1 : Int) < (m : Int)) = false := decide_eq_false (by omega)
          clear hu hv q2
          go_wp2
          go_quiet (fail)
          have HO_n := Aside0.mk (pw_own_below HO.out (pw_below_drewN (Below.refl _ _) nq))
          have HG_n := Aside0.mk (HG.out.far (pw_below_drewN (Below.refl _ _) nq))
          have HM_n := Aside0.mk (HM.out.then_below (pw_below_drewN (Below.refl _ _) nq))
          clear HO HG HM
          have HO := HO_n
          have HG := HG_n
          have HM := HM_n
          clear HO_n HG_n HM_n
          go_wp2
          go_ret
          exact ⟨_, rfl, HO.out, HG.out, HM.out⟩
      · have r2 : decide ((n : Int) < (k : Int)) = false := decide_eq_false (by omega)
        clear hu hv q2
        go_wp2
        go_quiet (fail)
        have HO_n := Aside0.mk (pw_own_below HO.out (pw_below_drewN (Below.refl _ _) nq))
        have HG_n := Aside0.mk (HG.out.far (pw_below_drewN (Below.refl _ _) nq))
        have HM_n := Aside0.mk (HM.out.then_below (pw_below_drewN (Below.refl _ _) nq))
        clear HO HG HM
        have HO := HO_n
        have HG := HG_n
        have HM := HM_n
        clear HO_n HG_n HM_n
        go_wp2
        go_ret
        exact ⟨_, rfl, HO.out, HG.out, HM.out⟩
end Go.Proofs.Ytnndpjicbcailaa.Ga
