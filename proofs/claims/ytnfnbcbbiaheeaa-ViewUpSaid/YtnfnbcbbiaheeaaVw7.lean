/- ViewUp answers true. -/
import Derived.Test.YtnfnbcbbiaheeaaVw5
namespace Go.Proofs.Ytnfnbcbbiaheeaa.Vw
open Go.RowKit Go.Proofs.YtnfnbcbbiaheeaaW.PrintWords Go.Proofs.YtnfnbcbbiaheeaaW.PrintLast Go.Proofs.Ytnfnbcbbiaheeaa.Lib Go.Proofs.Ytnfnbcbbiaheeaa.Open
theorem within_at (a lo hi r : Int) (w : World) (h : VPr.depotbook_Within.f a lo hi = some r) :
    Calls Try.prog 19 #[.int .i64 a, .int .i64 lo, .int .i64 hi] w fun e w' => e = .returned (.int .i64 r) ∧ Below w.heap.size w w' :=
  (VPr.depotbook_Within.calls a lo hi r w h).mono fun _ _ ⟨h3, h4⟩ => ⟨h3, h4.below⟩
def bcs (bs : List Bool) : Array Value := (bs.map Value.bool).toArray
/-- A View, and two rows of marks. -/
structure Ub (w0 W : World) (g r b f : Nat) (L : List (Int × Int)) (bs fs : List Bool) : Prop where
  sv : Sv w0 W g r L
  bb : W.heap[b]? = some (.cells (bcs bs) 39 (0, 0))
  fb : W.heap[f]? = some (.cells (bcs fs) 39 (0, 0))
  b0 : w0.heap.size ≤ b
  f0 : w0.heap.size ≤ f
  bf : b ≠ f
section
variable {w0 w W : World} {g r b f : Nat} {L : List (Int × Int)} {bs fs : List Bool}
theorem Ub.far (h : Ub w0 w g r b f L bs fs) (hb : Below w.heap.size w W) : Ub w0 W g r b f L bs fs := ⟨h.sv.far hb, (hb.block _ (blk_lt h.bb)).trans h.bb, (hb.block _ (blk_lt h.fb)).trans h.fb, h.b0, h.f0, h.bf⟩
theorem Ub.cb (h : Ub w0 w g r b f L bs fs) {p : Nat} {v : Bool} (hv : bs[p]? = some v) : w.cell? ⟨b, p, none⟩ = some (.bool v) := by rw [blk_cell h.bb, bcs, List.getElem?_toArray, List.getElem?_map, hv]; rfl
theorem Ub.cf (h : Ub w0 w g r b f L bs fs) {p : Nat} {v : Bool} (hv : fs[p]? = some v) : w.cell? ⟨f, p, none⟩ = some (.bool v) := by rw [blk_cell h.fb, bcs, List.getElem?_toArray, List.getElem?_map, hv]; rfl
theorem Ub.br (h : Ub w0 w g r b f L bs fs) : b ≠ r := blk_ne h.bb h.sv.v.row (by decide)
theorem Ub.fr (h : Ub w0 w g r b f L bs fs) : f ≠ r := blk_ne h.fb h.sv.v.row (by decide)
theorem Ub.bg (h : Ub w0 w g r b f L bs fs) : b ≠ g := blk_ne h.bb h.sv.v.blk (by decide)
theorem Ub.fg (h : Ub w0 w g r b f L bs fs) : f ≠ g := blk_ne h.fb h.sv.v.blk (by decide)
theorem Sv.side (h : Sv w0 w g r L) {q : Nat} (h1 : q ≠ g) (h2 : q ≠ r) (h3 : w0.heap.size ≤ q) (k : Nat) (u : Value) : Sv w0 (w.setCell ⟨q, k, none⟩ u) g r L := by
  have hm := mod_set (w := w) q k u
  exact ⟨h.v.mod hm (fun e => h1 e.symm) (fun e => h2 e.symm), h.g0, h.r0, hm.after h.below h.below.size (fun k hk => by rw [hk]; exact h3)⟩
theorem Ub.put (h : Ub w0 w g r b f L bs fs) (p : Nat) (u v : Bool) : Ub w0 ((w.setCell ⟨b, p, none⟩ (.bool u)).setCell ⟨f, p, none⟩ (.bool v)) g r b f L (bs.set p u) (fs.set p v) :=
  ⟨(h.sv.side h.bg h.br h.b0 _ _).side h.fg h.fr h.f0 _ _, blk_far (blk_put h.bb _ _ (by simp [bcs, List.map_set])) h.bf _, blk_put (blk_far h.fb h.bf.symm _) _ _ (by simp [bcs, List.map_set]), h.b0, h.f0, h.bf⟩
theorem Ub.put4 (h : Ub w0 w g r b f L bs fs) (p : Nat) (u' v' u v : Bool) : Ub w0 ((((w.setCell ⟨b, p, none⟩ (.bool u')).setCell ⟨f, p, none⟩ (.bool v')).setCell ⟨b, p, none⟩ (.bool u)).setCell ⟨f, p, none⟩ (.bool v)) g r b f L (bs.set p u) (fs.set p v) := by
  have := (h.put p u' v').put p u v
  rwa [List.set_set, List.set_set] at this
theorem ub_inc (i a : Int) (h : Ub w0 w g r b f L bs fs) (hn : (st L i).2 = a) : Calls Try.prog 14 #[.pointer (some ⟨g, 0, none⟩), .int .i64 i] w fun e w' => e = .returned (.int .i64 a) ∧ Ub w0 w' g r b f L bs fs := by
  subst hn
  exact (inc_calls g r L i w h.sv.v).mono fun e w' ⟨h1, h2⟩ => ⟨h1, h.far h2⟩
theorem ub_state (i a : Int) (h : Ub w0 w g r b f L bs fs) (hn : (st L i).1 = a) : Calls Try.prog 13 #[.pointer (some ⟨g, 0, none⟩), .int .i64 i] w fun e w' => e = .returned (.int .i64 a) ∧ Ub w0 w' g r b f L bs fs := by
  subst hn
  exact (state_calls g r L i w h.sv.v).mono fun e w' ⟨h1, h2⟩ => ⟨h1, h.far h2⟩
theorem ub_next (i ev : Int) (q : Bool) (L' : List (Int × Int)) (h : Ub w0 w g r b f L bs fs) (hn : nx L i ev = (q, L')) :
    Calls Try.prog 12 #[.pointer (some ⟨g, 0, none⟩), .int .i64 i, .int .i64 ev] w fun e w' => e = .returned (.bool q) ∧ Ub w0 w' g r b f L' bs fs := by
  refine (next_calls g r L i ev w h.sv.v).mono fun e w' ⟨h1, h2, h3⟩ => ?_
  rw [hn] at h1 h2
  exact ⟨h1, h.sv.mod h2 h3, h3.blk h.bb h.br, h3.blk h.fb h.fr, h.b0, h.f0, h.bf⟩
end
/-- What the marks say of the slots behind i events. -/
structure Mk (i : Nat) (L : List (Int × Int)) (bs fs : List Bool) : Prop where
  at_ : ∀ (k : Nat) (x : Int × Int), L[k]? = some x → (x.1 = 0 ∧ bs[k]? = some false ∧ fs[k]? = some false ∨ x.1 = 1 ∧ bs[k]? = some true ∧ fs[k]? = some false ∨ x.1 = 2 ∧ bs[k]? = some true ∧ fs[k]? = some true) ∧ 0 ≤ x.2 ∧ x.2 ≤ (i : Int)
/-- One slot's marks are written anew. -/
theorem Mk.set {i p : Nat} {L : List (Int × Int)} {bs fs : List Bool} (h : Mk i L bs fs) (x : Int × Int) (u v : Bool) (hp : p < L.length) (hb : p < bs.length) (hf : p < fs.length)
    (hx : x.1 = 0 ∧ u = false ∧ v = false ∨ x.1 = 1 ∧ u = true ∧ v = false ∨ x.1 = 2 ∧ u = true ∧ v = true) (h0 : 0 ≤ x.2) (h1 : x.2 ≤ (i + 1 : Nat)) : Mk (i + 1) (L.set p x) (bs.set p u) (fs.set p v) := by
  refine ⟨fun k y hy => ?_⟩
  by_cases hk : p = k
  · subst hk
    rw [List.getElem?_set_self hp] at hy
    obtain rfl := Option.some.inj hy
    rw [List.getElem?_set_self hb, List.getElem?_set_self hf]
    refine ⟨?_, h0, h1⟩
    rcases hx with ⟨a, rfl, rfl⟩ | ⟨a, rfl, rfl⟩ | ⟨a, rfl, rfl⟩
    · exact .inl ⟨a, rfl, rfl⟩
    · exact .inr (.inl ⟨a, rfl, rfl⟩)
    · exact .inr (.inr ⟨a, rfl, rfl⟩)
  · rw [List.getElem?_set_ne hk] at hy ⊢
    rw [List.getElem?_set_ne hk]
    obtain ⟨h2, h3, h4⟩ := h.at_ k y hy
    exact ⟨h2, h3, by omega⟩
theorem set_same {α : Type} {l : List α} {p : Nat} {x : α} (h : l[p]? = some x) : l.set p x = l := by
  refine List.ext_getElem? fun n => ?_
  by_cases hn : p = n
  · subst hn
    rw [List.getElem?_set_self (List.getElem?_eq_some_iff.1 h).1, h]
  · rw [List.getElem?_set_ne hn]
theorem st_set {L : List (Int × Int)} {p : Nat} (hp : p < L.length) (x : Int × Int) : st (L.set p x) (p : Int) = x := by
  unfold st
  rw [if_neg (by omega), Int.toNat_natCast, List.getElem?_set_self hp]
  rfl
theorem st_at {L : List (Int × Int)} {p : Nat} {x : Int × Int} (hx : L[p]? = some x) : st L (p : Int) = x := by
  unfold st
  rw [if_neg (by omega), Int.toNat_natCast, hx]
  rfl
theorem nx_in {L : List (Int × Int)} {k : Nat} {x : Int × Int} (hx : L[k]? = some x) (ev : Int) : nx L k ev = if ev = 1 then (true, L.set k (0, wrap64 (x.2 + 1))) else if ev = 2 ∧ x.1 = 0 ∧ 0 < x.2 then (true, L.set k (1, x.2)) else if ev = 3 ∧ x.1 = 1 then (true, L.set k (2, x.2)) else (false, L) := by
  unfold nx
  rw [if_neg (by omega), Int.toNat_natCast, hx]
/-- The loop: i events are done. -/
def UpLoop (w0 : World) (g r b f m N : Nat) (k : Nat) (s12 : Value) (wr : World) : Prop :=
  ∃ (i : Nat) (L : List (Int × Int)) (bs fs : List Bool), s12 = .int .i64 (i : Int) ∧ i + k = N ∧ Ub w0 wr g r b f L bs fs ∧ L.length = m ∧ bs.length = 12 ∧ fs.length = 12 ∧ Mk i L bs fs
/-- All that one round of the walk is told. -/
structure Tell (i p : Nat) (L L2 : List (Int × Int)) (bs fs : List Bool) (y c s' c' : Int) (q u v : Bool) : Prop where
  nx_ : nx L (p : Int) y = (q, L2)
  was : (st L (p : Int)).2 = c
  s2 : (st L2 (p : Int)).1 = s'
  i2 : (st L2 (p : Int)).2 = c'
  len : L2.length = L.length
  bu : (bs.set p u)[p]? = some u
  fv : (fs.set p v)[p]? = some v
  mks : Mk (i + 1) L2 (bs.set p u) (fs.set p v)
set_option maxHeartbeats 16000000 in
set_option maxRecDepth 100000 in
theorem uplaw_calls (a0 : Int) (A1 : Option Addr) (n1 c1 : Nat) (l1 : List Int) (A2 : Option Addr) (n2 c2 : Nat) (l2 : List Int) (w : World) (hA1 : Arg icl w A1 n1 l1) (hA2 : Arg icl w A2 n2 l2) :
    Calls Try.prog 5 #[.int .i64 a0, .slice A1 n1 c1, .slice A2 n2 c2] w fun e w' => e = .returned (.bool true) ∧ Below w.heap.size w w' := by
  have HB := Aside0.mk (Below.refl w.heap.size w)
  have HA1 := Aside0.mk hA1
  have HA2 := Aside0.mk hA2
  have hn1 : n1 ≤ 9223372036854775807 := hA1.2.1
  have hn2 : n2 ≤ 9223372036854775807 := hA2.2.1
  clear hA1 hA2
  go_enter Try.func5, Try.ntmps5
  go_wp2_with (first | (go_at_call 19; (with_reducible refine (within_calls a0 1 12 _ (by decide) (by decide) (by decide)).mono ?_); rintro e_1 w_1 ⟨m0, rfl, hm0, hm1, hb⟩; have HB_n := Aside0.mk (below_step HB.out hb); clear HB; have HB := HB_n; clear HB_n hb; obtain ⟨m, rfl⟩ := Int.eq_ofNat_of_zero_le (show 0 ≤ m0 by omega); have HM := Aside0.mk (show 1 ≤ m ∧ m ≤ 12 by omega); clear hm0 hm1) | (go_at_call 11; (with_reducible refine (sv_new m w _ HB.out HM.out.1 HM.out.2 _ rfl).mono ?_); rintro e_1 w_1 ⟨g, r, rfl, hs⟩; have HS := Aside0.mk hs; clear HB hs) | (refine gate_ (.alloc 39) rfl ?_; refine box_event ?hg (N := 10) ?hd (cs := bcs (List.replicate 12 false)) (t := 39) ?hr ?_; (case hd => rfl); (case hg => rfl); (case hr => first | (go_simp; done) | (go_simp; rfl)); intro b hgb w_1 hbox hb; have KB := Aside0.mk hbox; have GB := Aside0.mk (show w.heap.size ≤ b from by rw [hgb]; exact HS.out.below.size); have hs := HS.out.far hb; have HS_n := Aside0.mk hs; clear HS; have HS := HS_n; clear HS_n hs hgb hbox hb) | (refine gate_ (.alloc 39) rfl ?_; refine box_event ?hg (N := 11) ?hd (cs := bcs (List.replicate 12 false)) (t := 39) ?hr ?_; (case hd => rfl); (case hg => rfl); (case hr => first | (go_simp; done) | (go_simp; rfl)); intro f hgb w_1 hbox hb; have HU := Aside0.mk (show Ub w w_1 g r b f (List.replicate m (0, 0)) (List.replicate 12 false) (List.replicate 12 false) from ⟨HS.out.far hb, (hb.block _ (blk_lt KB.out)).trans KB.out, hbox, GB.out, by rw [hgb]; exact HS.out.below.size, by rw [hgb]; exact Nat.ne_of_lt (blk_lt KB.out)⟩); clear HS KB GB hgb hbox hb))
  have HF := Aside0.mk (show UpLoop w g r b f m (min (min n1 n2) 80) (min (min n1 n2) 80) (.int .i64 0) w_1 from ⟨0, _, _, _, rfl, by omega, HU.out, List.length_replicate, List.length_replicate, List.length_replicate, ⟨fun k x hx => by
    have hk := (List.getElem?_eq_some_iff.1 hx).1
    have hm := HM.out
    rw [List.length_replicate] at hk
    rw [List.getElem?_replicate, if_pos hk] at hx
    obtain rfl := Option.some.inj hx
    rw [List.getElem?_replicate, if_pos (by omega)]
    exact ⟨.inl ⟨rfl, rfl, rfl⟩, Int.le_refl _, Int.le_refl _⟩⟩⟩)
  obtain ⟨N, hN⟩ : ∃ N, N = min (min n1 n2) 80 := ⟨_, rfl⟩
  rw [← hN] at HF
  go_loopg [12] N (fun k s12 wr => UpLoop w g r b f m N k s12 wr)
  case atStart => exact HF.out
  case round =>
    clear HF HU
    obtain ⟨i, L, bs, fs, rfl, hik, hs, hL, hlb, hlf, hmk⟩ := hrel
    have HU := Aside0.mk hs
    have HL := Aside0.mk (And.intro hL (And.intro hlb hlf))
    by_cases hlt : i < N
    · obtain ⟨x, b1, o1, rfl, hx1, hc1⟩ := arg_cell HA1.out (i := i) (by omega)
      obtain ⟨y, b2, o2, rfl, hx2, hc2⟩ := arg_cell HA2.out (i := i) (by omega)
      have hb2w : b2 < w.heap.size := World.block_lt_of_cell? w _ (hc2 w (Below.refl _ _))
      have HC1 := Aside0.mk hc1
      have HC2 := Aside0.mk hc2
      have hi1 : i < n1 := by omega
      have hi2 : i < n2 := by omega
      have hi3 : i < 80 := by omega
      have t1 : decide ((i : Int) < (n1 : Int)) = true := decide_eq_true (by omega)
      have t2 : decide ((i : Int) < (n2 : Int)) = true := decide_eq_true (by omega)
      have t3 : decide ((i : Int) < 80) = true := decide_eq_true (by omega)
      have hsub : IntKind.i64.wrap ((m : Int) - 1) = (m : Int) - 1 := by have := HM.out; rw [IntKind.wrap_i64]; omega
      obtain ⟨rr, hw, hr0, hr1⟩ := within x 0 ((m : Int) - 1) (m : Int) (by have := HM.out; omega) (by have := HM.out; omega) (by decide) (by decide) (by omega)
      obtain ⟨p, rfl⟩ := Int.eq_ofNat_of_zero_le hr0
      have hp : p < L.length := by omega
      have hm12 := HM.out.2
      have hp12 : p < 12 := by omega
      obtain ⟨z, hz⟩ : ∃ z, L[p]? = some z := ⟨_, List.getElem?_eq_getElem hp⟩
      obtain ⟨zs, zc⟩ := z
      obtain ⟨hz1, hz2, hz3⟩ := hmk.at_ p _ hz
      simp only at hz1 hz2 hz3
      have hwr : wrap64 (zc + 1) = zc + 1 := by unfold wrap64; omega
      have HW := Aside0.mk hw
      have hwas : (st L (p : Int)).2 = zc := by rw [st_at hz]
      have hnx := nx_in hz y
      simp only at hnx
      rw [hwr] at hnx
      have q1 : decide ((p : Int) < 0) = false := decide_eq_false (by omega)
      have q2 : decide ((p : Int) < 12) = true := decide_eq_true (by omega)
      have q3 : decide (0 ≤ (p : Int)) = true := decide_eq_true (by omega)
      clear hx1 hx2 hc1 hc2 hs hw hr0 hr1
      by_cases y1 : y = 1
      · rw [if_pos y1] at hnx
        have e1 : (y == 1) = true := beq_iff_eq.2 y1
        have e2 : (y == 2) = false := beq_eq_false_iff_ne.2 (by omega)
        have e3 : (y == 3) = false := beq_eq_false_iff_ne.2 (by omega)
        have hT : Tell i p L (L.set p (0, zc + 1)) bs fs y zc 0 (zc + 1) true false false := ⟨hnx, hwas, by rw [st_set hp], by rw [st_set hp], by simp, List.getElem?_set_self (by omega), List.getElem?_set_self (by omega), hmk.set (0, zc + 1) false false hp (by omega) (by omega) (.inl ⟨rfl, rfl, rfl⟩) (by simp only; omega) (by simp only; omega)⟩
        obtain ⟨zc2, hzc⟩ : ∃ zc2, zc2 = zc + 1 := ⟨_, rfl⟩
        rw [← hzc] at hT
        have v1 : decide (zc2 < zc) = false := decide_eq_false (by omega)
        have v2 : decide (zc < zc2) = true := decide_eq_true (by omega)
        obtain ⟨ob, hob⟩ : ∃ ob, bs[p]? = some ob := ⟨_, List.getElem?_eq_getElem (by omega)⟩
        obtain ⟨of_, hof⟩ : ∃ of_, fs[p]? = some of_ := ⟨_, List.getElem?_eq_getElem (by omega)⟩
        obtain ⟨L2, hL2⟩ : ∃ L2, L2 = L.set p (0, zc2) := ⟨_, rfl⟩
        rw [← hL2] at hT
        have d1 := HC1.out _ HU.out.sv.below
        have ne1 := HU.out.bf
        have ne2 := HU.out.bf.symm
        have ne3 : b ≠ b2 := Nat.ne_of_gt (Nat.lt_of_lt_of_le hb2w HU.out.b0)
        have ne4 : f ≠ b2 := Nat.ne_of_gt (Nat.lt_of_lt_of_le hb2w HU.out.f0)
        have ne5 := ne3.symm
        have ne6 := ne4.symm
        clear hb2w
        have HT := Aside0.mk hT
        have HOB := Aside0.mk hob
        have HOF := Aside0.mk hof
        clear hnx hT hmk hz hz2 hz3 hwas hwr hL hlb hlf hob hof y1 hzc hz1
        go_wp2_with (first | (go_at_call 14; (with_reducible refine (ub_inc _ _ HU.out HT.out.i2).mono ?_); rintro e_1 w_1 ⟨rfl, hs⟩; have HU_n := Aside0.mk hs; clear HU; have HU := HU_n; clear HU_n hs; have d2 := HC2.out _ HU.out.sv.below; have kb := HU.out.cb HT.out.bu; have kf := HU.out.cf HT.out.fv; skip) | (go_at_call 19; (with_reducible refine (within_at x 0 _ _ _ HW.out).mono ?_); rintro e_1 w_1 ⟨rfl, hb⟩; have hs := HU.out.far hb; have HU_n := Aside0.mk hs; clear HU; have HU := HU_n; clear HU_n hs; clear hb) | (go_at_call 14; (with_reducible refine (ub_inc (L := L) _ _ HU.out HT.out.was).mono ?_); rintro e_1 w_1 ⟨rfl, hs⟩; have HU_n := Aside0.mk hs; clear HU; have HU := HU_n; clear HU_n hs; have d2 := HC2.out _ HU.out.sv.below; skip) | (go_at_call 12; (with_reducible refine (ub_next _ _ _ _ HU.out HT.out.nx_).mono ?_); rintro e_1 w_1 ⟨rfl, hs⟩; have HU_n := Aside0.mk hs; clear HU; have HU := HU_n; clear HU_n hs; have d2 := HC2.out _ HU.out.sv.below; have kb := HU.out.cb HOB.out; have kf := HU.out.cf HOF.out; have zb := blk_frozen HU.out.bb p; have zf := blk_frozen HU.out.fb p; skip) | (go_at_call 13; (with_reducible refine (ub_state _ _ (HU.out.put4 p _ _ _ _) HT.out.s2).mono ?_); rintro e_1 w_1 ⟨rfl, hs⟩;  have HU_n := Aside0.mk hs; clear HU; have HU := HU_n; clear HU_n hs))
        go_roundg (N - (i + 1))
        case measure => omega
        case rel => exact ⟨i + 1, _, _, _, by go_num, by omega, HU.out, HT.out.len.trans HL.out.1, by rw [List.length_set]; exact HL.out.2.1, by rw [List.length_set]; exact HL.out.2.2, HT.out.mks⟩
      rw [if_neg y1] at hnx
      have e1 : (y == 1) = false := beq_eq_false_iff_ne.2 y1
      by_cases y2 : y = 2 ∧ zs = 0 ∧ 0 < zc
      · rw [if_pos y2] at hnx
        have e2 : (y == 2) = true := beq_iff_eq.2 y2.1
        have e3 : (y == 3) = false := beq_eq_false_iff_ne.2 (by omega)
        have hob : bs[p]? = some false := by rcases hz1 with h | h | h <;> first | exact h.2.1 | exact h.2.2 | omega
        have hof : fs[p]? = some false := by rcases hz1 with h | h | h <;> first | exact h.2.1 | exact h.2.2 | omega
        have hT : Tell i p L (L.set p (1, zc)) bs fs y zc 1 zc true true false := ⟨hnx, hwas, by rw [st_set hp], by rw [st_set hp], by simp, List.getElem?_set_self (by omega), List.getElem?_set_self (by omega), hmk.set (1, zc) true false hp (by omega) (by omega) (.inr (.inl ⟨rfl, rfl, rfl⟩)) hz2 (by simp only; omega)⟩
        have d1 := HC1.out _ HU.out.sv.below
        have ne1 := HU.out.bf
        have ne2 := HU.out.bf.symm
        have ne3 : b ≠ b2 := Nat.ne_of_gt (Nat.lt_of_lt_of_le hb2w HU.out.b0)
        have ne4 : f ≠ b2 := Nat.ne_of_gt (Nat.lt_of_lt_of_le hb2w HU.out.f0)
        have ne5 := ne3.symm
        have ne6 := ne4.symm
        clear hb2w
        have HT := Aside0.mk hT
        have HOB := Aside0.mk hob
        have HOF := Aside0.mk hof
        clear hnx hT hmk hz hz2 hz3 hwas hwr hL hlb hlf hob hof y1 y2 hz1
        go_wp2_with (first | (go_at_call 14; (with_reducible refine (ub_inc _ _ HU.out HT.out.i2).mono ?_); rintro e_1 w_1 ⟨rfl, hs⟩; have HU_n := Aside0.mk hs; clear HU; have HU := HU_n; clear HU_n hs; have d2 := HC2.out _ HU.out.sv.below; have kb := HU.out.cb HT.out.bu; have kf := HU.out.cf HT.out.fv; skip) | (go_at_call 19; (with_reducible refine (within_at x 0 _ _ _ HW.out).mono ?_); rintro e_1 w_1 ⟨rfl, hb⟩; have hs := HU.out.far hb; have HU_n := Aside0.mk hs; clear HU; have HU := HU_n; clear HU_n hs; clear hb) | (go_at_call 14; (with_reducible refine (ub_inc (L := L) _ _ HU.out HT.out.was).mono ?_); rintro e_1 w_1 ⟨rfl, hs⟩; have HU_n := Aside0.mk hs; clear HU; have HU := HU_n; clear HU_n hs; have d2 := HC2.out _ HU.out.sv.below; skip) | (go_at_call 12; (with_reducible refine (ub_next _ _ _ _ HU.out HT.out.nx_).mono ?_); rintro e_1 w_1 ⟨rfl, hs⟩; have HU_n := Aside0.mk hs; clear HU; have HU := HU_n; clear HU_n hs; have d2 := HC2.out _ HU.out.sv.below; have kb := HU.out.cb HOB.out; have kf := HU.out.cf HOF.out; have zb := blk_frozen HU.out.bb p; have zf := blk_frozen HU.out.fb p; skip) | (go_at_call 13; (with_reducible refine (ub_state _ _ (HU.out.put p _ _) HT.out.s2).mono ?_); rintro e_1 w_1 ⟨rfl, hs⟩;  have HU_n := Aside0.mk hs; clear HU; have HU := HU_n; clear HU_n hs))
        go_roundg (N - (i + 1))
        case measure => omega
        case rel => exact ⟨i + 1, _, _, _, by go_num, by omega, HU.out, HT.out.len.trans HL.out.1, by rw [List.length_set]; exact HL.out.2.1, by rw [List.length_set]; exact HL.out.2.2, HT.out.mks⟩
      rw [if_neg y2] at hnx
      by_cases y3 : y = 3 ∧ zs = 1
      · rw [if_pos y3] at hnx
        have e2 : (y == 2) = false := beq_eq_false_iff_ne.2 (by omega)
        have e3 : (y == 3) = true := beq_iff_eq.2 y3.1
        have hob : bs[p]? = some true := by rcases hz1 with h | h | h <;> first | exact h.2.1 | exact h.2.2 | omega
        have hof : fs[p]? = some false := by rcases hz1 with h | h | h <;> first | exact h.2.1 | exact h.2.2 | omega
        have hT : Tell i p L (L.set p (2, zc)) bs fs y zc 2 zc true true true := ⟨hnx, hwas, by rw [st_set hp], by rw [st_set hp], by simp, List.getElem?_set_self (by omega), List.getElem?_set_self (by omega), hmk.set (2, zc) true true hp (by omega) (by omega) (.inr (.inr ⟨rfl, rfl, rfl⟩)) hz2 (by simp only; omega)⟩
        have d1 := HC1.out _ HU.out.sv.below
        have ne1 := HU.out.bf
        have ne2 := HU.out.bf.symm
        have ne3 : b ≠ b2 := Nat.ne_of_gt (Nat.lt_of_lt_of_le hb2w HU.out.b0)
        have ne4 : f ≠ b2 := Nat.ne_of_gt (Nat.lt_of_lt_of_le hb2w HU.out.f0)
        have ne5 := ne3.symm
        have ne6 := ne4.symm
        clear hb2w
        have HT := Aside0.mk hT
        have HOB := Aside0.mk hob
        have HOF := Aside0.mk hof
        clear hnx hT hmk hz hz2 hz3 hwas hwr hL hlb hlf hob hof y1 y2 y3 hz1
        go_wp2_with (first | (go_at_call 14; (with_reducible refine (ub_inc _ _ HU.out HT.out.i2).mono ?_); rintro e_1 w_1 ⟨rfl, hs⟩; have HU_n := Aside0.mk hs; clear HU; have HU := HU_n; clear HU_n hs; have d2 := HC2.out _ HU.out.sv.below; have kb := HU.out.cb HT.out.bu; have kf := HU.out.cf HT.out.fv; skip) | (go_at_call 19; (with_reducible refine (within_at x 0 _ _ _ HW.out).mono ?_); rintro e_1 w_1 ⟨rfl, hb⟩; have hs := HU.out.far hb; have HU_n := Aside0.mk hs; clear HU; have HU := HU_n; clear HU_n hs; clear hb) | (go_at_call 14; (with_reducible refine (ub_inc (L := L) _ _ HU.out HT.out.was).mono ?_); rintro e_1 w_1 ⟨rfl, hs⟩; have HU_n := Aside0.mk hs; clear HU; have HU := HU_n; clear HU_n hs; have d2 := HC2.out _ HU.out.sv.below; skip) | (go_at_call 12; (with_reducible refine (ub_next _ _ _ _ HU.out HT.out.nx_).mono ?_); rintro e_1 w_1 ⟨rfl, hs⟩; have HU_n := Aside0.mk hs; clear HU; have HU := HU_n; clear HU_n hs; have d2 := HC2.out _ HU.out.sv.below; have kb := HU.out.cb HOB.out; have kf := HU.out.cf HOF.out; have zb := blk_frozen HU.out.bb p; have zf := blk_frozen HU.out.fb p; skip) | (go_at_call 13; (with_reducible refine (ub_state _ _ (HU.out.put p _ _) HT.out.s2).mono ?_); rintro e_1 w_1 ⟨rfl, hs⟩;  have HU_n := Aside0.mk hs; clear HU; have HU := HU_n; clear HU_n hs))
        go_roundg (N - (i + 1))
        case measure => omega
        case rel => exact ⟨i + 1, _, _, _, by go_num, by omega, HU.out, HT.out.len.trans HL.out.1, by rw [List.length_set]; exact HL.out.2.1, by rw [List.length_set]; exact HL.out.2.2, HT.out.mks⟩
      rw [if_neg y3] at hnx
      rcases hz1 with ⟨rfl, hob, hof⟩ | ⟨rfl, hob, hof⟩ | ⟨rfl, hob, hof⟩
      · have hT : Tell i p L L bs fs y zc 0 zc false false false := ⟨by rw [hnx], hwas, by rw [st_at hz], by rw [st_at hz], rfl, List.getElem?_set_self (by omega), List.getElem?_set_self (by omega), ⟨fun k x hx => by rw [set_same hob, set_same hof]; obtain ⟨h1, h2, h3⟩ := hmk.at_ k x hx; exact ⟨h1, h2, by omega⟩⟩⟩
        have d1 := HC1.out _ HU.out.sv.below
        have ne1 := HU.out.bf
        have ne2 := HU.out.bf.symm
        have ne3 : b ≠ b2 := Nat.ne_of_gt (Nat.lt_of_lt_of_le hb2w HU.out.b0)
        have ne4 : f ≠ b2 := Nat.ne_of_gt (Nat.lt_of_lt_of_le hb2w HU.out.f0)
        have ne5 := ne3.symm
        have ne6 := ne4.symm
        clear hb2w
        have HT := Aside0.mk hT
        have HOB := Aside0.mk hob
        have HOF := Aside0.mk hof
        clear hnx hT hmk hz hz2 hz3 hwas hwr hL hlb hlf hob hof y1 y2 y3
        go_wp2_with (first | (go_at_call 14; (with_reducible refine (ub_inc _ _ HU.out HT.out.i2).mono ?_); rintro e_1 w_1 ⟨rfl, hs⟩; have HU_n := Aside0.mk hs; clear HU; have HU := HU_n; clear HU_n hs; have d2 := HC2.out _ HU.out.sv.below; have kb := HU.out.cb HT.out.bu; have kf := HU.out.cf HT.out.fv; skip) | (go_at_call 19; (with_reducible refine (within_at x 0 _ _ _ HW.out).mono ?_); rintro e_1 w_1 ⟨rfl, hb⟩; have hs := HU.out.far hb; have HU_n := Aside0.mk hs; clear HU; have HU := HU_n; clear HU_n hs; clear hb) | (go_at_call 14; (with_reducible refine (ub_inc (L := L) _ _ HU.out HT.out.was).mono ?_); rintro e_1 w_1 ⟨rfl, hs⟩; have HU_n := Aside0.mk hs; clear HU; have HU := HU_n; clear HU_n hs; have d2 := HC2.out _ HU.out.sv.below; skip) | (go_at_call 12; (with_reducible refine (ub_next _ _ _ _ HU.out HT.out.nx_).mono ?_); rintro e_1 w_1 ⟨rfl, hs⟩; have HU_n := Aside0.mk hs; clear HU; have HU := HU_n; clear HU_n hs; have d2 := HC2.out _ HU.out.sv.below; have kb := HU.out.cb HOB.out; have kf := HU.out.cf HOF.out; have zb := blk_frozen HU.out.bb p; have zf := blk_frozen HU.out.fb p; skip) | (go_at_call 13; (with_reducible refine (ub_state _ _ (HU.out.put p _ _) HT.out.s2).mono ?_); rintro e_1 w_1 ⟨rfl, hs⟩;  have HU_n := Aside0.mk hs; clear HU; have HU := HU_n; clear HU_n hs))
        go_roundg (N - (i + 1))
        case measure => omega
        case rel => exact ⟨i + 1, _, _, _, by go_num, by omega, HU.out, HT.out.len.trans HL.out.1, by rw [List.length_set]; exact HL.out.2.1, by rw [List.length_set]; exact HL.out.2.2, HT.out.mks⟩
      · have hT : Tell i p L L bs fs y zc 1 zc false true false := ⟨by rw [hnx], hwas, by rw [st_at hz], by rw [st_at hz], rfl, List.getElem?_set_self (by omega), List.getElem?_set_self (by omega), ⟨fun k x hx => by rw [set_same hob, set_same hof]; obtain ⟨h1, h2, h3⟩ := hmk.at_ k x hx; exact ⟨h1, h2, by omega⟩⟩⟩
        have d1 := HC1.out _ HU.out.sv.below
        have ne1 := HU.out.bf
        have ne2 := HU.out.bf.symm
        have ne3 : b ≠ b2 := Nat.ne_of_gt (Nat.lt_of_lt_of_le hb2w HU.out.b0)
        have ne4 : f ≠ b2 := Nat.ne_of_gt (Nat.lt_of_lt_of_le hb2w HU.out.f0)
        have ne5 := ne3.symm
        have ne6 := ne4.symm
        clear hb2w
        have HT := Aside0.mk hT
        have HOB := Aside0.mk hob
        have HOF := Aside0.mk hof
        clear hnx hT hmk hz hz2 hz3 hwas hwr hL hlb hlf hob hof y1 y2 y3
        go_wp2_with (first | (go_at_call 14; (with_reducible refine (ub_inc _ _ HU.out HT.out.i2).mono ?_); rintro e_1 w_1 ⟨rfl, hs⟩; have HU_n := Aside0.mk hs; clear HU; have HU := HU_n; clear HU_n hs; have d2 := HC2.out _ HU.out.sv.below; have kb := HU.out.cb HT.out.bu; have kf := HU.out.cf HT.out.fv; skip) | (go_at_call 19; (with_reducible refine (within_at x 0 _ _ _ HW.out).mono ?_); rintro e_1 w_1 ⟨rfl, hb⟩; have hs := HU.out.far hb; have HU_n := Aside0.mk hs; clear HU; have HU := HU_n; clear HU_n hs; clear hb) | (go_at_call 14; (with_reducible refine (ub_inc (L := L) _ _ HU.out HT.out.was).mono ?_); rintro e_1 w_1 ⟨rfl, hs⟩; have HU_n := Aside0.mk hs; clear HU; have HU := HU_n; clear HU_n hs; have d2 := HC2.out _ HU.out.sv.below; skip) | (go_at_call 12; (with_reducible refine (ub_next _ _ _ _ HU.out HT.out.nx_).mono ?_); rintro e_1 w_1 ⟨rfl, hs⟩; have HU_n := Aside0.mk hs; clear HU; have HU := HU_n; clear HU_n hs; have d2 := HC2.out _ HU.out.sv.below; have kb := HU.out.cb HOB.out; have kf := HU.out.cf HOF.out; have zb := blk_frozen HU.out.bb p; have zf := blk_frozen HU.out.fb p; skip) | (go_at_call 13; (with_reducible refine (ub_state _ _ (HU.out.put p _ _) HT.out.s2).mono ?_); rintro e_1 w_1 ⟨rfl, hs⟩;  have HU_n := Aside0.mk hs; clear HU; have HU := HU_n; clear HU_n hs))
        go_roundg (N - (i + 1))
        case measure => omega
        case rel => exact ⟨i + 1, _, _, _, by go_num, by omega, HU.out, HT.out.len.trans HL.out.1, by rw [List.length_set]; exact HL.out.2.1, by rw [List.length_set]; exact HL.out.2.2, HT.out.mks⟩
      · have hT : Tell i p L L bs fs y zc 2 zc false true true := ⟨by rw [hnx], hwas, by rw [st_at hz], by rw [st_at hz], rfl, List.getElem?_set_self (by omega), List.getElem?_set_self (by omega), ⟨fun k x hx => by rw [set_same hob, set_same hof]; obtain ⟨h1, h2, h3⟩ := hmk.at_ k x hx; exact ⟨h1, h2, by omega⟩⟩⟩
        have d1 := HC1.out _ HU.out.sv.below
        have ne1 := HU.out.bf
        have ne2 := HU.out.bf.symm
        have ne3 : b ≠ b2 := Nat.ne_of_gt (Nat.lt_of_lt_of_le hb2w HU.out.b0)
        have ne4 : f ≠ b2 := Nat.ne_of_gt (Nat.lt_of_lt_of_le hb2w HU.out.f0)
        have ne5 := ne3.symm
        have ne6 := ne4.symm
        clear hb2w
        have HT := Aside0.mk hT
        have HOB := Aside0.mk hob
        have HOF := Aside0.mk hof
        clear hnx hT hmk hz hz2 hz3 hwas hwr hL hlb hlf hob hof y1 y2 y3
        go_wp2_with (first | (go_at_call 14; (with_reducible refine (ub_inc _ _ HU.out HT.out.i2).mono ?_); rintro e_1 w_1 ⟨rfl, hs⟩; have HU_n := Aside0.mk hs; clear HU; have HU := HU_n; clear HU_n hs; have d2 := HC2.out _ HU.out.sv.below; have kb := HU.out.cb HT.out.bu; have kf := HU.out.cf HT.out.fv; skip) | (go_at_call 19; (with_reducible refine (within_at x 0 _ _ _ HW.out).mono ?_); rintro e_1 w_1 ⟨rfl, hb⟩; have hs := HU.out.far hb; have HU_n := Aside0.mk hs; clear HU; have HU := HU_n; clear HU_n hs; clear hb) | (go_at_call 14; (with_reducible refine (ub_inc (L := L) _ _ HU.out HT.out.was).mono ?_); rintro e_1 w_1 ⟨rfl, hs⟩; have HU_n := Aside0.mk hs; clear HU; have HU := HU_n; clear HU_n hs; have d2 := HC2.out _ HU.out.sv.below; skip) | (go_at_call 12; (with_reducible refine (ub_next _ _ _ _ HU.out HT.out.nx_).mono ?_); rintro e_1 w_1 ⟨rfl, hs⟩; have HU_n := Aside0.mk hs; clear HU; have HU := HU_n; clear HU_n hs; have d2 := HC2.out _ HU.out.sv.below; have kb := HU.out.cb HOB.out; have kf := HU.out.cf HOF.out; have zb := blk_frozen HU.out.bb p; have zf := blk_frozen HU.out.fb p; skip) | (go_at_call 13; (with_reducible refine (ub_state _ _ (HU.out.put p _ _) HT.out.s2).mono ?_); rintro e_1 w_1 ⟨rfl, hs⟩;  have HU_n := Aside0.mk hs; clear HU; have HU := HU_n; clear HU_n hs))
        go_roundg (N - (i + 1))
        case measure => omega
        case rel => exact ⟨i + 1, _, _, _, by go_num, by omega, HU.out, HT.out.len.trans HL.out.1, by rw [List.length_set]; exact HL.out.2.1, by rw [List.length_set]; exact HL.out.2.2, HT.out.mks⟩
    · obtain rfl : i = N := by omega
      clear hs hL hlb hlf hmk
      have HS := Aside0.mk HU.out.sv
      clear HU
      by_cases k1 : i < n1
      · have t1 : decide ((i : Int) < (n1 : Int)) = true := decide_eq_true (by omega)
        by_cases k2 : i < n2
        · have t2 : decide ((i : Int) < (n2 : Int)) = true := decide_eq_true (by omega)
          have k3 : ¬ i < 80 := by omega
          have t3 : decide ((i : Int) < 80) = false := decide_eq_false (by omega)
          go_wp2_with (go_at_call 3; (with_reducible refine (runs_calls _).mono ?_); rintro e_1 w_1 ⟨rfl, hb⟩; have HB2 := Aside0.mk (below_then HS.out.below HS.out.below.size hb); clear hb)
          go_ret
          exact ⟨rfl, HB2.out⟩
        · have t2 : decide ((i : Int) < (n2 : Int)) = false := decide_eq_false (by omega)
          go_wp2_with (go_at_call 3; (with_reducible refine (runs_calls _).mono ?_); rintro e_1 w_1 ⟨rfl, hb⟩; have HB2 := Aside0.mk (below_then HS.out.below HS.out.below.size hb); clear hb)
          go_ret
          exact ⟨rfl, HB2.out⟩
      · have t1 : decide ((i : Int) < (n1 : Int)) = false := decide_eq_false (by omega)
        go_wp2_with (go_at_call 3; (with_reducible refine (runs_calls _).mono ?_); rintro e_1 w_1 ⟨rfl, hb⟩; have HB2 := Aside0.mk (below_then HS.out.below HS.out.below.size hb); clear hb)
        go_ret
        exact ⟨rfl, HB2.out⟩
end Go.Proofs.Ytnfnbcbbiaheeaa.Vw
