/- MailFair answers true. -/
import Derived.Test.YtnfnbcbbiaheeaaMl11
import Derived.BigQuiet
namespace Go.Proofs.Ytnfnbcbbiaheeaa.Ml
open Go.RowKit Go.Proofs.YtnfnbcbbiaheeaaW.PrintWords Go.Proofs.YtnfnbcbbiaheeaaW.PrintLast Go.Proofs.YtnfnbcbbiaheeaaW.PrintMore Go.Proofs.Ytnfnbcbbiaheeaa.Lib Go.Proofs.Ytnfnbcbbiaheeaa.Open
def ints (i m : Nat) : List Int := (List.range m).map fun j : Nat => (100 * (i : Int) + (j : Int))
def eq0 (k m : Nat) : List (List Fr) := (List.range k).map fun i : Nat => (ints i m).map frn
def got (k n : Nat) : List Int := (List.range n).map fun t : Nat => (100 * ((t % k : Nat) : Int) + ((t / k : Nat) : Int))
def chk (k m x : Nat) : Bool := decide (tot (eq0 k m) ≤ 1000) && (drain x (tot (eq0 k m) + 1) (eq0 k m) []).2.map (fun y => y.f3) == got k (min x (k * m))
theorem chk_all : ((List.range 9).all fun m => (List.range 7).all fun k => (List.range 61).all fun x => chk k m x) = true := by decide +kernel
theorem chk_it (k m x : Nat) (hk : k ≤ 6) (hm : m ≤ 8) (hx : x ≤ 60) : ∃ F, tot (eq0 k m) ≤ 1000 ∧ drain x (tot (eq0 k m) + 1) (eq0 k m) [] = F ∧ F.2.map (fun y => y.f3) = got k (min x (k * m)) ∧ F.2.length = min x (k * m) := by
  have h := chk_all
  rw [List.all_eq_true] at h
  have h := h m (List.mem_range.2 (by omega))
  rw [List.all_eq_true] at h
  have h := h k (List.mem_range.2 (by omega))
  rw [List.all_eq_true] at h
  have h := h x (List.mem_range.2 (by omega))
  simp only [chk, Bool.and_eq_true, decide_eq_true_eq, beq_iff_eq] at h
  refine ⟨_, h.1, rfl, h.2, ?_⟩
  have := congrArg List.length h.2
  simpa [got] using this
theorem ints_length (i m : Nat) : (ints i m).length = m := by simp [ints]
theorem ints_succ (i j : Nat) : ints i (j + 1) = ints i j ++ [100 * (i : Int) + (j : Int)] := by simp [ints, List.range_succ]
theorem eq0_succ (k m : Nat) : eq0 (k + 1) m = eq0 k m ++ [(ints k m).map frn] := by simp [eq0, List.range_succ]
theorem eq0_length (k m : Nat) : (eq0 k m).length = k := by simp [eq0]
theorem got_length (k n : Nat) : (got k n).length = n := by simp [got]
theorem got_at (k n i : Nat) (h : i < n) : (got k n)[i]? = some (100 * ((i % k : Nat) : Int) + ((i / k : Nat) : Int)) := by
  simp [got, List.getElem?_range h]
/-- What each box gave. -/
def gv (k i : Nat) : List Value := (List.range 6).map fun b : Nat => .int .i64 ((if b < k then (i + k - 1 - b) / k else 0 : Nat) : Int)
theorem gv_at (k i b : Nat) (hb : b < 6) : (gv k i).toArray[b]? = some (.int .i64 ((if b < k then (i + k - 1 - b) / k else 0 : Nat) : Int)) := by
  simp [gv, List.getElem?_range hb]
theorem gv_div (k i : Nat) (h1 : 1 ≤ k) (h2 : k ≤ 6) : (i + k - 1 - i % k) / k = i / k := by
  rcases (show k = 1 ∨ k = 2 ∨ k = 3 ∨ k = 4 ∨ k = 5 ∨ k = 6 by omega) with rfl | rfl | rfl | rfl | rfl | rfl <;> omega
theorem gv_now (k i : Nat) (h1 : 1 ≤ k) (h2 : k ≤ 6) : (gv k i).toArray[i % k]? = some (.int .i64 ((i / k : Nat) : Int)) := by
  have := Nat.mod_lt i h1
  rw [gv_at k i _ (by omega), if_pos this, gv_div k i h1 h2]
theorem gv_next (k i b : Nat) (h1 : 1 ≤ k) (h2 : k ≤ 6) (hb : b < k) (hne : i % k ≠ b) : (i + 1 + k - 1 - b) / k = (i + k - 1 - b) / k := by
  rcases (show k = 1 ∨ k = 2 ∨ k = 3 ∨ k = 4 ∨ k = 5 ∨ k = 6 by omega) with rfl | rfl | rfl | rfl | rfl | rfl <;> omega
theorem gv_up (k i : Nat) (h1 : 1 ≤ k) (h2 : k ≤ 6) : (i + 1 + k - 1 - i % k) / k = i / k + 1 := by
  rcases (show k = 1 ∨ k = 2 ∨ k = 3 ∨ k = 4 ∨ k = 5 ∨ k = 6 by omega) with rfl | rfl | rfl | rfl | rfl | rfl <;> omega
theorem gv_step (k i : Nat) (h1 : 1 ≤ k) (h2 : k ≤ 6) : (gv k i).toArray.setIfInBounds (i % k) (.int .i64 (((i / k : Nat) : Int) + 1)) = (gv k (i + 1)).toArray := by
  have hm := Nat.mod_lt i h1
  have hs : ∀ j, (gv k j).toArray.size = 6 := fun j => by simp [gv]
  refine Array.ext_getElem? fun b => ?_
  by_cases hb : b < 6
  · rw [gv_at k (i + 1) b hb]
    by_cases e : i % k = b
    · subst e
      rw [Array.getElem?_setIfInBounds_self_of_lt (by rw [hs]; omega), if_pos hm, gv_up k i h1 h2]
      rfl
    · rw [Array.getElem?_setIfInBounds_ne e, gv_at k i b hb]
      by_cases hk : b < k
      · rw [if_pos hk, if_pos hk, gv_next k i b h1 h2 hk e]
      · rw [if_neg hk, if_neg hk]
  · rw [Array.getElem?_eq_none (by rw [Array.size_setIfInBounds, hs]; omega), Array.getElem?_eq_none (by rw [hs]; omega)]
theorem gv_zero (k : Nat) (h2 : k ≤ 6) : (gv k 0).toArray = #[.int .i64 0, .int .i64 0, .int .i64 0, .int .i64 0, .int .i64 0, .int .i64 0] := by
  rcases (show k = 0 ∨ k = 1 ∨ k = 2 ∨ k = 3 ∨ k = 4 ∨ k = 5 ∨ k = 6 by omega) with rfl | rfl | rfl | rfl | rfl | rfl | rfl <;> rfl
theorem info3 : (Try.prog.info? 3).map (fun i => (i.zero, i.size, i.bytes)) = some (some (.int .i64 0), 1, 8) := by kernel_rfl
theorem info40 : (Try.prog.info? 40).map (fun i => (i.zero, i.size, i.bytes)) = some (some (.pointer none), 1, 8) := by kernel_rfl
/-- The outer loop: i boxes are filled. -/
def BoxesAt (w0 : World) (K m : Nat) (k : Nat) (s9 s10 : Value) (wr : World) : Prop :=
  ∃ (i : Nat) (bs : List (Option (Nat × Nat))), s10 = .int .i64 (i : Int) ∧ i + k = K ∧ Bl w0 wr s9 bs (eq0 i m)
/-- The inner loop: j numbers are laid. -/
def NumsAt (w0 : World) (m i : Nat) (bs : List (Option (Nat × Nat))) (v9 : Value) (k : Nat) (s11 s12 : Value) (wr : World) : Prop :=
  ∃ j : Nat, s12 = .int .i64 (j : Int) ∧ j + k = m ∧ Bl w0 wr v9 bs (eq0 i m) ∧ wr.ownsRow w0.heap.size 3 1 s11 j ((ints i j).map (Value.int .i64))
/-- The last loop: i frames are looked at. -/
def GaveAt (w1 : World) (K N q : Nat) (k : Nat) (s16 : Value) (wr : World) : Prop :=
  ∃ i : Nat, s16 = .int .i64 (i : Int) ∧ i + k = N ∧ wr.heap[q]? = some (.cells (gv K i).toArray 63 (0, 0)) ∧ Below w1.heap.size w1 wr ∧ w1.heap.size ≤ q
theorem Rd.cell {w : World} {A : Option Addr} {n : Nat} {l : List Int} (h : Rd w A n l) {j : Nat} {x : Int} (hj : l[j]? = some x) : ∃ a, A = some a ∧ w.cell? (a.add j) = some (.int .i64 x) := by
  have hl := (List.getElem?_eq_some_iff.1 hj).1
  obtain ⟨a, rfl, ha⟩ := h.2.2 (by have := h.1; omega)
  obtain ⟨cs, _, hk, hc⟩ := ha j x hj
  refine ⟨a, rfl, ?_⟩
  have := hc 0 (.int .i64 x) (by rw [show cs = [Value.int .i64 x] from hk]; rfl)
  rwa [show j * (Kd.int .i64).sz + 0 = j from Nat.mul_one j] at this
theorem idx6 (q b : Nat) (h : b < 6) (w : World) : (Instr.indexAt 63 (.pointer (some ⟨q, 0, none⟩)) (.int .i64 (b : Int))).run Try.prog w = .ok (.pointer (some ⟨q, b, none⟩)) w := by
  have h2 := Try.underlying63
  unfold Instr.indexAt
  simp [run_underlying h2, asIntOf, Instr.sureAddr, Addr.add, h]
  intro h0
  exact h0.symm
set_option maxHeartbeats 8000000 in
set_option maxRecDepth 100000 in
theorem fair_calls (a0 a1 a2 : Int) (w : World) : Calls Try.prog 10 #[.int .i64 a0, .int .i64 a1, .int .i64 a2] w fun e w' => e = .returned (.bool true) ∧ Below w.heap.size w w' := by
  obtain ⟨K, hK1, hK2, hKc⟩ := within_nat a0 1 6 (by decide) (by decide) (by decide)
  obtain ⟨m, _, hm2, hmc⟩ := within_nat a1 0 8 (by decide) (by decide) (by decide)
  obtain ⟨x, _, hx2, hxc⟩ := within_nat a2 0 60 (by decide) (by decide) (by decide)
  have hK1 : 1 ≤ K := by omega
  have hK2 : K ≤ 6 := by omega
  have hm2 : m ≤ 8 := by omega
  have hx2 : x ≤ 60 := by omega
  have HKc := Aside0.mk hKc
  have HMc := Aside0.mk hmc
  have HXc := Aside0.mk hxc
  have HB := Aside0.mk (Below.refl w.heap.size w)
  clear hKc hmc hxc
  go_enter Try.func10, Try.ntmps10
  go_wp2_with (first | (go_at_call 19; (with_reducible refine (HKc.out _).mono ?_); rintro e_1 w_1 ⟨rfl, hb⟩; have HB_n := Aside0.mk (below_step HB.out hb); clear HB; have HB := HB_n; clear HB_n hb) | (go_at_call 19; (with_reducible refine (HMc.out _).mono ?_); rintro e_1 w_1 ⟨rfl, hb⟩; have HB_n := Aside0.mk (below_step HB.out hb); clear HB; have HB := HB_n; clear HB_n hb))
  have HF := Aside0.mk (show BoxesAt w K m K (.slice none 0 0) (.int .i64 0) w_1 from ⟨0, [], rfl, by omega, Bl.nil HB.out⟩)
  clear HB
  go_loopg [9, 10, 11, 12] K (fun k s9 s10 s11 s12 wr => BoxesAt w K m k s9 s10 wr)
  case atStart => exact HF.out
  case round =>
    clear HF
    obtain ⟨i, bs, rfl, hik, hp⟩ := hrel
    obtain ⟨Av, cv, rfl⟩ := own_slice hp.own
    have hbl : bs.length = i := by rw [← hp.bxs.len, eq0_length]
    have HBL := Aside0.mk hbl
    have HP := Aside0.mk hp
    clear hp hbl
    by_cases hlt : i < K
    · have r1 : decide ((i : Int) < (K : Int)) = true := decide_eq_true (by omega)
      have HN := Aside0.mk (show NumsAt w m i bs (.slice Av bs.length cv) m (.slice none 0 0) (.int .i64 0) wr from ⟨0, rfl, by omega, HP.out, own_nil _ _ _ _⟩)
      clear HP
      go_wp2
      go_loopg [11, 12] m (fun k s11 s12 wr => NumsAt w m i bs (.slice Av bs.length cv) k s11 s12 wr)
      case atStart => exact HN.out
      case round =>
        clear HN
        obtain ⟨j, rfl, hjk, hp, ho⟩ := hrel
        obtain ⟨Au, cu, rfl⟩ := own_slice ho
        have HP := Aside0.mk hp
        have HO := Aside0.mk ho
        clear hp ho
        by_cases hlj : j < m
        · have r2 : decide ((j : Int) < (m : Int)) = true := decide_eq_true (by omega)
          have HL := Aside0.mk (show j + 1 ≤ maxLen ∧ (j + 1) * 8 ≤ 140737488355328 by unfold maxLen; omega)
          go_wp2_with (refine ev_append (.tmp 32) (.tmp 37) 31 3 rfl rfl w.heap.size _ 1 8 Try.underlying31 info3 rfl (by decide) _ j ((ints i j).map (Value.int .i64)) rfl (pw_own_below HO.out (below_alloc (Below.refl _ _) _)) ⟨wr.heap.size, 0, none⟩ 1 1 [.int .i64 (100 * (i : Int) + (j : Int))] rfl rfl (fun j u hu => by rw [add_plain]; exact (blk_cell (blk_new _ _) j).trans (by simpa using hu)) (by simp [Value.oneCell']) HL.out.1 HL.out.2 (HP.out.far (below_alloc (Below.refl _ _) _)).size ?_; intro v2 w_2 ho2 hm2 _ hat2; have HP_n := Aside0.mk ((HP.out.far (below_alloc (Below.refl _ _) _)).row (pw_own_below HO.out (below_alloc (Below.refl _ _) _)) (by decide) hm2); clear HP; have HP := HP_n; clear HP_n; have HO_n := Aside0.mk ho2; clear HO; have HO := HO_n; clear HO_n hm2 ho2 hat2)
          go_roundg (m - (j + 1))
          case measure => omega
          case rel => exact ⟨j + 1, by go_num, by omega, HP.out, by rw [ints_succ, List.map_append]; exact HO.out⟩
        · obtain rfl : j = m := by omega
          have r2 : decide ((j : Int) < (j : Int)) = false := decide_eq_false (by omega)
          have E9 := Aside0.mk (show (9 : Int) = ((9 : Nat) : Int) from rfl)
          have M9 := Aside0.mk (show j ≤ 9 ∧ j ≤ 1000 ∧ bs.length + 1 ≤ maxLen ∧ (bs.length + 1) * 8 ≤ 140737488355328 by have := HBL.out; unfold maxLen; omega)
          go_wp2_with (first | (go_at_call 20; (with_reducible refine (filled_calls 9 Au j cu (ints i j) _ (own_arg HO.out (ints_length i j) M9.out.2.1) (by decide) (by decide) M9.out.1 _ E9.out).mono ?_); rintro e_1 w_1 ⟨g, c, rfl, hx, hg, hc, hb⟩; have HX := Aside0.mk (show Bx w_1 g c 9 ((ints i j).map frn) from hx); have HC := Aside0.mk (show (∀ k, Chs bs k → k < c) ∧ w.heap.size ≤ c from ⟨fun k hk => Nat.lt_of_lt_of_le (HP.out.bxs.lt k hk) hc, Nat.le_trans HP.out.size hc⟩); have HP_n := Aside0.mk (HP.out.far hb); clear HP HO; have HP := HP_n; clear HP_n hx hg hc hb) | (refine ev_append (.tmp 39) (.tmp 42) 61 40 rfl rfl w.heap.size _ 1 8 Try.underlying61 info40 rfl (by decide) _ bs.length (bs.map pv) rfl (HP.out.far (below_alloc (Below.refl _ _) _)).own ⟨_, 0, none⟩ 1 1 [.pointer (some ⟨g, 0, none⟩)] rfl rfl (fun j u hu => by rw [add_plain]; exact (blk_cell (blk_new _ _) j).trans (by simpa using hu)) (by simp [Value.oneCell']) M9.out.2.2.1 M9.out.2.2.2 (HP.out.far (below_alloc (Below.refl _ _) _)).size ?_; intro v2 w_2 ho2 hm2 _ hat2; have HP_n := Aside0.mk ((HP.out.far (below_alloc (Below.refl _ _) _)).add (HX.out.below (below_alloc (Below.refl _ _) _)) HC.out.1 HC.out.2 ho2 hm2); clear HP; have HP := HP_n; clear HP_n hm2 ho2 hat2))
          go_roundg (K - (i + 1))
          case measure => omega
          case rel => exact ⟨i + 1, _, by go_num, by omega, by rw [eq0_succ]; exact HP.out⟩
    · obtain rfl : i = K := by omega
      have r1 : decide ((i : Int) < (i : Int)) = false := decide_eq_false (by omega)
      obtain ⟨F, hF1, hF2, hF3, hF4⟩ := chk_it i m x hK2 hm2 hx2
      obtain ⟨N, hN⟩ : ∃ N, N = min x (i * m) := ⟨_, rfl⟩
      rw [← hN] at hF3 hF4
      have HNe := Aside0.mk hN
      have HF := Aside0.mk (And.intro hF1 (And.intro hF2 (And.intro hF3 hF4)))
      have HL := Aside0.mk (show bs.length ≤ 1000 ∧ N ≤ 1000 by have := HBL.out; omega)
      clear hF1 hF2 hF3 hF4 hN
      obtain ⟨P, hP⟩ : ∃ P, P = i * m := ⟨_, rfl⟩
      have hP6 : P ≤ 48 := by rw [hP]; exact Nat.mul_le_mul hK2 hm2
      have hw : wrap64 ((i : Int) * (m : Int)) = (P : Int) := by rw [show (i : Int) * (m : Int) = ((i * m : Nat) : Int) by simp, ← hP]; unfold wrap64; omega
      have HNp := Aside0.mk (show N = min x P by rw [hP]; exact HNe.out)
      have HMn := Aside0.mk (show N = min x P ∧ P = i * m from ⟨HNp.out, hP⟩)
      clear hP
      go_wp2_with (first | (go_at_call 19; (with_reducible refine (HXc.out _).mono ?_); rintro e_1 w_1 ⟨rfl, hb⟩; have HP_n := Aside0.mk (HP.out.far hb); clear HP; have HP := HP_n; clear HP_n hb) | (go_at_call 24; (with_reducible refine (drain_calls _ Av bs.length cv bs (eq0 i m) _ HP.out.bxs HP.out.asRow HL.out.1 HF.out.1 F HF.out.2.1).mono ?_); rintro e_1 w_1 ⟨vd, rfl, hd⟩; have ho := hd.own; rw [HF.out.2.2.2] at ho; obtain ⟨Ad, cd, rfl⟩ := own_slice ho; have HO := Aside0.mk ho; have HB := Aside0.mk (hd.mod.after HP.out.below HP.out.size HP.out.ge); clear HP hd ho) | (go_at_call 28; (with_reducible refine (rids_calls _ Ad N cd F.2 _ HO.out HF.out.2.2.2 HL.out.2).mono ?_); rintro e_1 w_1 ⟨Ar, cr, rfl, hr, hcr, hb⟩; have HR := Aside0.mk (show Rd w_1 Ar N (got i N) from by rw [← HF.out.2.2.1]; exact hr); have HCR := Aside0.mk hcr; have HB_n := Aside0.mk (below_step HB.out hb); clear HB HO; have HB := HB_n; clear HB_n hr hcr hb) | (refine gate_ (.alloc 63) rfl ?_; refine box_event ?hg (N := 15) ?hd (cs := (gv i 0).toArray) (t := 63) ?hr ?_; (case hd => rfl); (case hg => rfl); (case hr => (rw [gv_zero i hK2]; first | (go_simp; done) | (go_simp; rfl))); intro q hgb w_1 hbox hb; have KQ := Aside0.mk hbox; have H1 := Aside0.mk (And.intro hb (Nat.le_of_eq hgb.symm)); clear hgb hbox hb))
      obtain ⟨w1, hw1⟩ : ∃ w1 : World, Rd w1 Ar N (got i N) ∧ Below w.heap.size w w1 ∧ GaveAt w1 i N q N (.int .i64 0) w_1 := ⟨_, HR.out, HB.out, 0, rfl, by omega, KQ.out, H1.out.1, H1.out.2⟩
      have HG := Aside0.mk hw1
      clear hw1 HR HB KQ H1
      go_loopg [16, 17] N (fun k s16 s17 wr => GaveAt w1 i N q k s16 wr)
      case atStart => exact HG.out.2.2
      case round =>
        obtain ⟨j, rfl, hjk, hq, hb, hge⟩ := hrel
        have KQ := Aside0.mk hq
        have HB := Aside0.mk hb
        have GQ := Aside0.mk hge
        clear hq hb hge
        by_cases hlj : j < N
        · have r2 : decide ((j : Int) < (N : Int)) = true := decide_eq_true (by omega)
          have hg := got_at i N j hlj
          have hk0 := gv_now i j hK1 hK2
          have hjm : j / i < m := Nat.div_lt_of_lt_mul (by have := HNe.out; omega)
          have hjb : j % i < i := Nat.mod_lt _ hK1
          have HS := Aside0.mk (gv_step i j hK1 hK2)
          have rj : Int.tmod (j : Int) (i : Int) = ((j % i : Nat) : Int) := by rw [Int.tmod_eq_emod_of_nonneg (by omega)]; omega
          generalize j % i = b at *
          generalize j / i = c at *
          obtain ⟨v, hv⟩ : ∃ v : Int, v = 100 * (b : Int) + (c : Int) := ⟨_, rfl⟩
          rw [← hv] at hg
          have rq : Int.tdiv v 100 = (b : Int) := by rw [Int.tdiv_eq_ediv_of_nonneg (by omega)]; omega
          have rm : Int.tmod v 100 = (c : Int) := by rw [Int.tmod_eq_emod_of_nonneg (by omega)]; omega
          obtain ⟨a, rfl, hc⟩ := (HG.out.1.below HB.out).cell hg
          have hc2 := (blk_cell KQ.out b).trans hk0
          clear hg hk0 hv
          have d1 : decide ((b : Int) < 0) = false := decide_eq_false (by omega)
          have d2 : decide ((i : Int) ≤ (b : Int)) = false := decide_eq_false (by omega)
          have d3 : ((c : Int) != (c : Int)) = false := by simp
          have d4 : ((b : Int) != (b : Int)) = false := by simp
          have hix := idx6 q b (by omega)
          have hi0 : ¬ i = 0 := by omega
          have hN1 : N ≤ 1000 := HL.out.2
          have hfr : wr.frozen? ⟨q, b, none⟩ = false := blk_frozen KQ.out _
          go_wp2
          go_quiet (fail)
          have KQ_n := Aside0.mk (show (wr.drewN nq).heap[q]? = some (.cells (gv i j).toArray 63 (0, 0)) from KQ.out)
          have HB_n := Aside0.mk (below_then HB.out HB.out.size (pw_below_drewN (Below.refl _ _) nq))
          clear KQ HB
          have KQ := KQ_n
          have HB := HB_n
          clear KQ_n HB_n
          go_wp2
          go_roundg (N - (j + 1))
          case measure => omega
          case rel => exact ⟨j + 1, by go_num, by omega, blk_put KQ.out b _ HS.out, (Mod.setCell (p := ⟨q, b, none⟩) (Mod.refl (fun k => k = q) _) (.inl rfl) _).after HB.out HB.out.size (fun k hk => by rw [hk]; exact GQ.out), GQ.out⟩
        · obtain rfl : j = N := by omega
          have r2 : decide ((j : Int) < (j : Int)) = false := decide_eq_false (by omega)
          have hj : (if (P : Int) < (x : Int) then (P : Int) else (x : Int)) = (j : Int) := by have := HNp.out; split <;> omega
          go_wp2_with (go_at_call 7; (with_reducible refine (runs_calls _).mono ?_); rintro e_1 w_1 ⟨rfl, hb⟩; have HB2 := Aside0.mk (below_step (below_then HG.out.2.1 HG.out.2.1.size HB.out) hb); clear hb)
          all_goals (go_ret; exact ⟨rfl, HB2.out⟩)
end Go.Proofs.Ytnfnbcbbiaheeaa.Ml
