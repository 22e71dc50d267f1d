/- New, of the program and of the document, whatever came in. -/
import Derived.Test.YtnndpjicbcailaaGa8
namespace Go.Proofs.Ytnndpjicbcailaa.Ga
open Go.RowKit Go.Proofs.YtnndpjicbcailaaW.PrintWords Go.Proofs.YtnndpjicbcailaaW.PrintLast Go.Proofs.YtnndpjicbcailaaW.PrintMore Go.Proofs.Ytnndpjicbcailaa.Lib Go.Proofs.Ytnndpjicbcailaa.Open
/-- Is place number i good? -/
def Good (l : List Int) (i : Nat) : Prop := ∀ x, l[i]? = some x → 0 ≤ x ∧ x < 12 ∧ (l.take i).contains x = false
def Nums (k d : Int) (n : Nat) : Prop := 1 ≤ k ∧ k ≤ 8 ∧ 0 ≤ d ∧ d ≤ 12 ∧ n ≤ 12
/-- The first place that isn't good. -/
theorem first_bad (l : List Int) : (∀ i, Good l i) ∨ ∃ i, i < l.length ∧ ¬ Good l i ∧ ∀ j, j < i → Good l j := by
  by_cases h : ∀ i, Good l i
  · exact .inl h
  · right
    have hex : ∃ i, ¬ Good l i := Classical.not_forall.1 h
    have key : ∀ n, (∃ i, i ≤ n ∧ ¬ Good l i) → ∃ i, ¬ Good l i ∧ ∀ j, j < i → Good l j := by
      intro n
      induction n with
      | zero =>
        rintro ⟨i, hi, hb⟩
        exact ⟨i, hb, fun j hj => by omega⟩
      | succ n ih =>
        rintro ⟨i, hi, hb⟩
        by_cases h' : ∃ i, i ≤ n ∧ ¬ Good l i
        · exact ih h'
        · exact ⟨i, hb, fun j hj => Classical.byContradiction fun hn => h' ⟨j, by omega, hn⟩⟩
    obtain ⟨i0, h0⟩ := hex
    obtain ⟨i, hb, hg⟩ := key i0 ⟨i0, Nat.le_refl _, h0⟩
    refine ⟨i, ?_, hb, hg⟩
    by_cases hl : i < l.length
    · exact hl
    · exact absurd (fun x hx => by rw [List.getElem?_eq_none (by omega)] at hx; cases hx) hb
/-- The loop: i places were good. -/
def GoodAt (w0 : World) (i0 : Nat) (r : Nat) (s31 : Value) (wr : World) : Prop := ∃ i : Nat, s31 = .int .i64 (i : Int) ∧ i + r = i0 ∧ Below w0.heap.size w0 wr
set_option maxHeartbeats 8000000 in
set_option maxRecDepth 100000 in
theorem new_nums (k d : Int) (A : Option Addr) (n c : Nat) (w : World) (h : ¬ Nums k d n) : Calls Try.prog 7 #[.int .i64 k, .int .i64 d, .slice A n c] w fun e w' => e = .returned (.tuple #[.pointer none, .int .i64 1]) ∧ Below w.heap.size w w' := by
  by_cases k1 : k < 1
  · have r0 : decide (k < 1) = true := decide_eq_true k1
    clear h
    go_enter Try.func7, Try.ntmps7
    go_wp2
    refine bodyPost_ret (results_tmp2 rfl _ _ _) rfl ?_
    exact ⟨rfl, Below.refl _ _⟩
  have r0 : decide (k < 1) = false := decide_eq_false k1
  by_cases k2 : 8 < k
  · have r1 : decide (8 < k) = true := decide_eq_true k2
    clear h
    go_enter Try.func7, Try.ntmps7
    go_wp2
    refine bodyPost_ret (results_tmp2 rfl _ _ _) rfl ?_
    exact ⟨rfl, Below.refl _ _⟩
  have r1 : decide (8 < k) = false := decide_eq_false k2
  by_cases d1 : d < 0
  · have r2 : decide (d < 0) = true := decide_eq_true d1
    clear h
    go_enter Try.func7, Try.ntmps7
    go_wp2
    refine bodyPost_ret (results_tmp2 rfl _ _ _) rfl ?_
    exact ⟨rfl, Below.refl _ _⟩
  have r2 : decide (d < 0) = false := decide_eq_false d1
  by_cases d2 : 12 < d
  · have r3 : decide (12 < d) = true := decide_eq_true d2
    clear h
    go_enter Try.func7, Try.ntmps7
    go_wp2
    refine bodyPost_ret (results_tmp2 rfl _ _ _) rfl ?_
    exact ⟨rfl, Below.refl _ _⟩
  have r3 : decide (12 < d) = false := decide_eq_false d2
  have hn : 12 < n := by
    unfold Nums at h
    omega
  have r5 : decide ((12 : Int) < (n : Int)) = true := decide_eq_true (by omega)
  clear h
  go_enter Try.func7, Try.ntmps7
  go_wp2
  refine bodyPost_ret (results_tmp2 rfl _ _ _) rfl ?_
  exact ⟨rfl, Below.refl _ _⟩
set_option maxHeartbeats 8000000 in
set_option maxRecDepth 100000 in
theorem rnew_nums (k d : Int) (A : Option Addr) (n c : Nat) (w : World) (h : ¬ Nums k d n) : Calls Try.prog 14 #[.int .i64 k, .int .i64 d, .slice A n c] w fun e w' => e = .returned (.tuple #[.pointer none, .int .i64 1]) ∧ Below w.heap.size w w' := by
  by_cases k1 : k < 1
  · have r0 : decide (k < 1) = true := decide_eq_true k1
    clear h
    go_enter Try.func14, Try.ntmps14
    go_wp2
    refine bodyPost_ret (results_tmp2 rfl _ _ _) rfl ?_
    exact ⟨rfl, Below.refl _ _⟩
  have r0 : decide (k < 1) = false := decide_eq_false k1
  by_cases k2 : 8 < k
  · have r1 : decide (8 < k) = true := decide_eq_true k2
    clear h
    go_enter Try.func14, Try.ntmps14
    go_wp2
    refine bodyPost_ret (results_tmp2 rfl _ _ _) rfl ?_
    exact ⟨rfl, Below.refl _ _⟩
  have r1 : decide (8 < k) = false := decide_eq_false k2
  by_cases d1 : d < 0
  · have r2 : decide (d < 0) = true := decide_eq_true d1
    clear h
    go_enter Try.func14, Try.ntmps14
    go_wp2
    refine bodyPost_ret (results_tmp2 rfl _ _ _) rfl ?_
    exact ⟨rfl, Below.refl _ _⟩
  have r2 : decide (d < 0) = false := decide_eq_false d1
  by_cases d2 : 12 < d
  · have r3 : decide (12 < d) = true := decide_eq_true d2
    clear h
    go_enter Try.func14, Try.ntmps14
    go_wp2
    refine bodyPost_ret (results_tmp2 rfl _ _ _) rfl ?_
    exact ⟨rfl, Below.refl _ _⟩
  have r3 : decide (12 < d) = false := decide_eq_false d2
  have hn : 12 < n := by
    unfold Nums at h
    omega
  have r5 : decide ((12 : Int) < (n : Int)) = true := decide_eq_true (by omega)
  clear h
  go_enter Try.func14, Try.ntmps14
  go_wp2
  refine bodyPost_ret (results_tmp2 rfl _ _ _) rfl ?_
  exact ⟨rfl, Below.refl _ _⟩
set_option maxHeartbeats 8000000 in
set_option maxRecDepth 100000 in
theorem new_bad (k d : Int) (A : Option Addr) (n c : Nat) (l : List Int) (w : World) (h : Nums k d n) (hA : Rd w A n l) (hc : n ≤ c) (i0 : Nat) (hi0 : i0 < l.length) (hb : ¬ Good l i0) (hg : ∀ j, j < i0 → Good l j) : Calls Try.prog 7 #[.int .i64 k, .int .i64 d, .slice A n c] w fun e w' => e = .returned (.tuple #[.pointer none, .int .i64 1]) ∧ Below w.heap.size w w' := by
  obtain ⟨hk1, hk2, hd1, hd2, hn⟩ := h
  have HA := Aside0.mk hA
  have HG := Aside0.mk hg
  have HBAD := Aside0.mk hb
  have hin : i0 < n := by have := hA.1; omega
  have r1 : decide (k < 1) = false := decide_eq_false (by omega)
  have r2 : decide (8 < k) = false := decide_eq_false (by omega)
  have r3 : decide (d < 0) = false := decide_eq_false (by omega)
  have r4 : decide (12 < d) = false := decide_eq_false (by omega)
  have r5 : decide ((12 : Int) < (n : Int)) = false := decide_eq_false (by omega)
  have HB := Aside0.mk (show GoodAt w i0 i0 (.int .i64 0) w from ⟨0, rfl, by omega, Below.refl _ _⟩)
  clear hA hg hb
  go_enter Try.func7, Try.ntmps7
  go_wp2
  go_loopg [8, 9, 31] i0 (fun r s8 s9 s31 wr => GoodAt w i0 r s31 wr)
  case atStart => exact HB.out
  case round =>
    clear HB
    obtain ⟨i, rfl, hir, hb⟩ := hrel
    have HB := Aside0.mk hb
    clear hb
    have hltn : i < n := by omega
    have r6 : decide ((i : Int) < (n : Int)) = true := decide_eq_true (by omega)
    obtain ⟨x, hx⟩ : ∃ x, l[i]? = some x := ⟨_, List.getElem?_eq_getElem (by have := HA.out.1; omega)⟩
    obtain ⟨a, rfl, hcx⟩ := (HA.out.below HB.out).cell hx
    have HI := Aside0.mk (show i ≤ n ∧ i ≤ 1000 ∧ i ≤ c by omega)
    by_cases hlt : i < i0
    · obtain ⟨x0, x12, hct⟩ := HG.out i hlt x hx
      have HCT := Aside0.mk hct
      have r7 : decide (x < 0) = false := decide_eq_false (by omega)
      have r8 : decide ((12 : Int) ≤ x) = false := decide_eq_false (by omega)
      clear hx hct
      go_wp2_with (go_at_call 19; (with_reducible refine (contains_calls (some a) i c (l.take i) x false _ ((HA.out.below HB.out).take i HI.out.1) HI.out.2.2 HI.out.2.1 HCT.out).mono ?_); rintro e_1 w_1 ⟨rfl, hb⟩; have HB_n := Aside0.mk (below_step HB.out hb.below); clear HB; have HB := HB_n; clear HB_n hb)
      go_roundg (i0 - (i + 1))
      case measure => omega
      case rel => exact ⟨i + 1, by go_num, by omega, HB.out⟩
    · obtain rfl : i = i0 := by omega
      by_cases x0 : x < 0
      · have r7 : decide (x < 0) = true := decide_eq_true x0
        clear hx
        go_wp2
        refine bodyPost_ret (results_tmp2 rfl _ _ _) rfl ?_
        exact ⟨rfl, HB.out⟩
      · have r7 : decide (x < 0) = false := decide_eq_false x0
        by_cases x12 : 12 ≤ x
        · have r8 : decide ((12 : Int) ≤ x) = true := decide_eq_true x12
          clear hx
          go_wp2
          refine bodyPost_ret (results_tmp2 rfl _ _ _) rfl ?_
          exact ⟨rfl, HB.out⟩
        · have r8 : decide ((12 : Int) ≤ x) = false := decide_eq_false x12
          have HCT := Aside0.mk (show (l.take i).contains x = true from by
            cases h : (l.take i).contains x with
            | true => rfl
            | false => exact absurd (fun y hy => by obtain rfl : x = y := Option.some.inj (hx.symm.trans hy); exact ⟨by omega, by omega, h⟩) HBAD.out)
          clear hx
          go_wp2_with (go_at_call 19; (with_reducible refine (contains_calls (some a) i c (l.take i) x true _ ((HA.out.below HB.out).take i HI.out.1) HI.out.2.2 HI.out.2.1 HCT.out).mono ?_); rintro e_1 w_1 ⟨rfl, hb⟩; have HB_n := Aside0.mk (below_step HB.out hb.below); clear HB; have HB := HB_n; clear HB_n hb)
          refine bodyPost_ret (results_tmp2 rfl _ _ _) rfl ?_
          exact ⟨rfl, HB.out⟩
theorem least {p : Nat → Prop} (h : ∃ n, p n) : ∃ n, p n ∧ ∀ m, m < n → ¬ p m := by
  obtain ⟨n0, h0⟩ := h
  have key : ∀ n, (∃ i, i ≤ n ∧ p i) → ∃ i, p i ∧ ∀ m, m < i → ¬ p m := by
    intro n
    induction n with
    | zero =>
      rintro ⟨i, hi, hb⟩
      exact ⟨i, hb, fun j hj => by omega⟩
    | succ n ih =>
      rintro ⟨i, hi, hb⟩
      by_cases h' : ∃ i, i ≤ n ∧ p i
      · exact ih h'
      · exact ⟨i, hb, fun j hj hn => h' ⟨j, by omega, hn⟩⟩
  exact key n0 ⟨n0, Nat.le_refl _, h0⟩
theorem rd_pair {w W : World} {a : Addr} {n : Nat} {l : List Int} (h : Rd w (some a) n l) (hb : Below w.heap.size w W) {j : Nat} {x : Int} (hj : l[j]? = some x) : W.cell? (a.add j) = some (.int .i64 x) := by
  obtain ⟨a', e, hc⟩ := (h.below hb).cell hj
  cases e
  exact hc
theorem not_in {l : List Int} {i j : Nat} {x y : Int} (h : (l.take i).contains x = false) (hj : j < i) (hy : l[j]? = some y) : y ≠ x := fun e => by
  subst e
  have h1 : y ∈ l.take i := List.mem_of_getElem? (i := j) (by rw [List.getElem?_take_of_lt hj]; exact hy)
  rw [List.contains_iff_mem.2 h1] at h
  cases h
set_option maxHeartbeats 8000000 in
set_option maxRecDepth 100000 in
theorem rnew_ok (k d : Nat) (A : Option Addr) (n c : Nat) (l : List Int) (w : World) (hk1 : 1 ≤ k) (hk2 : k ≤ 8) (hd : d ≤ 12) (hn : n ≤ 12) (hA : Rd w A n l) (hc : n ≤ c) (hok : ∀ i, Good l i) (i0 i1 : Int) (e0 : i0 = (k : Int)) (e1 : i1 = (d : Int)) :
    Calls Try.prog 14 #[.int .i64 i0, .int .i64 i1, .slice A n c] w fun e w' => ∃ g Pv, e = .returned (.tuple #[.pointer (some ⟨g, 0, none⟩), .int .i64 0]) ∧ Rx w.heap.size w' g k d l 0 0 [] Pv (.slice none 0 0) ∧ w.heap.size ≤ g ∧ Below w.heap.size w w' := by
  subst e0 e1
  have HA := Aside0.mk hA
  have HK := Aside0.mk hok
  have r1 : decide ((k : Int) < 1) = false := decide_eq_false (by omega)
  have r2 : decide ((8 : Int) < (k : Int)) = false := decide_eq_false (by omega)
  have r3 : decide ((d : Int) < 0) = false := decide_eq_false (by omega)
  have r4 : decide ((12 : Int) < (d : Int)) = false := decide_eq_false (by omega)
  have r5 : decide ((12 : Int) < (n : Int)) = false := decide_eq_false (by omega)
  have HB := Aside0.mk (show GoodAt w n n (.int .i64 0) w from ⟨0, rfl, by omega, Below.refl _ _⟩)
  clear hA hok
  go_enter Try.func14, Try.ntmps14
  go_wp2
  go_loopg [8, 9] n (fun r s8 s9 wr => GoodAt w n r s8 wr)
  case atStart => exact HB.out
  case round =>
    clear HB
    obtain ⟨i, rfl, hir, hb⟩ := hrel
    have HB := Aside0.mk hb
    clear hb
    by_cases hlt : i < n
    · have r6 : decide ((i : Int) < (n : Int)) = true := decide_eq_true (by omega)
      obtain ⟨x, hx⟩ : ∃ x, l[i]? = some x := ⟨_, List.getElem?_eq_getElem (by have := HA.out.1; omega)⟩
      obtain ⟨x0, x12, hct⟩ := HK.out i x hx
      obtain ⟨a, rfl, hcx⟩ := (HA.out.below HB.out).cell hx
      have HCT := Aside0.mk hct
      have HX := Aside0.mk hx
      have r7 : decide (x < 0) = false := decide_eq_false (by omega)
      have r8 : decide ((12 : Int) ≤ x) = false := decide_eq_false (by omega)
      have HJ := Aside0.mk (show GoodAt w i i (.int .i64 0) wr from ⟨0, rfl, by omega, HB.out⟩)
      clear hx hct HB
      go_wp2
      go_loopg [9] i (fun r s9 wr => GoodAt w i r s9 wr)
      case atStart => exact HJ.out
      case round =>
        clear HJ hcx
        obtain ⟨j, rfl, hjr, hb⟩ := hrel
        have HB := Aside0.mk hb
        clear hb
        by_cases hj : j < i
        · have r9 : decide ((j : Int) < (i : Int)) = true := decide_eq_true (by omega)
          obtain ⟨y, hy⟩ : ∃ y, l[j]? = some y := ⟨_, List.getElem?_eq_getElem (by have := HA.out.1; omega)⟩
          have cy := rd_pair HA.out HB.out hy
          have cx := rd_pair HA.out HB.out HX.out
          have hne := not_in HCT.out hj hy
          have r10 : (y == x) = false := beq_eq_false_iff_ne.2 hne
          have hjn : j < n := by omega
          clear hy
          go_wp2
          go_quiet (fail)
          have HB_n := Aside0.mk (below_step HB.out (pw_below_drewN (Below.refl _ _) nq))
          clear HB
          have HB := HB_n
          clear HB_n
          go_wp2
          go_roundg (i - (j + 1))
          case measure => omega
          case rel => exact ⟨j + 1, by go_num, by omega, HB.out⟩
        · obtain rfl : j = i := by omega
          have r9 : decide ((j : Int) < (j : Int)) = false := decide_eq_false (by omega)
          go_wp2
          go_roundg (n - (j + 1))
          case measure => omega
          case rel => exact ⟨j + 1, by go_num, by omega, HB.out⟩
    · obtain rfl : i = n := by omega
      have r6 : decide ((i : Int) < (i : Int)) = false := decide_eq_false (by omega)
      have HL := Aside0.mk (show (l.map (Value.int .i64)).length = i * 1 ∧ 0 + i ≤ maxLen ∧ (0 + i) * 8 ≤ 140737488355328 ∧ l.length = i by have := HA.out.1; rw [List.length_map]; unfold maxLen; omega)
      have HWF := Aside0.mk (show k ≤ 8 ∧ d ≤ 12 ∧ i ≤ 12 from ⟨hk2, hd, hn⟩)
      cases A with
      | none =>
        obtain rfl : i = 0 := by
          rcases Nat.eq_zero_or_pos i with h0 | h0
          · exact h0
          · obtain ⟨a, e, _⟩ := HA.out.2.2 h0
            cases e
        obtain rfl : l = [] := List.length_eq_zero_iff.1 HL.out.2.2.2
        have HE := Aside0.mk (show (wr.alloc (.cells #[] 3 (0, 0))).ownsRow w.heap.size 3 1 (.slice (some ⟨wr.heap.size, 0, none⟩) 0 0) 0 [] from own_empty HB.out.size (blk_new wr _))
        have HB2 := Aside0.mk (below_step HB.out (below_alloc (Below.refl _ _) (.cells #[] 3 (0, 0))))
        clear HB
        go_wp2_with (refine gate_ (.box 44 (.tmp 66)) rfl ?_; refine box_event ?hg (N := 67) ?hd (cs := #[.int .i64 (k : Int), .int .i64 (d : Int), .slice (some ⟨wr.heap.size, 0, none⟩) 0 0, .int .i64 0, .int .i64 0, .slice none 0 0]) (t := 44) ?hr ?_; (case hd => rfl); (case hg => rfl); (case hr => first | (go_simp; done) | (go_simp; rfl)); intro q hgb w_1 hbox hb; have KQ := Aside0.mk hbox; have GQ := Aside0.mk (show w.heap.size ≤ q from by rw [hgb]; exact HB2.out.size); have PQ := Aside0.mk (show ∀ q', (Value.slice (some ⟨wr.heap.size, 0, none⟩) 0 0).ownBlock = some q' → q' < q from fun q' h => by rw [hgb]; exact own_lt HE.out q' h); have HB_n := Aside0.mk (below_step HB2.out hb); have HO := Aside0.mk (pw_own_below HE.out hb); clear HB2 HE; have HB2 := HB_n; clear HB_n hgb hbox hb)
        refine bodyPost_ret (results_tmp2 rfl _ _ _) rfl ?_
        exact ⟨q, _, rfl, ⟨GQ.out, KQ.out, HO.out, own_nil _ _ _ _, PQ.out, HWF.out.1, HWF.out.2.1, Nat.zero_le _, Nat.zero_le _, Nat.zero_le _, Nat.zero_le _⟩, GQ.out, HB2.out⟩
      | some a =>
        have HR := Aside0.mk (show ∀ W, Below w.heap.size w W → ∀ j u, (l.map (Value.int .i64))[j]? = some u → W.cell? (a.add j) = some u from fun W hb j u hu => by
          rw [List.getElem?_map] at hu
          obtain ⟨x, hx, rfl⟩ := Option.map_eq_some_iff.1 hu
          exact rd_pair HA.out hb hx)
        have HB2 := Aside0.mk (below_step HB.out (below_alloc (Below.refl _ _) (.cells #[] 3 (0, 0))))
        have HS := Aside0.mk HB.out.size
        clear HB
        go_wp2_with (first | (refine ev_append (W := wr.alloc (.cells #[] 3 (0, 0))) (.tmp 63) (.tmp 64) 26 3 rfl rfl w.heap.size _ 1 8 Try.underlying26 info3 rfl (by decide) _ 0 [] rfl (own_empty HS.out (blk_new wr _)) a i c (l.map (Value.int .i64)) rfl HL.out.1 (HR.out _ HB2.out) (map_one l) HL.out.2.1 HL.out.2.2.1 HB2.out.size ?_; intro v2 w_2 ho2 hm2 _ hat2; rw [Nat.zero_add, List.nil_append] at ho2; obtain ⟨Av2, cv2, rfl⟩ := own_slice ho2; have HO := Aside0.mk ho2; have HB_n := Aside0.mk (hm2.after HB2.out HB2.out.size (fun k hk => Nat.le_trans HS.out (Nat.le_of_eq (Option.some.inj (show some wr.heap.size = some k from hk.symm))))); clear HB2; have HB2 := HB_n; clear HB_n ho2 hm2 hat2) | (refine gate_ (.box 44 (.tmp 66)) rfl ?_; refine box_event ?hg (N := 67) ?hd (cs := #[.int .i64 (k : Int), .int .i64 (d : Int), .slice Av2 i cv2, .int .i64 0, .int .i64 0, .slice none 0 0]) (t := 44) ?hr ?_; (case hd => rfl); (case hg => rfl); (case hr => first | (go_simp; done) | (go_simp; rfl)); intro q hgb w_1 hbox hb; have KQ := Aside0.mk hbox; have GQ := Aside0.mk (show w.heap.size ≤ q from by rw [hgb]; exact HB2.out.size); have PQ := Aside0.mk (show ∀ q', (Value.slice Av2 i cv2).ownBlock = some q' → q' < q from fun q' h => by rw [hgb]; exact own_lt HO.out q' h); have HB_n := Aside0.mk (below_step HB2.out hb); have HO_n := Aside0.mk (pw_own_below HO.out hb); clear HB2 HO; have HB2 := HB_n; have HO := HO_n; clear HB_n HO_n hgb hbox hb))
        refine bodyPost_ret (results_tmp2 rfl _ _ _) rfl ?_
        exact ⟨q, _, rfl, ⟨GQ.out, KQ.out, by rw [HL.out.2.2.2]; exact HO.out, own_nil _ _ _ _, PQ.out, HWF.out.1, HWF.out.2.1, by rw [HL.out.2.2.2]; exact HWF.out.2.2, Nat.zero_le _, Nat.zero_le _, Nat.zero_le _⟩, GQ.out, HB2.out⟩
set_option maxHeartbeats 8000000 in
set_option maxRecDepth 100000 in
theorem rnew_bad (k d : Int) (A : Option Addr) (n c : Nat) (l : List Int) (w : World) (h : Nums k d n) (hA : Rd w A n l) (i0 : Nat) (hi0 : i0 < l.length) (hb : ¬ Good l i0) (hg : ∀ j, j < i0 → Good l j) : Calls Try.prog 14 #[.int .i64 k, .int .i64 d, .slice A n c] w fun e w' => e = .returned (.tuple #[.pointer none, .int .i64 1]) ∧ Below w.heap.size w w' := by
  obtain ⟨hk1, hk2, hd1, hd2, hn⟩ := h
  have HA := Aside0.mk hA
  have HG := Aside0.mk hg
  have HBAD := Aside0.mk hb
  have hin : i0 < n := by have := hA.1; omega
  have r1 : decide (k < 1) = false := decide_eq_false (by omega)
  have r2 : decide (8 < k) = false := decide_eq_false (by omega)
  have r3 : decide (d < 0) = false := decide_eq_false (by omega)
  have r4 : decide (12 < d) = false := decide_eq_false (by omega)
  have r5 : decide ((12 : Int) < (n : Int)) = false := decide_eq_false (by omega)
  have HB := Aside0.mk (show GoodAt w i0 i0 (.int .i64 0) w from ⟨0, rfl, by omega, Below.refl _ _⟩)
  clear hA hg hb
  go_enter Try.func14, Try.ntmps14
  go_wp2
  go_loopg [8, 9] i0 (fun r s8 s9 wr => GoodAt w i0 r s8 wr)
  case atStart => exact HB.out
  case round =>
    clear HB
    obtain ⟨i, rfl, hir, hb⟩ := hrel
    have HB := Aside0.mk hb
    clear hb
    have hltn : i < n := by omega
    have r6 : decide ((i : Int) < (n : Int)) = true := decide_eq_true (by omega)
    obtain ⟨x, hx⟩ : ∃ x, l[i]? = some x := ⟨_, List.getElem?_eq_getElem (by have := HA.out.1; omega)⟩
    obtain ⟨a, rfl, hcx⟩ := (HA.out.below HB.out).cell hx
    have HX := Aside0.mk hx
    by_cases hlt : i < i0
    · obtain ⟨x0, x12, hct⟩ := HG.out i hlt x hx
      have HCT := Aside0.mk hct
      have r7 : decide (x < 0) = false := decide_eq_false (by omega)
      have r8 : decide ((12 : Int) ≤ x) = false := decide_eq_false (by omega)
      have HJ := Aside0.mk (show GoodAt w i i (.int .i64 0) wr from ⟨0, rfl, by omega, HB.out⟩)
      clear hx hct HB
      go_wp2
      go_loopg [9] i (fun r s9 wr => GoodAt w i r s9 wr)
      case atStart => exact HJ.out
      case round =>
        clear HJ hcx
        obtain ⟨j, rfl, hjr, hb⟩ := hrel
        have HB := Aside0.mk hb
        clear hb
        by_cases hj : j < i
        · have r9 : decide ((j : Int) < (i : Int)) = true := decide_eq_true (by omega)
          obtain ⟨y, hy⟩ : ∃ y, l[j]? = some y := ⟨_, List.getElem?_eq_getElem (by have := HA.out.1; omega)⟩
          have cy := rd_pair HA.out HB.out hy
          have cx := rd_pair HA.out HB.out HX.out
          have hne := not_in HCT.out hj hy
          have r10 : (y == x) = false := beq_eq_false_iff_ne.2 hne
          have hjn : j < n := by omega
          clear hy
          go_wp2
          go_quiet (fail)
          have HB_n := Aside0.mk (below_step HB.out (pw_below_drewN (Below.refl _ _) nq))
          clear HB
          have HB := HB_n
          clear HB_n
          go_wp2
          go_roundg (i - (j + 1))
          case measure => omega
          case rel => exact ⟨j + 1, by go_num, by omega, HB.out⟩
        · obtain rfl : j = i := by omega
          have r9 : decide ((j : Int) < (j : Int)) = false := decide_eq_false (by omega)
          go_wp2
          go_roundg (i0 - (j + 1))
          case measure => omega
          case rel => exact ⟨j + 1, by go_num, by omega, HB.out⟩
    · obtain rfl : i = i0 := by omega
      by_cases x0 : x < 0
      · have r7 : decide (x < 0) = true := decide_eq_true x0
        clear hx
        go_wp2
        refine bodyPost_ret (results_tmp2 rfl _ _ _) rfl ?_
        exact ⟨rfl, HB.out⟩
      · have r7 : decide (x < 0) = false := decide_eq_false x0
        by_cases x12 : 12 ≤ x
        · have r8 : decide ((12 : Int) ≤ x) = true := decide_eq_true x12
          clear hx
          go_wp2
          refine bodyPost_ret (results_tmp2 rfl _ _ _) rfl ?_
          exact ⟨rfl, HB.out⟩
        · have r8 : decide ((12 : Int) ≤ x) = false := decide_eq_false x12
          have hct : (l.take i).contains x = true := by
            cases h : (l.take i).contains x with
            | true => rfl
            | false => exact absurd (fun y hy => by obtain rfl : x = y := Option.some.inj (hx.symm.trans hy); exact ⟨by omega, by omega, h⟩) HBAD.out
          obtain ⟨j0, ⟨hj0, hjx⟩, hmin⟩ : ∃ j0, (j0 < i ∧ l[j0]? = some x) ∧ ∀ m, m < j0 → ¬ (m < i ∧ l[m]? = some x) := by
            refine least ?_
            obtain ⟨j, hj⟩ := List.mem_iff_getElem?.1 (List.contains_iff_mem.1 hct)
            have hjl := (List.getElem?_eq_some_iff.1 hj).1
            rw [List.length_take] at hjl
            rw [List.getElem?_take_of_lt (by omega)] at hj
            exact ⟨j, by omega, hj⟩
          have HMIN := Aside0.mk hmin
          have HJX := Aside0.mk hjx
          have HJ := Aside0.mk (show GoodAt w j0 j0 (.int .i64 0) wr from ⟨0, rfl, by omega, HB.out⟩)
          clear hx hct hmin hjx HB
          go_wp2
          go_loopg [9] j0 (fun r s9 wr => GoodAt w j0 r s9 wr)
          case atStart => exact HJ.out
          case round =>
            clear HJ hcx
            obtain ⟨j, rfl, hjr, hb⟩ := hrel
            have HB := Aside0.mk hb
            clear hb
            have hji : j < i := by omega
            have r9 : decide ((j : Int) < (i : Int)) = true := decide_eq_true (by omega)
            obtain ⟨y, hy⟩ : ∃ y, l[j]? = some y := ⟨_, List.getElem?_eq_getElem (by have := HA.out.1; omega)⟩
            have cy := rd_pair HA.out HB.out hy
            have cx := rd_pair HA.out HB.out HX.out
            have hjn : j < n := by omega
            by_cases hj : j < j0
            · have hne : y ≠ x := fun e => HMIN.out j hj ⟨hji, by rw [hy, e]⟩
              have r10 : (y == x) = false := beq_eq_false_iff_ne.2 hne
              clear hy
              go_wp2
              go_quiet (fail)
              have HB_n := Aside0.mk (below_step HB.out (pw_below_drewN (Below.refl _ _) nq))
              clear HB
              have HB := HB_n
              clear HB_n
              go_wp2
              go_roundg (j0 - (j + 1))
              case measure => omega
              case rel => exact ⟨j + 1, by go_num, by omega, HB.out⟩
            · obtain rfl : j = j0 := by omega
              obtain rfl : y = x := Option.some.inj (hy.symm.trans HJX.out)
              have r10 : (y == y) = true := beq_self_eq_true _
              clear hy
              go_wp2
              go_quiet (fail)
              have HB_n := Aside0.mk (below_step HB.out (pw_below_drewN (Below.refl _ _) nq))
              clear HB
              have HB := HB_n
              clear HB_n
              go_wp2
              refine bodyPost_ret (results_tmp2 rfl _ _ _) rfl ?_
              exact ⟨rfl, HB.out⟩
end Go.Proofs.Ytnndpjicbcailaa.Ga
