/- GatherAsks answers true. -/
import Derived.Test.YtnndpjicbcailaaGa4
import Derived.Test.YtnndpjicbcailaaPGatherLatex2
import Derived.Deep.CutRange
namespace Go.Proofs.Ytnndpjicbcailaa.Ga
open Go.RowKit Go.Proofs.YtnndpjicbcailaaW.PrintWords Go.Proofs.YtnndpjicbcailaaW.PrintLast Go.Proofs.YtnndpjicbcailaaW.PrintMore Go.Proofs.Ytnndpjicbcailaa.Lib Go.Proofs.Ytnndpjicbcailaa.Open
theorem within (a lo hi n : Int) (h0 : 0 < n) (hn : n ≤ 1099511627776) (hl : -1099511627776 ≤ lo) (hl' : lo ≤ 1099511627776) (e : hi - lo + 1 = n) : ∃ r, PGatherLate.depotbook_Within.f a lo hi = some r ∧ lo ≤ r ∧ r ≤ hi := by
  unfold PGatherLate.depotbook_Within.f
  have e : wrap64 (wrap64 (hi - lo) + 1) = n := by unfold wrap64; omega
  rw [e, if_neg (by omega)]
  have hm1 := Int.tmod_lt_of_pos a h0
  have hm2 : -n < Int.tmod a n := by
    have := Int.tmod_lt_of_pos (-a) h0
    rw [Int.neg_tmod] at this
    omega
  generalize Int.tmod a n = m at *
  by_cases c : m < 0
  · rw [if_pos c]
    refine ⟨_, rfl, ?_⟩
    unfold wrap64
    omega
  · rw [if_neg c]
    refine ⟨_, rfl, ?_⟩
    unfold wrap64
    omega
/-- Within: a number in the bounds, the same each time. -/
theorem within_nat (a lo hi : Int) (h0 : lo ≤ hi) (hl : 0 ≤ lo) (hh : hi ≤ 1000000) :
    ∃ r : Nat, lo ≤ (r : Int) ∧ (r : Int) ≤ hi ∧ ∀ w, Calls Try.prog 18 #[.int .i64 a, .int .i64 lo, .int .i64 hi] w fun e w' => e = .returned (.int .i64 (r : Int)) ∧ Below w.heap.size w w' := by
  obtain ⟨r, h, h1, h2⟩ := within a lo hi (hi - lo + 1) (by omega) (by omega) (by omega) (by omega) rfl
  obtain ⟨m, rfl⟩ : ∃ m : Nat, r = (m : Int) := ⟨r.toNat, by omega⟩
  exact ⟨m, h1, h2, fun w => (PGatherLate.depotbook_Within.calls a lo hi m w h).mono fun e w' ⟨h3, h4⟩ => ⟨h3, h4.below⟩⟩
/-- A truth value's cell. -/
def bcl (x : Bool) : List Value := [.bool x]
theorem bcl_length (x : Bool) : (bcl x).length = 1 := rfl
def bcL : List Leaf := [.bool]
theorem bc_mk (cs : List Value) (h : Fits bcL cs) : ∃ a, cs = bcl a := by
  obtain ⟨k, _, rfl, rfl⟩ := h
  exact ⟨k, rfl⟩
theorem arg_bool {w : World} {A : Option Addr} {n : Nat} {l : List Bool} (h : Arg bcl w A n l) {i : Nat} (hi : i < n) :
    ∃ x b o, A = some ⟨b, o, none⟩ ∧ l[i]? = some x ∧ ∀ W, Below w.heap.size w W → W.cell? ⟨b, o + i, none⟩ = some (.bool x) := by
  obtain ⟨x, hx⟩ : ∃ x, l[i]? = some x := ⟨_, List.getElem?_eq_getElem (by have := h.1; omega)⟩
  obtain ⟨b, o, rfl, _⟩ := h.at_ bcl_length i x hx
  refine ⟨x, b, o, rfl, hx, fun W hb => ?_⟩
  obtain ⟨b', o', e, hr⟩ := (h.below hb).at_ bcl_length i x hx
  obtain ⟨rfl, rfl⟩ : b = b' ∧ o = o' := by
    injection e with e
    injection e with e1 e2
    exact ⟨e1, e2⟩
  have := hr 0 _ rfl
  rwa [Nat.mul_one, Nat.add_zero] at this
/-- The places 0, 1, .. -/
def up (m : Nat) : List Int := (List.range m).map fun t : Nat => (t : Int)
theorem up_length (m : Nat) : (up m).length = m := by simp [up]
theorem up_succ (m : Nat) : up (m + 1) = up m ++ [(m : Int)] := by simp [up, List.range_succ]
theorem up_at {m i : Nat} (h : i < m) : (up m)[i]? = some (i : Int) := by simp [up, List.getElem?_range h]
theorem up_ok (m : Nat) (hm : m ≤ 12) : ∀ (i : Nat) (x : Int), (up m)[i]? = some x → 0 ≤ x ∧ x < 12 ∧ ((up m).take i).contains x = false := fun i x h => by
  have hi := (List.getElem?_eq_some_iff.1 h).1
  rw [up_length] at hi
  rw [up_at hi] at h
  obtain rfl := Option.some.inj h
  refine ⟨by omega, by omega, ?_⟩
  rw [List.contains_eq_any_beq, List.any_eq_false]
  intro y hy
  obtain ⟨j, hj⟩ := List.mem_iff_getElem?.1 hy
  have hj1 := (List.getElem?_eq_some_iff.1 hj).1
  rw [List.length_take] at hj1
  rw [List.getElem?_take_of_lt (by omega), up_at (by omega)] at hj
  obtain rfl := Option.some.inj hj
  simp
  omega
theorem up_in {m a i : Nat} (ha : a ≤ m) (hi : i < a) : ((up m).take a).contains (i : Int) = true := by
  rw [List.contains_iff_mem]
  refine List.mem_of_getElem? (i := i) ?_
  rw [List.getElem?_take_of_lt hi, up_at (by omega)]
theorem up_cut {m a T j : Nat} (hj : j < T) (h : a + T ≤ m) : (((up m).drop a).take T)[j]? = some ((a + j : Nat) : Int) := by
  rw [List.getElem?_take_of_lt hj, List.getElem?_drop, up_at (by omega)]
theorem nx_le {k d n a m aw T : Nat} (h : nx k d n a m aw = T) (ha : a ≤ m) : a + T ≤ m := by
  unfold nx at h
  split at h <;> omega
theorem nx_zero {k d n a m aw T : Nat} (h : nx k d n a m aw = T) (ha : a ≤ m) : nx k d n (a + T) m (aw + T) = 0 := by
  unfold nx at h ⊢
  split at h <;> rename_i h1
  · rw [if_pos h1]
    omega
  · rw [if_neg h1]
theorem parts_n (B g k d : Nat) (pl : List Int) (a aw : Nat) (ps : List Pt) (w : World) (h : Gt B w g k d pl a aw ps) (n : Nat) (hn : ps.length = n) :
    Calls Try.prog 13 #[.pointer (some ⟨g, 0, none⟩)] w fun e w' => ∃ A c, e = .returned (.slice A n c) ∧ Below w.heap.size w w' := by
  subst hn
  refine (parts_calls B g k d pl a aw ps w h).mono ?_
  rintro e w' ⟨v, rfl, ho, hb⟩
  obtain ⟨A, c, rfl⟩ := own_slice ho
  exact ⟨A, c, rfl, hb⟩
/-- The first loop: i places are laid. -/
def PlacesAt (w0 : World) (m : Nat) (k : Nat) (s12 s13 : Value) (wr : World) : Prop :=
  ∃ i : Nat, s13 = .int .i64 (i : Int) ∧ i + k = m ∧ wr.ownsRow w0.heap.size 3 1 s12 i ((up i).map (Value.int .i64)) ∧ Below w0.heap.size w0 wr
/-- The second loop: i answers came. -/
def AskAt (w0 : World) (B g K d m : Nat) (k : Nat) (s16 s17 s18 : Value) (wr : World) : Prop :=
  ∃ (i nxt ok aw : Nat) (ps : List Pt), s18 = .int .i64 (i : Int) ∧ s16 = .int .i64 (nxt : Int) ∧ s17 = .int .i64 (ok : Int) ∧ i + k = 30 ∧ Gt B wr g K d (up m) nxt aw ps ∧ aw + i = nxt ∧ ps.length = min ok K ∧ ok ≤ i ∧ Below w0.heap.size w0 wr
set_option maxHeartbeats 8000000 in
set_option maxRecDepth 100000 in
theorem asks_calls (a0 a1 a2 : Int) (A : Option Addr) (n c : Nat) (l : List Bool) (w : World) (hA : Arg bcl w A n l) : Calls Try.prog 6 #[.int .i64 a0, .int .i64 a1, .int .i64 a2, .slice A n c] w fun e w' => e = .returned (.bool true) ∧ Below w.heap.size w w' := by
  obtain ⟨K, hK1, hK2, hKc⟩ := within_nat a0 1 8 (by decide) (by decide) (by decide)
  obtain ⟨d, _, hd2, hdc⟩ := within_nat a1 0 4 (by decide) (by decide) (by decide)
  obtain ⟨m, _, hm2, hmc⟩ := within_nat a2 0 12 (by decide) (by decide) (by decide)
  have hK1 : 1 ≤ K := by omega
  have hK2 : K ≤ 8 := by omega
  have hd2 : d ≤ 4 := by omega
  have hm2 : m ≤ 12 := by omega
  have HKc := Aside0.mk hKc
  have HDc := Aside0.mk hdc
  have HMc := Aside0.mk hmc
  have HA := Aside0.mk hA
  have hn1 := hA.2.1
  have HB := Aside0.mk (Below.refl w.heap.size w)
  have HK := Aside0.mk (show 1 ≤ K ∧ K ≤ 8 ∧ d ≤ 12 ∧ m ≤ 12 by omega)
  clear hKc hdc hmc hA
  go_enter Try.func6, Try.ntmps6
  go_wp2_with (first | (go_at_call 18; (with_reducible refine (HKc.out _).mono ?_); rintro e_1 w_1 ⟨rfl, hb⟩; have HB_n := Aside0.mk (below_step HB.out hb); clear HB; have HB := HB_n; clear HB_n hb) | (go_at_call 18; (with_reducible refine (HDc.out _).mono ?_); rintro e_1 w_1 ⟨rfl, hb⟩; have HB_n := Aside0.mk (below_step HB.out hb); clear HB; have HB := HB_n; clear HB_n hb) | (go_at_call 18; (with_reducible refine (HMc.out _).mono ?_); rintro e_1 w_1 ⟨rfl, hb⟩; have HB_n := Aside0.mk (below_step HB.out hb); clear HB; have HB := HB_n; clear HB_n hb))
  have HF := Aside0.mk (show PlacesAt w m m (.slice none 0 0) (.int .i64 0) w_1 from ⟨0, rfl, by omega, own_nil _ _ _ _, HB.out⟩)
  clear HB
  go_loopg [12, 13] m (fun k s12 s13 wr => PlacesAt w m k s12 s13 wr)
  case atStart => exact HF.out
  case round =>
    clear HF
    obtain ⟨i, rfl, hik, ho, hb⟩ := hrel
    obtain ⟨Au, cu, rfl⟩ := own_slice ho
    have HO := Aside0.mk ho
    have HB := Aside0.mk hb
    clear ho hb
    by_cases hlt : i < m
    · have r1 : decide ((i : Int) < (m : Int)) = true := decide_eq_true (by omega)
      have HL := Aside0.mk (show i + 1 ≤ maxLen ∧ (i + 1) * 8 ≤ 140737488355328 by unfold maxLen; omega)
      go_wp2_with (refine ev_append (.tmp 33) (.tmp 35) 26 3 rfl rfl w.heap.size _ 1 8 Try.underlying26 info3 rfl (by decide) _ i ((up i).map (Value.int .i64)) rfl (pw_own_below HO.out (below_alloc (Below.refl _ _) _)) ⟨wr.heap.size, 0, none⟩ 1 1 [.int .i64 (i : Int)] rfl rfl (fun j u hu => by rw [add_plain]; exact (blk_cell (blk_new _ _) j).trans (by simpa using hu)) (by simp [Value.oneCell']) HL.out.1 HL.out.2 (below_step HB.out (below_alloc (Below.refl _ _) _)).size ?_; intro v2 w_2 ho2 hm2 _ hat2; have HB_n := Aside0.mk (hm2.after (below_step HB.out (below_alloc (Below.refl _ _) _)) (below_step HB.out (below_alloc (Below.refl _ _) _)).size (fun k hk => own_base HO.out k hk.symm)); have HO_n := Aside0.mk ho2; clear HB HO; have HB := HB_n; have HO := HO_n; clear HB_n HO_n hm2 ho2 hat2)
      go_roundg (m - (i + 1))
      case measure => omega
      case rel => exact ⟨i + 1, by go_num, by omega, by rw [up_succ, List.map_append]; exact HO.out, HB.out⟩
    · obtain rfl : i = m := by omega
      have r1 : decide ((i : Int) < (i : Int)) = false := decide_eq_false (by omega)
      go_wp2_with (go_at_call 7; (with_reducible refine (new_ok K d Au i cu (up i) _ HK.out.1 HK.out.2.1 HK.out.2.2.1 HK.out.2.2.2 (own_rd HO.out (up_length i) (Nat.le_trans HK.out.2.2.2 (by decide))) (own_cap HO.out) (up_ok i HK.out.2.2.2) _ _ rfl rfl).mono ?_); rintro e_1 w_1 ⟨g, rfl, hg, hge, hb⟩; have HG := Aside0.mk hg; have HS := Aside0.mk HB.out.size; have HB_n := Aside0.mk (below_step HB.out hb); clear HB HO; have HB := HB_n; clear HB_n hg hge hb)
      obtain ⟨B, hBe⟩ : ∃ B, w.heap.size ≤ B ∧ Gt B w_1 g K d (up i) 0 0 [] := ⟨_, HS.out, HG.out⟩
      have HQ := Aside0.mk (show AskAt w B g K d i 30 (.int .i64 0) (.int .i64 0) (.int .i64 0) w_1 from ⟨0, 0, 0, 0, [], rfl, rfl, rfl, rfl, hBe.2, rfl, by simp, Nat.le_refl _, HB.out⟩)
      have HSB := Aside0.mk hBe.1
      clear HG HS HB hBe
      go_loopg [16, 17, 18, 20, 21] 30 (fun k s16 s17 s18 s20 s21 wr => AskAt w B g K d i k s16 s17 s18 wr)
      case atStart => exact HQ.out
      case round =>
        clear HQ
        obtain ⟨q, nxt, ok, aw, ps, rfl, rfl, rfl, hq30, hG, haw, hps, hok, hb⟩ := hrel
        have hnm : nxt ≤ i := by
          obtain ⟨_, _, hx⟩ := hG
          have := hx.wf.2.2.2.1
          rwa [up_length] at this
        obtain ⟨T, hT⟩ : ∃ T, nx K d ps.length nxt (up i).length aw = T := ⟨_, rfl⟩
        have hT' := hT
        rw [up_length] at hT'
        have HG := Aside0.mk hG
        have HB := Aside0.mk hb
        have HT := Aside0.mk (And.intro hT (And.intro (nx_le hT' hnm) (nx_zero hT' hnm)))
        have HE := Aside0.mk (show aw + q = nxt ∧ ps.length = min ok K ∧ ok ≤ q ∧ (0 < T → ok < K) from ⟨haw, hps, hok, fun h0 => by
          unfold nx at hT'
          split at hT' <;> omega⟩)
        obtain ⟨np, hnp⟩ : ∃ np, ps.length = np := ⟨_, rfl⟩
        have HNP := Aside0.mk hnp
        have hmn : (if (K : Int) < (ok : Int) then (K : Int) else (ok : Int)) = (np : Int) := by rw [← hnp, hps]; split <;> omega
        clear hT hT' hG hb haw hps hok hnp
        by_cases hq : q < 30
        · have r2 : decide ((q : Int) < 30) = true := decide_eq_true (by omega)
          have hok30 : ok ≤ 30 := by have := HE.out.2.2.1; omega
          go_wp2_with (go_at_call 8; (with_reducible refine (next_calls B g K d (up i) nxt aw ps _ HG.out T HT.out.1).mono ?_); rintro e_1 w_1 ⟨v, rfl, ho, hg, hm⟩; obtain ⟨Av, cv, rfl⟩ := own_slice ho; have HO := Aside0.mk ho; have HB_n := Aside0.mk (gs_after HB.out hm HG.out.gs HSB.out); clear HB HG; have HB := HB_n; have HG := Aside0.mk hg; clear HB_n ho hg hm)
          obtain ⟨W, hW⟩ : ∃ W, W = w_1 := ⟨_, rfl⟩
          rw [← hW] at HO HB HG ⊢
          clear hW
          have hT12 : T ≤ 12 := by have := HT.out.2.1; omega
          go_loopg [16, 20, 57] T (fun kk s16 s20 s57 wr => ∃ j : Nat, s57 = .int .i64 (j : Int) ∧ s16 = .int .i64 ((nxt + j : Nat) : Int) ∧ j + kk = T ∧ W = wr)
          case atStart => exact ⟨0, rfl, rfl, by omega, rfl⟩
          case round =>
            obtain ⟨j, rfl, rfl, hjk, rfl⟩ := hrel
            obtain ⟨e1, he1⟩ : ∃ e1, e1 = nxt + j := ⟨_, rfl⟩
            rw [← he1]
            have HE1 := Aside0.mk he1
            have he12 : e1 ≤ 24 := by omega
            by_cases hj : j < T
            · have r3 : decide ((j : Int) < (T : Int)) = true := decide_eq_true (by omega)
              obtain ⟨gv, rfl⟩ : ∃ gv, Av = some ⟨gv, 0, none⟩ := by
                rcases HO.out.2 with ⟨e, hz⟩ | ⟨gv, cap, cur, e, _⟩
                · omega
                · injection e with e
                  exact ⟨gv, e⟩
              have cx : W.cell? ⟨gv, j, none⟩ = some (.int .i64 (e1 : Int)) := by
                rw [HO.out.cellAt j (by omega), List.getElem?_map, up_cut hj HT.out.2.1, he1]
                rfl
              have hoK := HE.out.2.2.2 (by omega)
              have r4 : ((e1 : Int) != (e1 : Int)) = false := by simp
              have r5 : decide ((K : Int) ≤ (ok : Int)) = false := decide_eq_false (by omega)
              clear he1
              go_wp2
              go_roundg (T - (j + 1))
              case measure => omega
              case rel => exact ⟨j + 1, by go_num, by have := HE1.out; go_num, by omega, rfl⟩
            · obtain rfl : j = T := by omega
              have r3 : decide ((j : Int) < (j : Int)) = false := decide_eq_false (by omega)
              obtain ⟨aw1, haw1⟩ : ∃ aw1, aw1 = aw + j := ⟨_, rfl⟩
              have HT2 := Aside0.mk (show nx K d ps.length e1 (up i).length aw1 = 0 by rw [up_length, he1, haw1]; exact HT.out.2.2)
              have HG_n := Aside0.mk (show Gt B W g K d (up i) e1 aw1 ps by rw [he1, haw1]; exact HG.out)
              have HE2 := Aside0.mk (show aw1 + q = e1 ∧ e1 ≤ i from ⟨by have := HE.out.1; omega, by have := HT.out.2.1; omega⟩)
              have hei : e1 ≤ i := HE2.out.2
              clear HG he1 haw1 HT
              have HG := HG_n
              clear HG_n
              by_cases hbr : e1 ≤ q
              · have r6 : decide ((e1 : Int) ≤ (q : Int)) = true := decide_eq_true (by omega)
                have r7 : decide ((e1 : Int) ≤ (i : Int)) = true := decide_eq_true (by omega)
                go_wp2_with (first | (go_at_call 8; (with_reducible refine (next_calls B g K d (up i) e1 aw1 ps _ HG.out 0 HT2.out).mono ?_); rintro e_1 w_1 ⟨v, rfl, ho, hg, hm⟩; obtain ⟨Aw, cw, rfl⟩ := own_slice ho; have HB_n := Aside0.mk (gs_after HB.out hm HG.out.gs HSB.out); clear HB HG; have HB := HB_n; have HG := Aside0.mk (show Gt B w_1 g K d (up i) e1 aw1 ps from hg); clear HB_n ho hg hm) | (go_at_call 13; (with_reducible refine (parts_n B g K d (up i) e1 aw1 ps _ HG.out np HNP.out).mono ?_); rintro e_1 w_1 ⟨Ap, cp, rfl, hb⟩; have HB_n := Aside0.mk (below_step HB.out hb); clear HB HG; have HB := HB_n; clear HB_n hb) | (go_at_call 3; (with_reducible refine (runs_calls _).mono ?_); rintro e_1 w_1 ⟨rfl, hb⟩; have HB_n := Aside0.mk (below_step HB.out hb); clear HB; have HB := HB_n; clear HB_n hb))
                all_goals (go_ret; exact ⟨rfl, HB.out⟩)
              · have r6 : decide ((e1 : Int) ≤ (q : Int)) = false := decide_eq_false (by omega)
                go_upto_region 23 with (go_at_call 8; (with_reducible refine (next_calls B g K d (up i) e1 aw1 ps _ HG.out 0 HT2.out).mono ?_); rintro e_1 w_1 ⟨v, rfl, ho, hg, hm⟩; obtain ⟨Aw, cw, rfl⟩ := own_slice ho; have HB_n := Aside0.mk (gs_after HB.out hm HG.out.gs HSB.out); clear HB HG; have HB := HB_n; have HG := Aside0.mk (show Gt B w_1 g K d (up i) e1 aw1 ps from hg); clear HB_n ho hg hm)
                obtain ⟨W2, hW2⟩ : ∃ W2, W2 = w_1 := ⟨_, rfl⟩
                rw [← hW2] at HB HG ⊢
                clear hW2
                go_cut [21] (fun s21 wc => ∃ b : Bool, s21 = .bool b ∧ W2 = wc)
                case first =>
                  by_cases hqn : q < n
                  · obtain ⟨x, b, o, rfl, _, hcx⟩ := arg_bool HA.out hqn
                    have cx := hcx _ HB.out
                    have r8 : decide ((q : Int) < (n : Int)) = true := decide_eq_true (by omega)
                    clear hcx
                    go_wp2
                    go_meet
                    case rel => exact ⟨x, rfl, rfl⟩
                  · have r8 : decide ((q : Int) < (n : Int)) = false := decide_eq_false (by omega)
                    go_wp2
                    go_meet
                    case rel => exact ⟨false, rfl, rfl⟩
                case rest =>
                  obtain ⟨b, rfl, rfl⟩ := hcut
                  obtain ⟨aw2, haw2⟩ : ∃ aw2, aw1 = aw2 + 1 := ⟨aw1 - 1, by have := HE2.out.1; omega⟩
                  subst haw2
                  have HIN := Aside0.mk (show ((up i).take e1).contains (q : Int) = true from up_in hei (by omega))
                  cases b with
                  | false =>
                    go_wp2_with (go_at_call 9; (with_reducible refine (got_skip B g K d (up i) e1 aw2 ps _ HG.out _ false ⟨#[120]⟩ HIN.out (.inl rfl)).mono ?_); rintro e_1 w_1 ⟨rfl, hg, S, hs, hm⟩; have HB_n := Aside0.mk (gs_after HB.out hm hs HSB.out); clear HB HG; have HB := HB_n; have HG := Aside0.mk hg; clear HB_n hg hs hm)
                    go_roundg (30 - (q + 1))
                    case measure => omega
                    case rel => exact ⟨q + 1, e1, ok, aw2, ps, by go_num, rfl, rfl, by omega, HG.out, by have := HE2.out.1; omega, HE.out.2.1, by have := HE.out.2.2.1; omega, HB.out⟩
                  | true =>
                    by_cases hnK : ps.length < K
                    · have HNK := Aside0.mk hnK
                      clear hnK
                      go_wp2_with (go_at_call 9; (with_reducible refine (got_add B g K d (up i) e1 aw2 ps _ HG.out _ ⟨#[120]⟩ HIN.out HNK.out).mono ?_); rintro e_1 w_1 ⟨rfl, hg, S, hs, hm⟩; have HB_n := Aside0.mk (gs_after HB.out hm hs HSB.out); clear HB HG; have HB := HB_n; have HG := Aside0.mk hg; clear HB_n hg hs hm)
                      go_roundg (30 - (q + 1))
                      case measure => omega
                      case rel => exact ⟨q + 1, e1, ok + 1, aw2, ps ++ [⟨(q : Int), ⟨#[120]⟩⟩], by go_num, rfl, by go_num, by omega, HG.out, by have := HE2.out.1; omega, by have h1 := HE.out.2.1; have h2 := HNK.out; rw [List.length_append, List.length_singleton]; omega, by have := HE.out.2.2.1; omega, HB.out⟩
                    · have HNK := Aside0.mk (show K ≤ ps.length by omega)
                      clear hnK
                      go_wp2_with (go_at_call 9; (with_reducible refine (got_skip B g K d (up i) e1 aw2 ps _ HG.out _ true ⟨#[120]⟩ HIN.out (.inr HNK.out)).mono ?_); rintro e_1 w_1 ⟨rfl, hg, S, hs, hm⟩; have HB_n := Aside0.mk (gs_after HB.out hm hs HSB.out); clear HB HG; have HB := HB_n; have HG := Aside0.mk hg; clear HB_n hg hs hm)
                      go_roundg (30 - (q + 1))
                      case measure => omega
                      case rel => exact ⟨q + 1, e1, ok + 1, aw2, ps, by go_num, rfl, by go_num, by omega, HG.out, by have := HE2.out.1; omega, by have h1 := HE.out.2.1; have h2 := HNK.out; omega, by have := HE.out.2.2.1; omega, HB.out⟩
        · obtain rfl : q = 30 := by omega
          have r2 : decide (((30 : Nat) : Int) < 30) = false := by decide
          have r7 : decide ((nxt : Int) ≤ (i : Int)) = true := decide_eq_true (by omega)
          go_wp2_with (first | (go_at_call 13; (with_reducible refine (parts_n B g K d (up i) nxt aw ps _ HG.out np HNP.out).mono ?_); rintro e_1 w_1 ⟨Ap, cp, rfl, hb⟩; have HB_n := Aside0.mk (below_step HB.out hb); clear HB HG; have HB := HB_n; clear HB_n hb) | (go_at_call 3; (with_reducible refine (runs_calls _).mono ?_); rintro e_1 w_1 ⟨rfl, hb⟩; have HB_n := Aside0.mk (below_step HB.out hb); clear HB; have HB := HB_n; clear HB_n hb))
          all_goals (go_ret; exact ⟨rfl, HB.out⟩)
end Go.Proofs.Ytnndpjicbcailaa.Ga
