/- GatherLate answers true. -/
import Derived.Test.YtnndpjicbcailaaGa5
namespace Go.Proofs.Ytnndpjicbcailaa.Ga
open Go.RowKit Go.Proofs.YtnndpjicbcailaaW.PrintWords Go.Proofs.YtnndpjicbcailaaW.PrintLast Go.Proofs.YtnndpjicbcailaaW.PrintMore Go.Proofs.Ytnndpjicbcailaa.Lib Go.Proofs.Ytnndpjicbcailaa.Open
/-- A number's cell. -/
def icl (x : Int) : List Value := [.int .i64 x]
theorem icl_length (x : Int) : (icl x).length = 1 := rfl
def icL : List Leaf := [.int .i64]
theorem ic_mk (cs : List Value) (h : Fits icL cs) : ∃ a, cs = icl a := by
  obtain ⟨k, _, rfl, _, rfl⟩ := h
  exact ⟨k, rfl⟩
theorem arg_cell {w : World} {A : Option Addr} {n : Nat} {l : List Int} (h : Arg icl w A n l) {i : Nat} (hi : i < n) :
    ∃ x b o, A = some ⟨b, o, none⟩ ∧ l[i]? = some x ∧ ∀ W, Below w.heap.size w W → W.cell? ⟨b, o + i, none⟩ = some (.int .i64 x) := by
  obtain ⟨x, hx⟩ : ∃ x, l[i]? = some x := ⟨_, List.getElem?_eq_getElem (by have := h.1; omega)⟩
  obtain ⟨b, o, rfl, _⟩ := h.at_ icl_length i x hx
  refine ⟨x, b, o, rfl, hx, fun W hb => ?_⟩
  obtain ⟨b', o', e, hr⟩ := (h.below hb).at_ icl_length i x hx
  obtain ⟨rfl, rfl⟩ : b = b' ∧ o = o' := by
    injection e with e
    injection e with e1 e2
    exact ⟨e1, e2⟩
  have := hr 0 _ rfl
  rwa [Nat.mul_one, Nat.add_zero] at this
/-- Has place i a part? -/
def hv (l : List Bool) (i : Nat) : Bool := (l[i]?).getD false
def cnt (l : List Bool) (xs : List Nat) : Nat := xs.countP (hv l)
theorem cnt_append (l : List Bool) (xs ys : List Nat) : cnt l (xs ++ ys) = cnt l xs + cnt l ys := by simp [cnt]
theorem cnt_single (l : List Bool) (x : Nat) : cnt l [x] = if hv l x = true then 1 else 0 := by simp [cnt, List.countP_cons]
theorem cnt_succ (l : List Bool) (i : Nat) : cnt l (List.range (i + 1)) = cnt l (List.range i) + if hv l i = true then 1 else 0 := by
  rw [List.range_succ, cnt_append, cnt_single]
/-- The places a, a + 1, .. -/
def more (a T : Nat) : List Nat := (List.range T).map (a + ·)
theorem more_length (a T : Nat) : (more a T).length = T := by simp [more]
theorem range_more (a T : Nat) : List.range (a + T) = List.range a ++ more a T := List.range_add
theorem cnt_mono (l : List Bool) {a m : Nat} (h : a ≤ m) : cnt l (List.range a) ≤ cnt l (List.range m) := by
  obtain ⟨T, rfl⟩ : ∃ T, m = a + T := ⟨m - a, by omega⟩
  rw [range_more, cnt_append]
  omega
def oi (xs : List Nat) : List Value := xs.map fun x : Nat => Value.int .i64 (x : Int)
theorem oi_length (xs : List Nat) : (oi xs).length = xs.length := by simp [oi]
theorem oi_append (xs ys : List Nat) : oi (xs ++ ys) = oi xs ++ oi ys := by simp [oi]
theorem oi_one (xs : List Nat) : ∀ u ∈ oi xs, u.oneCell' = true := fun u hu => by
  obtain ⟨x, _, rfl⟩ := List.mem_map.1 hu
  rfl
theorem up_more {m a T : Nat} (h : a + T ≤ m) : (((up m).drop a).take T).map (Value.int .i64) = oi (more a T) := by
  refine List.ext_getElem? fun j => ?_
  by_cases hj : j < T
  · rw [List.getElem?_map, up_cut hj h, oi, List.getElem?_map, more, List.getElem?_map, List.getElem?_range hj]
    rfl
  · rw [List.getElem?_eq_none (by rw [List.length_map, List.length_take]; omega), List.getElem?_eq_none (by rw [oi_length, more_length]; omega)]
theorem cnt_pick (l : List Bool) {xs : List Nat} {p x : Nat} (h : xs[p]? = some x) : cnt l xs = cnt l (xs.take p ++ xs.drop (p + 1)) + if hv l x = true then 1 else 0 := by
  have hp := (List.getElem?_eq_some_iff.1 h).1
  have e : xs = xs.take p ++ ([x] ++ xs.drop (p + 1)) := by
    have := (List.take_append_drop p xs).symm
    rw [List.drop_eq_getElem_cons hp, (List.getElem?_eq_some_iff.1 h).2] at this
    exact this
  have h1 := congrArg (cnt l) e
  rw [cnt_append, cnt_append, cnt_single] at h1
  rw [cnt_append]
  omega
theorem own_some {W : World} {B T : Nat} {v : Value} {xs : List Value} (h : W.ownsRow B 3 1 v T xs) (hT : T ≠ 0) : ∃ g c, v = .slice (some ⟨g, 0, none⟩) T c := by
  rcases h.2 with ⟨e, hz⟩ | ⟨g, cap, cur, e, _⟩
  · exact absurd hz hT
  · exact ⟨g, cap, e⟩
theorem Gt.lt_ {B : Nat} {W : World} {g k d : Nat} {pl : List Int} {a aw : Nat} {ps : List Pt} (h : Gt B W g k d pl a aw ps) : g < W.heap.size := by
  obtain ⟨_, _, h⟩ := h
  exact h.lt.1
theorem Gt.ge_ {B : Nat} {W : World} {g k d : Nat} {pl : List Int} {a aw : Nat} {ps : List Pt} (h : Gt B W g k d pl a aw ps) : B ≤ g := by
  obtain ⟨_, _, h⟩ := h
  exact h.ge
/-- The second loop: i places are counted. -/
def TotAt (l : List Bool) (m : Nat) (k : Nat) (s18 s19 : Value) (wr W : World) : Prop :=
  ∃ i : Nat, s19 = .int .i64 (i : Int) ∧ s18 = .int .i64 ((cnt l (List.range i) : Nat) : Int) ∧ i + k = m ∧ W = wr
/-- The third loop: s answers came. -/
def LateAt (w0 : World) (B H g K d m : Nat) (l : List Bool) (k : Nat) (s20 s21 s22 : Value) (wr : World) : Prop :=
  ∃ (s gt nxt : Nat) (ps : List Pt) (opn : List Nat), s22 = .int .i64 (s : Int) ∧ s21 = .int .i64 (gt : Int) ∧ s + k = 60 ∧ wr.ownsRow H 3 1 s20 opn.length (oi opn) ∧ Gt B wr g K d (up m) nxt opn.length ps ∧ s + opn.length = nxt ∧ ps.length = min gt K ∧ gt + cnt l opn = cnt l (List.range nxt) ∧ (∀ x ∈ opn, x < nxt) ∧ ps.length + opn.length ≤ K + d ∧ Below w0.heap.size w0 wr ∧ H ≤ wr.heap.size
set_option maxHeartbeats 8000000 in
set_option maxRecDepth 100000 in
theorem late_calls (a0 a1 a2 : Int) (A : Option Addr) (n c : Nat) (l : List Bool) (A' : Option Addr) (n' c' : Nat) (l' : List Int) (w : World) (hA : Arg bcl w A n l) (hA' : Arg icl w A' n' l') : Calls Try.prog 5 #[.int .i64 a0, .int .i64 a1, .int .i64 a2, .slice A n c, .slice A' n' c'] w fun e w' => e = .returned (.bool true) ∧ Below w.heap.size w w' := by
  obtain ⟨K, hK1, hK2, hKc⟩ := within_nat a0 1 8 (by decide) (by decide) (by decide)
  obtain ⟨d, _, hd2, hdc⟩ := within_nat a1 0 4 (by decide) (by decide) (by decide)
  obtain ⟨m, _, hm2, hmc⟩ := within_nat a2 0 12 (by decide) (by decide) (by decide)
  have hK1 : 1 ≤ K := by omega
  have hK2 : K ≤ 8 := by omega
  have hd2 : d ≤ 4 := by omega
  have hm2 : m ≤ 12 := by omega
  have HKc := Aside0.mk hKc
  have HDc := Aside0.mk hdc
  have HMc := Aside0.mk hmc
  have HA := Aside0.mk hA
  have HA' := Aside0.mk hA'
  have hn1 := hA.2.1
  have hn2 := hA'.2.1
  have HB := Aside0.mk (Below.refl w.heap.size w)
  have HK := Aside0.mk (show 1 ≤ K ∧ K ≤ 8 ∧ d ≤ 12 ∧ m ≤ 12 by omega)
  clear hKc hdc hmc hA hA'
  go_enter Try.func5, Try.ntmps5
  go_wp2_with (first | (go_at_call 18; (with_reducible refine (HKc.out _).mono ?_); rintro e_1 w_1 ⟨rfl, hb⟩; have HB_n := Aside0.mk (below_step HB.out hb); clear HB; have HB := HB_n; clear HB_n hb) | (go_at_call 18; (with_reducible refine (HDc.out _).mono ?_); rintro e_1 w_1 ⟨rfl, hb⟩; have HB_n := Aside0.mk (below_step HB.out hb); clear HB; have HB := HB_n; clear HB_n hb) | (go_at_call 18; (with_reducible refine (HMc.out _).mono ?_); rintro e_1 w_1 ⟨rfl, hb⟩; have HB_n := Aside0.mk (below_step HB.out hb); clear HB; have HB := HB_n; clear HB_n hb))
  have HF := Aside0.mk (show PlacesAt w m m (.slice none 0 0) (.int .i64 0) w_1 from ⟨0, rfl, by omega, own_nil _ _ _ _, HB.out⟩)
  clear HB
  go_loopg [14, 15] m (fun k s14 s15 wr => PlacesAt w m k s14 s15 wr)
  case atStart => exact HF.out
  case round =>
    clear HF
    obtain ⟨i, rfl, hik, ho, hb⟩ := hrel
    obtain ⟨Au, cu, rfl⟩ := own_slice ho
    have HO := Aside0.mk ho
    have HB := Aside0.mk hb
    clear ho hb
    by_cases hlt : i < m
    · have r1 : decide ((i : Int) < (m : Int)) = true := decide_eq_true (by omega)
      have HL := Aside0.mk (show i + 1 ≤ maxLen ∧ (i + 1) * 8 ≤ 140737488355328 by unfold maxLen; omega)
      go_wp2_with (refine ev_append (.tmp 37) (.tmp 39) 26 3 rfl rfl w.heap.size _ 1 8 Try.underlying26 info3 rfl (by decide) _ i ((up i).map (Value.int .i64)) rfl (pw_own_below HO.out (below_alloc (Below.refl _ _) _)) ⟨wr.heap.size, 0, none⟩ 1 1 [.int .i64 (i : Int)] rfl rfl (fun j u hu => by rw [add_plain]; exact (blk_cell (blk_new _ _) j).trans (by simpa using hu)) (by simp [Value.oneCell']) HL.out.1 HL.out.2 (below_step HB.out (below_alloc (Below.refl _ _) _)).size ?_; intro v2 w_2 ho2 hm2 _ hat2; have HB_n := Aside0.mk (hm2.after (below_step HB.out (below_alloc (Below.refl _ _) _)) (below_step HB.out (below_alloc (Below.refl _ _) _)).size (fun k hk => own_base HO.out k hk.symm)); have HO_n := Aside0.mk ho2; clear HB HO; have HB := HB_n; have HO := HO_n; clear HB_n HO_n hm2 ho2 hat2)
      go_roundg (m - (i + 1))
      case measure => omega
      case rel => exact ⟨i + 1, by go_num, by omega, by rw [up_succ, List.map_append]; exact HO.out, HB.out⟩
    · obtain rfl : i = m := by omega
      have r1 : decide ((i : Int) < (i : Int)) = false := decide_eq_false (by omega)
      go_wp2_with (go_at_call 7; (with_reducible refine (new_ok K d Au i cu (up i) _ HK.out.1 HK.out.2.1 HK.out.2.2.1 HK.out.2.2.2 (own_rd HO.out (up_length i) (Nat.le_trans HK.out.2.2.2 (by decide))) (own_cap HO.out) (up_ok i HK.out.2.2.2) _ _ rfl rfl).mono ?_); rintro e_1 w_1 ⟨g, rfl, hg, hge, hb⟩; have HG := Aside0.mk hg; have HS := Aside0.mk HB.out.size; have HB_n := Aside0.mk (below_step HB.out hb); clear HB HO; have HB := HB_n; clear HB_n hg hge hb)
      obtain ⟨W0, B, H, hW0, hBe, hH1, hH2, hH3, hBl⟩ : ∃ W0 B H, W0 = w_1 ∧ Gt B W0 g K d (up i) 0 0 [] ∧ w.heap.size ≤ B ∧ g < H ∧ H ≤ W0.heap.size ∧ Below w.heap.size w W0 := ⟨w_1, _, w_1.heap.size, rfl, HG.out, HS.out, HG.out.lt_, Nat.le_refl _, HB.out⟩
      have HSB := Aside0.mk hH1
      have HGH := Aside0.mk hH2
      have HH0 := Aside0.mk (show w.heap.size ≤ H from Nat.le_trans hH1 (Nat.le_trans hBe.ge_ (Nat.le_of_lt hH2)))
      rw [← hW0] at HB ⊢
      have HL0 := Aside0.mk (show ∀ s20, s20 = .slice none 0 0 → LateAt w B H g K d i l 60 s20 (.int .i64 0) (.int .i64 0) W0 from fun s20 e => ⟨0, 0, 0, [], [], rfl, rfl, rfl, by rw [e]; exact own_nil _ _ _ _, hBe, rfl, by simp, rfl, (fun x hx => by cases hx), by simp, hBl, hH3⟩)
      clear HG HS hW0 hBe hH1 hH2 hH3 hBl
      go_loopg [18, 19] i (fun k s18 s19 wr => TotAt l i k s18 s19 wr W0)
      case atStart => exact ⟨0, rfl, rfl, by omega, rfl⟩
      case round =>
        obtain ⟨t, rfl, rfl, htk, rfl⟩ := hrel
        obtain ⟨tc, htc⟩ : ∃ tc, tc = cnt l (List.range t) := ⟨_, rfl⟩
        rw [← htc]
        have HTC := Aside0.mk htc
        have htc12 : tc ≤ 12 := by
          have : cnt l (List.range t) ≤ (List.range t).length := List.countP_le_length
          rw [List.length_range] at this
          omega
        by_cases ht : t < i
        · have r2 : decide ((t : Int) < (i : Int)) = true := decide_eq_true (by omega)
          clear htc
          by_cases htn : t < n
          · obtain ⟨x, b, o, rfl, hx, hcx⟩ := arg_bool HA.out htn
            have cx := hcx _ HB.out
            have r3 : decide ((t : Int) < (n : Int)) = true := decide_eq_true (by omega)
            have HX := Aside0.mk (show hv l t = x by unfold hv; rw [hx]; rfl)
            clear hcx hx
            cases x with
            | true =>
              go_wp2
              go_roundg (i - (t + 1))
              case measure => omega
              case rel => exact ⟨t + 1, by go_num, by rw [cnt_succ, ← HTC.out, if_pos HX.out]; go_num, by omega, rfl⟩
            | false =>
              go_wp2
              go_roundg (i - (t + 1))
              case measure => omega
              case rel => exact ⟨t + 1, by go_num, by rw [cnt_succ, ← HTC.out, if_neg (by rw [HX.out]; decide)]; go_num, by omega, rfl⟩
          · have r3 : decide ((t : Int) < (n : Int)) = false := decide_eq_false (by omega)
            have HX := Aside0.mk (show hv l t = false by unfold hv; rw [List.getElem?_eq_none (by have := HA.out.1; omega)]; rfl)
            go_wp2
            go_roundg (i - (t + 1))
            case measure => omega
            case rel => exact ⟨t + 1, by go_num, by rw [cnt_succ, ← HTC.out, if_neg (by rw [HX.out]; decide)]; go_num, by omega, rfl⟩
        · obtain rfl : t = i := by omega
          have r2 : decide ((t : Int) < (t : Int)) = false := decide_eq_false (by omega)
          clear htc
          go_wp2
          have HL := Aside0.mk (HL0.out _ rfl)
          clear HL0 HB
          go_loopg [20, 21, 22, 23, 24, 25] 60 (fun k s20 s21 s22 s23 s24 s25 wr => LateAt w B H g K d t l k s20 s21 s22 wr)
          case atStart => exact HL.out
          case round =>
            clear HL
            obtain ⟨s, gt, nxt, ps, opn, rfl, rfl, hs60, ho, hG, hsn, hps, hcn, hop, hKd, hb, hH⟩ := hrel
            obtain ⟨A2, c2, rfl⟩ := own_slice ho
            have hnm : nxt ≤ t := by
              obtain ⟨_, _, hx⟩ := hG
              have := hx.wf.2.2.2.1
              rwa [up_length] at this
            obtain ⟨T, hT⟩ : ∃ T, nx K d ps.length nxt (up t).length opn.length = T := ⟨_, rfl⟩
            have hT' := hT
            rw [up_length] at hT'
            have hTm := nx_le hT' hnm
            have HTM := Aside0.mk hTm
            have HG := Aside0.mk hG
            have HO := Aside0.mk ho
            have HB := Aside0.mk hb
            have HH := Aside0.mk hH
            have r2 : decide ((s : Int) < 60) = true := decide_eq_true (by omega)
            have hs6 : s < 60 := by omega
            have hopl : opn.length ≤ 12 := by omega
            have hT12 : T ≤ 12 := by omega
            have HNX := Aside0.mk (show ps.length + (opn.length + T) ≤ K + d ∧ (ps.length < K → opn.length + T = 0 → nxt + T = t) from by
              unfold nx at hT'
              split at hT' <;> omega)
            have HAL := Aside0.mk (And.intro hsn (And.intro hps (And.intro hcn hop)))
            clear hG ho hb hH hsn hps hcn hop hT'
            go_upto_region 22 with fail
            go_cut [20] (fun s20 wc => wc.ownsRow H 3 1 s20 (opn.length + T) (oi (opn ++ more nxt T)) ∧ Gt B wc g K d (up t) (nxt + T) (opn.length + T) ps ∧ Below w.heap.size w wc ∧ H ≤ wc.heap.size)
            case first =>
              by_cases hT0 : T = 0
              · subst hT0
                have HT := Aside0.mk (And.intro hT (rfl : 0 = 0))
                clear hT
                have hcap2 : opn.length ≤ c2 := own_cap HO.out
                cases A2 with
                | none =>
                  go_wp2_with (go_at_call 8; (with_reducible refine (next_full B g K d (up t) nxt opn.length ps _ HG.out 0 HT.out.1).mono ?_); rintro e_1 w_1 ⟨v, rfl, hov, hg, hm, hz⟩; obtain rfl : v = .slice none 0 0 := hz HT.out.2; have HO_n := Aside0.mk (own_gs HO.out hm HG.out.gs); have HB_n := Aside0.mk (gs_after HB.out hm HG.out.gs HSB.out); have HH_n := Aside0.mk (Nat.le_trans HH.out hm.size); clear HB HG HO HH; have HB := HB_n; have HO := HO_n; have HH := HH_n; have HG := Aside0.mk hg; clear HB_n HO_n HH_n hov hg hm hz)
                  go_meet
                  case rel => exact ⟨by rw [oi_append]; simpa [more, oi] using HO.out, HG.out, HB.out, HH.out⟩
                | some ad2 =>
                  go_wp2_with (go_at_call 8; (with_reducible refine (next_full B g K d (up t) nxt opn.length ps _ HG.out 0 HT.out.1).mono ?_); rintro e_1 w_1 ⟨v, rfl, hov, hg, hm, hz⟩; obtain rfl : v = .slice none 0 0 := hz HT.out.2; have HO_n := Aside0.mk (own_gs HO.out hm HG.out.gs); have HB_n := Aside0.mk (gs_after HB.out hm HG.out.gs HSB.out); have HH_n := Aside0.mk (Nat.le_trans HH.out hm.size); clear HB HG HO HH; have HB := HB_n; have HO := HO_n; have HH := HH_n; have HG := Aside0.mk hg; clear HB_n HO_n HH_n hov hg hm hz)
                  go_meet
                  case rel => exact ⟨by rw [oi_append]; simpa [more, oi] using HO.out, HG.out, HB.out, HH.out⟩
              · have HT := Aside0.mk (And.intro hT hT0)
                have HLN := Aside0.mk (show (oi (more nxt T)).length = T * 1 ∧ opn.length + T ≤ maxLen ∧ (opn.length + T) * 8 ≤ 140737488355328 by rw [oi_length, more_length]; unfold maxLen; omega)
                clear hT hT0
                go_wp2_with (first | (go_at_call 8; (with_reducible refine (next_full B g K d (up t) nxt opn.length ps _ HG.out T HT.out.1).mono ?_); rintro e_1 w_1 ⟨v, rfl, hov, hg, hm, hz⟩; obtain ⟨gv, cv, rfl⟩ := own_some hov HT.out.2; have HV := Aside0.mk (show w_1.ownsRow _ 3 1 (.slice (some ⟨gv, 0, none⟩) T cv) T (oi (more nxt T)) from by rw [up_more HTM.out] at hov; exact hov); have HO_n := Aside0.mk (own_gs HO.out hm HG.out.gs); have HB_n := Aside0.mk (gs_after HB.out hm HG.out.gs HSB.out); have HH_n := Aside0.mk (Nat.le_trans HH.out hm.size); clear HB HG HO HH; have HB := HB_n; have HO := HO_n; have HH := HH_n; have HG := Aside0.mk hg; clear HB_n HO_n HH_n hov hg hm hz) | (refine ev_append (.tmp 75) (.tmp 77) 26 3 rfl rfl H _ 1 8 Try.underlying26 info3 rfl (by decide) _ opn.length (oi opn) rfl HO.out ⟨gv, 0, none⟩ T cv (oi (more nxt T)) rfl HLN.out.1 (news_of_own HV.out) (oi_one _) HLN.out.2.1 HLN.out.2.2 HH.out ?_; intro v2 w_2 ho2 hm2 _ hat2; have HB_n := Aside0.mk (hm2.after HB.out HB.out.size (fun k hk => Nat.le_trans HH0.out (own_base HO.out k hk.symm))); have HG_n := Aside0.mk (HG.out.row HO.out HGH.out hm2); have HH_n := Aside0.mk (Nat.le_trans HH.out hm2.size); clear HB HG HO HH; have HB := HB_n; have HG := HG_n; have HH := HH_n; have HO := Aside0.mk ho2; clear HB_n HG_n HH_n ho2 hm2 hat2))
                go_meet
                case rel => exact ⟨by rw [oi_append]; exact HO.out, HG.out, HB.out, HH.out⟩
            case rest =>
              obtain ⟨ho, hG, hb, hH⟩ := hcut
              obtain ⟨A3, c3, rfl⟩ := own_slice ho
              clear HG HO HB HH hT
              have HG := Aside0.mk hG
              have HO := Aside0.mk ho
              have HB := Aside0.mk hb
              have HH := Aside0.mk hH
              obtain ⟨ln, hln⟩ : ∃ ln, ln = opn.length + T := ⟨_, rfl⟩
              obtain ⟨nx2, hnx2⟩ : ∃ nx2, nx2 = nxt + T := ⟨_, rfl⟩
              obtain ⟨L, hL⟩ : ∃ L, L = opn ++ more nxt T := ⟨_, rfl⟩
              obtain ⟨np, hnp⟩ : ∃ np, ps.length = np := ⟨_, rfl⟩
              rw [← hln, ← hnx2] at HG
              rw [← hln, ← hL] at HO
              rw [← hln]
              have HNP := Aside0.mk hnp
              have hmn : (if (K : Int) < (gt : Int) then (K : Int) else (gt : Int)) = (np : Int) := by rw [← hnp, HAL.out.2.1]; split <;> omega
              have HAL2 := Aside0.mk (show L.length = ln ∧ s + ln = nx2 ∧ np = min gt K ∧ gt + cnt l L = cnt l (List.range nx2) ∧ (∀ x ∈ L, x < nx2) ∧ np + ln ≤ K + d ∧ nx2 ≤ t from by
                refine ⟨by rw [hL, List.length_append, more_length, hln], by have := HAL.out.1; omega, by rw [← hnp]; exact HAL.out.2.1, ?_, fun x hx => ?_, by rw [← hnp, hln]; exact HNX.out.1, by omega⟩
                · rw [hL, hnx2, range_more, cnt_append, cnt_append]
                  have := HAL.out.2.2.1
                  omega
                · rw [hL] at hx
                  rcases List.mem_append.1 hx with h1 | h1
                  · have := HAL.out.2.2.2 x h1; omega
                  · obtain ⟨j, hj, rfl⟩ := List.mem_map.1 h1
                    have := List.mem_range.1 hj
                    show nxt + j < nx2
                    omega)
              have hln12 : ln ≤ 24 := by omega
              have hgt12 : gt ≤ 12 := by
                have h1 := HAL2.out.2.2.2.1
                have h2 : cnt l (List.range nx2) ≤ (List.range nx2).length := List.countP_le_length
                rw [List.length_range] at h2
                have := HAL2.out.2.2.2.2.2.2
                omega
              have hKd1 : ¬ K + d < ln := by have := HAL2.out.2.2.2.2.2.1; omega
              have r3 : decide ((K : Int) + (d : Int) < (ln : Int)) = false := decide_eq_false (by omega)
              have htot : cnt l (List.range nx2) ≤ tc := by rw [HTC.out]; exact cnt_mono l HAL2.out.2.2.2.2.2.2
              by_cases hE : K ≤ np
              · have HST := Aside0.mk (show st K ps.length nx2 (up t).length ln = 1 by unfold st; rw [hnp, if_pos hE])
                have q1 : K ≤ gt := by have := HAL2.out.2.2.1; omega
                have q2 : K ≤ tc := by have := HAL2.out.2.2.2.1; omega
                have r4 : decide ((K : Int) ≤ (gt : Int)) = true := decide_eq_true (by omega)
                have r5 : decide ((K : Int) ≤ (tc : Int)) = true := decide_eq_true (by omega)
                clear hln hnx2 hL hnp htot
                go_wp2_with (first | (go_at_call 11; (with_reducible refine (state_is B g K d (up t) nx2 ln ps _ HG.out 1 HST.out).mono ?_); rintro e_1 w_1 ⟨rfl, hb⟩; have HB_n := Aside0.mk (below_step HB.out hb); have HG_n := Aside0.mk (HG.out.far hb); have HO_n := Aside0.mk (pw_own_below HO.out hb); have HH_n := Aside0.mk (Nat.le_trans HH.out hb.size); clear HB HG HO HH; have HB := HB_n; have HG := HG_n; have HO := HO_n; have HH := HH_n; clear HB_n HG_n HO_n HH_n hb) | (go_at_call 13; (with_reducible refine (parts_n B g K d (up t) nx2 ln ps _ HG.out np HNP.out).mono ?_); rintro e_1 w_1 ⟨Ap, cp, rfl, hb⟩; have HB_n := Aside0.mk (below_step HB.out hb); clear HB HG; have HB := HB_n; clear HB_n hb) | (go_at_call 3; (with_reducible refine (runs_calls _).mono ?_); rintro e_1 w_1 ⟨rfl, hb⟩; have HB_n := Aside0.mk (below_step HB.out hb); clear HB; have HB := HB_n; clear HB_n hb))
                all_goals (go_ret; exact ⟨rfl, HB.out⟩)
              · have q1 : ¬ K ≤ gt := by have := HAL2.out.2.2.1; omega
                have r4 : decide ((K : Int) ≤ (gt : Int)) = false := decide_eq_false (by omega)
                by_cases hS : ln = 0 ∧ nx2 = t
                · have HST := Aside0.mk (show st K ps.length nx2 (up t).length ln = 2 by unfold st; rw [hnp, up_length, if_neg hE, if_pos hS])
                  have q2 : ¬ K ≤ tc := by
                    have h1 := HAL2.out.2.2.2.1
                    have h2 : L = [] := List.length_eq_zero_iff.1 (by have := HAL2.out.1; omega)
                    rw [h2, hS.2, ← HTC.out] at h1
                    have h3 : cnt l [] = 0 := rfl
                    omega
                  have r5 : decide ((K : Int) ≤ (tc : Int)) = false := decide_eq_false (by omega)
                  clear hln hnx2 hL hnp htot hS
                  go_wp2_with (first | (go_at_call 11; (with_reducible refine (state_is B g K d (up t) nx2 ln ps _ HG.out 2 HST.out).mono ?_); rintro e_1 w_1 ⟨rfl, hb⟩; have HB_n := Aside0.mk (below_step HB.out hb); have HG_n := Aside0.mk (HG.out.far hb); have HO_n := Aside0.mk (pw_own_below HO.out hb); have HH_n := Aside0.mk (Nat.le_trans HH.out hb.size); clear HB HG HO HH; have HB := HB_n; have HG := HG_n; have HO := HO_n; have HH := HH_n; clear HB_n HG_n HO_n HH_n hb) | (go_at_call 13; (with_reducible refine (parts_n B g K d (up t) nx2 ln ps _ HG.out np HNP.out).mono ?_); rintro e_1 w_1 ⟨Ap, cp, rfl, hb⟩; have HB_n := Aside0.mk (below_step HB.out hb); clear HB HG; have HB := HB_n; clear HB_n hb) | (go_at_call 3; (with_reducible refine (runs_calls _).mono ?_); rintro e_1 w_1 ⟨rfl, hb⟩; have HB_n := Aside0.mk (below_step HB.out hb); clear HB; have HB := HB_n; clear HB_n hb))
                  all_goals (go_ret; exact ⟨rfl, HB.out⟩)
                · have HST := Aside0.mk (show st K ps.length nx2 (up t).length ln = 0 by unfold st; rw [hnp, up_length, if_neg hE, if_neg hS])
                  have hl0 : ¬ ln = 0 := fun h => hS ⟨h, by have := HNX.out.2 (by omega) (by omega); omega⟩
                  have r5 : ((ln : Int) == 0) = false := beq_eq_false_iff_ne.2 (by omega)
                  have hl1 : 1 ≤ ln := by omega
                  clear hln hnx2 hL hnp htot hS
                  go_upto_if 122 with (go_at_call 11; (with_reducible refine (state_is B g K d (up t) nx2 ln ps _ HG.out 0 HST.out).mono ?_); rintro e_1 w_1 ⟨rfl, hb⟩; have HB_n := Aside0.mk (below_step HB.out hb); have HG_n := Aside0.mk (HG.out.far hb); have HO_n := Aside0.mk (pw_own_below HO.out hb); have HH_n := Aside0.mk (Nat.le_trans HH.out hb.size); clear HB HG HO HH; have HB := HB_n; have HG := HG_n; have HO := HO_n; have HH := HH_n; clear HB_n HG_n HO_n HH_n hb)
                  obtain ⟨W3, hW3⟩ : ∃ W3, W3 = w_1 := ⟨_, rfl⟩
                  rw [← hW3] at HB HG HO HH ⊢
                  clear hW3
                  go_cut [23] (fun s23 wc => ∃ p : Nat, s23 = .int .i64 (p : Int) ∧ p < ln ∧ Below W3.heap.size W3 wc)
                  case first =>
                    by_cases hsn : s < n'
                    · obtain ⟨y, b, o, rfl, _, hcy⟩ := arg_cell HA'.out hsn
                      have cy := hcy _ HB.out
                      have r6 : decide ((s : Int) < (n' : Int)) = true := decide_eq_true (by omega)
                      obtain ⟨p, _, hp1, hpc⟩ := within_nat y 0 ((ln : Int) - 1) (by omega) (by decide) (by omega)
                      have HPC := Aside0.mk hpc
                      have HWB := Aside0.mk (Below.refl W3.heap.size W3)
                      clear hcy hpc
                      go_wp2_with (go_at_call 18; (with_reducible refine (HPC.out _).mono ?_); rintro e_1 w_1 ⟨rfl, hb⟩; have HWB_n := Aside0.mk (below_step HWB.out hb); clear HWB; have HWB := HWB_n; clear HWB_n hb)
                      go_meet
                      case rel => exact ⟨p, rfl, by omega, HWB.out⟩
                    · have r6 : decide ((s : Int) < (n' : Int)) = false := decide_eq_false (by omega)
                      go_wp2
                      go_meet
                      case rel => exact ⟨0, rfl, by omega, Below.refl _ _⟩
                  case rest =>
                    obtain ⟨p, rfl, hp, hbp⟩ := hcut
                    obtain ⟨W, hW⟩ : ∃ W, W = wc := ⟨_, rfl⟩
                    rw [← hW] at hbp ⊢
                    clear hW
                    have HB_n := Aside0.mk (below_step HB.out hbp)
                    have HG_n := Aside0.mk (HG.out.far hbp)
                    have HO_n := Aside0.mk (pw_own_below HO.out hbp)
                    have HH_n := Aside0.mk (Nat.le_trans HH.out hbp.size)
                    clear HB HG HO HH hbp
                    have HB := HB_n
                    have HG := HG_n
                    have HO := HO_n
                    have HH := HH_n
                    clear HB_n HG_n HO_n HH_n
                    obtain ⟨xx, hxx⟩ : ∃ xx, L[p]? = some xx := ⟨_, List.getElem?_eq_getElem (by have := HAL2.out.1; omega)⟩
                    obtain ⟨g3, rfl⟩ : ∃ g3, A3 = some ⟨g3, 0, none⟩ := by
                      obtain ⟨g3, c, e⟩ := own_some HO.out hl0
                      injection e with e
                      exact ⟨g3, e⟩
                    have cx : W.cell? ⟨g3, p, none⟩ = some (.int .i64 (xx : Int)) := by
                      rw [HO.out.cellAt p (by omega), oi, List.getElem?_map, hxx]
                      rfl
                    have hlc : ln ≤ c3 := own_cap HO.out
                    have HXX := Aside0.mk hxx
                    obtain ⟨M, hM⟩ : ∃ M, M = L.take p ++ L.drop (p + 1) := ⟨_, rfl⟩
                    have hoM : oi M = (oi L).take p ++ (oi L).drop (p + 1) := by rw [hM, oi_append, oi, oi, oi, List.map_take, List.map_drop]
                    have hlM : M.length + 1 = ln := by
                      rw [hM, List.length_append, List.length_take, List.length_drop]
                      have := HAL2.out.1
                      omega
                    have HMM := Aside0.mk (show cnt l L = cnt l M + (if hv l xx = true then 1 else 0) ∧ (∀ x ∈ M, x < nx2) ∧ xx < nx2 ∧ M.length + 1 = ln from ⟨by rw [hM]; exact cnt_pick l hxx, fun x hx => HAL2.out.2.2.2.2.1 x (by
                      rw [hM] at hx
                      rcases List.mem_append.1 hx with h1 | h1
                      · exact List.mem_of_mem_take h1
                      · exact List.mem_of_mem_drop h1), HAL2.out.2.2.2.2.1 xx (List.mem_of_getElem? hxx), hlM⟩)
                    have HOM := Aside0.mk (show ln - 1 = p + (ln - (p + 1)) ∧ oi M = (oi L).take p ++ (oi L).drop (p + 1) from ⟨by omega, hoM⟩)
                    clear hxx hM hoM hlM
                    go_upto_region 33 with fail
                    go_cut [20] (fun s20 wc => wc.ownsRow H 3 1 s20 (ln - 1) (oi M) ∧ Gt B wc g K d (up t) nx2 ln ps ∧ Below w.heap.size w wc ∧ H ≤ wc.heap.size)
                    case first =>
                      have hcl := HO.out.1
                      have hone := oi_one L
                      have SB := HH.out
                      have E0 : Aside0 ((W.alloc (.cells #[] 3)).drew.heap[W.heap.size]? = some (.cells #[] 3 (0, 0))) := ⟨blk_new W _⟩
                      have E1 : Aside0 ((W.alloc (.cells #[] 3)).drew.ownsRow H 3 1 (.slice (some ⟨W.heap.size, 0, none⟩) 0 0) 0 []) := ⟨own_empty SB E0.out⟩
                      have BA : Aside0 (Below W.heap.size W (W.alloc (.cells #[] 3)).drew) := ⟨(below_alloc (Below.refl _ _) _).drew⟩
                      have E2 : Aside0 ((W.alloc (.cells #[] 3)).drew.ownsRow H 3 1 (Value.slice (some ⟨g3, 0, none⟩) ln c3) ln (oi L)) := ⟨pw_own_below HO.out BA.out⟩
                      have E3 : Aside0 (∀ j u, ((oi L).take p)[j]? = some u → (W.alloc (.cells #[] 3)).drew.cell? ((⟨g3, 0, none⟩ : Addr).add j) = some u) := ⟨fun j u hu => news_of_own E2.out j u (by
                        have hj := (List.getElem?_eq_some_iff.1 hu).1
                        rw [List.length_take] at hj
                        rwa [List.getElem?_take_of_lt (by omega)] at hu)⟩
                      have n1' : Aside0 (((oi L).take p).length = p * 1) := ⟨by rw [List.length_take, hcl]; omega⟩
                      have n2' : Aside0 (((oi L).drop (p + 1)).length = (ln - (p + 1)) * 1) := ⟨by rw [List.length_drop, hcl]; omega⟩
                      have m1 : Aside0 (∀ u ∈ (oi L).take p, u.oneCell' = true) := ⟨fun u hu => hone u (List.mem_of_mem_take hu)⟩
                      have m2 : Aside0 (∀ u ∈ (oi L).drop (p + 1), u.oneCell' = true) := ⟨fun u hu => hone u (List.mem_of_mem_drop hu)⟩
                      have b1' : Aside0 (0 + p ≤ maxLen) := ⟨by unfold maxLen; omega⟩
                      have b2' : Aside0 ((0 + p) * 8 ≤ 140737488355328) := ⟨by omega⟩
                      have b3' : Aside0 (p + (ln - (p + 1)) ≤ maxLen) := ⟨by unfold maxLen; omega⟩
                      have b4' : Aside0 ((p + (ln - (p + 1))) * 8 ≤ 140737488355328) := ⟨by omega⟩
                      have b5' : Aside0 (H ≤ (W.alloc (.cells #[] 3)).drew.heap.size) := ⟨Nat.le_trans SB BA.out.size⟩
                      have bW := own_lt HO.out g3 rfl
                      have q2 : Aside0 (g3 ≠ W.heap.size) := ⟨by omega⟩
                      have K0 := Aside0.mk (HG.out.far BA.out)
                      have K1 := Aside0.mk (below_then HB.out HB.out.size BA.out)
                      have x1 : IntKind.i64.wrap ((p : Int) + 1) = (p : Int) + 1 := by rw [IntKind.wrap_i64]; omega
                      have x3 : ((p : Int) + 1).toNat = p + 1 := by omega
                      have x4 : (0 : Int) ≤ (p : Int) + 1 := by omega
                      have x5 : p ≤ c3 := by omega
                      have x8 : (p : Int) + 1 ≤ (ln : Int) := by omega
                      have x6 : p + 1 ≤ c3 := by omega
                      have x7 : p + 1 ≤ ln := by omega
                      obtain ⟨AD, hA, hsrc⟩ : ∃ AD : Addr, (if c3 = p + 1 then some (⟨g3, 0, none⟩ : Addr) else some ⟨g3, p + 1, none⟩) = some AD ∧ Aside0 (∀ W1 : World, W1.ownsRow H 3 1 (Value.slice (some ⟨g3, 0, none⟩) ln c3) ln (oi L) → ∀ j u, ((oi L).drop (p + 1))[j]? = some u → W1.cell? (AD.add j) = some u) := by
                        by_cases h : c3 = p + 1
                        · refine ⟨⟨g3, 0, none⟩, by simp [h], ⟨fun W1 _ t u hu => ?_⟩⟩
                          have h0 : ((oi L).drop (p + 1)).length = 0 := by rw [n2'.out]; omega
                          rw [List.length_eq_zero_iff.1 h0] at hu
                          simp at hu
                        · refine ⟨⟨g3, p + 1, none⟩, by simp [h], ⟨fun W1 hW1 t u hu => ?_⟩⟩
                          have ht := (List.getElem?_eq_some_iff.1 hu).1
                          rw [n2'.out] at ht
                          rw [Addr.add_mid, hW1.cellAt _ (by omega)]
                          rw [List.getElem?_drop] at hu
                          exact hu
                      clear SB hcl hone bW
                      go_region_law (first | (refine st_append (W := (W.alloc (.cells #[] 3)).drew) (.tmp 135) (.tmp 138) 26 3 rfl rfl H _ 1 8 Try.underlying26 info3 rfl (by decide) (.slice (some ⟨W.heap.size, 0, none⟩) 0 0) 0 [] rfl E1.out ⟨g3, 0, none⟩ p c3 ((oi L).take p) rfl n1'.out E3.out m1.out b1'.out b2'.out b5'.out ?_; intro u1 w1 ho1 hm1 _ hat1; rw [Nat.zero_add] at ho1; have G1 := Aside0.mk ho1; have G2 := Aside0.mk hm1; have G4 := Aside0.mk (hm1.own E2.out (fun q hq e => q2.out ((Option.some.inj hq).trans (Option.some.inj e)))); have G5 := Aside0.mk (show H ≤ w1.heap.size from Nat.le_trans b5'.out hm1.size); clear ho1 hm1 hat1) | (refine st_append (W := w1) (.tmp 139) (.tmp 143) 26 3 rfl rfl H _ 1 8 Try.underlying26 info3 rfl (by decide) u1 p _ rfl G1.out AD (ln - (p + 1)) (c3 - (p + 1)) ((oi L).drop (p + 1)) rfl n2'.out (hsrc.out w1 G4.out) m2.out b3'.out b4'.out G5.out ?_; intro u2 w2 ho2 hm2 _ hat2; have J1 := Aside0.mk ho2; have J2 := Aside0.mk hm2; obtain ⟨Au2, cu2, rfl⟩ := own_slice ho2; clear ho2 hm2 hat2))
                      all_goals
                        have K2 := Aside0.mk ((K0.out.row E1.out HGH.out G2.out).row G1.out HGH.out J2.out)
                        have K3 := Aside0.mk (G2.out.after K1.out K1.out.size (fun k hk => Nat.le_trans HH0.out (own_base E1.out k hk.symm)))
                        have K4 := Aside0.mk (J2.out.after K3.out K3.out.size (fun k hk => Nat.le_trans HH0.out (own_base G1.out k hk.symm)))
                        have K5 := Aside0.mk (Nat.le_trans G5.out J2.out.size)
                        have J3 := Aside0.mk (show w2.ownsRow H 3 1 (.slice Au2 (p + (ln - (p + 1))) cu2) (ln - 1) (oi M) from by rw [HOM.out.1, HOM.out.2]; exact J1.out)
                        go_wp2
                        go_meet
                        case rel => exact ⟨J3.out, K2.out, K4.out, K5.out⟩
                    case rest =>
                      obtain ⟨ho, hG, hb, hH⟩ := hcut
                      obtain ⟨W5, hW5⟩ : ∃ W5, W5 = wc := ⟨_, rfl⟩
                      rw [← hW5] at ho hG hb hH ⊢
                      obtain ⟨A5, c5, rfl⟩ := own_slice ho
                      clear hW5 HG HO HB HH cx
                      have HG := Aside0.mk (show Gt B W5 g K d (up t) nx2 (M.length + 1) ps by rw [HMM.out.2.2.2]; exact hG)
                      have HO := Aside0.mk (show W5.ownsRow H 3 1 (.slice A5 (ln - 1) c5) M.length (oi M) by rw [show M.length = ln - 1 by have := HMM.out.2.2.2; omega]; exact ho)
                      have HB := Aside0.mk hb
                      have HH := Aside0.mk hH
                      clear hG ho hb hH
                      obtain ⟨bb, hbb⟩ : ∃ bb, hv l xx = bb := ⟨_, rfl⟩
                      have HBB := Aside0.mk hbb
                      have hxx12 : xx ≤ 12 := by have := HMM.out.2.2.1; have := HAL2.out.2.2.2.2.2.2; omega
                      go_upto_region 34 with fail
                      go_cut [25] (fun s25 wc => s25 = .bool bb ∧ W5 = wc)
                      case first =>
                        by_cases hxn : xx < n
                        · obtain ⟨y, b, o, rfl, hy, hcy⟩ := arg_bool HA.out hxn
                          obtain rfl : y = bb := by rw [← hbb]; unfold hv; rw [hy]; rfl
                          have cy := hcy _ HB.out
                          have r8 : decide ((xx : Int) < (n : Int)) = true := decide_eq_true (by omega)
                          clear hcy hy
                          go_wp2
                          go_meet
                          case rel => exact ⟨rfl, rfl⟩
                        · obtain rfl : false = bb := by rw [← hbb]; unfold hv; rw [List.getElem?_eq_none (by have := HA.out.1; omega)]; rfl
                          have r8 : decide ((xx : Int) < (n : Int)) = false := decide_eq_false (by omega)
                          go_wp2
                          go_meet
                          case rel => exact ⟨rfl, rfl⟩
                      case rest =>
                        obtain ⟨rfl, rfl⟩ := hcut
                        have HIN := Aside0.mk (show ((up t).take nx2).contains (xx : Int) = true from up_in HAL2.out.2.2.2.2.2.2 HMM.out.2.2.1)
                        have HNK := Aside0.mk (show ps.length < K by have := HNP.out; omega)
                        have HARITH := Aside0.mk (show s + 1 + M.length = nx2 ∧ np = ps.length ∧ np = min gt K ∧ gt + cnt l L = cnt l (List.range nx2) ∧ np + ln ≤ K + d ∧ np < K from ⟨by have := HMM.out.2.2.2; have := HAL2.out.2.1; omega, HNP.out.symm, HAL2.out.2.2.1, HAL2.out.2.2.2.1, HAL2.out.2.2.2.2.2.1, by omega⟩)
                        cases bb with
                        | false =>
                          clear hbb
                          go_wp2_with (go_at_call 9; (with_reducible refine (got_skip B g K d (up t) nx2 M.length ps _ HG.out _ false ⟨#[120]⟩ HIN.out (.inl rfl)).mono ?_); rintro e_1 w_1 ⟨rfl, hg, S, hs, hm⟩; have HB_n := Aside0.mk (gs_after HB.out hm hs HSB.out); have HO_n := Aside0.mk (own_gs HO.out hm hs); have HH_n := Aside0.mk (Nat.le_trans HH.out hm.size); clear HB HG HO HH; have HB := HB_n; have HO := HO_n; have HH := HH_n; have HG := Aside0.mk hg; clear HB_n HO_n HH_n hg hs hm)
                          go_roundg (60 - (s + 1))
                          case measure => omega
                          case rel => exact ⟨s + 1, gt, nx2, ps, M, by go_num, rfl, by omega, HO.out, HG.out, HARITH.out.1, by have := HARITH.out; omega, by have h1 := HMM.out.1; rw [if_neg (by rw [HBB.out]; decide)] at h1; have := HARITH.out.2.2.2.1; omega, HMM.out.2.1, by have := HARITH.out; have := HMM.out.2.2.2; omega, HB.out, HH.out⟩
                        | true =>
                          clear hbb
                          go_wp2_with (go_at_call 9; (with_reducible refine (got_add B g K d (up t) nx2 M.length ps _ HG.out _ ⟨#[120]⟩ HIN.out HNK.out).mono ?_); rintro e_1 w_1 ⟨rfl, hg, S, hs, hm⟩; have HB_n := Aside0.mk (gs_after HB.out hm hs HSB.out); have HO_n := Aside0.mk (own_gs HO.out hm hs); have HH_n := Aside0.mk (Nat.le_trans HH.out hm.size); clear HB HG HO HH; have HB := HB_n; have HO := HO_n; have HH := HH_n; have HG := Aside0.mk hg; clear HB_n HO_n HH_n hg hs hm)
                          go_roundg (60 - (s + 1))
                          case measure => omega
                          case rel => exact ⟨s + 1, gt + 1, nx2, ps ++ [⟨(xx : Int), ⟨#[120]⟩⟩], M, by go_num, by go_num, by omega, HO.out, HG.out, HARITH.out.1, by rw [List.length_append, List.length_singleton]; have := HARITH.out; omega, by have h1 := HMM.out.1; rw [if_pos HBB.out] at h1; have := HARITH.out.2.2.2.1; omega, HMM.out.2.1, by rw [List.length_append, List.length_singleton]; have := HARITH.out; have := HMM.out.2.2.2; omega, HB.out, HH.out⟩
end Go.Proofs.Ytnndpjicbcailaa.Ga
