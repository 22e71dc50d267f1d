/- ViewPlays answers true. -/
import Derived.Test.YtnfnbcbbiaheeaaVw5
namespace Go.Proofs.Ytnfnbcbbiaheeaa.Vw
open Go.RowKit Go.Proofs.YtnfnbcbbiaheeaaW.PrintWords Go.Proofs.YtnfnbcbbiaheeaaW.PrintLast Go.Proofs.Ytnfnbcbbiaheeaa.Lib Go.Proofs.Ytnfnbcbbiaheeaa.Open
/-- A View and the document's View. -/
structure Pv (w0 W : World) (g r h s t : Nat) (L M : List (Int × Int)) : Prop where
  sv : Sv w0 W g r L
  rs : Rs W h s t M
  h0 : w0.heap.size ≤ h
  s0 : w0.heap.size ≤ s
  t0 : w0.heap.size ≤ t
section
variable {w0 w W : World} {g r h s t : Nat} {L M : List (Int × Int)}
theorem Pv.far (p : Pv w0 w g r h s t L M) (hb : Below w.heap.size w W) : Pv w0 W g r h s t L M := ⟨p.sv.far hb, p.rs.below hb, p.h0, p.s0, p.t0⟩
theorem pv_new (m : Nat) (w0 w : World) (hs : Sv w0 w g r L) (h1 : 1 ≤ m) (h2 : m ≤ 12) : Calls Try.prog 17 #[.int .i64 (m : Int)] w fun e w' => ∃ h s t, e = .returned (.tuple #[.pointer (some ⟨h, 0, none⟩), .int .i64 0]) ∧ Pv w0 w' g r h s t L (List.replicate m (0, 0)) :=
  (rnew_ok m w h1 h2).mono fun _ _ ⟨h, s, t, e, k1, k2, k3, k4, k5⟩ => ⟨h, s, t, e, hs.far k5, k1, Nat.le_trans hs.below.size k2, Nat.le_trans hs.below.size k3, Nat.le_trans hs.below.size k4⟩
theorem pv_state (i a : Int) (p : Pv w0 w g r h s t L M) (hn : (st L i).1 = a) : Calls Try.prog 13 #[.pointer (some ⟨g, 0, none⟩), .int .i64 i] w fun e w' => e = .returned (.int .i64 a) ∧ Pv w0 w' g r h s t L M := by
  subst hn
  exact (state_calls g r L i w p.sv.v).mono fun e w' ⟨h1, h2⟩ => ⟨h1, p.far h2⟩
theorem pv_inc (i a : Int) (p : Pv w0 w g r h s t L M) (hn : (st L i).2 = a) : Calls Try.prog 14 #[.pointer (some ⟨g, 0, none⟩), .int .i64 i] w fun e w' => e = .returned (.int .i64 a) ∧ Pv w0 w' g r h s t L M := by
  subst hn
  exact (inc_calls g r L i w p.sv.v).mono fun e w' ⟨h1, h2⟩ => ⟨h1, p.far h2⟩
theorem pv_few (A : Option Addr) (n c : Nat) (l : List Int) (a : Int) (p : Pv w0 w g r h s t L M) (hA : Rd w A n l) (hn : l.length = n) (hc : n ≤ c) (hl : n ≤ 1000) (hL : L.length ≤ 1000) (ha : (cnt l L : Int) = a) :
    Calls Try.prog 16 #[.pointer (some ⟨g, 0, none⟩), .slice A n c] w fun e w' => e = .returned (.int .i64 a) ∧ Pv w0 w' g r h s t L M := by
  subst ha hn
  exact (few_calls g r L A c l w p.sv.v hA hc hl hL).mono fun e w' ⟨h1, h2⟩ => ⟨h1, p.far h2⟩
theorem pv_next (i ev : Int) (q : Bool) (L' : List (Int × Int)) (p : Pv w0 w g r h s t L M) (hn : nx L i ev = (q, L')) :
    Calls Try.prog 12 #[.pointer (some ⟨g, 0, none⟩), .int .i64 i, .int .i64 ev] w fun e w' => e = .returned (.bool q) ∧ Pv w0 w' g r h s t L' M := by
  refine (next_calls g r L i ev w p.sv.v).mono fun e w' ⟨h1, h2, h3⟩ => ?_
  rw [hn] at h1 h2
  exact ⟨h1, p.sv.mod h2 h3, p.rs.mod h3 (blk_ne p.rs.blk p.sv.v.row (by decide)) (blk_ne p.rs.sr p.sv.v.row (by decide)) (blk_ne p.rs.tr p.sv.v.row (by decide)), p.h0, p.s0, p.t0⟩
theorem pv_rnext (i ev : Int) (q : Bool) (M' : List (Int × Int)) (p : Pv w0 w g r h s t L M) (hn : nx M i ev = (q, M')) :
    Calls Try.prog 18 #[.pointer (some ⟨h, 0, none⟩), .int .i64 i, .int .i64 ev] w fun e w' => e = .returned (.bool q) ∧ Pv w0 w' g r h s t L M' := by
  refine (rnext_calls h s t M i ev w p.rs).mono fun e w' ⟨h1, h2, h3⟩ => ?_
  rw [hn] at h1 h2
  refine ⟨h1, ⟨p.sv.v.mod h3 (fun e => e.elim (blk_ne p.sv.v.blk p.rs.sr (by decide)) (blk_ne p.sv.v.blk p.rs.tr (by decide))) (fun e => e.elim (blk_ne p.sv.v.row p.rs.sr (by decide)) (blk_ne p.sv.v.row p.rs.tr (by decide))), p.sv.g0, p.sv.r0, h3.after p.sv.below p.sv.below.size (fun k hk => hk.elim (fun e => by rw [e]; exact p.s0) (fun e => by rw [e]; exact p.t0))⟩, h2, p.h0, p.s0, p.t0⟩
end
theorem st_at {L : List (Int × Int)} {p : Nat} {x : Int × Int} (hx : L[p]? = some x) : st L (p : Int) = x := by
  unfold st
  rw [if_neg (by omega), Int.toNat_natCast, hx]
  rfl
theorem st_neg (L : List (Int × Int)) : st L (-1) = (0, 0) := rfl
theorem st_end {L : List (Int × Int)} {m : Nat} (h : L.length = m) : st L (m : Int) = (0, 0) := by
  unfold st
  rw [if_neg (by omega), Int.toNat_natCast, List.getElem?_eq_none (by omega)]
  rfl
/-- The outer loop: i events are done. -/
def PlayLoop (w0 : World) (g r h s t m N : Nat) (k : Nat) (s11 : Value) (wr : World) : Prop :=
  ∃ (i : Nat) (L : List (Int × Int)), s11 = .int .i64 (i : Int) ∧ i + k = N ∧ Pv w0 wr g r h s t L L ∧ L.length = m ∧ Ok L
/-- The inner loop. -/
def LookLoop (w0 : World) (g r h s t m : Nat) (L : List (Int × Int)) (kk : Nat) (s12 s13 : Value) (wr : World) : Prop :=
  ∃ k : Int, s13 = .int .i64 k ∧ -1 ≤ k ∧ k + kk = m + 1 ∧ s12 = .int .i64 (cnt [2, 1] (L.take k.toNat) : Int) ∧ Pv w0 wr g r h s t L L
theorem cnt_step {L : List (Int × Int)} {k : Nat} {x : Int × Int} (hx : L[k]? = some x) (l : List Int) : cnt l (L.take (k + 1)) = cnt l (L.take k) + if l.contains x.1 then 1 else 0 := by
  rw [cnt, cnt, List.take_add_one, hx, List.countP_append]
  simp [List.countP_cons]
theorem wrap_small (c : Nat) (h : c ≤ 12) : wrap64 ((c : Int) + 1) = (c : Int) + 1 := by unfold wrap64; omega
theorem wrap_k (k : Int) (h0 : -1 ≤ k) (h1 : k ≤ 12) : wrap64 (k + 1) = k + 1 := by unfold wrap64; omega
theorem cnt_take_le (l : List Int) {L : List (Int × Int)} {m : Nat} (p : Nat) (h : L.length = m) (hm : m ≤ 12) : cnt l (L.take p) ≤ 12 := Nat.le_trans List.countP_le_length (by rw [List.length_take]; omega)
theorem cnt_le (l : List Int) (L : List (Int × Int)) : cnt l L ≤ L.length := List.countP_le_length
/-- No View: nothing is played. -/
def Idle (w0 : World) (_k : Nat) (s11 : Value) (wr : World) : Prop := s11 = .int .i64 0 ∧ Below w0.heap.size w0 wr
set_option maxHeartbeats 8000000 in
set_option maxRecDepth 100000 in
theorem playno_calls (a0 : Int) (A1 : Option Addr) (n1 c1 : Nat) (l1 : List Int) (A2 : Option Addr) (n2 c2 : Nat) (l2 : List Int) (w : World) (hA1 : Arg icl w A1 n1 l1) (hA2 : Arg icl w A2 n2 l2) (hn : a0 < 1 ∨ 12 < a0) :
    Calls Try.prog 4 #[.int .i64 a0, .slice A1 n1 c1, .slice A2 n2 c2] w fun e w' => e = .returned (.bool true) ∧ Below w.heap.size w w' := by
  have HB := Aside0.mk (Below.refl w.heap.size w)
  have HN := Aside0.mk hn
  have hn1 : n1 ≤ 9223372036854775807 := hA1.2.1
  have hn2 : n2 ≤ 9223372036854775807 := hA2.2.1
  clear hA1 hA2 hn
  go_enter Try.func4, Try.ntmps4
  go_wp2_with (first | (go_at_call 11; (with_reducible refine (new_no a0 _ HN.out).mono ?_); rintro e_1 w_1 ⟨rfl, hb⟩; have HB_n := Aside0.mk (below_step HB.out hb); clear HB; have HB := HB_n; clear HB_n hb) | (go_at_call 17; (with_reducible refine (rnew_no a0 _ HN.out).mono ?_); rintro e_1 w_1 ⟨rfl, hb⟩; have HB_n := Aside0.mk (below_step HB.out hb); clear HB; have HB := HB_n; clear HB_n hb))
  go_loopg [11] 0 (fun k s11 wr => Idle w k s11 wr)
  case atStart => exact ⟨rfl, HB.out⟩
  case round =>
    clear HB
    obtain ⟨rfl, hb0⟩ := hrel
    have HB := Aside0.mk hb0
    clear hb0
    by_cases k1 : 0 < n1
    · have t1 : decide ((0 : Int) < (n1 : Int)) = true := decide_eq_true (by omega)
      by_cases k2 : 0 < n2
      · have t2 : decide ((0 : Int) < (n2 : Int)) = true := decide_eq_true (by omega)
        go_wp2_with (go_at_call 3; (with_reducible refine (runs_calls _).mono ?_); rintro e_1 w_1 ⟨rfl, hb⟩; have HB2 := Aside0.mk (below_step HB.out hb); clear hb)
        go_ret
        exact ⟨rfl, HB2.out⟩
      · have t2 : decide ((0 : Int) < (n2 : Int)) = false := decide_eq_false (by omega)
        go_wp2_with (go_at_call 3; (with_reducible refine (runs_calls _).mono ?_); rintro e_1 w_1 ⟨rfl, hb⟩; have HB2 := Aside0.mk (below_step HB.out hb); clear hb)
        go_ret
        exact ⟨rfl, HB2.out⟩
    · have t1 : decide ((0 : Int) < (n1 : Int)) = false := decide_eq_false (by omega)
      go_wp2_with (go_at_call 3; (with_reducible refine (runs_calls _).mono ?_); rintro e_1 w_1 ⟨rfl, hb⟩; have HB2 := Aside0.mk (below_step HB.out hb); clear hb)
      go_ret
      exact ⟨rfl, HB2.out⟩
set_option maxHeartbeats 16000000 in
set_option maxRecDepth 100000 in
theorem playyes_calls (m : Nat) (A1 : Option Addr) (n1 c1 : Nat) (l1 : List Int) (A2 : Option Addr) (n2 c2 : Nat) (l2 : List Int) (w : World) (hA1 : Arg icl w A1 n1 l1) (hA2 : Arg icl w A2 n2 l2) (hm1 : 1 ≤ m) (hm2 : m ≤ 12) :
    Calls Try.prog 4 #[.int .i64 (m : Int), .slice A1 n1 c1, .slice A2 n2 c2] w fun e w' => e = .returned (.bool true) ∧ Below w.heap.size w w' := by
  have HB := Aside0.mk (Below.refl w.heap.size w)
  have HA1 := Aside0.mk hA1
  have HA2 := Aside0.mk hA2
  have HM := Aside0.mk (And.intro hm1 hm2)
  have hn1 : n1 ≤ 9223372036854775807 := hA1.2.1
  have hn2 : n2 ≤ 9223372036854775807 := hA2.2.1
  have E3 := Aside0.mk (show ([2, 1] : List Int).length = 2 from rfl)
  have E4 := Aside0.mk (show ([] : List Int).length = 0 from rfl)
  have E5 := Aside0.mk (show ([0, 2, 1] : List Int).length = 3 from rfl)
  clear hA1 hA2
  go_enter Try.func4, Try.ntmps4
  go_wp2_with (first | (go_at_call 11; (with_reducible refine (sv_new m w _ HB.out HM.out.1 HM.out.2 _ rfl).mono ?_); rintro e_1 w_1 ⟨g, r, rfl, hs⟩; have HS := Aside0.mk hs; clear HB hs) | (go_at_call 17; (with_reducible refine (pv_new m w _ HS.out HM.out.1 HM.out.2).mono ?_); rintro e_1 w_1 ⟨h, s, t, rfl, hs⟩; have HP := Aside0.mk hs; clear HS hs))
  have HF := Aside0.mk (show PlayLoop w g r h s t m (min (min n1 n2) 80) (min (min n1 n2) 80) (.int .i64 0) w_1 from ⟨0, _, rfl, by omega, HP.out, List.length_replicate, ok_new m⟩)
  obtain ⟨N, hN⟩ : ∃ N, N = min (min n1 n2) 80 := ⟨_, rfl⟩
  rw [← hN] at HF
  go_loopg [11] N (fun k s11 wr => PlayLoop w g r h s t m N k s11 wr)
  case atStart => exact HF.out
  case round =>
    clear HF HP
    obtain ⟨i, L, rfl, hik, hp, hL, hO⟩ := hrel
    have HP := Aside0.mk hp
    have HL := Aside0.mk (And.intro hL hO)
    clear hp
    by_cases hlt : i < N
    · obtain ⟨x, b1, o1, rfl, hx1, hc1⟩ := arg_cell HA1.out (i := i) (by omega)
      obtain ⟨y, b2, o2, rfl, hx2, hc2⟩ := arg_cell HA2.out (i := i) (by omega)
      have HC1 := Aside0.mk hc1
      have HC2 := Aside0.mk hc2
      have hi1 : i < n1 := by omega
      have hi2 : i < n2 := by omega
      have hi3 : i < 80 := by omega
      have t1 : decide ((i : Int) < (n1 : Int)) = true := decide_eq_true (by omega)
      have t2 : decide ((i : Int) < (n2 : Int)) = true := decide_eq_true (by omega)
      have t3 : decide ((i : Int) < 80) = true := decide_eq_true (by omega)
      obtain ⟨q, hq⟩ : ∃ q, q = (nx L x y).1 := ⟨_, rfl⟩
      obtain ⟨L2, hL2⟩ : ∃ L2, L2 = (nx L x y).2 := ⟨_, rfl⟩
      have HX := Aside0.mk (show nx L x y = (q, L2) from by rw [hq, hL2])
      have HL2 := Aside0.mk (show L2.length = m ∧ Ok L2 from ⟨by rw [hL2, nx_length, hL], by rw [hL2]; exact ok_nx hO x y⟩)
      clear hx1 hx2 hc1 hc2 hq hL2 hL hO
      go_wp2_with fail
      obtain ⟨W, hW⟩ : ∃ W, W = wr := ⟨_, rfl⟩
      have HP_n := Aside0.mk (show Pv w W.drew g r h s t L L from by rw [hW]; exact HP.out.far (below_drew (Below.refl _ _)))
      rw [← hW]
      clear hW HP
      have HP := HP_n
      clear HP_n
      go_region_held3 (fun W' => W'.cell? ⟨b1, o1 + i, none⟩ = some (.int .i64 x) ∧ W'.cell? ⟨b2, o2 + i, none⟩ = some (.int .i64 y)) (exact ⟨HC1.out _ HP.out.sv.below, HC2.out _ HP.out.sv.below⟩) (first | (go_at_call 12; refine (pv_next x y q L2 HP.out HX.out).mono ?_; rintro e_1 w_1 ⟨rfl, hs⟩; have HP_n := Aside0.mk hs; clear HP; have HP := HP_n; clear HP_n hs) | (go_at_call 18; refine (pv_rnext x y q L2 HP.out HX.out).mono ?_; rintro e_1 w_1 ⟨rfl, hs⟩; have HP_n := Aside0.mk hs; clear HP; have HP := HP_n; clear HP_n hs))
      clear HX HL
      go_wp2_with fail
      have hm3 : (m : Int) ≤ 12 := by omega
      go_loopg [12, 13] (m + 2) (fun kk s12 s13 wr => LookLoop w g r h s t m L2 kk s12 s13 wr)
      case atStart => exact ⟨-1, by go_num, by omega, by omega, by simp [cnt], HP.out⟩
      case round =>
        clear HP
        obtain ⟨k, rfl, hk0, hkk, rfl, hp⟩ := hrel
        have HP := Aside0.mk hp
        have hl2 := HL2.out.1
        clear hp
        by_cases hke : k ≤ m
        · have r1 : decide (k ≤ (m : Int)) = true := decide_eq_true hke
          by_cases hkn : k < 0
          · obtain rfl : k = -1 := by omega
            have ea := Aside0.mk (show (st L2 (-1)).1 = 0 from by rw [st_neg])
            have eb := Aside0.mk (show (st L2 (-1)).2 = 0 from by rw [st_neg])
            clear hl2 hke
            go_wp2_with (first | (go_at_call 13; (with_reducible refine (pv_state _ _ HP.out ea.out).mono ?_); rintro e_1 w_1 ⟨rfl, hs⟩; have HP_n := Aside0.mk hs; clear HP; have HP := HP_n; clear HP_n hs) | (go_at_call 14; (with_reducible refine (pv_inc _ _ HP.out eb.out).mono ?_); rintro e_1 w_1 ⟨rfl, hs⟩; have HP_n := Aside0.mk hs; clear HP; have HP := HP_n; clear HP_n hs))
            go_roundg (m + 1)
            case measure => omega
            case rel => exact ⟨0, by go_num, by omega, by omega, by simp, HP.out⟩
          · obtain ⟨p, rfl⟩ := Int.eq_ofNat_of_zero_le (show 0 ≤ k by omega)
            have r2 : decide (0 ≤ (p : Int)) = true := decide_eq_true (Int.natCast_nonneg p)
            have hcm : cnt [2, 1] (L2.take p) ≤ 12 := cnt_take_le _ _ hl2 HM.out.2
            by_cases hpm : p < m
            · have r3 : decide ((p : Int) < (m : Int)) = true := decide_eq_true (by omega)
              obtain ⟨z, hz⟩ : ∃ z, L2[p]? = some z := ⟨_, List.getElem?_eq_getElem (by omega)⟩
              have ea := Aside0.mk (show (st L2 (p : Int)).1 = z.1 from by rw [st_at hz])
              have eb := Aside0.mk (show (st L2 (p : Int)).2 = z.2 from by rw [st_at hz])
              have hcs := cnt_step hz [2, 1]
              have hok := HL2.out.2 z (List.mem_of_getElem? hz)
              have ca := HP.out.rs.cellA
              have cb := HP.out.rs.cellB
              have c0 := HP.out.rs.cell0 hz
              have c1 := HP.out.rs.cell1 hz
              obtain ⟨C, hC⟩ : ∃ C : Nat, C = cnt [2, 1] (L2.take p) := ⟨_, rfl⟩
              rw [Int.toNat_natCast, ← hC]
              rw [← hC] at hcs hcm
              have HCS := Aside0.mk hcs
              have hpl : p < L2.length := by omega
              have hlen : (L2.length : Int) = m := by omega
              rw [hl2] at ca cb
              obtain ⟨zs, zc⟩ := z
              simp only at c0 c1 hok HCS ea eb
              obtain ⟨p1, hp1, hw⟩ : ∃ p1 : Int, p1 = (p : Int) + 1 ∧ wrap64 ((p : Int) + 1) = p1 := ⟨_, rfl, wrap_k (p : Int) (by omega) (by omega)⟩
              obtain ⟨C1, hC1, hwc⟩ : ∃ C1 : Int, C1 = (C : Int) + 1 ∧ wrap64 ((C : Int) + 1) = C1 := ⟨_, rfl, wrap_small C hcm⟩
              have HP1 := Aside0.mk hp1
              have HC1' := Aside0.mk hC1
              have HKK := Aside0.mk hkk
              clear hz hcs hC hcm hke hl2 hlen hkn hk0 hp1 hC1 hkk
              go_wp2_with fail
              go_region
              all_goals
                rcases hok with rfl | rfl | rfl
                · have HP_n := Aside0.mk (HP.out.far (below_drew (Below.refl _ _)))
                  clear HP
                  have HP := HP_n
                  clear HP_n
                  go_wp2_with (first | (go_at_call 13; (with_reducible refine (pv_state _ _ HP.out ea.out).mono ?_); rintro e_1 w_1 ⟨rfl, hs⟩; have HP_n := Aside0.mk hs; clear HP; have HP := HP_n; clear HP_n hs) | (go_at_call 14; (with_reducible refine (pv_inc _ _ HP.out eb.out).mono ?_); rintro e_1 w_1 ⟨rfl, hs⟩; have HP_n := Aside0.mk hs; clear HP; have HP := HP_n; clear HP_n hs))
                  clear hw hwc
                  have hp1 := HP1.out
                  have hkk := HKK.out
                  go_roundg (m - p)
                  case measure => omega
                  case rel => exact ⟨p1, by rw [hp1], by omega, by omega, by rw [show p1.toNat = p + 1 by omega, HCS.out]; rfl, HP.out⟩
                · have HP_n := Aside0.mk (HP.out.far (below_drew (Below.refl _ _)))
                  clear HP
                  have HP := HP_n
                  clear HP_n
                  go_wp2_with (first | (go_at_call 13; (with_reducible refine (pv_state _ _ HP.out ea.out).mono ?_); rintro e_1 w_1 ⟨rfl, hs⟩; have HP_n := Aside0.mk hs; clear HP; have HP := HP_n; clear HP_n hs) | (go_at_call 14; (with_reducible refine (pv_inc _ _ HP.out eb.out).mono ?_); rintro e_1 w_1 ⟨rfl, hs⟩; have HP_n := Aside0.mk hs; clear HP; have HP := HP_n; clear HP_n hs))
                  clear hw hwc
                  have hp1 := HP1.out
                  have hkk := HKK.out
                  go_roundg (m - p)
                  case measure => omega
                  case rel => exact ⟨p1, by rw [hp1], by omega, by omega, by rw [show p1.toNat = p + 1 by omega, HCS.out]; exact congrArg (Value.int .i64) HC1'.out, HP.out⟩
                · have HP_n := Aside0.mk (HP.out.far (below_drew (Below.refl _ _)))
                  clear HP
                  have HP := HP_n
                  clear HP_n
                  go_wp2_with (first | (go_at_call 13; (with_reducible refine (pv_state _ _ HP.out ea.out).mono ?_); rintro e_1 w_1 ⟨rfl, hs⟩; have HP_n := Aside0.mk hs; clear HP; have HP := HP_n; clear HP_n hs) | (go_at_call 14; (with_reducible refine (pv_inc _ _ HP.out eb.out).mono ?_); rintro e_1 w_1 ⟨rfl, hs⟩; have HP_n := Aside0.mk hs; clear HP; have HP := HP_n; clear HP_n hs))
                  clear hw hwc
                  have hp1 := HP1.out
                  have hkk := HKK.out
                  go_roundg (m - p)
                  case measure => omega
                  case rel => exact ⟨p1, by rw [hp1], by omega, by omega, by rw [show p1.toNat = p + 1 by omega, HCS.out]; exact congrArg (Value.int .i64) HC1'.out, HP.out⟩
            · obtain rfl : p = m := by omega
              have r3 : decide ((p : Int) < (p : Int)) = false := decide_eq_false (by omega)
              have ea := Aside0.mk (show (st L2 (p : Int)).1 = 0 from by rw [st_end hl2])
              have eb := Aside0.mk (show (st L2 (p : Int)).2 = 0 from by rw [st_end hl2])
              have htk : L2.take (p + 1) = L2.take p := by rw [List.take_of_length_le (by omega), List.take_of_length_le (by omega)]
              have HTK := Aside0.mk htk
              obtain ⟨p1, hp1, hw⟩ : ∃ p1 : Int, p1 = (p : Int) + 1 ∧ wrap64 ((p : Int) + 1) = p1 := ⟨_, rfl, wrap_k (p : Int) (by omega) (by omega)⟩
              have HP1 := Aside0.mk hp1
              clear htk hl2 hke hcm hp1
              go_wp2_with (first | (go_at_call 13; (with_reducible refine (pv_state _ _ HP.out ea.out).mono ?_); rintro e_1 w_1 ⟨rfl, hs⟩; have HP_n := Aside0.mk hs; clear HP; have HP := HP_n; clear HP_n hs) | (go_at_call 14; (with_reducible refine (pv_inc _ _ HP.out eb.out).mono ?_); rintro e_1 w_1 ⟨rfl, hs⟩; have HP_n := Aside0.mk hs; clear HP; have HP := HP_n; clear HP_n hs))
              clear hw
              have hp1 := HP1.out
              go_roundg 0
              case measure => omega
              case rel => exact ⟨p1, by rw [hp1], by omega, by omega, by rw [show p1.toNat = p + 1 by omega, HTK.out], HP.out⟩
        · obtain rfl : k = m + 1 := by omega
          have r1 : decide ((m : Int) + 1 ≤ (m : Int)) = false := decide_eq_false (by omega)
          rw [show ((m : Int) + 1).toNat = m + 1 by omega, List.take_of_length_le (by omega)]
          obtain ⟨p1, p2, p3, p4, p5, p6⟩ := cnt_facts HL2.out.2
          have F1 := Aside0.mk (show (cnt [2, 1] L2 : Int) = (cnt [2, 1] L2 : Int) from rfl)
          have F2 := Aside0.mk (show (cnt [] L2 : Int) = 0 by omega)
          have F3 := Aside0.mk (show (cnt [0, 2, 1] L2 : Int) = (m : Int) by omega)
          have LM := Aside0.mk (show L2.length ≤ 1000 by omega)
          clear p1 p2 p3 p4 p5 p6 hl2 hke hkk hk0
          go_wp2_with (first | (go_at_call 16; (with_reducible refine (pv_few _ 2 2 [2, 1] _ (HP.out.far (below_alloc (Below.refl _ _) _)) (rd_lit2 _ 2 1) E3.out (by decide) (by decide) LM.out F1.out).mono ?_); rintro e_1 w_1 ⟨rfl, hs⟩; have HP_n := Aside0.mk hs; clear HP; have HP := HP_n; clear HP_n hs) | (go_at_call 16; (with_reducible refine (pv_few none 0 0 [] 0 HP.out (Rd.nil _) E4.out (by decide) (by decide) LM.out F2.out).mono ?_); rintro e_1 w_1 ⟨rfl, hs⟩; have HP_n := Aside0.mk hs; clear HP; have HP := HP_n; clear HP_n hs) | (go_at_call 16; (with_reducible refine (pv_few _ 3 3 [0, 2, 1] _ (HP.out.far (below_alloc (Below.refl _ _) _)) (rd_lit3 _ 0 2 1) E5.out (by decide) (by decide) LM.out F3.out).mono ?_); rintro e_1 w_1 ⟨rfl, hs⟩; have HP_n := Aside0.mk hs; clear HP; have HP := HP_n; clear HP_n hs))
          go_roundg (N - (i + 1))
          case measure => omega
          case rel => exact ⟨i + 1, L2, by go_num, by omega, HP.out, HL2.out.1, HL2.out.2⟩
    · obtain rfl : i = N := by omega
      have HS := Aside0.mk HP.out.sv
      clear HP
      by_cases k1 : i < n1
      · have t1 : decide ((i : Int) < (n1 : Int)) = true := decide_eq_true (by omega)
        by_cases k2 : i < n2
        · have t2 : decide ((i : Int) < (n2 : Int)) = true := decide_eq_true (by omega)
          have k3 : ¬ i < 80 := by omega
          have t3 : decide ((i : Int) < 80) = false := decide_eq_false (by omega)
          go_wp2_with (go_at_call 3; (with_reducible refine (runs_calls _).mono ?_); rintro e_1 w_1 ⟨rfl, hb⟩; have HB2 := Aside0.mk (below_then HS.out.below HS.out.below.size hb); clear hb)
          go_ret
          exact ⟨rfl, HB2.out⟩
        · have t2 : decide ((i : Int) < (n2 : Int)) = false := decide_eq_false (by omega)
          go_wp2_with (go_at_call 3; (with_reducible refine (runs_calls _).mono ?_); rintro e_1 w_1 ⟨rfl, hb⟩; have HB2 := Aside0.mk (below_then HS.out.below HS.out.below.size hb); clear hb)
          go_ret
          exact ⟨rfl, HB2.out⟩
      · have t1 : decide ((i : Int) < (n1 : Int)) = false := decide_eq_false (by omega)
        go_wp2_with (go_at_call 3; (with_reducible refine (runs_calls _).mono ?_); rintro e_1 w_1 ⟨rfl, hb⟩; have HB2 := Aside0.mk (below_then HS.out.below HS.out.below.size hb); clear hb)
        go_ret
        exact ⟨rfl, HB2.out⟩
theorem plays_calls (a0 : Int) (A1 : Option Addr) (n1 c1 : Nat) (l1 : List Int) (A2 : Option Addr) (n2 c2 : Nat) (l2 : List Int) (w : World) (hA1 : Arg icl w A1 n1 l1) (hA2 : Arg icl w A2 n2 l2) :
    Calls Try.prog 4 #[.int .i64 a0, .slice A1 n1 c1, .slice A2 n2 c2] w fun e w' => e = .returned (.bool true) ∧ Below w.heap.size w w' := by
  by_cases h : a0 < 1 ∨ 12 < a0
  · exact playno_calls a0 A1 n1 c1 l1 A2 n2 c2 l2 w hA1 hA2 h
  · obtain ⟨m, rfl⟩ := Int.eq_ofNat_of_zero_le (show 0 ≤ a0 by omega)
    exact playyes_calls m A1 n1 c1 l1 A2 n2 c2 l2 w hA1 hA2 (by omega) (by omega)
end Go.Proofs.Ytnfnbcbbiaheeaa.Vw
